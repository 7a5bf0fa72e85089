/- A small library on memory, over any program: what may have changed ('Only'), maps as association lists ('MapAt'), slices that are read ('RdS') and owned ('OwnS'), append onto an owned slice. -/
import Derived.WalkKit
import Derived.WalkLawsBesides
import Derived.Deep.AppendSrc
import Derived.Deep.Upon
import Derived.Deep.MidRow
import Derived.Lib.Hide
import Derived.Test.YtbdlbhlhnpblpaaGreatDoorRows
import Derived.Deep.QuietTactic
import Derived.BigQuiet
import Derived.StillTailTactics
import Derived.Deep.RegionHeld3
import Derived.Deep.RegionLaw
import Derived.Deep.AppendLies
import Derived.Outline
import Derived.KernelRfl
import Derived.Lib.VarintBits
import Derived.Lib.ConvBytes
import Derived.Lib.AtoiErrMem
import Derived.Lib.IfaceEq
import Derived.Test.YtbdlbhlhnpblpaaGreatDoorShelf
import Derived.Shelf.Strconv.ToError
import Derived.Shelf.Strconv.ToErrorRange
import Derived.Shelf.Strings.Prefix
import Derived.Test.YtbdlbhlhnpblpaaGreatDoorAm15
import Derived.Test.YtbdlbhlhnpblpaaGreatDoorAm9
import Derived.Shelf.SortM.Plain
import Derived.Shelf.SortM.SortNone
import Derived.Test.YtbdlbhlhnpblpaaGreatDoorProg
import Derived.ProofKit
import Derived.Deep.LoopGhost
import Derived.Lib.Walk
import Derived.Lib.SliceRun
import Derived.Test.YtbdlbhlhnpblpaaGreatDoorAm14
import Derived.Test.YtbdlbhlhnpblpaaGreatDoorFreeWalk
import Derived.Test.YtbdlbhlhnpblpaaGreatDoorNamesWalk
set_option linter.unusedVariables false
set_option linter.unusedSimpArgs false
set_option linter.unusedSectionVars false
namespace Go.Proofs.YtbdlbhlhnpblpaaGreatDoor.Hp
open Go Go.RowKit
theorem KA (a b:ByteArray):(a==b)=decide (a=b):=by
 cases a with | mk a=>
 cases b with | mk b=>
 rw[Bool.eq_iff_iff]
 constructor
 ·intro h
  have h2:(a==b)=true:=h
  simp at h2
  simp[h2]
 ·intro h
  simp at h
  subst h
  show (a==a)=true
  simp
theorem aaY (a b:ByteArray):(a.toList==b.toList)=decide (a=b):=by rw[<-beq_toListBytes,KA]
theorem MU (a b:ByteArray):a.toList=b.toList↔a=b:=by
 have:=aaY a b
 rw[Bool.eq_iff_iff] at this
 simpa using this
theorem ue {w:World}{a:Addr}{u v:Value}(h:w.cell? a=some u):(w.setCell a v).cell? a=some v:=World.cell?_setCell_same w a v h
theorem Ym {w:World}{a b:Addr}{v:Value}(h:a≠b):(w.setCell a v).cell? b=w.cell? b:=World.cell?_setCell_other w a b v h
structure cO (S:Nat->Prop)(w w':World):Prop where
 os:w'.os=w.os
 tape:w'.tape=w.tape
 output:w'.output=w.output
 size:w.heap.size<=w'.heap.size
 block:∀ k,k<w.heap.size->¬ S k->w'.heap[k]? = w.heap[k]?
theorem cO.refl (S:Nat->Prop)(w:World):cO S w w:=⟨rfl,rfl,rfl,zf _,fun _ _ _=>rfl⟩
theorem cO.trans {S T:Nat->Prop}{a b c:World}(h:cO S a b)(k:cO T b c)(hT:∀ x,x<a.heap.size->T x->S x):cO S a c:=
 ⟨k.os.trans h.os,k.tape.trans h.tape,k.output.trans h.output,abl h.size k.size,
  fun i hi hn=>(k.block i (aci hi h.size) (fun ht=>hn (hT i hi ht))).trans (h.block i hi hn)⟩
theorem cO.mono {S T:Nat->Prop}{a b:World}(h:cO S a b)(hS:∀ x,x<a.heap.size->S x->T x):cO T a b:=
 ⟨h.os,h.tape,h.output,h.size,fun i hi hn=>h.block i hi (fun hs=>hn (hS i hi hs))⟩
theorem cO.drew {S:Nat->Prop}{a w:World}(h:cO S a w):cO S a w.drew:=⟨h.os,h.tape,h.output,h.size,h.block⟩
theorem cO.alloc {S:Nat->Prop}{a w:World}(h:cO S a w)(o:Obj):cO S a (w.alloc o):=
 ⟨h.os,h.tape,h.output,by simp;have:=h.size;omega,fun i hi hn=>by
  rw[Below.heap_alloc w o i (aci hi h.size)];exact h.block i hi hn⟩
theorem cO.setCell {S:Nat->Prop}{a w:World}(h:cO S a w)(p:Addr)(hp:a.heap.size<=p.block\/S p.block)(u:Value):cO S a (w.setCell p u):=
 ⟨h.os,h.tape,h.output,by simpa using h.size,fun i hi hn=>by
  rw[Below.heap_setCell w p u i (fun e=>by subst e;rcases hp with hp | hp;omega;exact hn hp)];exact h.block i hi hn⟩
theorem cO.cell {S:Nat->Prop}{w w':World}(h:cO S w w'){p:Addr}(hp:p.block<w.heap.size)(hn:¬ S p.block):w'.cell? p=w.cell? p:=World.cell?_of_block (h.block p.block hp hn)
theorem cO.frozen {S:Nat->Prop}{w w':World}(h:cO S w w'){p:Addr}(hp:p.block<w.heap.size)(hn:¬ S p.block):w'.frozen? p=w.frozen? p:=World.frozen?_of_block (h.block p.block hp hn)
theorem cO.Oy {S:Nat->Prop}{w w':World}(h:cO S w w'){p:Addr}{v:Value}(hc:w.cell? p=some v)(hn:¬ S p.block):w'.cell? p=some v:=
 (h.cell (World.block_lt_of_cell? w p hc) hn).trans hc
theorem cO.below {S:Nat->Prop}{w w':World}(h:cO S w w')(B:Nat)(hB:B<=w.heap.size)(hS:∀ x,S x->B<=x):Below B w w':=
 ⟨h.os,h.tape,h.output,h.size,fun k hk=>h.block k (by omega) (fun hs=>by have:=hS k hs;omega)⟩
theorem cO.xj {w w':World}(h:Below w.heap.size w w')(S:Nat->Prop):cO S w w':=⟨h.os,h.tape,h.output,h.size,fun k hk _=>h.block k hk⟩
structure WG (P:Program)(kt:TypeId){κ:Type} [DecidableEq κ] (ek:κ->Value):Prop where
 check:∀ em k w,(Instr.checkKey em 10000 kt (ek k)).run P w = .ok () w
 find:∀ k (es:List MapEntry) (ks:List κ) w,es.map (·.key)=ks.map ek->
  (Instr.findKey kt (ek k) es).run P w = .ok ((ks.findIdx? (fun x=>decide (x=k))).bind fun i=>(es[i]?).map fun e=>(i,e.val)) w
 stays:∀ k w,(Instr.keyThatStays (ek k) (ek k)).run P w = .ok (ek k) w
section keys
variable {P:Program}{kt:TypeId}{κ:Type} [DecidableEq κ] {ek:κ->Value}
theorem aai (h:∀ a b w,(Op.equal kt (ek a) (ek b)).run P w = .ok (decide (a=b)) w)(k:κ):∀ (es:List MapEntry) (ks:List κ) (n:Nat) (w:World),es.map (·.key)=ks.map ek->
  (Instr.findAsking kt (ek k) es n).run P w = .ok ((ks.findIdx? (fun x=>decide (x=k))).bind fun i=>(es[i]?).map fun e=>(n+i,e.val)) w
 | [],ks,n,w,hk=>by
  have:ks=[]:=by simpa using hk.symm
  subst this
  simp[Instr.findAsking]
 | e::es,[],n,w,hk=>by simp at hk
 | e::es,x::ks,n,w,hk=>by
  simp only[abc,List.cons.injEq] at hk
  obtain⟨h1,h2⟩:=hk
  have ih:=aai h k es ks (n+1) w h2
  unfold Instr.findAsking
  simp only[Sem.run_bind,h1,h k x w,Result.andThen]
  by_cases hx:k=x
  ·subst hx
   simp[List.findIdx?_cons]
  ·have sL:¬ x=k:=fun e=>hx e.symm
   simp only[hx,decide_false,ih,List.findIdx?_cons,sL,abP,if_false]
   cases ks.findIdx? (fun x=>decide (x=k)) with
   | none=>simp
   | some j=>simp[Nat.add_comm,Nat.add_left_comm]
theorem WG.asked {d:TypeDesc}(hd:P.underlying kt=some d)(hc:∀ em k w,(Instr.checkKey em 10000 kt (ek k)).run P w = .ok () w)(hn:∀ a b,Instr.sameNow d (ek a) (ek b)=none)
  (h:∀ a b w,(Op.equal kt (ek a) (ek b)).run P w = .ok (decide (a=b)) w) (hs:∀ k,Instr.sameBits 10000 (ek k) (ek k)=true):WG P kt ek where
 check:=hc
 find:=fun k es ks w hk=>by
  cases es with
  | nil=>
   have:ks=[]:=by simpa using hk.symm
   subst this
   simp[Instr.findKey,run_underlying hd,Result.andThen,Instr.findNow]
  | cons e es=>
   cases ks with
   | nil=>simp at hk
   | cons x ks=>
    have h1:=aai h k (e::es) (x::ks) 0 w hk
    simp only[abc,List.cons.injEq] at hk
    simp only[wc] at h1
    simp[Instr.findKey,run_underlying hd,Result.andThen,Instr.findNow,hk.1,hn]
    simpa using h1
 stays:=fun k w=>by simp[Instr.keyThatStays,hs k]
end keys
section maps
variable {κ:Type} [DecidableEq κ]
def kU (ek:κ->Value)(w:World)(b:Nat)(m:List (κ × Value)):Prop:=
 ∃ es clock,w.heap[b]? = some (.map es clock)/\es.toList.map (fun e=>(e.key,e.val))=m.map (fun p=>(ek p.1,p.2))/\(m.map (·.1)).Nodup/\
  es.toList.Pairwise (fun x y=>x.born<y.born)/\∀ e∈es.toList,e.born<clock
theorem kU.lt {ek:κ->Value}{w:World}{b:Nat}{m:List (κ × Value)}(h:kU ek w b m):b<w.heap.size:=by
 obtain⟨es,clock,hb,_⟩:=h
 exact (abH.1 hb).1
theorem kU.kept {ek:κ->Value}{w w':World}{b:Nat}{m:List (κ × Value)}(h:kU ek w b m)(hb:w'.heap[b]? = w.heap[b]?):kU ek w' b m:=by
 obtain⟨es,clock,h1,h2⟩:=h
 exact⟨es,clock,hb.trans h1,h2⟩
theorem kU.only {ek:κ->Value}{S:Nat->Prop}{w w':World}{b:Nat}{m:List (κ × Value)}(h:kU ek w b m)(ho:cO S w w')(hn:¬ S b):kU ek w' b m:=
 h.kept (ho.block b h.lt hn)
theorem kU.drew {ek:κ->Value}{w:World}{b:Nat}{m:List (κ × Value)}(h:kU ek w b m):kU ek w.drew b m:=h
theorem kU.alloc {ek:κ->Value}{w:World}{b:Nat}{m:List (κ × Value)}(h:kU ek w b m)(o:Obj):kU ek (w.alloc o) b m:=h.kept (Below.heap_alloc w o b h.lt)
theorem kU.setCell {ek:κ->Value}{w:World}{b:Nat}{m:List (κ × Value)}(h:kU ek w b m)(p:Addr)(v:Value)(hp:b≠p.block):kU ek (w.setCell p v) b m:=h.kept (Below.heap_setCell w p v b hp)
theorem kU.made (ek:κ->Value)(w:World):kU ek (w.alloc (.map #[] 0)) w.heap.size []:=
 ⟨#[],0,heap_alloc_new w _,by simp,by simp,by simp,by simp⟩
section runs
variable {P:Program}{kt et mt:TypeId}{ek:κ->Value}
section ops
variable {ops:Array Oper}{rest:List Oper}{o:Oper}{a:Act}{w:World}{Q:Exit->Act->World->Prop}{Kc:Act->World->Prop}
end ops
end runs
end maps
def sY (w:World)(b o:Nat)(xs:List Value):Prop:=∀ j u,xs[j]? = some u->w.cell? ⟨b,o+j,none⟩=some u
def wQ (w:World)(b o n:Nat):Prop:=∀ j,j<n->(w.cell? ⟨b,o+j,none⟩).isSome=true/\w.frozen? ⟨b,o+j,none⟩=false
def lD (w:World)(sz:Nat)(v:Value)(n:Nat)(xs:List Value):Prop:=
 xs.length=n*sz/\∃ ad cap,v = .slice ad n cap/\n<=cap/\cap<=maxLen/\(0<n->∃ b off,ad=some ⟨b,off,none⟩/\b<w.heap.size/\sY w b off xs)
def kp (w:World)(sz:Nat)(v:Value)(n:Nat)(xs:List Value):Prop:=
 xs.length=n*sz/\((v = .slice none 0 0/\n=0)\/∃ b off cap,v = .slice (some ⟨b,off,none⟩) n cap/\n<=cap/\cap<=maxLen/\b<w.heap.size/\sY w b off xs/\wQ w b off (cap*sz))
theorem sY.only {S:Nat->Prop}{w w':World}{b o:Nat}{xs:List Value}(h:sY w b o xs)(ho:cO S w w')(hb:b<w.heap.size)(hn:¬ S b):sY w' b o xs:=
 fun j u hj=>(ho.cell (p:=⟨b,o+j,none⟩) hb hn).trans (h j u hj)
theorem wQ.only {S:Nat->Prop}{w w':World}{b o n:Nat}(h:wQ w b o n)(ho:cO S w w')(hb:b<w.heap.size)(hn:¬ S b):wQ w' b o n:=
 fun j hj=>by rw[ho.cell (p:=⟨b,o+j,none⟩) hb hn,ho.frozen (p:=⟨b,o+j,none⟩) hb hn];exact h j hj
theorem kp.drew {w:World}{sz:Nat}{v:Value}{n:Nat}{xs:List Value}(h:kp w sz v n xs):kp w.drew sz v n xs:=h
theorem lD.drew {w:World}{sz:Nat}{v:Value}{n:Nat}{xs:List Value}(h:lD w sz v n xs):lD w.drew sz v n xs:=h
theorem lD.only {S:Nat->Prop}{w w':World}{sz:Nat}{v:Value}{n:Nat}{xs:List Value}(h:lD w sz v n xs)(ho:cO S w w')(hn:∀ b,v.ownBlock=some b->¬ S b):lD w' sz v n xs:=by
 obtain⟨h1,ad,cap,rfl,h2,h3,h4⟩:=h
 refine⟨h1,ad,cap,rfl,h2,h3,fun h0 => ?_⟩
 obtain⟨b,off,rfl,hb,hc⟩:=h4 h0
 exact⟨b,off,rfl,aci hb ho.size,hc.only ho hb (hn b rfl)⟩
theorem kp.only {S:Nat->Prop}{w w':World}{sz:Nat}{v:Value}{n:Nat}{xs:List Value}(h:kp w sz v n xs)(ho:cO S w w')(hn:∀ b,v.ownBlock=some b->¬ S b):kp w' sz v n xs:=by
 refine⟨h.1,?_⟩
 rcases h.2 with h | ⟨b,off,cap,rfl,h2,h3,h4,h5,h6⟩
 ·exact .inl h
 ·exact .inr ⟨b,off,cap,rfl,h2,h3,aci h4 ho.size,h5.only ho h4 (hn b rfl),h6.only ho h4 (hn b rfl)⟩
theorem kp.alloc {w:World}{sz:Nat}{v:Value}{n:Nat}{xs:List Value}(h:kp w sz v n xs)(o:Obj):kp (w.alloc o) sz v n xs:=h.only ((cO.refl (fun _=>False) w).alloc o) (fun _ _ h=>h)
theorem lD.alloc {w:World}{sz:Nat}{v:Value}{n:Nat}{xs:List Value}(h:lD w sz v n xs)(o:Obj):lD (w.alloc o) sz v n xs:=h.only ((cO.refl (fun _=>False) w).alloc o) (fun _ _ h=>h)
theorem kp.lt {w:World}{sz:Nat}{v:Value}{n:Nat}{xs:List Value}(h:kp w sz v n xs):∀ b,v.ownBlock=some b->b<w.heap.size:=by
 intro b hb
 rcases h.2 with⟨rfl,_⟩ | ⟨b',off,cap,rfl,_,_,h4,_⟩
 ·simp[Value.ownBlock] at hb
 ·simp[Value.ownBlock] at hb;subst hb;exact h4
theorem kp.nil (w:World)(sz:Nat):kp w sz (.slice none 0 0) 0 []:=⟨by simp,.inl ⟨rfl,rfl⟩⟩
theorem lD.nil (w:World)(sz:Nat):lD w sz (.slice none 0 0) 0 []:=⟨by simp,none,0,rfl,zf _,ack _,fun h=>by omega⟩
theorem kp.form {w:World}{sz:Nat}{v:Value}{n:Nat}{xs:List Value}(h:kp w sz v n xs)(hn:0<n) :
  ∃ b off cap,v = .slice (some ⟨b,off,none⟩) n cap/\n<=cap/\cap<=maxLen/\b<w.heap.size/\sY w b off xs/\wQ w b off (cap*sz):=by
 rcases h.2 with⟨_,h0⟩ | h
 ·omega
 ·exact h
theorem lD.form {w:World}{sz:Nat}{v:Value}{n:Nat}{xs:List Value}(h:lD w sz v n xs)(hn:0<n) :
  ∃ b off cap,v = .slice (some ⟨b,off,none⟩) n cap/\n<=cap/\cap<=maxLen/\b<w.heap.size/\sY w b off xs:=by
 obtain⟨h1,ad,cap,rfl,h2,h3,h4⟩:=h
 obtain⟨b,off,rfl,hb,hc⟩:=h4 hn
 exact⟨b,off,cap,rfl,h2,h3,hb,hc⟩
theorem lD.val {w:World}{sz:Nat}{v:Value}{n:Nat}{xs:List Value}(h:lD w sz v n xs):∃ ad cap,v = .slice ad n cap/\n<=cap/\cap<=maxLen:=by
 obtain⟨h1,ad,cap,rfl,h2,h3,h4⟩:=h
 exact⟨ad,cap,rfl,h2,h3⟩
theorem kp.tail {w:World}{sz b off n cap:Nat}{xs:List Value}(h:kp w sz (.slice (some ⟨b,off,none⟩) (n+1) cap) (n+1) xs) :
  kp w sz (.slice (some ⟨b,if cap=1 then off else off+sz,none⟩) n (cap-1)) n (xs.drop sz):=by
 refine⟨by rw[adi,h.1,Nat.succ_mul];omega,?_⟩
 rcases h.2 with⟨h0,_⟩ | ⟨b',an9,na,h1,h2,h3,h4,h5,h6⟩
 ·cases h0
 ·cases h1
  refine .inr ⟨b,_,cap-1,rfl,by omega,by omega,h4,?_,?_⟩
  ·by_cases e:cap=1
   ·have hn:n=0:=by omega
    subst hn
    have:xs.drop sz=[]:=by rw[List.drop_eq_nil_iff,h.1];omega
    rw[this]
    intro j u hj
    simp at hj
   ·rw[if_neg e]
    intro j u hj
    rw[acL] at hj
    have:=h5 _ u hj
    rwa[<-aeh] at this
  ·by_cases e:cap=1
   ·subst e
    intro j hj
    simp at hj
   ·rw[if_neg e]
    intro j hj
    have hle:sz+j<cap*sz:=by
     have:(cap-1)*sz+sz=cap*sz:=by rw[<-Nat.succ_mul];congr 1;omega
     omega
    have:=h6 (sz+j) hle
    rwa[<-aeh] at this
theorem addr_add (b off j:Nat):(⟨b,off,none⟩:Addr).add j=⟨b,off+j,none⟩:=by unfold Addr.add;split<;>simp_all
theorem adG (w:World)(c:Array Value)(t:TypeId)(n i:Nat)(h:n=w.heap.size):(w.alloc (.cells c t)).frozen? ⟨n,i,none⟩=false:=by
 subst h;simp
theorem lD.src {P:Program}{w:World}{sz:Nat}{v:Value}{n:Nat}{xs:List Value}(h:lD w sz v n xs){tx e':TypeId}(hk:P.underlying tx=some (.slice e'))(h1:∀ u∈xs,u.oneCell'=true):Src P sz tx v n xs w:=by
 obtain⟨hl,ad,cap,rfl,h2,h3,h4⟩:=h
 rcases Nat.eq_zero_or_pos n with rfl | hn
 ·have:xs=[]:=ae7 (by simpa using hl)
  subst this
  cases ad with
  | none=>exact Src.ofNil w hk cap
  | some a=>exact Src.ofSlice w hk a 0 cap [] (by simp) (fun j u hj=>by simp at hj) h1
 ·obtain⟨b,off,rfl,hb,hc⟩:=h4 hn
  exact Src.ofSlice w hk ⟨b,off,none⟩ n cap xs hl (fun j u hj=>by rw[addr_add];exact hc j u hj) h1
theorem kp.empty (w:World)(sz:Nat)(b:Nat)(h:b<w.heap.size):kp w sz (.slice (some ⟨b,0,none⟩) 0 0) 0 []:=
 ⟨by simp,.inr ⟨b,0,0,rfl,zf _,ack _,h,fun j u hj=>by simp at hj,fun j hj=>by simp at hj⟩⟩
section appendOps
variable {P:Program}{ops:Array Oper}{rest:List Oper}{o:Oper}{a:Act}{w:World}{Q:Exit->Act->World->Prop}{Kc:Act->World->Prop}
end appendOps
end Go.Proofs.YtbdlbhlhnpblpaaGreatDoor.Hp
set_option linter.unusedVariables false
namespace Go.Proofs.YtbdlbhlhnpblpaaGreatDoor.Hp
open Go Go.RowKit
def tm (l:List UInt8):List Value:=l.map fun b => .int .u8 b.toNat
theorem Uo (l:List UInt8):(tm l).length=l.length:=by simp[tm]
theorem ajr {P:Program}{w:World}(src dst e:TypeId)(hs:P.underlying src=some (.slice e))(he:P.underlying e=some (.int .u8))(hd:P.underlying dst=some .string){v:Value}{n:Nat}{l:List UInt8}(h:lD w 1 v n (tm l)) :
  (convert src dst v).run P w = .ok (.string ⟨l.toArray⟩) w:=by
 obtain⟨hl,ad,cap,rfl,h2,h3,h4⟩:=h
 rw[Uo,adO] at hl
 rcases Nat.eq_zero_or_pos n with h0 | hn
 ·subst h0
  have:l=[]:=ae7 hl
  subst this
  cases ad with
  | none=>exact run_convert_bytes_nil (P:=P) (w:=w) src e hs he 0 cap dst hd
  | some a=>exact run_convert_bytes_back w src dst e a cap [] hs he hd (fun j hj=>by simp at hj)
 ·obtain⟨b,off,rfl,hb,hc⟩:=h4 hn
  rw[<-hl]
  refine run_convert_bytes_back w src dst e ⟨b,off,none⟩ cap l hs he hd (fun j hj => ?_)
  rw[addr_add]
  exact hc j _ (by simp[tm,hj])
end Go.Proofs.YtbdlbhlhnpblpaaGreatDoor.Hp
set_option linter.unusedVariables false
set_option linter.unusedSimpArgs false
namespace Go.Proofs.YtbdlbhlhnpblpaaGreatDoor.Sg
def hd (n:Nat):UInt8:=UInt8.ofNat (if n<10 then 48+n else 87+n)
def pad:Nat->Nat->List UInt8
 | 0,_=>[]
 | k+1,n=>pad k (n / 16)++[hd (n % 16)]
def nm (n:Nat):List UInt8:=119::45::pad 12 n
theorem BH:∀ (k n:Nat),(pad k n).length=k
 | 0,_=>rfl
 | k+1,n=>by simp[pad,BH k]
theorem aeQ (n:Nat):(nm n).length=14:=by simp[nm,BH]
theorem NL:∀ (j n:Nat),pad (j+1) n=hd (n / 16 ^ j % 16)::pad j n
 | 0,n=>by simp[pad]
 | j+1,n=>by
  have h:=NL j (n / 16)
  have C8:n / 16 / 16 ^ j=n / 16 ^ (j+1):=by
   rw[Nat.div_div_eq_div_mul,agk,ahs]
  calc pad (j+2) n=pad (j+1) (n / 16)++[hd (n % 16)]:=rfl
   _=(hd (n / 16 / 16 ^ j % 16)::pad j (n / 16))++[hd (n % 16)]:=by rw[h]
   _=hd (n / 16 ^ (j+1) % 16)::pad (j+1) n:=by rw[C8];rfl
theorem Xb:∀ (k:Nat),pad k 0=List.replicate k 48
 | 0=>rfl
 | k+1=>by
  rw[List.replicate_succ',<-Xb k]
  rfl
theorem aae:∀ (m k n:Nat),n<16 ^ m->pad (m+k) n=List.replicate k 48++pad m n
 | 0,k,n,h=>by
  have:n=0:=by simpa using h
  subst this
  simp[Xb,pad]
 | m+1,k,n,h=>by
  have h2:n / 16<16 ^ m:=by
   rw[Nat.div_lt_iff_lt_mul (by omega)]
   rw[agk] at h
   exact h
  have:=aae m k (n / 16) h2
  rw[show m+1+k=(m+k)+1 by omega]
  show pad (m+k) (n / 16)++[hd (n % 16)]=List.replicate k 48++(pad m (n / 16)++[hd (n % 16)])
  rw[this,adf]
def Lc (c:UInt8):Option Nat:=
 if 97<=c.toNat then (if c.toNat<=102 then some (c.toNat-87) else none)
 else if 48<=c.toNat/\c.toNat<=63 then some (c.toNat-48) else none
def dec (m:Nat):List UInt8->Option Nat
 | []=>some m
 | c::cs=>match Lc c with
  | none=>none
  | some d=>dec (m*16+d) cs
theorem aak:∀ (a b:List UInt8) (m:Nat),dec m (a++b)=(dec m a).bind (fun x=>dec x b)
 | [],b,m=>by simp[dec]
 | c::cs,b,m=>by
  simp only[aew,dec]
  cases Lc c with
  | none=>rfl
  | some d=>exact aak cs b _
theorem afa (d:Nat)(h:d<16):Lc (hd d)=some d:=by
 have k:∀ d:Fin 16,Lc (hd d)=some (d:Nat):=by decide
 exact k ⟨d,h⟩
theorem Zu (n k:Nat):n / 16 % 16 ^ k*16+n % 16=n % 16 ^ (k+1):=by
 have h1:n % 16 ^ (k+1)=n % (16*16 ^ k):=by rw[agk,ahs]
 rw[h1,Nat.mod_mul]
 omega
theorem ZK:∀ (k n m:Nat),dec m (pad k n)=some (m*16 ^ k+n % 16 ^ k)
 | 0,n,m=>by simp[pad,dec,Nat.mod_one]
 | k+1,n,m=>by
  show dec m (pad k (n / 16)++[hd (n % 16)])=_
  rw[aak,ZK k (n / 16) m]
  simp only[ach,dec,afa (n % 16) (by omega)]
  rw[<-Zu,agk]
  congr 1
  have:m*(16 ^ k*16)=m*16 ^ k*16:=by rw[Nat.mul_assoc]
  omega
def sp (l:List UInt8):Nat × Bool:=
 if l.length=14 then
  match dec 0 (l.drop 2) with
  | none=>(0,false)
  | some n=>if n<2 ^ 44/\nm n=l then (n,true) else (0,false)
 else (0,false)
theorem Xc (n:Nat)(h:n<2 ^ 44):sp (nm n)=(n,true):=by
 have h2:(nm n).drop 2=pad 12 n:=rfl
 have h3:n % 16 ^ 12=n:=afA (by omega)
 rw[sp,if_pos (aeQ n),h2,ZK]
 simp only[aeT,wc,h3]
 simp[h]
theorem ahc (l:List UInt8)(h:∀ n,n<2 ^ 44->nm n≠l):sp l=(0,false):=by
 rw[sp]
 split
 ·split
  ·rfl
  ·rename_i n _
   rw[if_neg (fun k=>h n k.1 k.2)]
 ·rfl
def lo (c:UInt8):Nat:=c.toNat ||| 32
def dl (c:UInt8):Option Nat:=
 if 48<=c.toNat/\c.toNat<=57 then some (c.toNat-48)
 else if 97<=lo c/\lo c<=122 then some (lo c-87) else none
def fV (m:Nat):List UInt8->Nat × Nat
 | []=>(m,0)
 | c::cs=>match dl c with
  | none=>(0,2)
  | some d=>if 16<=d then (0,2) else if 2 ^ 60<=m then (2 ^ 64-1,1) else fV (m*16+d) cs
theorem afF (d:Nat)(h:d<16):dl (hd d)=some d:=by
 have k:∀ d:Fin 16,dl (hd d)=some (d:Nat):=by decide
 exact k ⟨d,h⟩
theorem Y8:∀ (a b:List UInt8) (m x:Nat),fV m a=(x,0)->fV m (a++b)=fV x b
 | [],b,m,x,h=>by
  simp only[fV,abI] at h
  rw[<-h.1];rfl
 | c::cs,b,m,x,h=>by
  simp only[aew,fV] at h ⊢
  revert h
  cases dl c with
  | none=>intro h;simp at h
  | some d=>
   simp only
   split
   ·intro h;simp at h
   ·split
    ·intro h;simp at h
    ·intro h;exact Y8 cs b _ x h
theorem UU:∀ (k n m:Nat),(m+1)*16 ^ k<=2 ^ 60->fV m (pad k n)=(m*16 ^ k+n % 16 ^ k,0)
 | 0,n,m,h=>by simp[pad,fV,Nat.mod_one]
 | k+1,n,m,h=>by
  have hp:(m+1)*16 ^ k*16<=2 ^ 60:=by rw[agk,<-Nat.mul_assoc] at h;exact h
  have h2:=UU k (n / 16) m (by omega)
  show fV m (pad k (n / 16)++[hd (n % 16)])=_
  rw[Y8 _ _ _ _ h2]
  have hb:n / 16 % 16 ^ k<16 ^ k:=ag2 _ (Nat.pow_pos (by omega))
  have he:(m+1)*16 ^ k=m*16 ^ k+16 ^ k:=by rw[adC,ag0]
  simp only[fV,afF (n % 16) (by omega)]
  rw[if_neg (by omega),if_neg (by omega),<-Zu,agk]
  congr 1
  have:m*(16 ^ k*16)=m*16 ^ k*16:=by rw[Nat.mul_assoc]
  omega
theorem Xh (l:List UInt8)(m:Nat):(fV m l).2=0\/(fV m l=(2 ^ 64-1,1))\/(fV m l=(0,2)):=by
 induction l generalizing m with
 | nil=>exact .inl rfl
 | cons c cs ih=>
  simp only[fV]
  split
  ·exact .inr (.inr rfl)
  ·split
   ·exact .inr (.inr rfl)
   ·split
    ·exact .inr (.inl rfl)
    ·exact ih _
theorem adX (l:List UInt8)(m:Nat)(h:m<2 ^ 64):(fV m l).1<2 ^ 64:=by
 induction l generalizing m with
 | nil=>exact h
 | cons c cs ih=>
  simp only[fV]
  split
  ·show 0<2 ^ 64;omega
  ·split
   ·show 0<2 ^ 64;omega
   ·split
    ·show 2 ^ 64-1<2 ^ 64;omega
    ·exact ih _ (by omega)
end Go.Proofs.YtbdlbhlhnpblpaaGreatDoor.Sg
set_option linter.unusedVariables false
set_option linter.unusedSimpArgs false
namespace Go.Proofs.YtbdlbhlhnpblpaaGreatDoor.mH
open Go.RowKit Hp Sg
set_option maxRecDepth 100000 in
theorem tz (w:World)(h:w.cell? ⟨7,15,none⟩=some (.int .u8 4)) :
  Calls Tryz.prog 142 #[.int .u64 16] w fun e w'=>e = .returned (.int .i64 4)/\w'=w:=by
 have h0:IntKind.u64.wrap (bits BinOp.and IntKind.u64 16 (IntKind.u64.wrap (-16))*285870213051353865) / 288230376151711744=15:=by kernel_rfl
 go_enter Tryz.func142,Tryz.ntmps142
 go_wp2
 go_ret
 exact⟨rfl,rfl⟩
theorem pw2 (w:World) :
  Calls Tryz.prog 141 #[.int .i64 16] w fun e w'=>e = .returned (.bool true)/\w'=w:=by
 go_enter Tryz.func141,Tryz.ntmps141
 go_wp2
 go_ret
 exact⟨by kernel_rfl,rfl⟩
theorem aer (k:Nat)(h1:2<=k)(h2:k<12)(w:World) :
  Calls Tryz.prog 75 #[.int .u64 1,.int .u64 k] w fun e w'=>e = .returned (.tuple #[.int .u64 0,.int .u64 k])/\w'=w:=by
 obtain rfl | rfl | rfl | rfl | rfl | rfl | rfl | rfl | rfl | rfl:k=2\/k=3\/k=4\/k=5\/k=6\/k=7\/k=8\/k=9\/k=10\/k=11:=by omega
 all_goals
  go_enter Tryz.func75,Tryz.ntmps75
  go_wp2
  go_ret2
  exact⟨by kernel_rfl,rfl⟩
theorem sI (s:ByteArray)(b:Bool)(h1:1<=s.size)(h:((s.extract 0 1).toList==[48])=b)(w:World) :
  Calls Tryz.prog 76 #[.string s,.string ⟨#[48]⟩] w fun e w'=>e = .returned (.bool b)/\w'=w:=by
 have g1:(1:Int)<=(s.size:Int):=by omega
 go_enter Tryz.func76,Tryz.ntmps76
 go_wp2
 go_ret
 exact⟨by simp[h],rfl⟩
set_option maxRecDepth 100000 in
theorem rep (k:Nat)(h1:1<=k)(h2:k<12)(w:World) :
  Calls Tryz.prog 62 #[.string ⟨#[48]⟩,.int .i64 k] w fun e w'=>e = .returned (.string ⟨(List.replicate k 48).toArray⟩)/\w'=w:=by
 by_cases hk:k=1
 ·subst hk
  go_enter Tryz.func62,Tryz.ntmps62
  go_wp2
  go_ret
  exact⟨rfl,rfl⟩
 ·have t0:((k:Int)==0)=false:=by simp;omega
  have t1:((k:Int)==1)=false:=by simp;omega
  have t2:¬ ((k:Int)<0):=by omega
  have t3:¬ (9223372036854775807<(k:Int)):=by omega
  have t4:(k:Int)<=128:=by omega
  have t5:(k:Int)<=64:=by omega
  have t6:IntKind.u64.wrap (k:Int)=k:=IntWalk.u64_in _ (by omega)
  have t7:IntKind.i64.wrap (k:Int)=k:=IntWalk.i64_in _ (by omega)
  go_enter Tryz.func62,Tryz.ntmps62
  go_wp2_with fail
  refine (aer k (by omega) h2 _).mono ?_
  rintro e w' ⟨rfl,rfl⟩
  go_wp2_with fail
  refine (sI _ false (by decide) (by kernel_rfl) _).mono ?_
  rintro e w' ⟨rfl,rfl⟩
  go_wp2_with fail
  refine (sI _ false (by decide) (by kernel_rfl) _).mono ?_
  rintro e w' ⟨rfl,rfl⟩
  go_wp2_with fail
  refine (sI _ true (by decide) (by kernel_rfl) _).mono ?_
  rintro e w' ⟨rfl,rfl⟩
  go_wp2_with fail
  go_ret
  refine⟨?_,rfl⟩
  obtain rfl | rfl | rfl | rfl | rfl | rfl | rfl | rfl | rfl | rfl:k=2\/k=3\/k=4\/k=5\/k=6\/k=7\/k=8\/k=9\/k=10\/k=11:=by omega
  all_goals kernel_rfl
end Go.Proofs.YtbdlbhlhnpblpaaGreatDoor.mH
set_option linter.unusedVariables false
set_option linter.unusedSimpArgs false
namespace Go.Proofs.YtbdlbhlhnpblpaaGreatDoor.mH
open Go.RowKit Hp Sg
theorem ah8 (u:Nat)(hu:u<2 ^ 64):bits BinOp.and IntKind.u64 (u:Int) 15=((u % 16:Nat):Int):=by
 have h:=bits_mask .u64 64 (by decide) wraps_u64 4 (by decide) (u:Int) (by omega) (by omega)
 simpa using h
theorem aa9 (u:Nat)(h:u<16):u<(ByteArray.mk #[48,49,50,51,52,53,54,55,56,57,97,98,99,100,101,102,103,104,105,106,107,108,109,110,111,112,113,114,115,116,117,118,119,120,121,122]).size:=by
 show u<36
 omega
theorem Gs (u:Nat)(h:u<16):((ByteArray.mk #[48,49,50,51,52,53,54,55,56,57,97,98,99,100,101,102,103,104,105,106,107,108,109,110,111,112,113,114,115,116,117,118,119,120,121,122])[u]'(aa9 u h)).toNat=(hd u).toNat:=by
 have k:∀ u:Fin 16,((ByteArray.mk #[48,49,50,51,52,53,54,55,56,57,97,98,99,100,101,102,103,104,105,106,107,108,109,110,111,112,113,114,115,116,117,118,119,120,121,122])[u.val]'(aa9 u u.isLt)).toNat=(hd u.val).toNat:=by decide
 exact k ⟨u,h⟩
theorem ajC:Tryz.prog.arrayLen 198=65:=by kernel_rfl
theorem alj:Tryz.prog.underlying 198=some (.array (Tryz.prog.arrayLen 198) (Tryz.prog.elem 198)):=by kernel_rfl
theorem Uq {wr:World}{b m:Nat}{l:List UInt8}{c:UInt8}{x:Value}(hx:x = .int .u8 c.toNat)(h:sY wr b (m+1) (tm l))(hs:(wr.cell? ⟨b,m,none⟩).isSome=true) :
  sY (wr.setCell ⟨b,m,none⟩ x) b m (tm (c::l)):=by
 subst hx
 intro j u hj
 cases j with
 | zero=>
  simp[tm] at hj
  subst hj
  obtain⟨v,hv⟩:=acV.1 hs
  exact ue hv
 | succ j=>
  have h2:=h j u (by simpa[tm] using hj)
  rw[Ym (by simp)]
  rw[show m+(j+1)=m+1+j by omega]
  exact h2
theorem afo {wr:World}{b n:Nat}{a:Addr}{x:Value}(h:wQ wr b 0 n):wQ (wr.setCell a x) b 0 n:=by
 intro j hj
 obtain⟨h1,h2⟩:=h j hj
 refine⟨?_,?_⟩
 ·by_cases e:a=⟨b,0+j,none⟩
  ·subst e
   obtain⟨v,hv⟩:=acV.1 h1
   rw[ue hv];rfl
  ·rw[Ym e];exact h1
 ·rw[World.frozen?_setCell];exact h2
set_option maxRecDepth 100000 in
set_option maxHeartbeats 1600000 in
theorem aj0 (n:Nat)(hn:n<16 ^ 11)(w:World)(h:w.cell? ⟨7,15,none⟩=some (.int .u8 4)) :
  Calls Tryz.prog 109 #[.slice none 0 0,.int .u64 n,.int .i64 16,.bool false,.bool false] w
   fun e w'=>∃ m,1<=m/\m<=11/\n<16 ^ m/\e = .returned (.tuple #[.slice none 0 0,.string ⟨(pad m n).toArray⟩])/\cO (fun _=>False) w w':=by
 have bW:7<w.heap.size:=World.block_lt_of_cell? w _ h
 go_enter Tryz.func109,Tryz.ntmps109
 go_wp2_with fail
 refine (pw2 _).mono ?_
 rintro e w1 ⟨rfl,rfl⟩
 go_wp2_with fail
 refine (tz _ (by rw[World.cell?_of_block (Below.heap_alloc w _ _ bW)];exact h)).mono ?_
 rintro e w1 ⟨rfl,rfl⟩
 go_wp2_with fail
 go_loopw [1,13] (fun u i wr=>∃ m j:Nat,m+j=65/\j<=10/\i = .int .i64 (m:Int)/\u = .int .u64 ((n / 16 ^ j:Nat):Int)/\Hid (sY wr w.heap.size m (tm (pad j n)))/\Hid (wQ wr w.heap.size 0 65)/\Hid (cO (fun _=>False) w wr)/\w.heap.size<wr.heap.size) (fun _ i _=>(intOf i).toNat)
 case atStart=>
  refine⟨65,0,rfl,by omega,rfl,by simp,Lib.hid (fun j u hu=>by simp[tm,pad] at hu),Lib.hid ?_,Lib.hid ((cO.refl _ _).alloc _),by simp⟩
  intro j hj
  rw[wc]
  refine⟨?_,adG _ _ _ _ _ rfl⟩
  rw[World.cell?_alloc_new]
  have:∀ j:Fin 65,(Tryz.zeroCells198[j.val]?).isSome=true:=by decide
  exact this ⟨j,hj⟩
 case round=>
  obtain⟨m,j,hmj,hj,rfl,rfl,hc,hf,ho,hb⟩:=hrel
  have hu:n / 16 ^ j<2 ^ 64:=Nat.lt_of_le_of_lt (Nat.div_le_self _ _) (by omega)
  have yD:n / 16 ^ (j+1)=n / 16 ^ j / 16:=by rw[agk,Nat.div_div_eq_div_mul]
  have Mr:=NL j n
  have mY:n / 16 ^ j<16->n<16 ^ (j+1):=fun bW=>by
   rw[agk,ahs]
   exact (Nat.div_lt_iff_lt_mul (Nat.pow_pos (by omega))).1 bW
  have WK:16<=n / 16 ^ j->j+1<=10:=fun dR=>by
   refine Classical.byContradiction fun ank => ?_
   have:j=10:=by omega
   subst this
   have:n / 16 ^ 10<16:=(Nat.div_lt_iff_lt_mul (Nat.pow_pos (by omega))).2 (by rw[<-Nat.pow_succ'];exact hn)
   omega
  generalize huu:n / 16 ^ j=u at hu yD Mr mY WK
  have Hnj:=Lib.hid yD
  have YA:=Lib.hid Mr
  have Huu:=Lib.hid huu
  clear yD Mr huu
  obtain⟨m,rfl⟩:∃ k,m=k+1:=⟨m-1,by omega⟩
  have hand:bits BinOp.and IntKind.u64 (u:Int) 15=((u % 16:Nat):Int):=ah8 u hu
  obtain⟨nO,B6⟩:=hf.out m (by omega)
  rw[wc] at nO B6
  have Xq:=Lib.hid nO
  obtain⟨v0,XA⟩:=acV.1 nO
  clear nO
  have hd1:(0:Int)<=((u % 16:Nat):Int):=by omega
  have C8:((u % 16:Nat):Int)<36:=by omega
  by_cases dR:16<=u
  ·have afC:(16:Int)<=(u:Int):=by omega
   have oD:=Gs (u % 16) (by omega)
   go_wp2
   refine⟨⟨m,j+1,by omega,WK dR,rfl,?_,Lib.hid ?_,Lib.hid (afo hf.out),Lib.hid (ho.out.setCell _ (.inl (zf _)) _),by simpa using hb⟩,?_⟩
   ·rw[Hnj.out]
    simp
   ·rw[YA.out]
    exact Uq (by simp[oD]) hc.out Xq.out
   ·simp[intOf]
  ·have afC:¬ (16:Int)<=(u:Int):=by omega
   have oD:=Gs u (by omega)
   have mN:∀ W,(Instr.sliceAt 198 (.pointer (some ⟨w.heap.size,0,none⟩)) (some (.int .i64 (m:Int))) none none).run Tryz.prog W = .ok (.slice (some ⟨w.heap.size,m,none⟩) (65-m) (65-m)) W:=fun W=>by
    rw[run_sliceAt_array_l W 198 ⟨w.heap.size,0,none⟩ alj .i64 (m:Int) (by omega) (by rw[ajC];omega)]
    go_simp
    omega
   have dP:sY (wr.setCell ⟨w.heap.size,m,none⟩ (.int .u8 ((hd u).toNat:Int))) w.heap.size m (tm (pad (j+1) n)):=by
    rw[YA.out,afA (by omega)]
    exact Uq rfl hc.out Xq.out
   have tA:(convert 28 9 (.slice (some ⟨w.heap.size,m,none⟩) (65-m) (65-m))).run Tryz.prog (wr.setCell ⟨w.heap.size,m,none⟩ (.int .u8 ((hd u).toNat:Int))) = .ok (.string ⟨(pad (j+1) n).toArray⟩) (wr.setCell ⟨w.heap.size,m,none⟩ (.int .u8 ((hd u).toNat:Int))):=
    ajr 28 9 5 Tryz.underlying28 Tryz.underlying5 Tryz.underlying9 ⟨by rw[Uo,BH];omega,some ⟨w.heap.size,m,none⟩,65-m,rfl,zf _,by simp[maxLen];omega,fun _=>⟨_,_,rfl,by simpa using hb,dP⟩⟩
   go_wp2
   go_ret2
   exact⟨j+1,by omega,by omega,mY (by omega),rfl,ho.out.setCell _ (.inl (zf _)) _⟩
theorem akm (n:Nat)(hn:n<16 ^ 11)(w:World)(h:w.cell? ⟨7,15,none⟩=some (.int .u8 4)) :
  Calls Tryz.prog 61 #[.int .i64 n,.int .i64 16] w
   fun e w'=>∃ m,1<=m/\m<=11/\n<16 ^ m/\e = .returned (.string ⟨(pad m n).toArray⟩)/\cO (fun _=>False) w w':=by
 have h0:¬ ((n:Int)<0):=by omega
 have h1:IntKind.u64.wrap (n:Int)=n:=IntWalk.u64_in _ (by omega)
 have inner:Calls Tryz.prog 74 #[.int .i64 n,.int .i64 16] w
   fun e w'=>∃ m,1<=m/\m<=11/\n<16 ^ m/\e = .returned (.string ⟨(pad m n).toArray⟩)/\cO (fun _=>False) w w':=by
  go_enter Tryz.func74,Tryz.ntmps74
  go_wp2_with fail
  refine (aj0 n hn w h).mono ?_
  rintro e w1 ⟨m,m1,m2,m3,rfl,ho⟩
  have H1:=Lib.hid m3
  have H2:=Lib.hid ho
  clear m3 ho
  go_wp2_with fail
  go_ret
  exact⟨m,m1,m2,H1.out,rfl,H2.out⟩
 go_enter Tryz.func61,Tryz.ntmps61
 go_wp2_with fail
 refine inner.mono ?_
 rintro e w1 ⟨m,m1,m2,m3,rfl,ho⟩
 have H1:=Lib.hid m3
 have H2:=Lib.hid ho
 clear m3 ho
 go_wp2_with fail
 go_ret
 exact⟨m,m1,m2,H1.out,rfl,H2.out⟩
set_option maxRecDepth 100000 in
theorem Vf (n:Nat)(hn:n<2 ^ 44)(w:World)(h:w.cell? ⟨7,15,none⟩=some (.int .u8 4)) :
  Calls Tryz.prog 46 #[.int .i64 n] w
   fun e w'=>e = .returned (.tuple #[.string ⟨(nm n).toArray⟩,.bool true])/\cO (fun _=>False) w w':=by
 have h0:¬ ((n:Int)<0):=by omega
 have h1:¬ (17592186044415<(n:Int)):=by omega
 go_enter Tryz.func46,Tryz.ntmps46
 go_wp2_with fail
 refine (akm n (by omega) w h).mono ?_
 rintro e w1 ⟨m,m1,m2,m3,rfl,ho⟩
 have H1:=Lib.hid m3
 have H2:=Lib.hid ho
 clear m3 ho
 have hz:(ByteArray.mk (pad m n).toArray).size=m:=by show (pad m n).toArray.size=m;simp[BH]
 obtain⟨k,hk⟩:∃ k,k+m=12:=⟨12-m,by omega⟩
 have yA:(12:Int)-(m:Int)=(k:Int):=by omega
 have jj:nm n=[119,45]++(List.replicate k 48++pad m n):=by
  rw[<-aae m k n H1.out,show m+k=12 by omega]
  rfl
 go_wp2_with fail
 refine (rep k (by omega) (by omega) _).mono ?_
 rintro e w2 ⟨rfl,rfl⟩
 go_wp2_with fail
 go_ret2
 refine⟨?_,H2.out⟩
 have e:(ByteArray.mk #[119,45]++ByteArray.mk (Array.replicate k 48)++ByteArray.mk (pad m n).toArray)=⟨(nm n).toArray⟩:=by
  apply ByteArray.ext
  simp[jj,ByteArray.data_append]
 show Ending.returned (Value.tuple #[Value.string (ByteArray.mk #[119,45]++ByteArray.mk (Array.replicate k 48)++ByteArray.mk (pad m n).toArray),Value.bool true])=_
 rw[e]
theorem aao (a:Int)(ha:a<0\/2 ^ 44<=a)(w:World) :
  Calls Tryz.prog 46 #[.int .i64 a] w
   fun e w'=>e = .returned (.tuple #[.string ⟨#[]⟩,.bool false])/\w'=w:=by
 by_cases h0:a<0
 ·go_enter Tryz.func46,Tryz.ntmps46
  go_wp2_with fail
  go_ret2
  exact⟨rfl,rfl⟩
 ·have h1:17592186044415<a:=by omega
  go_enter Tryz.func46,Tryz.ntmps46
  go_wp2_with fail
  go_ret2
  exact⟨rfl,rfl⟩
end Go.Proofs.YtbdlbhlhnpblpaaGreatDoor.mH
set_option linter.unusedVariables false
set_option linter.unusedSimpArgs false
namespace Go.Proofs.YtbdlbhlhnpblpaaGreatDoor.mH
open Go.RowKit Hp Sg
theorem akx:∀ c:Fin 256,bits BinOp.or IntKind.u8 (c.val:Int) 32=((c.val ||| 32:Nat):Int):=by decide +kernel
theorem low (c:UInt8)(w:World) :
  Calls Tryz.prog 149 #[.int .u8 (c.toNat:Int)] w fun e w'=>e = .returned (.int .u8 ((lo c:Nat):Int))/\w'=w:=by
 have h:bits BinOp.or IntKind.u8 (c.toNat:Int) 32=((lo c:Nat):Int):=akx ⟨c.toNat,c.toNat_lt⟩
 generalize c.toNat=x at h
 generalize lo c=y at h
 go_enter Tryz.func149,Tryz.ntmps149
 go_wp2
 go_ret
 exact⟨rfl,rfl⟩
theorem Rg:(ByteArray.mk #[]).toList=[]:=by kernel_rfl
def ev (c:Nat):Value:=if c=0 then .nilIface else .iface 178 (.int .i64 c)
def pu (l:List UInt8):Nat × Nat:=if l=[] then (0,2) else fV 0 l
set_option maxRecDepth 100000 in
set_option maxHeartbeats 1600000 in
theorem Z7 (s:ByteArray)(hs:s.size<=281474976710656)(w:World) :
  Calls Tryz.prog 124 #[.string s,.int .i64 16,.int .i64 64] w
   fun e w'=>e = .returned (.tuple #[.int .u64 ((pu s.data.toList).1:Int),ev (pu s.data.toList).2])/\cO (fun _=>False) w w':=by
 by_cases he:s=⟨#[]⟩
 ·subst he
  go_enter Tryz.func124,Tryz.ntmps124
  go_wp2
  go_ret2
  exact⟨rfl,cO.refl _ _⟩
 ·have hl:s.data.toList≠[]:=fun h=>he (by apply ByteArray.ext;simpa using h)
  have h0:s.toList.isEmpty=false:=by
   have h1:¬ s.toList=(ByteArray.mk #[]).toList:=fun h=>he ((MU _ _).1 h)
   have h2:(ByteArray.mk #[]).toList=[]:=Rg
   rw[h2] at h1
   simpa using h1
  have HA:pu s.data.toList=fV 0 s.data.toList:=if_neg hl
  have tA:=Lib.run_convert_string_bytes (P:=Tryz.prog) w 9 28 5 s Tryz.underlying9 Tryz.underlying28 Tryz.underlying5
  have fR:=Lib.bytesWorld_cell w 5 s
  have PZ:=Lib.bytesWorld_below w 5 s
  have cC:=Lib.bytesWorld_size w 5 s
  generalize Lib.bytesWorld w 5 s=w1 at tA fR PZ cC
  have hlen:s.data.toList.length=s.size:=by show s.data.toList.length=s.data.size;simp
  generalize grownCap w s.size 0 5=cap at tA
  have CX:=Lib.hid HA
  have ahw:=Lib.hid fR
  have BS:=Lib.hid PZ
  have Hsz:=Lib.hid cC
  have Xy:=Lib.hid hlen
  clear HA fR PZ cC hlen hl he
  have hM:IntKind.u64.wrap (IntKind.u64.wrap 18446744073709551616-1)=18446744073709551615:=by kernel_rfl
  go_enter Tryz.func124,Tryz.ntmps124
  go_wp2
  go_loop [101,13,12] (fun i v z=>∃ (k m:Nat) (a:Int),k<=s.size/\i = .int .i64 (k:Int)/\v = .int .u64 a/\z = .bool false/\Hid (a=(m:Int)/\m<2 ^ 64/\fV 0 s.data.toList=fV m (s.data.toList.drop k))) (fun i _ _=>s.size-(intOf i).toNat)
  case atStart=>exact⟨0,0,0,ack _,rfl,rfl,rfl,Lib.hid ⟨rfl,by omega,rfl⟩⟩
  case round=>
   obtain⟨k,m,a,hk,rfl,rfl,rfl,hm⟩:=hrel
   by_cases bW:k<s.size
   ·have tG:(k:Int)<(s.size:Int):=by omega
    have nO:=ahw.out k bW
    have Ol:s.data.toList.drop k=s.data.toList.getD k 0::s.data.toList.drop (k+1):=by
     have gj:k<s.data.toList.length:=by rw[Xy.out];exact bW
     rw[List.drop_eq_getElem_cons gj,agb,abb gj]
     rfl
    generalize s.data.toList.getD k 0=c at nO Ol
    have NY:=Lib.hid Ol
    clear Ol
    have hq:lo c<256:=Nat.or_lt_two_pow (n:=8) c.toNat_lt (by omega)
    have Ik:dl c=if 48<=c.toNat/\c.toNat<=57 then some (c.toNat-48) else if 97<=lo c/\lo c<=122 then some (lo c-87) else none:=rfl
    have rO:=fun W=>low c W
    have WA:=c.toNat_lt
    have Mw:c.toNat=95->lo c=127:=fun h=>by unfold lo;rw[h];rfl
    generalize lo c=q at hq Ik rO Mw
    generalize c.toNat=x at nO Ik rO WA Mw
    have hstep:∀ d,dl c=some d->¬ 16<=d->¬ 2 ^ 60<=m->fV m (s.data.toList.drop k)=fV (m*16+d) (s.data.toList.drop (k+1)):=fun d h1 h2 h3=>by
     rw[NY.out];simp only[fV,h1];rw[if_neg h2,if_neg h3]
    have X0:∀ d,dl c=some d->¬ 16<=d->2 ^ 60<=m->fV m (s.data.toList.drop k)=(2 ^ 64-1,1):=fun d h1 h2 h3=>by
     rw[NY.out];simp only[fV,h1];rw[if_neg h2,if_pos h3]
    have YZ:(dl c=none\/∃ d,dl c=some d/\16<=d)->fV m (s.data.toList.drop k)=(0,2):=fun h=>by
     rw[NY.out]
     rcases h with h | ⟨d,h,h2⟩
     ·simp only[fV,h]
     ·simp only[fV,h];rw[if_pos h2]
    have aio:=Lib.hid hstep
    have UX:=Lib.hid X0
    have Rb:=Lib.hid YZ
    have KJ:=Lib.hid Ik
    clear hstep X0 YZ Ik
    obtain⟨GY,ahi,yC⟩:=hm.out
    have wK:=Lib.hid GY
    have BY:=Lib.hid yC
    clear GY yC hm
    have anD:wrap64 ((k:Int)+1)=((k+1:Nat):Int):=by unfold wrap64;omega
    have Xn:∀ d:Nat,dl c=some d->¬ 16<=d->¬ 2 ^ 60<=m->∀ y:Int,y=a*16+d->Hid (y=((m*16+d:Nat):Int)/\m*16+d<2 ^ 64/\fV 0 s.data.toList=fV (m*16+d) (s.data.toList.drop (k+1))):=fun d h1 h2 h3 y hy=>
     Lib.hid ⟨by rw[hy,wK.out];omega,by omega,by rw[BY.out,aio.out d h1 h2 h3]⟩
    have W2:=Lib.hid Xn
    clear Xn
    by_cases hx:48<=x/\x<=57
    ·obtain⟨x1,x2⟩:=hx
     have y1:(48:Int)<=(x:Int):=by omega
     have y2:(x:Int)<=57:=by omega
     have nZ:dl c=some (x-48):=by rw[KJ.out,if_pos ⟨x1,x2⟩]
     have uN:=Lib.hid nZ
     clear nZ
     by_cases ha:2 ^ 60<=m
     ·have Es:(1152921504606846976:Int)<=a:=by have:=wK.out;omega
      go_wp2_with fail
      go_ret2
      refine⟨?_,cO.xj BS.out _⟩
      rw[CX.out,BY.out,UX.out _ uN.out (by omega) ha]
      kernel_rfl
     ·have uP:0<=a:=by have:=wK.out;omega
      have Es:a<(1152921504606846976:Int):=by have:=wK.out;omega
      obtain⟨wo,Ef⟩:∃ b:Int,b=a*16:=⟨_,rfl⟩
      obtain⟨n1,mz⟩:∃ b:Int,b=wo+((x:Int)-48):=⟨_,rfl⟩
      have e1:IntKind.u64.wrap (a*16)=wo:=by rw[Ef];exact IntWalk.u64_in _ (by omega)
      have e2:IntKind.u64.wrap (wo+((x:Int)-48))=n1:=by rw[mz];exact IntWalk.u64_in _ (by omega)
      have e3:wo<=n1:=by omega
      have e4:n1<=18446744073709551615:=by omega
      have pE:=W2.out (x-48) uN.out (by omega) ha n1 (by omega)
      clear Ef mz
      go_wp2_with fail
      exact⟨⟨k+1,m*16+(x-48),_,by omega,by simp,rfl,rfl,pE⟩,by simp[intOf];omega⟩
    ·have Hx:=Lib.hid hx
     by_cases Ib:x=95
     ·subst Ib
      obtain rfl:=Mw rfl
      have nZ:dl c=none:=by rw[KJ.out,if_neg Hx.out];rfl
      have uN:=Lib.hid nZ
      clear nZ
      have aj9:∀ W,Calls Tryz.prog 149 #[.int .u8 95] W fun e w'=>e = .returned (.int .u8 127)/\w'=W:=rO
      go_wp2_with (go_at_call 149;refine (aj9 _).mono ?_;rintro e w' ⟨rfl,rfl⟩)
      all_goals
       go_ret2
       refine⟨?_,cO.xj BS.out _⟩
       rw[CX.out,BY.out,Rb.out (.inl uN.out)]
       kernel_rfl
     have y95:¬ ((x:Int)=95):=by omega
     obtain hx | hx:x<48\/57<x:=by omega
     all_goals
      first
      | (have y1:(x:Int)<48:=by omega)
      | (have y1:(57:Int)<(x:Int):=by omega)
      have y0:(x:Int)<256:=by omega
      by_cases Ei:97<=q/\q<=122
      ·have nZ:dl c=some (q-87):=by rw[KJ.out,if_neg Hx.out,if_pos Ei]
       have uN:=Lib.hid nZ
       clear nZ
       obtain⟨q1,q2⟩:=Ei
       have z1:(97:Int)<=(q:Int):=by omega
       have z2:(q:Int)<=122:=by omega
       by_cases anR:103<=q
       ·have z3:(103:Int)<=(q:Int):=by omega
        go_wp2_with (go_at_call 149;refine (rO _).mono ?_;rintro e w' ⟨rfl,rfl⟩)
        all_goals
         go_ret2
         refine⟨?_,cO.xj BS.out _⟩
         rw[CX.out,BY.out,Rb.out (.inr ⟨_,uN.out,by omega⟩)]
         kernel_rfl
       ·have z3:(q:Int)<103:=by omega
        by_cases ha:2 ^ 60<=m
        ·have Es:(1152921504606846976:Int)<=a:=by have:=wK.out;omega
         go_wp2_with (go_at_call 149;refine (rO _).mono ?_;rintro e w' ⟨rfl,rfl⟩)
         all_goals
          go_ret2
          refine⟨?_,cO.xj BS.out _⟩
          rw[CX.out,BY.out,UX.out _ uN.out (by omega) ha]
          kernel_rfl
        ·have uP:0<=a:=by have:=wK.out;omega
         have Es:a<(1152921504606846976:Int):=by have:=wK.out;omega
         obtain⟨wo,Ef⟩:∃ b:Int,b=a*16:=⟨_,rfl⟩
         obtain⟨n1,mz⟩:∃ b:Int,b=wo+((q:Int)-97+10):=⟨_,rfl⟩
         have e1:IntKind.u64.wrap (a*16)=wo:=by rw[Ef];exact IntWalk.u64_in _ (by omega)
         have e2:IntKind.u64.wrap (wo+((q:Int)-97+10))=n1:=by rw[mz];exact IntWalk.u64_in _ (by omega)
         have e3:wo<=n1:=by omega
         have e4:n1<=18446744073709551615:=by omega
         have pE:=W2.out (q-87) uN.out (by omega) ha n1 (by omega)
         clear Ef mz
         go_wp2_with (go_at_call 149;refine (rO _).mono ?_;rintro e w' ⟨rfl,rfl⟩)
         all_goals exact⟨⟨k+1,m*16+(q-87),_,by omega,by simp,rfl,rfl,pE⟩,by simp[intOf];omega⟩
      ·have nZ:dl c=none:=by rw[KJ.out,if_neg Hx.out,if_neg Ei]
       have uN:=Lib.hid nZ
       clear nZ
       obtain Ei | Ei:q<97\/122<q:=by omega
       all_goals
        first
        | (have z1:(q:Int)<97:=by omega)
        | (have z1:(122:Int)<(q:Int):=by omega)
        go_wp2_with (go_at_call 149;refine (rO _).mono ?_;rintro e w' ⟨rfl,rfl⟩)
        all_goals
         go_ret2
         refine⟨?_,cO.xj BS.out _⟩
         rw[CX.out,BY.out,Rb.out (.inl uN.out)]
         kernel_rfl
   ·have tG:¬ (k:Int)<(s.size:Int):=by omega
    have BA:k=s.size:=by omega
    subst BA
    obtain⟨GY,ahi,yC⟩:=hm.out
    have hr:fV 0 s.data.toList=(m,0):=by
     rw[yC,<-Xy.out,List.drop_length];rfl
    have Hr:=Lib.hid hr
    have wK:=Lib.hid GY
    clear hr yC GY hm
    go_wp2_with fail
    go_ret2
    refine⟨?_,cO.xj BS.out _⟩
    rw[CX.out,Hr.out,<-wK.out]
    rfl
end Go.Proofs.YtbdlbhlhnpblpaaGreatDoor.mH
set_option linter.unusedVariables false
set_option linter.unusedSimpArgs false
namespace Go.Proofs.YtbdlbhlhnpblpaaGreatDoor.mH
open Go.RowKit Hp Sg
theorem Ca (a b:Int)(w:World):(binOp .neq 125 (.iface 178 (.int .i64 a)) (.iface 178 (.int .i64 b))).run Tryz.prog w = .ok (.bool (!(a==b))) w:=by
 have Zj:(Tryz.prog.info? 178).map (·.comparable)=some true:=by kernel_rfl
 cases hi:Tryz.prog.info? 178 with
 | none=>simp[hi] at Zj
 | some i=>
  have eO:i.comparable=true:=by simpa[hi] using Zj
  have h:∀ d:Nat,(Op.equalIn (d+2) 125 (.iface 178 (.int .i64 a)) (.iface 178 (.int .i64 b))).run Tryz.prog w = .ok (a==b) w:=fun d=>by
   simp[Op.equalIn,run_underlying Tryz.underlying125,run_underlying Tryz.underlying178,typeInfo,hi,eO]
  simp only[binOp]
  simp[Op.equal,Op.maxDepth,h 9998]
def yt (neg:Bool)(u:Nat × Nat):Int × Nat:=
 if u.2=2 then (0,2)
 else if neg=false/\9223372036854775808<=u.1 then (9223372036854775807,1)
 else if neg=true/\9223372036854775808<u.1 then (-9223372036854775808,1)
 else (if neg then -(u.1:Int) else u.1,0)
set_option maxRecDepth 100000 in
set_option maxHeartbeats 1600000 in
theorem aiK (s:ByteArray)(hs:s.size<=281474976710656)(h1:0<s.size)(hp:((s[0]'h1).toNat:Int)≠43)(hm:((s[0]'h1).toNat:Int)≠45)(w:World) :
  Calls Tryz.prog 85 #[.string s,.int .i64 16,.int .i64 64] w
   fun e w'=>e = .returned (.tuple #[.int .i64 (yt false (pu s.data.toList)).1,ev (yt false (pu s.data.toList)).2])/\cO (fun _=>False) w w':=by
 have hc:=Z7 s hs w
 have wW:(pu s.data.toList).2=0\/pu s.data.toList=(2 ^ 64-1,1)\/pu s.data.toList=(0,2):=by
  unfold pu
  split
  ·exact .inr (.inr rfl)
  ·exact Xh _ _
 have bW:(pu s.data.toList).1<2 ^ 64:=by
  unfold pu
  split
  ·decide
  ·exact adX _ _ (by decide)
 have h0:s.toList.isEmpty=false:=by
  have h2:¬ s.toList=(ByteArray.mk #[]).toList:=fun h=>by
   rw[(MU _ _).1 h] at h1
   exact absurd h1 (by decide)
  rw[Rg] at h2
  simpa using h2
 generalize pu s.data.toList=u at hc wW bW
 obtain⟨u,c⟩:=u
 simp only at hc wW bW
 have hM:IntKind.i64.wrap (9223372036854775808-1)=9223372036854775807:=by kernel_rfl
 rcases wW with rfl | h | h
 ·obtain⟨a,ha⟩:∃ a:Int,a=(u:Int):=⟨_,rfl⟩
  have Ha:=Lib.hid ha
  by_cases hr:9223372036854775808<=u
  ·have dg:(9223372036854775808:Int)<=a:=by omega
   have nU:yt false (u,0)=(9223372036854775807,1):=by unfold yt;rw[if_neg (by simp),if_pos ⟨rfl,hr⟩]
   rw[nU]
   rw[<-ha] at hc
   clear nU ha hr bW
   go_enter Tryz.func85,Tryz.ntmps85
   go_wp2_with fail
   refine hc.mono ?_
   rintro e w' ⟨rfl,ho⟩
   have Ho:=Lib.hid ho
   clear ho
   simp only[ev,if_pos]
   go_wp2
   go_ret2
   exact⟨by kernel_rfl,Ho.out⟩
  ·have dg:a<(9223372036854775808:Int):=by omega
   have uP:0<=a:=by omega
   have nU:yt false (u,0)=(a,0):=by unfold yt;rw[if_neg (by simp),if_neg (fun h=>hr h.2),if_neg (fun h=>by cases h.1)];simp[ha]
   have hw:IntKind.i64.wrap a=a:=IntWalk.i64_in _ (by omega)
   rw[nU]
   rw[<-ha] at hc
   clear nU ha hr bW
   go_enter Tryz.func85,Tryz.ntmps85
   go_wp2_with fail
   refine hc.mono ?_
   rintro e w' ⟨rfl,ho⟩
   have Ho:=Lib.hid ho
   clear ho
   simp only[ev,if_pos]
   go_wp2
   go_ret2
   exact⟨rfl,Ho.out⟩
 ·obtain⟨rfl,rfl⟩:=Prod.mk.inj h
  have tW:Calls Tryz.prog 124 #[.string s,.int .i64 16,.int .i64 64] w fun e w'=>e = .returned (.tuple #[.int .u64 18446744073709551615,.iface 178 (.int .i64 1)])/\cO (fun _=>False) w w':=hc
  clear hc bW h
  have uz:=Ca 1 1
  have vH:=Ca 2 1
  go_enter Tryz.func85,Tryz.ntmps85
  go_wp2_with fail
  refine tW.mono ?_
  rintro e w' ⟨rfl,ho⟩
  have Ho:=Lib.hid ho
  clear ho
  go_wp2
  go_ret2
  exact⟨by kernel_rfl,Ho.out⟩
 ·obtain⟨rfl,rfl⟩:=Prod.mk.inj h
  have tW:Calls Tryz.prog 124 #[.string s,.int .i64 16,.int .i64 64] w fun e w'=>e = .returned (.tuple #[.int .u64 0,.iface 178 (.int .i64 2)])/\cO (fun _=>False) w w':=hc
  clear hc bW h
  have uz:=Ca 1 1
  have vH:=Ca 2 1
  go_enter Tryz.func85,Tryz.ntmps85
  go_wp2_with fail
  refine tW.mono ?_
  rintro e w' ⟨rfl,ho⟩
  have Ho:=Lib.hid ho
  clear ho
  go_wp2
  go_ret2
  exact⟨by kernel_rfl,Ho.out⟩
end Go.Proofs.YtbdlbhlhnpblpaaGreatDoor.mH
set_option linter.unusedVariables false
set_option linter.unusedSimpArgs false
namespace Go.Proofs.YtbdlbhlhnpblpaaGreatDoor.mH
open Go.RowKit Hp Sg
set_option maxRecDepth 100000 in
theorem ab4 (w:World) :
  Calls Tryz.prog 85 #[.string ⟨#[]⟩,.int .i64 16,.int .i64 64] w
   fun e w'=>e = .returned (.tuple #[.int .i64 0,ev 2])/\cO (fun _=>False) w w':=by
 go_enter Tryz.func85,Tryz.ntmps85
 go_wp2
 go_ret2
 exact⟨by kernel_rfl,cO.refl _ _⟩
theorem agG (l:List UInt8):(pu l).2=0\/pu l=(2 ^ 64-1,1)\/pu l=(0,2):=by
 unfold pu
 split
 ·exact .inr (.inr rfl)
 ·exact Xh _ _
set_option maxRecDepth 100000 in
set_option maxHeartbeats 1600000 in
theorem afi (s:ByteArray)(hs:s.size<=281474976710656)(h1:0<s.size)(hx:((s[0]'h1).toNat:Int)=43\/((s[0]'h1).toNat:Int)=45)(w:World) :
  Calls Tryz.prog 85 #[.string s,.int .i64 16,.int .i64 64] w
   fun e w'=>∃ v c,c<=2/\e = .returned (.tuple #[.int .i64 v,ev c])/\cO (fun _=>False) w w':=by
 have cC:(s.extract 1 s.size).size<=281474976710656:=by simp;omega
 have hc:=Z7 (s.extract 1 s.size) cC w
 have wW:=agG (s.extract 1 s.size).data.toList
 have h0:s.toList.isEmpty=false:=by
  have h2:¬ s.toList=(ByteArray.mk #[]).toList:=fun h=>by
   rw[(MU _ _).1 h] at h1
   exact absurd h1 (by decide)
  rw[Rg] at h2
  simpa using h2
 have g1:(1:Int)<=(s.size:Int):=by omega
 have uz:=Ca 1 1
 have vH:=Ca 2 1
 generalize pu (s.extract 1 s.size).data.toList=u at hc wW
 obtain⟨u,c⟩:=u
 simp only at hc wW
 generalize ((u:Nat):Int)=a at hc
 have eO:c=0\/c=1\/c=2:=by
  rcases wW with h | h | h
  ·exact .inl h
  ·exact .inr (.inl (Prod.mk.inj h).2)
  ·exact .inr (.inr (Prod.mk.inj h).2)
 clear wW
 rcases eO with rfl | rfl | rfl
 all_goals
  rcases hx with hx | hx
  all_goals
   go_enter Tryz.func85,Tryz.ntmps85
   go_wp2_with fail
   refine hc.mono ?_
   rintro e w' ⟨rfl,ho⟩
   have Ho:=Lib.hid ho
   clear ho
   try simp only[ev,if_pos]
   try (rw[show ev 1 = .iface 178 (.int .i64 1) from rfl])
   try (rw[show ev 2 = .iface 178 (.int .i64 2) from rfl])
   go_wp2
   all_goals
    go_ret2
    first
    | exact⟨_,0,by omega,rfl,Ho.out⟩
    | exact⟨_,1,by omega,rfl,Ho.out⟩
    | exact⟨_,2,by omega,rfl,Ho.out⟩
end Go.Proofs.YtbdlbhlhnpblpaaGreatDoor.mH
set_option linter.unusedVariables false
set_option linter.unusedSimpArgs false
namespace Go.Proofs.YtbdlbhlhnpblpaaGreatDoor.mH
open Go.RowKit Hp Sg Go.Shelf
theorem af8 (fn s:ByteArray)(base bits:Int)(ev:Value)(w:World)(L6:s.size<=281474976710656)(hv:w.cell? ⟨1,0,none⟩=some ev)(EC:ev = .nilIface\/∃ te pe,ev = .iface te pe) :
  Calls Tryz.prog 86 #[.string fn,.string s,.int .i64 base,.int .i64 bits,.iface 178 (.int .i64 2)] w fun e w'=>∃ N,e = .returned (.iface 181 (.pointer (some ⟨N,0,none⟩)))/\w.heap.size<=N/\w'.heap[N]? = some (.cells #[.string fn,.string s,ev] 208 (0,0))/\Below w.heap.size w w':=Any.strconv_toError_syntax Tryz.laysC245 fn s base bits ev w L6 hv EC
theorem agW (fn s:ByteArray)(base bits:Int)(ev:Value)(w:World)(L6:s.size<=281474976710656)(hv:w.cell? ⟨2,0,none⟩=some ev)(EC:ev = .nilIface\/∃ te pe,ev = .iface te pe) :
  Calls Tryz.prog 86 #[.string fn,.string s,.int .i64 base,.int .i64 bits,.iface 178 (.int .i64 1)] w fun e w'=>∃ N,e = .returned (.iface 181 (.pointer (some ⟨N,0,none⟩)))/\w.heap.size<=N/\w'.heap[N]? = some (.cells #[.string fn,.string s,ev] 208 (0,0))/\Below w.heap.size w w':=Any.strconv_toError_range Tryz.laysC245 fn s base bits ev w L6 hv EC
theorem ac0 (s p:ByteArray)(w:World) :
  Calls Tryz.prog 70 #[.string s,.string p] w fun e w'=>e = .returned (.string ⟨(Lib.trimPrefix s.data.toList p.data.toList).toArray⟩)/\w'=w:=Any.strings_TrimPrefix Tryz.lays101 s p w
structure Vs (w:World):Prop where
 EN:w.cell? ⟨7,15,none⟩=some (.int .u8 4)
 Jn:∃ t p,w.cell? ⟨1,0,none⟩=some (.iface t p)
 J4:∃ t p,w.cell? ⟨2,0,none⟩=some (.iface t p)
theorem Vs.only {w w':World}(h:Vs w)(ho:cO (fun _=>False) w w'):Vs w':=
 ⟨ho.Oy h.EN (fun h=>h),by obtain⟨t,p,e⟩:=h.Jn;exact⟨t,p,ho.Oy e (fun h=>h)⟩,by obtain⟨t,p,e⟩:=h.J4;exact⟨t,p,ho.Oy e (fun h=>h)⟩⟩
theorem ajw (n:Nat)(h:n<2 ^ 48):pu (pad 12 n)=(n,0):=by
 have h1:pad 12 n≠[]:=fun e=>by have:=BH 12 n;rw[e] at this;cases this
 have h2:=UU 12 n 0 (by decide)
 have h3:n % 16 ^ 12=n:=afA (by omega)
 rw[pu,if_neg h1,h2,h3]
 simp
theorem adS (n:Nat)(b:UInt8)(l:List UInt8)(h:pad 12 n=b::l):b.toNat≠43/\b.toNat≠45:=by
 have h2:=NL 11 n
 rw[h] at h2
 have h3:b=hd (n / 16 ^ 11 % 16):=(List.cons.inj h2).1
 have k:∀ d:Fin 16,(hd d).toNat≠43/\(hd d).toNat≠45:=by decide
 rw[h3]
 exact k ⟨n / 16 ^ 11 % 16,ag2 _ (by omega)⟩
theorem acG (s:ByteArray)(hs:s.size<=281474976710656)(w:World) :
  Calls Tryz.prog 85 #[.string s,.int .i64 16,.int .i64 64] w
   fun e w'=>∃ v c,c<=2/\e = .returned (.tuple #[.int .i64 v,ev c])/\(∀ n,n<2 ^ 48->s.data.toList=pad 12 n->v=n/\c=0)/\cO (fun _=>False) w w':=by
 by_cases h1:0<s.size
 ·have hl:s.data.toList=s[0]::s.data.toList.drop 1:=by
   have h2:0<s.data.toList.length:=by rw[afj];exact h1
   cases hd:s.data.toList with
   | nil=>rw[hd] at h2;cases h2
   | cons b l=>
    have:s[0]=b:=by
     show s.data[0]=b
     rw[<-Array.getElem_toList]
     simp[hd]
    simp[this]
  by_cases hx:((s[0]'h1).toNat:Int)=43\/((s[0]'h1).toNat:Int)=45
  ·refine (afi s hs h1 hx w).mono ?_
   rintro e w' ⟨v,c,hc,rfl,ho⟩
   refine⟨v,c,hc,rfl,fun n hn he => ?_,ho⟩
   have:=adS n _ _ (he.symm.trans hl)
   omega
  ·refine (aiK s hs h1 (fun h=>hx (.inl h)) (fun h=>hx (.inr h)) w).mono ?_
   rintro e w' ⟨rfl,ho⟩
   refine⟨_,_,?_,rfl,fun n hn he => ?_,ho⟩
   ·unfold yt;split;· decide
    split;· decide
    split;· decide
    exact ack _
   ·rw[he,ajw n hn]
    unfold yt
    rw[if_neg (by simp),if_neg (by simp;omega),if_neg (by simp)]
    simp
 ·have:s=⟨#[]⟩:=by
   apply ByteArray.ext
   exact Array.eq_empty_of_size_eq_zero (by show s.size=0;omega)
  subst this
  refine (ab4 w).mono ?_
  rintro e w' ⟨rfl,ho⟩
  refine⟨_,_,zf _,rfl,fun n hn he => ?_,ho⟩
  have:=BH 12 n
  rw[<-he] at this
  cases this
end Go.Proofs.YtbdlbhlhnpblpaaGreatDoor.mH
set_option linter.unusedVariables false
set_option linter.unusedSimpArgs false
namespace Go.Proofs.YtbdlbhlhnpblpaaGreatDoor.mH
open Go.RowKit Hp Sg
set_option maxRecDepth 100000 in
theorem ahm (s:ByteArray)(hs:s.size<=281474976710656)(w:World)(hv:Vs w) :
  Calls Tryz.prog 69 #[.string s,.int .i64 16,.int .i64 64] w
   fun e w'=>∃ v x,e = .returned (.tuple #[.int .i64 v,x])/\(x = .nilIface\/∃ t p,x = .iface t p)/\(∀ n,n<2 ^ 48->s.data.toList=pad 12 n->v=n/\x = .nilIface)/\cO (fun _=>False) w w':=by
 go_enter Tryz.func69,Tryz.ntmps69
 go_wp2_with fail
 refine (acG s hs w).mono ?_
 rintro e w1 ⟨v,c,hc,rfl,hn,ho⟩
 have Hn:=Lib.hid hn
 have Ho:=Lib.hid ho
 have fu:=hv.only ho
 clear hn ho
 obtain rfl | rfl | rfl:c=0\/c=1\/c=2:=by omega
 ·simp only[ev,if_pos]
  go_wp2
  go_ret2
  exact⟨v,_,rfl,.inl rfl,fun n h1 h2=>⟨(Hn.out n h1 h2).1,rfl⟩,Ho.out⟩
 ·rw[show ev 1 = .iface 178 (.int .i64 1) from rfl]
  obtain⟨t,p,hr⟩:=fu.J4
  have TT:=agW ⟨#[80,97,114,115,101,73,110,116]⟩ s 16 64 _ w1 hs hr (.inr ⟨_,_,rfl⟩)
  go_wp2_with fail
  refine TT.mono ?_
  rintro e w2 ⟨N,rfl,h1,h2,h3⟩
  have H3:=Lib.hid h3
  clear h1 h2 h3
  go_wp2
  go_ret2
  exact⟨v,_,rfl,.inr ⟨_,_,rfl⟩,fun n h1 h2=>absurd (Hn.out n h1 h2).2 (by decide),Ho.out.trans (cO.xj H3.out _) (fun _ _ h=>h)⟩
 ·rw[show ev 2 = .iface 178 (.int .i64 2) from rfl]
  obtain⟨t,p,hr⟩:=fu.Jn
  have TT:=af8 ⟨#[80,97,114,115,101,73,110,116]⟩ s 16 64 _ w1 hs hr (.inr ⟨_,_,rfl⟩)
  go_wp2_with fail
  refine TT.mono ?_
  rintro e w2 ⟨N,rfl,h1,h2,h3⟩
  have H3:=Lib.hid h3
  clear h1 h2 h3
  go_wp2
  go_ret2
  exact⟨v,_,rfl,.inr ⟨_,_,rfl⟩,fun n h1 h2=>absurd (Hn.out n h1 h2).2 (by decide),Ho.out.trans (cO.xj H3.out _) (fun _ _ h=>h)⟩
end Go.Proofs.YtbdlbhlhnpblpaaGreatDoor.mH
set_option linter.unusedVariables false
set_option linter.unusedSimpArgs false
namespace Go.Proofs.YtbdlbhlhnpblpaaGreatDoor.mH
open Go.RowKit Hp Sg
theorem alx (v:Int)(w:World)(hv:Vs w) :
  Calls Tryz.prog 46 #[.int .i64 v] w
   fun e w'=>∃ s ok,e = .returned (.tuple #[.string s,.bool ok])/\(ok=true->∃ n:Nat,v=n/\n<2 ^ 44/\s=⟨(nm n).toArray⟩)/\(∀ n:Nat,v=n->n<2 ^ 44->ok=true)/\cO (fun _=>False) w w':=by
 by_cases h:0<=v/\v<2 ^ 44
 ·obtain⟨n,rfl⟩:∃ n:Nat,v=n:=⟨v.toNat,by omega⟩
  refine (Vf n (by omega) w hv.EN).mono ?_
  rintro e w' ⟨rfl,ho⟩
  exact⟨_,_,rfl,fun _=>⟨n,rfl,by omega,rfl⟩,fun _ _ _=>rfl,ho⟩
 ·refine (aao v (by omega) w).mono ?_
  rintro e w' ⟨rfl,rfl⟩
  exact⟨_,_,rfl,(fun h=>by cases h),(fun n h1 h2=>by omega),cO.refl _ _⟩
set_option maxRecDepth 100000 in
theorem parse (s:ByteArray)(hs:s.size<=281474976710656)(w:World)(hv:Vs w) :
  Calls Tryz.prog 53 #[.string s] w
   fun e w'=>e = .returned (.tuple #[.int .i64 ((sp s.data.toList).1:Int),.bool (sp s.data.toList).2])/\cO (fun _=>False) w w':=by
 have VG:=ac0 s ⟨#[119,45]⟩ w
 have hle:(ByteArray.mk (Lib.trimPrefix s.data.toList [119,45]).toArray).size<=s.size:=by
  show (Lib.trimPrefix s.data.toList [119,45]).toArray.size<=s.data.size
  rw[agw,<-afj]
  exact Lib.trimPrefix_le _ _
 have jj:∀ n,s.data.toList=nm n->Lib.trimPrefix s.data.toList [119,45]=pad 12 n:=fun n h=>by
  rw[h];simp[Lib.trimPrefix,Lib.hasPrefix,nm]
 have Sc:(ByteArray.mk (Lib.trimPrefix s.data.toList [119,45]).toArray).data.toList=Lib.trimPrefix s.data.toList [119,45]:=by simp
 have Pz:Calls Tryz.prog 70 #[.string s,.string ⟨#[119,45]⟩] w fun e w'=>e = .returned (.string ⟨(Lib.trimPrefix s.data.toList [119,45]).toArray⟩)/\w'=w:=VG
 clear VG
 generalize hT:(ByteArray.mk (Lib.trimPrefix s.data.toList [119,45]).toArray)=T at hle Sc Pz
 clear hT
 go_enter Tryz.func53,Tryz.ntmps53
 go_wp2_with fail
 refine Pz.mono ?_
 rintro e w1 ⟨rfl,rfl⟩
 have aid:=Lib.hid Sc
 have Hnm:=Lib.hid jj
 clear Sc jj Pz
 go_wp2_with fail
 refine (ahm T (by omega) w1 hv).mono ?_
 rintro e w2 ⟨v,x,rfl,hx,hn,ho⟩
 have Hn:=Lib.hid hn
 have Ho:=Lib.hid ho
 have nF:=hv.only ho
 clear hn ho
 go_wp2_with fail
 refine (alx v w2 nF).mono ?_
 rintro e w3 ⟨u,ok,rfl,jZ,gS,jV⟩
 have Hok:=Lib.hid jZ
 have afV:=Lib.hid gS
 have Jz:=Lib.hid (Ho.out.trans jV (fun _ _ h=>h))
 clear jZ gS jV nF
 have VV:(x ≠ .nilIface\/ok=false\/u≠s)->sp s.data.toList=(0,false):=fun h=>ahc _ fun n h1 h2=>by
  have h3:=Hn.out n (by omega) (by rw[aid.out,Hnm.out n h2.symm])
  have h4:=afV.out n h3.1 h1
  rcases h with h | h | h
  ·exact h h3.2
  ·rw[h] at h4;cases h4
  ·obtain⟨m,e1,e2,e3⟩:=Hok.out h4
   have:m=n:=by have:=h3.1;omega
   subst this
   refine h ?_
   rw[e3]
   apply ByteArray.ext
   simp[h2]
 have P2:=Lib.hid VV
 clear VV
 rcases hx with rfl | ⟨t,p,rfl⟩
 ·cases ok with
  | false=>
   go_wp2
   go_ret2
   rw[P2.out (.inr (.inl (by simp)))]
   exact⟨rfl,Jz.out⟩
  | true=>
   by_cases LZ:u=s
   ·subst LZ
    obtain⟨n,rfl,h2,h3⟩:=Hok.out rfl
    have nU:sp u.data.toList=(n,true):=by rw[h3];simpa using Xc n h2
    have akg:=Lib.hid nU
    have ht:(u.toList==u.toList)=true:=by simp
    clear nU h3
    go_wp2
    go_ret2
    rw[akg.out]
    exact⟨rfl,Jz.out⟩
   ·have ht:(u.toList==s.toList)=false:=by rw[aaY];simp[LZ]
    go_wp2
    go_ret2
    rw[P2.out (.inr (.inr LZ))]
    exact⟨rfl,Jz.out⟩
 ·go_wp2
  go_ret2
  rw[P2.out (.inl (by simp))]
  exact⟨rfl,Jz.out⟩
end Go.Proofs.YtbdlbhlhnpblpaaGreatDoor.mH
namespace Go.Proofs.YtbdlbhlhnpblpaaGreatDoor.gM
open Go Go.RowKit Hp Sg mH Am
set_option maxRecDepth 100000
set_option linter.unusedVariables false
theorem Ur {w w':World}(h:cO (fun _=>False) w w'):Below w.heap.size w w':=
 ⟨h.os,h.tape,h.output,h.size,fun k hk=>h.block k hk (fun h=>h)⟩
structure xT (H:Am.Hp):Prop where
 EN:cellAt H 7 15=some (.int .u8 4)
 Jn:∃ t p,cellAt H 1 0=some (.iface t p)
 J4:∃ t p,cellAt H 2 0=some (.iface t p)
theorem xT.vs {F:Nat->Prop}{W:World}{e:Em}{H:Am.Hp}{w:World}(h:xT H)(hR:RH Tryz.prog.globals.size F W e H w):Vs w:=by
 have tM:7<Tryz.prog.globals.size:=by rw[<-acY];kernel_rfl
 have Ng:1<Tryz.prog.globals.size:=by rw[<-acY];kernel_rfl
 have hs3:2<Tryz.prog.globals.size:=by rw[<-acY];kernel_rfl
 have key:∀ g k v,g<Tryz.prog.globals.size->cellAt H g (k:Nat)=some v->∃ v',w.cell? ⟨g,k,none⟩=some v'/\VR e v v':=by
  intro g k v hg hc
  obtain⟨_,o,ho,v',h1,h2⟩:=hR.load hc
  obtain⟨_,hb,hd⟩:=hR.mG g hg
  rw[hb] at h1
  rw[hd] at ho
  obtain rfl:o=k:=by omega
  exact⟨v',h1,h2⟩
 refine⟨?_,?_,?_⟩
 ·obtain⟨v',h1,h2⟩:=key _ 15 _ tM h.EN
  cases h2
  exact h1
 ·obtain⟨t,p,hc⟩:=h.Jn
  obtain⟨v',h1,h2⟩:=key _ 0 _ Ng hc
  cases h2
  exact⟨_,_,h1⟩
 ·obtain⟨t,p,hc⟩:=h.J4
  obtain⟨v',h1,h2⟩:=key _ 0 _ hs3 hc
  cases h2
  exact⟨_,_,h1⟩
def eP (a:Int):Bool:=decide (0<=a)&&decide (a<17592186044416)
def bU (a:Int):List Nat:=bif eP a then (nm a.toNat).map (·.toNat) else []
def ju (s:List Nat):Nat × Bool:=sp (s.map UInt8.ofNat)
noncomputable section
open Classical in
def GW:Prim:=fun args H=>match args with
 | [.int .i64 a]=>if xT H then some (.tuple [.str (bU a),.bool (eP a)],H) else none
 | _=>none
open Classical in
def FB:Prim:=fun args H=>match args with
 | [.str s]=>if xT H/\s.length<=281474976710656 then some (.tuple [.int .i64 (ju s).1,.bool (ju s).2],H) else none
 | _=>none
end
theorem Uk:Am.jA Tryz.prog:=by unfold Am.jA;kernel_rfl
theorem VR.two {e:Em}{a b:AV}{a' b':Value}(h:VR e a a')(k:VR e b b'):VR e (.tuple [a,b]) (.tuple #[a',b']):=by
 refine .tuple _ _ rfl ?_
 intro i v v' h1 h2
 match i,h1,h2 with
 | 0,h1,h2=>cases h1;cases h2;exact h
 | 1,h1,h2=>cases h1;cases h2;exact k
theorem ad7:Am.od Tryz.prog 46 GW:=by
 intro args H v H' hp F W e w bV hR ha
 unfold GW at hp
 split at hp
 ·rename_i a
  split at hp
  ·rename_i hV
   cases hp
   obtain⟨a',r1,e1,fu,ei⟩:=ha.cons_inv
   obtain rfl:=ei.gg
   cases fu
   obtain rfl:bV = #[.int .i64 a]:=acB.1 e1
   refine⟨Am.nM Uk Tryz.func46 rfl _ w,?_⟩
   have hv:=hV.vs hR
   by_cases hi:0<=a/\a<17592186044416
   ·obtain⟨n,rfl⟩:∃ n:Nat,a=n:=⟨a.toNat,by omega⟩
    refine (Vf n (by omega) w hv.EN).mono ?_
    rintro en w' ⟨rfl,ho⟩
    refine⟨e,_,rfl,e.le_refl,hR.below (Ur ho),?_⟩
    have h1:eP (n:Int)=true:=by unfold eP;simp[hi]
    have h2:bU (n:Int)=Am.bytes ⟨(nm n).toArray⟩:=by unfold bU Am.bytes;rw[h1];simp
    rw[h1,h2]
    exact VR.two (.str _) (.bool _)
   ·refine (aao a (by omega) w).mono ?_
    rintro en w' ⟨rfl,rfl⟩
    refine⟨e,_,rfl,e.le_refl,hR,?_⟩
    have h1:eP a=false:=by unfold eP;simp;omega
    have h2:bU a=Am.bytes ⟨#[]⟩:=by unfold bU Am.bytes;rw[h1];rfl
    rw[h1,h2]
    exact VR.two (.str _) (.bool _)
  ·cases hp
 ·cases hp
theorem aeX:Am.od Tryz.prog 53 FB:=by
 intro args H v H' hp F W e w bV hR ha
 unfold FB at hp
 split at hp
 ·rename_i s
  split at hp
  ·rename_i hV
   cases hp
   obtain⟨a',r1,e1,fu,ei⟩:=ha.cons_inv
   obtain rfl:=ei.gg
   obtain⟨s',rfl,rfl⟩:=fu.iS
   obtain rfl:bV = #[.string s']:=acB.1 e1
   refine⟨Am.nM Uk Tryz.func53 rfl _ w,?_⟩
   have hv:=hV.1.vs hR
   have hl:s'.size<=281474976710656:=by
    have:s'.size=(Am.bytes s').length:=by simp[Am.bytes]
    have:=hV.2
    omega
   refine (parse s' hl w hv).mono ?_
   rintro en w' ⟨rfl,ho⟩
   refine⟨e,_,rfl,e.le_refl,hR.below (Ur ho),?_⟩
   have h2:ju (Am.bytes s')=sp s'.data.toList:=by
    unfold ju Am.bytes
    rw[afg]
    congr 1
    rw[afu (g:=id) (fun x _=>by simp)]
    simp
   rw[h2]
   exact VR.two (.int _ _) (.bool _)
  ·cases hp
 ·cases hp
end Go.Proofs.YtbdlbhlhnpblpaaGreatDoor.gM
set_option linter.unusedVariables false
set_option linter.unusedSimpArgs false
namespace Go.Proofs.YtbdlbhlhnpblpaaGreatDoor.rB
open Go Am Go.Sort Go.RowKit Go.Proofs
def Ld:AV->Option Int
 | .int .i64 z=>some z
 | _=>none
def yr:List AV->Option (List Int)
 | []=>some []
 | v::r=>match Ld v,yr r with
  | some z,some l=>some (z::l)
  | _,_=>none
def cI (l:List Int):List AV:=l.map (AV.int .i64)
def mR (l:List Int):List Int:=l.mergeSort fun x y=>decide (x<=y)
theorem acr {v:AV}{z:Int}(h:Ld v=some z):v = .int .i64 z:=by
 unfold Ld at h
 split at h
 ·cases h;rfl
 ·cases h
theorem Vi:∀ {l:List AV} {zs:List Int},yr l=some zs->l=cI zs
 | [],zs,h=>by cases h;rfl
 | v::r,zs,h=>by
  unfold yr at h
  split at h
  ·rename_i z l h1 h2
   cases h
   rw[acr h1,Vi h2]
   rfl
  ·cases h
theorem WS:∀ (zs:List Int),yr (cI zs)=some zs
 | []=>rfl
 | z::zs=>by
  show (match Ld (AV.int .i64 z),yr (cI zs) with | some z,some l=>some (z::l) | _,_=>none)=_
  rw[WS zs]
  rfl
theorem OP (l:List Int):(mR l).length=l.length:=(List.mergeSort_perm l _).length_eq
noncomputable section
def amw (H:Hp)(i off:Nat)(c:Tr AV)(lo hi el fl:Nat)(r:Option (List Int)):Option (AV × Hp):=match r with
 | some zs=>some (.tuple [],{ H with h:=H.h.eZ i (.cells (c.cR off (cI (mR zs))) lo hi el fl) })
 | none=>none
open Classical in
def PH (H:Hp)(i off n:Nat)(o:AO):Option (AV × Hp):=match o with
 | .cells c lo hi el fl=>if lo<=off/\off+n<=hi/\fl<=1 then amw H i off c lo hi el fl ((cU H i off n).bind yr) else none
 | _=>none
open Classical in
def ry:Prim:=fun args H=>match args with
 | [.ae]=>some (.tuple [],H)
 | [.slice i off n cap ex es]=>if n=0 then some (.tuple [],H) else if es=1/\n<4611686018427387904 then (H.h.get i).bind (PH H i off n) else none
 | _=>none
end
theorem JL (e:Em):VR e (.tuple []) (.tuple #[]) := .tuple [] #[] rfl (fun i v v' h=>by simp at h)
theorem air {f:Nat}(nA:∀ bV w,(callFunc f bV).run Tryz.prog w = .ok (.enter f bV) w)
  (h0:∀ (p:Option Addr) (cap:Nat) (w:World),Calls Tryz.prog f #[.slice p 0 cap] w fun e w'=>e = .returned (.tuple #[])/\w'=w)
  (h1:∀ (dm off cap:Nat) (zs:List Int) (w:World),Holds (Value.int .i64) w dm off zs.toArray->dm<w.heap.size->zs.length<4611686018427387904->
   Calls Tryz.prog f #[.slice (some ⟨dm,off,none⟩) zs.length cap] w fun e w'=>e = .returned (.tuple #[])/\∃ n os,w'=grow (putRow (Value.int .i64) (Sort.ahead w n) dm off (zs.mergeSort fun x y=>decide (x<=y)).toArray) os):od Tryz.prog f ry:=by
 intro args H v H' hp Fr W e w bV hR ha
 unfold ry at hp
 split at hp
 ·obtain⟨a',r1,e1,fu,ei⟩:=ha.cons_inv
  have e3:=ei.gg
  subst e3
  cases hp
  cases fu
  obtain rfl:bV = #[.slice none 0 0]:=acB.1 e1
  refine⟨nA _ _,(h0 none 0 w).mono ?_⟩
  rintro en w' ⟨rfl,rfl⟩
  exact⟨e,_,rfl,e.le_refl,hR,JL e⟩
 ·rename_i i off n cap ex es
  obtain⟨a',r1,e1,fu,ei⟩:=ha.cons_inv
  have e3:=ei.gg
  subst e3
  split at hp
  ·rename_i mO
   subst mO
   cases hp
   rcases fu.jJ with⟨o,c,k1,k2,k3,k4,k5,k6,rfl⟩ | ⟨_,_,a,rfl⟩
   ·obtain rfl:bV = #[.slice (some ⟨e.b i,o,none⟩) 0 c]:=acB.1 e1
    refine⟨nA _ _,(h0 _ c w).mono ?_⟩
    rintro en w' ⟨rfl,rfl⟩
    exact⟨e,_,rfl,e.le_refl,hR,JL e⟩
   ·obtain rfl:bV = #[.slice (some a) 0 0]:=acB.1 e1
    refine⟨nA _ _,(h0 _ 0 w).mono ?_⟩
    rintro en w' ⟨rfl,rfl⟩
    exact⟨e,_,rfl,e.le_refl,hR,JL e⟩
  ·rename_i mO
   split at hp
   ·rename_i di
    obtain⟨rfl,kD⟩:=di
    rcases fu.jJ with⟨o,cc,k1,k2,k3,k4,k5,k6,rfl⟩ | ⟨q,_,a,rfl⟩
    ·obtain⟨ob0,hg,hp⟩:=aaF.1 hp
     unfold PH at hp
     split at hp
     ·rename_i c lo hi el fl
      split at hp
      ·rename_i sh
       obtain⟨g1,g2,g3⟩:=sh
       cases hr:(cU H i off n).bind yr with
       | none=>rw[hr] at hp;cases hp
       | some zs=>
        rw[hr] at hp
        cases hp
        obtain⟨l,hl,hz⟩:=aaF.1 hr
        have DC:=Vi hz
        obtain⟨cs,c1,c2,c3⟩:=hR.yV hl k2
        have hzn:zs.length=n:=by rw[<-c2,c1.1,DC];simp[cI]
        have dP:∀ j z,zs[j]? = some z->w.cell? ⟨e.b i,o+j,none⟩=some (.int .i64 z):=by
         intro j z hj
         obtain⟨v',cH,dg⟩:=c1.get (i:=j) (v := .int .i64 z) (by rw[DC];simp[cI,hj])
         have:=dg.fh
         subst this
         exact c3 j _ cH
        obtain⟨hN,ob,db,da,hF⟩:=hR.obj i _ hg
        cases da with
        | cells _ _ _ _ _ C fz hn eO B6 ki hd=>
         have cC:o+n<=C.size:=by rw[hn];omega
         have hH:Holds (Value.int .i64) w (e.b i) o zs.toArray:=by
          intro j hj
          have gG:j<zs.length:=by simpa using hj
          refine⟨?_,?_⟩
          ·rw[dP j zs[j] (abb gG)]
           simp[gG]
          ·have:=ki g3 (o+j) (by omega)
           simp only[World.frozen?,db]
           exact this
         obtain rfl:bV = #[.slice (some ⟨e.b i,o,none⟩) n cc]:=acB.1 e1
         have DE:=h1 (e.b i) o cc zs w hH (abH.1 db).1 (by omega)
         rw[hzn] at DE
         refine⟨nA _ _,DE.mono ?_⟩
         rintro en w' ⟨rfl,m,os,rfl⟩
         refine⟨e,_,rfl,e.le_refl,?_,JL e⟩
         have vk:=hR.drawn (w.drawn+m)
         have eu:(zs.mergeSort fun x y=>decide (x<=y))=mR zs:=rfl
         have mN:=OP zs
         rw[eu]
         generalize mR zs=ss at *
         have kS:RH Tryz.prog.globals.size Fr W e { H with h:=H.h.eZ i (.cells (c.cR off (cI ss)) lo hi el fl) } (putRow (Value.int .i64) (Sort.ahead w m) (e.b i) o ss.toArray):=by
          refine vk.put hg (by simp[wr,g3]) (nB := .cells (putCells (Value.int .i64) o ss.toArray C) el fz) ?_ ?_ ?_ ?_ rfl rfl rfl
          ·simp[putRow,mapBlock,Sort.ahead]
          ·simp only[putRow,mapBlock,Sort.ahead]
           rw[GU _ _ _ db]
           rfl
          ·intro k hk
           simp only[putRow,mapBlock,Sort.ahead]
           rw[Fu _ _ _ _ (fun q=>hk q.symm)]
          ·have gO:(putCells (Value.int .i64) o ss.toArray C).size=C.size:=by simp[putCells]
           refine .cells _ lo hi el fl _ fz (by rw[gO];exact hn) ?_ B6 (by rw[gO];exact ki) hd
           intro k u a b hk
           rw[Tr.vD] at hk
           have ie:(cI ss).length=n:=by simp[cI];omega
           rw[ie] at hk
           by_cases ea:off<=k/\k<off+n
           ·rw[if_pos ea] at hk
            have nW:k-off<ss.length:=by omega
            have hu:u = .int .i64 ss[k-off]:=by
             have:(cI ss)[k-off]? = some (.int .i64 ss[k-off]):=by simp[cI,nW]
             rw[this] at hk
             exact (ada hk).symm
            subst hu
            refine⟨o+(k-off),by omega,.int .i64 ss[k-off],?_,.int _ _⟩
            have hC:o+(k-off)<C.size:=by omega
            simp only[putCells]
            rw[Array.getElem?_mapIdx,afK hC]
            simp only[ahH,agw]
            rw[if_pos (by omega),aeN]
            simp[nW]
           ·rw[if_neg ea] at hk
            obtain⟨Xw,w8,u',iL,dg⟩:=eO k u a b hk
            refine⟨Xw,w8,u',?_,dg⟩
            simp only[putCells]
            rw[Array.getElem?_mapIdx,iL]
            simp only[ahH,agw]
            rw[if_neg (by omega)]
         exact kS.below ⟨rfl,rfl,rfl,by simp[grow],fun k hk=>by
          simp only[grow]
          rw[Array.getElem?_append_left hk]⟩
      ·cases hp
     ·cases hp
    ·omega
   ·cases hp
 ·cases hp
theorem ady:od Tryz.prog 54 ry:=
 air (fun bV w=>nM (by unfold jA;kernel_rfl) Tryz.func54 rfl bV w)
  (fun p cap w=>AnyM.slices_Sort_int_none Tryz.sortI p cap w) (fun dm off cap zs w hH hb hl=>AnyM.slices_Sort_int Tryz.sortI dm off cap zs w hH hb hl)
end Go.Proofs.YtbdlbhlhnpblpaaGreatDoor.rB
set_option linter.unusedVariables false
set_option linter.unusedSimpArgs false
namespace Go.Proofs.YtbdlbhlhnpblpaaGreatDoor.zW
open Go Go.RowKit Go.Lib
theorem ab3:∃ i,Tryz.prog.info? 5=some i/\i.zero=some (.int .u8 0)/\i.size=1/\i.bytes=1:=by
 have h1:(Tryz.prog.info? 5).bind (·.zero)=some (.int .u8 0):=by kernel_rfl
 have h2:(Tryz.prog.info? 5).map (·.size)=some 1:=by kernel_rfl
 have h3:(Tryz.prog.info? 5).map (·.bytes)=some 1:=by kernel_rfl
 cases h:Tryz.prog.info? 5 with
 | none=>rw[h] at h1;cases h1
 | some i=>
  rw[h] at h1 h2 h3
  exact⟨i,rfl,h1,by simpa using h2,by simpa using h3⟩
set_option maxHeartbeats 2000000 in
set_option maxRecDepth 100000 in
theorem walk (ad:Addr)(n c:Nat)(zs:List Int)(w:World)(hz:zs.length=n)(kD:n<=140737488355328)(hc:∀ (j:Nat) (z:Int),zs[j]? = some z->w.cell? (ad.add j)=some (.int .u8 z)) :
  Calls Tryz.prog 25 #[.slice (some ad) n c] w fun e w'=>∃ v',e = .returned v'/\w'.ownsRow w.heap.size 5 1 v' n (zs.map (Value.int .u8))/\v' ≠ .slice none 0 0/\Below w.heap.size w w':=by
 obtain⟨i0,hi,dD,QD,zK⟩:=ab3
 have q22:∀ (w:World) (a:Option Addr) (n c n' c':Nat),(binOp .eql 28 (.slice a n c) (.slice none n' c')).run Tryz.prog w = .ok (.bool a.isNone) w:=fun w a n c n' c'=>Lib.run_eql_slice_nil w _ _ a n c n' c' Tryz.underlying28
 have u22:∀ w,Sem.run Tryz.prog (underlying 28) w = .ok (TypeDesc.slice 5) w:=run_underlying Tryz.underlying28
 have A:Aside (∀ (j:Nat) (z:Int),zs[j]? = some z->w.cell? (ad.add j)=some (.int .u8 z)):=hc
 clear hc
 go_enter Tryz.func25,Tryz.ntmps25
 go_wp2_with (at_builtin;refine wpList_append_own _ rfl _ _ 28 rfl w.heap.size 5 i0 (.int .u8 0) 1 1 Tryz.underlying28 hi dD QD zK rfl (by decide) _ _ _ rfl (World.ownsRow_made w #[] 0 (zf _) (ack _) rfl) ad n c (zs.map (Value.int .u8)) rfl ?qc1 ?qc2 ?qc3 ?qc4 ?qc5 ?qc6 ?_)
 case qc1=>simp;omega
 case qc2=>
  intro j u hj
  rw[acD,yS] at hj
  obtain⟨z,eF,rfl⟩:=hj
  exact Lib.cell?_alloc_some _ (A.out j z eF)
 case qc3=>intro u hu;obtain⟨x,_,rfl⟩:=abn.1 hu;rfl
 case qc4=>unfold maxLen;omega
 case qc5=>omega
 case qc6=>simp
 intro v' w1 uH agc lA
 go_wp2
 go_ret
 refine⟨v',rfl,by simpa using uH,?_,?_⟩
 ·exact lA
 ·exact ((Below.refl _ w).alloc (zf _) _).grown agc (by simp) (by intro k hk;simp[Value.ownBlock] at hk;omega)
set_option maxHeartbeats 1000000 in
theorem ajI (n c:Nat)(w:World):Calls Tryz.prog 25 #[.slice none n c] w fun e w'=>e = .returned (.slice none 0 0)/\w'=w:=by
 have q22:∀ (w:World) (a:Option Addr) (n c n' c':Nat),(binOp .eql 28 (.slice a n c) (.slice none n' c')).run Tryz.prog w = .ok (.bool a.isNone) w:=fun w a n c n' c'=>Lib.run_eql_slice_nil w _ _ a n c n' c' Tryz.underlying28
 go_enter Tryz.func25,Tryz.ntmps25
 go_wp2
 go_ret
 exact⟨rfl,rfl⟩
open Go.Proofs.YtbdlbhlhnpblpaaGreatDoor.Am
theorem L5 {H:Hp}{i:Nat}:∀ (n o:Nat) (l:List AV),Am.cU H i o n=some l->l.length=n/\∀ (j:Nat) (v:AV),l[j]? = some v->Am.cellAt H i (o+j)=some v
 | 0,o,l,h=>by cases h;exact⟨rfl,fun j v q=>by simp at q⟩
 | n+1,o,l,h=>by
  have h':((Am.cellAt H i o).bind fun v=>(Am.cU H i (o+1) n).bind fun r=>some (v::r))=some l:=h
  rw[aaF] at h'
  obtain⟨v,h1,h2⟩:=h'
  rw[aaF] at h2
  obtain⟨r,h3,h4⟩:=h2
  cases h4
  obtain⟨i1,i2⟩:=L5 n (o+1) r h3
  refine⟨by simp[i1],fun j u q => ?_⟩
  cases j with
  | zero=>simp only[nq,acf] at q;subst q;exact h1
  | succ j=>
   simp only[gk] at q
   have:=i2 j u q
   rw[show o+(j+1)=o+1+j by omega]
   exact this
open Classical in
noncomputable def Cy:Am.Prim:=fun args H=>match args with
 | [.ae]=>some (.ae,H)
 | [.slice i o n c ex 1]=>match Am.cU H i o n with
  | some l=>if n<=140737488355328/\∃ zs:List Int,l=zs.map (AV.int .u8) then (Am.alloc H (.cells (Tr.cR .nil 0 l) 0 l.length 5 0)).map fun r=>(.slice r.1 0 n n false 1,r.2) else none
  | none=>none
 | _=>none
theorem aaQ:Am.jA Tryz.prog:=by unfold Am.jA;kernel_rfl
theorem ajM:Am.od Tryz.prog 25 Cy:=by
 intro args H v H' hp F W e w bV hR ha
 unfold Cy at hp
 split at hp
 ·cases hp
  obtain⟨a',r1,e1,fu,ei⟩:=ha.cons_inv
  have e3:=ei.gg
  subst e3
  have e4:a' = .slice none 0 0:=by cases fu;rfl
  subst e4
  obtain rfl:bV = #[.slice none 0 0]:=acB.1 e1
  refine⟨Am.nM aaQ Tryz.func25 rfl _ w,(ajI 0 0 w).mono ?_⟩
  rintro en w' ⟨rfl,rfl⟩
  exact⟨e,_,rfl,e.le_refl,hR,.ae⟩
 ·rename_i i o n c ex
  split at hp
  ·rename_i l hl
   split at hp
   ·rename_i hc
    obtain⟨hn,zs,rfl⟩:=hc
    obtain⟨hlen,dM⟩:=L5 n o _ hl
    rw[yS] at hp
    obtain⟨⟨ni,H2⟩,dV,iJ⟩:=hp
    cases iJ
    obtain⟨a',r1,e1,fu,ei⟩:=ha.cons_inv
    have e3:=ei.gg
    subst e3
    have nI:zs.length=n:=by simpa using hlen
    obtain⟨ad,c',e4,kA⟩:∃ (ad:Addr) (c':Nat),a' = .slice (some ad) n c'/\∀ (j:Nat) (z:Int),zs[j]? = some z->w.cell? (ad.add j)=some (.int .u8 z):=by
     cases fu with
     | slice _ _ _ _ _ _ o' c' hi ho pW tW hx wG=>
      refine⟨_,c',rfl,fun j z hz => ?_⟩
      have h1:=dM j (.int .u8 z) (by rw[acD,hz];rfl)
      obtain⟨_,o2,qf,v2,fR,dT⟩:=hR.load h1
      have e5:o2=o'+j:=by omega
      subst e5
      rw[Addr.add_lit]
      cases dT
      exact fR
     | uK _ _ _ _ a=>
      refine⟨a,0,rfl,fun j z hz => ?_⟩
      have:=(aaL.1 hz).1
      omega
    subst e4
    obtain rfl:bV = #[.slice (some ad) n c']:=acB.1 e1
    refine⟨Am.nM aaQ Tryz.func25 rfl _ w,(walk ad n c' zs w nI hn kA).mono ?_⟩
    rintro en w' ⟨v',rfl,gV,lA,jr⟩
    obtain⟨cT,MV⟩:=gV
    rcases MV with⟨rfl,h0⟩ | ⟨g,cap,cur,rfl,SH,M8,eh,alg,J1,PW⟩
    ·exact absurd rfl lA
    have eG:ni=e.N:=(oV dV).1.trans hR.N.symm
    have hle:=Em.kK e g 0 cur.size
    have da:OR (e.ext g 0 cur.size) ni (.cells (Tr.cR .nil 0 (zs.map (AV.int .u8))) 0 (zs.map (AV.int .u8)).length 5 0) (.cells cur 5 (0,0)):=by
     subst eG
     refine .cells _ _ _ _ _ _ (0,0) (by simp[Em.nG]) ?_ (fun _=>rfl) (by simp) (fun _=>Em.ik ..)
     intro k v _ hk hg
     rw[Kq,if_pos ⟨ack _,by simpa using hk⟩,adD] at hg
     rw[acD,yS] at hg
     obtain⟨u,si,rfl⟩:=hg
     refine⟨k,by rw[Em.ik];omega,.int .u8 u,?_,.int _ _⟩
     have h1:(cur.toList.take (n*1))[k]? = some (Value.int .u8 u):=by rw[PW,acD,si];rfl
     rw[ac1] at h1
     split at h1
     ·rw[<-acF];exact h1
     ·cases h1
    obtain⟨ea,kS⟩:=hR.VM jr SH M8 dV da
    refine⟨_,_,rfl,hle,kS,?_⟩
    subst ea
    have gF:(e.ext g 0 cur.size).b e.N=g:=Em.ig ..
    have hv:=VR.slice (e:=e.ext g 0 cur.size) e.N 0 n n false 1 0 cap (aeE e.N) (by rw[Em.ik];rfl) eh eh (by simp) (by rw[Em.nG,J1];omega)
    rw[gF] at hv
    exact hv
   ·cases hp
  ·cases hp
 ·cases hp
end Go.Proofs.YtbdlbhlhnpblpaaGreatDoor.zW
namespace Go.Proofs.YtbdlbhlhnpblpaaGreatDoor.eU
open Go Go.RowKit Am
set_option linter.unusedVariables false
set_option maxRecDepth 100000
def ext (g:Nat):Option Ext:=bif Nat.beq g 143 then some .same else bif Nat.beq g 144 then some (.JU 28) else bif Nat.beq g 167 then some .S0 else none
theorem Hv:uy Tryz.prog ext:=by
 intro cl k h bV w
 unfold ext at h
 cases h1:Nat.beq cl 143 with
 | true=>
  rw[h1] at h
  cases h
  obtain rfl:=aaV h1
  exact Nr (e:=Extern.AbiNoEscape.same) Tryz.func143 (by kernel_rfl) (by kernel_rfl) (by kernel_rfl) (by kernel_rfl) rfl bV w
 | false=>
  rw[h1] at h
  clear h1
  cases h1:Nat.beq cl 144 with
  | true=>
   rw[h1] at h
   cases h
   obtain rfl:=aaV h1
   exact Nr (e:=Extern.BytealgMakeNoZero.makeNoZero #[] #[28]) Tryz.func144 (by kernel_rfl) (by kernel_rfl) (by kernel_rfl) (by kernel_rfl) rfl bV w
  | false=>
   rw[h1] at h
   clear h1
   cases h1:Nat.beq cl 167 with
   | true=>
    rw[h1] at h
    cases h
    obtain rfl:=aaV h1
    exact Nr (e:=Extern.BytealgIndexByte.indexByte) Tryz.func167 (by kernel_rfl) (by kernel_rfl) (by kernel_rfl) (by kernel_rfl) rfl bV w
   | false=>
    rw[h1] at h
    clear h1
    cases h
noncomputable def IF (g:Nat):Option Prim:=bif Nat.beq g 44 then some Am.D8 else bif Nat.beq g 35 then some (Am.Bz 9) else bif Nat.beq g 73 then some Am.E8 else none
theorem aaW:ot Tryz.prog IF:=by
 intro cl p h args H v H' hp
 unfold IF at h
 cases h1:Nat.beq cl 44 with
 | true=>
  rw[h1] at h
  cases h
  obtain rfl:=aaV h1
  exact U8.aeg args H v H' hp
 | false=>
  rw[h1] at h
  clear h1
  cases h1:Nat.beq cl 35 with
  | true=>
   rw[h1] at h
   cases h
   obtain rfl:=aaV h1
   exact Xr.afn args H v H' hp
  | false=>
   rw[h1] at h
   clear h1
   cases h1:Nat.beq cl 73 with
   | true=>
    rw[h1] at h
    cases h
    obtain rfl:=aaV h1
    exact W8.ab5 args H v H' hp
   | false=>
    rw[h1] at h
    clear h1
    cases h
theorem Bi:jA Tryz.prog:=by unfold jA;kernel_rfl
theorem mixed:Tryz.prog.follows .mixedOrders=true:=by kernel_rfl
def XB:List Int:=[1,10,100,1000,10000,100000,1000000,10000000,100000000,1000000000,10000000000,100000000000,1000000000000,10000000000000,100000000000000,1000000000000000,10000000000000000,100000000000000000,1000000000000000000,10000000000000000000]
def UN:List Int:=[0,1,28,2,29,14,24,3,30,22,20,15,25,17,4,8,31,27,13,23,21,19,16,7,26,12,18,6,11,5,10,9]
def Sp:List Int:=[0,1,56,2,57,49,28,3,61,58,42,50,38,29,17,4,62,47,59,36,45,43,51,22,53,39,33,30,24,18,12,5,63,55,48,27,60,41,37,16,46,35,44,21,52,32,23,11,54,26,40,15,34,20,31,10,25,14,19,9,13,8,7,6]
def dL:List (Nat × List AV):=[(0,XB.map (AV.int .u64)),(1,[.iface 215 (.ptr 10 0)]),(2,[.iface 215 (.ptr 9 0)]),(6,UN.map (AV.int .u8)),(7,Sp.map (AV.int .u8))]
abbrev laid : List (String × DataW Unit) := [("math/bits.deBruijn32tab", Rows.laid_math_bits_deBruijn32tab), ("math/bits.deBruijn64tab", Rows.laid_math_bits_deBruijn64tab), ("internal/strconv.uint64pow10", Rows.laid_internal_strconv_uint64pow10), ("unicode/utf8.acceptRanges", Rows.laid_unicode_utf8_acceptRanges), ("strconv.ErrRange", Rows.laid_strconv_ErrRange), ("strconv.ErrSyntax", Rows.laid_strconv_ErrSyntax), ("unicode/utf8.first", Rows.laid_unicode_utf8_first)]
theorem star : "*" ++ "errors.errorString" = "*errors.errorString" := by decide
theorem abr (u : TypeId)(h : Tryz.prog.typeName? 3 u = some "*errors.errorString") : u = 215 :=
 typeName_ptr_named (nm := "errors.errorString") (by rw[star];kernel_rfl) (by kernel_rfl) (by decide) u (by rw[star];exact h)
theorem af2 {W:World}(h:laidMet Tryz.prog laid W)(cC:8<=W.heap.size)(bx:Nat->Nat)(dx:Nat->Int)(nx:Nat->Nat){N:Nat}(hN:11<=N){PO:List (Nat × AO)}
  (hP:∀ i o,(i,o)∈PO->11<=i/\i<N/\wr o=false/\∃ ob,W.heap[bx i]? = some ob/\∀ e:Em,e.N=N->(∀ j,11<=j->e.b j=bx j/\e.d j=dx j/\e.n j=nx j)->OR e i o ob) :
  ∃ e,RH Tryz.prog.globals.size (fun k=>k<W.heap.size) W e ⟨oZ PO (oe (xO W) dL),N⟩ W/\e.N=N/\∀ j,11<=j->e.b j=bx j/\e.d j=dx j/\e.n j=nx j:=by
 have hs:Tryz.prog.globals.size=8:=by kernel_rfl
 rw[hs]
 obtain⟨b0, o0, t0, w0⟩ := Wx (n := "strconv.ErrRange") (nm := "*errors.errorString") (tp := 215) (te := 217) (ts := 9) h (.tail _ (.tail _ (.tail _ (.tail _ (.head _))))) (g := 2) (ti := 125) (by kernel_rfl) (by kernel_rfl) Tryz.underlying125 abr Tryz.underlying215 Tryz.underlying217 rfl rfl Tryz.underlying9 (by kernel_rfl) (by kernel_rfl)
 obtain⟨b1, o1, t1, w1⟩ := Wx (n := "strconv.ErrSyntax") (nm := "*errors.errorString") (tp := 215) (te := 217) (ts := 9) h (.tail _ (.tail _ (.tail _ (.tail _ (.tail _ (.head _)))))) (g := 1) (ti := 125) (by kernel_rfl) (by kernel_rfl) Tryz.underlying125 abr Tryz.underlying215 Tryz.underlying217 rfl rfl Tryz.underlying9 (by kernel_rfl) (by kernel_rfl)
 let bz:Nat->Nat:=fun i=>if i=9 then b0 else if i=10 then b1 else bx i
 let dz:Nat->Int:=fun i=>if i=9 then (o0:Int) else if i=10 then (o1:Int) else dx i
 have T0 := fun em : Em => Rq (name := "internal/strconv.uint64pow10") (k := .u64) (zs := XB) h (.tail _ (.tail _ (.head _))) (g := 0) (by kernel_rfl) (by kernel_rfl) Tryz.underlying197 Tryz.underlying29 (by kernel_rfl) (by kernel_rfl) (by decide) em
 have T6 := fun em : Em => Rq (name := "math/bits.deBruijn32tab") (k := .u8) (zs := UN) h (.head _) (g := 6) (by kernel_rfl) (by kernel_rfl) Tryz.underlying225 Tryz.underlying5 (by kernel_rfl) (by kernel_rfl) (by decide) em
 have T7 := fun em : Em => Rq (name := "math/bits.deBruijn64tab") (k := .u8) (zs := Sp) h (.tail _ (.head _)) (g := 7) (by kernel_rfl) (by kernel_rfl) Tryz.underlying226 Tryz.underlying5 (by kernel_rfl) (by kernel_rfl) (by decide) em
 have hj:∀ j,11<=j->(Am.start W 8 N bz dz nx).b j=bx j/\(Am.start W 8 N bz dz nx).d j=dx j/\(Am.start W 8 N bz dz nx).n j=nx j:=by
  intro j hj
  refine⟨?_,?_,?_⟩<;>simp only[Am.start,bz,dz]<;>(repeat rw[if_neg (by omega)])
 refine⟨Am.start W 8 N bz dz nx,RH.start bz dz nx (by omega) (by decide) cC ?_ ?_,rfl,hj⟩
 ·intro g l hm
  simp only[dL,aap,abI,agR,or_false] at hm
  rcases hm with⟨rfl,rfl⟩ | ⟨rfl,rfl⟩ | ⟨rfl,rfl⟩ | ⟨rfl,rfl⟩ | ⟨rfl,rfl⟩
  ·exact⟨by decide,by decide,T0 _⟩
  ·refine⟨by decide,by decide,_,t1,w1,fun k v hv => ?_⟩
   cases k with
   | zero=>
    simp only[nq,acf] at hv
    subst hv
    exact⟨_,rfl,.iface _ _ _ (.ptr (e:=Am.start W 8 N bz dz nx) 10 0 o1 (show (10:Nat)<N by omega) (by simp[Am.start,dz]))⟩
   | succ k=>simp at hv
  ·refine⟨by decide,by decide,_,t0,w0,fun k v hv => ?_⟩
   cases k with
   | zero=>
    simp only[nq,acf] at hv
    subst hv
    exact⟨_,rfl,.iface _ _ _ (.ptr (e:=Am.start W 8 N bz dz nx) 9 0 o0 (show (9:Nat)<N by omega) (by simp[Am.start,dz]))⟩
   | succ k=>simp at hv
  ·exact⟨by decide,by decide,T6 _⟩
  ·exact⟨by decide,by decide,T7 _⟩
 ·intro i o hm
  obtain⟨h1,h2,h3,ob,h4,h5⟩:=hP i o hm
  exact⟨by omega,h2,h3,ob,by have:=(hj i h1).1;simp only[Am.start,if_neg (show ¬ i<8 by omega)] at this;rw[this];exact h4,h5 _ rfl hj⟩
theorem ahC:Tryz.prog.globals.size<11:=by
 have hs:Tryz.prog.globals.size=8:=by kernel_rfl
 omega
theorem adQ (el:Nat->TypeId):KE (JE (Tryz.prog) ext IF 20000 6 [] ⟨oe el dL,11⟩)=true:=by kernel_rfl
theorem adZ:od Tryz.prog 6 (BL dL 11):=
 aiu mixed Bi Hv aaW Tryz.func6 rfl ahC
  (by
   have hs:Tryz.prog.globals.size=8:=by kernel_rfl
   rw[hs]
   intro g l hm
   simp only[dL,aap,abI,agR,or_false] at hm;rcases hm with⟨rfl,rfl⟩ | ⟨rfl,rfl⟩ | ⟨rfl,rfl⟩ | ⟨rfl,rfl⟩ | ⟨rfl,rfl⟩<;>exact⟨by decide,by decide,by decide,by decide⟩) fun el=>adQ el
noncomputable def Tp (g:Nat):Option Prim:=bif Nat.beq g 46 then some gM.GW else bif Nat.beq g 53 then some gM.FB else bif Nat.beq g 54 then some rB.ry else bif Nat.beq g 25 then some zW.Cy else IF g
theorem adk:ot Tryz.prog Tp:=by
 intro cl p h args H v H' hp
 unfold Tp at h
 cases h1:Nat.beq cl 46 with
 | true=>
  rw[h1] at h
  cases h
  obtain rfl:=aaV h1
  exact gM.ad7 args H v H' hp
 | false=>
  rw[h1] at h
  clear h1
  cases h1:Nat.beq cl 53 with
  | true=>
   rw[h1] at h
   cases h
   obtain rfl:=aaV h1
   exact gM.aeX args H v H' hp
  | false=>
   rw[h1] at h
   clear h1
   cases h1:Nat.beq cl 54 with
   | true=>
    rw[h1] at h
    cases h
    obtain rfl:=aaV h1
    exact rB.ady args H v H' hp
   | false=>
    rw[h1] at h
    clear h1
    cases h1:Nat.beq cl 25 with
    | true=>
     rw[h1] at h
     cases h
     obtain rfl:=aaV h1
     exact zW.ajM args H v H' hp
    | false=>
     rw[h1] at h
     clear h1
     exact aaW cl p h args H v H' hp
noncomputable def b7 (g:Nat):Option Prim:=bif Nat.beq g 6 then some (BL dL 11) else Tp g
theorem Bj:ot Tryz.prog b7:=by
 intro cl p h args H v H' hp
 unfold b7 at h
 cases h1:Nat.beq cl 6 with
 | true=>
  rw[h1] at h
  cases h
  obtain rfl:=aaV h1
  exact adZ args H v H' hp
 | false=>
  rw[h1] at h
  clear h1
  exact adk cl p h args H v H' hp
theorem akX {b7:Nat->Option Prim}(Bj:ot Tryz.prog b7){Q:Type}{enc:TypeId × Value->Q}{g:Nat}{fn:Func}{b:Code}(hf:Tryz.prog.funcs[g]? = some fn)(hb:fn.body=some b)(an:Nat->K.An)(hA:K.qQ Tryz.prog an){W:World}(hL:laidMet Tryz.prog laid W)(cC:8<=W.heap.size){base:Nat}{spare:Nat->Bool}{held:Bool}(tY:∀ b,spare b=true){oY:List K.Ty}{vs:List Value}
  (ha:K.HO enc Tryz.prog W base spare held oY vs) (law:∀ H bV ds,K.Dh H oY bV ds->fY H dL->11<=H.next->∃ H',K.CK Tryz.prog (K.lV Tryz.prog) ext b7 an (.func (.func g) [] []) bV H=some (.bool true,H')) :
  Calls Tryz.prog g vs.toArray W fun en w'=>en = .returned (.bool true)/\Below W.heap.size W w':=by
 obtain⟨bV,os,ds,a1,a2,a3,a4⟩:=K.abG tY ha 11
 have hs:Tryz.prog.globals.size=8:=by kernel_rfl
 obtain⟨e,hR,hN,hj⟩:=af2 hL cC (fun i=>((os[i-11]?).map (·.b)).getD 0) (fun _=>0) (fun i=>((os[i-11]?).map (·.n)).getD 0) (N:=11+os.length) (by omega) (PO:=K.uC 11 os) (by
  intro i o hm
  obtain⟨j,ob,h1,rfl,rfl⟩:=K.Up os 11 i o hm
  have nW:=(aaL.1 h1).1
  have Zi:∀ e:Em,e.N=11+os.length->(∀ j,11<=j->e.b j=((os[j-11]?).map (·.b)).getD 0/\e.d j=0/\e.n j=((os[j-11]?).map (·.n)).getD 0)->K.Fits e 11 os:=by
   intro e he hj
   refine⟨by omega,fun j o ho => ?_⟩
   obtain⟨x,y,z⟩:=hj (11+j) (by omega)
   rw[aeN,ho] at x z
   exact⟨x,y,z⟩
  have hex:∃ ow,W.heap[ob.b]? = some ow:=by
   let e0:Em:=⟨fun j=>((os[j-11]?).map (·.b)).getD 0,fun _=>0,fun j=>((os[j-11]?).map (·.n)).getD 0,11+os.length⟩
   obtain⟨ow,h,_⟩:=a2 e0 (Zi e0 rfl fun j _=>⟨rfl,rfl,rfl⟩) j ob h1
   exact⟨ow,h⟩
  obtain⟨ow,ZQ⟩:=hex
  refine⟨by omega,by omega,a3 ob (abY h1),ow,?_,fun e he hj => ?_⟩
  ·rw[aeN,h1];exact ZQ
  ·obtain⟨ow2,h,h2⟩:=a2 e (Zi e he hj) j ob h1
   rw[ZQ] at h;cases h
   exact h2)
 have JS:K.Fits e 11 os:=by
  refine⟨by omega,fun j o ho => ?_⟩
  obtain⟨x,y,z⟩:=hj (11+j) (by omega)
  rw[aeN,ho] at x z
  exact⟨x,y,z⟩
 have ahu:K.Has ⟨oZ (K.uC 11 os) (oe (xO W) dL),11+os.length⟩ 11 os:=⟨zf _,fun j o ho=>K.YQ os 11 _ j o ho⟩
 have hT:fY ⟨oZ (K.uC 11 os) (oe (xO W) dL),11+os.length⟩ dL:=by
  refine⟨xO W,fun g l hm => ?_⟩
  have hg:g<11:=by
   simp only[dL,aap,abI,agR,or_false] at hm;rcases hm with⟨rfl,rfl⟩ | ⟨rfl,rfl⟩ | ⟨rfl,rfl⟩ | ⟨rfl,rfl⟩ | ⟨rfl,rfl⟩<;>decide
  show (oZ _ _).get g=_
  rw[K.UL os 11 _ g hg]
  exact K.Zg _ _ (by decide) g l hm
 obtain⟨H',hk⟩:=law _ bV ds (a4 _ ahu) hT (Nat.le_add_right _ _)
 refine (K.IN mixed Bi Hv Bj K.ID hA hk hf hb hR (bV:=vs.toArray) (by simpa using a1 e JS)).mono fun en w' ⟨e',v',h1,_,cA,hv⟩ => ?_
 have:=hv.sH
 subst this
 exact⟨h1,⟨cA.os,cA.tape,cA.output,cA.size,fun k hk=>(cA.frame k hk).2⟩⟩
theorem am4 (an:Nat->K.An){H:Hp}(hT:fY H dL)(hn:11<=H.next):K.CK Tryz.prog (K.lV Tryz.prog) ext b7 an (.func (.func 6) [] []) [] H=some (.bool true,H):=by
 refine K.lh (p:=BL dL 11) (by kernel_rfl) ?_
 unfold BL
 rw[if_pos ⟨rfl,hT,hn⟩]
end Go.Proofs.YtbdlbhlhnpblpaaGreatDoor.eU
namespace Go.Proofs.YtbdlbhlhnpblpaaGreatDoor.du
open Go Am Am.K eU
set_option linter.unusedVariables false
set_option maxRecDepth 100000
noncomputable section
noncomputable abbrev P:Program:=Tryz.prog
noncomputable def L9 : List (Nat × An) := [
 (23, (.n (.s [0] (.t [0, 9] (.cd (.n .nl) .nl)) (.n .nl)))),
 (60, (.n (.n .nl))),
 (43, (.n (.t [0, 1, 6] (.s [6] (.b (.t [1, 6, 13] (.cd (.n .nl) (.n (.cd (.n .nl) (.n (.cd (.n .nl) .nl))))))) (.n .nl))))),
 (45, (.n (.s [0] (.t [0, 7] (.cd (.n .nl) .nl)) (.t [0] (.s [0] (.t [0, 19] (.cd (.n .nl) .nl)) (.t [] (.n .nl))))))),
 (27, (.n (.t [0, 1, 2, 7, 8] (.s [0, 1, 2, 7] (.b (.t [0, 1, 2, 7, 8, 15] (.cd (.n .nl) (.t [0, 1, 2, 7, 23] (.cd (.n .nl) (.n (.cd (.n .nl) .nl))))))) (.s [2, 7] (.n (.cd (.n .nl) .nl)) (.t [] (.n .nl))))))),
 (34, (.n (.t [0, 5, 6] (.s [5] (.b (.n (.cd (.n .nl) (.n (.cd (.n .nl) .nl))))) (.t [] (.n .nl)))))),
 (31, (.n (.t [0, 2, 7, 8] (.s [2, 7] (.b (.n (.cd (.n .nl) (.t [0, 2, 7, 19] (.cd (.n .nl) (.n (.cd (.n .nl) .nl))))))) (.t [2, 7] (.t [] (.n .nl))))))),
 (32, (.n (.t [0, 1, 6] (.s [0, 1] (.b (.n (.cd (.n .nl) (.n (.cd (.n .nl) .nl))))) (.t [] (.n .nl)))))),
 (51, (.n (.t [6, 7] (.s [6] (.n (.cd (.n .nl) .nl)) (.n .nl))))),
 (33, (.n (.s [] (.t [5] (.n (.cd (.n .nl) .nl))) (.n .nl)))),
 (13, (.q (.n (.cd .nl .nl)) (.s [0] (.n (.v [0] (.lp [0, 1, 14, 15, 16] (.n (.q (.cd .nl .nl) (.s [0, 1, 14, 15, 16] (.v [0, 1, 14, 15, 16] (.n (.t [0, 1, 6, 14, 15, 16] (.t [0, 1, 6, 7, 14, 15, 16] (.q (.n (.cd .nl .nl)) (.n (.s [0, 1, 6, 8, 14, 15, 16] (.n (.cd (.t [0, 1, 6, 8, 14, 15, 16] .nl) .nl)) (.t [0, 1, 6, 14, 15, 16] .nl)))))))) .nl)))))) (.n .nl)))),
 (14, .nl),
 (19, (.n (.n .nl))),
 (18, (.q (.n (.cd .nl .nl)) (.t [0, 2] .nl))),
 (38, (.n (.q (.n (.cd (.n .nl) .nl)) (.n .nl)))),
 (57, (.n (.n .nl))),
 (58, (.n (.n .nl))),
 (56, (.n (.t [3, 4] (.n .nl)))),
 (40, (.n (.s [0, 1] (.n (.cd (.n .nl) .nl)) (.t [1, 6, 7] (.s [6, 7] (.n (.v [6, 7] (.lp [6, 7, 18, 19, 20] (.n (.q (.cd .nl .nl) (.s [6, 7, 18, 19, 20] (.b (.n (.t [6, 7, 18, 19, 20] .nl))) .nl)))))) (.n .nl)))))),
 (41, (.n (.t [3] (.n .nl)))),
 (24, (.n (.s [0, 1] (.t [0, 1, 19] (.cd (.n .nl) .nl)) (.n .nl)))),
 (68, (.n (.n .nl))),
 (17, (.n (.n .nl))),
 (39, (.n (.s [0] (.n (.v [0] (.lp [0, 1, 8, 9] (.n (.q (.cd .nl .nl) (.s [0, 1, 8, 9] (.b (.n .nl)) .nl)))))) (.n .nl)))),
 (84, (.n (.n (.s [3] (.n (.v [3] (.lp [3, 6, 7, 8] (.n (.q (.cd .nl .nl) (.s [3, 6, 7, 8] (.b (.t [3, 4, 5, 6, 7, 8] .nl)) .nl)))))) (.n .nl))))),
 (26, (.n (.s [0, 3] (.n (.cd (.n .nl) .nl)) (.t [0, 3, 6] (.t [0, 3, 6, 7] (.n .nl)))))),
 (67, (.n (.s [0, 2] (.n (.cd (.n .nl) .nl)) (.t [0, 2, 3] (.s [0, 2, 3] (.b (.n (.cd (.n .nl) (.t [0, 2, 3, 19] (.cd (.n .nl) .nl))))) (.t [0, 2, 3, 5] (.s [0, 2, 3] (.t [0, 2, 3, 42] (.cd (.n .nl) .nl)) (.n .nl)))))))),
 (59, (.n (.s [0, 1] (.n (.cd .nl .nl)) (.s [0] (.t [0, 1] (.n (.cd .nl .nl))) (.n .nl))))),
 (42, (.n (.n (.s [0, 3] (.n (.v [0, 3] (.lp [0, 3, 9, 10, 11] (.n (.q (.cd .nl .nl) (.s [0, 3, 9, 10, 11] (.v [0, 3, 9, 10, 11] (.n (.t [0, 3, 9, 10, 11] (.n (.cd .nl .nl))))) .nl)))))) (.n (.s [6] (.n (.v [6] (.lp [6, 25, 26, 27] (.n (.q (.cd .nl .nl) (.s [6, 25, 26, 27] (.b (.n .nl)) .nl)))))) (.n .nl))))))),
 (52, (.n (.s [6, 7] (.v [6, 7] (.lp [0, 1, 2, 6, 7] (.q (.n (.cd .nl .nl)) (.b (.t [0, 1, 2, 6, 7, 8, 9, 10] (.s [0, 1, 6, 7, 8, 9] (.t [0, 1, 6, 7, 8, 9, 38] (.cd .nl .nl)) (.t [0, 1, 6, 7, 8, 9] (.n .nl)))))))) (.n .nl)))),
 (37, (.n (.n (.s [3] (.n (.v [3] (.lp [3, 8, 9, 10] (.n (.q (.cd .nl .nl) (.s [3, 8, 9, 10] (.v [3, 8, 9, 10] (.n (.t [3, 6, 7, 8, 9, 10] (.n (.cd .nl .nl))))) .nl)))))) (.n (.n .nl)))))),
 (55, (.n (.s [0] (.n (.cd (.n .nl) .nl)) (.s [0] (.n (.v [0] (.lp [0, 3] (.q (.n (.cd .nl .nl)) (.s [0, 3] (.v [0, 3] (.t [0, 3, 25] (.cd (.n (.s [0, 3] (.n (.v [0, 3] (.lp [0, 3, 4, 5] (.q (.n (.cd .nl .nl)) (.s [0, 3, 4, 5] (.v [0, 3, 4, 5] (.t [0, 3, 4, 5, 44] (.cd (.t [0, 3, 4, 5] .nl) .nl))) .nl))))) (.n (.n .nl)))) .nl))) .nl))))) (.n .nl))))),
 (8, (.n (.s [0, 1, 2] (.t [0, 1, 2, 24] (.cd (.n .nl) .nl)) (.t [0, 2, 8, 9] (.t [0, 8, 9, 10] (.t [0, 8, 9, 10, 11, 12] (.s [0, 8, 10, 11] (.b (.n (.cd (.n .nl) (.n (.cd (.n .nl) .nl))))) (.t [0, 8, 10, 11, 13] (.s [0, 8, 10, 11, 13] (.t [0, 8, 10, 11, 13, 70] (.cd (.t [0, 8, 10, 11, 13, 14] (.s [0, 8, 10, 11, 13, 14] (.t [0, 8, 10, 11, 13, 14, 15] (.n (.cd (.n .nl) .nl))) (.t [0, 8, 10, 11, 13] .nl))) (.t [0, 8, 10, 11, 13, 16] (.n (.cd (.n .nl) .nl))))) (.t [0, 8, 10] (.t [8] (.n .nl)))))))))))),
 (11, (.n (.s [0, 1] (.b (.t [0, 1, 10] (.cd (.n .nl) (.t [0, 1, 15] (.cd (.n .nl) (.t [0, 1, 22] (.cd (.n .nl) .nl))))))) (.s [] (.t [0, 1, 5] (.v [] (.lp [0, 1, 5] (.s [0, 1, 5] (.t [0, 1, 5, 41] (.cd .nl .nl)) (.s [0, 1, 5] (.b (.t [0, 1, 5, 6] (.t [0, 1, 5, 6, 7] (.t [0, 1, 5, 6, 7, 8] (.n (.s [0, 1, 5, 6, 7, 8, 9] (.t [0, 1, 5, 6, 7, 8, 65] (.cd .nl .nl)) (.q (.n (.cd (.n .nl) .nl)) (.t [0, 1, 5, 7, 8] (.t [0, 1, 5, 7] (.s [0, 1, 5] (.t [0, 1, 5, 114] (.cd .nl .nl)) .nl)))))))))) .nl))))) (.n .nl))))),
 (16, (.n (.n .nl))),
 (22, (.n (.s [0] (.t [0, 8] (.cd (.n .nl) .nl)) (.n .nl)))),
 (20, (.n (.n .nl))),
 (10, (.n (.s [0, 1, 4] (.b (.t [0, 1, 4, 6] (.cd (.n .nl) (.t [0, 1, 4, 14] (.cd (.n .nl) .nl))))) (.n .nl)))),
 (9, (.n (.n (.s [7] (.t [0, 1, 2, 7] (.v [7] (.lp [0, 1, 2, 7] (.s [0, 1, 2, 7] (.t [0, 1, 2, 7, 23] (.cd .nl .nl)) (.s [0, 1, 2, 7] (.b .nl) .nl))))) (.n .nl))))),
 (12, (.n (.s [0] (.t [0, 10] (.cd (.n .nl) .nl)) (.s [0] (.t [0, 14, 15, 16] (.v [0] (.lp [0, 14, 15, 16] (.n (.q (.cd .nl .nl) (.s [0, 14, 15, 16] (.v [0, 14, 15, 16] (.n (.s [0, 4, 14, 15, 16] (.t [0, 4, 14, 15, 16, 29] (.cd .nl .nl)) (.t [0, 5, 14, 15, 16] (.n (.cd (.n .nl) .nl)))))) .nl)))))) (.t [] (.n .nl)))))),
 (36, (.n (.s [0, 1] (.n (.cd .nl .nl)) (.s [] (.n (.v [] (.lp [0, 1, 22, 23, 24] (.n (.q (.cd .nl .nl) (.s [0, 1, 22, 23, 24] (.b (.t [0, 1, 5, 6, 22, 23, 24] (.s [0, 1, 5, 6, 22, 23, 24] (.n (.cd (.n .nl) .nl)) (.n (.t [0, 1, 5, 6, 7, 8, 9, 22, 23, 24] (.q (.n (.cd (.n .nl) .nl)) (.t [0, 1, 5, 7, 8, 10, 11, 22, 23, 24] (.n (.t [0, 1, 5, 7, 8, 10, 11, 22, 23, 24] (.t [0, 1, 5, 7, 8, 11, 22, 23, 24] (.n (.cd (.s [0, 7, 11] (.t [0, 7, 11, 12] (.n (.cd (.n .nl) .nl))) (.n .nl)) .nl)))))))))))) .nl)))))) (.n .nl))))),
 (30, (.n (.n (.s [7] (.t [7, 23, 24, 25] (.v [7] (.lp [7, 23, 24, 25] (.n (.q (.cd .nl .nl) (.s [7, 23, 24, 25] (.b (.n .nl)) .nl)))))) (.n .nl))))),
 (28, (.n (.t [3] (.n .nl)))),
 (47, (.n (.n .nl))),
 (5, (.n (.q (.n (.cd (.n .nl) .nl)) (.s [0, 1, 2, 3] (.t [0, 1, 2, 3, 35] (.cd (.n .nl) .nl)) (.t [0, 1, 2, 3, 9, 10] (.q (.n (.cd (.n .nl) .nl)) (.n (.n (.n (.s [2, 3, 9, 10, 11, 12] (.n (.v [2, 3, 9, 10, 11, 12] (.lp [0, 2, 3, 9, 10, 11, 12, 13] (.q (.n (.cd .nl .nl)) (.s [0, 2, 3, 9, 10, 11, 12, 13] (.v [0, 2, 3, 9, 10, 11, 12, 13] (.s [0, 2, 3, 9, 10, 11, 12, 13] (.t [0, 2, 3, 9, 10, 11, 12, 13, 58] (.cd (.n .nl) .nl)) (.t [0, 2, 3, 9, 10, 11, 12, 13, 14, 15] (.t [0, 2, 3, 9, 10, 11, 12, 13, 14, 15] (.q (.n (.cd .nl .nl)) (.s [0, 2, 3, 9, 10, 11, 12, 13] (.t [0, 2, 3, 9, 10, 11, 12, 13, 89] (.cd (.n .nl) .nl)) (.t [0, 2, 3, 9, 10, 11, 12, 13, 95] (.cd (.q (.n (.cd .nl .nl)) .nl) .nl)))))))) .nl))))) (.s [2, 10, 11, 12] (.t [2, 3, 9, 10, 11, 12, 113] (.cd (.n (.n (.cd .nl .nl))) .nl)) (.n (.n (.t [11, 12, 16, 17] (.s [11, 16] (.t [11, 16, 154] (.cd (.n .nl) .nl)) (.n .nl)))))))))))))))),
 (21, (.n (.s [0, 1, 2] (.t [0, 1, 2, 23] (.cd (.n .nl) .nl)) (.n (.s [0, 1, 2, 7] (.t [0, 1, 2, 7, 30] (.cd (.n .nl) .nl)) (.s [] (.n (.v [] (.lp [0, 1, 2, 7, 8] (.q (.n (.cd .nl .nl)) (.s [0, 1, 2, 7, 8] (.b (.t [0, 1, 2, 7, 8, 9, 10] (.t [0, 1, 2, 7, 8, 90] (.cd (.n .nl) .nl)))) .nl))))) (.n .nl))))))),
 (7, (.n (.t [0, 4, 5] (.s [0, 4] (.t [0, 4, 17] (.cd (.n .nl) .nl)) (.t [4, 6, 7] (.q (.n (.cd (.n .nl) .nl)) (.n .nl))))))),
 (15, (.n (.s [0, 1] (.t [0, 1, 20] (.cd (.n .nl) .nl)) (.q (.n (.cd (.n .nl) .nl)) (.t [0, 6] (.s [0, 6] (.t [0, 6, 7] (.n (.cd (.n .nl) .nl))) (.s [6] (.t [0, 6, 38, 39, 40] (.v [6] (.lp [0, 6, 38, 39, 40] (.n (.q (.cd .nl .nl) (.s [0, 6, 38, 39, 40] (.b (.n (.t [0, 6, 10, 38, 39, 40] (.n (.cd (.n .nl) .nl))))) .nl)))))) (.t [6] (.n .nl))))))))),
 (29, (.n (.n .nl))),
 (0, .nl)]
noncomputable def an (g:Nat):An:=BI L9 g
theorem HL:qQ P an:=Z9 (by kernel_rfl)
noncomputable abbrev cK:CF:=CK P (lV P) ext b7 an
noncomputable def NJ (J : JT)(G : GT)(cf : CF)(a0 : AV)(H : Hp) : R :=
 J 1 (fun j0 =>
 J 2 (fun j1 =>
 B1 (dy a0 (.int .i64 1)) fun v2 =>
 G v2 false (fun k3 =>
 k3 a0 H) (fun v4 h5 =>
 G v2 false (fun k6 =>
 B1 (eR v4 (.int .i64 16777216)) fun v7 =>
 k6 v7 h5) (fun v8 h9 =>
 B1 (pk v2 (.bool true) v8) fun v10 =>
 j1 a0 v10 h9) h5) H) (fun nP jo kQ =>
 CD jo (
 some (.tuple [.cD, (.int .i64 1)], kQ)) (
 j0 nP kQ))) (fun gx lj =>
 BN (Ep lj) fun i16 gI =>
 B1 (fl [(.int .i64 0), .jt, (.bool false), (.int .i64 0), .ae] [(0, 1, gx), (1, 1, (.map i16))]) fun l18 =>
 BN (bx 76 (.agg l18) gI) fun i19 dA =>
 some (.tuple [(.ptr i19 0), (.int .i64 0)], dA))
theorem aaw {a0:AV}{H:Hp}{r:AV × Hp}(h:NJ JN GO cK a0 H=some r):cK (.func (.func 23) [] []) [a0] H=some r:=dp (first:=[]) (cap:=[]) (aaM (by kernel_rfl) h)
noncomputable def X7 (J : JT)(G : GT)(cf : CF)(a0 : AV)(H : Hp) : R :=
 B1 (Br a0 (.str [])) fun v0 =>
 G v0 true (fun k1 =>
 k1 a0 H) (fun v2 h3 =>
 G v0 true (fun k4 =>
 B1 (lens v2) fun v5 =>
 k4 v5 h3) (fun v6 h7 =>
 G v0 true (fun k8 =>
 B1 (xV v6 (.int .i64 16)) fun v9 =>
 k8 v9 h7) (fun v10 gZ =>
 B1 (pk v0 v10 (.bool false)) fun v12 =>
 G v12 true (fun Qx =>
 Qx a0 gZ) (fun jw lj =>
 G v12 true (fun Q1 =>
 B2 (cf (.func (.func 73) [] []) [jw, (.str [97, 98, 99, 100, 101, 102, 103, 104, 105, 106, 107, 108, 109, 110, 111, 112, 113, 114, 115, 116, 117, 118, 119, 120, 121, 122, 48, 49, 50, 51, 52, 53, 54, 55, 56, 57, 45])] lj) fun gh iU =>
 Q1 gh iU) (fun gY dA =>
 G v12 true (fun k21 =>
 B1 (seq gY (.str [])) fun v22 =>
 k21 v22 dA) (fun v23 rQ =>
 B1 (pk v12 v23 (.bool false)) fun v25 =>
 some (v25, rQ)) dA) lj) gZ) h7) h3) H
theorem ab8 {a0:AV}{H:Hp}{r:AV × Hp}(h:X7 JN GO cK a0 H=some r):cK (.func (.func 60) [] []) [a0] H=some r:=dp (first:=[]) (cap:=[]) (aaM (by kernel_rfl) h)
noncomputable def WI (J : JT)(G : GT)(cf : CF)(a0 a1 : AV)(H : Hp) : R :=
 J 3 (fun j0 =>
 B1 (cg a0) fun v1 =>
 B1 (fa 1 v1) fun v2 =>
 B1 (ld v2 H) fun v3 =>
 B1 (ny .str .cD false v3 a1 H) fun v4 =>
 j0 a0 a1 v4 H) (fun x5 x6 x7 h8 =>
 J 1 (fun j9 =>
 J 3 (fun pP =>
 B1 (cg x5) fun v11 =>
 B1 (fa 2 v11) fun v12 =>
 B1 (ld v12 h8) fun dk =>
 pP x6 x7 dk h8) (fun gx dN dJ gI =>
 CD dJ (
 some (.tuple [.cD, (.int .i64 11)], gI)) (
 B2 (cf (.func (.func 60) [] []) [gx] gI) fun ew rk =>
 B1 (mw .not ew) fun v20 =>
 CD v20 (
 some (.tuple [.cD, (.int .i64 1)], rk)) (
 B1 (mW .eql (pe dN .cD rk)) fun v21 =>
 CD v21 (
 some (.tuple [.cD, (.int .i64 4)], rk)) (
 j9 dN rk))))) (fun fg kG =>
 some (.tuple [fg, (.int .i64 0)], kG)))
theorem alf {a0 a1:AV}{H:Hp}{r:AV × Hp}(h:WI JN GO cK a0 a1 H=some r):cK (.func (.func 43) [] []) [a0,a1] H=some r:=dp (first:=[]) (cap:=[]) (aaM (by kernel_rfl) h)
noncomputable def Kk (J : JT)(G : GT)(cf : CF)(a0 : AV)(H : Hp) : R :=
 J 1 (fun j0 =>
 J 2 (fun j1 =>
 B1 (cg a0) fun v2 =>
 B1 (fa 3 v2) fun v3 =>
 B1 (ld v3 H) fun v4 =>
 B1 (pC v4 (.int .i64 0)) fun v5 =>
 j1 a0 v5 H) (fun x6 x7 h8 =>
 CD x7 (
 some ((.bool true), h8)) (
 j0 x6 h8))) (fun x9 fW =>
 J 1 (fun lG =>
 B1 (cg x9) fun v12 =>
 B1 (fa 3 v12) fun dk =>
 B1 (ld dk fW) fun jw =>
 B1 (kj jw (.int .i64 1)) fun dW =>
 B1 (cg x9) fun fP =>
 B1 (fa 3 fP) fun gh =>
 B1 (st 1 gh dW fW) fun iU =>
 lG x9 iU) (fun dv dA =>
 J 1 (fun rj =>
 J 2 (fun wz =>
 B1 (cg dv) fun v23 =>
 B1 (fa 3 v23) fun v24 =>
 B1 (ld v24 dA) fun v25 =>
 B1 (eR v25 (.int .i64 0)) fun v26 =>
 wz dv v26 dA) (fun fD eT gi =>
 CD eT (
 some ((.bool true), gi)) (
 rj fD gi))) (fun iA lK =>
 J 0 (fun xu =>
 B1 (cg iA) fun v33 =>
 B1 (fa 4 v33) fun kb =>
 B1 (ld kb lK) fun v35 =>
 B2 (cf (.func (.func 13) [] []) [iA, v35] lK) fun v36 uw =>
 xu  uw) (fun  DF =>
 some ((.bool false), DF)))))
theorem Tg {a0:AV}{H:Hp}{r:AV × Hp}(h:Kk JN GO cK a0 H=some r):cK (.func (.func 45) [] []) [a0] H=some r:=dp (first:=[]) (cap:=[]) (aaM (by kernel_rfl) h)
noncomputable def vR (J : JT)(G : GT)(cf : CF)(a0 a1 a2 : AV)(H : Hp) : R :=
 J 5 (fun j0 =>
 B2 (cf (.func (.func 43) [] []) [a0, a1] H) fun v1 h2 =>
 B1 (ex 0 v1) fun v3 =>
 B1 (ex 1 v1) fun v4 =>
 j0 a0 a1 a2 v3 v4 h2) (fun x5 x6 x7 x8 x9 fW =>
 J 4 (fun lG =>
 J 6 (fun jm =>
 B1 (dq x9 (.int .i64 0)) fun dk =>
 G dk true (fun oc =>
 oc x9 fW) (fun dW ku =>
 G dk true (fun G8 =>
 B1 (dq dW (.int .i64 4)) fun ew =>
 G8 ew ku) (fun gY dA =>
 B1 (pk dk gY (.bool false)) fun v21 =>
 jm x5 x6 x7 x8 x9 v21 dA) ku) fW) (fun fg dZ dX eC dO fD AP =>
 CD fD (
 some (dO, AP)) (
 J 5 (fun Gr =>
 B1 (cy dX) fun v30 =>
 B2 (cf (.func (.func 44) [] []) [fg] AP) fun v31 CY =>
 B1 (eR v30 v31) fun v33 =>
 G v33 false (fun Lx =>
 Lx eC CY) (fun v35 js =>
 G v33 false (fun P0 =>
 B1 (mW .eql (pe v35 .cD js)) fun ml =>
 P0 ml js) (fun om fK =>
 G v33 false (fun Sf =>
 Sf om fK) (fun lJ mE =>
 G lJ true (fun k44 =>
 k44 fg mE) (fun sJ uD =>
 G lJ true (fun k47 =>
 B1 (cg sJ) fun oI =>
 k47 oI uD) (fun v49 uB =>
 G lJ true (fun SS =>
 B1 (fa 1 v49) fun wC =>
 SS wC uB) (fun v53 oL =>
 G lJ true (fun k55 =>
 B1 (ld v53 oL) fun kJ =>
 k55 kJ oL) (fun v57 qR =>
 G lJ true (fun Qo =>
 B1 (FG v57 qR) fun lM =>
 Qo lM qR) (fun Er sf =>
 G lJ true (fun k63 =>
 B1 (se Er (.int .i64 64)) fun v64 =>
 k63 v64 sf) (fun yZ pn =>
 G v33 false (fun On =>
 B1 (pk lJ yZ (.bool false)) fun sD =>
 On sD pn) (fun ua fO =>
 B1 (pk v33 (.bool true) ua) fun qw =>
 Gr fg dZ dX eC qw fO) pn) sf) qR) oL) uB) uD) mE) fK) js) CY) (fun np kH lC rR Cu yn =>
 CD Cu (
 some ((.int .i64 6), yn)) (
 B2 (cf (.func (.func 45) [] []) [np] yn) fun vt uk =>
 B1 (mw .not vt) fun v80 =>
 CD v80 (
 some ((.int .i64 11), uk)) (
 lG np kH lC rR uk)))))) (fun sw vY qI eW xZ =>
 J 2 (fun U4 =>
 B1 (mW .eql (pe eW .cD xZ)) fun v87 =>
 CD v87 (
 B1 (fl [.ae, (.int .i64 0)] []) fun l88 =>
 BN (bx 81 (.agg l88) xZ) fun i89 sr =>
 B1 (cg sw) fun v91 =>
 B1 (fa 1 v91) fun G6 =>
 B1 (ld G6 sr) fun v93 =>
 B1 (xH .str v93 vY (.ptr i89 0) sr) fun vE =>
 U4 qI (.ptr i89 0) vE) (
 U4 qI eW xZ)) (fun nC oR Ds =>
 J 0 (fun j98 =>
 B1 (cg oR) fun wF =>
 B1 (fa 0 wF) fun p8 =>
 B1 (ld p8 Ds) fun wA =>
 B2 (fQ 5 1 [(.int .u8 0)] false wA nC Ds) fun DU Ig =>
 B1 (cg oR) fun n0 =>
 B1 (fa 0 n0) fun v105 =>
 B1 (st 1 v105 DU Ig) fun zd =>
 j98  zd) (fun  h107 =>
 some ((.int .i64 0), h107)))))
theorem aeU (J:JT)(G:GT)(cf:CF)(a0 a1 a2:AV)(H:Hp):ka P J G b7 an cf 27 [a0,a1,a2] H=vR J G cf a0 a1 a2 H:=by kernel_rfl
theorem Ab {a0 a1 a2:AV}{H:Hp}{r:AV × Hp}(h:vR JN GO cK a0 a1 a2 H=some r):cK (.func (.func 27) [] []) [a0,a1,a2] H=some r:=dp (first:=[]) (cap:=[]) ((aeU JN GO _ a0 a1 a2 H).trans h)
noncomputable def K5 (J : JT)(G : GT)(cf : CF)(a0 a1 : AV)(H : Hp) : R :=
 J 3 (fun j0 =>
 B2 (cf (.func (.func 43) [] []) [a0, a1] H) fun v1 h2 =>
 B1 (ex 0 v1) fun v3 =>
 B1 (ex 1 v1) fun v4 =>
 j0 a0 v3 v4 h2) (fun x5 x6 x7 h8 =>
 J 1 (fun j9 =>
 B1 (dq x7 (.int .i64 0)) fun v10 =>
 CD v10 (
 some (x7, h8)) (
 B2 (cf (.func (.func 45) [] []) [x5] h8) fun v11 ng =>
 B1 (mw .not v11) fun dk =>
 CD dk (
 some ((.int .i64 11), ng)) (
 j9 x6 ng))) (fun gx lj =>
 J 0 (fun AG =>
 B1 (cg gx) fun gh =>
 B1 (fa 0 gh) fun ew =>
 B1 (ld ew lj) fun gY =>
 B1 (cy gY) fun v20 =>
 B1 (cg gx) fun v21 =>
 B1 (fa 1 v21) fun v22 =>
 B1 (st 1 v22 v20 lj) fun kG =>
 AG  kG) (fun  rQ =>
 some ((.int .i64 0), rQ))))
theorem RF {a0 a1:AV}{H:Hp}{r:AV × Hp}(h:K5 JN GO cK a0 a1 H=some r):cK (.func (.func 34) [] []) [a0,a1] H=some r:=dp (first:=[]) (cap:=[]) (aaM (by kernel_rfl) h)
noncomputable def yJ (J : JT)(G : GT)(cf : CF)(a0 a1 a2 : AV)(H : Hp) : R :=
 J 4 (fun j0 =>
 B2 (cf (.func (.func 43) [] []) [a0, a1] H) fun v1 h2 =>
 B1 (ex 0 v1) fun v3 =>
 B1 (ex 1 v1) fun v4 =>
 j0 a0 a2 v3 v4 h2) (fun x5 x6 x7 x8 h9 =>
 J 2 (fun pP =>
 B1 (dq x8 (.int .i64 0)) fun v11 =>
 CD v11 (
 some (x8, h9)) (
 J 4 (fun jm =>
 B1 (dy x6 (.int .i64 0)) fun dk =>
 G dk false (fun oc =>
 oc x6 h9) (fun dW ku =>
 G dk false (fun G8 =>
 G8 x7 ku) (fun ew rk =>
 G dk false (fun k20 =>
 B1 (cg ew) fun v21 =>
 k20 v21 rk) (fun v22 kG =>
 G dk false (fun TD =>
 B1 (fa 0 v22) fun v25 =>
 TD v25 kG) (fun v26 iZ =>
 G dk false (fun k28 =>
 B1 (ld v26 iZ) fun v29 =>
 k28 v29 iZ) (fun v30 lK =>
 G dk false (fun k32 =>
 B1 (cy v30) fun v33 =>
 k32 v33 lK) (fun kb qh =>
 G dk false (fun k36 =>
 B1 (eR dW kb) fun v37 =>
 k36 v37 qh) (fun ml DL =>
 B1 (pk dk (.bool true) ml) fun v40 =>
 jm x5 x6 x7 v40 DL) qh) lK) iZ) kG) rk) ku) h9) (fun iO gH jq eH jY =>
 CD eH (
 some ((.int .i64 1), jY)) (
 B2 (cf (.func (.func 45) [] []) [iO] jY) fun v46 jI =>
 B1 (mw .not v46) fun oI =>
 CD oI (
 some ((.int .i64 11), jI)) (
 pP gH jq jI))))) (fun mS mc rP =>
 J 2 (fun zn =>
 B1 (cg mc) fun v53 =>
 B1 (fa 0 v53) fun oa =>
 B1 (ld oa rP) fun gQ =>
 B1 (dC 1 gQ none (some mS) none) fun kJ =>
 B1 (cg mc) fun v57 =>
 B1 (fa 0 v57) fun nh =>
 B1 (st 1 nh kJ rP) fun vn =>
 zn mS mc vn) (fun wx qz sf =>
 J 0 (fun dY =>
 B1 (cg qz) fun v64 =>
 B1 (fa 1 v64) fun yZ =>
 B1 (ld yZ sf) fun Ec =>
 B2 (fx P .min #[3, 3] [Ec, wx] sf) fun v67 CE =>
 B1 (cg qz) fun ua =>
 B1 (fa 1 ua) fun v70 =>
 B1 (st 1 v70 v67 CE) fun BZ =>
 dY  BZ) (fun  gD =>
 some ((.int .i64 0), gD)))))
theorem abZ (J:JT)(G:GT)(cf:CF)(a0 a1 a2:AV)(H:Hp):ka P J G b7 an cf 31 [a0,a1,a2] H=yJ J G cf a0 a1 a2 H:=by kernel_rfl
theorem Fq {a0 a1 a2:AV}{H:Hp}{r:AV × Hp}(h:yJ JN GO cK a0 a1 a2 H=some r):cK (.func (.func 31) [] []) [a0,a1,a2] H=some r:=dp (first:=[]) (cap:=[]) ((abZ JN GO _ a0 a1 a2 H).trans h)
noncomputable def Co (J : JT)(G : GT)(cf : CF)(a0 a1 : AV)(H : Hp) : R :=
 J 3 (fun j0 =>
 B2 (cf (.func (.func 43) [] []) [a0, a1] H) fun v1 h2 =>
 B1 (ex 0 v1) fun v3 =>
 B1 (ex 1 v1) fun v4 =>
 j0 a0 a1 v4 h2) (fun x5 x6 x7 h8 =>
 J 2 (fun j9 =>
 B1 (dq x7 (.int .i64 0)) fun v10 =>
 CD v10 (
 some (x7, h8)) (
 B2 (cf (.func (.func 45) [] []) [x5] h8) fun v11 ng =>
 B1 (mw .not v11) fun dk =>
 CD dk (
 some ((.int .i64 11), ng)) (
 j9 x5 x6 ng))) (fun gx dN ku =>
 J 0 (fun JQ =>
 B1 (cg gx) fun ew =>
 B1 (fa 1 ew) fun gY =>
 B1 (ld gY ku) fun v20 =>
 B1 (AX .str v20 dN ku) fun rD =>
 JQ  rD) (fun  mg =>
 some ((.int .i64 0), mg))))
theorem Gu {a0 a1:AV}{H:Hp}{r:AV × Hp}(h:Co JN GO cK a0 a1 H=some r):cK (.func (.func 32) [] []) [a0,a1] H=some r:=dp (first:=[]) (cap:=[]) (aaM (by kernel_rfl) h)
noncomputable def LQ (J : JT)(G : GT)(cf : CF)(a0 a1 : AV)(H : Hp) : R :=
 J 2 (fun j0 =>
 B2 (cf (.func (.func 43) [] []) [a0, a1] H) fun v1 h2 =>
 B1 (ex 0 v1) fun v3 =>
 B1 (ex 1 v1) fun v4 =>
 j0 v3 v4 h2) (fun x5 x6 h7 =>
 J 1 (fun j8 =>
 B1 (dq x6 (.int .i64 0)) fun v9 =>
 CD v9 (
 some (.tuple [.ae, x6], h7)) (
 j8 x5 h7)) (fun ic gZ =>
 B1 (cg ic) fun v12 =>
 B1 (fa 0 v12) fun dk =>
 B1 (ld dk gZ) fun jw =>
 B2 (cf (.func (.func 25) [] []) [jw] gZ) fun dW ku =>
 some (.tuple [dW, (.int .i64 0)], ku)))
theorem Wy {a0 a1:AV}{H:Hp}{r:AV × Hp}(h:LQ JN GO cK a0 a1 H=some r):cK (.func (.func 51) [] []) [a0,a1] H=some r:=dp (first:=[]) (cap:=[]) (aaM (by kernel_rfl) h)
noncomputable def XL (J : JT)(G : GT)(cf : CF)(a0 a1 : AV)(H : Hp) : R :=
 J 0 (fun j0 =>
 J 1 (fun j1 =>
 B1 (cg a0) fun v2 =>
 B1 (fa 1 v2) fun v3 =>
 B1 (ld v3 H) fun v4 =>
 B1 (ny .str .cD false v4 a1 H) fun v5 =>
 j1 v5 H) (fun x6 h7 =>
 B1 (mW .neq (pe x6 .cD h7)) fun v8 =>
 CD v8 (
 B1 (cg x6) fun v9 =>
 B1 (fa 1 v9) fun v10 =>
 B1 (ld v10 h7) fun v11 =>
 some (v11, h7)) (
 j0  h7))) (fun  ng =>
 some ((.int .i64 0), ng))
theorem aiZ {a0 a1:AV}{H:Hp}{r:AV × Hp}(h:XL JN GO cK a0 a1 H=some r):cK (.func (.func 33) [] []) [a0,a1] H=some r:=dp (first:=[]) (cap:=[]) (aaM (by kernel_rfl) h)
noncomputable def Cp (J : JT)(G : GT)(cf : CF)(j7 : K.Fn 1)(j8 : K.Fn 5)(x9 ic nP jo kP : AV)(eV : Hp) : R :=
 B1 (dy kP jo) fun dW =>
 CD dW (
 J 5 (fun AG =>
 J 5 (fun JQ =>
 B1 (ia 1 nP kP) fun ew =>
 B1 (ld ew eV) fun gY =>
 J 6 (fun EY =>
 B1 (cg x9) fun v21 =>
 B1 (fa 1 v21) fun v22 =>
 B1 (ld v22 eV) fun v23 =>
 B1 (ny .str .cD false v23 gY eV) fun v24 =>
 EY x9 ic v24 nP jo kP eV) (fun eC dO fD eT kY iA lK =>
 J 7 (fun xu =>
 B1 (cg fD) fun v33 =>
 B1 (fa 0 v33) fun kb =>
 B1 (ld kb lK) fun v35 =>
 B1 (cy v35) fun v36 =>
 B1 (cg fD) fun v37 =>
 B1 (fa 1 v37) fun ml =>
 B1 (ld ml lK) fun om =>
 B1 (kj v36 om) fun v40 =>
 xu eC dO fD v40 eT kY iA lK) (fun iO gH jq eH fG gJ nw jU =>
 B1 (pC eH (.int .i64 0)) fun v49 =>
 CD v49 (
 JQ iO gH fG gJ nw jU) (
 J 7 (fun JW =>
 B1 (cy gH) fun v51 =>
 B1 (eR v51 (.int .i64 0)) fun wC =>
 CD wC (
 J 7 (fun FZ =>
 B1 (ia 1 gH (.int .i64 0)) fun oa =>
 B1 (ld oa jU) fun gQ =>
 B2 (fx P .max #[3, 3] [gQ, (.int .i64 0)] jU) fun kJ pJ =>
 B2 (fx P .min #[3, 3] [kJ, eH] pJ) fun nh vn =>
 FZ iO gH jq nh fG gJ nw vn) (fun wx qz ky jE dB cz cL nj =>
 B1 (dC 1 qz (some (.int .i64 1)) none none) fun sD =>
 JW wx sD ky jE dB cz cL nj)) (
 JW iO gH jq (.int .i64 0) fG gJ nw jU)) (fun cQ eL eJ np kH lC rR tj =>
 J 6 (fun tf =>
 B1 (cg eJ) fun vt =>
 B1 (fa 0 vt) fun po =>
 B1 (ld po tj) fun v80 =>
 B1 (cg eJ) fun rG =>
 B1 (fa 1 rG) fun mf =>
 B1 (ld mf tj) fun nR =>
 B1 (df nR np) fun E9 =>
 B1 (dC 1 v80 none (some E9) none) fun v85 =>
 B1 (cg eJ) fun E0 =>
 B1 (fa 0 E0) fun v87 =>
 B1 (st 1 v87 v85 tj) fun QN =>
 tf cQ eL eJ kH lC rR QN) (fun lk pR oT jH pz oB Ib =>
 B1 (cg oT) fun Oe =>
 B1 (fa 0 Oe) fun Mg =>
 B1 (ld Mg Ib) fun sT =>
 B1 (cy sT) fun wF =>
 B1 (cg oT) fun p8 =>
 B1 (fa 1 p8) fun wA =>
 B1 (st 1 wA wF Ib) fun oN =>
 JQ lk pR jH pz oB oN)))))) (fun akV ald ahF KU F1 vd =>
 AG akV ald ahF KU F1 vd)) (fun sd nN kR sM rZ aie =>
 B1 (df rZ (.int .i64 1)) fun Eu =>
 j8 sd nN kR sM Eu aie)) (
 j7 x9 eV)
noncomputable def Dx (J:JT)(G:GT)(cf:CF)(j7:K.Fn 1):K.Fn 5:=jc P an J G cf 13 [1,0,1,0,0] [0,1,14,15,16] (fun q t H=>match Nat.beq q 0 with | true=>app 1 j7 (b6 [0] t) H | false=>(fun _ _ _=>none) q t H)
theorem ags (J:JT)(G:GT)(cf:CF)(j7:K.Fn 1)(j8:K.Fn 5)(x9 ic nP jo kP:AV)(eV:Hp):qu P an J G cf 13 [1,0,1,0,0] [0,1,14,15,16] (fun q t H=>match Nat.beq q 0 with | true=>app 1 j7 (b6 [0] t) H | false=>(fun _ _ _=>none) q t H) j8 [x9,ic,nP,jo,kP] eV=Cp J G cf j7 j8 x9 ic nP jo kP eV:=by kernel_rfl
theorem Z2 (cf:CF)(j7:K.Fn 1)(x9 ic nP jo kP:AV)(eV:Hp):Dx JN GO cf j7 x9 ic nP jo kP eV=Cp JN GO cf j7 (Dx JN GO cf j7) x9 ic nP jo kP eV:=aaM (b:=app 5 (Dx JN GO cf j7) [x9,ic,nP,jo,kP] eV) (by kernel_rfl) ((jz cf _ _ _ _ [x9,ic,nP,jo,kP] rfl eV).trans (ags JN GO cf j7 _ x9 ic nP jo kP eV))
noncomputable def Iq (J : JT)(G : GT)(cf : CF)(a0 a1 : AV)(H : Hp) : R :=
 B1 (cg a0) fun v0 =>
 B1 (fa 2 v0) fun v1 =>
 B1 (ld v1 H) fun v2 =>
 CD v2 (
 some (.tuple [], H)) (
 J 1 (fun j3 =>
 B2 (cf (.func (.func 35) [] []) [a0] H) fun v4 h5 =>
 B1 (cy v4) fun v6 =>
 J 1 (fun j7 =>
 Dx J G cf j7 a0 a1 v4 v6 (.int .i64 0) h5) (fun vp aiN =>
 j3 vp aiN)) (fun jn xL =>
 B1 (cg jn) fun DV =>
 B1 (fa 2 DV) fun vM =>
 B1 (st 1 vM (.bool true) xL) fun Ai =>
 B1 (cg jn) fun nY =>
 B1 (fa 3 nY) fun v124 =>
 B1 (st 1 v124 (.int .i64 0) Ai) fun GC =>
 some (.tuple [], GC)))
theorem alN (J:JT)(G:GT)(cf:CF)(a0 a1:AV)(H:Hp):ka P J G b7 an cf 13 [a0,a1] H=Iq J G cf a0 a1 H:=by kernel_rfl
theorem Wh {a0 a1:AV}{H:Hp}{r:AV × Hp}(h:Iq JN GO cK a0 a1 H=some r):cK (.func (.func 13) [] []) [a0,a1] H=some r:=dp (first:=[]) (cap:=[]) ((alN JN GO _ a0 a1 H).trans h)
noncomputable def abw (J : JT)(G : GT)(cf : CF)(a0 : AV)(H : Hp) : R :=
 B1 (cg a0) fun v0 =>
 B1 (fa 2 v0) fun v1 =>
 B1 (st 1 v1 (.bool false) H) fun h2 =>
 some (.tuple [], h2)
theorem akI {a0:AV}{H:Hp}{r:AV × Hp}(h:abw JN GO cK a0 H=some r):cK (.func (.func 14) [] []) [a0] H=some r:=dp (first:=[]) (cap:=[]) (aaM (by kernel_rfl) h)
noncomputable def Vr (J : JT)(G : GT)(cf : CF)(a0 : AV)(H : Hp) : R :=
 B1 (cg a0) fun v0 =>
 B1 (fa 2 v0) fun v1 =>
 B1 (ld v1 H) fun v2 =>
 some (v2, H)
theorem adI {a0:AV}{H:Hp}{r:AV × Hp}(h:Vr JN GO cK a0 H=some r):cK (.func (.func 19) [] []) [a0] H=some r:=dp (first:=[]) (cap:=[]) (aaM (by kernel_rfl) h)
noncomputable def Qn (J : JT)(G : GT)(cf : CF)(a0 a1 a2 : AV)(H : Hp) : R :=
 B1 (cg a0) fun v0 =>
 B1 (fa 2 v0) fun v1 =>
 B1 (ld v1 H) fun v2 =>
 CD v2 (
 some (.tuple [], H)) (
 J 2 (fun j3 =>
 B2 (fx P .max #[3, 3] [a1, (.int .i64 0)] H) fun v4 h5 =>
 B1 (cg a0) fun v6 =>
 B1 (fa 3 v6) fun v7 =>
 B1 (st 1 v7 v4 h5) fun h8 =>
 j3 a0 a2 h8) (fun x9 ic gZ =>
 B2 (cf (.func (.func 38) [] []) [ic] gZ) fun v12 kQ =>
 B1 (cg x9) fun jw =>
 B1 (fa 4 jw) fun dW =>
 B1 (st 1 dW v12 kQ) fun ku =>
 some (.tuple [], ku)))
theorem VW {a0 a1 a2:AV}{H:Hp}{r:AV × Hp}(h:Qn JN GO cK a0 a1 a2 H=some r):cK (.func (.func 18) [] []) [a0,a1,a2] H=some r:=dp (first:=[]) (cap:=[]) (aaM (by kernel_rfl) h)
noncomputable def QY (J : JT)(G : GT)(cf : CF)(a0 : AV)(H : Hp) : R :=
 TW (gA P .eql 49 true a0 .ae) <| B1 (iK P .eql 49 a0 .ae H) fun v0 =>
 CD v0 (
 some (.ae, H)) (
 B1 (fl [] []) fun l1 =>
 BN (cP H l1 3 0) fun i2 h3 =>
 B2 (fQ 3 1 [(.int .i64 0)] false (.slice i2 0 0 0 true 1) a0 h3) fun v4 h5 =>
 some (v4, h5))
theorem Yx {a0:AV}{H:Hp}{r:AV × Hp}(h:QY JN GO cK a0 H=some r):cK (.func (.func 38) [] []) [a0] H=some r:=dp (first:=[]) (cap:=[]) (aaM (by kernel_rfl) h)
noncomputable def Wt (J : JT)(G : GT)(cf : CF)(a0 : AV)(H : Hp) : R :=
 B1 (uj a0 (.int .u32 65535)) fun v0 =>
 B1 (cv .i64 v0) fun v1 =>
 B1 (td a0 (.int .u64 16)) fun v2 =>
 B1 (cv .i64 v2) fun v3 =>
 some (.tuple [v1, v3], H)
theorem adH {a0:AV}{H:Hp}{r:AV × Hp}(h:Wt JN GO cK a0 H=some r):cK (.func (.func 57) [] []) [a0] H=some r:=dp (first:=[]) (cap:=[]) (aaM (by kernel_rfl) h)
noncomputable def YF (J : JT)(G : GT)(cf : CF)(a0 a1 : AV)(H : Hp) : R :=
 B1 (oW a1 (.int .i64 65521)) fun v0 =>
 B1 (df v0 (.int .i64 65521)) fun v1 =>
 B1 (oW v1 (.int .i64 65521)) fun v2 =>
 B1 (cv .u32 v2) fun v3 =>
 B1 (sV v3 (.int .u64 16)) fun v4 =>
 B1 (oW a0 (.int .i64 65521)) fun v5 =>
 B1 (df v5 (.int .i64 65521)) fun v6 =>
 B1 (oW v6 (.int .i64 65521)) fun v7 =>
 B1 (cv .u32 v7) fun v8 =>
 B1 (rp v4 v8) fun v9 =>
 some (v9, H)
theorem aen {a0 a1:AV}{H:Hp}{r:AV × Hp}(h:YF JN GO cK a0 a1 H=some r):cK (.func (.func 58) [] []) [a0,a1] H=some r:=dp (first:=[]) (cap:=[]) (aaM (by kernel_rfl) h)
noncomputable def Ub (J : JT)(G : GT)(cf : CF)(a0 : AV)(H : Hp) : R :=
 J 2 (fun j0 =>
 B2 (cf (.func (.func 57) [] []) [a0] H) fun v1 h2 =>
 B1 (ex 0 v1) fun v3 =>
 B1 (ex 1 v1) fun v4 =>
 j0 v3 v4 h2) (fun x5 x6 h7 =>
 B1 (dy x5 (.int .i64 65521)) fun v8 =>
 G v8 true (fun k9 =>
 k9 x6 h7) (fun v10 gZ =>
 G v8 true (fun D6 =>
 B1 (dy v10 (.int .i64 65521)) fun dk =>
 D6 dk gZ) (fun jw lj =>
 B1 (pk v8 jw (.bool false)) fun fP =>
 some (fP, lj)) gZ) h7)
theorem acy {a0:AV}{H:Hp}{r:AV × Hp}(h:Ub JN GO cK a0 H=some r):cK (.func (.func 56) [] []) [a0] H=some r:=dp (first:=[]) (cap:=[]) (aaM (by kernel_rfl) h)
noncomputable def N9 (J : JT)(G : GT)(cf : CF)(qP : K.Fn 2)(SR : K.Fn 5)(gW gX fg dZ dX : AV)(fU : Hp) : R :=
 B1 (dy dX dZ) fun v26 =>
 CD v26 (
 J 5 (fun AT =>
 B1 (ia 1 fg dX) fun v28 =>
 B1 (ld v28 fU) fun v29 =>
 J 5 (fun TS =>
 B1 (cv .i64 v29) fun v31 =>
 B1 (df gW v31) fun v32 =>
 B1 (oW v32 (.int .i64 65521)) fun v33 =>
 TS v33 gX fg dZ dX fU) (fun qU vi vu mu mh DL =>
 B1 (df vi qU) fun v40 =>
 B1 (oW v40 (.int .i64 65521)) fun v41 =>
 AT qU v41 vu mu mh DL)) (fun gH jq eH fG gJ jI =>
 B1 (df gJ (.int .i64 1)) fun oI =>
 SR gH jq eH fG oI jI)) (
 qP gW gX fU)
noncomputable def Fx (J:JT)(G:GT)(cf:CF)(qP:K.Fn 2):K.Fn 5:=jc P an J G cf 40 [1,1,1,0,1,0,0] [6,7,18,19,20] (fun q t H=>match Nat.beq q 0 with | true=>app 2 qP (b6 [6,7] t) H | false=>(fun _ _ _=>none) q t H)
theorem UQ (cf:CF)(qP:K.Fn 2)(gW gX fg dZ dX:AV)(fU:Hp):Fx JN GO cf qP gW gX fg dZ dX fU=N9 JN GO cf qP (Fx JN GO cf qP) gW gX fg dZ dX fU:=aaM (b:=app 5 (Fx JN GO cf qP) [gW,gX,fg,dZ,dX] fU) (by kernel_rfl) ((jz cf 40 [1,1,1,0,1,0,0] [6,7,18,19,20] _ [gW,gX,fg,dZ,dX] rfl fU).trans (by kernel_rfl))
noncomputable def UM (J : JT)(G : GT)(cf : CF)(a0 a1 : AV)(H : Hp) : R :=
 J 2 (fun j0 =>
 B2 (cf (.func (.func 56) [] []) [a0] H) fun v1 h2 =>
 B1 (mw .not v1) fun v3 =>
 CD v3 (
 some (.tuple [(.int .u32 0), (.bool false)], h2)) (
 j0 a0 a1 h2)) (fun x4 x5 h6 =>
 J 3 (fun j7 =>
 B2 (cf (.func (.func 57) [] []) [x4] h6) fun v8 h9 =>
 B1 (ex 0 v8) fun v10 =>
 B1 (ex 1 v8) fun v11 =>
 j7 x5 v10 v11 h9) (fun jo kP gx lj =>
 J 2 (fun AG =>
 B1 (cy jo) fun gh =>
 J 2 (fun qP =>
 Fx J G cf qP kP gx jo gh (.int .i64 0) lj) (fun mS mc rP =>
 AG mS mc rP)) (fun jW kc oL =>
 B2 (cf (.func (.func 58) [] []) [jW, kc] oL) fun gQ zG =>
 some (.tuple [gQ, (.bool true)], zG))))
theorem amR {a0 a1:AV}{H:Hp}{r:AV × Hp}(h:UM JN GO cK a0 a1 H=some r):cK (.func (.func 40) [] []) [a0,a1] H=some r:=dp (first:=[]) (cap:=[]) (aaM (by kernel_rfl) h)
noncomputable def Y5 (J : JT)(G : GT)(cf : CF)(a0 : AV)(H : Hp) : R :=
 J 1 (fun j0 =>
 B2 (cf (.func (.func 40) [] []) [(.int .u32 1), a0] H) fun v1 h2 =>
 B1 (ex 0 v1) fun v3 =>
 B1 (ex 1 v1) fun v4 =>
 j0 v3 h2) (fun x5 h6 =>
 some (x5, h6))
theorem aiC {a0:AV}{H:Hp}{r:AV × Hp}(h:Y5 JN GO cK a0 H=some r):cK (.func (.func 41) [] []) [a0] H=some r:=dp (first:=[]) (cap:=[]) (aaM (by kernel_rfl) h)
noncomputable def Uj (J : JT)(G : GT)(cf : CF)(a0 a1 : AV)(H : Hp) : R :=
 J 2 (fun j0 =>
 J 3 (fun j1 =>
 B1 (dy a0 (.int .i64 0)) fun v2 =>
 G v2 false (fun k3 =>
 k3 a0 H) (fun v4 h5 =>
 G v2 false (fun k6 =>
 B1 (eR v4 (.int .i64 1048575)) fun v7 =>
 k6 v7 h5) (fun v8 h9 =>
 B1 (pk v2 (.bool true) v8) fun v10 =>
 G v10 false (fun GR =>
 GR a1 h9) (fun v12 kQ =>
 G v10 false (fun oc =>
 B1 (dy v12 (.int .i64 0)) fun dW =>
 oc dW kQ) (fun fP gI =>
 B1 (pk v10 (.bool true) fP) fun ew =>
 G ew false (fun Bn =>
 Bn a1 gI) (fun v20 rD =>
 G ew false (fun FV =>
 B1 (eR v20 (.int .i64 17592186044415)) fun v23 =>
 FV v23 rD) (fun v24 fU =>
 B1 (pk ew (.bool true) v24) fun v26 =>
 j1 a0 a1 v26 fU) rD) gI) kQ) h9) h5) H) (fun fD eT kY jO =>
 CD kY (
 some (.tuple [(.int .u64 0), (.bool false)], jO)) (
 j0 fD eT jO))) (fun iF e7 kE =>
 B1 (sV iF (.int .u64 44)) fun kb =>
 B1 (rp kb e7) fun v35 =>
 B1 (cv .u64 v35) fun v36 =>
 some (.tuple [v36, (.bool true)], kE))
theorem ajs {a0 a1:AV}{H:Hp}{r:AV × Hp}(h:Uj JN GO cK a0 a1 H=some r):cK (.func (.func 24) [] []) [a0,a1] H=some r:=dp (first:=[]) (cap:=[]) (aaM (by kernel_rfl) h)
noncomputable def Zw (J : JT)(G : GT)(cf : CF)(a0 : AV)(H : Hp) : R :=
 B1 (uj a0 (.int .u64 17592186044415)) fun v0 =>
 B1 (cv .i64 v0) fun v1 =>
 some (v1, H)
theorem ahQ {a0:AV}{H:Hp}{r:AV × Hp}(h:Zw JN GO cK a0 H=some r):cK (.func (.func 68) [] []) [a0] H=some r:=dp (first:=[]) (cap:=[]) (aaM (by kernel_rfl) h)
noncomputable def Ux (J : JT)(G : GT)(cf : CF)(a0 : AV)(H : Hp) : R :=
 B1 (td a0 (.int .u64 44)) fun v0 =>
 B1 (cv .i64 v0) fun v1 =>
 some (v1, H)
theorem amd {a0:AV}{H:Hp}{r:AV × Hp}(h:Ux JN GO cK a0 H=some r):cK (.func (.func 17) [] []) [a0] H=some r:=dp (first:=[]) (cap:=[]) (aaM (by kernel_rfl) h)
noncomputable def TB (J : JT)(G : GT)(cf : CF)(j1 : K.Fn 1)(j2 : K.Fn 4)(x3 x4 x5 x6 : AV)(h7 : Hp) : R :=
 B1 (dy x6 x5) fun v8 =>
 CD v8 (
 J 4 (fun j9 =>
 B1 (uQ (.int .i64 8) x6) fun v10 =>
 B1 (td x4 v10) fun v11 =>
 B1 (cv .u8 v11) fun v12 =>
 B1 (fl [(.int .u8 0)] [(0, 1, v12)]) fun Bb =>
 BN (cP h7 Bb 5 0) fun i14 lj =>
 B2 (fQ 5 1 [(.int .u8 0)] false x3 (.slice i14 0 1 1 true 1) lj) fun fP gI =>
 j9 fP x4 x5 x6 gI) (fun eA dv gW gX mg =>
 B1 (df gX (.int .i64 1)) fun v23 =>
 j2 eA dv gW v23 mg)) (
 j1 x3 h7)
noncomputable def E2 (J:JT)(G:GT)(cf:CF)(j1:K.Fn 1):K.Fn 4:=jc P an J G cf 39 [1,0,1,0,0] [0,1,8,9] (fun q t H=>match Nat.beq q 0 with | true=>app 1 j1 (b6 [0] t) H | false=>(fun _ _ _=>none) q t H)
theorem UO (cf:CF)(j1:K.Fn 1)(x3 x4 x5 x6:AV)(h7:Hp):E2 JN GO cf j1 x3 x4 x5 x6 h7=TB JN GO cf j1 (E2 JN GO cf j1) x3 x4 x5 x6 h7:=aaM (b:=app 4 (E2 JN GO cf j1) [x3,x4,x5,x6] h7) (by kernel_rfl) ((jz cf 39 [1,0,1,0,0] [0,1,8,9] _ [x3,x4,x5,x6] rfl h7).trans (by kernel_rfl))
noncomputable def U2 (J : JT)(G : GT)(cf : CF)(a0 a1 a2 : AV)(H : Hp) : R :=
 J 1 (fun j0 =>
 J 1 (fun j1 =>
 E2 J G cf j1 a0 a1 a2 (.int .i64 0) H) (fun dX fU =>
 j0 dX fU)) (fun dO iZ =>
 some (dO, iZ))
theorem ag1 {a0 a1 a2:AV}{H:Hp}{r:AV × Hp}(h:U2 JN GO cK a0 a1 a2 H=some r):cK (.func (.func 39) [] []) [a0,a1,a2] H=some r:=dp (first:=[]) (cap:=[]) (aaM (by kernel_rfl) h)
noncomputable def Te (J : JT)(G : GT)(cf : CF)(j2 : K.Fn 1)(j3 : K.Fn 4)(x4 x5 x6 x7 : AV)(h8 : Hp) : R :=
 B1 (dy x7 x6) fun v9 =>
 CD v9 (
 J 4 (fun pP =>
 J 6 (fun lG =>
 B1 (ia 1 x5 x7) fun v12 =>
 B1 (ld v12 h8) fun dk =>
 lG x4 x7 dk x5 x6 x7 h8) (fun gx dN dJ dS eA dv dA =>
 B1 (cv .u64 dJ) fun v21 =>
 B1 (uQ (.int .i64 8) dN) fun v22 =>
 B1 (sV v21 v22) fun v23 =>
 B1 (rp gx v23) fun v24 =>
 pP v24 dS eA dv dA)) (fun eC dO fD eT gi =>
 B1 (df eT (.int .i64 1)) fun v30 =>
 j3 eC dO fD v30 gi)) (
 j2 x4 h8)
noncomputable def Fg (J:JT)(G:GT)(cf:CF)(j2:K.Fn 1):K.Fn 4:=jc P an J G cf 84 [1,1,0,1,0,0] [3,6,7,8] (fun q t H=>match Nat.beq q 0 with | true=>app 1 j2 (b6 [3] t) H | false=>(fun _ _ _=>none) q t H)
theorem X8 (cf:CF)(j2:K.Fn 1)(x4 x5 x6 x7:AV)(h8:Hp):Fg JN GO cf j2 x4 x5 x6 x7 h8=Te JN GO cf j2 (Fg JN GO cf j2) x4 x5 x6 x7 h8:=aaM (b:=app 4 (Fg JN GO cf j2) [x4,x5,x6,x7] h8) (by kernel_rfl) ((jz cf 84 [1,1,0,1,0,0] [3,6,7,8] _ [x4,x5,x6,x7] rfl h8).trans (by kernel_rfl))
noncomputable def abj (J : JT)(G : GT)(cf : CF)(a0 : AV)(H : Hp) : R :=
 J 1 (fun j0 =>
 B1 (cy a0) fun v1 =>
 J 1 (fun j2 =>
 Fg J G cf j2 (.int .u64 0) a0 v1 (.int .i64 0) H) (fun iF CY =>
 j0 iF CY)) (fun hJ lu =>
 some (hJ, lu))
theorem adV {a0:AV}{H:Hp}{r:AV × Hp}(h:abj JN GO cK a0 H=some r):cK (.func (.func 84) [] []) [a0] H=some r:=dp (first:=[]) (cap:=[]) (aaM (by kernel_rfl) h)
noncomputable def QP (J : JT)(G : GT)(cf : CF)(a0 a1 : AV)(H : Hp) : R :=
 BN (bx 37 a1 H) fun i0 h1 =>
 J 2 (fun j2 =>
 B1 (fa 1 (.ptr i0 0)) fun v3 =>
 B1 (ld v3 h1) fun v4 =>
 B1 (cy v4) fun v5 =>
 B1 (eR v5 (.int .i64 1024)) fun v6 =>
 CD v6 (
 some (.tuple [.ae, (.int .i64 14)], h1)) (
 j2 a0 (.ptr i0 0) h1)) (fun x7 x8 h9 =>
 J 3 (fun pP =>
 B1 (fa 1 x8) fun v11 =>
 B1 (ld v11 h9) fun v12 =>
 B1 (cy v12) fun dk =>
 B1 (cv .u64 dk) fun jw =>
 B2 (cf (.func (.func 39) [] []) [.ae, jw, (.int .i64 4)] h9) fun dW ku =>
 B1 (fa 0 x8) fun gh =>
 B1 (ld gh ku) fun ew =>
 B2 (cf (.func (.func 39) [] []) [dW, ew, (.int .i64 8)] ku) fun gY dA =>
 B1 (ld gh h9) fun v21 =>
 SM ew v21 <|
 pP x7 x8 gY dA) (fun fg dZ dX fU =>
 J 4 (fun j26 =>
 B2 (cf (.func (.func 41) [] []) [dX] fU) fun v27 AP =>
 B1 (fa 1 dZ) fun v29 =>
 B1 (ld v29 AP) fun v30 =>
 B2 (cf (.func (.func 40) [] []) [v27, v30] AP) fun v31 CY =>
 B1 (ex 0 v31) fun v33 =>
 B1 (ex 1 v31) fun kb =>
 B1 (ld v29 fU) fun v35 =>
 SM v30 v35 <|
 j26 fg dZ dX v33 CY) (fun vu mu mh jT fK =>
 B1 (cv .u64 jT) fun v41 =>
 B2 (cf (.func (.func 39) [] []) [mh, v41, (.int .i64 4)] fK) fun lJ mE =>
 B1 (fa 1 mu) fun v44 =>
 B1 (ld v44 mE) fun sJ =>
 B1 (fl [.ae, .ae, .ae] [(0, 1, vu), (1, 1, lJ), (2, 1, sJ)]) fun l46 =>
 BN (cP mE l46 28 0) fun i47 jU =>
 B2 (cf (.func (.func 42) [] []) [(.slice i47 0 3 3 true 1)] jU) fun v49 uB =>
 B1 (ld v44 fK) fun v51 =>
 SM sJ v51 <|
 some (.tuple [v49, (.int .i64 0)], uB))))
theorem aeF (J:JT)(G:GT)(cf:CF)(a0 a1:AV)(H:Hp):ka P J G b7 an cf 26 [a0,a1] H=QP J G cf a0 a1 H:=by kernel_rfl
theorem acm {a0 a1:AV}{H:Hp}{r:AV × Hp}(h:QP JN GO cK a0 a1 H=some r):cK (.func (.func 26) [] []) [a0,a1] H=some r:=dp (first:=[]) (cap:=[]) ((aeF JN GO _ a0 a1 H).trans h)
noncomputable def Bl (J : JT)(G : GT)(cf : CF)(a0 : AV)(H : Hp) : R :=
 BN (cP H [(.int .u64 0), .ae] 37 0) fun i0 h1 =>
 J 2 (fun j2 =>
 B1 (cy a0) fun v3 =>
 B1 (dy v3 (.int .i64 4)) fun v4 =>
 CD v4 (
 B1 (fl [(.int .u64 0), .ae] []) fun l5 =>
 B1 (st 2 (.ptr i0 0) (.agg l5) h1) fun h6 =>
 B1 (cn 2 (.ptr i0 0) h6) fun v7 =>
 some (.tuple [v7, (.int .i64 0), (.int .i64 3)], h6)) (
 j2 a0 (.ptr i0 0) h1)) (fun x8 x9 fW =>
 J 3 (fun lG =>
 B1 (dC 1 x8 none (some (.int .i64 4)) none) fun v12 =>
 B2 (cf (.func (.func 84) [] []) [v12] fW) fun dk eV =>
 B1 (cv .i64 dk) fun dW =>
 lG x8 x9 dW eV) (fun dJ dS eA rk =>
 J 3 (fun EY =>
 B1 (eR eA (.int .i64 1024)) fun v21 =>
 CD v21 (
 B1 (fl [(.int .u64 0), .ae] []) fun l22 =>
 B1 (st 2 dS (.agg l22) rk) fun kG =>
 B1 (cn 2 dS kG) fun v24 =>
 some (.tuple [v24, (.int .i64 0), (.int .i64 14)], kG)) (
 J 4 (fun j25 =>
 B1 (cy dJ) fun v26 =>
 B1 (df (.int .i64 16) eA) fun v27 =>
 B1 (dy v26 v27) fun v28 =>
 j25 dJ dS eA v28 rk) (fun kY iA iF e7 kE =>
 CD e7 (
 B1 (fl [(.int .u64 0), .ae] []) fun l34 =>
 B1 (st 2 iA (.agg l34) kE) fun qh =>
 B1 (cn 2 iA qh) fun v36 =>
 some (.tuple [v36, (.int .i64 0), (.int .i64 3)], qh)) (
 EY kY iA iF kE)))) (fun mu mh jT fK =>
 J 4 (fun j41 =>
 B1 (dC 1 mu none (some (.int .i64 12)) none) fun lJ =>
 B2 (cf (.func (.func 41) [] []) [lJ] fK) fun HK JX =>
 B1 (df (.int .i64 16) jT) fun sJ =>
 B1 (dC 1 mu (some (.int .i64 16)) (some sJ) none) fun v46 =>
 B2 (cf (.func (.func 40) [] []) [HK, v46] JX) fun ko jU =>
 B1 (ex 0 ko) fun v49 =>
 B1 (ex 1 ko) fun mT =>
 B1 (dC 1 mu (some (.int .i64 16)) (some sJ) none) fun v51 =>
 SM v46 v51 <|
 j41 mu mh jT v49 jU) (fun jW kc qT pS zG =>
 J 3 (fun j57 =>
 J 4 (fun j58 =>
 B1 (cv .u64 pS) fun v59 =>
 B1 (dC 1 jW (some (.int .i64 12)) (some (.int .i64 16)) none) fun lM =>
 B2 (cf (.func (.func 84) [] []) [lM] zG) fun Er sf =>
 B1 (dq v59 Er) fun v63 =>
 j58 jW kc qT v63 sf) (fun dB cz cL cY CE =>
 CD cY (
 B1 (fl [(.int .u64 0), .ae] []) fun l69 =>
 B1 (st 2 cz (.agg l69) CE) fun fO =>
 B1 (cn 2 cz fO) fun qw =>
 some (.tuple [qw, (.int .i64 0), (.int .i64 2)], fO)) (
 j57 dB cz cL CE))) (fun np kH lC pV =>
 B1 (dC 1 np (some (.int .i64 4)) (some (.int .i64 12)) none) fun v76 =>
 B2 (cf (.func (.func 84) [] []) [v76] pV) fun v77 vN =>
 B1 (df (.int .i64 16) lC) fun po =>
 B1 (dC 1 np (some (.int .i64 16)) (some po) none) fun v80 =>
 B2 (cf (.func (.func 25) [] []) [v80] vN) fun rG vZ =>
 B1 (fl [(.int .u64 0), .ae] [(0, 1, v77), (1, 1, rG)]) fun l83 =>
 B1 (df (.int .i64 16) lC) fun E9 =>
 B1 (st 2 kH (.agg l83) vZ) fun xZ =>
 B1 (dC 1 np (some (.int .i64 16)) (some po) none) fun E0 =>
 SM v80 E0 <|
 B1 (cn 2 kH xZ) fun v87 =>
 some (.tuple [v87, E9, (.int .i64 0)], xZ))))))
theorem ajk (J:JT)(G:GT)(cf:CF)(a0:AV)(H:Hp):ka P J G b7 an cf 67 [a0] H=Bl J G cf a0 H:=by kernel_rfl
theorem ES {a0:AV}{H:Hp}{r:AV × Hp}(h:Bl JN GO cK a0 H=some r):cK (.func (.func 67) [] []) [a0] H=some r:=dp (first:=[]) (cap:=[]) ((ajk JN GO _ a0 H).trans h)
noncomputable def PF (J : JT)(G : GT)(cf : CF)(a0 a1 : AV)(H : Hp) : R :=
 J 2 (fun j0 =>
 B1 (dy a1 (.int .i64 0)) fun v1 =>
 CD v1 (
 none) (
 j0 a0 a1 H)) (fun x2 x3 h4 =>
 J 1 (fun j5 =>
 J 2 (fun j6 =>
 B2 (fx P .cap #[28] [x2] h4) fun v7 h8 =>
 B1 (cy x2) fun v9 =>
 B1 (kj v7 v9) fun v10 =>
 B1 (kj x3 v10) fun v11 =>
 j6 x2 v11 h8) (fun jo kP eV =>
 B1 (eR kP (.int .i64 0)) fun dW =>
 CD dW (
 B2 (fx P .cap #[28] [jo] eV) fun fP gI =>
 B1 (dC 1 jo none (some fP) none) fun ew =>
 B2 (fQ 5 1 [(.int .u8 0)] true ew kP gI) fun gY dA =>
 B1 (cy jo) fun v21 =>
 B1 (dC 1 gY none (some v21) none) fun v22 =>
 j5 v22 dA) (
 j5 jo eV))) (fun dZ rQ =>
 some (dZ, rQ)))
theorem Yj {a0 a1:AV}{H:Hp}{r:AV × Hp}(h:PF JN GO cK a0 a1 H=some r):cK (.func (.func 59) [] []) [a0,a1] H=some r:=dp (first:=[]) (cap:=[]) (aaM (by kernel_rfl) h)
noncomputable def SY (J : JT)(G : GT)(cf : CF)(j2 : K.Fn 2)(j3 : K.Fn 5)(x4 x5 x6 x7 x8 : AV)(h9 : Hp) : R :=
 B1 (dy x8 x7) fun v10 =>
 CD v10 (
 J 5 (fun lG =>
 J 5 (fun jm =>
 B1 (ia 1 x6 x8) fun dk =>
 B1 (ld dk h9) fun jw =>
 J 5 (fun Ns =>
 B1 (cy jw) fun fP =>
 B1 (df x5 fP) fun gh =>
 Ns x4 gh x6 x7 x8 h9) (fun eA dv gW gX fg kG =>
 B1 (dy dv (.int .i64 0)) fun v24 =>
 CD v24 (
 none) (
 jm eA dv gW gX fg kG))) (fun eC dO fD eT kY jO =>
 lG eC dO fD eT kY jO)) (fun iF e7 hJ qU vi js =>
 B1 (df vi (.int .i64 1)) fun v37 =>
 j3 iF e7 hJ qU v37 js)) (
 j2 x4 x5 h9)
noncomputable def FH (J:JT)(G:GT)(cf:CF)(j2:K.Fn 2):K.Fn 5:=jc P an J G cf 42 [1,1,0,1,0,0] [0,3,9,10,11] (fun q t H=>match Nat.beq q 0 with | true=>app 2 j2 (b6 [0,3] t) H | false=>(fun _ _ _=>none) q t H)
theorem ZN (cf:CF)(j2:K.Fn 2)(x4 x5 x6 x7 x8:AV)(h9:Hp):FH JN GO cf j2 x4 x5 x6 x7 x8 h9=SY JN GO cf j2 (FH JN GO cf j2) x4 x5 x6 x7 x8 h9:=aaM (b:=app 5 (FH JN GO cf j2) [x4,x5,x6,x7,x8] h9) (by kernel_rfl) ((jz cf 42 [1,1,0,1,0,0] [0,3,9,10,11] _ [x4,x5,x6,x7,x8] rfl h9).trans (by kernel_rfl))
noncomputable def N3 (J : JT)(G : GT)(cf : CF)(rA : K.Fn 1)(Qs : K.Fn 4)(mc qa jW kc : AV)(oL : Hp) : R :=
 B1 (dy kc jW) fun gQ =>
 CD gQ (
 J 4 (fun j56 =>
 B1 (ia 1 qa kc) fun v57 =>
 B1 (ld v57 oL) fun nh =>
 B2 (fQ 5 1 [(.int .u8 0)] false mc nh oL) fun v59 xK =>
 j56 v59 qa jW kc xK) (fun qz ky jE dB LR =>
 B1 (df dB (.int .i64 1)) fun Ec =>
 Qs qz ky jE Ec LR)) (
 rA mc oL)
noncomputable def FE (J:JT)(G:GT)(cf:CF)(rA:K.Fn 1):K.Fn 4:=jc P an J G cf 42 [1,1,1,1,0,1,0,0] [6,25,26,27] (fun q t H=>match Nat.beq q 2 with | true=>app 1 rA (b6 [6] t) H | false=>(fun _ _ _=>none) q t H)
theorem UC (cf:CF)(rA:K.Fn 1)(mc qa jW kc:AV)(oL:Hp):FE JN GO cf rA mc qa jW kc oL=N3 JN GO cf rA (FE JN GO cf rA) mc qa jW kc oL:=aaM (b:=app 4 (FE JN GO cf rA) [mc,qa,jW,kc] oL) (by kernel_rfl) ((jz cf 42 [1,1,1,1,0,1,0,0] [6,25,26,27] _ [mc,qa,jW,kc] rfl oL).trans (by kernel_rfl))
noncomputable def V2 (J : JT)(G : GT)(cf : CF)(a0 : AV)(H : Hp) : R :=
 J 2 (fun j0 =>
 B1 (cy a0) fun v1 =>
 J 2 (fun j2 =>
 FH J G cf j2 a0 (.int .i64 0) a0 v1 (.int .i64 0) H) (fun mh jT fK =>
 j0 mh jT fK)) (fun iO gH mE =>
 B2 (cf (.func (.func 59) [] []) [.ae, gH] mE) fun v44 jY =>
 J 1 (fun AW =>
 B1 (cy iO) fun ko =>
 J 1 (fun rA =>
 FE J G cf rA v44 iO ko (.int .i64 0) jY) (fun cY CE =>
 AW cY CE)) (fun cQ fO =>
 some (cQ, fO)))
theorem aft {a0:AV}{H:Hp}{r:AV × Hp}(h:V2 JN GO cK a0 H=some r):cK (.func (.func 42) [] []) [a0] H=some r:=dp (first:=[]) (cap:=[]) (aaM (by kernel_rfl) h)
noncomputable def xh (J : JT)(G : GT)(cf : CF)(j1 : K.Fn 2)(j2 : K.Fn 5)(x3 x4 x5 x6 x7 : AV)(h8 : Hp) : R :=
 B1 (cy x3) fun v9 =>
 B1 (dy x7 v9) fun v10 =>
 CD v10 (
 J 8 (fun lG =>
 B1 (dC 1 x3 (some x7) none none) fun v12 =>
 B2 (cf (.func (.func 67) [] []) [v12] h8) fun dk eV =>
 B1 (ex 0 dk) fun dW =>
 B1 (ex 1 dk) fun fP =>
 B1 (ex 2 dk) fun gh =>
 BN (cP eV [(.int .u64 0), .ae] 37 0) fun i18 rk =>
 B1 (st 2 (.ptr i18 0) dW rk) fun dA =>
 lG x3 x4 x5 x6 x7 (.ptr i18 0) fP gh dA) (fun gX fg dZ dX eC dO fD eT gi =>
 J 6 (fun TS =>
 J 7 (fun HG =>
 B1 (dq eT (.int .i64 0)) fun v32 =>
 G v32 false (fun k33 =>
 B1 (fa 0 dO) fun kb =>
 k33 kb gi) (fun v35 js =>
 G v32 false (fun P0 =>
 B1 (ld v35 js) fun ml =>
 P0 ml js) (fun om fK =>
 G v32 false (fun Sf =>
 B2 (cf (.func (.func 68) [] []) [om] fK) fun lJ mE =>
 Sf lJ mE) (fun v44 jY =>
 G v32 false (fun k46 =>
 k46 fg jY) (fun ko jU =>
 G v32 false (fun k49 =>
 B1 (dq v44 ko) fun mT =>
 k49 mT jU) (fun v51 uG =>
 B1 (pk v32 (.bool true) v51) fun v53 =>
 G v53 false (fun QR =>
 B1 (fa 0 dO) fun gQ =>
 QR gQ uG) (fun kJ pJ =>
 G v53 false (fun k58 =>
 B1 (ld kJ pJ) fun v59 =>
 k58 v59 pJ) (fun lM pT =>
 G v53 false (fun MP =>
 B2 (cf (.func (.func 17) [] []) [lM] pT) fun v63 PM =>
 MP v63 PM) (fun yZ pn =>
 G v53 false (fun On =>
 On dZ pn) (fun sD Wn =>
 G v53 false (fun k70 =>
 B1 (dy yZ sD) fun qw =>
 k70 qw Wn) (fun v72 Iu =>
 B1 (pk v53 (.bool true) v72) fun th =>
 HG gX fg dX eC dO fD th Iu) Wn) pn) pT) pJ) uG) jU) jY) fK) js) gi) (fun rR Cu qF yw Ss vG sw vZ =>
 CD sw (
 j1 qF yw vZ) (
 TS rR Cu qF yw Ss vG vZ))) (fun qI eW iG jR iD lS Jj =>
 J 6 (fun j90 =>
 B1 (cn 2 iD Jj) fun v91 =>
 B1 (fl [(.int .u64 0), .ae] [(0, 2, v91)]) fun Kr =>
 BN (cP Jj Kr 37 0) fun i93 vE =>
 B2 (fQ 37 2 [(.int .u64 0), .ae] false iG (.slice i93 0 1 1 true 2) vE) fun vz p7 =>
 j90 qI eW vz jR iD lS p7) (fun nJ zg tn yG lE afZ Ig =>
 B1 (df yG afZ) fun n0 =>
 B1 (df zg (.int .i64 1)) fun v105 =>
 B1 (fa 0 lE) fun sA =>
 B1 (ld sA Ig) fun v107 =>
 B2 (cf (.func (.func 17) [] []) [v107] Ig) fun zB Hc =>
 j2 nJ v105 zB tn n0 Hc)))) (
 j1 x6 x7 h8)
noncomputable def Fk (J:JT)(G:GT)(cf:CF)(j1:K.Fn 2):K.Fn 5:=jc P an J G cf 52 [1,0,0,0] [0,1,2,6,7] (fun q t H=>match Nat.beq q 0 with | true=>app 2 j1 (b6 [6,7] t) H | false=>(fun _ _ _=>none) q t H)
theorem akh (J:JT)(G:GT)(cf:CF)(j1:K.Fn 2)(j2:K.Fn 5)(x3 x4 x5 x6 x7:AV)(h8:Hp):qu P an J G cf 52 [1,0,0,0] [0,1,2,6,7] (fun q t H=>match Nat.beq q 0 with | true=>app 2 j1 (b6 [6,7] t) H | false=>(fun _ _ _=>none) q t H) j2 [x3,x4,x5,x6,x7] h8=xh J G cf j1 j2 x3 x4 x5 x6 x7 h8:=by kernel_rfl
theorem Dn (cf:CF)(j1:K.Fn 2)(x3 x4 x5 x6 x7:AV)(h8:Hp):Fk JN GO cf j1 x3 x4 x5 x6 x7 h8=xh JN GO cf j1 (Fk JN GO cf j1) x3 x4 x5 x6 x7 h8:=aaM (b:=app 5 (Fk JN GO cf j1) [x3,x4,x5,x6,x7] h8) (by kernel_rfl) ((jz cf _ _ _ _ [x3,x4,x5,x6,x7] rfl h8).trans (akh JN GO cf j1 _ x3 x4 x5 x6 x7 h8))
noncomputable def Mn (J : JT)(G : GT)(cf : CF)(a0 a1 a2 : AV)(H : Hp) : R :=
 J 2 (fun j0 =>
 J 2 (fun j1 =>
 Fk J G cf j1 a0 a1 a2 .ae (.int .i64 0) H) (fun nN kR Et =>
 j0 nN kR Et)) (fun rZ u0 akl =>
 some (.tuple [rZ, u0], akl))
theorem amD (J:JT)(G:GT)(cf:CF)(a0 a1 a2:AV)(H:Hp):ka P J G b7 an cf 52 [a0,a1,a2] H=Mn J G cf a0 a1 a2 H:=by kernel_rfl
theorem afs {a0 a1 a2:AV}{H:Hp}{r:AV × Hp}(h:Mn JN GO cK a0 a1 a2 H=some r):cK (.func (.func 52) [] []) [a0,a1,a2] H=some r:=dp (first:=[]) (cap:=[]) ((amD JN GO _ a0 a1 a2 H).trans h)
noncomputable def KI (J : JT)(G : GT)(cf : CF)(j2 : K.Fn 1)(j3 : K.Fn 4)(x4 x5 x6 x7 : AV)(h8 : Hp) : R :=
 B1 (dy x7 x6) fun v9 =>
 CD v9 (
 J 4 (fun pP =>
 J 4 (fun lG =>
 B1 (ia 1 x5 x7) fun v12 =>
 B1 (ld v12 h8) fun dk =>
 J 6 (fun gC =>
 B2 (cf (.func (.func 53) [] []) [dk] h8) fun dW ku =>
 B1 (ex 0 dW) fun gh =>
 B1 (ex 1 dW) fun ew =>
 gC x4 gh ew x5 x6 x7 ku) (fun dv gW gX fg dZ dX fU =>
 CD gX (
 B1 (fl [(.int .i64 0)] [(0, 1, gW)]) fun l26 =>
 BN (cP fU l26 2 0) fun i27 AP =>
 B2 (fQ 2 1 [(.int .i64 0)] false dv (.slice i27 0 1 1 true 1) AP) fun v29 jO =>
 lG v29 fg dZ dX jO) (
 lG dv fg dZ dX fU))) (fun iF e7 hJ qU qh =>
 pP iF e7 hJ qU qh)) (fun vu mu mh jT fK =>
 B1 (df jT (.int .i64 1)) fun v41 =>
 j3 vu mu mh v41 fK)) (
 j2 x4 h8)
noncomputable def Gc (J:JT)(G:GT)(cf:CF)(j2:K.Fn 1):K.Fn 4:=jc P an J G cf 37 [1,1,0,1,0,0] [3,8,9,10] (fun q t H=>match Nat.beq q 0 with | true=>app 1 j2 (b6 [3] t) H | false=>(fun _ _ _=>none) q t H)
theorem Na (cf:CF)(j2:K.Fn 1)(x4 x5 x6 x7:AV)(h8:Hp):Gc JN GO cf j2 x4 x5 x6 x7 h8=KI JN GO cf j2 (Gc JN GO cf j2) x4 x5 x6 x7 h8:=aaM (b:=app 4 (Gc JN GO cf j2) [x4,x5,x6,x7] h8) (by kernel_rfl) ((jz cf 37 [1,1,0,1,0,0] [3,8,9,10] _ [x4,x5,x6,x7] rfl h8).trans (by kernel_rfl))
noncomputable def W6 (J : JT)(G : GT)(cf : CF)(a0 : AV)(H : Hp) : R :=
 J 1 (fun j0 =>
 B1 (cy a0) fun v1 =>
 J 1 (fun j2 =>
 Gc J G cf j2 .ae a0 v1 (.int .i64 0) H) (fun gH mE =>
 j0 gH mE)) (fun eH jY =>
 B2 (cf (.func (.func 54) [] []) [eH] jY) fun v46 jI =>
 B2 (cf (.func (.func 55) [] []) [eH] jI) fun oI yp =>
 some (oI, yp))
theorem ai4 {a0:AV}{H:Hp}{r:AV × Hp}(h:W6 JN GO cK a0 H=some r):cK (.func (.func 37) [] []) [a0] H=some r:=dp (first:=[]) (cap:=[]) (aaM (by kernel_rfl) h)
noncomputable def IQ (J : JT)(G : GT)(cf : CF)(j6 : K.Fn 1)(gC : K.Fn 2)(oC : K.Fn 2)(Gr : K.Fn 4)(iA iF e7 hJ : AV)(lu : Hp) : R :=
 B1 (cy e7) fun v35 =>
 B1 (dy hJ v35) fun v36 =>
 CD v36 (
 J 4 (fun j37 =>
 J 4 (fun II =>
 J 5 (fun PN =>
 B1 (ia 1 e7 hJ) fun v40 =>
 B1 (ld v40 lu) fun v41 =>
 B1 (kj hJ (.int .i64 1)) fun lJ =>
 B1 (ia 1 e7 lJ) fun HK =>
 B1 (ld HK lu) fun v44 =>
 B1 (dq v41 v44) fun sJ =>
 PN iA iF e7 hJ sJ lu) (fun gJ nw rY mS mc rP =>
 CD mc (
 J 4 (fun zn =>
 B1 (ia 1 rY mS) fun v53 =>
 B1 (ld v53 rP) fun oa =>
 B1 (ia 1 gJ nw) fun gQ =>
 B1 (st 1 gQ oa rP) fun zG =>
 zn gJ nw rY mS zG) (fun qq yy Av wx pT =>
 B1 (df yy (.int .i64 1)) fun Hm =>
 II qq Hm Av wx pT)) (
 II gJ nw rY mS rP))) (fun jE dB cz cL nj =>
 j37 jE dB cz cL nj)) (fun dc cQ eL eJ gD =>
 B1 (df eJ (.int .i64 1)) fun rN =>
 Gr dc cQ eL rN gD)) (
 oC iA iF lu)
noncomputable def ER (J:JT)(G:GT)(cf:CF)(j6:K.Fn 1)(gC:K.Fn 2)(oC:K.Fn 2):K.Fn 4:=jc P an J G cf 55 [1,1,0,1,0,0,1,0,0,1,0,1,0,1,0,0] [0,3,4,5] (fun q t H=>match Nat.beq q 2 with | true=>app 2 oC (b6 [0,3] t) H | false=>(fun q t H=>match Nat.beq q 1 with | true=>app 2 gC (b6 [0,3] t) H | false=>(fun q t H=>match Nat.beq q 0 with | true=>app 1 j6 (b6 [0] t) H | false=>(fun _ _ _=>none) q t H) q t H) q t H)
theorem Qv (cf:CF)(j6:K.Fn 1)(gC:K.Fn 2)(oC:K.Fn 2)(iA iF e7 hJ:AV)(lu:Hp):ER JN GO cf j6 gC oC iA iF e7 hJ lu=IQ JN GO cf j6 gC oC (ER JN GO cf j6 gC oC) iA iF e7 hJ lu:=aaM (b:=app 4 (ER JN GO cf j6 gC oC) [iA,iF,e7,hJ] lu) (by kernel_rfl) ((jz cf 55 [1,1,0,1,0,0,1,0,0,1,0,1,0,1,0,0] [0,3,4,5] _ [iA,iF,e7,hJ] rfl lu).trans (by kernel_rfl))
noncomputable def Kl (J : JT)(G : GT)(cf : CF)(j6 : K.Fn 1)(j7 : K.Fn 2)(x8 x9 : AV)(fW : Hp) : R :=
 B1 (cy x8) fun v11 =>
 B1 (dy x9 v11) fun v12 =>
 CD v12 (
 J 2 (fun eI =>
 J 2 (fun gC =>
 J 3 (fun Ns =>
 B1 (ia 1 x8 x9) fun fP =>
 B1 (ld fP fW) fun gh =>
 B1 (kj x9 (.int .i64 1)) fun ew =>
 B1 (ia 1 x8 ew) fun gY =>
 B1 (ld gY fW) fun v20 =>
 B1 (pC gh v20) fun v21 =>
 Ns x8 x9 v21 fW) (fun fg dZ dX fU =>
 CD dX (
 B1 (dC 1 fg (some dZ) none none) fun v26 =>
 J 2 (fun AT =>
 J 2 (fun oC =>
 ER J G cf j6 gC oC fg dZ v26 (.int .i64 1) fU) (fun lC rR tj =>
 AT lC rR tj)) (fun qF yw uk =>
 B1 (dC 1 qF (some yw) none none) fun v80 =>
 B2 (fx P .clear #[83] [v80] uk) fun rG vZ =>
 B1 (dC 1 qF none (some yw) none) fun nR =>
 some (nR, vZ))) (
 gC fg dZ fU))) (fun eW iG N2 =>
 eI eW iG N2)) (fun iD lS Jj =>
 B1 (df lS (.int .i64 1)) fun AZ =>
 j7 iD AZ Jj)) (
 j6 x8 fW)
noncomputable def B5 (J:JT)(G:GT)(cf:CF)(j6:K.Fn 1):K.Fn 2:=jc P an J G cf 55 [1,1,0,1,0,0] [0,3] (fun q t H=>match Nat.beq q 0 with | true=>app 1 j6 (b6 [0] t) H | false=>(fun _ _ _=>none) q t H)
theorem Q5 (cf:CF)(j6:K.Fn 1)(x8 x9:AV)(fW:Hp):B5 JN GO cf j6 x8 x9 fW=Kl JN GO cf j6 (B5 JN GO cf j6) x8 x9 fW:=aaM (b:=app 2 (B5 JN GO cf j6) [x8,x9] fW) (by kernel_rfl) ((jz cf 55 [1,1,0,1,0,0] [0,3] _ [x8,x9] rfl fW).trans (by kernel_rfl))
noncomputable def OK (J : JT)(G : GT)(cf : CF)(a0 : AV)(H : Hp) : R :=
 J 1 (fun j0 =>
 B1 (cy a0) fun v1 =>
 B1 (dy v1 (.int .i64 2)) fun v2 =>
 CD v2 (
 some (a0, H)) (
 j0 a0 H)) (fun x3 h4 =>
 J 1 (fun j5 =>
 J 1 (fun j6 =>
 B5 J G cf j6 x3 (.int .i64 1) h4) (fun oT h92 =>
 j5 oT h92)) (fun pz vE =>
 some (pz, vE)))
theorem Zs {a0:AV}{H:Hp}{r:AV × Hp}(h:OK JN GO cK a0 H=some r):cK (.func (.func 55) [] []) [a0] H=some r:=dp (first:=[]) (cap:=[]) (aaM (by kernel_rfl) h)
noncomputable def xD (J : JT)(G : GT)(cf : CF)(a0 a1 a2 : AV)(H : Hp) : R :=
 J 3 (fun j0 =>
 J 4 (fun j1 =>
 B2 (cf (.func (.func 22) [] []) [a0] H) fun v2 h3 =>
 B1 (dy a1 v2) fun v4 =>
 G v4 false (fun k5 =>
 k5 a1 h3) (fun v6 h7 =>
 G v4 false (fun k8 =>
 B1 (eR v6 (.int .i64 1048575)) fun v9 =>
 k8 v9 h7) (fun v10 gZ =>
 B1 (pk v4 (.bool true) v10) fun v12 =>
 j1 a0 a1 a2 v12 gZ) h7) h3) (fun kP gx dN dJ gI =>
 CD dJ (
 some (.tuple [(.int .u64 0), (.int .i64 1)], gI)) (
 j0 kP gx dN gI))) (fun eA dv gW rD =>
 J 4 (fun wz =>
 B2 (cf (.func (.func 16) [] []) [eA] rD) fun v23 rQ =>
 B2 (cf (.func (.func 24) [] []) [dv, v23] rQ) fun v25 oM =>
 B1 (ex 0 v25) fun v27 =>
 B1 (ex 1 v25) fun v28 =>
 wz eA gW v27 v28 oM) (fun kY iA iF e7 kE =>
 J 4 (fun GN =>
 B2 (cf (.func (.func 25) [] []) [iA] kE) fun v35 js =>
 B1 (fl [(.int .u64 0), .ae] [(0, 1, iF), (1, 1, v35)]) fun l37 =>
 BN (cP js [(.int .u64 0), .ae] 37 0) fun i38 DL =>
 B1 (st 2 (.ptr i38 0) (.agg l37) DL) fun fK =>
 GN kY iF e7 (.ptr i38 0) fK) (fun iO gH jq eH jY =>
 J 6 (fun AW =>
 B1 (cn 2 eH jY) fun ko =>
 B2 (cf (.func (.func 26) [] []) [.ae, ko] jY) fun oI yp =>
 B1 (ex 0 oI) fun mT =>
 B1 (ex 1 oI) fun v51 =>
 AW iO gH jq eH mT v51 yp) (fun jW kc qT pS rH qq qR =>
 J 4 (fun MF =>
 B1 (dq qq (.int .i64 0)) fun lM =>
 CD lM (
 some (.tuple [(.int .u64 0), qq], qR)) (
 B1 (mw .not qT) fun Er =>
 CD Er (
 some (.tuple [(.int .u64 0), (.int .i64 6)], qR)) (
 MF jW kc pS rH qR))) (fun ky jE dB cz pn =>
 J 5 (fun Ou =>
 B1 (cg ky) fun sD =>
 B1 (fa 2 sD) fun ua =>
 B1 (ld ua pn) fun v70 =>
 B1 (cy v70) fun qw =>
 B1 (kj qw (.int .i64 1)) fun v72 =>
 Ou ky jE dB cz v72 pn) (fun kH lC rR Cu qF vN =>
 J 5 (fun Y9 =>
 J 6 (fun YI =>
 B1 (dy qF (.int .i64 0)) fun rG =>
 pQ rG false (
 B1 (cg kH) fun mf =>
 B1 (fa 2 mf) fun nR =>
 B1 (ld nR vN) fun E9 =>
 B1 (ia 2 E9 qF) fun v85 =>
 B1 (fa 1 v85) fun E0 =>
 B1 (ld E0 vN) fun v87 =>
 B1 (cg kH) fun v88 =>
 B1 (fa 1 v88) fun OV =>
 B1 (ld OV vN) fun AZ =>
 B1 (se v87 AZ) fun v91 =>
 YI kH lC rR Cu qF v91 vN) (
 YI kH lC rR Cu qF (.bool true) vN)) (fun jH pz oB nC oR nJ zq =>
 CD nJ (
 J 6 (fun S5 =>
 B2 (cf (.func (.func 16) [] []) [jH] zq) fun p8 PV =>
 B1 (fl [(.int .i64 0), (.int .i64 0)] [(0, 1, p8)]) fun Gn =>
 BN (cP PV [(.int .i64 0), (.int .i64 0)] 66 0) fun i103 Ak =>
 B1 (st 2 (.ptr i103 0) (.agg Gn) Ak) fun Bh =>
 S5 jH pz oB nC oR (.ptr i103 0) Bh) (fun KU F1 T5 sd nN kR Et =>
 J 6 (fun afe =>
 J 7 (fun IS =>
 B1 (cg KU) fun Eu =>
 B1 (fa 0 Eu) fun yb =>
 B1 (ld yb Et) fun v117 =>
 B1 (cn 2 kR Et) fun Ni =>
 B2 (cf (.func (.func 28) [] []) [Ni] Et) fun ahX yu =>
 B2 (cf (.func (.func 27) [] []) [v117, ahX, sd] yu) fun vM Ai =>
 B1 (ld yb yu) fun nY =>
 SM v117 nY <|
 IS KU F1 T5 sd nN kR vM Ai) (fun ajx wT Cd Da xP Df pf Cn =>
 B1 (dq pf (.int .i64 0)) fun E1 =>
 CD E1 (
 some (.tuple [(.int .u64 0), pf], Cn)) (
 afe ajx wT Cd Da xP Df Cn))) (fun A4 vU qc sE sX sK vQ =>
 J 5 (fun amk =>
 B1 (cg A4) fun v141 =>
 B1 (fa 2 v141) fun PR =>
 B1 (ld PR vQ) fun v143 =>
 B1 (cn 2 sK vQ) fun yF =>
 B1 (fl [(.int .i64 0), (.int .i64 0)] [(0, 2, yF)]) fun acK =>
 BN (cP vQ acK 66 0) fun i146 wR =>
 B2 (fQ 66 2 [(.int .i64 0), (.int .i64 0)] false v143 (.slice i146 0 1 1 true 2) wR) fun v148 M4 =>
 B1 (cg A4) fun Ah =>
 B1 (fa 2 Ah) fun Eg =>
 B1 (st 1 Eg v148 M4) fun yY =>
 amk A4 vU qc sE sX yY) (fun A7 sZ sR tI xY xA =>
 B1 (df xY (.int .i64 1)) fun v159 =>
 Y9 A7 sZ sR tI v159 xA)))) (
 J 6 (fun Sa =>
 B1 (cg jH) fun AB =>
 B1 (fa 0 AB) fun v162 =>
 B1 (ld v162 zq) fun KK =>
 B1 (cg jH) fun v164 =>
 B1 (fa 2 v164) fun SB =>
 B1 (ld SB zq) fun za =>
 B1 (ia 2 za oR) fun v167 =>
 B1 (cn 2 v167 zq) fun v168 =>
 B2 (cf (.func (.func 28) [] []) [v168] zq) fun Ps yg =>
 B2 (cf (.func (.func 27) [] []) [KK, Ps, nC] yg) fun v171 FM =>
 B1 (ld v162 yg) fun v173 =>
 SM KK v173 <|
 Sa jH pz oB nC oR v171 FM) (fun alT ajL uI sG qE pw Z3 =>
 B1 (dq pw (.int .i64 0)) fun amO =>
 CD amO (
 some (.tuple [(.int .u64 0), pw], Z3)) (
 Y9 alT ajL uI sG qE Z3))))) (fun xM zH GG agn Yv wb =>
 J 3 (fun aeq =>
 B1 (cg xM) fun Gm =>
 B1 (fa 2 Gm) fun akJ =>
 B1 (ld akJ wb) fun Uy =>
 B1 (ia 2 Uy Yv) fun ajH =>
 B1 (fa 1 ajH) fun v193 =>
 B1 (ld v193 wb) fun v194 =>
 B1 (cy agn) fun adn =>
 B1 (df v194 adn) fun v196 =>
 B1 (ia 2 Uy Yv) fun adv =>
 B1 (fa 1 adv) fun v198 =>
 B1 (st 1 v198 v196 wb) fun Ic =>
 aeq xM zH GG Ic) (fun Dq EP DD F6 =>
 J 1 (fun afk =>
 B1 (cg Dq) fun abC =>
 B1 (fa 3 abC) fun v206 =>
 B1 (ld v206 F6) fun agP =>
 B1 (cn 2 DD F6) fun v208 =>
 B1 (fl [(.int .u64 0), .ae] [(0, 2, v208)]) fun aeP =>
 BN (cP F6 aeP 37 0) fun i210 adY =>
 B2 (fQ 37 2 [(.int .u64 0), .ae] false agP (.slice i210 0 1 1 true 2) adY) fun v212 ad2 =>
 B1 (cg Dq) fun LD =>
 B1 (fa 3 LD) fun NB =>
 B1 (st 1 NB v212 ad2) fun M3 =>
 afk EP M3) (fun oJ afp =>
 some (.tuple [oJ, (.int .i64 0)], afp))))))))))
theorem agp (J:JT)(G:GT)(cf:CF)(a0 a1 a2:AV)(H:Hp):ka P J G b7 an cf 8 [a0,a1,a2] H=xD J G cf a0 a1 a2 H:=by kernel_rfl
theorem Kh {a0 a1 a2:AV}{H:Hp}{r:AV × Hp}(h:xD JN GO cK a0 a1 a2 H=some r):cK (.func (.func 8) [] []) [a0,a1,a2] H=some r:=dp (first:=[]) (cap:=[]) ((agp JN GO _ a0 a1 a2 H).trans h)
noncomputable def uo (J : JT)(G : GT)(cf : CF)(oX : K.Fn 0)(BR : K.Fn 3)(eH fG gJ : AV)(jI : Hp) : R :=
 J 3 (fun rA =>
 J 4 (fun Qs =>
 B1 (se gJ (.int .i64 0)) fun mT =>
 G mT true (fun SS =>
 SS eH jI) (fun wC F9 =>
 G mT true (fun QR =>
 B2 (cf (.func (.func 16) [] []) [wC] F9) fun gQ zG =>
 QR gQ zG) (fun v57 qR =>
 G mT true (fun Qo =>
 Qo fG qR) (fun lM pT =>
 G mT true (fun MP =>
 B1 (eR v57 lM) fun v63 =>
 MP v63 pT) (fun v64 LR =>
 B1 (pk mT v64 (.bool false)) fun Ec =>
 Qs eH fG gJ Ec LR) pT) qR) F9) jI) (fun cY dc cQ eL BZ =>
 CD eL (
 rA cY dc cQ BZ) (
 oX  BZ))) (fun np kH lC pV =>
 J 3 (fun zZ =>
 J 4 (fun tf =>
 B1 (cg np) fun vt =>
 B1 (fa 2 vt) fun po =>
 B1 (ld po pV) fun v80 =>
 B1 (ia 2 v80 lC) fun rG =>
 B1 (cn 2 rG pV) fun mf =>
 BN (cP pV [(.int .i64 0), (.int .i64 0)] 66 0) fun i83 h84 =>
 B1 (st 2 (.ptr i83 0) mf h84) fun xZ =>
 tf np kH lC (.ptr i83 0) xZ) (fun jR iD lS lk sr =>
 J 5 (fun j91 =>
 B1 (fa 0 lk) fun G6 =>
 B1 (ld G6 sr) fun v93 =>
 B1 (kj iD v93) fun Hg =>
 B2 (fx P .max #[2, 2] [Hg, (.int .i64 0)] sr) fun vz p7 =>
 j91 jR iD lS lk vz p7) (fun nJ zg tn yG lE oN =>
 J 6 (fun vq =>
 B1 (cn 2 yG oN) fun n0 =>
 B2 (cf (.func (.func 30) [] []) [nJ, n0, lE] oN) fun v105 zd =>
 vq nJ zg tn yG lE v105 zd) (fun F1 T5 sd nN kR sM aa3 =>
 J 7 (fun IS =>
 J 7 (fun ahO =>
 B1 (eR kR (.int .i64 0)) fun yb =>
 G yb false (fun aeC =>
 aeC sd aa3) (fun Ni xL =>
 G yb false (fun alk =>
 B1 (pC Ni (.int .i64 0)) fun vM =>
 alk vM xL) (fun Eb ai1 =>
 B1 (pk yb (.bool true) Eb) fun v124 =>
 ahO F1 T5 sd nN kR sM v124 ai1) xL) aa3) (fun wT Cd Da xP Df pf Ag xX =>
 CD Ag (
 B1 (cg wT) fun akz =>
 B1 (fa 0 akz) fun WX =>
 B1 (ld WX xX) fun Ue =>
 B1 (cn 2 xP xX) fun aex =>
 B2 (cf (.func (.func 28) [] []) [aex] xX) fun afG aa2 =>
 B2 (cf (.func (.func 31) [] []) [Ue, afG, pf] aa2) fun v139 He =>
 B1 (ld WX aa2) fun v141 =>
 SM Ue v141 <|
 IS wT Cd Da xP Df pf v139 He) (
 B1 (cg wT) fun PR =>
 B1 (fa 0 PR) fun v143 =>
 B1 (ld v143 xX) fun yF =>
 B1 (cn 2 xP xX) fun v145 =>
 B2 (cf (.func (.func 28) [] []) [v145] xX) fun v146 wR =>
 B2 (cf (.func (.func 32) [] []) [yF, v146] wR) fun v148 M4 =>
 B1 (ld v143 wR) fun Ah =>
 SM yF Ah <|
 IS wT Cd Da xP Df pf v148 M4))) (fun uO BE A7 sZ sR tI xY xA =>
 B1 (dq xY (.int .i64 0)) fun v159 =>
 CD v159 (
 some (xY, xA)) (
 J 5 (fun Sa =>
 B1 (cg uO) fun AB =>
 B1 (fa 3 AB) fun v162 =>
 B1 (ld v162 xA) fun KK =>
 B1 (fa 0 sZ) fun v164 =>
 B1 (ld v164 xA) fun SB =>
 B2 (fx P .max #[2, 2] [BE, SB] xA) fun za anO =>
 B1 (cg uO) fun v168 =>
 B1 (fa 4 v168) fun Ps =>
 B1 (ld Ps xA) fun ajN =>
 B1 (kj za ajN) fun v171 =>
 B1 (dC 2 KK none (some v171) none) fun Hb =>
 B1 (cg uO) fun v173 =>
 B1 (fa 3 v173) fun EB =>
 B1 (st 1 EB Hb xA) fun Fa =>
 Sa uO BE A7 sR tI Fa) (fun uI sG qE pw uR aaE =>
 J 4 (fun abT =>
 B1 (cg uI) fun v183 =>
 B1 (fa 2 v183) fun ali =>
 B1 (ld ali aaE) fun agE =>
 B1 (ia 2 agE qE) fun DG =>
 B1 (fa 1 DG) fun afM =>
 B1 (st 1 afM uR aaE) fun al2 =>
 abT uI sG qE pw al2) (fun acb D3 CH FQ aad =>
 J 3 (fun WU =>
 J 4 (fun afz =>
 B1 (pC FQ (.int .i64 0)) fun v196 =>
 G v196 true (fun aju =>
 aju CH aad) (fun v198 Ic =>
 G v196 true (fun ahU =>
 B1 (eR v198 (.int .i64 0)) fun v201 =>
 ahU v201 Ic) (fun amU F6 =>
 B1 (pk v196 amU (.bool false)) fun ak0 =>
 afz acb D3 CH ak0 F6) Ic) aad) (fun yi BB TQ afq Mb =>
 CD afq (
 B1 (cg yi) fun v210 =>
 B1 (fa 2 v210) fun ak8 =>
 B1 (ld ak8 Mb) fun v212 =>
 B1 (dC 2 v212 none (some TQ) none) fun agy =>
 B1 (cg yi) fun LD =>
 B1 (fa 2 LD) fun NB =>
 B1 (st 1 NB agy Mb) fun M3 =>
 WU yi BB TQ M3) (
 WU yi BB TQ Mb))) (fun oJ yN yP XY =>
 B1 (cg oJ) fun ajA =>
 B1 (fa 5 ajA) fun v222 =>
 B1 (ld v222 XY) fun VU =>
 B2 (cf (.func (.func 16) [] []) [oJ] XY) fun ajU Pq =>
 B2 (fx P .min #[2, 2] [VU, ajU] Pq) fun v226 aod =>
 B1 (cg oJ) fun v228 =>
 B1 (fa 5 v228) fun v229 =>
 B1 (st 1 v229 v226 Pq) fun yT =>
 B1 (ld v222 Pq) fun ajf =>
 SM VU ajf <|
 zZ oJ yN yP yT))))))))) (fun ahg agM adm agN =>
 B1 (kj adm (.int .i64 1)) fun v236 =>
 BR ahg agM v236 agN))
noncomputable def Aw (J:JT)(G:GT)(cf:CF)(oX:K.Fn 0):K.Fn 3:=jc P an J G cf 11 [1,1,0,1,0,0] [0,1,5] (fun q t H=>match Nat.beq q 1 with | true=>app 0 oX (b6 [] t) H | false=>(fun _ _ _=>none) q t H)
theorem ahh (J:JT)(G:GT)(cf:CF)(oX:K.Fn 0)(BR:K.Fn 3)(eH fG gJ:AV)(jI:Hp):qu P an J G cf 11 [1,1,0,1,0,0] [0,1,5] (fun q t H=>match Nat.beq q 1 with | true=>app 0 oX (b6 [] t) H | false=>(fun _ _ _=>none) q t H) BR [eH,fG,gJ] jI=uo J G cf oX BR eH fG gJ jI:=by kernel_rfl
theorem GZ (cf:CF)(oX:K.Fn 0)(eH fG gJ:AV)(jI:Hp):Aw JN GO cf oX eH fG gJ jI=uo JN GO cf oX (Aw JN GO cf oX) eH fG gJ jI:=aaM (b:=app 3 (Aw JN GO cf oX) [eH,fG,gJ] jI) (by kernel_rfl) ((jz cf _ _ _ _ [eH,fG,gJ] rfl jI).trans (ahh JN GO cf oX _ eH fG gJ jI))
noncomputable def Rj (J : JT)(G : GT)(cf : CF)(a0 a1 : AV)(H : Hp) : R :=
 J 2 (fun j0 =>
 J 3 (fun j1 =>
 B2 (cf (.func (.func 16) [] []) [a0] H) fun v2 h3 =>
 B1 (eR a1 v2) fun v4 =>
 j1 a0 a1 v4 h3) (fun x5 x6 x7 h8 =>
 CD x7 (
 some ((.int .i64 1), h8)) (
 J 3 (fun j9 =>
 B1 (cg x5) fun v10 =>
 B1 (fa 4 v10) fun v11 =>
 B1 (ld v11 h8) fun v12 =>
 B1 (dy x6 v12) fun dk =>
 j9 x5 x6 dk h8) (fun gx dN dJ gI =>
 CD dJ (
 some ((.int .i64 13), gI)) (
 J 3 (fun qP =>
 B1 (cg gx) fun gY =>
 B1 (fa 0 gY) fun v20 =>
 B1 (ld v20 gI) fun v21 =>
 B2 (cf (.func (.func 19) [] []) [v21] gI) fun v22 kG =>
 qP gx dN v22 kG) (fun dX eC dO iZ =>
 CD dO (
 some ((.int .i64 11), iZ)) (
 j0 dX eC iZ))))))) (fun eT kY jO =>
 J 0 (fun HG =>
 J 3 (fun xu =>
 B1 (cg eT) fun v33 =>
 B1 (fa 2 v33) fun kb =>
 B1 (ld kb jO) fun v35 =>
 B1 (cy v35) fun v36 =>
 B1 (kj v36 (.int .i64 1)) fun v37 =>
 xu eT kY v37 jO) (fun mh jT Gz h41 =>
 J 0 (fun oX =>
 Aw J G cf oX mh jT Gz h41) (fun  ahA =>
 HG  ahA))) (fun  Bq =>
 some ((.int .i64 0), Bq)))
theorem al3 (J:JT)(G:GT)(cf:CF)(a0 a1:AV)(H:Hp):ka P J G b7 an cf 11 [a0,a1] H=Rj J G cf a0 a1 H:=by kernel_rfl
theorem amc {a0 a1:AV}{H:Hp}{r:AV × Hp}(h:Rj JN GO cK a0 a1 H=some r):cK (.func (.func 11) [] []) [a0,a1] H=some r:=dp (first:=[]) (cap:=[]) ((al3 JN GO _ a0 a1 H).trans h)
noncomputable def ZJ (J : JT)(G : GT)(cf : CF)(a0 : AV)(H : Hp) : R :=
 B1 (cg a0) fun v0 =>
 B1 (fa 4 v0) fun v1 =>
 B1 (ld v1 H) fun v2 =>
 B1 (cg a0) fun v3 =>
 B1 (fa 3 v3) fun v4 =>
 B1 (ld v4 H) fun v5 =>
 B1 (cy v5) fun v6 =>
 B1 (df v2 v6) fun v7 =>
 some (v7, H)
theorem alP {a0:AV}{H:Hp}{r:AV × Hp}(h:ZJ JN GO cK a0 H=some r):cK (.func (.func 16) [] []) [a0] H=some r:=dp (first:=[]) (cap:=[]) (aaM (by kernel_rfl) h)
noncomputable def YL (J : JT)(G : GT)(cf : CF)(a0 : AV)(H : Hp) : R :=
 J 1 (fun j0 =>
 J 2 (fun j1 =>
 B1 (cg a0) fun v2 =>
 B1 (fa 3 v2) fun v3 =>
 B1 (ld v3 H) fun v4 =>
 B1 (cy v4) fun v5 =>
 B1 (pC v5 (.int .i64 0)) fun v6 =>
 j1 a0 v6 H) (fun x7 x8 h9 =>
 CD x8 (
 some ((.int .i64 0), h9)) (
 j0 x7 h9))) (fun ic gZ =>
 B1 (cg ic) fun v12 =>
 B1 (fa 3 v12) fun dk =>
 B1 (ld dk gZ) fun jw =>
 B1 (cg ic) fun dW =>
 B1 (fa 3 dW) fun fP =>
 B1 (ld fP gZ) fun gh =>
 B1 (cy gh) fun ew =>
 B1 (kj ew (.int .i64 1)) fun gY =>
 B1 (ia 2 jw gY) fun v20 =>
 B1 (fa 0 v20) fun v21 =>
 B1 (ld v21 gZ) fun v22 =>
 B2 (cf (.func (.func 17) [] []) [v22] gZ) fun v23 rQ =>
 some (v23, rQ))
theorem abU {a0:AV}{H:Hp}{r:AV × Hp}(h:YL JN GO cK a0 H=some r):cK (.func (.func 22) [] []) [a0] H=some r:=dp (first:=[]) (cap:=[]) (aaM (by kernel_rfl) h)
noncomputable def XU (J : JT)(G : GT)(cf : CF)(a0 : AV)(H : Hp) : R :=
 B1 (cg a0) fun v0 =>
 B1 (fa 4 v0) fun v1 =>
 B1 (ld v1 H) fun v2 =>
 some (v2, H)
theorem agm {a0:AV}{H:Hp}{r:AV × Hp}(h:XU JN GO cK a0 H=some r):cK (.func (.func 20) [] []) [a0] H=some r:=dp (first:=[]) (cap:=[]) (aaM (by kernel_rfl) h)
noncomputable def Mc (J : JT)(G : GT)(cf : CF)(a0 a1 : AV)(H : Hp) : R :=
 BN (cP H [(.int .u64 0), .ae] 37 0) fun i0 h1 =>
 J 3 (fun j2 =>
 J 4 (fun j3 =>
 B1 (cg a0) fun v4 =>
 B1 (fa 4 v4) fun v5 =>
 B1 (ld v5 h1) fun v6 =>
 B1 (dy a1 v6) fun v7 =>
 j3 a0 a1 (.ptr i0 0) v7 h1) (fun x8 x9 ic nP ng =>
 CD nP (
 B1 (fl [(.int .u64 0), .ae] []) fun Bb =>
 B1 (st 2 ic (.agg Bb) ng) fun eV =>
 B1 (cn 2 ic eV) fun dW =>
 some (.tuple [dW, (.int .i64 13)], eV)) (
 J 4 (fun AG =>
 B2 (cf (.func (.func 16) [] []) [x8] ng) fun gh iU =>
 B1 (se x9 gh) fun gY =>
 AG x8 x9 ic gY iU) (fun gW gX fg dZ rQ =>
 CD dZ (
 B1 (fl [(.int .u64 0), .ae] []) fun l25 =>
 B1 (st 2 fg (.agg l25) rQ) fun oM =>
 B1 (cn 2 fg oM) fun v27 =>
 some (.tuple [v27, (.int .i64 4)], oM)) (
 j2 gW gX fg rQ))))) (fun eT kY iA lK =>
 B1 (cg eT) fun v32 =>
 B1 (fa 3 v32) fun v33 =>
 B1 (ld v33 lK) fun kb =>
 B1 (cg eT) fun v35 =>
 B1 (fa 4 v35) fun v36 =>
 B1 (ld v36 lK) fun v37 =>
 B1 (kj kY v37) fun ml =>
 B1 (ia 2 kb ml) fun om =>
 B1 (cn 2 om lK) fun v40 =>
 B2 (cf (.func (.func 29) [] []) [v40] lK) fun v41 Bo =>
 B1 (st 2 iA v41 Bo) fun mE =>
 B1 (cn 2 iA mE) fun v44 =>
 some (.tuple [v44, (.int .i64 0)], mE))
theorem aiz (J:JT)(G:GT)(cf:CF)(a0 a1:AV)(H:Hp):ka P J G b7 an cf 10 [a0,a1] H=Mc J G cf a0 a1 H:=by kernel_rfl
theorem akL {a0 a1:AV}{H:Hp}{r:AV × Hp}(h:Mc JN GO cK a0 a1 H=some r):cK (.func (.func 10) [] []) [a0,a1] H=some r:=dp (first:=[]) (cap:=[]) ((aiz JN GO _ a0 a1 H).trans h)
noncomputable def yH (J : JT)(G : GT)(cf : CF)(jm : K.Fn 1)(eI : K.Fn 4)(gx dN dJ dS : AV)(iU : Hp) : R :=
 J 4 (fun SR =>
 J 5 (fun EY =>
 B2 (cf (.func (.func 16) [] []) [gx] iU) fun v21 mg =>
 B1 (dy dN v21) fun v23 =>
 G v23 true (fun TD =>
 TD dS mg) (fun v25 oM =>
 G v23 true (fun Bp =>
 B1 (cy v25) fun v28 =>
 Bp v28 oM) (fun v29 jO =>
 G v23 true (fun k31 =>
 k31 dJ jO) (fun v32 kE =>
 G v23 true (fun Lx =>
 B1 (dy v29 v32) fun v35 =>
 Lx v35 kE) (fun v36 uw =>
 B1 (pk v23 v36 (.bool false)) fun ml =>
 EY gx dN dJ dS ml uw) kE) jO) oM) mg) (fun jT Gz iO gH jq JX =>
 CD jq (
 SR jT Gz iO gH JX) (
 jm gH JX))) (fun fG gJ nw rY yp =>
 J 4 (fun JW =>
 B1 (cg fG) fun v51 =>
 B1 (fa 3 v51) fun wC =>
 B1 (ld wC yp) fun v53 =>
 B1 (cg fG) fun oa =>
 B1 (fa 4 oa) fun gQ =>
 B1 (ld gQ yp) fun kJ =>
 B1 (kj gJ kJ) fun v57 =>
 B1 (ia 2 v53 v57) fun nh =>
 B1 (cn 2 nh yp) fun v59 =>
 B2 (cf (.func (.func 29) [] []) [v59] yp) fun lM pT =>
 B1 (fl [(.int .u64 0), .ae] [(0, 2, lM)]) fun l62 =>
 BN (cP pT l62 37 0) fun i63 PM =>
 B2 (fQ 37 2 [(.int .u64 0), .ae] false rY (.slice i63 0 1 1 true 2) PM) fun yZ pn =>
 JW fG gJ nw yZ pn) (fun cY dc cQ eL BZ =>
 B1 (df dc (.int .i64 1)) fun v72 =>
 eI cY v72 cQ eL BZ))
noncomputable def GS (J:JT)(G:GT)(cf:CF)(jm:K.Fn 1):K.Fn 4:=jc P an J G cf 9 [1,1,0,1,0,0] [0,1,2,7] (fun q t H=>match Nat.beq q 0 with | true=>app 1 jm (b6 [7] t) H | false=>(fun _ _ _=>none) q t H)
theorem aiY (J:JT)(G:GT)(cf:CF)(jm:K.Fn 1)(eI:K.Fn 4)(gx dN dJ dS:AV)(iU:Hp):qu P an J G cf 9 [1,1,0,1,0,0] [0,1,2,7] (fun q t H=>match Nat.beq q 0 with | true=>app 1 jm (b6 [7] t) H | false=>(fun _ _ _=>none) q t H) eI [gx,dN,dJ,dS] iU=yH J G cf jm eI gx dN dJ dS iU:=by kernel_rfl
theorem I3 (cf:CF)(jm:K.Fn 1)(gx dN dJ dS:AV)(iU:Hp):GS JN GO cf jm gx dN dJ dS iU=yH JN GO cf jm (GS JN GO cf jm) gx dN dJ dS iU:=aaM (b:=app 4 (GS JN GO cf jm) [gx,dN,dJ,dS] iU) (by kernel_rfl) ((jz cf _ _ _ _ [gx,dN,dJ,dS] rfl iU).trans (aiY JN GO cf jm _ gx dN dJ dS iU))
noncomputable def Ks (J : JT)(G : GT)(cf : CF)(a0 a1 a2 : AV)(H : Hp) : R :=
 J 1 (fun j0 =>
 J 4 (fun j1 =>
 B1 (cg a0) fun v2 =>
 B1 (fa 4 v2) fun v3 =>
 B1 (ld v3 H) fun v4 =>
 B2 (fx P .max #[2, 2] [a1, v4] H) fun v5 h6 =>
 j1 a0 v5 a2 .ae h6) (fun x7 x8 x9 ic gZ =>
 J 1 (fun jm =>
 GS J G cf jm x7 x8 x9 ic gZ) (fun kH TO =>
 j0 kH TO))) (fun rR tj =>
 some (rR, tj))
theorem ahV (J:JT)(G:GT)(cf:CF)(a0 a1 a2:AV)(H:Hp):ka P J G b7 an cf 9 [a0,a1,a2] H=Ks J G cf a0 a1 a2 H:=by kernel_rfl
theorem Vd {a0 a1 a2:AV}{H:Hp}{r:AV × Hp}(h:Ks JN GO cK a0 a1 a2 H=some r):cK (.func (.func 9) [] []) [a0,a1,a2] H=some r:=dp (first:=[]) (cap:=[]) ((ahV JN GO _ a0 a1 a2 H).trans h)
noncomputable def Dm (J : JT)(G : GT)(cf : CF)(ll : K.Fn 1)(KP : K.Fn 4)(eC dO fD eT : AV)(gi : Hp) : R :=
 B1 (dy eT fD) fun v30 =>
 CD v30 (
 J 4 (fun HG =>
 J 4 (fun xu =>
 B1 (ia 2 dO eT) fun v33 =>
 B1 (cn 2 v33 gi) fun kb =>
 BN (cP gi [(.int .i64 0), (.int .i64 0)] 66 0) fun i35 js =>
 B1 (st 2 (.ptr i35 0) kb js) fun uw =>
 J 5 (fun II =>
 J 6 (fun PN =>
 B1 (cg eC) fun v40 =>
 B1 (fa 0 v40) fun v41 =>
 B1 (ld v41 uw) fun lJ =>
 B1 (cn 2 (.ptr i35 0) uw) fun HK =>
 B2 (cf (.func (.func 28) [] []) [HK] uw) fun v44 jY =>
 B2 (cf (.func (.func 33) [] []) [lJ, v44] jY) fun v46 jI =>
 B1 (fa 1 (.ptr i35 0)) fun oI =>
 B1 (ld oI jI) fun v49 =>
 B1 (pC v46 v49) fun mT =>
 B1 (ld v41 jY) fun v51 =>
 SM lJ v51 <|
 B1 (ld oI uw) fun wC =>
 SM v49 wC <|
 B1 (ld oI jY) fun v53 =>
 SM v49 v53 <|
 PN eC (.ptr i35 0) dO fD eT mT jI) (fun qT pS rH qq yy Av xK =>
 CD Av (
 xu qT rH qq yy xK) (
 II qT pS rH qq yy xK))) (fun qz ky jE dB cz pn =>
 J 5 (fun Ou =>
 B1 (cg qz) fun sD =>
 B1 (fa 0 sD) fun ua =>
 B1 (ld ua pn) fun v70 =>
 B1 (cn 2 ky pn) fun qw =>
 B2 (cf (.func (.func 28) [] []) [qw] pn) fun v72 Iu =>
 B2 (cf (.func (.func 34) [] []) [v70, v72] Iu) fun th pV =>
 B1 (ld ua Iu) fun v76 =>
 SM v70 v76 <|
 Ou qz th jE dB cz pV) (fun qF yw Ss vG sw vZ =>
 B1 (dq yw (.int .i64 0)) fun nR =>
 CD nR (
 some (yw, vZ)) (
 xu qF Ss vG sw vZ)))) (fun eW iG jR iD QN =>
 HG eW iG jR iD QN)) (fun lk pR oT jH zt =>
 B1 (df jH (.int .i64 1)) fun Hg =>
 KP lk pR oT Hg zt)) (
 ll eC gi)
noncomputable def Hj (J:JT)(G:GT)(cf:CF)(ll:K.Fn 1):K.Fn 4:=jc P an J G cf 12 [1,1,0,1,0,0] [0,14,15,16] (fun q t H=>match Nat.beq q 0 with | true=>app 1 ll (b6 [0] t) H | false=>(fun _ _ _=>none) q t H)
theorem aiL (J:JT)(G:GT)(cf:CF)(ll:K.Fn 1)(KP:K.Fn 4)(eC dO fD eT:AV)(gi:Hp):qu P an J G cf 12 [1,1,0,1,0,0] [0,14,15,16] (fun q t H=>match Nat.beq q 0 with | true=>app 1 ll (b6 [0] t) H | false=>(fun _ _ _=>none) q t H) KP [eC,dO,fD,eT] gi=Dm J G cf ll KP eC dO fD eT gi:=by kernel_rfl
theorem Ju (cf:CF)(ll:K.Fn 1)(eC dO fD eT:AV)(gi:Hp):Hj JN GO cf ll eC dO fD eT gi=Dm JN GO cf ll (Hj JN GO cf ll) eC dO fD eT gi:=aaM (b:=app 4 (Hj JN GO cf ll) [eC,dO,fD,eT] gi) (by kernel_rfl) ((jz cf _ _ _ _ [eC,dO,fD,eT] rfl gi).trans (aiL JN GO cf ll _ eC dO fD eT gi))
noncomputable def ET (J : JT)(G : GT)(cf : CF)(a0 : AV)(H : Hp) : R :=
 J 1 (fun j0 =>
 J 2 (fun j1 =>
 B1 (cg a0) fun v2 =>
 B1 (fa 0 v2) fun v3 =>
 B1 (ld v3 H) fun v4 =>
 B2 (cf (.func (.func 19) [] []) [v4] H) fun v5 h6 =>
 j1 a0 v5 h6) (fun x7 x8 h9 =>
 CD x8 (
 some ((.int .i64 11), h9)) (
 j0 x7 h9))) (fun ic gZ =>
 J 1 (fun jm =>
 J 4 (fun eI =>
 B1 (cg ic) fun jw =>
 B1 (fa 2 jw) fun dW =>
 B1 (ld dW gZ) fun fP =>
 B1 (cy fP) fun gh =>
 eI ic fP gh (.int .i64 0) gZ) (fun eA dv gW gX mg =>
 J 1 (fun ll =>
 Hj J G cf ll eA dv gW gX mg) (fun nC p7 =>
 jm nC p7))) (fun nJ zq =>
 J 0 (fun S5 =>
 B2 (cf (.func (.func 16) [] []) [nJ] zq) fun p8 PV =>
 B1 (cg nJ) fun DU =>
 B1 (fa 5 DU) fun MJ =>
 B1 (st 1 MJ p8 PV) fun Ak =>
 S5  Ak) (fun  Bh =>
 some ((.int .i64 0), Bh))))
theorem akF (J:JT)(G:GT)(cf:CF)(a0:AV)(H:Hp):ka P J G b7 an cf 12 [a0] H=ET J G cf a0 H:=by kernel_rfl
theorem Tw {a0:AV}{H:Hp}{r:AV × Hp}(h:ET JN GO cK a0 H=some r):cK (.func (.func 12) [] []) [a0] H=some r:=dp (first:=[]) (cap:=[]) ((akF JN GO _ a0 H).trans h)
noncomputable def tP (J : JT)(G : GT)(cf : CF)(eI : K.Fn 0)(gC : K.Fn 5)(dN dJ dS eA dv : AV)(dA : Hp) : R :=
 B1 (dy dv eA) fun v21 =>
 CD v21 (
 J 5 (fun wz =>
 J 7 (fun ll =>
 B1 (ia 1 dS dv) fun v24 =>
 B1 (ld v24 dA) fun v25 =>
 ll dN dJ dv v25 dS eA dv dA) (fun dO fD eT kY iA iF e7 kE =>
 J 7 (fun GN =>
 B2 (cf (.func (.func 16) [] []) [dO] kE) fun v35 js =>
 B1 (dq kY v35) fun v37 =>
 CD v37 (
 B1 (dC 1 fD (some eT) none none) fun ml =>
 B2 (cf (.func (.func 50) [] []) [dO, ml] js) fun om fK =>
 some (om, fK)) (
 GN dO fD eT kY iA iF e7 js)) (fun iO gH jq eH fG gJ nw jU =>
 B1 (fl [(.int .i64 0), (.int .i64 0)] [(0, 1, eH)]) fun Qc =>
 BN (cP jU [(.int .i64 0), (.int .i64 0)] 66 0) fun i50 rP =>
 B1 (st 2 (.ptr i50 0) (.agg Qc) rP) fun uG =>
 J 10 (fun FZ =>
 B1 (cg iO) fun oa =>
 B1 (fa 0 oa) fun gQ =>
 B1 (ld gQ uG) fun kJ =>
 B1 (cn 2 (.ptr i50 0) uG) fun v57 =>
 B2 (cf (.func (.func 28) [] []) [v57] uG) fun nh vn =>
 B2 (cf (.func (.func 51) [] []) [kJ, nh] vn) fun lM pT =>
 B1 (ex 0 lM) fun Hm =>
 B1 (ex 1 lM) fun v63 =>
 B1 (ld gQ vn) fun v64 =>
 SM kJ v64 <|
 FZ iO gH jq eH (.ptr i50 0) Hm v63 fG gJ nw pT) (fun cz cL cY dc cQ eL eJ np kH lC pV =>
 B1 (dq eJ (.int .i64 0)) fun v76 =>
 CD v76 (
 some (eJ, pV)) (
 J 10 (fun tf =>
 B2 (cf (.func (.func 22) [] []) [cz] pV) fun vt uk =>
 B2 (cf (.func (.func 52) [] []) [eL, dc, vt] uk) fun v80 zo =>
 B1 (ex 0 v80) fun mf =>
 B1 (ex 1 v80) fun nR =>
 tf cz cL cY cQ eL mf nR np kH lC zo) (fun eW iG jR iD lS lk pR oT jH pz vE =>
 B1 (fa 1 iD) fun vz =>
 B1 (st 1 vz pR vE) fun p7 =>
 J 10 (fun RV =>
 B1 (cg eW) fun sT =>
 B1 (fa 2 sT) fun wF =>
 B1 (ld wF p7) fun p8 =>
 B1 (cn 2 iD p7) fun wA =>
 B1 (fl [(.int .i64 0), (.int .i64 0)] [(0, 2, wA)]) fun Gn =>
 BN (cP p7 Gn 66 0) fun i103 Ak =>
 B2 (fQ 66 2 [(.int .i64 0), (.int .i64 0)] false p8 (.slice i103 0 1 1 true 2) Ak) fun v105 zd =>
 B1 (cg eW) fun v107 =>
 B1 (fa 2 v107) fun zB =>
 B1 (st 1 zB v105 zd) fun Hc =>
 RV eW iG jR iD lS lk pR oT jH pz Hc) (fun nN kR sM rZ u0 AR vp yM jn vg yu =>
 J 9 (fun O2 =>
 B1 (cg nN) fun Eb =>
 B1 (fa 3 Eb) fun nY =>
 B1 (ld nY yu) fun v124 =>
 B2 (fQ 37 2 [(.int .u64 0), .ae] false v124 AR yu) fun A1 QA =>
 B1 (cg nN) fun v127 =>
 B1 (fa 3 v127) fun Lu =>
 B1 (st 1 Lu A1 QA) fun S9 =>
 O2 nN kR sM rZ u0 vp yM jn vg S9) (fun pf Ag Qh A4 vU qc sE sX sK vQ =>
 B1 (cy vU) fun SP =>
 B1 (dy qc SP) fun v141 =>
 CD v141 (
 J 3 (fun SF =>
 J 4 (fun Nj =>
 B1 (df Qh (.int .i64 1)) fun yF =>
 B1 (dC 1 Ag (some yF) none none) fun v145 =>
 B2 (cf (.func (.func 50) [] []) [pf, v145] vQ) fun v146 wR =>
 Nj pf A4 qc v146 wR) (fun Pd Pg OG uO yY =>
 B1 (dq uO (.int .i64 0)) fun N8 =>
 CD N8 (
 some (uO, yY)) (
 SF Pd Pg OG yY))) (fun sZ sR tI yK =>
 B1 (cg sZ) fun Ql =>
 B1 (fa 0 Ql) fun v159 =>
 B1 (ld v159 yK) fun v160 =>
 B1 (cn 2 sR yK) fun AB =>
 B2 (cf (.func (.func 28) [] []) [AB] yK) fun v162 GA =>
 B2 (cf (.func (.func 31) [] []) [v160, v162, tI] GA) fun v164 Re =>
 B1 (ld v159 GA) fun za =>
 SM v160 za <|
 some (v164, Re))) (
 wz pf Ag sE sX sK vQ))))))))) (fun yR zC vb RE RA FM =>
 B1 (df RA (.int .i64 1)) fun v173 =>
 gC yR zC vb RE v173 FM)) (
 eI  dA)
noncomputable def uA (J:JT)(G:GT)(cf:CF)(eI:K.Fn 0):K.Fn 5:=jc P an J G cf 36 [1,1,0,1,0,0] [0,1,22,23,24] (fun q t H=>match Nat.beq q 0 with | true=>app 0 eI (b6 [] t) H | false=>(fun _ _ _=>none) q t H)
theorem Pe (J:JT)(G:GT)(cf:CF)(eI:K.Fn 0)(gC:K.Fn 5)(dN dJ dS eA dv:AV)(dA:Hp):qu P an J G cf 36 [1,1,0,1,0,0] [0,1,22,23,24] (fun q t H=>match Nat.beq q 0 with | true=>app 0 eI (b6 [] t) H | false=>(fun _ _ _=>none) q t H) gC [dN,dJ,dS,eA,dv] dA=tP J G cf eI gC dN dJ dS eA dv dA:=by kernel_rfl
theorem Ck (cf:CF)(eI:K.Fn 0)(dN dJ dS eA dv:AV)(dA:Hp):uA JN GO cf eI dN dJ dS eA dv dA=tP JN GO cf eI (uA JN GO cf eI) dN dJ dS eA dv dA:=aaM (b:=app 5 (uA JN GO cf eI) [dN,dJ,dS,eA,dv] dA) (by kernel_rfl) ((jz cf _ _ _ _ [dN,dJ,dS,eA,dv] rfl dA).trans (Pe JN GO cf eI _ dN dJ dS eA dv dA))
noncomputable def zV (J : JT)(G : GT)(cf : CF)(a0 a1 : AV)(H : Hp) : R :=
 J 2 (fun j0 =>
 B1 (cy a1) fun v1 =>
 B1 (eR v1 (.int .i64 0)) fun v2 =>
 CD v2 (
 B1 (ia 1 a1 (.int .i64 0)) fun v3 =>
 B1 (ld v3 H) fun v4 =>
 B1 (cg a0) fun v5 =>
 B1 (fa 4 v5) fun v6 =>
 B1 (st 1 v6 v4 H) fun h7 =>
 j0 a0 a1 h7) (
 j0 a0 a1 H)) (fun x8 x9 fW =>
 J 0 (fun lG =>
 B1 (cy x9) fun v12 =>
 J 0 (fun eI =>
 uA J G cf eI x8 x9 x9 v12 (.int .i64 0) fW) (fun  Qi =>
 lG  Qi)) (fun  Fa =>
 some ((.int .i64 0), Fa)))
theorem QG (J:JT)(G:GT)(cf:CF)(a0 a1:AV)(H:Hp):ka P J G b7 an cf 36 [a0,a1] H=zV J G cf a0 a1 H:=by kernel_rfl
theorem PE {a0 a1:AV}{H:Hp}{r:AV × Hp}(h:zV JN GO cK a0 a1 H=some r):cK (.func (.func 36) [] []) [a0,a1] H=some r:=dp (first:=[]) (cap:=[]) ((QG JN GO _ a0 a1 H).trans h)
noncomputable def Oh (J : JT)(G : GT)(cf : CF)(rj : K.Fn 1)(wz : K.Fn 4)(dZ dX eC dO : AV)(iZ : Hp) : R :=
 B1 (dy dO eC) fun v28 =>
 CD v28 (
 J 4 (fun Gr =>
 B1 (ia 2 dX dO) fun v30 =>
 B1 (cn 2 v30 iZ) fun v31 =>
 BN (cP iZ [(.int .u64 0), .ae] 37 0) fun i32 kE =>
 B1 (st 2 (.ptr i32 0) v31 kE) fun lu =>
 B1 (cn 2 (.ptr i32 0) lu) fun v35 =>
 B2 (cf (.func (.func 47) [] []) [v35] lu) fun v36 uw =>
 B1 (df dZ v36) fun ml =>
 Gr ml dX eC dO uw) (fun jT Gz iO gH mE =>
 B1 (df gH (.int .i64 1)) fun v44 =>
 wz jT Gz iO v44 mE)) (
 rj dZ iZ)
noncomputable def Ez (J:JT)(G:GT)(cf:CF)(rj:K.Fn 1):K.Fn 4:=jc P an J G cf 30 [1,1,0,1,0,0] [7,23,24,25] (fun q t H=>match Nat.beq q 0 with | true=>app 1 rj (b6 [7] t) H | false=>(fun _ _ _=>none) q t H)
theorem abf (cf:CF)(rj:K.Fn 1)(dZ dX eC dO:AV)(iZ:Hp):Ez JN GO cf rj dZ dX eC dO iZ=Oh JN GO cf rj (Ez JN GO cf rj) dZ dX eC dO iZ:=aaM (b:=app 4 (Ez JN GO cf rj) [dZ,dX,eC,dO] iZ) (by kernel_rfl) ((jz cf 30 [1,1,0,1,0,0] [7,23,24,25] _ [dZ,dX,eC,dO] rfl iZ).trans (by kernel_rfl))
noncomputable def aaI (J : JT)(G : GT)(cf : CF)(a0 a1 a2 : AV)(H : Hp) : R :=
 BN (bx 66 a1 H) fun i0 h1 =>
 J 1 (fun j2 =>
 J 4 (fun j3 =>
 B1 (cg a0) fun v4 =>
 B1 (fa 3 v4) fun v5 =>
 B1 (ld v5 h1) fun v6 =>
 B1 (fa 0 (.ptr i0 0)) fun v7 =>
 B1 (ld v7 h1) fun v8 =>
 B1 (cg a0) fun v9 =>
 B1 (fa 4 v9) fun v10 =>
 B1 (ld v10 h1) fun v11 =>
 B1 (kj v8 v11) fun v12 =>
 B1 (dC 2 v6 (some v12) none none) fun dk =>
 B1 (dC 2 dk none (some a2) none) fun jw =>
 B1 (cy jw) fun dW =>
 j3 (.int .i64 0) jw dW (.int .i64 0) h1) (fun dJ dS eA dv dA =>
 J 1 (fun rj =>
 Ez J G cf rj dJ dS eA dv dA) (fun fG uD =>
 j2 fG uD))) (fun nw jU =>
 some (nw, jU))
theorem acq {a0 a1 a2:AV}{H:Hp}{r:AV × Hp}(h:aaI JN GO cK a0 a1 a2 H=some r):cK (.func (.func 30) [] []) [a0,a1,a2] H=some r:=dp (first:=[]) (cap:=[]) (aaM (by kernel_rfl) h)
noncomputable def Yz (J : JT)(G : GT)(cf : CF)(a0 : AV)(H : Hp) : R :=
 BN (bx 66 a0 H) fun i0 h1 =>
 J 1 (fun j2 =>
 B1 (fa 0 (.ptr i0 0)) fun v3 =>
 B1 (ld v3 h1) fun v4 =>
 B2 (cf (.func (.func 46) [] []) [v4] h1) fun v5 h6 =>
 B1 (ex 0 v5) fun v7 =>
 B1 (ex 1 v5) fun v8 =>
 j2 v7 h6) (fun x9 fW =>
 some (x9, fW))
theorem ahK {a0:AV}{H:Hp}{r:AV × Hp}(h:Yz JN GO cK a0 H=some r):cK (.func (.func 28) [] []) [a0] H=some r:=dp (first:=[]) (cap:=[]) (aaM (by kernel_rfl) h)
noncomputable def aaj (J : JT)(G : GT)(cf : CF)(a0 : AV)(H : Hp) : R :=
 BN (bx 37 a0 H) fun i0 h1 =>
 B1 (fa 1 (.ptr i0 0)) fun v2 =>
 B1 (ld v2 h1) fun v3 =>
 B1 (cy v3) fun v4 =>
 B1 (df (.int .i64 16) v4) fun v5 =>
 some (v5, h1)
theorem ahz {a0:AV}{H:Hp}{r:AV × Hp}(h:aaj JN GO cK a0 H=some r):cK (.func (.func 47) [] []) [a0] H=some r:=dp (first:=[]) (cap:=[]) (aaM (by kernel_rfl) h)
noncomputable def qd (J : JT)(G : GT)(cf : CF)(fF : K.Fn 6)(dY : K.Fn 8)(dB cz cL cY dc cQ eL eJ : AV)(gD : Hp) : R :=
 B1 (cy dB) fun rN =>
 B1 (dy eJ rN) fun th =>
 CD th (
 J 8 (fun R4 =>
 J 8 (fun zZ =>
 J 8 (fun tf =>
 J 9 (fun zL =>
 B1 (ia 4 dB eJ) fun po =>
 B1 (fa 2 po) fun v80 =>
 B1 (ld v80 gD) fun rG =>
 B1 (cy rG) fun mf =>
 B1 (eR mf (.int .i64 200)) fun nR =>
 zL dB cz cL cY dc cQ eL eJ nR gD) (fun eW iG jR iD lS lk pR oT jH zt =>
 CD jH (
 some ((.bool true), zt)) (
 tf eW iG jR iD lS lk pR oT zt))) (fun oB nC oR nJ zg tn yG lE oN =>
 J 10 (fun vq =>
 B1 (ia 4 oB lE) fun n0 =>
 B1 (fa 2 n0) fun v105 =>
 B1 (ld v105 oN) fun sA =>
 B2 (cf (.func (.func 8) [] []) [nJ, (.int .i64 1), sA] oN) fun v107 vd =>
 B1 (ex 0 v107) fun v109 =>
 B1 (ex 1 v107) fun HP =>
 vq oB nC oR nJ zg tn yG lE v109 HP vd) (fun kR sM rZ u0 AR vp yM jn vg Gf E4 =>
 J 10 (fun N6 =>
 B1 (cv .u64 jn) fun nY =>
 B1 (df (.int .u64 17592186044416) nY) fun v124 =>
 B1 (ia 4 kR jn) fun A1 =>
 B1 (fa 2 A1) fun LA =>
 B1 (ld LA E4) fun v127 =>
 B1 (fl [(.int .u64 0), .ae] [(0, 1, v124), (1, 1, v127)]) fun QI =>
 B1 (fl [(.int .u64 0), .ae] [(0, 2, (.agg QI))]) fun Om =>
 BN (cP E4 Om 37 0) fun i130 Cn =>
 B2 (fQ 37 2 [(.int .u64 0), .ae] false vp (.slice i130 0 1 1 true 2) Cn) fun E1 EM =>
 N6 kR sM rZ u0 AR E1 yM jn vg Gf EM) (fun vU qc sE sX sK Bc En Fy QL Pw zb =>
 B1 (dq Pw (.int .i64 0)) fun v145 =>
 CD v145 (
 fF qc sE sX sK Bc En zb) (
 J 8 (fun Tk =>
 J 9 (fun Mo =>
 B1 (ia 2 Bc Fy) fun v148 =>
 B1 (fa 0 v148) fun RO =>
 B1 (ld RO zb) fun Ah =>
 B1 (dq QL Ah) fun Eg =>
 Mo vU qc sE sX sK Bc En Fy Eg zb) (fun BE A7 sZ sR tI xY Oj OS NV Hi =>
 CD NV (
 some ((.bool false), Hi)) (
 Tk BE A7 sZ sR tI xY Oj OS Hi))) (fun FD NH RX OJ ON yR zC vb yg =>
 J 9 (fun RM =>
 B1 (ia 4 FD vb) fun Hb =>
 B1 (fa 0 Hb) fun v173 =>
 B1 (ld v173 yg) fun EB =>
 B1 (pC EB (.int .i64 1)) fun v175 =>
 RM FD NH RX OJ ON yR zC vb v175 yg) (fun uI sG qE pw uR vW xM zH GG HC =>
 CD GG (
 B2 (cf (.func (.func 12) [] []) [pw] HC) fun DG wb =>
 B1 (dq DG (.int .i64 0)) fun SU =>
 CD SU (
 fF sG qE pw uR vW xM wb) (
 B1 (cy vW) fun Gm =>
 zZ uI sG qE pw uR vW Gm zH wb)) (
 zZ uI sG qE pw uR vW xM zH HC)))))))) (fun D3 CH FQ N5 R0 P9 TM M5 M7 =>
 R4 D3 CH FQ N5 R0 P9 TM M5 M7)) (fun PL Dq EP DD O4 Tz yi BB LG =>
 B1 (df BB (.int .i64 1)) fun v208 =>
 dY PL Dq EP DD O4 Tz yi v208 LG)) (
 fF cz cL cY dc cQ eL gD)
noncomputable def tD (J:JT)(G:GT)(cf:CF)(fF:K.Fn 6):K.Fn 8:=jc P an J G cf 5 [1,1,1,1,1,1,1,1,0,1,0,0] [0,2,3,9,10,11,12,13] (fun q t H=>match Nat.beq q 0 with | true=>app 6 fF (b6 [2,3,9,10,11,12] t) H | false=>(fun _ _ _=>none) q t H)
theorem QH (J:JT)(G:GT)(cf:CF)(fF:K.Fn 6)(dY:K.Fn 8)(dB cz cL cY dc cQ eL eJ:AV)(gD:Hp):qu P an J G cf 5 [1,1,1,1,1,1,1,1,0,1,0,0] [0,2,3,9,10,11,12,13] (fun q t H=>match Nat.beq q 0 with | true=>app 6 fF (b6 [2,3,9,10,11,12] t) H | false=>(fun _ _ _=>none) q t H) dY [dB,cz,cL,cY,dc,cQ,eL,eJ] gD=qd J G cf fF dY dB cz cL cY dc cQ eL eJ gD:=by kernel_rfl
theorem wj (cf:CF)(fF:K.Fn 6)(dB cz cL cY dc cQ eL eJ:AV)(gD:Hp):tD JN GO cf fF dB cz cL cY dc cQ eL eJ gD=qd JN GO cf fF (tD JN GO cf fF) dB cz cL cY dc cQ eL eJ gD:=aaM (b:=app 8 (tD JN GO cf fF) [dB,cz,cL,cY,dc,cQ,eL,eJ] gD) (by kernel_rfl) ((jz cf _ _ _ _ [dB,cz,cL,cY,dc,cQ,eL,eJ] rfl gD).trans (QH JN GO cf fF _ dB cz cL cY dc cQ eL eJ gD))
noncomputable def oO (J : JT)(G : GT)(cf : CF)(a0 a1 a2 a3 : AV)(H : Hp) : R :=
 B2 (cf (.func (.func 6) [] []) [] H) fun v0 h1 =>
 B1 (mw .not v0) fun v2 =>
 CD v2 (
 some ((.bool false), h1)) (
 J 4 (fun j3 =>
 J 5 (fun j4 =>
 B1 (cy a0) fun v5 =>
 B1 (eR v5 (.int .i64 15)) fun v6 =>
 G v6 false (fun k7 =>
 k7 a2 h1) (fun v8 h9 =>
 G v6 false (fun Tj =>
 B1 (cy v8) fun v11 =>
 Tj v11 h9) (fun v12 kQ =>
 G v6 false (fun oc =>
 B1 (eR v12 (.int .i64 70)) fun dW =>
 oc dW kQ) (fun fP gI =>
 B1 (pk v6 (.bool true) fP) fun ew =>
 G ew false (fun Bn =>
 Bn a1 gI) (fun v20 rD =>
 G ew false (fun FV =>
 B1 (dy v20 (.int .i64 1)) fun v23 =>
 FV v23 rD) (fun v24 fU =>
 B1 (pk ew (.bool true) v24) fun v26 =>
 G v26 false (fun Bp =>
 Bp a1 fU) (fun v28 gi =>
 G v26 false (fun Mv =>
 B1 (eR v28 (.int .i64 100)) fun v31 =>
 Mv v31 gi) (fun v32 kE =>
 B1 (pk v26 (.bool true) v32) fun kb =>
 j4 a0 a1 a2 a3 kb kE) gi) fU) rD) gI) kQ) h9) h1) (fun vi vu mu mh jT fK =>
 CD jT (
 some ((.bool true), fK)) (
 j3 vi vu mu mh fK))) (fun iO gH jq eH jY =>
 J 6 (fun AW =>
 B2 (cf (.func (.func 7) [] []) [(.int .i64 100)] jY) fun ko jU =>
 B1 (ex 0 ko) fun v49 =>
 B1 (ex 1 ko) fun mT =>
 AW iO gH jq eH v49 mT jU) (fun qa jW kc qT pS rH pJ =>
 B1 (mW .eql (pe pS .cD pJ)) fun nh =>
 CD nh (
 some ((.bool false), pJ)) (
 B2 (cf (.func (.func 18) [] []) [rH, jW, kc] pJ) fun v59 xK =>
 J 6 (fun xw =>
 J 6 (fun fF =>
 tD J G cf fF qa kc qT pS rH .ae (.int .i64 0) (.int .i64 0) xK) (fun Q0 Nz RT Ob LL LY Tb =>
 xw Q0 Nz RT Ob LL LY Tb)) (fun SW oJ yN yP Mq OY Tc =>
 J 4 (fun zj =>
 J 7 (fun OO =>
 B2 (cf (.func (.func 19) [] []) [yP] Tc) fun N0 Ee =>
 B1 (mw .not N0) fun v227 =>
 G v227 true (fun Ra =>
 Ra oJ Ee) (fun v229 yT =>
 G v227 true (fun Pj =>
 B1 (se v229 (.int .i64 0)) fun v232 =>
 Pj v232 yT) (fun v233 Fw =>
 B1 (pk v227 v233 (.bool false)) fun rX =>
 G rX true (fun Rf =>
 Rf oJ Fw) (fun Pk Bq =>
 G rX true (fun QK =>
 QK yN Bq) (fun Q9 Ej =>
 G rX true (fun RC =>
 B2 (cf (.func (.func 16) [] []) [Q9] Ej) fun MW Tt =>
 RC MW Tt) (fun Sx G1 =>
 G rX true (fun Sb =>
 B1 (xV Pk Sx) fun Qw =>
 Sb Qw G1) (fun Qe Ox =>
 B1 (pk rX Qe (.bool false)) fun QE =>
 OO SW oJ yN yP Mq OY QE Ox) G1) Ej) Bq) Fw) yT) Ee) (fun Aa AU NC zY A6 yI MG G7 =>
 CD MG (
 B2 (cf (.func (.func 11) [] []) [NC, AU] G7) fun am8 Hy =>
 B1 (eR yI AU) fun Oa =>
 CD Oa (
 zj Aa zY A6 AU Hy) (
 zj Aa zY A6 yI Hy)) (
 zj Aa zY A6 yI G7))) (fun Oq zr Oz Nf Q6 =>
 B2 (cf (.func (.func 13) [] []) [zr, Oq] Q6) fun ak1 Rt =>
 B2 (cf (.func (.func 14) [] []) [zr] Rt) fun alp OI =>
 J 4 (fun LJ =>
 B2 (cf (.func (.func 15) [] []) [zr, (.int .i64 100)] OI) fun DQ P1 =>
 B1 (ex 0 DQ) fun Ml =>
 B1 (ex 1 DQ) fun QU =>
 LJ Oz Nf Ml QU P1) (fun ED NT s6 SL DX =>
 J 2 (fun OF =>
 J 3 (fun Qj =>
 B1 (dq SL (.int .i64 0)) fun zR =>
 G zR false (fun PC =>
 PC s6 DX) (fun Sn Ax =>
 G zR false (fun NP =>
 B1 (mW .eql (pe Sn .cD Ax)) fun SX =>
 NP SX Ax) (fun PG Fp =>
 B1 (pk zR (.bool true) PG) fun wy =>
 G wy false (fun Qf =>
 Qf s6 Fp) (fun Nt DJ =>
 G wy false (fun Py =>
 B2 (cf (.func (.func 20) [] []) [Nt] DJ) fun MM Sy =>
 Py MM Sy) (fun PT EG =>
 G wy false (fun MZ =>
 B1 (dq PT (.int .i64 0)) fun M6 =>
 MZ M6 EG) (fun Pv Ed =>
 B1 (pk wy (.bool true) Pv) fun so =>
 G so false (fun O1 =>
 O1 s6 Ed) (fun R8 Ga =>
 G so false (fun NN =>
 B2 (cf (.func (.func 16) [] []) [R8] Ga) fun TX OM =>
 NN TX OM) (fun R5 EV =>
 G so false (fun Q3 =>
 Q3 NT EV) (fun P7 HJ =>
 G so false (fun Ny =>
 B1 (dy R5 P7) fun Sk =>
 Ny Sk HJ) (fun R9 HR =>
 B1 (pk so (.bool true) R9) fun qm =>
 G qm false (fun M0 =>
 M0 s6 HR) (fun Np EE =>
 G qm false (fun M9 =>
 B2 (cf (.func (.func 16) [] []) [Np] EE) fun Oi ML =>
 M9 Oi ML) (fun SA Ek =>
 G qm false (fun Rc =>
 Rc ED Ek) (fun QQ EZ =>
 G qm false (fun k333 =>
 B1 (cy QQ) fun O7 =>
 k333 O7 EZ) (fun O9 Gx =>
 G qm false (fun MO =>
 B1 (eR SA O9) fun S3 =>
 MO S3 Gx) (fun QC TK =>
 B1 (pk qm (.bool true) QC) fun Qt =>
 Qj ED s6 Qt TK) Gx) EZ) Ek) EE) HR) HJ) EV) Ga) Ed) EG) DJ) Fp) Ax) DX) (fun Sl Ma Oo DH =>
 CD Oo (
 some ((.bool false), DH)) (
 OF Sl Ma DH))) (fun Mh DB OU =>
 B2 (cf (.func (.func 16) [] []) [DB] OU) fun Me NK =>
 B1 (dC 2 Mh none (some Me) none) fun Pp =>
 B2 (cf (.func (.func 21) [] []) [DB, (.int .i64 0), Pp] NK) fun TF Ph =>
 some (TF, Ph)))))))))
theorem Qr (J:JT)(G:GT)(cf:CF)(a0 a1 a2 a3:AV)(H:Hp):ka P J G b7 an cf 5 [a0,a1,a2,a3] H=oO J G cf a0 a1 a2 a3 H:=by kernel_rfl
theorem uL {a0 a1 a2 a3:AV}{H:Hp}{r:AV × Hp}(h:oO JN GO cK a0 a1 a2 a3 H=some r):cK (.func (.func 5) [] []) [a0,a1,a2,a3] H=some r:=dp (first:=[]) (cap:=[]) ((Qr JN GO _ a0 a1 a2 a3 H).trans h)
noncomputable def Il (J : JT)(G : GT)(cf : CF)(pD : K.Fn 0)(xw : K.Fn 5)(ky jE dB cz cL : AV)(nj : Hp) : R :=
 B1 (cy dB) fun sD =>
 B1 (dy cL sD) fun ua =>
 CD ua (
 J 5 (fun j70 =>
 J 7 (fun j71 =>
 B1 (df jE cL) fun v72 =>
 B2 (cf (.func (.func 10) [] []) [ky, v72] nj) fun rN TO =>
 B1 (ex 0 rN) fun v75 =>
 B1 (ex 1 rN) fun v76 =>
 BN (cP TO [(.int .u64 0), .ae] 37 0) fun i77 vN =>
 B1 (st 2 (.ptr i77 0) v75 vN) fun uk =>
 j71 ky jE dB cz cL (.ptr i77 0) v76 uk) (fun vG sw vY qI eW iG jR mj =>
 J 6 (fun FR =>
 B1 (dq jR (.int .i64 0)) fun OV =>
 pQ OV false (
 B1 (fa 0 iG) fun AZ =>
 B1 (ld AZ mj) fun v91 =>
 B1 (ia 2 vY eW) fun G6 =>
 B1 (fa 0 G6) fun v93 =>
 B1 (ld v93 mj) fun Hg =>
 B1 (dq v91 Hg) fun vz =>
 pQ vz false (
 B1 (fa 1 iG) fun Oe =>
 B1 (ld Oe mj) fun Mg =>
 B1 (xB Mg mj) fun sT =>
 B1 (ia 2 vY eW) fun wF =>
 B1 (fa 1 wF) fun p8 =>
 B1 (ld p8 mj) fun wA =>
 B1 (xB wA mj) fun DU =>
 B1 (Br sT DU) fun MJ =>
 pQ MJ false (
 B1 (ia 2 qI eW) fun n0 =>
 B1 (fa 0 n0) fun v105 =>
 B1 (ld v105 mj) fun sA =>
 B1 (fa 0 iG) fun v107 =>
 B1 (ld v107 mj) fun zB =>
 B1 (dq sA zB) fun v109 =>
 pQ v109 false (
 B1 (ia 2 qI eW) fun HP =>
 B1 (fa 1 HP) fun aih =>
 B1 (ld aih mj) fun agY =>
 B1 (xB agY mj) fun al9 =>
 B1 (fa 1 iG) fun amy =>
 B1 (ld amy mj) fun Eu =>
 B1 (xB Eu mj) fun yb =>
 B1 (Br al9 yb) fun v117 =>
 FR vG sw vY qI eW v117 mj) (
 FR vG sw vY qI eW (.bool true) mj)) (
 FR vG sw vY qI eW (.bool true) mj)) (
 FR vG sw vY qI eW (.bool true) mj)) (
 FR vG sw vY qI eW (.bool true) mj)) (fun jn vg Gf afN af1 alD X2 =>
 CD alD (
 some ((.bool false), X2)) (
 j70 jn vg Gf afN af1 X2)))) (fun wT Cd Da xP Df ai6 =>
 B1 (df Df (.int .i64 1)) fun v131 =>
 xw wT Cd Da xP v131 ai6)) (
 pD  nj)
noncomputable def DN (J:JT)(G:GT)(cf:CF)(pD:K.Fn 0):K.Fn 5:=jc P an J G cf 21 [1,1,1,1,0,1,0,0] [0,1,2,7,8] (fun q t H=>match Nat.beq q 0 with | true=>app 0 pD (b6 [] t) H | false=>(fun _ _ _=>none) q t H)
theorem ajl (J:JT)(G:GT)(cf:CF)(pD:K.Fn 0)(xw:K.Fn 5)(ky jE dB cz cL:AV)(nj:Hp):qu P an J G cf 21 [1,1,1,1,0,1,0,0] [0,1,2,7,8] (fun q t H=>match Nat.beq q 0 with | true=>app 0 pD (b6 [] t) H | false=>(fun _ _ _=>none) q t H) xw [ky,jE,dB,cz,cL] nj=Il J G cf pD xw ky jE dB cz cL nj:=by kernel_rfl
theorem Zb (cf:CF)(pD:K.Fn 0)(ky jE dB cz cL:AV)(nj:Hp):DN JN GO cf pD ky jE dB cz cL nj=Il JN GO cf pD (DN JN GO cf pD) ky jE dB cz cL nj:=aaM (b:=app 5 (DN JN GO cf pD) [ky,jE,dB,cz,cL] nj) (by kernel_rfl) ((jz cf _ _ _ _ [ky,jE,dB,cz,cL] rfl nj).trans (ajl JN GO cf pD _ ky jE dB cz cL nj))
noncomputable def NI (J : JT)(G : GT)(cf : CF)(a0 a1 a2 : AV)(H : Hp) : R :=
 J 3 (fun j0 =>
 J 4 (fun j1 =>
 B2 (cf (.func (.func 20) [] []) [a0] H) fun v2 h3 =>
 B1 (dq v2 a1) fun v4 =>
 G v4 false (fun k5 =>
 k5 a0 h3) (fun v6 h7 =>
 G v4 false (fun k8 =>
 B2 (cf (.func (.func 16) [] []) [v6] h7) fun v9 fW =>
 k8 v9 fW) (fun v11 ng =>
 G v4 false (fun Qx =>
 Qx a1 ng) (fun jw lj =>
 G v4 false (fun Q1 =>
 Q1 a2 lj) (fun gh iU =>
 G v4 false (fun Bn =>
 B1 (cy gh) fun v20 =>
 Bn v20 iU) (fun v21 mg =>
 G v4 false (fun k23 =>
 B1 (df jw v21) fun v24 =>
 k23 v24 mg) (fun v25 oM =>
 G v4 false (fun Bp =>
 B1 (dq v11 v25) fun v28 =>
 Bp v28 oM) (fun v29 jO =>
 B1 (pk v4 (.bool true) v29) fun v31 =>
 j1 a0 a1 a2 v31 jO) oM) mg) iU) lj) ng) h7) h3) (fun e7 hJ qU vi js =>
 CD vi (
 some ((.bool false), js)) (
 j0 e7 hJ qU js))) (fun mu mh jT fK =>
 B2 (cf (.func (.func 9) [] []) [mu, (.int .i64 0), (.int .i64 10000)] fK) fun v41 Bo =>
 J 4 (fun BR =>
 J 5 (fun j44 =>
 B1 (cy v41) fun sJ =>
 B1 (cy jT) fun v46 =>
 B1 (dq sJ v46) fun ko =>
 j44 mu mh jT v41 ko Bo) (fun rY mS mc qa jW F9 =>
 CD jW (
 some ((.bool false), F9)) (
 BR rY mS mc qa F9))) (fun qT pS rH qq qR =>
 J 0 (fun MF =>
 J 0 (fun pD =>
 DN J G cf pD qT pS rH qq (.int .i64 0) qR) (fun  xX =>
 MF  xX)) (fun  EM =>
 some ((.bool true), EM))))
theorem abX (J:JT)(G:GT)(cf:CF)(a0 a1 a2:AV)(H:Hp):ka P J G b7 an cf 21 [a0,a1,a2] H=NI J G cf a0 a1 a2 H:=by kernel_rfl
theorem adM {a0 a1 a2:AV}{H:Hp}{r:AV × Hp}(h:NI JN GO cK a0 a1 a2 H=some r):cK (.func (.func 21) [] []) [a0,a1,a2] H=some r:=dp (first:=[]) (cap:=[]) ((abX JN GO _ a0 a1 a2 H).trans h)
noncomputable def Ij (J : JT)(G : GT)(cf : CF)(a0 : AV)(H : Hp) : R :=
 J 3 (fun j0 =>
 B2 (cf (.func (.func 23) [] []) [(.int .i64 65536)] H) fun v1 h2 =>
 B1 (ex 0 v1) fun v3 =>
 B1 (ex 1 v1) fun v4 =>
 j0 a0 v3 v4 h2) (fun x5 x6 x7 h8 =>
 J 2 (fun j9 =>
 J 3 (fun pP =>
 B1 (dq x7 (.int .i64 0)) fun v11 =>
 G v11 false (fun D6 =>
 D6 x6 h8) (fun dk eV =>
 G v11 false (fun R2 =>
 B1 (mW .eql (pe dk .cD eV)) fun fP =>
 R2 fP eV) (fun gh iU =>
 B1 (pk v11 (.bool true) gh) fun gY =>
 pP x5 x6 gY iU) eV) h8) (fun gW gX fg kG =>
 CD fg (
 some (.tuple [.cD, .cD], kG)) (
 j9 gW gX kG))) (fun dX eC oM =>
 J 3 (fun AT =>
 B2 (cf (.func (.func 15) [] []) [eC, dX] oM) fun v28 gi =>
 B1 (ex 0 v28) fun v30 =>
 B1 (ex 1 v28) fun v31 =>
 AT eC v30 v31 gi) (fun e7 hJ qU qh =>
 B1 (dq qU (.int .i64 0)) fun v36 =>
 CD v36 (
 some (.tuple [.cD, .cD], qh)) (
 some (.tuple [hJ, e7], qh)))))
theorem VJ {a0:AV}{H:Hp}{r:AV × Hp}(h:Ij JN GO cK a0 H=some r):cK (.func (.func 7) [] []) [a0] H=some r:=dp (first:=[]) (cap:=[]) (aaM (by kernel_rfl) h)
noncomputable def xz (J : JT)(G : GT)(cf : CF)(dY : K.Fn 1)(wa : K.Fn 5)(cz cL cY dc cQ : AV)(fO : Hp) : R :=
 B1 (dy cQ dc) fun qw =>
 CD qw (
 J 5 (fun MK =>
 B1 (ia 2 cY cQ) fun rN =>
 B1 (cn 2 rN fO) fun th =>
 BN (cP fO [(.int .i64 0), (.int .i64 0)] 66 0) fun i75 tj =>
 B1 (st 2 (.ptr i75 0) th tj) fun yn =>
 J 6 (fun zL =>
 B1 (cn 2 (.ptr i75 0) yn) fun po =>
 B2 (cf (.func (.func 28) [] []) [po] yn) fun v80 zo =>
 B2 (cf (.func (.func 34) [] []) [cz, v80] zo) fun mf Pm =>
 zL cz cL mf cY dc cQ Pm) (fun eW iG jR iD lS lk sr =>
 B1 (dq jR (.int .i64 0)) fun v91 =>
 CD v91 (
 some (.tuple [.cD, jR], sr)) (
 MK eW iG iD lS lk sr))) (fun jH pz oB nC oR Ds =>
 B1 (df oR (.int .i64 1)) fun sT =>
 wa jH pz oB nC sT Ds)) (
 dY cL fO)
noncomputable def tR (J:JT)(G:GT)(cf:CF)(dY:K.Fn 1):K.Fn 5:=jc P an J G cf 15 [1,1,1,1,1,0,1,0,0] [0,6,38,39,40] (fun q t H=>match Nat.beq q 0 with | true=>app 1 dY (b6 [6] t) H | false=>(fun _ _ _=>none) q t H)
theorem Qb (J:JT)(G:GT)(cf:CF)(dY:K.Fn 1)(wa:K.Fn 5)(cz cL cY dc cQ:AV)(fO:Hp):qu P an J G cf 15 [1,1,1,1,1,0,1,0,0] [0,6,38,39,40] (fun q t H=>match Nat.beq q 0 with | true=>app 1 dY (b6 [6] t) H | false=>(fun _ _ _=>none) q t H) wa [cz,cL,cY,dc,cQ] fO=xz J G cf dY wa cz cL cY dc cQ fO:=by kernel_rfl
theorem KG (cf:CF)(dY:K.Fn 1)(cz cL cY dc cQ:AV)(fO:Hp):tR JN GO cf dY cz cL cY dc cQ fO=xz JN GO cf dY (tR JN GO cf dY) cz cL cY dc cQ fO:=aaM (b:=app 5 (tR JN GO cf dY) [cz,cL,cY,dc,cQ] fO) (by kernel_rfl) ((jz cf _ _ _ _ [cz,cL,cY,dc,cQ] rfl fO).trans (Qb JN GO cf dY _ cz cL cY dc cQ fO))
noncomputable def Cf (J : JT)(G : GT)(cf : CF)(a0 a1 : AV)(H : Hp) : R :=
 J 2 (fun j0 =>
 J 3 (fun j1 =>
 B1 (mW .eql (pe a0 .cD H)) fun v2 =>
 G v2 false (fun k3 =>
 k3 a1 H) (fun v4 h5 =>
 G v2 false (fun k6 =>
 B1 (dy v4 (.int .i64 64)) fun v7 =>
 k6 v7 h5) (fun v8 h9 =>
 B1 (pk v2 (.bool true) v8) fun v10 =>
 G v10 false (fun GR =>
 GR a1 h9) (fun v12 kQ =>
 G v10 false (fun oc =>
 B1 (eR v12 (.int .i64 1048576)) fun dW =>
 oc dW kQ) (fun fP gI =>
 B1 (pk v10 (.bool true) fP) fun ew =>
 j1 a0 a1 ew gI) kQ) h9) h5) H) (fun dv gW gX mg =>
 CD gX (
 some (.tuple [.cD, (.int .i64 1)], mg)) (
 j0 dv gW mg))) (fun dZ dX fU =>
 B2 (cf (.func (.func 19) [] []) [dZ] fU) fun v26 iZ =>
 CD v26 (
 some (.tuple [.cD, (.int .i64 11)], iZ)) (
 J 2 (fun oC =>
 B1 (fl [.cD, (.int .i64 0), .ae, .ae, (.int .i64 0), (.int .i64 0)] [(0, 1, dZ), (1, 1, dX)]) fun Tl =>
 BN (bx 57 (.agg Tl) iZ) fun i30 lK =>
 oC dZ (.ptr i30 0) lK) (fun e7 hJ lu =>
 J 2 (fun RG =>
 J 3 (fun OT =>
 B2 (cf (.func (.func 35) [] []) [e7] lu) fun v37 DF =>
 B2 (cf (.func (.func 37) [] []) [v37] DF) fun om fK =>
 B2 (cf (.func (.func 36) [] []) [hJ, om] fK) fun v41 Bo =>
 OT e7 hJ v41 Bo) (fun jq eH fG uD =>
 B1 (dq fG (.int .i64 0)) fun ko =>
 CD ko (
 some (.tuple [.cD, fG], uD)) (
 RG jq eH uD))) (fun rY mS uB =>
 J 1 (fun QM =>
 J 5 (fun zn =>
 B1 (cg mS) fun v53 =>
 B1 (fa 2 v53) fun oa =>
 B1 (ld oa uB) fun gQ =>
 B1 (cy gQ) fun kJ =>
 zn rY mS gQ kJ (.int .i64 0) uB) (fun qq yy Av wx qz sf =>
 J 1 (fun dY =>
 tR J G cf dY qq yy Av wx qz sf) (fun tn SZ =>
 QM tn SZ))) (fun lE oN =>
 J 1 (fun vq =>
 B2 (cf (.func (.func 16) [] []) [lE] oN) fun n0 Bh =>
 B1 (cg lE) fun sA =>
 B1 (fa 5 sA) fun v107 =>
 B1 (st 1 v107 n0 Bh) fun vd =>
 vq lE vd) (fun sd NU =>
 some (.tuple [sd, (.int .i64 0)], NU)))))))
theorem OZ (J:JT)(G:GT)(cf:CF)(a0 a1:AV)(H:Hp):ka P J G b7 an cf 15 [a0,a1] H=Cf J G cf a0 a1 H:=by kernel_rfl
theorem U1 {a0 a1:AV}{H:Hp}{r:AV × Hp}(h:Cf JN GO cK a0 a1 H=some r):cK (.func (.func 15) [] []) [a0,a1] H=some r:=dp (first:=[]) (cap:=[]) ((OZ JN GO _ a0 a1 H).trans h)
noncomputable def XJ (J : JT)(G : GT)(cf : CF)(a0 : AV)(H : Hp) : R :=
 BN (bx 37 a0 H) fun i0 h1 =>
 BN (cP h1 [(.int .u64 0), .ae] 37 0) fun i2 h3 =>
 B1 (fa 0 (.ptr i0 0)) fun v4 =>
 B1 (ld v4 h3) fun v5 =>
 B1 (fa 1 (.ptr i0 0)) fun v6 =>
 B1 (ld v6 h3) fun v7 =>
 B2 (cf (.func (.func 25) [] []) [v7] h3) fun v8 h9 =>
 B1 (fl [(.int .u64 0), .ae] [(0, 1, v5), (1, 1, v8)]) fun l10 =>
 B1 (st 2 (.ptr i2 0) (.agg l10) h9) fun gZ =>
 B1 (ld v4 h9) fun v12 =>
 SM v5 v12 <|
 B1 (cn 2 (.ptr i2 0) gZ) fun dk =>
 some (dk, gZ)
theorem aed {a0:AV}{H:Hp}{r:AV × Hp}(h:XJ JN GO cK a0 H=some r):cK (.func (.func 29) [] []) [a0] H=some r:=dp (first:=[]) (cap:=[]) (aaM (by kernel_rfl) h)
end
end Go.Proofs.YtbdlbhlhnpblpaaGreatDoor.du
