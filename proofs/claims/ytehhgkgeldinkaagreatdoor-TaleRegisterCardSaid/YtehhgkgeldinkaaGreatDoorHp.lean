/- A small library on memory, over any program: what may have changed ('Only'), maps as association lists ('MapAt'), slices that are read ('RdS') and owned ('OwnS'), append onto an owned slice. -/
import Derived.WalkKit
import Derived.WalkLawsBesides
import Derived.Deep.AppendSrc
import Derived.Deep.Upon
import Derived.Deep.MidRow
import Derived.Lib.Hide
import Derived.Test.YtehhgkgeldinkaaGreatDoorRows
import Derived.Deep.QuietTactic
import Derived.BigQuiet
import Derived.StillTailTactics
import Derived.Deep.RegionHeld3
import Derived.Deep.RegionLaw
import Derived.Deep.AppendLies
import Derived.Outline
import Derived.KernelRfl
import Derived.Lib.VarintBits
import Derived.Lib.ConvBytes
import Derived.Lib.AtoiErrMem
import Derived.Lib.IfaceEq
import Derived.Test.YtehhgkgeldinkaaGreatDoorShelf
import Derived.Shelf.Strconv.ToError
import Derived.Shelf.Strconv.ToErrorRange
import Derived.Shelf.Strings.Prefix
import Derived.Test.YtehhgkgeldinkaaGreatDoorAm15
import Derived.Test.YtehhgkgeldinkaaGreatDoorAm9
import Derived.Shelf.SortM.Plain
import Derived.Shelf.SortM.SortNone
import Derived.Test.YtehhgkgeldinkaaGreatDoorProg
import Derived.ProofKit
import Derived.Deep.LoopGhost
import Derived.Lib.Walk
import Derived.Lib.SliceRun
import Derived.Test.YtehhgkgeldinkaaGreatDoorAm14
import Derived.Tactics
import Derived.Tactics2
import Derived.Deep.RegionWith
import Derived.Laws.NewBlocks
import Derived.StillTactics
import Derived.Laws.IdiomStrings
import Derived.Laws.World
import Derived.Test.YtehhgkgeldinkaaGreatDoorFreeWalk
import Derived.Test.YtehhgkgeldinkaaGreatDoorNamesWalk
set_option linter.unusedVariables false
set_option linter.unusedSimpArgs false
set_option linter.unusedSectionVars false
namespace Go.Proofs.YtehhgkgeldinkaaGreatDoor.Hp
open Go Go.RowKit
theorem Lt (a b:ByteArray):(a==b)=decide (a=b):=by
 cases a with | mk a=>
 cases b with | mk b=>
 rw[aiL]
 constructor
 ·intro h
  have h2:(a==b)=true:=h
  simp at h2
  simp[h2]
 ·intro h
  simp at h
  subst h
  show (a==a)=true
  simp
theorem abE (a b:ByteArray):(a.toList==b.toList)=decide (a=b):=by rw[<-beq_toListBytes,Lt]
theorem NY (a b:ByteArray):a.toList=b.toList↔a=b:=by
 have:=abE a b
 rw[aiL] at this
 simpa using this
theorem Xt {w:World}{a:Addr}{u v:Value}(h:w.cell? a=some u):(w.setCell a v).cell? a=some v:=World.cell?_setCell_same w a v h
theorem YB {w:World}{a b:Addr}{v:Value}(h:a≠b):(w.setCell a v).cell? b=w.cell? b:=World.cell?_setCell_other w a b v h
structure dB (S:Nat->Prop)(w w':World):Prop where
 os:w'.os=w.os
 tape:w'.tape=w.tape
 output:w'.output=w.output
 size:w.heap.size<=w'.heap.size
 block:∀ k,k<w.heap.size->¬ S k->w'.heap[k]? = w.heap[k]?
theorem dB.refl (S:Nat->Prop)(w:World):dB S w w:=⟨rfl,rfl,rfl,aar _,fun _ _ _=>rfl⟩
theorem dB.trans {S T:Nat->Prop}{a b c:World}(h:dB S a b)(k:dB T b c)(hT:∀ x,x<a.heap.size->T x->S x):dB S a c:=
 ⟨k.os.trans h.os,k.tape.trans h.tape,k.output.trans h.output,abS h.size k.size,
  fun i hi hn=>(k.block i (adi hi h.size) (fun ht=>hn (hT i hi ht))).trans (h.block i hi hn)⟩
theorem dB.mono {S T:Nat->Prop}{a b:World}(h:dB S a b)(hS:∀ x,x<a.heap.size->S x->T x):dB T a b:=
 ⟨h.os,h.tape,h.output,h.size,fun i hi hn=>h.block i hi (fun hs=>hn (hS i hi hs))⟩
theorem dB.drew {S:Nat->Prop}{a w:World}(h:dB S a w):dB S a w.drew:=⟨h.os,h.tape,h.output,h.size,h.block⟩
theorem dB.alloc {S:Nat->Prop}{a w:World}(h:dB S a w)(o:Obj):dB S a (w.alloc o):=
 ⟨h.os,h.tape,h.output,by simp;have:=h.size;omega,fun i hi hn=>by
  rw[Below.heap_alloc w o i (adi hi h.size)];exact h.block i hi hn⟩
theorem dB.setCell {S:Nat->Prop}{a w:World}(h:dB S a w)(p:Addr)(hp:a.heap.size<=p.block\/S p.block)(u:Value):dB S a (w.setCell p u):=
 ⟨h.os,h.tape,h.output,by simpa using h.size,fun i hi hn=>by
  rw[Below.heap_setCell w p u i (fun e=>by subst e;rcases hp with hp | hp;omega;exact hn hp)];exact h.block i hi hn⟩
theorem dB.cell {S:Nat->Prop}{w w':World}(h:dB S w w'){p:Addr}(hp:p.block<w.heap.size)(hn:¬ S p.block):w'.cell? p=w.cell? p:=World.cell?_of_block (h.block p.block hp hn)
theorem dB.frozen {S:Nat->Prop}{w w':World}(h:dB S w w'){p:Addr}(hp:p.block<w.heap.size)(hn:¬ S p.block):w'.frozen? p=w.frozen? p:=World.frozen?_of_block (h.block p.block hp hn)
theorem dB.O9 {S:Nat->Prop}{w w':World}(h:dB S w w'){p:Addr}{v:Value}(hc:w.cell? p=some v)(hn:¬ S p.block):w'.cell? p=some v:=
 (h.cell (World.block_lt_of_cell? w p hc) hn).trans hc
theorem dB.below {S:Nat->Prop}{w w':World}(h:dB S w w')(B:Nat)(hB:B<=w.heap.size)(hS:∀ x,S x->B<=x):Below B w w':=
 ⟨h.os,h.tape,h.output,h.size,fun k hk=>h.block k (by omega) (fun hs=>by have:=hS k hs;omega)⟩
theorem dB.zk {w w':World}(h:Below w.heap.size w w')(S:Nat->Prop):dB S w w':=⟨h.os,h.tape,h.output,h.size,fun k hk _=>h.block k hk⟩
structure WY (P:Program)(kt:TypeId){κ:Type} [DecidableEq κ] (ek:κ->Value):Prop where
 check:∀ em k w,(Instr.checkKey em 10000 kt (ek k)).run P w = .ok () w
 find:∀ k (es:List MapEntry) (ks:List κ) w,es.map (·.key)=ks.map ek->
  (Instr.findKey kt (ek k) es).run P w = .ok ((ks.findIdx? (fun x=>decide (x=k))).bind fun i=>(es[i]?).map fun e=>(i,e.val)) w
 stays:∀ k w,(Instr.keyThatStays (ek k) (ek k)).run P w = .ok (ek k) w
section keys
variable {P:Program}{kt:TypeId}{κ:Type} [DecidableEq κ] {ek:κ->Value}
theorem aaH (h:∀ a b w,(Op.equal kt (ek a) (ek b)).run P w = .ok (decide (a=b)) w)(k:κ):∀ (es:List MapEntry) (ks:List κ) (n:Nat) (w:World),es.map (·.key)=ks.map ek->
  (Instr.findAsking kt (ek k) es n).run P w = .ok ((ks.findIdx? (fun x=>decide (x=k))).bind fun i=>(es[i]?).map fun e=>(n+i,e.val)) w
 | [],ks,n,w,hk=>by
  have:ks=[]:=by simpa using hk.symm
  subst this
  simp[Instr.findAsking]
 | e::es,[],n,w,hk=>by simp at hk
 | e::es,x::ks,n,w,hk=>by
  simp only[ab8,List.cons.injEq] at hk
  obtain⟨h1,h2⟩:=hk
  have ih:=aaH h k es ks (n+1) w h2
  unfold Instr.findAsking
  simp only[Sem.run_bind,h1,h k x w,Result.andThen]
  by_cases hx:k=x
  ·subst hx
   simp[List.findIdx?_cons]
  ·have qu:¬ x=k:=fun e=>hx e.symm
   simp only[hx,decide_false,ih,List.findIdx?_cons,qu,abZ,if_false]
   cases ks.findIdx? (fun x=>decide (x=k)) with
   | none=>simp
   | some j=>simp[Nat.add_comm,Nat.add_left_comm]
theorem WY.asked {d:TypeDesc}(hd:P.underlying kt=some d)(hc:∀ em k w,(Instr.checkKey em 10000 kt (ek k)).run P w = .ok () w)(hn:∀ a b,Instr.sameNow d (ek a) (ek b)=none)
  (h:∀ a b w,(Op.equal kt (ek a) (ek b)).run P w = .ok (decide (a=b)) w) (hs:∀ k,Instr.sameBits 10000 (ek k) (ek k)=true):WY P kt ek where
 check:=hc
 find:=fun k es ks w hk=>by
  cases es with
  | nil=>
   have:ks=[]:=by simpa using hk.symm
   subst this
   simp[Instr.findKey,run_underlying hd,Result.andThen,Instr.findNow]
  | cons e es=>
   cases ks with
   | nil=>simp at hk
   | cons x ks=>
    have h1:=aaH h k (e::es) (x::ks) 0 w hk
    simp only[ab8,List.cons.injEq] at hk
    simp only[yS] at h1
    simp[Instr.findKey,run_underlying hd,Result.andThen,Instr.findNow,hk.1,hn]
    simpa using h1
 stays:=fun k w=>by simp[Instr.keyThatStays,hs k]
end keys
section maps
variable {κ:Type} [DecidableEq κ]
def ny (ek:κ->Value)(w:World)(b:Nat)(m:List (κ × Value)):Prop:=
 ∃ es clock,w.heap[b]? = some (.map es clock)/\es.toList.map (fun e=>(e.key,e.val))=m.map (fun p=>(ek p.1,p.2))/\(m.map (·.1)).Nodup/\
  es.toList.Pairwise (fun x y=>x.born<y.born)/\∀ e∈es.toList,e.born<clock
theorem ny.lt {ek:κ->Value}{w:World}{b:Nat}{m:List (κ × Value)}(h:ny ek w b m):b<w.heap.size:=by
 obtain⟨es,clock,hb,_⟩:=h
 exact (abM.1 hb).1
theorem ny.kept {ek:κ->Value}{w w':World}{b:Nat}{m:List (κ × Value)}(h:ny ek w b m)(hb:w'.heap[b]? = w.heap[b]?):ny ek w' b m:=by
 obtain⟨es,clock,h1,h2⟩:=h
 exact⟨es,clock,hb.trans h1,h2⟩
theorem ny.only {ek:κ->Value}{S:Nat->Prop}{w w':World}{b:Nat}{m:List (κ × Value)}(h:ny ek w b m)(ho:dB S w w')(hn:¬ S b):ny ek w' b m:=
 h.kept (ho.block b h.lt hn)
theorem ny.drew {ek:κ->Value}{w:World}{b:Nat}{m:List (κ × Value)}(h:ny ek w b m):ny ek w.drew b m:=h
theorem ny.alloc {ek:κ->Value}{w:World}{b:Nat}{m:List (κ × Value)}(h:ny ek w b m)(o:Obj):ny ek (w.alloc o) b m:=h.kept (Below.heap_alloc w o b h.lt)
theorem ny.setCell {ek:κ->Value}{w:World}{b:Nat}{m:List (κ × Value)}(h:ny ek w b m)(p:Addr)(v:Value)(hp:b≠p.block):ny ek (w.setCell p v) b m:=h.kept (Below.heap_setCell w p v b hp)
theorem ny.made (ek:κ->Value)(w:World):ny ek (w.alloc (.map #[] 0)) w.heap.size []:=
 ⟨#[],0,heap_alloc_new w _,by simp,by simp,by simp,by simp⟩
section runs
variable {P:Program}{kt et mt:TypeId}{ek:κ->Value}
section ops
variable {ops:Array Oper}{rest:List Oper}{o:Oper}{a:Act}{w:World}{Q:Exit->Act->World->Prop}{Kc:Act->World->Prop}
end ops
end runs
end maps
def vg (w:World)(b o:Nat)(xs:List Value):Prop:=∀ j u,xs[j]? = some u->w.cell? ⟨b,o+j,none⟩=some u
def yM (w:World)(b o n:Nat):Prop:=∀ j,j<n->(w.cell? ⟨b,o+j,none⟩).isSome=true/\w.frozen? ⟨b,o+j,none⟩=false
def oh (w:World)(sz:Nat)(v:Value)(n:Nat)(xs:List Value):Prop:=
 xs.length=n*sz/\∃ ad cap,v = .slice ad n cap/\n<=cap/\cap<=maxLen/\(0<n->∃ b off,ad=some ⟨b,off,none⟩/\b<w.heap.size/\vg w b off xs)
def mK (w:World)(sz:Nat)(v:Value)(n:Nat)(xs:List Value):Prop:=
 xs.length=n*sz/\((v = .slice none 0 0/\n=0)\/∃ b off cap,v = .slice (some ⟨b,off,none⟩) n cap/\n<=cap/\cap<=maxLen/\b<w.heap.size/\vg w b off xs/\yM w b off (cap*sz))
theorem vg.only {S:Nat->Prop}{w w':World}{b o:Nat}{xs:List Value}(h:vg w b o xs)(ho:dB S w w')(hb:b<w.heap.size)(hn:¬ S b):vg w' b o xs:=
 fun j u hj=>(ho.cell (p:=⟨b,o+j,none⟩) hb hn).trans (h j u hj)
theorem yM.only {S:Nat->Prop}{w w':World}{b o n:Nat}(h:yM w b o n)(ho:dB S w w')(hb:b<w.heap.size)(hn:¬ S b):yM w' b o n:=
 fun j hj=>by rw[ho.cell (p:=⟨b,o+j,none⟩) hb hn,ho.frozen (p:=⟨b,o+j,none⟩) hb hn];exact h j hj
theorem mK.drew {w:World}{sz:Nat}{v:Value}{n:Nat}{xs:List Value}(h:mK w sz v n xs):mK w.drew sz v n xs:=h
theorem oh.drew {w:World}{sz:Nat}{v:Value}{n:Nat}{xs:List Value}(h:oh w sz v n xs):oh w.drew sz v n xs:=h
theorem oh.only {S:Nat->Prop}{w w':World}{sz:Nat}{v:Value}{n:Nat}{xs:List Value}(h:oh w sz v n xs)(ho:dB S w w')(hn:∀ b,v.ownBlock=some b->¬ S b):oh w' sz v n xs:=by
 obtain⟨h1,ad,cap,rfl,h2,h3,h4⟩:=h
 refine⟨h1,ad,cap,rfl,h2,h3,fun h0 => ?_⟩
 obtain⟨b,off,rfl,hb,hc⟩:=h4 h0
 exact⟨b,off,rfl,adi hb ho.size,hc.only ho hb (hn b rfl)⟩
theorem mK.only {S:Nat->Prop}{w w':World}{sz:Nat}{v:Value}{n:Nat}{xs:List Value}(h:mK w sz v n xs)(ho:dB S w w')(hn:∀ b,v.ownBlock=some b->¬ S b):mK w' sz v n xs:=by
 refine⟨h.1,?_⟩
 rcases h.2 with h | ⟨b,off,cap,rfl,h2,h3,h4,h5,h6⟩
 ·exact .inl h
 ·exact .inr ⟨b,off,cap,rfl,h2,h3,adi h4 ho.size,h5.only ho h4 (hn b rfl),h6.only ho h4 (hn b rfl)⟩
theorem mK.alloc {w:World}{sz:Nat}{v:Value}{n:Nat}{xs:List Value}(h:mK w sz v n xs)(o:Obj):mK (w.alloc o) sz v n xs:=h.only ((dB.refl (fun _=>False) w).alloc o) (fun _ _ h=>h)
theorem oh.alloc {w:World}{sz:Nat}{v:Value}{n:Nat}{xs:List Value}(h:oh w sz v n xs)(o:Obj):oh (w.alloc o) sz v n xs:=h.only ((dB.refl (fun _=>False) w).alloc o) (fun _ _ h=>h)
theorem mK.lt {w:World}{sz:Nat}{v:Value}{n:Nat}{xs:List Value}(h:mK w sz v n xs):∀ b,v.ownBlock=some b->b<w.heap.size:=by
 intro b hb
 rcases h.2 with⟨rfl,_⟩ | ⟨b',off,cap,rfl,_,_,h4,_⟩
 ·simp[Value.ownBlock] at hb
 ·simp[Value.ownBlock] at hb;subst hb;exact h4
theorem mK.nil (w:World)(sz:Nat):mK w sz (.slice none 0 0) 0 []:=⟨by simp,.inl ⟨rfl,rfl⟩⟩
theorem oh.nil (w:World)(sz:Nat):oh w sz (.slice none 0 0) 0 []:=⟨by simp,none,0,rfl,aar _,adf _,fun h=>by omega⟩
theorem mK.form {w:World}{sz:Nat}{v:Value}{n:Nat}{xs:List Value}(h:mK w sz v n xs)(hn:0<n) :
  ∃ b off cap,v = .slice (some ⟨b,off,none⟩) n cap/\n<=cap/\cap<=maxLen/\b<w.heap.size/\vg w b off xs/\yM w b off (cap*sz):=by
 rcases h.2 with⟨_,h0⟩ | h
 ·omega
 ·exact h
theorem oh.form {w:World}{sz:Nat}{v:Value}{n:Nat}{xs:List Value}(h:oh w sz v n xs)(hn:0<n) :
  ∃ b off cap,v = .slice (some ⟨b,off,none⟩) n cap/\n<=cap/\cap<=maxLen/\b<w.heap.size/\vg w b off xs:=by
 obtain⟨h1,ad,cap,rfl,h2,h3,h4⟩:=h
 obtain⟨b,off,rfl,hb,hc⟩:=h4 hn
 exact⟨b,off,cap,rfl,h2,h3,hb,hc⟩
theorem oh.val {w:World}{sz:Nat}{v:Value}{n:Nat}{xs:List Value}(h:oh w sz v n xs):∃ ad cap,v = .slice ad n cap/\n<=cap/\cap<=maxLen:=by
 obtain⟨h1,ad,cap,rfl,h2,h3,h4⟩:=h
 exact⟨ad,cap,rfl,h2,h3⟩
theorem mK.tail {w:World}{sz b off n cap:Nat}{xs:List Value}(h:mK w sz (.slice (some ⟨b,off,none⟩) (n+1) cap) (n+1) xs) :
  mK w sz (.slice (some ⟨b,if cap=1 then off else off+sz,none⟩) n (cap-1)) n (xs.drop sz):=by
 refine⟨by rw[aef,h.1,Nat.succ_mul];omega,?_⟩
 rcases h.2 with⟨h0,_⟩ | ⟨b',asR,rZ,h1,h2,h3,h4,h5,h6⟩
 ·cases h0
 ·cases h1
  refine .inr ⟨b,_,cap-1,rfl,by omega,by omega,h4,?_,?_⟩
  ·by_cases e:cap=1
   ·have hn:n=0:=by omega
    subst hn
    have:xs.drop sz=[]:=by rw[List.drop_eq_nil_iff,h.1];omega
    rw[this]
    intro j u hj
    simp at hj
   ·rw[if_neg e]
    intro j u hj
    rw[adG] at hj
    have:=h5 _ u hj
    rwa[<-afj] at this
  ·by_cases e:cap=1
   ·subst e
    intro j hj
    simp at hj
   ·rw[if_neg e]
    intro j hj
    have hle:sz+j<cap*sz:=by
     have:(cap-1)*sz+sz=cap*sz:=by rw[<-Nat.succ_mul];congr 1;omega
     omega
    have:=h6 (sz+j) hle
    rwa[<-afj] at this
theorem addr_add (b off j:Nat):(⟨b,off,none⟩:Addr).add j=⟨b,off+j,none⟩:=by unfold Addr.add;split<;>simp_all
theorem ae4 (w:World)(c:Array Value)(t:TypeId)(n i:Nat)(h:n=w.heap.size):(w.alloc (.cells c t)).frozen? ⟨n,i,none⟩=false:=by
 subst h;simp
theorem oh.src {P:Program}{w:World}{sz:Nat}{v:Value}{n:Nat}{xs:List Value}(h:oh w sz v n xs){tx e':TypeId}(hk:P.underlying tx=some (.slice e'))(h1:∀ u∈xs,u.oneCell'=true):Src P sz tx v n xs w:=by
 obtain⟨hl,ad,cap,rfl,h2,h3,h4⟩:=h
 rcases Nat.eq_zero_or_pos n with rfl | hn
 ·have:xs=[]:=agG (by simpa using hl)
  subst this
  cases ad with
  | none=>exact Src.ofNil w hk cap
  | some a=>exact Src.ofSlice w hk a 0 cap [] (by simp) (fun j u hj=>by simp at hj) h1
 ·obtain⟨b,off,rfl,hb,hc⟩:=h4 hn
  exact Src.ofSlice w hk ⟨b,off,none⟩ n cap xs hl (fun j u hj=>by rw[addr_add];exact hc j u hj) h1
theorem mK.empty (w:World)(sz:Nat)(b:Nat)(h:b<w.heap.size):mK w sz (.slice (some ⟨b,0,none⟩) 0 0) 0 []:=
 ⟨by simp,.inr ⟨b,0,0,rfl,aar _,adf _,h,fun j u hj=>by simp at hj,fun j hj=>by simp at hj⟩⟩
section appendOps
variable {P:Program}{ops:Array Oper}{rest:List Oper}{o:Oper}{a:Act}{w:World}{Q:Exit->Act->World->Prop}{Kc:Act->World->Prop}
end appendOps
end Go.Proofs.YtehhgkgeldinkaaGreatDoor.Hp
set_option linter.unusedVariables false
namespace Go.Proofs.YtehhgkgeldinkaaGreatDoor.Hp
open Go Go.RowKit
def vn (l:List UInt8):List Value:=l.map fun b => .int .u8 b.toNat
theorem Uu (l:List UInt8):(vn l).length=l.length:=by simp[vn]
theorem anb {P:Program}{w:World}(src dst e:TypeId)(hs:P.underlying src=some (.slice e))(he:P.underlying e=some (.int .u8))(hd:P.underlying dst=some .string){v:Value}{n:Nat}{l:List UInt8}(h:oh w 1 v n (vn l)) :
  (convert src dst v).run P w = .ok (.string ⟨l.toArray⟩) w:=by
 obtain⟨hl,ad,cap,rfl,h2,h3,h4⟩:=h
 rw[Uu,adQ] at hl
 rcases Nat.eq_zero_or_pos n with h0 | hn
 ·subst h0
  have:l=[]:=agG hl
  subst this
  cases ad with
  | none=>exact run_convert_bytes_nil (P:=P) (w:=w) src e hs he 0 cap dst hd
  | some a=>exact run_convert_bytes_back w src dst e a cap [] hs he hd (fun j hj=>by simp at hj)
 ·obtain⟨b,off,rfl,hb,hc⟩:=h4 hn
  rw[<-hl]
  refine run_convert_bytes_back w src dst e ⟨b,off,none⟩ cap l hs he hd (fun j hj => ?_)
  rw[addr_add]
  exact hc j _ (by simp[vn,hj])
end Go.Proofs.YtehhgkgeldinkaaGreatDoor.Hp
set_option linter.unusedVariables false
set_option linter.unusedSimpArgs false
namespace Go.Proofs.YtehhgkgeldinkaaGreatDoor.Sg
def hd (n:Nat):UInt8:=UInt8.ofNat (if n<10 then 48+n else 87+n)
def pad:Nat->Nat->List UInt8
 | 0,_=>[]
 | k+1,n=>pad k (n / 16)++[hd (n % 16)]
def nm (n:Nat):List UInt8:=119::45::pad 12 n
theorem AX:∀ (k n:Nat),(pad k n).length=k
 | 0,_=>rfl
 | k+1,n=>by simp[pad,AX k]
theorem ag7 (n:Nat):(nm n).length=14:=by simp[nm,AX]
theorem Ov:∀ (j n:Nat),pad (j+1) n=hd (n / 16 ^ j % 16)::pad j n
 | 0,n=>by simp[pad]
 | j+1,n=>by
  have h:=Ov j (n / 16)
  have Ak:n / 16 / 16 ^ j=n / 16 ^ (j+1):=by
   rw[Nat.div_div_eq_div_mul,ai1,ajD]
  calc pad (j+2) n=pad (j+1) (n / 16)++[hd (n % 16)]:=rfl
   _=(hd (n / 16 / 16 ^ j % 16)::pad j (n / 16))++[hd (n % 16)]:=by rw[h]
   _=hd (n / 16 ^ (j+1) % 16)::pad (j+1) n:=by rw[Ak];rfl
theorem Xm:∀ (k:Nat),pad k 0=List.replicate k 48
 | 0=>rfl
 | k+1=>by
  rw[List.replicate_succ',<-Xm k]
  rfl
theorem aaE:∀ (m k n:Nat),n<16 ^ m->pad (m+k) n=List.replicate k 48++pad m n
 | 0,k,n,h=>by
  have:n=0:=by simpa using h
  subst this
  simp[Xm,pad]
 | m+1,k,n,h=>by
  have h2:n / 16<16 ^ m:=by
   rw[Nat.div_lt_iff_lt_mul (by omega)]
   rw[ai1] at h
   exact h
  have:=aaE m k (n / 16) h2
  rw[show m+1+k=(m+k)+1 by omega]
  show pad (m+k) (n / 16)++[hd (n % 16)]=List.replicate k 48++(pad m (n / 16)++[hd (n % 16)])
  rw[this,adY]
def Mb (c:UInt8):Option Nat:=
 if 97<=c.toNat then (if c.toNat<=102 then some (c.toNat-87) else none)
 else if 48<=c.toNat/\c.toNat<=63 then some (c.toNat-48) else none
def dec (m:Nat):List UInt8->Option Nat
 | []=>some m
 | c::cs=>match Mb c with
  | none=>none
  | some d=>dec (m*16+d) cs
theorem aaJ:∀ (a b:List UInt8) (m:Nat),dec m (a++b)=(dec m a).bind (fun x=>dec x b)
 | [],b,m=>by simp[dec]
 | c::cs,b,m=>by
  simp only[ahd,dec]
  cases Mb c with
  | none=>rfl
  | some d=>exact aaJ cs b _
theorem ahy (d:Nat)(h:d<16):Mb (hd d)=some d:=by
 have k:∀ d:Fin 16,Mb (hd d)=some (d:Nat):=by decide
 exact k ⟨d,h⟩
theorem ZV (n k:Nat):n / 16 % 16 ^ k*16+n % 16=n % 16 ^ (k+1):=by
 have h1:n % 16 ^ (k+1)=n % (16*16 ^ k):=by rw[ai1,ajD]
 rw[h1,Nat.mod_mul]
 omega
theorem aab:∀ (k n m:Nat),dec m (pad k n)=some (m*16 ^ k+n % 16 ^ k)
 | 0,n,m=>by simp[pad,dec,Nat.mod_one]
 | k+1,n,m=>by
  show dec m (pad k (n / 16)++[hd (n % 16)])=_
  rw[aaJ,aab k (n / 16) m]
  simp only[ac0,dec,ahy (n % 16) (by omega)]
  rw[<-ZV,ai1]
  congr 1
  have:m*(16 ^ k*16)=m*16 ^ k*16:=by rw[Nat.mul_assoc]
  omega
def sp (l:List UInt8):Nat × Bool:=
 if l.length=14 then
  match dec 0 (l.drop 2) with
  | none=>(0,false)
  | some n=>if n<2 ^ 44/\nm n=l then (n,true) else (0,false)
 else (0,false)
theorem aiB (n:Nat)(h:n<2 ^ 44):sp (nm n)=(n,true):=by
 have h2:(nm n).drop 2=pad 12 n:=rfl
 have h3:n % 16 ^ 12=n:=aeE (by omega)
 rw[sp,if_pos (ag7 n),h2,aab]
 simp only[afB,yS,h3]
 simp[h]
theorem akB (l:List UInt8)(h:∀ n,n<2 ^ 44->nm n≠l):sp l=(0,false):=by
 rw[sp]
 split
 ·split
  ·rfl
  ·rename_i n _
   rw[if_neg (fun k=>h n k.1 k.2)]
 ·rfl
def lo (c:UInt8):Nat:=c.toNat ||| 32
def dl (c:UInt8):Option Nat:=
 if 48<=c.toNat/\c.toNat<=57 then some (c.toNat-48)
 else if 97<=lo c/\lo c<=122 then some (lo c-87) else none
def iD (m:Nat):List UInt8->Nat × Nat
 | []=>(m,0)
 | c::cs=>match dl c with
  | none=>(0,2)
  | some d=>if 16<=d then (0,2) else if 2 ^ 60<=m then (2 ^ 64-1,1) else iD (m*16+d) cs
theorem aie (d:Nat)(h:d<16):dl (hd d)=some d:=by
 have k:∀ d:Fin 16,dl (hd d)=some (d:Nat):=by decide
 exact k ⟨d,h⟩
theorem Zr:∀ (a b:List UInt8) (m x:Nat),iD m a=(x,0)->iD m (a++b)=iD x b
 | [],b,m,x,h=>by
  simp only[iD,abT] at h
  rw[<-h.1];rfl
 | c::cs,b,m,x,h=>by
  simp only[ahd,iD] at h ⊢
  revert h
  cases dl c with
  | none=>intro h;simp at h
  | some d=>
   simp only
   split
   ·intro h;simp at h
   ·split
    ·intro h;simp at h
    ·intro h;exact Zr cs b _ x h
theorem U7:∀ (k n m:Nat),(m+1)*16 ^ k<=2 ^ 60->iD m (pad k n)=(m*16 ^ k+n % 16 ^ k,0)
 | 0,n,m,h=>by simp[pad,iD,Nat.mod_one]
 | k+1,n,m,h=>by
  have hp:(m+1)*16 ^ k*16<=2 ^ 60:=by rw[ai1,<-Nat.mul_assoc] at h;exact h
  have h2:=U7 k (n / 16) m (by omega)
  show iD m (pad k (n / 16)++[hd (n % 16)])=_
  rw[Zr _ _ _ _ h2]
  have hb:n / 16 % 16 ^ k<16 ^ k:=ah1 _ (Nat.pow_pos (by omega))
  have he:(m+1)*16 ^ k=m*16 ^ k+16 ^ k:=by rw[aeS,ahp]
  simp only[iD,aie (n % 16) (by omega)]
  rw[if_neg (by omega),if_neg (by omega),<-ZV,ai1]
  congr 1
  have:m*(16 ^ k*16)=m*16 ^ k*16:=by rw[Nat.mul_assoc]
  omega
theorem Xo (l:List UInt8)(m:Nat):(iD m l).2=0\/(iD m l=(2 ^ 64-1,1))\/(iD m l=(0,2)):=by
 induction l generalizing m with
 | nil=>exact .inl rfl
 | cons c cs ih=>
  simp only[iD]
  split
  ·exact .inr (.inr rfl)
  ·split
   ·exact .inr (.inr rfl)
   ·split
    ·exact .inr (.inl rfl)
    ·exact ih _
theorem afx (l:List UInt8)(m:Nat)(h:m<2 ^ 64):(iD m l).1<2 ^ 64:=by
 induction l generalizing m with
 | nil=>exact h
 | cons c cs ih=>
  simp only[iD]
  split
  ·show 0<2 ^ 64;omega
  ·split
   ·show 0<2 ^ 64;omega
   ·split
    ·show 2 ^ 64-1<2 ^ 64;omega
    ·exact ih _ (by omega)
end Go.Proofs.YtehhgkgeldinkaaGreatDoor.Sg
set_option linter.unusedVariables false
set_option linter.unusedSimpArgs false
namespace Go.Proofs.YtehhgkgeldinkaaGreatDoor.pD
open Go.RowKit Hp Sg
set_option maxRecDepth 100000 in
theorem tz (w:World)(h:w.cell? ⟨7,15,none⟩=some (.int .u8 4)) :
  Calls Tryz.prog 191 #[.int .u64 16] w fun e w'=>e = .returned (.int .i64 4)/\w'=w:=by
 have h0:IntKind.u64.wrap (bits BinOp.and IntKind.u64 16 (IntKind.u64.wrap (-16))*285870213051353865) / 288230376151711744=15:=by kernel_rfl
 go_enter Tryz.func191,Tryz.ntmps191
 go_wp2
 go_ret
 exact⟨rfl,rfl⟩
theorem pw2 (w:World) :
  Calls Tryz.prog 190 #[.int .i64 16] w fun e w'=>e = .returned (.bool true)/\w'=w:=by
 go_enter Tryz.func190,Tryz.ntmps190
 go_wp2
 go_ret
 exact⟨by kernel_rfl,rfl⟩
theorem agr (k:Nat)(h1:2<=k)(h2:k<12)(w:World) :
  Calls Tryz.prog 233 #[.int .u64 1,.int .u64 k] w fun e w'=>e = .returned (.tuple #[.int .u64 0,.int .u64 k])/\w'=w:=by
 obtain rfl | rfl | rfl | rfl | rfl | rfl | rfl | rfl | rfl | rfl:k=2\/k=3\/k=4\/k=5\/k=6\/k=7\/k=8\/k=9\/k=10\/k=11:=by omega
 all_goals
  go_enter Tryz.func233,Tryz.ntmps233
  go_wp2
  go_ret2
  exact⟨by kernel_rfl,rfl⟩
theorem Dn (s:ByteArray)(b:Bool)(h1:1<=s.size)(h:((s.extract 0 1).toList==[48])=b)(w:World) :
  Calls Tryz.prog 234 #[.string s,.string ⟨#[48]⟩] w fun e w'=>e = .returned (.bool b)/\w'=w:=by
 have g1:(1:Int)<=(s.size:Int):=by omega
 go_enter Tryz.func234,Tryz.ntmps234
 go_wp2
 go_ret
 exact⟨by simp[h],rfl⟩
set_option maxRecDepth 100000 in
theorem rep (k:Nat)(h1:1<=k)(h2:k<12)(w:World) :
  Calls Tryz.prog 182 #[.string ⟨#[48]⟩,.int .i64 k] w fun e w'=>e = .returned (.string ⟨(List.replicate k 48).toArray⟩)/\w'=w:=by
 by_cases hk:k=1
 ·subst hk
  go_enter Tryz.func182,Tryz.ntmps182
  go_wp2
  go_ret
  exact⟨rfl,rfl⟩
 ·have t0:((k:Int)==0)=false:=by simp;omega
  have t1:((k:Int)==1)=false:=by simp;omega
  have t2:¬ ((k:Int)<0):=by omega
  have t3:¬ (9223372036854775807<(k:Int)):=by omega
  have t4:(k:Int)<=128:=by omega
  have t5:(k:Int)<=64:=by omega
  have t6:IntKind.u64.wrap (k:Int)=k:=IntWalk.u64_in _ (by omega)
  have t7:IntKind.i64.wrap (k:Int)=k:=IntWalk.i64_in _ (by omega)
  go_enter Tryz.func182,Tryz.ntmps182
  go_wp2_with fail
  refine (agr k (by omega) h2 _).mono ?_
  rintro e w' ⟨rfl,rfl⟩
  go_wp2_with fail
  refine (Dn _ false (by decide) (by kernel_rfl) _).mono ?_
  rintro e w' ⟨rfl,rfl⟩
  go_wp2_with fail
  refine (Dn _ false (by decide) (by kernel_rfl) _).mono ?_
  rintro e w' ⟨rfl,rfl⟩
  go_wp2_with fail
  refine (Dn _ true (by decide) (by kernel_rfl) _).mono ?_
  rintro e w' ⟨rfl,rfl⟩
  go_wp2_with fail
  go_ret
  refine⟨?_,rfl⟩
  obtain rfl | rfl | rfl | rfl | rfl | rfl | rfl | rfl | rfl | rfl:k=2\/k=3\/k=4\/k=5\/k=6\/k=7\/k=8\/k=9\/k=10\/k=11:=by omega
  all_goals kernel_rfl
end Go.Proofs.YtehhgkgeldinkaaGreatDoor.pD
set_option linter.unusedVariables false
set_option linter.unusedSimpArgs false
namespace Go.Proofs.YtehhgkgeldinkaaGreatDoor.pD
open Go.RowKit Hp Sg
theorem alz (u:Nat)(hu:u<2 ^ 64):bits BinOp.and IntKind.u64 (u:Int) 15=((u % 16:Nat):Int):=by
 have h:=bits_mask .u64 64 (by decide) wraps_u64 4 (by decide) (u:Int) (by omega) (by omega)
 simpa using h
theorem abQ (u:Nat)(h:u<16):u<(ByteArray.mk #[48,49,50,51,52,53,54,55,56,57,97,98,99,100,101,102,103,104,105,106,107,108,109,110,111,112,113,114,115,116,117,118,119,120,121,122]).size:=by
 show u<36
 omega
theorem G9 (u:Nat)(h:u<16):((ByteArray.mk #[48,49,50,51,52,53,54,55,56,57,97,98,99,100,101,102,103,104,105,106,107,108,109,110,111,112,113,114,115,116,117,118,119,120,121,122])[u]'(abQ u h)).toNat=(hd u).toNat:=by
 have k:∀ u:Fin 16,((ByteArray.mk #[48,49,50,51,52,53,54,55,56,57,97,98,99,100,101,102,103,104,105,106,107,108,109,110,111,112,113,114,115,116,117,118,119,120,121,122])[u.val]'(abQ u u.isLt)).toNat=(hd u.val).toNat:=by decide
 exact k ⟨u,h⟩
theorem anj:Tryz.prog.arrayLen 271=65:=by kernel_rfl
theorem apH:Tryz.prog.underlying 271=some (.array (Tryz.prog.arrayLen 271) (Tryz.prog.elem 271)):=by kernel_rfl
theorem Ux {wr:World}{b m:Nat}{l:List UInt8}{c:UInt8}{x:Value}(hx:x = .int .u8 c.toNat)(h:vg wr b (m+1) (vn l))(hs:(wr.cell? ⟨b,m,none⟩).isSome=true) :
  vg (wr.setCell ⟨b,m,none⟩ x) b m (vn (c::l)):=by
 subst hx
 intro j u hj
 cases j with
 | zero=>
  simp[vn] at hj
  subst hj
  obtain⟨v,hv⟩:=aeY.1 hs
  exact Xt hv
 | succ j=>
  have h2:=h j u (by simpa[vn] using hj)
  rw[YB (by simp)]
  rw[show m+(j+1)=m+1+j by omega]
  exact h2
theorem ahO {wr:World}{b n:Nat}{a:Addr}{x:Value}(h:yM wr b 0 n):yM (wr.setCell a x) b 0 n:=by
 intro j hj
 obtain⟨h1,h2⟩:=h j hj
 refine⟨?_,?_⟩
 ·by_cases e:a=⟨b,0+j,none⟩
  ·subst e
   obtain⟨v,hv⟩:=aeY.1 h1
   rw[Xt hv];rfl
  ·rw[YB e];exact h1
 ·rw[World.frozen?_setCell];exact h2
set_option maxRecDepth 100000 in
set_option maxHeartbeats 1600000 in
theorem anS (n:Nat)(hn:n<16 ^ 11)(w:World)(h:w.cell? ⟨7,15,none⟩=some (.int .u8 4)) :
  Calls Tryz.prog 138 #[.slice none 0 0,.int .u64 n,.int .i64 16,.bool false,.bool false] w
   fun e w'=>∃ m,1<=m/\m<=11/\n<16 ^ m/\e = .returned (.tuple #[.slice none 0 0,.string ⟨(pad m n).toArray⟩])/\dB (fun _=>False) w w':=by
 have ah:7<w.heap.size:=World.block_lt_of_cell? w _ h
 go_enter Tryz.func138,Tryz.ntmps138
 go_wp2_with fail
 refine (pw2 _).mono ?_
 rintro e w1 ⟨rfl,rfl⟩
 go_wp2_with fail
 refine (tz _ (by rw[World.cell?_of_block (Below.heap_alloc w _ _ ah)];exact h)).mono ?_
 rintro e w1 ⟨rfl,rfl⟩
 go_wp2_with fail
 go_loopw [1,13] (fun u i wr=>∃ m j:Nat,m+j=65/\j<=10/\i = .int .i64 (m:Int)/\u = .int .u64 ((n / 16 ^ j:Nat):Int)/\Hid (vg wr w.heap.size m (vn (pad j n)))/\Hid (yM wr w.heap.size 0 65)/\Hid (dB (fun _=>False) w wr)/\w.heap.size<wr.heap.size) (fun _ i _=>(intOf i).toNat)
 case atStart=>
  refine⟨65,0,rfl,by omega,rfl,by simp,Lib.hid (fun j u hu=>by simp[vn,pad] at hu),Lib.hid ?_,Lib.hid ((dB.refl _ _).alloc _),by simp⟩
  intro j hj
  rw[yS]
  refine⟨?_,ae4 _ _ _ _ _ rfl⟩
  rw[World.cell?_alloc_new]
  have:∀ j:Fin 65,(Tryz.zeroCells271[j.val]?).isSome=true:=by decide
  exact this ⟨j,hj⟩
 case round=>
  obtain⟨m,j,hmj,hj,rfl,rfl,hc,hf,ho,hb⟩:=hrel
  have hu:n / 16 ^ j<2 ^ 64:=Nat.lt_of_le_of_lt (Nat.div_le_self _ _) (by omega)
  have Av:n / 16 ^ (j+1)=n / 16 ^ j / 16:=by rw[ai1,Nat.div_div_eq_div_mul]
  have Nr:=Ov j n
  have rY:n / 16 ^ j<16->n<16 ^ (j+1):=fun ah=>by
   rw[ai1,ajD]
   exact (Nat.div_lt_iff_lt_mul (Nat.pow_pos (by omega))).1 ah
  have W2:16<=n / 16 ^ j->j+1<=10:=fun kZ=>by
   refine Classical.byContradiction fun ar4 => ?_
   have:j=10:=by omega
   subst this
   have:n / 16 ^ 10<16:=(Nat.div_lt_iff_lt_mul (Nat.pow_pos (by omega))).2 (by rw[<-Nat.pow_succ'];exact hn)
   omega
  generalize huu:n / 16 ^ j=u at hu Av Nr rY W2
  have Hnj:=Lib.hid Av
  have YQ:=Lib.hid Nr
  have Huu:=Lib.hid huu
  clear Av Nr huu
  obtain⟨m,rfl⟩:∃ k,m=k+1:=⟨m-1,by omega⟩
  have hand:bits BinOp.and IntKind.u64 (u:Int) 15=((u % 16:Nat):Int):=alz u hu
  obtain⟨oW,FW⟩:=hf.out m (by omega)
  rw[yS] at oW FW
  have XA:=Lib.hid oW
  obtain⟨v0,XK⟩:=aeY.1 oW
  clear oW
  have S3:(0:Int)<=((u % 16:Nat):Int):=by omega
  have Ak:((u % 16:Nat):Int)<36:=by omega
  by_cases kZ:16<=u
  ·have aia:(16:Int)<=(u:Int):=by omega
   have ri:=G9 (u % 16) (by omega)
   go_wp2
   refine⟨⟨m,j+1,by omega,W2 kZ,rfl,?_,Lib.hid ?_,Lib.hid (ahO hf.out),Lib.hid (ho.out.setCell _ (.inl (aar _)) _),by simpa using hb⟩,?_⟩
   ·rw[Hnj.out]
    simp
   ·rw[YQ.out]
    exact Ux (by simp[ri]) hc.out XA.out
   ·simp[intOf]
  ·have aia:¬ (16:Int)<=(u:Int):=by omega
   have ri:=G9 u (by omega)
   have rD:∀ W,(Instr.sliceAt 271 (.pointer (some ⟨w.heap.size,0,none⟩)) (some (.int .i64 (m:Int))) none none).run Tryz.prog W = .ok (.slice (some ⟨w.heap.size,m,none⟩) (65-m) (65-m)) W:=fun W=>by
    rw[run_sliceAt_array_l W 271 ⟨w.heap.size,0,none⟩ apH .i64 (m:Int) (by omega) (by rw[anj];omega)]
    go_simp
    omega
   have fC:vg (wr.setCell ⟨w.heap.size,m,none⟩ (.int .u8 ((hd u).toNat:Int))) w.heap.size m (vn (pad (j+1) n)):=by
    rw[YQ.out,aeE (by omega)]
    exact Ux rfl hc.out XA.out
   have p9:(convert 48 9 (.slice (some ⟨w.heap.size,m,none⟩) (65-m) (65-m))).run Tryz.prog (wr.setCell ⟨w.heap.size,m,none⟩ (.int .u8 ((hd u).toNat:Int))) = .ok (.string ⟨(pad (j+1) n).toArray⟩) (wr.setCell ⟨w.heap.size,m,none⟩ (.int .u8 ((hd u).toNat:Int))):=
    anb 48 9 5 Tryz.underlying48 Tryz.underlying5 Tryz.underlying9 ⟨by rw[Uu,AX];omega,some ⟨w.heap.size,m,none⟩,65-m,rfl,aar _,by simp[maxLen];omega,fun _=>⟨_,_,rfl,by simpa using hb,fC⟩⟩
   go_wp2
   go_ret2
   exact⟨j+1,by omega,by omega,rY (by omega),rfl,ho.out.setCell _ (.inl (aar _)) _⟩
theorem aov (n:Nat)(hn:n<16 ^ 11)(w:World)(h:w.cell? ⟨7,15,none⟩=some (.int .u8 4)) :
  Calls Tryz.prog 52 #[.int .i64 n,.int .i64 16] w
   fun e w'=>∃ m,1<=m/\m<=11/\n<16 ^ m/\e = .returned (.string ⟨(pad m n).toArray⟩)/\dB (fun _=>False) w w':=by
 have h0:¬ ((n:Int)<0):=by omega
 have h1:IntKind.u64.wrap (n:Int)=n:=IntWalk.u64_in _ (by omega)
 have inner:Calls Tryz.prog 85 #[.int .i64 n,.int .i64 16] w
   fun e w'=>∃ m,1<=m/\m<=11/\n<16 ^ m/\e = .returned (.string ⟨(pad m n).toArray⟩)/\dB (fun _=>False) w w':=by
  go_enter Tryz.func85,Tryz.ntmps85
  go_wp2_with fail
  refine (anS n hn w h).mono ?_
  rintro e w1 ⟨m,m1,m2,m3,rfl,ho⟩
  have H1:=Lib.hid m3
  have H2:=Lib.hid ho
  clear m3 ho
  go_wp2_with fail
  go_ret
  exact⟨m,m1,m2,H1.out,rfl,H2.out⟩
 go_enter Tryz.func52,Tryz.ntmps52
 go_wp2_with fail
 refine inner.mono ?_
 rintro e w1 ⟨m,m1,m2,m3,rfl,ho⟩
 have H1:=Lib.hid m3
 have H2:=Lib.hid ho
 clear m3 ho
 go_wp2_with fail
 go_ret
 exact⟨m,m1,m2,H1.out,rfl,H2.out⟩
set_option maxRecDepth 100000 in
theorem Vz (n:Nat)(hn:n<2 ^ 44)(w:World)(h:w.cell? ⟨7,15,none⟩=some (.int .u8 4)) :
  Calls Tryz.prog 123 #[.int .i64 n] w
   fun e w'=>e = .returned (.tuple #[.string ⟨(nm n).toArray⟩,.bool true])/\dB (fun _=>False) w w':=by
 have h0:¬ ((n:Int)<0):=by omega
 have h1:¬ (17592186044415<(n:Int)):=by omega
 go_enter Tryz.func123,Tryz.ntmps123
 go_wp2_with fail
 refine (aov n (by omega) w h).mono ?_
 rintro e w1 ⟨m,m1,m2,m3,rfl,ho⟩
 have H1:=Lib.hid m3
 have H2:=Lib.hid ho
 clear m3 ho
 have hz:(ByteArray.mk (pad m n).toArray).size=m:=by show (pad m n).toArray.size=m;simp[AX]
 obtain⟨k,hk⟩:∃ k,k+m=12:=⟨12-m,by omega⟩
 have EJ:(12:Int)-(m:Int)=(k:Int):=by omega
 have uJ:nm n=[119,45]++(List.replicate k 48++pad m n):=by
  rw[<-aaE m k n H1.out,show m+k=12 by omega]
  rfl
 go_wp2_with fail
 refine (rep k (by omega) (by omega) _).mono ?_
 rintro e w2 ⟨rfl,rfl⟩
 go_wp2_with fail
 go_ret2
 refine⟨?_,H2.out⟩
 have e:(ByteArray.mk #[119,45]++ByteArray.mk (Array.replicate k 48)++ByteArray.mk (pad m n).toArray)=⟨(nm n).toArray⟩:=by
  apply ByteArray.ext
  simp[uJ,ByteArray.data_append]
 show Ending.returned (Value.tuple #[Value.string (ByteArray.mk #[119,45]++ByteArray.mk (Array.replicate k 48)++ByteArray.mk (pad m n).toArray),Value.bool true])=_
 rw[e]
theorem aaO (a:Int)(ha:a<0\/2 ^ 44<=a)(w:World) :
  Calls Tryz.prog 123 #[.int .i64 a] w
   fun e w'=>e = .returned (.tuple #[.string ⟨#[]⟩,.bool false])/\w'=w:=by
 by_cases h0:a<0
 ·go_enter Tryz.func123,Tryz.ntmps123
  go_wp2_with fail
  go_ret2
  exact⟨rfl,rfl⟩
 ·have h1:17592186044415<a:=by omega
  go_enter Tryz.func123,Tryz.ntmps123
  go_wp2_with fail
  go_ret2
  exact⟨rfl,rfl⟩
end Go.Proofs.YtehhgkgeldinkaaGreatDoor.pD
set_option linter.unusedVariables false
set_option linter.unusedSimpArgs false
namespace Go.Proofs.YtehhgkgeldinkaaGreatDoor.pD
open Go.RowKit Hp Sg
theorem aoI:∀ c:Fin 256,bits BinOp.or IntKind.u8 (c.val:Int) 32=((c.val ||| 32:Nat):Int):=by decide +kernel
theorem low (c:UInt8)(w:World) :
  Calls Tryz.prog 267 #[.int .u8 (c.toNat:Int)] w fun e w'=>e = .returned (.int .u8 ((lo c:Nat):Int))/\w'=w:=by
 have h:bits BinOp.or IntKind.u8 (c.toNat:Int) 32=((lo c:Nat):Int):=aoI ⟨c.toNat,c.toNat_lt⟩
 generalize c.toNat=x at h
 generalize lo c=y at h
 go_enter Tryz.func267,Tryz.ntmps267
 go_wp2
 go_ret
 exact⟨rfl,rfl⟩
theorem RF:(ByteArray.mk #[]).toList=[]:=by kernel_rfl
def ev (c:Nat):Value:=if c=0 then .nilIface else .iface 249 (.int .i64 c)
def pu (l:List UInt8):Nat × Nat:=if l=[] then (0,2) else iD 0 l
set_option maxRecDepth 100000 in
set_option maxHeartbeats 1600000 in
theorem aaz (s:ByteArray)(hs:s.size<=281474976710656)(w:World) :
  Calls Tryz.prog 213 #[.string s,.int .i64 16,.int .i64 64] w
   fun e w'=>e = .returned (.tuple #[.int .u64 ((pu s.data.toList).1:Int),ev (pu s.data.toList).2])/\dB (fun _=>False) w w':=by
 by_cases he:s=⟨#[]⟩
 ·subst he
  go_enter Tryz.func213,Tryz.ntmps213
  go_wp2
  go_ret2
  exact⟨rfl,dB.refl _ _⟩
 ·have hl:s.data.toList≠[]:=fun h=>he (by apply ByteArray.ext;simpa using h)
  have h0:s.toList.isEmpty=false:=by
   have h1:¬ s.toList=(ByteArray.mk #[]).toList:=fun h=>he ((NY _ _).1 h)
   have h2:(ByteArray.mk #[]).toList=[]:=RF
   rw[h2] at h1
   simpa using h1
  have Im:pu s.data.toList=iD 0 s.data.toList:=if_neg hl
  have p9:=Lib.run_convert_string_bytes (P:=Tryz.prog) w 9 48 5 s Tryz.underlying9 Tryz.underlying48 Tryz.underlying5
  have oG:=Lib.bytesWorld_cell w 5 s
  have Qt:=Lib.bytesWorld_below w 5 s
  have dp:=Lib.bytesWorld_size w 5 s
  generalize Lib.bytesWorld w 5 s=w1 at p9 oG Qt dp
  have hlen:s.data.toList.length=s.size:=by show s.data.toList.length=s.data.size;simp
  generalize grownCap w s.size 0 5=cap at p9
  have Ec:=Lib.hid Im
  have akT:=Lib.hid oG
  have CY:=Lib.hid Qt
  have Hsz:=Lib.hid dp
  have XI:=Lib.hid hlen
  clear Im oG Qt dp hlen hl he
  have hM:IntKind.u64.wrap (IntKind.u64.wrap 18446744073709551616-1)=18446744073709551615:=by kernel_rfl
  go_enter Tryz.func213,Tryz.ntmps213
  go_wp2
  go_loop [101,13,12] (fun i v z=>∃ (k m:Nat) (a:Int),k<=s.size/\i = .int .i64 (k:Int)/\v = .int .u64 a/\z = .bool false/\Hid (a=(m:Int)/\m<2 ^ 64/\iD 0 s.data.toList=iD m (s.data.toList.drop k))) (fun i _ _=>s.size-(intOf i).toNat)
  case atStart=>exact⟨0,0,0,adf _,rfl,rfl,rfl,Lib.hid ⟨rfl,by omega,rfl⟩⟩
  case round=>
   obtain⟨k,m,a,hk,rfl,rfl,rfl,hm⟩:=hrel
   by_cases ah:k<s.size
   ·have TB:(k:Int)<(s.size:Int):=by omega
    have oW:=akT.out k ah
    have O3:s.data.toList.drop k=s.data.toList.getD k 0::s.data.toList.drop (k+1):=by
     have jm:k<s.data.toList.length:=by rw[XI.out];exact ah
     rw[agE jm,agt,aax jm]
     rfl
    generalize s.data.toList.getD k 0=c at oW O3
    have ON:=Lib.hid O3
    clear O3
    have hq:lo c<256:=Nat.or_lt_two_pow (n:=8) c.toNat_lt (by omega)
    have CM:dl c=if 48<=c.toNat/\c.toNat<=57 then some (c.toNat-48) else if 97<=lo c/\lo c<=122 then some (lo c-87) else none:=rfl
    have Cp:=fun W=>low c W
    have WT:=c.toNat_lt
    have NB:c.toNat=95->lo c=127:=fun h=>by unfold lo;rw[h];rfl
    generalize lo c=q at hq CM Cp NB
    generalize c.toNat=x at oW CM Cp WT NB
    have hstep:∀ d,dl c=some d->¬ 16<=d->¬ 2 ^ 60<=m->iD m (s.data.toList.drop k)=iD (m*16+d) (s.data.toList.drop (k+1)):=fun d h1 h2 h3=>by
     rw[ON.out];simp only[iD,h1];rw[if_neg h2,if_neg h3]
    have X9:∀ d,dl c=some d->¬ 16<=d->2 ^ 60<=m->iD m (s.data.toList.drop k)=(2 ^ 64-1,1):=fun d h1 h2 h3=>by
     rw[ON.out];simp only[iD,h1];rw[if_neg h2,if_pos h3]
    have Zf:(dl c=none\/∃ d,dl c=some d/\16<=d)->iD m (s.data.toList.drop k)=(0,2):=fun h=>by
     rw[ON.out]
     rcases h with h | ⟨d,h,h2⟩
     ·simp only[iD,h]
     ·simp only[iD,h];rw[if_pos h2]
    have alT:=Lib.hid hstep
    have Va:=Lib.hid X9
    have Rx:=Lib.hid Zf
    have LB:=Lib.hid CM
    clear hstep X9 Zf CM
    obtain⟨HG,akF,As⟩:=hm.out
    have yE:=Lib.hid HG
    have C7:=Lib.hid As
    clear HG As hm
    have asr:wrap64 ((k:Int)+1)=((k+1:Nat):Int):=by unfold wrap64;omega
    have Xv:∀ d:Nat,dl c=some d->¬ 16<=d->¬ 2 ^ 60<=m->∀ y:Int,y=a*16+d->Hid (y=((m*16+d:Nat):Int)/\m*16+d<2 ^ 64/\iD 0 s.data.toList=iD (m*16+d) (s.data.toList.drop (k+1))):=fun d h1 h2 h3 y hy=>
     Lib.hid ⟨by rw[hy,yE.out];omega,by omega,by rw[C7.out,alT.out d h1 h2 h3]⟩
    have Xf:=Lib.hid Xv
    clear Xv
    by_cases hx:48<=x/\x<=57
    ·obtain⟨x1,x2⟩:=hx
     have y1:(48:Int)<=(x:Int):=by omega
     have y2:(x:Int)<=57:=by omega
     have pZ:dl c=some (x-48):=by rw[LB.out,if_pos ⟨x1,x2⟩]
     have wW:=Lib.hid pZ
     clear pZ
     by_cases ha:2 ^ 60<=m
     ·have N6:(1152921504606846976:Int)<=a:=by have:=yE.out;omega
      go_wp2_with fail
      go_ret2
      refine⟨?_,dB.zk CY.out _⟩
      rw[Ec.out,C7.out,Va.out _ wW.out (by omega) ha]
      kernel_rfl
     ·have wY:0<=a:=by have:=yE.out;omega
      have N6:a<(1152921504606846976:Int):=by have:=yE.out;omega
      obtain⟨yp,Fo⟩:∃ b:Int,b=a*16:=⟨_,rfl⟩
      obtain⟨n1,qe⟩:∃ b:Int,b=yp+((x:Int)-48):=⟨_,rfl⟩
      have e1:IntKind.u64.wrap (a*16)=yp:=by rw[Fo];exact IntWalk.u64_in _ (by omega)
      have e2:IntKind.u64.wrap (yp+((x:Int)-48))=n1:=by rw[qe];exact IntWalk.u64_in _ (by omega)
      have e3:yp<=n1:=by omega
      have e4:n1<=18446744073709551615:=by omega
      have ur:=Xf.out (x-48) wW.out (by omega) ha n1 (by omega)
      clear Fo qe
      go_wp2_with fail
      exact⟨⟨k+1,m*16+(x-48),_,by omega,by simp,rfl,rfl,ur⟩,by simp[intOf];omega⟩
    ·have Hx:=Lib.hid hx
     by_cases q9:x=95
     ·subst q9
      obtain rfl:=NB rfl
      have pZ:dl c=none:=by rw[LB.out,if_neg Hx.out];rfl
      have wW:=Lib.hid pZ
      clear pZ
      have an3:∀ W,Calls Tryz.prog 267 #[.int .u8 95] W fun e w'=>e = .returned (.int .u8 127)/\w'=W:=Cp
      go_wp2_with (go_at_call 267;refine (an3 _).mono ?_;rintro e w' ⟨rfl,rfl⟩)
      all_goals
       go_ret2
       refine⟨?_,dB.zk CY.out _⟩
       rw[Ec.out,C7.out,Rx.out (.inl wW.out)]
       kernel_rfl
     have y95:¬ ((x:Int)=95):=by omega
     obtain hx | hx:x<48\/57<x:=by omega
     all_goals
      first
      | (have y1:(x:Int)<48:=by omega)
      | (have y1:(57:Int)<(x:Int):=by omega)
      have y0:(x:Int)<256:=by omega
      by_cases Fv:97<=q/\q<=122
      ·have pZ:dl c=some (q-87):=by rw[LB.out,if_neg Hx.out,if_pos Fv]
       have wW:=Lib.hid pZ
       clear pZ
       obtain⟨q1,q2⟩:=Fv
       have z1:(97:Int)<=(q:Int):=by omega
       have z2:(q:Int)<=122:=by omega
       by_cases asA:103<=q
       ·have z3:(103:Int)<=(q:Int):=by omega
        go_wp2_with (go_at_call 267;refine (Cp _).mono ?_;rintro e w' ⟨rfl,rfl⟩)
        all_goals
         go_ret2
         refine⟨?_,dB.zk CY.out _⟩
         rw[Ec.out,C7.out,Rx.out (.inr ⟨_,wW.out,by omega⟩)]
         kernel_rfl
       ·have z3:(q:Int)<103:=by omega
        by_cases ha:2 ^ 60<=m
        ·have N6:(1152921504606846976:Int)<=a:=by have:=yE.out;omega
         go_wp2_with (go_at_call 267;refine (Cp _).mono ?_;rintro e w' ⟨rfl,rfl⟩)
         all_goals
          go_ret2
          refine⟨?_,dB.zk CY.out _⟩
          rw[Ec.out,C7.out,Va.out _ wW.out (by omega) ha]
          kernel_rfl
        ·have wY:0<=a:=by have:=yE.out;omega
         have N6:a<(1152921504606846976:Int):=by have:=yE.out;omega
         obtain⟨yp,Fo⟩:∃ b:Int,b=a*16:=⟨_,rfl⟩
         obtain⟨n1,qe⟩:∃ b:Int,b=yp+((q:Int)-97+10):=⟨_,rfl⟩
         have e1:IntKind.u64.wrap (a*16)=yp:=by rw[Fo];exact IntWalk.u64_in _ (by omega)
         have e2:IntKind.u64.wrap (yp+((q:Int)-97+10))=n1:=by rw[qe];exact IntWalk.u64_in _ (by omega)
         have e3:yp<=n1:=by omega
         have e4:n1<=18446744073709551615:=by omega
         have ur:=Xf.out (q-87) wW.out (by omega) ha n1 (by omega)
         clear Fo qe
         go_wp2_with (go_at_call 267;refine (Cp _).mono ?_;rintro e w' ⟨rfl,rfl⟩)
         all_goals exact⟨⟨k+1,m*16+(q-87),_,by omega,by simp,rfl,rfl,ur⟩,by simp[intOf];omega⟩
      ·have pZ:dl c=none:=by rw[LB.out,if_neg Hx.out,if_neg Fv]
       have wW:=Lib.hid pZ
       clear pZ
       obtain Fv | Fv:q<97\/122<q:=by omega
       all_goals
        first
        | (have z1:(q:Int)<97:=by omega)
        | (have z1:(122:Int)<(q:Int):=by omega)
        go_wp2_with (go_at_call 267;refine (Cp _).mono ?_;rintro e w' ⟨rfl,rfl⟩)
        all_goals
         go_ret2
         refine⟨?_,dB.zk CY.out _⟩
         rw[Ec.out,C7.out,Rx.out (.inl wW.out)]
         kernel_rfl
   ·have TB:¬ (k:Int)<(s.size:Int):=by omega
    have CH:k=s.size:=by omega
    subst CH
    obtain⟨HG,akF,As⟩:=hm.out
    have hr:iD 0 s.data.toList=(m,0):=by
     rw[As,<-XI.out,List.drop_length];rfl
    have Hr:=Lib.hid hr
    have yE:=Lib.hid HG
    clear hr As HG hm
    go_wp2_with fail
    go_ret2
    refine⟨?_,dB.zk CY.out _⟩
    rw[Ec.out,Hr.out,<-yE.out]
    rfl
end Go.Proofs.YtehhgkgeldinkaaGreatDoor.pD
set_option linter.unusedVariables false
set_option linter.unusedSimpArgs false
namespace Go.Proofs.YtehhgkgeldinkaaGreatDoor.pD
open Go.RowKit Hp Sg
theorem Dj (a b:Int)(w:World):(binOp .neq 52 (.iface 249 (.int .i64 a)) (.iface 249 (.int .i64 b))).run Tryz.prog w = .ok (.bool (!(a==b))) w:=by
 have ZH:(Tryz.prog.info? 249).map (·.comparable)=some true:=by kernel_rfl
 cases hi:Tryz.prog.info? 249 with
 | none=>simp[hi] at ZH
 | some i=>
  have gi:i.comparable=true:=by simpa[hi] using ZH
  have h:∀ d:Nat,(Op.equalIn (d+2) 52 (.iface 249 (.int .i64 a)) (.iface 249 (.int .i64 b))).run Tryz.prog w = .ok (a==b) w:=fun d=>by
   simp[Op.equalIn,run_underlying Tryz.underlying52,run_underlying Tryz.underlying249,typeInfo,hi,gi]
  simp only[binOp]
  simp[Op.equal,Op.maxDepth,h 9998]
def kK (neg:Bool)(u:Nat × Nat):Int × Nat:=
 if u.2=2 then (0,2)
 else if neg=false/\9223372036854775808<=u.1 then (9223372036854775807,1)
 else if neg=true/\9223372036854775808<u.1 then (-9223372036854775808,1)
 else (if neg then -(u.1:Int) else u.1,0)
set_option maxRecDepth 100000 in
set_option maxHeartbeats 1600000 in
theorem aml (s:ByteArray)(hs:s.size<=281474976710656)(h1:0<s.size)(hp:((s[0]'h1).toNat:Int)≠43)(hm:((s[0]'h1).toNat:Int)≠45)(w:World) :
  Calls Tryz.prog 164 #[.string s,.int .i64 16,.int .i64 64] w
   fun e w'=>e = .returned (.tuple #[.int .i64 (kK false (pu s.data.toList)).1,ev (kK false (pu s.data.toList)).2])/\dB (fun _=>False) w w':=by
 have hc:=aaz s hs w
 have yQ:(pu s.data.toList).2=0\/pu s.data.toList=(2 ^ 64-1,1)\/pu s.data.toList=(0,2):=by
  unfold pu
  split
  ·exact .inr (.inr rfl)
  ·exact Xo _ _
 have ah:(pu s.data.toList).1<2 ^ 64:=by
  unfold pu
  split
  ·decide
  ·exact afx _ _ (by decide)
 have h0:s.toList.isEmpty=false:=by
  have h2:¬ s.toList=(ByteArray.mk #[]).toList:=fun h=>by
   rw[(NY _ _).1 h] at h1
   exact absurd h1 (by decide)
  rw[RF] at h2
  simpa using h2
 generalize pu s.data.toList=u at hc yQ ah
 obtain⟨u,c⟩:=u
 simp only at hc yQ ah
 have hM:IntKind.i64.wrap (9223372036854775808-1)=9223372036854775807:=by kernel_rfl
 rcases yQ with rfl | h | h
 ·obtain⟨a,ha⟩:∃ a:Int,a=(u:Int):=⟨_,rfl⟩
  have Ha:=Lib.hid ha
  by_cases hr:9223372036854775808<=u
  ·have eg:(9223372036854775808:Int)<=a:=by omega
   have pR:kK false (u,0)=(9223372036854775807,1):=by unfold kK;rw[if_neg (by simp),if_pos ⟨rfl,hr⟩]
   rw[pR]
   rw[<-ha] at hc
   clear pR ha hr ah
   go_enter Tryz.func164,Tryz.ntmps164
   go_wp2_with fail
   refine hc.mono ?_
   rintro e w' ⟨rfl,ho⟩
   have Ho:=Lib.hid ho
   clear ho
   simp only[ev,if_pos]
   go_wp2
   go_ret2
   exact⟨by kernel_rfl,Ho.out⟩
  ·have eg:a<(9223372036854775808:Int):=by omega
   have wY:0<=a:=by omega
   have pR:kK false (u,0)=(a,0):=by unfold kK;rw[if_neg (by simp),if_neg (fun h=>hr h.2),if_neg (fun h=>by cases h.1)];simp[ha]
   have hw:IntKind.i64.wrap a=a:=IntWalk.i64_in _ (by omega)
   rw[pR]
   rw[<-ha] at hc
   clear pR ha hr ah
   go_enter Tryz.func164,Tryz.ntmps164
   go_wp2_with fail
   refine hc.mono ?_
   rintro e w' ⟨rfl,ho⟩
   have Ho:=Lib.hid ho
   clear ho
   simp only[ev,if_pos]
   go_wp2
   go_ret2
   exact⟨rfl,Ho.out⟩
 ·obtain⟨rfl,rfl⟩:=Prod.mk.inj h
  have A3:Calls Tryz.prog 213 #[.string s,.int .i64 16,.int .i64 64] w fun e w'=>e = .returned (.tuple #[.int .u64 18446744073709551615,.iface 249 (.int .i64 1)])/\dB (fun _=>False) w w':=hc
  clear hc ah h
  have vi:=Dj 1 1
  have qC:=Dj 2 1
  go_enter Tryz.func164,Tryz.ntmps164
  go_wp2_with fail
  refine A3.mono ?_
  rintro e w' ⟨rfl,ho⟩
  have Ho:=Lib.hid ho
  clear ho
  go_wp2
  go_ret2
  exact⟨by kernel_rfl,Ho.out⟩
 ·obtain⟨rfl,rfl⟩:=Prod.mk.inj h
  have A3:Calls Tryz.prog 213 #[.string s,.int .i64 16,.int .i64 64] w fun e w'=>e = .returned (.tuple #[.int .u64 0,.iface 249 (.int .i64 2)])/\dB (fun _=>False) w w':=hc
  clear hc ah h
  have vi:=Dj 1 1
  have qC:=Dj 2 1
  go_enter Tryz.func164,Tryz.ntmps164
  go_wp2_with fail
  refine A3.mono ?_
  rintro e w' ⟨rfl,ho⟩
  have Ho:=Lib.hid ho
  clear ho
  go_wp2
  go_ret2
  exact⟨by kernel_rfl,Ho.out⟩
end Go.Proofs.YtehhgkgeldinkaaGreatDoor.pD
set_option linter.unusedVariables false
set_option linter.unusedSimpArgs false
namespace Go.Proofs.YtehhgkgeldinkaaGreatDoor.pD
open Go.RowKit Hp Sg
set_option maxRecDepth 100000 in
theorem acX (w:World) :
  Calls Tryz.prog 164 #[.string ⟨#[]⟩,.int .i64 16,.int .i64 64] w
   fun e w'=>e = .returned (.tuple #[.int .i64 0,ev 2])/\dB (fun _=>False) w w':=by
 go_enter Tryz.func164,Tryz.ntmps164
 go_wp2
 go_ret2
 exact⟨by kernel_rfl,dB.refl _ _⟩
theorem ajL (l:List UInt8):(pu l).2=0\/pu l=(2 ^ 64-1,1)\/pu l=(0,2):=by
 unfold pu
 split
 ·exact .inr (.inr rfl)
 ·exact Xo _ _
set_option maxRecDepth 100000 in
set_option maxHeartbeats 1600000 in
theorem ahH (s:ByteArray)(hs:s.size<=281474976710656)(h1:0<s.size)(hx:((s[0]'h1).toNat:Int)=43\/((s[0]'h1).toNat:Int)=45)(w:World) :
  Calls Tryz.prog 164 #[.string s,.int .i64 16,.int .i64 64] w
   fun e w'=>∃ v c,c<=2/\e = .returned (.tuple #[.int .i64 v,ev c])/\dB (fun _=>False) w w':=by
 have dp:(s.extract 1 s.size).size<=281474976710656:=by simp;omega
 have hc:=aaz (s.extract 1 s.size) dp w
 have yQ:=ajL (s.extract 1 s.size).data.toList
 have h0:s.toList.isEmpty=false:=by
  have h2:¬ s.toList=(ByteArray.mk #[]).toList:=fun h=>by
   rw[(NY _ _).1 h] at h1
   exact absurd h1 (by decide)
  rw[RF] at h2
  simpa using h2
 have g1:(1:Int)<=(s.size:Int):=by omega
 have vi:=Dj 1 1
 have qC:=Dj 2 1
 generalize pu (s.extract 1 s.size).data.toList=u at hc yQ
 obtain⟨u,c⟩:=u
 simp only at hc yQ
 generalize ((u:Nat):Int)=a at hc
 have gi:c=0\/c=1\/c=2:=by
  rcases yQ with h | h | h
  ·exact .inl h
  ·exact .inr (.inl (Prod.mk.inj h).2)
  ·exact .inr (.inr (Prod.mk.inj h).2)
 clear yQ
 rcases gi with rfl | rfl | rfl
 all_goals
  rcases hx with hx | hx
  all_goals
   go_enter Tryz.func164,Tryz.ntmps164
   go_wp2_with fail
   refine hc.mono ?_
   rintro e w' ⟨rfl,ho⟩
   have Ho:=Lib.hid ho
   clear ho
   try simp only[ev,if_pos]
   try (rw[show ev 1 = .iface 249 (.int .i64 1) from rfl])
   try (rw[show ev 2 = .iface 249 (.int .i64 2) from rfl])
   go_wp2
   all_goals
    go_ret2
    first
    | exact⟨_,0,by omega,rfl,Ho.out⟩
    | exact⟨_,1,by omega,rfl,Ho.out⟩
    | exact⟨_,2,by omega,rfl,Ho.out⟩
end Go.Proofs.YtehhgkgeldinkaaGreatDoor.pD
set_option linter.unusedVariables false
set_option linter.unusedSimpArgs false
namespace Go.Proofs.YtehhgkgeldinkaaGreatDoor.pD
open Go.RowKit Hp Sg Go.Shelf
theorem aiV (fn s:ByteArray)(base bits:Int)(ev:Value)(w:World)(M5:s.size<=281474976710656)(hv:w.cell? ⟨4,0,none⟩=some ev)(Oq:ev = .nilIface\/∃ te pe,ev = .iface te pe) :
  Calls Tryz.prog 111 #[.string fn,.string s,.int .i64 base,.int .i64 bits,.iface 249 (.int .i64 2)] w fun e w'=>∃ N,e = .returned (.iface 252 (.pointer (some ⟨N,0,none⟩)))/\w.heap.size<=N/\w'.heap[N]? = some (.cells #[.string fn,.string s,ev] 297 (0,0))/\Below w.heap.size w w':=Any.strconv_toError_syntax Tryz.laysC245 fn s base bits ev w M5 hv Oq
theorem akj (fn s:ByteArray)(base bits:Int)(ev:Value)(w:World)(M5:s.size<=281474976710656)(hv:w.cell? ⟨5,0,none⟩=some ev)(Oq:ev = .nilIface\/∃ te pe,ev = .iface te pe) :
  Calls Tryz.prog 111 #[.string fn,.string s,.int .i64 base,.int .i64 bits,.iface 249 (.int .i64 1)] w fun e w'=>∃ N,e = .returned (.iface 252 (.pointer (some ⟨N,0,none⟩)))/\w.heap.size<=N/\w'.heap[N]? = some (.cells #[.string fn,.string s,ev] 297 (0,0))/\Below w.heap.size w w':=Any.strconv_toError_range Tryz.laysC245 fn s base bits ev w M5 hv Oq
theorem ad9 (s p:ByteArray)(w:World) :
  Calls Tryz.prog 175 #[.string s,.string p] w fun e w'=>e = .returned (.string ⟨(Lib.trimPrefix s.data.toList p.data.toList).toArray⟩)/\w'=w:=Any.strings_TrimPrefix Tryz.lays101 s p w
structure Vs (w:World):Prop where
 FN:w.cell? ⟨7,15,none⟩=some (.int .u8 4)
 JU:∃ t p,w.cell? ⟨4,0,none⟩=some (.iface t p)
 KP:∃ t p,w.cell? ⟨5,0,none⟩=some (.iface t p)
theorem Vs.only {w w':World}(h:Vs w)(ho:dB (fun _=>False) w w'):Vs w':=
 ⟨ho.O9 h.FN (fun h=>h),by obtain⟨t,p,e⟩:=h.JU;exact⟨t,p,ho.O9 e (fun h=>h)⟩,by obtain⟨t,p,e⟩:=h.KP;exact⟨t,p,ho.O9 e (fun h=>h)⟩⟩
theorem ang (n:Nat)(h:n<2 ^ 48):pu (pad 12 n)=(n,0):=by
 have h1:pad 12 n≠[]:=fun e=>by have:=AX 12 n;rw[e] at this;cases this
 have h2:=U7 12 n 0 (by decide)
 have h3:n % 16 ^ 12=n:=aeE (by omega)
 rw[pu,if_neg h1,h2,h3]
 simp
theorem afp (n:Nat)(b:UInt8)(l:List UInt8)(h:pad 12 n=b::l):b.toNat≠43/\b.toNat≠45:=by
 have h2:=Ov 11 n
 rw[h] at h2
 have h3:b=hd (n / 16 ^ 11 % 16):=(List.cons.inj h2).1
 have k:∀ d:Fin 16,(hd d).toNat≠43/\(hd d).toNat≠45:=by decide
 rw[h3]
 exact k ⟨n / 16 ^ 11 % 16,ah1 _ (by omega)⟩
theorem adK (s:ByteArray)(hs:s.size<=281474976710656)(w:World) :
  Calls Tryz.prog 164 #[.string s,.int .i64 16,.int .i64 64] w
   fun e w'=>∃ v c,c<=2/\e = .returned (.tuple #[.int .i64 v,ev c])/\(∀ n,n<2 ^ 48->s.data.toList=pad 12 n->v=n/\c=0)/\dB (fun _=>False) w w':=by
 by_cases h1:0<s.size
 ·have hl:s.data.toList=s[0]::s.data.toList.drop 1:=by
   have h2:0<s.data.toList.length:=by rw[af0];exact h1
   cases hd:s.data.toList with
   | nil=>rw[hd] at h2;cases h2
   | cons b l=>
    have:s[0]=b:=by
     show s.data[0]=b
     rw[<-Array.getElem_toList]
     simp[hd]
    simp[this]
  by_cases hx:((s[0]'h1).toNat:Int)=43\/((s[0]'h1).toNat:Int)=45
  ·refine (ahH s hs h1 hx w).mono ?_
   rintro e w' ⟨v,c,hc,rfl,ho⟩
   refine⟨v,c,hc,rfl,fun n hn he => ?_,ho⟩
   have:=afp n _ _ (he.symm.trans hl)
   omega
  ·refine (aml s hs h1 (fun h=>hx (.inl h)) (fun h=>hx (.inr h)) w).mono ?_
   rintro e w' ⟨rfl,ho⟩
   refine⟨_,_,?_,rfl,fun n hn he => ?_,ho⟩
   ·unfold kK;split;· decide
    split;· decide
    split;· decide
    exact adf _
   ·rw[he,ang n hn]
    unfold kK
    rw[if_neg (by simp),if_neg (by simp;omega),if_neg (by simp)]
    simp
 ·have:s=⟨#[]⟩:=by
   apply ByteArray.ext
   exact Array.eq_empty_of_size_eq_zero (by show s.size=0;omega)
  subst this
  refine (acX w).mono ?_
  rintro e w' ⟨rfl,ho⟩
  refine⟨_,_,aar _,rfl,fun n hn he => ?_,ho⟩
  have:=AX 12 n
  rw[<-he] at this
  cases this
end Go.Proofs.YtehhgkgeldinkaaGreatDoor.pD
set_option linter.unusedVariables false
set_option linter.unusedSimpArgs false
namespace Go.Proofs.YtehhgkgeldinkaaGreatDoor.pD
open Go.RowKit Hp Sg
set_option maxRecDepth 100000 in
theorem akI (s:ByteArray)(hs:s.size<=281474976710656)(w:World)(hv:Vs w) :
  Calls Tryz.prog 174 #[.string s,.int .i64 16,.int .i64 64] w
   fun e w'=>∃ v x,e = .returned (.tuple #[.int .i64 v,x])/\(x = .nilIface\/∃ t p,x = .iface t p)/\(∀ n,n<2 ^ 48->s.data.toList=pad 12 n->v=n/\x = .nilIface)/\dB (fun _=>False) w w':=by
 go_enter Tryz.func174,Tryz.ntmps174
 go_wp2_with fail
 refine (adK s hs w).mono ?_
 rintro e w1 ⟨v,c,hc,rfl,hn,ho⟩
 have Hn:=Lib.hid hn
 have Ho:=Lib.hid ho
 have iI:=hv.only ho
 clear hn ho
 obtain rfl | rfl | rfl:c=0\/c=1\/c=2:=by omega
 ·simp only[ev,if_pos]
  go_wp2
  go_ret2
  exact⟨v,_,rfl,.inl rfl,fun n h1 h2=>⟨(Hn.out n h1 h2).1,rfl⟩,Ho.out⟩
 ·rw[show ev 1 = .iface 249 (.int .i64 1) from rfl]
  obtain⟨t,p,hr⟩:=iI.KP
  have TT:=akj ⟨#[80,97,114,115,101,73,110,116]⟩ s 16 64 _ w1 hs hr (.inr ⟨_,_,rfl⟩)
  go_wp2_with fail
  refine TT.mono ?_
  rintro e w2 ⟨N,rfl,h1,h2,h3⟩
  have H3:=Lib.hid h3
  clear h1 h2 h3
  go_wp2
  go_ret2
  exact⟨v,_,rfl,.inr ⟨_,_,rfl⟩,fun n h1 h2=>absurd (Hn.out n h1 h2).2 (by decide),Ho.out.trans (dB.zk H3.out _) (fun _ _ h=>h)⟩
 ·rw[show ev 2 = .iface 249 (.int .i64 2) from rfl]
  obtain⟨t,p,hr⟩:=iI.JU
  have TT:=aiV ⟨#[80,97,114,115,101,73,110,116]⟩ s 16 64 _ w1 hs hr (.inr ⟨_,_,rfl⟩)
  go_wp2_with fail
  refine TT.mono ?_
  rintro e w2 ⟨N,rfl,h1,h2,h3⟩
  have H3:=Lib.hid h3
  clear h1 h2 h3
  go_wp2
  go_ret2
  exact⟨v,_,rfl,.inr ⟨_,_,rfl⟩,fun n h1 h2=>absurd (Hn.out n h1 h2).2 (by decide),Ho.out.trans (dB.zk H3.out _) (fun _ _ h=>h)⟩
end Go.Proofs.YtehhgkgeldinkaaGreatDoor.pD
set_option linter.unusedVariables false
set_option linter.unusedSimpArgs false
namespace Go.Proofs.YtehhgkgeldinkaaGreatDoor.pD
open Go.RowKit Hp Sg
theorem apW (v:Int)(w:World)(hv:Vs w) :
  Calls Tryz.prog 123 #[.int .i64 v] w
   fun e w'=>∃ s ok,e = .returned (.tuple #[.string s,.bool ok])/\(ok=true->∃ n:Nat,v=n/\n<2 ^ 44/\s=⟨(nm n).toArray⟩)/\(∀ n:Nat,v=n->n<2 ^ 44->ok=true)/\dB (fun _=>False) w w':=by
 by_cases h:0<=v/\v<2 ^ 44
 ·obtain⟨n,rfl⟩:∃ n:Nat,v=n:=⟨v.toNat,by omega⟩
  refine (Vz n (by omega) w hv.FN).mono ?_
  rintro e w' ⟨rfl,ho⟩
  exact⟨_,_,rfl,fun _=>⟨n,rfl,by omega,rfl⟩,fun _ _ _=>rfl,ho⟩
 ·refine (aaO v (by omega) w).mono ?_
  rintro e w' ⟨rfl,rfl⟩
  exact⟨_,_,rfl,(fun h=>by cases h),(fun n h1 h2=>by omega),dB.refl _ _⟩
set_option maxRecDepth 100000 in
theorem parse (s:ByteArray)(hs:s.size<=281474976710656)(w:World)(hv:Vs w) :
  Calls Tryz.prog 116 #[.string s] w
   fun e w'=>e = .returned (.tuple #[.int .i64 ((sp s.data.toList).1:Int),.bool (sp s.data.toList).2])/\dB (fun _=>False) w w':=by
 have VY:=ad9 s ⟨#[119,45]⟩ w
 have hle:(ByteArray.mk (Lib.trimPrefix s.data.toList [119,45]).toArray).size<=s.size:=by
  show (Lib.trimPrefix s.data.toList [119,45]).toArray.size<=s.data.size
  rw[List.size_toArray,<-af0]
  exact Lib.trimPrefix_le _ _
 have uJ:∀ n,s.data.toList=nm n->Lib.trimPrefix s.data.toList [119,45]=pad 12 n:=fun n h=>by
  rw[h];simp[Lib.trimPrefix,Lib.hasPrefix,nm]
 have HD:(ByteArray.mk (Lib.trimPrefix s.data.toList [119,45]).toArray).data.toList=Lib.trimPrefix s.data.toList [119,45]:=by simp
 have PZ:Calls Tryz.prog 175 #[.string s,.string ⟨#[119,45]⟩] w fun e w'=>e = .returned (.string ⟨(Lib.trimPrefix s.data.toList [119,45]).toArray⟩)/\w'=w:=VY
 clear VY
 generalize hT:(ByteArray.mk (Lib.trimPrefix s.data.toList [119,45]).toArray)=T at hle HD PZ
 clear hT
 go_enter Tryz.func116,Tryz.ntmps116
 go_wp2_with fail
 refine PZ.mono ?_
 rintro e w1 ⟨rfl,rfl⟩
 have alI:=Lib.hid HD
 have Hnm:=Lib.hid uJ
 clear HD uJ PZ
 go_wp2_with fail
 refine (akI T (by omega) w1 hv).mono ?_
 rintro e w2 ⟨v,x,rfl,hx,hn,ho⟩
 have Hn:=Lib.hid hn
 have Ho:=Lib.hid ho
 have xz:=hv.only ho
 clear hn ho
 go_wp2_with fail
 refine (apW v w2 xz).mono ?_
 rintro e w3 ⟨u,ok,rfl,lu,gC,CS⟩
 have Hok:=Lib.hid lu
 have aiG:=Lib.hid gC
 have Kh:=Lib.hid (Ho.out.trans CS (fun _ _ h=>h))
 clear lu gC CS xz
 have We:(x ≠ .nilIface\/ok=false\/u≠s)->sp s.data.toList=(0,false):=fun h=>akB _ fun n h1 h2=>by
  have h3:=Hn.out n (by omega) (by rw[alI.out,Hnm.out n h2.symm])
  have h4:=aiG.out n h3.1 h1
  rcases h with h | h | h
  ·exact h h3.2
  ·rw[h] at h4;cases h4
  ·obtain⟨m,e1,e2,e3⟩:=Hok.out h4
   have:m=n:=by have:=h3.1;omega
   subst this
   refine h ?_
   rw[e3]
   apply ByteArray.ext
   simp[h2]
 have Qx:=Lib.hid We
 clear We
 rcases hx with rfl | ⟨t,p,rfl⟩
 ·cases ok with
  | false=>
   go_wp2
   go_ret2
   rw[Qx.out (.inr (.inl (by simp)))]
   exact⟨rfl,Kh.out⟩
  | true=>
   by_cases M4:u=s
   ·subst M4
    obtain⟨n,rfl,h2,h3⟩:=Hok.out rfl
    have pR:sp u.data.toList=(n,true):=by rw[h3];simpa using aiB n h2
    have aog:=Lib.hid pR
    have ht:(u.toList==u.toList)=true:=by simp
    clear pR h3
    go_wp2
    go_ret2
    rw[aog.out]
    exact⟨rfl,Kh.out⟩
   ·have ht:(u.toList==s.toList)=false:=by rw[abE];simp[M4]
    go_wp2
    go_ret2
    rw[Qx.out (.inr (.inr M4))]
    exact⟨rfl,Kh.out⟩
 ·go_wp2
  go_ret2
  rw[Qx.out (.inl (by simp))]
  exact⟨rfl,Kh.out⟩
end Go.Proofs.YtehhgkgeldinkaaGreatDoor.pD
namespace Go.Proofs.YtehhgkgeldinkaaGreatDoor.kM
open Go Go.RowKit Hp Sg pD Am
set_option maxRecDepth 100000
set_option linter.unusedVariables false
theorem Uy {w w':World}(h:dB (fun _=>False) w w'):Below w.heap.size w w':=
 ⟨h.os,h.tape,h.output,h.size,fun k hk=>h.block k hk (fun h=>h)⟩
structure zK (H:Am.Hp):Prop where
 FN:cellAt H 7 15=some (.int .u8 4)
 JU:∃ t p,cellAt H 4 0=some (.iface t p)
 KP:∃ t p,cellAt H 5 0=some (.iface t p)
theorem zK.vs {F:Nat->Prop}{W:World}{e:Em}{H:Am.Hp}{w:World}(h:zK H)(hR:RH Tryz.prog.globals.size F W e H w):Vs w:=by
 have tj:7<Tryz.prog.globals.size:=by rw[<-adn];kernel_rfl
 have vX:4<Tryz.prog.globals.size:=by rw[<-adn];kernel_rfl
 have hs3:5<Tryz.prog.globals.size:=by rw[<-adn];kernel_rfl
 have key:∀ g k v,g<Tryz.prog.globals.size->cellAt H g (k:Nat)=some v->∃ v',w.cell? ⟨g,k,none⟩=some v'/\VR e v v':=by
  intro g k v hg hc
  obtain⟨_,o,ho,v',h1,h2⟩:=hR.load hc
  obtain⟨_,hb,hd⟩:=hR.nW g hg
  rw[hb] at h1
  rw[hd] at ho
  obtain rfl:o=k:=by omega
  exact⟨v',h1,h2⟩
 refine⟨?_,?_,?_⟩
 ·obtain⟨v',h1,h2⟩:=key _ 15 _ tj h.FN
  cases h2
  exact h1
 ·obtain⟨t,p,hc⟩:=h.JU
  obtain⟨v',h1,h2⟩:=key _ 0 _ vX hc
  cases h2
  exact⟨_,_,h1⟩
 ·obtain⟨t,p,hc⟩:=h.KP
  obtain⟨v',h1,h2⟩:=key _ 0 _ hs3 hc
  cases h2
  exact⟨_,_,h1⟩
def iO (a:Int):Bool:=decide (0<=a)&&decide (a<17592186044416)
def dR (a:Int):List Nat:=bif iO a then (nm a.toNat).map (·.toNat) else []
def nz (s:List Nat):Nat × Bool:=sp (s.map UInt8.ofNat)
noncomputable section
open Classical in
def HA:Prim:=fun args H=>match args with
 | [.int .i64 a]=>if zK H then some (.tuple [.str (dR a),.bool (iO a)],H) else none
 | _=>none
open Classical in
def Gq:Prim:=fun args H=>match args with
 | [.str s]=>if zK H/\s.length<=281474976710656 then some (.tuple [.int .i64 (nz s).1,.bool (nz s).2],H) else none
 | _=>none
end
theorem Um:Am.jY Tryz.prog:=by unfold Am.jY;kernel_rfl
theorem VR.two {e:Em}{a b:AV}{a' b':Value}(h:VR e a a')(k:VR e b b'):VR e (.tuple [a,b]) (.tuple #[a',b']):=by
 refine .tuple _ _ rfl ?_
 intro i v v' h1 h2
 match i,h1,h2 with
 | 0,h1,h2=>cases h1;cases h2;exact h
 | 1,h1,h2=>cases h1;cases h2;exact k
theorem afP:Am.pt Tryz.prog 123 HA:=by
 intro args H v H' hp F W e w ar hR ha
 unfold HA at hp
 split at hp
 ·rename_i a
  split at hp
  ·rename_i hV
   cases hp
   obtain⟨a',r1,e1,iI,gG⟩:=ha.cons_inv
   obtain rfl:=gG.iW
   cases iI
   obtain rfl:ar = #[.int .i64 a]:=adl.1 e1
   refine⟨Am.rF Um Tryz.func123 rfl _ w,?_⟩
   have hv:=hV.vs hR
   by_cases hi:0<=a/\a<17592186044416
   ·obtain⟨n,rfl⟩:∃ n:Nat,a=n:=⟨a.toNat,by omega⟩
    refine (Vz n (by omega) w hv.FN).mono ?_
    rintro en w' ⟨rfl,ho⟩
    refine⟨e,_,rfl,e.le_refl,hR.below (Uy ho),?_⟩
    have h1:iO (n:Int)=true:=by unfold iO;simp[hi]
    have h2:dR (n:Int)=Am.bytes ⟨(nm n).toArray⟩:=by unfold dR Am.bytes;rw[h1];simp
    rw[h1,h2]
    exact VR.two (.str _) (.bool _)
   ·refine (aaO a (by omega) w).mono ?_
    rintro en w' ⟨rfl,rfl⟩
    refine⟨e,_,rfl,e.le_refl,hR,?_⟩
    have h1:iO a=false:=by unfold iO;simp;omega
    have h2:dR a=Am.bytes ⟨#[]⟩:=by unfold dR Am.bytes;rw[h1];rfl
    rw[h1,h2]
    exact VR.two (.str _) (.bool _)
  ·cases hp
 ·cases hp
theorem ahl:Am.pt Tryz.prog 116 Gq:=by
 intro args H v H' hp F W e w ar hR ha
 unfold Gq at hp
 split at hp
 ·rename_i s
  split at hp
  ·rename_i hV
   cases hp
   obtain⟨a',r1,e1,iI,gG⟩:=ha.cons_inv
   obtain rfl:=gG.iW
   obtain⟨s',rfl,rfl⟩:=iI.lj
   obtain rfl:ar = #[.string s']:=adl.1 e1
   refine⟨Am.rF Um Tryz.func116 rfl _ w,?_⟩
   have hv:=hV.1.vs hR
   have hl:s'.size<=281474976710656:=by
    have:s'.size=(Am.bytes s').length:=by simp[Am.bytes]
    have:=hV.2
    omega
   refine (parse s' hl w hv).mono ?_
   rintro en w' ⟨rfl,ho⟩
   refine⟨e,_,rfl,e.le_refl,hR.below (Uy ho),?_⟩
   have h2:nz (Am.bytes s')=sp s'.data.toList:=by
    unfold nz Am.bytes
    rw[agx]
    congr 1
    rw[ag4 (g:=id) (fun x _=>by simp)]
    simp
   rw[h2]
   exact VR.two (.int _ _) (.bool _)
  ·cases hp
 ·cases hp
end Go.Proofs.YtehhgkgeldinkaaGreatDoor.kM
set_option linter.unusedVariables false
set_option linter.unusedSimpArgs false
namespace Go.Proofs.YtehhgkgeldinkaaGreatDoor.K5
open Go Am Go.Sort Go.RowKit Go.Proofs
def Mc:AV->Option Int
 | .int .i64 z=>some z
 | _=>none
def Ag:List AV->Option (List Int)
 | []=>some []
 | v::r=>match Mc v,Ag r with
  | some z,some l=>some (z::l)
  | _,_=>none
def eh (l:List Int):List AV:=l.map (AV.int .i64)
def qI (l:List Int):List Int:=l.mergeSort fun x y=>decide (x<=y)
theorem adu {v:AV}{z:Int}(h:Mc v=some z):v = .int .i64 z:=by
 unfold Mc at h
 split at h
 ·cases h;rfl
 ·cases h
theorem VC:∀ {l:List AV} {zs:List Int},Ag l=some zs->l=eh zs
 | [],zs,h=>by cases h;rfl
 | v::r,zs,h=>by
  unfold Ag at h
  split at h
  ·rename_i z l h1 h2
   cases h
   rw[adu h1,VC h2]
   rfl
  ·cases h
theorem W9:∀ (zs:List Int),Ag (eh zs)=some zs
 | []=>rfl
 | z::zs=>by
  show (match Mc (AV.int .i64 z),Ag (eh zs) with | some z,some l=>some (z::l) | _,_=>none)=_
  rw[W9 zs]
  rfl
theorem Ph (l:List Int):(qI l).length=l.length:=(List.mergeSort_perm l _).length_eq
noncomputable section
def aq5 (H:Hp)(i off:Nat)(c:Tr AV)(lo hi el fl:Nat)(r:Option (List Int)):Option (AV × Hp):=match r with
 | some zs=>some (.tuple [],{ H with h:=H.h.fJ i (.cells (c.dh off (eh (qI zs))) lo hi el fl) })
 | none=>none
open Classical in
def Qf (H:Hp)(i off n:Nat)(o:AO):Option (AV × Hp):=match o with
 | .cells c lo hi el fl=>if lo<=off/\off+n<=hi/\fl<=1 then aq5 H i off c lo hi el fl ((dQ H i off n).bind Ag) else none
 | _=>none
open Classical in
def tY:Prim:=fun args H=>match args with
 | [.ae]=>some (.tuple [],H)
 | [.slice i off n cap ex es]=>if n=0 then some (.tuple [],H) else if es=1/\n<4611686018427387904 then (H.h.get i).bind (Qf H i off n) else none
 | _=>none
end
theorem Ku (e:Em):VR e (.tuple []) (.tuple #[]) := .tuple [] #[] rfl (fun i v v' h=>by simp at h)
theorem alY {f:Nat}(tB:∀ ar w,(callFunc f ar).run Tryz.prog w = .ok (.enter f ar) w)
  (h0:∀ (p:Option Addr) (cap:Nat) (w:World),Calls Tryz.prog f #[.slice p 0 cap] w fun e w'=>e = .returned (.tuple #[])/\w'=w)
  (h1:∀ (dY off cap:Nat) (zs:List Int) (w:World),Holds (Value.int .i64) w dY off zs.toArray->dY<w.heap.size->zs.length<4611686018427387904->
   Calls Tryz.prog f #[.slice (some ⟨dY,off,none⟩) zs.length cap] w fun e w'=>e = .returned (.tuple #[])/\∃ n os,w'=grow (putRow (Value.int .i64) (Sort.ahead w n) dY off (zs.mergeSort fun x y=>decide (x<=y)).toArray) os):pt Tryz.prog f tY:=by
 intro args H v H' hp Fr W e w ar hR ha
 unfold tY at hp
 split at hp
 ·obtain⟨a',r1,e1,iI,gG⟩:=ha.cons_inv
  have e3:=gG.iW
  subst e3
  cases hp
  cases iI
  obtain rfl:ar = #[.slice none 0 0]:=adl.1 e1
  refine⟨tB _ _,(h0 none 0 w).mono ?_⟩
  rintro en w' ⟨rfl,rfl⟩
  exact⟨e,_,rfl,e.le_refl,hR,Ku e⟩
 ·rename_i i off n cap ex es
  obtain⟨a',r1,e1,iI,gG⟩:=ha.cons_inv
  have e3:=gG.iW
  subst e3
  split at hp
  ·rename_i lP
   subst lP
   cases hp
   rcases iI.lM with⟨o,c,k1,k2,k3,k4,k5,k6,rfl⟩ | ⟨_,_,a,rfl⟩
   ·obtain rfl:ar = #[.slice (some ⟨e.b i,o,none⟩) 0 c]:=adl.1 e1
    refine⟨tB _ _,(h0 _ c w).mono ?_⟩
    rintro en w' ⟨rfl,rfl⟩
    exact⟨e,_,rfl,e.le_refl,hR,Ku e⟩
   ·obtain rfl:ar = #[.slice (some a) 0 0]:=adl.1 e1
    refine⟨tB _ _,(h0 _ 0 w).mono ?_⟩
    rintro en w' ⟨rfl,rfl⟩
    exact⟨e,_,rfl,e.le_refl,hR,Ku e⟩
  ·rename_i lP
   split at hp
   ·rename_i dC
    obtain⟨rfl,tu⟩:=dC
    rcases iI.lM with⟨o,cc,k1,k2,k3,k4,k5,k6,rfl⟩ | ⟨q,_,a,rfl⟩
    ·obtain⟨ob0,hg,hp⟩:=aa6.1 hp
     unfold Qf at hp
     split at hp
     ·rename_i c lo hi el fl
      split at hp
      ·rename_i uB
       obtain⟨g1,g2,g3⟩:=uB
       cases hr:(dQ H i off n).bind Ag with
       | none=>rw[hr] at hp;cases hp
       | some zs=>
        rw[hr] at hp
        cases hp
        obtain⟨l,hl,hz⟩:=aa6.1 hr
        have Ua:=VC hz
        obtain⟨cs,c1,c2,c3⟩:=hR.AT hl k2
        have hzn:zs.length=n:=by rw[<-c2,c1.1,Ua];simp[eh]
        have fC:∀ j z,zs[j]? = some z->w.cell? ⟨e.b i,o+j,none⟩=some (.int .i64 z):=by
         intro j z hj
         obtain⟨v',cQ,eg⟩:=c1.get (i:=j) (v := .int .i64 z) (by rw[Ua];simp[eh,hj])
         have:=eg.gQ
         subst this
         exact c3 j _ cQ
        obtain⟨hN,ob,dP,dH,hF⟩:=hR.obj i _ hg
        cases dH with
        | cells _ _ _ _ _ C fz hn gi FW rW hd=>
         have dp:o+n<=C.size:=by rw[hn];omega
         have hH:Holds (Value.int .i64) w (e.b i) o zs.toArray:=by
          intro j hj
          have iU:j<zs.length:=by simpa using hj
          refine⟨?_,?_⟩
          ·rw[fC j zs[j] (aax iU)]
           simp[iU]
          ·have:=rW g3 (o+j) (by omega)
           simp only[World.frozen?,dP]
           exact this
         obtain rfl:ar = #[.slice (some ⟨e.b i,o,none⟩) n cc]:=adl.1 e1
         have Uj:=h1 (e.b i) o cc zs w hH (abM.1 dP).1 (by omega)
         rw[hzn] at Uj
         refine⟨tB _ _,Uj.mono ?_⟩
         rintro en w' ⟨rfl,m,os,rfl⟩
         refine⟨e,_,rfl,e.le_refl,?_,Ku e⟩
         have Jq:=hR.drawn (w.drawn+m)
         have fW:(zs.mergeSort fun x y=>decide (x<=y))=qI zs:=rfl
         have rD:=Ph zs
         rw[fW]
         generalize qI zs=ss at *
         have sR:RH Tryz.prog.globals.size Fr W e { H with h:=H.h.fJ i (.cells (c.dh off (eh ss)) lo hi el fl) } (putRow (Value.int .i64) (Sort.ahead w m) (e.b i) o ss.toArray):=by
          refine Jq.put hg (by simp[wr,g3]) (rp := .cells (putCells (Value.int .i64) o ss.toArray C) el fz) ?_ ?_ ?_ ?_ rfl rfl rfl
          ·simp[putRow,mapBlock,Sort.ahead]
          ·simp only[putRow,mapBlock,Sort.ahead]
           rw[Hy _ _ _ dP]
           rfl
          ·intro k hk
           simp only[putRow,mapBlock,Sort.ahead]
           rw[Gj _ _ _ _ (fun q=>hk q.symm)]
          ·have AI:(putCells (Value.int .i64) o ss.toArray C).size=C.size:=by simp[putCells]
           refine .cells _ lo hi el fl _ fz (by rw[AI];exact hn) ?_ FW (by rw[AI];exact rW) hd
           intro k u a b hk
           rw[Tr.xJ] at hk
           have kR:(eh ss).length=n:=by simp[eh];omega
           rw[kR] at hk
           by_cases gH:off<=k/\k<off+n
           ·rw[if_pos gH] at hk
            have qO:k-off<ss.length:=by omega
            have hu:u = .int .i64 ss[k-off]:=by
             have:(eh ss)[k-off]? = some (.int .i64 ss[k-off]):=by simp[eh,qO]
             rw[this] at hk
             exact (adz hk).symm
            subst hu
            refine⟨o+(k-off),by omega,.int .i64 ss[k-off],?_,.int _ _⟩
            have hC:o+(k-off)<C.size:=by omega
            simp only[putCells]
            rw[Array.getElem?_mapIdx,aeP hC]
            simp only[ahk,List.size_toArray]
            rw[if_pos (by omega),agd]
            simp[qO]
           ·rw[if_neg gH] at hk
            obtain⟨J2,yU,u',jE,eg⟩:=gi k u a b hk
            refine⟨J2,yU,u',?_,eg⟩
            simp only[putCells]
            rw[Array.getElem?_mapIdx,jE]
            simp only[ahk,List.size_toArray]
            rw[if_neg (by omega)]
         exact sR.below ⟨rfl,rfl,rfl,by simp[grow],fun k hk=>by
          simp only[grow]
          rw[Array.getElem?_append_left hk]⟩
      ·cases hp
     ·cases hp
    ·omega
   ·cases hp
 ·cases hp
theorem aeN:pt Tryz.prog 117 tY:=
 alY (fun ar w=>rF (by unfold jY;kernel_rfl) Tryz.func117 rfl ar w)
  (fun p cap w=>AnyM.slices_Sort_int_none Tryz.sortI p cap w) (fun dY off cap zs w hH hb hl=>AnyM.slices_Sort_int Tryz.sortI dY off cap zs w hH hb hl)
end Go.Proofs.YtehhgkgeldinkaaGreatDoor.K5
set_option linter.unusedVariables false
set_option linter.unusedSimpArgs false
namespace Go.Proofs.YtehhgkgeldinkaaGreatDoor.DT
open Go Go.RowKit Go.Lib
theorem acW:∃ i,Tryz.prog.info? 5=some i/\i.zero=some (.int .u8 0)/\i.size=1/\i.bytes=1:=by
 have h1:(Tryz.prog.info? 5).bind (·.zero)=some (.int .u8 0):=by kernel_rfl
 have h2:(Tryz.prog.info? 5).map (·.size)=some 1:=by kernel_rfl
 have h3:(Tryz.prog.info? 5).map (·.bytes)=some 1:=by kernel_rfl
 cases h:Tryz.prog.info? 5 with
 | none=>rw[h] at h1;cases h1
 | some i=>
  rw[h] at h1 h2 h3
  exact⟨i,rfl,h1,by simpa using h2,by simpa using h3⟩
set_option maxHeartbeats 2000000 in
set_option maxRecDepth 100000 in
theorem walk (ad:Addr)(n c:Nat)(zs:List Int)(w:World)(hz:zs.length=n)(tu:n<=140737488355328)(hc:∀ (j:Nat) (z:Int),zs[j]? = some z->w.cell? (ad.add j)=some (.int .u8 z)) :
  Calls Tryz.prog 78 #[.slice (some ad) n c] w fun e w'=>∃ v',e = .returned v'/\w'.ownsRow w.heap.size 5 1 v' n (zs.map (Value.int .u8))/\v' ≠ .slice none 0 0/\Below w.heap.size w w':=by
 obtain⟨i0,hi,fQ,Q3,Bx⟩:=acW
 have q22:∀ (w:World) (a:Option Addr) (n c n' c':Nat),(binOp .eql 48 (.slice a n c) (.slice none n' c')).run Tryz.prog w = .ok (.bool a.isNone) w:=fun w a n c n' c'=>Lib.run_eql_slice_nil w _ _ a n c n' c' Tryz.underlying48
 have u22:∀ w,Sem.run Tryz.prog (underlying 48) w = .ok (TypeDesc.slice 5) w:=run_underlying Tryz.underlying48
 have A:Aside (∀ (j:Nat) (z:Int),zs[j]? = some z->w.cell? (ad.add j)=some (.int .u8 z)):=hc
 clear hc
 go_enter Tryz.func78,Tryz.ntmps78
 go_wp2_with (at_builtin;refine wpList_append_own _ rfl _ _ 48 rfl w.heap.size 5 i0 (.int .u8 0) 1 1 Tryz.underlying48 hi fQ Q3 Bx rfl (by decide) _ _ _ rfl (World.ownsRow_made w #[] 0 (aar _) (adf _) rfl) ad n c (zs.map (Value.int .u8)) rfl ?qc1 ?qc2 ?qc3 ?qc4 ?qc5 ?qc6 ?_)
 case qc1=>simp;omega
 case qc2=>
  intro j u hj
  rw[adh,yB] at hj
  obtain⟨z,Aj,rfl⟩:=hj
  exact Lib.cell?_alloc_some _ (A.out j z Aj)
 case qc3=>intro u hu;obtain⟨x,_,rfl⟩:=adj.1 hu;rfl
 case qc4=>unfold maxLen;omega
 case qc5=>omega
 case qc6=>simp
 intro v' w1 wM aiX lS
 go_wp2
 go_ret
 refine⟨v',rfl,by simpa using wM,?_,?_⟩
 ·exact lS
 ·exact ((Below.refl _ w).alloc (aar _) _).grown aiX (by simp) (by intro k hk;simp[Value.ownBlock] at hk;omega)
set_option maxHeartbeats 1000000 in
theorem anx (n c:Nat)(w:World):Calls Tryz.prog 78 #[.slice none n c] w fun e w'=>e = .returned (.slice none 0 0)/\w'=w:=by
 have q22:∀ (w:World) (a:Option Addr) (n c n' c':Nat),(binOp .eql 48 (.slice a n c) (.slice none n' c')).run Tryz.prog w = .ok (.bool a.isNone) w:=fun w a n c n' c'=>Lib.run_eql_slice_nil w _ _ a n c n' c' Tryz.underlying48
 go_enter Tryz.func78,Tryz.ntmps78
 go_wp2
 go_ret
 exact⟨rfl,rfl⟩
open Go.Proofs.YtehhgkgeldinkaaGreatDoor.Am
theorem UN {H:Hp}{i:Nat}:∀ (n o:Nat) (l:List AV),Am.dQ H i o n=some l->l.length=n/\∀ (j:Nat) (v:AV),l[j]? = some v->Am.cellAt H i (o+j)=some v
 | 0,o,l,h=>by cases h;exact⟨rfl,fun j v q=>by simp at q⟩
 | n+1,o,l,h=>by
  have h':((Am.cellAt H i o).bind fun v=>(Am.dQ H i (o+1) n).bind fun r=>some (v::r))=some l:=h
  rw[aa6] at h'
  obtain⟨v,h1,h2⟩:=h'
  rw[aa6] at h2
  obtain⟨r,h3,h4⟩:=h2
  cases h4
  obtain⟨i1,i2⟩:=UN n (o+1) r h3
  refine⟨by simp[i1],fun j u q => ?_⟩
  cases j with
  | zero=>simp only[nq,acS] at q;subst q;exact h1
  | succ j=>
   simp only[gk] at q
   have:=i2 j u q
   rw[show o+(j+1)=o+1+j by omega]
   exact this
open Classical in
noncomputable def DS:Am.Prim:=fun args H=>match args with
 | [.ae]=>some (.ae,H)
 | [.slice i o n c ex 1]=>match Am.dQ H i o n with
  | some l=>if n<=140737488355328/\∃ zs:List Int,l=zs.map (AV.int .u8) then (Am.alloc H (.cells (Tr.dh .nil 0 l) 0 l.length 5 0)).map fun r=>(.slice r.1 0 n n false 1,r.2) else none
  | none=>none
 | _=>none
theorem abp:Am.jY Tryz.prog:=by unfold Am.jY;kernel_rfl
theorem anF:Am.pt Tryz.prog 78 DS:=by
 intro args H v H' hp F W e w ar hR ha
 unfold DS at hp
 split at hp
 ·cases hp
  obtain⟨a',r1,e1,iI,gG⟩:=ha.cons_inv
  have e3:=gG.iW
  subst e3
  have e4:a' = .slice none 0 0:=by cases iI;rfl
  subst e4
  obtain rfl:ar = #[.slice none 0 0]:=adl.1 e1
  refine⟨Am.rF abp Tryz.func78 rfl _ w,(anx 0 0 w).mono ?_⟩
  rintro en w' ⟨rfl,rfl⟩
  exact⟨e,_,rfl,e.le_refl,hR,.ae⟩
 ·rename_i i o n c ex
  split at hp
  ·rename_i l hl
   split at hp
   ·rename_i hc
    obtain⟨hn,zs,rfl⟩:=hc
    obtain⟨hlen,eF⟩:=UN n o _ hl
    rw[yB] at hp
    obtain⟨⟨ni,H2⟩,ff,kF⟩:=hp
    cases kF
    obtain⟨a',r1,e1,iI,gG⟩:=ha.cons_inv
    have e3:=gG.iW
    subst e3
    have rB:zs.length=n:=by simpa using hlen
    obtain⟨ad,c',e4,jh⟩:∃ (ad:Addr) (c':Nat),a' = .slice (some ad) n c'/\∀ (j:Nat) (z:Int),zs[j]? = some z->w.cell? (ad.add j)=some (.int .u8 z):=by
     cases iI with
     | slice _ _ _ _ _ _ o' c' hi ho sD A3 hx vI=>
      refine⟨_,c',rfl,fun j z hz => ?_⟩
      have h1:=eF j (.int .u8 z) (by rw[adh,hz];rfl)
      obtain⟨_,o2,vl,v2,oG,gu⟩:=hR.load h1
      have e5:o2=o'+j:=by omega
      subst e5
      rw[Addr.add_lit]
      cases gu
      exact oG
     | yt _ _ _ _ a=>
      refine⟨a,0,rfl,fun j z hz => ?_⟩
      have:=(abf.1 hz).1
      omega
    subst e4
    obtain rfl:ar = #[.slice (some ad) n c']:=adl.1 e1
    refine⟨Am.rF abp Tryz.func78 rfl _ w,(walk ad n c' zs w rB hn jh).mono ?_⟩
    rintro en w' ⟨v',rfl,jC,lS,qG⟩
    obtain⟨dW,NZ⟩:=jC
    rcases NZ with⟨rfl,h0⟩ | ⟨g,cap,cur,rfl,S4,N5,fe,apB,KJ,Qs⟩
    ·exact absurd rfl lS
    have gS:ni=e.N:=(qz ff).1.trans hR.N.symm
    have hle:=Em.nf e g 0 cur.size
    have dH:OR (e.ext g 0 cur.size) ni (.cells (Tr.dh .nil 0 (zs.map (AV.int .u8))) 0 (zs.map (AV.int .u8)).length 5 0) (.cells cur 5 (0,0)):=by
     subst gS
     refine .cells _ _ _ _ _ _ (0,0) (by simp[Em.qt]) ?_ (fun _=>rfl) (by simp) (fun _=>Em.jN ..)
     intro k v _ hk hg
     rw[G8,if_pos ⟨adf _,by simpa using hk⟩,ae9] at hg
     rw[adh,yB] at hg
     obtain⟨u,uD,rfl⟩:=hg
     refine⟨k,by rw[Em.jN];omega,.int .u8 u,?_,.int _ _⟩
     have h1:(cur.toList.take (n*1))[k]? = some (Value.int .u8 u):=by rw[Qs,adh,uD];rfl
     rw[adM] at h1
     split at h1
     ·rw[<-adm];exact h1
     ·cases h1
    obtain⟨gH,sR⟩:=hR.V6 qG S4 N5 ff dH
    refine⟨_,_,rfl,hle,sR,?_⟩
    subst gH
    have je:(e.ext g 0 cur.size).b e.N=g:=Em.jL ..
    have hv:=VR.slice (e:=e.ext g 0 cur.size) e.N 0 n n false 1 0 cap (aeX e.N) (by rw[Em.jN];rfl) fe fe (by simp) (by rw[Em.qt,KJ];omega)
    rw[je] at hv
    exact hv
   ·cases hp
  ·cases hp
 ·cases hp
end Go.Proofs.YtehhgkgeldinkaaGreatDoor.DT
namespace Go.Proofs.YtehhgkgeldinkaaGreatDoor.Am
open Go.RowKit
set_option linter.unusedVariables false
set_option linter.unusedSimpArgs false
def ZF:AV->Bool
 | .bool _ | .int _ _ | .str _=>true
 | _=>false
theorem VR.flat {e e':Em}{v:AV}{v':Value}(h:VR e v v')(hf:ZF v=true):VR e' v v':=by
 cases h with
 | bool b=>exact .bool b
 | int k n=>exact .int k n
 | str s=>exact .str s
 | _=>cases hf
theorem az.cut {e:Em}{n:Nat->Nat}{N:Nat}{l:List AV}{l':List Value}(h:az e l l')(hs:l.all (vt N)=true):az (Af e n N) l l':=⟨h.1,fun i a b ha hb=>(h.2 i a b ha hb).cut (ac6.1 hs a (acx ha))⟩
def yk (v:AV)(r:Option (AV × Hp)):Bool:=match r with | some (x,_)=>ZF x&&same v x | none=>false
section
variable {P:Program}{ext:Nat->Option Ext}{aw:Nat->Option Prim}
theorem Oo (hm:P.follows .mixedOrders=true)(hN:jY P)(hE:tZ P ext)(hP:qW P aw){fuel g N:Nat}{fn:Func}{b:Code}(hf:P.funcs[g]? = some fn)(hb:fn.body=some b){L:List (Nat × List AV)}(hG:P.globals.size<N)
  (hL:∀ g l,(g,l)∈L->g<P.globals.size/\g<4294967296/\l.length<4294967296/\∀ v∈l,vt N v=true) {args:List AV} {v:AV} (hs:args.all (vt N)=true) (h:∀ el,yk v (tT P ext aw fuel g args ⟨lh el L,N⟩)=true)
  {F:Nat->Prop} {W:World} {e:Em} {H:Hp} {w:World} {ar:Array Value} (hR:RH P.globals.size F W e H w) (ha:az e args ar.toList) (hT:ez H L) (hle:N<=H.next):Calls P g ar w fun en w'=>(∃ v',en = .returned v'/\∀ e',VR e' v v')/\Below w.heap.size w w':=by
 obtain⟨el,hT⟩:=hT
 have h1:=h el
 unfold yk at h1
 split at h1
 ·rename_i x H' hc
  rw[zf] at h1
  obtain rfl:=Pu h1.2
  refine (abd hm hN hE hP hc hf hb (ab7 hR hG hle hL hT) (ar:=ar) (ha.cut hs)).mono fun en w' ⟨e',v',he,_,cH,hv⟩ => ?_
  exact⟨⟨v',he,fun e'=>hv.flat h1.1⟩,⟨cH.os,cH.tape,cH.output,cH.size,fun k hk=>(cH.frame k hk).2⟩⟩
 ·cases h1
noncomputable section
open Classical in
def A0 (L:List (Nat × List AV))(N:Nat)(T:List AV->Option AV):Prim:=fun args H=>if ez H L/\N<=H.next then (T args).map fun v=>(v,H) else none
end
theorem Nj (hN:jY P){g N:Nat}{fn:Func}{b:Code}(hf:P.funcs[g]? = some fn)(hb:fn.body=some b){L:List (Nat × List AV)}{T:List AV->Option AV}
  (h:∀ args v,T args=some v->∀ (F:Nat->Prop) (W:World) (e:Em) (H:Hp) (w:World) (ar:Array Value),RH P.globals.size F W e H w->az e args ar.toList->ez H L->N<=H.next->Calls P g ar w fun en w'=>(∃ v',en = .returned v'/\∀ e',VR e' v v')/\Below w.heap.size w w'):pt P g (A0 L N T):=by
 intro args H v H' hp F W e w ar hR ha
 unfold A0 at hp
 split at hp
 ·rename_i hc
  obtain⟨v0,h0,h1⟩:=yB.1 hp
  cases h1
  exact⟨rF hN hf hb ar w,(h args v h0 F W e H w ar hR ha hc.1 hc.2).mono fun en w' ⟨⟨v',h1,h2⟩,h3⟩=>⟨e,v',h1,e.le_refl,hR.below h3,h2 e⟩⟩
 ·cases hp
theorem PE {L:List (Nat × List AV)}{N:Nat}{T:List AV->Option AV}{args:List AV}{v:AV}{H:Hp}(h:T args=some v)(hT:ez H L)(hn:N<=H.next):A0 L N T args H=some (v,H):=by
 unfold A0
 rw[if_pos ⟨hT,hn⟩,h]
 rfl
end
theorem ez.sub {H:Hp}{L L':List (Nat × List AV)}(h:ez H L)(k:∀ x∈L',x∈L):ez H L':=by
 obtain⟨el,h⟩:=h
 exact⟨el,fun g l hm=>h g l (k _ hm)⟩
def cZ (z:Int):List Nat:=match z with
 | .ofNat n=>if n<10 then [48+n] else [48+n / 10,48+n % 10]
 | .negSucc _=>[45,49]
theorem xE {n:Nat}(h:n<10):cZ (n:Int)=[48+n]:=by
 show (if n<10 then _ else _)=_
 rw[if_pos h]
theorem E6 {n:Nat}(h1:¬ n<10)(h2:n<100):cZ (n:Int)=[48+n / 10,48+n % 10]:=by
 show (if n<10 then _ else _)=_
 rw[if_neg h1]
end Go.Proofs.YtehhgkgeldinkaaGreatDoor.Am
namespace Go.Proofs.YtehhgkgeldinkaaGreatDoor.tf
open Go Go.RowKit Am
set_option linter.unusedVariables false
set_option linter.unusedSimpArgs false
set_option maxRecDepth 100000
def J5:List Int:=[1,10,100,1000,10000,100000,1000000,10000000,100000000,1000000000,10000000000,100000000000,1000000000000,10000000000000,100000000000000,1000000000000000,10000000000000000,100000000000000000,1000000000000000000,10000000000000000000]
def L0:List (Nat × List AV):=[(3,J5.map (AV.int .u64))]
theorem yD:jY Tryz.prog:=by unfold jY;kernel_rfl
theorem mixed:Tryz.prog.follows .mixedOrders=true:=by kernel_rfl
theorem Ss:tZ Tryz.prog (fun _=>none):=by intro aB k h;cases h
theorem Gz:Tryz.prog.globals.size<11:=by decide +kernel
theorem S1:∀ g l,(g,l)∈L0->g<Tryz.prog.globals.size/\g<4294967296/\l.length<4294967296/\∀ v∈l,vt 11 v=true:=by
 intro g l hm
 have hs:Tryz.prog.globals.size=8:=by kernel_rfl
 rw[hs]
 simp only[L0,yL,abT,aeB,or_false] at hm
 obtain⟨rfl,rfl⟩:=hm
 exact⟨by decide,by decide,by decide,by decide⟩
def aaV (args:List AV):Option AV:=match args with
 | [.int .i64 (.negSucc 0)]=>some (.str [45,49])
 | [.int .i64 (.ofNat 0)]=>some (.str [48])
 | [.int .i64 (.ofNat 1)]=>some (.str [49])
 | _=>none
theorem Qe (el:Nat->TypeId):yk (.str [45,49]) (tT Tryz.prog (fun _=>none) (fun _=>none) 1000 46 [.int .i64 (.negSucc 0)] ⟨lh el L0,11⟩)=true/\yk (.str [48]) (tT Tryz.prog (fun _=>none) (fun _=>none) 1000 46 [.int .i64 (.ofNat 0)] ⟨lh el L0,11⟩)=true/\yk (.str [49]) (tT Tryz.prog (fun _=>none) (fun _=>none) 1000 46 [.int .i64 (.ofNat 1)] ⟨lh el L0,11⟩)=true:=⟨by kernel_rfl,by kernel_rfl,by kernel_rfl⟩
noncomputable def On:Prim:=A0 L0 11 aaV
theorem aoM:pt Tryz.prog 46 On:=by
 refine Nj yD Tryz.func46 rfl fun args v h F W e H w ar hR ha hT hn => ?_
 have key:args.all (vt 11)=true/\∀ el,yk v (tT Tryz.prog (fun _=>none) (fun _=>none) 1000 46 args ⟨lh el L0,11⟩)=true:=by
  unfold aaV at h
  split at h
  ·cases h;exact⟨rfl,fun el=>(Qe el).1⟩
  ·cases h;exact⟨rfl,fun el=>(Qe el).2.1⟩
  ·cases h;exact⟨rfl,fun el=>(Qe el).2.2⟩
  ·cases h
 exact Oo mixed yD Ss (Pp _) Tryz.func46 rfl Gz S1 key.1 key.2 hR ha hT hn
def Y0 (args:List AV):Option AV:=match args with
 | [.int .i64 (.ofNat n),.int .i64 (.ofNat 10)]=>if n<=60 then some (.str (cZ (.ofNat n))) else none
 | _=>none
theorem acE (el:Nat->TypeId):((List.range 61).all fun n=>yk (.str (cZ (.ofNat n))) (tT Tryz.prog (fun _=>none) (fun _=>none) 1000 52 [.int .i64 (.ofNat n),.int .i64 (.ofNat 10)] ⟨lh el L0,11⟩))=true:=by kernel_rfl
noncomputable def Qp:Prim:=A0 L0 11 Y0
theorem aiM:pt Tryz.prog 52 Qp:=by
 refine Nj yD Tryz.func52 rfl fun args v h F W e H w ar hR ha hT hn => ?_
 have key:args.all (vt 11)=true/\∀ el,yk v (tT Tryz.prog (fun _=>none) (fun _=>none) 1000 52 args ⟨lh el L0,11⟩)=true:=by
  unfold Y0 at h
  split at h
  ·rename_i n
   by_cases hn:n<=60
   ·rw[if_pos hn] at h
    cases h
    exact⟨rfl,fun el=>ac6.1 (acE el) n (List.mem_range.2 (by omega))⟩
   ·rw[if_neg hn] at h;cases h
  ·cases h
 exact Oo mixed yD Ss (Pp _) Tryz.func52 rfl Gz S1 key.1 key.2 hR ha hT hn
def aaQ (args:List AV):Option AV:=match args with
 | [.int .i64 (.ofNat n)]=>if n<=60 then some (.str (cZ (.ofNat n))) else none
 | _=>none
theorem ag1 (el:Nat->TypeId):((List.range 10).all fun n=>yk (.str (cZ (.ofNat n))) (tT Tryz.prog (fun _=>none) (fun _=>none) 1000 8 [.int .i64 (.ofNat n)] ⟨lh el L0,11⟩))=true:=by kernel_rfl
theorem ad8 {n:Nat}(hn:n<10){F:Nat->Prop}{W:World}{e:Em}{H:Hp}{w:World}(hR:RH Tryz.prog.globals.size F W e H w)(hT:ez H L0)(hle:11<=H.next):Calls Tryz.prog 8 #[.int .i64 n] w fun en w'=>(∃ s:ByteArray,en = .returned (.string s)/\Am.bytes s=[48+n])/\Below w.heap.size w w':=by
 refine (Oo (fuel:=1000) (v := .str [48+n]) (ar := #[.int .i64 n]) mixed yD Ss (Pp _) Tryz.func8 rfl Gz S1 (args:=[.int .i64 (.ofNat n)]) rfl (fun el => ?_) hR (az.cons (.int _ _) (.nil e)) hT hle).mono fun en w' ⟨⟨v',h1,h2⟩,h3⟩=>⟨?_,h3⟩
 ·have:=ac6.1 (ag1 el) n (List.mem_range.2 hn)
  rw[show cZ (.ofNat n)=[48+n] from xE hn] at this
  exact this
 ·have:=h2 e
  generalize hq:AV.str [48+n]=q at this
  cases this with
  | str s=>injection hq with hq;exact⟨s,h1,hq.symm⟩
  | _=>cases hq
theorem agf {s:ByteArray}{n:Nat}(h:Am.bytes s=[n]):s=⟨#[UInt8.ofNat n]⟩:=by
 obtain⟨⟨l⟩⟩:=s
 unfold Am.bytes at h
 match l,h with
 | [x],h=>
  have hx:x.toNat=n:=by simpa using h
  rw[<-hx]
  simp
theorem abI {n:Nat}(hn:n<10){F:Nat->Prop}{W:World}{e:Em}{H:Hp}{w:World}(hR:RH Tryz.prog.globals.size F W e H w)(hT:ez H L0)(hle:11<=H.next):Calls Tryz.prog 8 #[.int .i64 n] w fun en w'=>en = .returned (.string ⟨#[UInt8.ofNat (48+n)]⟩)/\Below w.heap.size w w':=
 (ad8 hn hR hT hle).mono fun en w' ⟨⟨s,h1,h2⟩,h3⟩=>⟨by rw[h1,agf h2],h3⟩
theorem Qm (W:World)(v:Value)(t:TypeId):(W.alloc (.cells #[v] t)).cell? ⟨W.heap.size,0,none⟩=some v:=by
 have:=heap_alloc_new W (.cells #[v] t)
 unfold World.cell?
 simp only[this]
 rfl
set_option maxHeartbeats 1000000 in
theorem aqQ {n q r r' c:Int}(h1:10<=n)(hq:IntKind.i64.wrap (Int.tdiv n 10)=q)(hr:Int.tmod n 10=r)(eg:IntKind.u8.wrap r=r')(hc:IntKind.u8.wrap (48+r')=c)(hcr:0<=c/\c<256)(u:UInt8)(w:World)(hs:∀ w1,Below w.heap.size w w1->Calls Tryz.prog 8 #[.int .i64 q] w1 fun en w'=>en = .returned (.string ⟨#[u]⟩)/\Below w1.heap.size w1 w') :
  Calls Tryz.prog 8 #[.int .i64 n] w fun en w'=>en = .returned (.string ⟨#[u,UInt8.ofNat c.toNat]⟩)/\Below w.heap.size w w':=by
 have d1:¬ (n<10):=by omega
 have p9:∀ (W:World) (b:Nat),W.cell? ⟨b,0,none⟩=some (.int .u8 c)->Sem.run Tryz.prog (convert 48 9 (.slice (some ⟨b,0,none⟩) 1 1)) W = .ok (.string ⟨#[UInt8.ofNat c.toNat]⟩) W:=fun W b h=>by
  have oW:((UInt8.ofNat c.toNat).toNat:Int)=c:=by rw[UInt8.toNat_ofNat',aeE (by omega)];omega
  refine run_convert_bytes_back W 48 9 5 ⟨b,0,none⟩ 1 [UInt8.ofNat c.toNat] Tryz.underlying48 Tryz.underlying5 Tryz.underlying9 fun j hj => ?_
  have Xp:j=0:=by simp at hj;omega
  subst Xp
  show W.cell? ⟨b,0,none⟩=some (.int .u8 ((UInt8.ofNat c.toNat).toNat:Int))
  rw[oW,h]
 have f1:∀ W:World,Sem.run Tryz.prog (convert 48 9 (.slice (some ⟨W.heap.size,0,none⟩) 1 1)) (W.alloc (.cells #[.int .u8 c] 5)) = .ok (.string ⟨#[UInt8.ofNat c.toNat]⟩) (W.alloc (.cells #[.int .u8 c] 5)):=fun W=>p9 _ _ (Qm W _ _)
 have f2:∀ (W tQ:World) (b:Nat),b=W.heap.size->Below (W.alloc (.cells #[.int .u8 c] 5)).heap.size (W.alloc (.cells #[.int .u8 c] 5)) tQ->Sem.run Tryz.prog (convert 48 9 (.slice (some ⟨b,0,none⟩) 1 1)) tQ = .ok (.string ⟨#[UInt8.ofNat c.toNat]⟩) tQ:=fun W tQ b e hb=>e▸p9 _ _ (by
  rw[hb.cell (p:=⟨W.heap.size,0,none⟩) (by rw[World.size_alloc];exact aeX _)]
  exact Qm W _ _)
 have f3:∀ (W tQ:World) (b:Nat),b=W.heap.size->Below (W.alloc (.cells #[.int .u8 c] 5)).drew.heap.size (W.alloc (.cells #[.int .u8 c] 5)).drew tQ->Sem.run Tryz.prog (convert 48 9 (.slice (some ⟨b,0,none⟩) 1 1)) tQ = .ok (.string ⟨#[UInt8.ofNat c.toNat]⟩) tQ:=fun W tQ b e hb=>f2 W tQ b e ⟨hb.os,hb.tape,hb.output,hb.size,hb.block⟩
 have f4:∀ W:World,Sem.run Tryz.prog (convert 48 9 (.slice (some ⟨W.heap.size,0,none⟩) 1 1)) (W.alloc (.cells #[.int .u8 c] 5)).drew = .ok (.string ⟨#[UInt8.ofNat c.toNat]⟩) (W.alloc (.cells #[.int .u8 c] 5)).drew:=fun W=>p9 _ _ (Qm W _ _)
 have e1:∀ w',Below w.drew.heap.size w.drew w'->∀ o,Below w.heap.size w (w'.alloc o):=fun w' hb o=>Below.alloc (B:=w.heap.size) (a:=w) ⟨hb.os,hb.tape,hb.output,hb.size,hb.block⟩ hb.size o
 have e2:∀ w' o,Below (w.alloc o).drew.heap.size (w.alloc o).drew w'->Below w.heap.size w w':=fun w' o hb=>((Below.refl _ w).alloc (aar _) o).trans ⟨hb.os,hb.tape,hb.output,hb.size,fun k hk=>hb.block k (adi hk (by show w.heap.size<=(w.alloc o).heap.size;rw[World.size_alloc];omega))⟩
 clear p9
 go_enter Tryz.func8,Tryz.ntmps8
 go_wp2
 go_region_with (go_at_call 8;refine (hs _ (by repeat' (first|exact Below.refl _ _|refine Below.drew ?_|refine Below.alloc ?_ (by simp) _))).mono ?_;rintro e w' ⟨rfl,hb⟩;first|(have hk:=f2 _ _ w.heap.size (by rfl) hb)|(have hk:=f3 _ _ w.heap.size (by rfl) hb)|skip)
 all_goals go_wp2
 all_goals go_ret
 all_goals exact⟨rfl,by first | exact e1 _ hb _ | exact e2 _ _ hb⟩
theorem ajn {n:Nat}(h1:10<=n)(h2:n<100)(w:World)(hs:∀ w1,Below w.heap.size w w1->Calls Tryz.prog 8 #[.int .i64 ((n / 10:Nat):Int)] w1 fun en w'=>en = .returned (.string ⟨#[UInt8.ofNat (48+n / 10)]⟩)/\Below w1.heap.size w1 w') :
  Calls Tryz.prog 8 #[.int .i64 (n:Nat)] w fun en w'=>en = .returned (.string ⟨#[UInt8.ofNat (48+n / 10),UInt8.ofNat (48+n % 10)]⟩)/\Below w.heap.size w w':=by
 have q1:IntKind.i64.wrap (Int.tdiv (n:Int) 10)=((n / 10:Nat):Int):=by
  rw[Int.tdiv_eq_ediv_of_nonneg (by omega),IntKind.wrap_i64]
  omega
 have q2:Int.tmod (n:Int) 10=((n % 10:Nat):Int):=by
  rw[Int.tmod_eq_emod_of_nonneg (by omega)]
  omega
 have:=aqQ (n:=(n:Int)) (c:=((48+n % 10:Nat):Int)) (by omega) q1 q2 (r':=((n % 10:Nat):Int)) (by rw[IntKind.wrap_u8];omega) (by rw[IntKind.wrap_u8];omega) (by omega) (UInt8.ofNat (48+n / 10)) w hs
 rw[aeq] at this
 exact this
noncomputable def MX:Prim:=A0 L0 11 aaQ
theorem aih:pt Tryz.prog 8 MX:=by
 refine Nj yD Tryz.func8 rfl fun args v h F W e H w ar hR ha hT hn => ?_
 unfold aaQ at h
 split at h
 ·rename_i n
  by_cases h6:n<=60
  ·rw[if_pos h6] at h
   cases h
   obtain⟨v',ws,e1,e2,e3⟩:=ha.cons_inv
   have e4:=e3.iW
   subst e4
   cases e2
   obtain⟨l⟩:=ar
   simp only at e1
   subst e1
   by_cases cG:n<10
   ·refine (abI cG hR hT hn).mono fun en w' ⟨q1,q2⟩=>⟨⟨_,q1,fun e' => ?_⟩,q2⟩
    have:AV.str (cZ (.ofNat n)) = .str (Am.bytes ⟨#[UInt8.ofNat (48+n)]⟩):=by
     rw[show cZ (.ofNat n)=[48+n] from xE cG]
     show _=AV.str [(UInt8.ofNat (48+n)).toNat]
     rw[UInt8.toNat_ofNat',aeE (by omega)]
    rw[this]
    exact .str _
   ·refine (ajn (by omega) (by omega) w fun w1 hb=>abI (n:=n / 10) (by omega) (hR.below hb) hT hn).mono fun en w' ⟨q1,q2⟩=>⟨⟨_,q1,fun e' => ?_⟩,q2⟩
    have:AV.str (cZ (.ofNat n)) = .str (Am.bytes ⟨#[UInt8.ofNat (48+n / 10),UInt8.ofNat (48+n % 10)]⟩):=by
     rw[show cZ (.ofNat n)=[48+n / 10,48+n % 10] from E6 cG (by omega)]
     show _=AV.str [(UInt8.ofNat (48+n / 10)).toNat,(UInt8.ofNat (48+n % 10)).toNat]
     have a1:(UInt8.ofNat (48+n / 10)).toNat=48+n / 10:=by rw[UInt8.toNat_ofNat'];exact aeE (by omega)
     have a2:(UInt8.ofNat (48+n % 10)).toNat=48+n % 10:=by rw[UInt8.toNat_ofNat'];exact aeE (by omega)
     rw[a1,a2]
    rw[this]
    exact .str _
  ·rw[if_neg h6] at h;cases h
 ·cases h
end Go.Proofs.YtehhgkgeldinkaaGreatDoor.tf
namespace Go.Proofs.YtehhgkgeldinkaaGreatDoor.jn
open Go Go.RowKit Am
set_option linter.unusedVariables false
set_option maxRecDepth 100000
def ext (g:Nat):Option Ext:=bif Nat.beq g 45 then some .same else bif Nat.beq g 169 then some (.GC 48) else bif Nat.beq g 159 then some .LX else bif Nat.beq g 58 then some .count else none
theorem abF:tZ Tryz.prog ext:=by
 intro aB k h ar w
 unfold ext at h
 cases h1:Nat.beq aB 45 with
 | true=>
  rw[h1] at h
  cases h
  obtain rfl:=aba h1
  exact Jg (e:=Extern.AbiNoEscape.same) Tryz.func45 (by kernel_rfl) (by kernel_rfl) (by kernel_rfl) (by kernel_rfl) rfl ar w
 | false=>
  rw[h1] at h
  clear h1
  cases h1:Nat.beq aB 169 with
  | true=>
   rw[h1] at h
   cases h
   obtain rfl:=aba h1
   exact Jg (e:=Extern.BytealgMakeNoZero.makeNoZero #[] #[48]) Tryz.func169 (by kernel_rfl) (by kernel_rfl) (by kernel_rfl) (by kernel_rfl) rfl ar w
  | false=>
   rw[h1] at h
   clear h1
   cases h1:Nat.beq aB 159 with
   | true=>
    rw[h1] at h
    cases h
    obtain rfl:=aba h1
    exact Jg (e:=Extern.BytealgIndexByte.indexByte) Tryz.func159 (by kernel_rfl) (by kernel_rfl) (by kernel_rfl) (by kernel_rfl) rfl ar w
   | false=>
    rw[h1] at h
    clear h1
    cases h1:Nat.beq aB 58 with
    | true=>
     rw[h1] at h
     cases h
     obtain rfl:=aba h1
     exact Jg (e:=Extern.BytealgCount.count) Tryz.func58 (by kernel_rfl) (by kernel_rfl) (by kernel_rfl) (by kernel_rfl) rfl ar w
    | false=>
     rw[h1] at h
     clear h1
     cases h
noncomputable def I5 (g:Nat):Option Prim:=bif Nat.beq g 260 then some Am.Fj else bif Nat.beq g 66 then some (Am.CG 9) else bif Nat.beq g 60 then some Am.F7 else none
theorem abB:qW Tryz.prog I5:=by
 intro aB p h args H v H' hp
 unfold I5 at h
 cases h1:Nat.beq aB 260 with
 | true=>
  rw[h1] at h
  cases h
  obtain rfl:=aba h1
  exact Vo.afY args H v H' hp
 | false=>
  rw[h1] at h
  clear h1
  cases h1:Nat.beq aB 66 with
  | true=>
   rw[h1] at h
   cases h
   obtain rfl:=aba h1
   exact XC.ahL args H v H' hp
  | false=>
   rw[h1] at h
   clear h1
   cases h1:Nat.beq aB 60 with
   | true=>
    rw[h1] at h
    cases h
    obtain rfl:=aba h1
    exact Xh.acY args H v H' hp
   | false=>
    rw[h1] at h
    clear h1
    cases h
theorem yD:jY Tryz.prog:=by unfold jY;kernel_rfl
theorem mixed:Tryz.prog.follows .mixedOrders=true:=by kernel_rfl
def J5:List Int:=[1,10,100,1000,10000,100000,1000000,10000000,100000000,1000000000,10000000000,100000000000,1000000000000,10000000000000,100000000000000,1000000000000000,10000000000000000,100000000000000000,1000000000000000000,10000000000000000000]
def UZ:List Int:=[0,1,28,2,29,14,24,3,30,22,20,15,25,17,4,8,31,27,13,23,21,19,16,7,26,12,18,6,11,5,10,9]
def SH:List Int:=[0,1,56,2,57,49,28,3,61,58,42,50,38,29,17,4,62,47,59,36,45,43,51,22,53,39,33,30,24,18,12,5,63,55,48,27,60,41,37,16,46,35,44,21,52,32,23,11,54,26,40,15,34,20,31,10,25,14,19,9,13,8,7,6]
def dN:List (Nat × List AV):=[(3,J5.map (AV.int .u64)),(4,[.iface 352 (.ptr 10 0)]),(5,[.iface 352 (.ptr 9 0)]),(6,UZ.map (AV.int .u8)),(7,SH.map (AV.int .u8))]
abbrev laid : List (String × DataW Unit) := [("math/bits.deBruijn32tab", Rows.laid_math_bits_deBruijn32tab), ("math/bits.deBruijn64tab", Rows.laid_math_bits_deBruijn64tab), ("internal/strconv.uint64pow10", Rows.laid_internal_strconv_uint64pow10), ("unicode/utf8.acceptRanges", Rows.laid_unicode_utf8_acceptRanges), ("strconv.ErrRange", Rows.laid_strconv_ErrRange), ("strconv.ErrSyntax", Rows.laid_strconv_ErrSyntax), ("unicode/utf8.first", Rows.laid_unicode_utf8_first)]
theorem star : "*" ++ "errors.errorString" = "*errors.errorString" := by decide
theorem ace (u : TypeId)(h : Tryz.prog.typeName? 3 u = some "*errors.errorString") : u = 352 :=
 typeName_ptr_named (nm := "errors.errorString") (by rw[star];kernel_rfl) (by kernel_rfl) (by decide) u (by rw[star];exact h)
theorem aiO {W:World}(h:laidMet Tryz.prog laid W)(dp:8<=W.heap.size)(bx:Nat->Nat)(dx:Nat->Int)(nx:Nat->Nat){N:Nat}(hN:11<=N){PO:List (Nat × AO)}
  (hP:∀ i o,(i,o)∈PO->11<=i/\i<N/\wr o=false/\∃ ob,W.heap[bx i]? = some ob/\∀ e:Em,e.N=N->(∀ j,11<=j->e.b j=bx j/\e.d j=dx j/\e.n j=nx j)->OR e i o ob) :
  ∃ e,RH Tryz.prog.globals.size (fun k=>k<W.heap.size) W e ⟨rK PO (lh (zD W) dN),N⟩ W/\e.N=N/\∀ j,11<=j->e.b j=bx j/\e.d j=dx j/\e.n j=nx j:=by
 have hs:Tryz.prog.globals.size=8:=by kernel_rfl
 rw[hs]
 obtain⟨b0, o0, t0, w0⟩ := WR (n := "strconv.ErrRange") (nm := "*errors.errorString") (tp := 352) (te := 354) (ts := 9) h (.tail _ (.tail _ (.tail _ (.tail _ (.head _))))) (g := 5) (ti := 52) (by kernel_rfl) (by kernel_rfl) Tryz.underlying52 ace Tryz.underlying352 Tryz.underlying354 rfl rfl Tryz.underlying9 (by kernel_rfl) (by kernel_rfl)
 obtain⟨b1, o1, t1, w1⟩ := WR (n := "strconv.ErrSyntax") (nm := "*errors.errorString") (tp := 352) (te := 354) (ts := 9) h (.tail _ (.tail _ (.tail _ (.tail _ (.tail _ (.head _)))))) (g := 4) (ti := 52) (by kernel_rfl) (by kernel_rfl) Tryz.underlying52 ace Tryz.underlying352 Tryz.underlying354 rfl rfl Tryz.underlying9 (by kernel_rfl) (by kernel_rfl)
 let bz:Nat->Nat:=fun i=>if i=9 then b0 else if i=10 then b1 else bx i
 let dz:Nat->Int:=fun i=>if i=9 then (o0:Int) else if i=10 then (o1:Int) else dx i
 have T3 := fun em : Em => RS (name := "internal/strconv.uint64pow10") (k := .u64) (zs := J5) h (.tail _ (.tail _ (.head _))) (g := 3) (by kernel_rfl) (by kernel_rfl) Tryz.underlying270 Tryz.underlying125 (by kernel_rfl) (by kernel_rfl) (by decide) em
 have T6 := fun em : Em => RS (name := "math/bits.deBruijn32tab") (k := .u8) (zs := UZ) h (.head _) (g := 6) (by kernel_rfl) (by kernel_rfl) Tryz.underlying372 Tryz.underlying5 (by kernel_rfl) (by kernel_rfl) (by decide) em
 have T7 := fun em : Em => RS (name := "math/bits.deBruijn64tab") (k := .u8) (zs := SH) h (.tail _ (.head _)) (g := 7) (by kernel_rfl) (by kernel_rfl) Tryz.underlying373 Tryz.underlying5 (by kernel_rfl) (by kernel_rfl) (by decide) em
 have hj:∀ j,11<=j->(Am.start W 8 N bz dz nx).b j=bx j/\(Am.start W 8 N bz dz nx).d j=dx j/\(Am.start W 8 N bz dz nx).n j=nx j:=by
  intro j hj
  refine⟨?_,?_,?_⟩<;>simp only[Am.start,bz,dz]<;>(repeat rw[if_neg (by omega)])
 refine⟨Am.start W 8 N bz dz nx,RH.start bz dz nx (by omega) (by decide) dp ?_ ?_,rfl,hj⟩
 ·intro g l hm
  simp only[dN,yL,abT,aeB,or_false] at hm
  rcases hm with⟨rfl,rfl⟩ | ⟨rfl,rfl⟩ | ⟨rfl,rfl⟩ | ⟨rfl,rfl⟩ | ⟨rfl,rfl⟩
  ·exact⟨by decide,by decide,T3 _⟩
  ·refine⟨by decide,by decide,_,t1,w1,fun k v hv => ?_⟩
   cases k with
   | zero=>
    simp only[nq,acS] at hv
    subst hv
    exact⟨_,rfl,.iface _ _ _ (.ptr (e:=Am.start W 8 N bz dz nx) 10 0 o1 (show (10:Nat)<N by omega) (by simp[Am.start,dz]))⟩
   | succ k=>simp at hv
  ·refine⟨by decide,by decide,_,t0,w0,fun k v hv => ?_⟩
   cases k with
   | zero=>
    simp only[nq,acS] at hv
    subst hv
    exact⟨_,rfl,.iface _ _ _ (.ptr (e:=Am.start W 8 N bz dz nx) 9 0 o0 (show (9:Nat)<N by omega) (by simp[Am.start,dz]))⟩
   | succ k=>simp at hv
  ·exact⟨by decide,by decide,T6 _⟩
  ·exact⟨by decide,by decide,T7 _⟩
 ·intro i o hm
  obtain⟨h1,h2,h3,ob,h4,h5⟩:=hP i o hm
  exact⟨by omega,h2,h3,ob,by have:=(hj i h1).1;simp only[Am.start,if_neg (show ¬ i<8 by omega)] at this;rw[this];exact h4,h5 _ rfl hj⟩
theorem Gz:Tryz.prog.globals.size<11:=by
 have hs:Tryz.prog.globals.size=8:=by kernel_rfl
 omega
theorem afl (el:Nat->TypeId):Lw (tT (Tryz.prog) ext I5 20000 5 [] ⟨lh el dN,11⟩)=true:=by kernel_rfl
theorem afy:pt Tryz.prog 5 (CT dN 11):=
 al0 mixed yD abF abB Tryz.func5 rfl Gz
  (by
   have hs:Tryz.prog.globals.size=8:=by kernel_rfl
   rw[hs]
   intro g l hm
   simp only[dN,yL,abT,aeB,or_false] at hm;rcases hm with⟨rfl,rfl⟩ | ⟨rfl,rfl⟩ | ⟨rfl,rfl⟩ | ⟨rfl,rfl⟩ | ⟨rfl,rfl⟩<;>exact⟨by decide,by decide,by decide,by decide⟩) fun el=>afl el
noncomputable def Tz (g:Nat):Option Prim:=bif Nat.beq g 123 then some kM.HA else bif Nat.beq g 116 then some kM.Gq else bif Nat.beq g 117 then some K5.tY else bif Nat.beq g 78 then some DT.DS else bif Nat.beq g 46 then some tf.On else bif Nat.beq g 52 then some tf.Qp else bif Nat.beq g 8 then some tf.MX else I5 g
theorem aeu:qW Tryz.prog Tz:=by
 intro aB p h args H v H' hp
 unfold Tz at h
 cases h1:Nat.beq aB 123 with
 | true=>
  rw[h1] at h
  cases h
  obtain rfl:=aba h1
  exact kM.afP args H v H' hp
 | false=>
  rw[h1] at h
  clear h1
  cases h1:Nat.beq aB 116 with
  | true=>
   rw[h1] at h
   cases h
   obtain rfl:=aba h1
   exact kM.ahl args H v H' hp
  | false=>
   rw[h1] at h
   clear h1
   cases h1:Nat.beq aB 117 with
   | true=>
    rw[h1] at h
    cases h
    obtain rfl:=aba h1
    exact K5.aeN args H v H' hp
   | false=>
    rw[h1] at h
    clear h1
    cases h1:Nat.beq aB 78 with
    | true=>
     rw[h1] at h
     cases h
     obtain rfl:=aba h1
     exact DT.anF args H v H' hp
    | false=>
     rw[h1] at h
     clear h1
     cases h1:Nat.beq aB 46 with
     | true=>
      rw[h1] at h
      cases h
      obtain rfl:=aba h1
      exact tf.aoM args H v H' hp
     | false=>
      rw[h1] at h
      clear h1
      cases h1:Nat.beq aB 52 with
      | true=>
       rw[h1] at h
       cases h
       obtain rfl:=aba h1
       exact tf.aiM args H v H' hp
      | false=>
       rw[h1] at h
       clear h1
       cases h1:Nat.beq aB 8 with
       | true=>
        rw[h1] at h
        cases h
        obtain rfl:=aba h1
        exact tf.aih args H v H' hp
       | false=>
        rw[h1] at h
        clear h1
        exact abB aB p h args H v H' hp
noncomputable def aw (g:Nat):Option Prim:=bif Nat.beq g 5 then some (CT dN 11) else Tz g
theorem arI:qW Tryz.prog aw:=by
 intro aB p h args H v H' hp
 unfold aw at h
 cases h1:Nat.beq aB 5 with
 | true=>
  rw[h1] at h
  cases h
  obtain rfl:=aba h1
  exact afy args H v H' hp
 | false=>
  rw[h1] at h
  clear h1
  exact aeu aB p h args H v H' hp
theorem al8 {Q:Type}{enc:TypeId × Value->Q}{g:Nat}{fn:Func}{b:Code}(hf:Tryz.prog.funcs[g]? = some fn)(hb:fn.body=some b)(an:Nat->K.An)(hA:K.uK Tryz.prog an){W:World}(hL:laidMet Tryz.prog laid W)(dp:8<=W.heap.size){base:Nat}{spare:Nat->Bool}{held:Bool}(wa:∀ b,spare b=true){rI:List K.Ty}{vs:List Value}
  (ha:K.Iy enc Tryz.prog W base spare held rI vs) (law:∀ H ar ds,K.EB H rI ar ds->ez H dN->11<=H.next->∃ H',K.CK Tryz.prog (K.pF Tryz.prog) ext aw an (.func (.func g) [] []) ar H=some (.bool true,H')) :
  Calls Tryz.prog g vs.toArray W fun en w'=>en = .returned (.bool true)/\Below W.heap.size W w':=by
 obtain⟨ar,os,ds,a1,a2,a3,a4⟩:=K.acw wa ha 11
 have hs:Tryz.prog.globals.size=8:=by kernel_rfl
 obtain⟨e,hR,hN,hj⟩:=aiO hL dp (fun i=>((os[i-11]?).map (·.b)).getD 0) (fun _=>0) (fun i=>((os[i-11]?).map (·.n)).getD 0) (N:=11+os.length) (by omega) (PO:=K.wI 11 os) (by
  intro i o hm
  obtain⟨j,ob,h1,rfl,rfl⟩:=K.Uw os 11 i o hm
  have qO:=(abf.1 h1).1
  have ZE:∀ e:Em,e.N=11+os.length->(∀ j,11<=j->e.b j=((os[j-11]?).map (·.b)).getD 0/\e.d j=0/\e.n j=((os[j-11]?).map (·.n)).getD 0)->K.Fits e 11 os:=by
   intro e he hj
   refine⟨by omega,fun j o ho => ?_⟩
   obtain⟨x,y,z⟩:=hj (11+j) (by omega)
   rw[agd,ho] at x z
   exact⟨x,y,z⟩
  have hex:∃ ow,W.heap[ob.b]? = some ow:=by
   let e0:Em:=⟨fun j=>((os[j-11]?).map (·.b)).getD 0,fun _=>0,fun j=>((os[j-11]?).map (·.n)).getD 0,11+os.length⟩
   obtain⟨ow,h,_⟩:=a2 e0 (ZE e0 rfl fun j _=>⟨rfl,rfl,rfl⟩) j ob h1
   exact⟨ow,h⟩
  obtain⟨ow,how⟩:=hex
  refine⟨by omega,by omega,a3 ob (acx h1),ow,?_,fun e he hj => ?_⟩
  ·rw[agd,h1];exact how
  ·obtain⟨ow2,h,h2⟩:=a2 e (ZE e he hj) j ob h1
   rw[how] at h;cases h
   exact h2)
 have KC:K.Fits e 11 os:=by
  refine⟨by omega,fun j o ho => ?_⟩
  obtain⟨x,y,z⟩:=hj (11+j) (by omega)
  rw[agd,ho] at x z
  exact⟨x,y,z⟩
 have akQ:K.Has ⟨rK (K.wI 11 os) (lh (zD W) dN),11+os.length⟩ 11 os:=⟨aar _,fun j o ho=>K.Y8 os 11 _ j o ho⟩
 have hT:ez ⟨rK (K.wI 11 os) (lh (zD W) dN),11+os.length⟩ dN:=by
  refine⟨zD W,fun g l hm => ?_⟩
  have hg:g<11:=by
   simp only[dN,yL,abT,aeB,or_false] at hm;rcases hm with⟨rfl,rfl⟩ | ⟨rfl,rfl⟩ | ⟨rfl,rfl⟩ | ⟨rfl,rfl⟩ | ⟨rfl,rfl⟩<;>decide
  show (rK _ _).get g=_
  rw[K.UX os 11 _ g hg]
  exact K.ZD _ _ (by decide) g l hm
 obtain⟨H',hk⟩:=law _ ar ds (a4 _ akQ) hT (Nat.le_add_right _ _)
 refine (K.afR mixed yD abF arI K.aeH hA hk hf hb hR (ar:=vs.toArray) (by simpa using a1 e KC)).mono fun en w' ⟨e',v',h1,_,cH,hv⟩ => ?_
 have:=hv.uU
 subst this
 exact⟨h1,⟨cH.os,cH.tape,cH.output,cH.size,fun k hk=>(cH.frame k hk).2⟩⟩
theorem arM (an:Nat->K.An){H:Hp}(hT:ez H dN)(hn:11<=H.next):K.CK Tryz.prog (K.pF Tryz.prog) ext aw an (.func (.func 5) [] []) [] H=some (.bool true,H):=by
 refine K.oN (p:=CT dN 11) (by kernel_rfl) ?_
 unfold CT
 rw[if_pos ⟨rfl,hT,hn⟩]
end Go.Proofs.YtehhgkgeldinkaaGreatDoor.jn
