/- Laws that the proof uses. -/
import Derived.Test.YtbdlbhlhnpblpaaGreatDoorAm9
import Derived.Test.YtbdlbhlhnpblpaaGreatDoorProg
import Derived.Tactics
import Derived.Tactics2
import Derived.StillTactics
import Derived.Scope
import Derived.FnLit
import Derived.LoopTactic
import Derived.LoopN
import Derived.WalkKit
import Derived.Laws.IdiomRangeMap
import Derived.Laws.NewBlocks
set_option maxRecDepth 1000000
set_option linter.unusedVariables false
set_option linter.unusedSimpArgs false
namespace Go.Proofs.YtbdlbhlhnpblpaaGreatDoor.U8
open Go Go.RowKit
theorem Gp {w w1:World}(dV:w1.Alike w)(o:Obj){x:Addr}{v:Value}(h:w.cell? x=some v):(w1.alloc o).cell? x=some v:=by
 have bW:x.block<w.heap.size:=by
  unfold World.cell? at h
  split at h
  ·rename_i hx
   exact (abH.1 hx).1
  ·cases h
 have hh:(w1.alloc o).heap[x.block]? = w.heap[x.block]? := by
  rw[heap_alloc_old w1 o (by rw[dV.1];exact bW),dV.1]
 unfold World.cell? at h ⊢
 rw[hh]
 exact h
inductive jf {α:Type}:Sem α->Prop
 | pure (a:α):jf (.pure a)
 | getObj (r:Nat) (k:Obj->Sem α) (h:∀ o,jf (k o)):jf (.getObj r k)
 | setObj (r:Nat) (o:Obj) (k:Sem α) (h:jf k):jf (.setObj r o k)
 | choose (q:Question) (k:Nat->Sem α) (h:∀ n,jf (k n)):jf (.choose q k)
 | halt (x:Halt):jf (.halt x)
theorem jf.bind {α β:Type}{m:Sem α}{f:α->Sem β}(h:jf m)(hf:∀ a,jf (f a)):jf (m.bind f):=by
 induction h with
 | pure a=>exact hf a
 | getObj r k _ ih=>exact .getObj r _ ih
 | setObj r o k _ ih=>exact .setObj r o _ ih
 | choose q k _ ih=>exact .choose q _ ih
 | halt x=>exact .halt x
theorem jf.tape {α:Type}{P:Program}{m:Sem α}(h:jf m):∀ {w w':World} {v:α},m.run P w = .ok v w'->w'.tape=w.tape:=by
 induction h with
 | pure a=>intro w w' v h;cases h;rfl
 | getObj r k _ ih=>
  intro w w' v h
  simp only[Sem.run] at h
  split at h
  ·cases h
  ·have q:=ih _ h
   exact q
  ·cases h
 | setObj r o k _ ih=>
  intro w w' v h
  simp only[Sem.run] at h
  split at h
  ·cases h
  ·have q:=ih h
   exact q
  ·cases h
 | choose q k _ ih=>
  intro w w' v h
  simp only[Sem.run] at h
  split at h
  ·have q:=ih _ h
   exact q
  ·have q:=ih _ h
   exact q
 | halt x=>intro w w' v h;cases h
theorem Wp (r:Nat):jf (Go.getObj r) := .getObj r _ fun o => .pure o
theorem aef (r:Nat)(o:Obj):jf (Go.setObj r o) := .setObj r o _ (.pure ())
theorem ad0 (q:Question):jf (Go.choose q) := .choose q _ fun n => .pure n
theorem aik (it:Value)(ty:TypeId):jf (Instr.next it false ty):=by
 unfold Instr.next
 split
 ·refine jf.bind (Wp _) fun o => ?_
  split
  ·exact absurd (by assumption) (by decide)
  ·exact .pure _
  ·refine jf.bind (Wp _) fun o => ?_
   split
   ·split
    ·exact .halt _
    ·refine jf.bind (ad0 _) fun n => ?_
     split
     ·exact jf.bind (aef _ _) fun _ => .pure _
     ·exact .pure _
     ·exact .halt _
   ·exact .halt _
  ·exact .halt _
 ·exact .halt _
def MQ (w1 w:World):Prop:=w1.Alike w/\w1.tape=w.tape
theorem agt {w w1:World}(h:MQ w1 w):Below w.heap.size w w1:=⟨h.1.2.1,h.2,h.1.2.2,by rw[h.1.1];exact zf _,fun k _=>by rw[h.1.1]⟩
def xR (f:MapEntry->Int)(x:MapEntry):MapEntry:={ x with val := .int .i64 (f x) }
theorem ah5 (f:MapEntry->Int)(l:List MapEntry):(l.map (xR f)).map (·.born)=l.map (·.born):=by rw[afg];rfl
theorem agQ (f:MapEntry->Int)(es:Array MapEntry)(seen:Array Nat)(h:(leftOf es seen).size=0):seenSum (es.toList.map (xR f)) seen=(es.toList.map f).sum:=by
 rw[seenSum_full seen (es.toList.map (xR f)) (fun x hx=>by
  obtain⟨y,hy,rfl⟩:=abn.1 hx
  exact all_seen es seen h y hy),afg]
 rfl
theorem aeI (a b n:Int):Value.int IntKind.i64 (wrap64 (wrap64 (a-b)-n))=Value.int IntKind.i64 (wrap64 (a-(b+n))):=by
 congr 1
 unfold wrap64
 omega
theorem walk (bs o:Nat)(room:Int)(bm:Nat)(es:Array MapEntry)(clock:Nat)(f:MapEntry->Int)(w:World)(kq:0<=room)(ei:room<=9223372036854775807)(h0:w.cell? ⟨bs,o,none⟩=some (.int .i64 room))(h1:w.cell? ⟨bs,o+1,none⟩=some (.map (some bm)))
  (hb:w.heap[bm]? = some (.map es clock)) (bW:∀ x∈es.toList,x.born<clock) (dh:(es.toList.map (·.born)).Nodup) (hv:∀ x∈es.toList,∃ b k s n c,x.val = .pointer (some ⟨b,k,none⟩)/\w.cell? ⟨b,k,none⟩=some (.slice s n c)/\f x=(n:Int)) :
  Calls Tryz.prog 44 #[.pointer (some ⟨bs,o,none⟩)] w fun e w'=>e = .returned (.int .i64 (wrap64 (room-(es.toList.map f).sum)))/\∃ (w1:World) (seen:Array Nat),MQ w1 w/\w'=w1.alloc (.mapIter (some bm) clock seen clock):=by
 have Ka:=run_range_map (P:=Tryz.prog) w 74 9 79 bm es clock Tryz.underlying74 hb
 go_enter Tryz.func44,Tryz.ntmps44
 go_wp2
 go_loopw [3] (fun s w'=>∃ (w1:World) (seen:Array Nat),MQ w1 w/\w'=w1.alloc (.mapIter (some bm) clock seen clock)/\s = .int .i64 (wrap64 (room-seenSum (es.toList.map (xR f)) seen))) (fun _ w'=>(leftOf es (w'.iterSeen w.heap.size)).size)
 case atStart=>exact⟨w,#[],⟨⟨rfl,rfl,rfl⟩,rfl⟩,rfl,by rw[seenSum_none,Int.sub_zero,IntWalk.wrap64_in room ⟨by omega,ei⟩]⟩
 case round=>
  obtain⟨w1,seen,Qu,rfl,rfl⟩:=hrel
  have dV:=Qu.1
  have cC:w1.heap.size=w.heap.size:=by rw[dV.1]
  have vL:w1.heap[bm]? = some (.map es clock):=by rw[dV.1];exact hb
  have law:=run_next_map (P:=Tryz.prog) w1 0 bm clock clock seen es clock vL bW (zf _)
  rw[cC] at law
  rcases law with⟨h0,iT⟩ | ⟨e,he,w2,Gj,iT⟩
  ·have BG:∀ ty,(Instr.next (.pointer (some ⟨w.heap.size,0,none⟩)) false ty).run Tryz.prog (w1.alloc (.mapIter (some bm) clock seen clock))=_:=fun _=>iT
   go_wp2
   go_ret
   refine⟨?_,w1,seen,Qu,rfl⟩
   rw[<-agQ f es seen h0]
   rfl
  ·obtain⟨b,k,s,n,c,nQ,fR,hf⟩:=hv e (mem_left he).1
   have agL:w2.tape=w1.tape:=by
    have q:=(aik _ _).tape iT
    exact q
   rw[nQ] at iT
   have BG:∀ ty,(Instr.next (.pointer (some ⟨w.heap.size,0,none⟩)) false ty).run Tryz.prog (w1.alloc (.mapIter (some bm) clock seen clock))=_:=fun _=>iT
   have Td:w2.heap.size=w.heap.size:=by rw[Gj.1,dV.1]
   have ft:w2.heap[bm]? = some (.map es clock):=by rw[Gj.1];exact vL
   have nA:=run_entry_map (P:=Tryz.prog) w2 bm clock seen es clock e ft (mem_left he).1 dh
   rw[Td,nQ] at nA
   have Un:w2.Alike w:=⟨Gj.1.trans dV.1,Gj.2.1.trans dV.2.1,Gj.2.2.trans dV.2.2⟩
   have J5:=Gp Un (.mapIter (some bm) clock (seen.push e.born) clock) fR
   go_wp2
   go_roundw
   case rel=>
    refine⟨w2,seen.push e.born,⟨Un,agL.trans Qu.2⟩,rfl,?_⟩
    have h6:=seenSum_push seen (xR f e) (mem_left he).2 (es.toList.map (xR f)) (by rw[ah5];exact dh) (abn.2 ⟨e,(mem_left he).1,rfl⟩)
    have h5:valOf (xR f e).val=(n:Int):=hf
    have h7:(xR f e).born=e.born:=rfl
    rw[h7] at h6
    rw[h6,h5,aeI]
   case measure=>
    rw[<-Td,World.iterSeen_alloc,Td,<-cC,World.iterSeen_alloc]
    exact left_shrinks es seen e he
theorem aeg:Am.od Tryz.prog 44 Am.D8:=by
 refine Am.acX (fun bV w=>Am.nM (by unfold Am.jA;kernel_rfl) Tryz.func44 rfl bV w) ?_
 intro bs o room bm es clock g w kq ei h0 h1 hb bW dh hv
 refine (walk bs o room bm es clock g w kq ei h0 h1 hb bW dh hv).mono ?_
 rintro e w' ⟨he,w1,seen,dV,rfl⟩
 refine⟨he,?_⟩
 exact (agt dV).alloc (by rw[dV.1.1];exact zf _) _
end Go.Proofs.YtbdlbhlhnpblpaaGreatDoor.U8
