/- Laws that the proof uses. -/
import Derived.Test.YtehhgkgeldinkaaGreatDoorAm9
import Derived.Test.YtehhgkgeldinkaaGreatDoorProg
import Derived.Tactics
import Derived.Tactics2
import Derived.StillTactics
import Derived.Scope
import Derived.FnLit
import Derived.LoopTactic
import Derived.LoopN
import Derived.WalkKit
import Derived.Laws.IdiomRangeMap
import Derived.Laws.NewBlocks
set_option maxRecDepth 1000000
set_option linter.unusedVariables false
set_option linter.unusedSimpArgs false
namespace Go.Proofs.YtehhgkgeldinkaaGreatDoor.Vo
open Go Go.RowKit
theorem am7 {w w1:World}(ff:w1.Alike w)(o:Obj){x:Addr}{v:Value}(h:w.cell? x=some v):(w1.alloc o).cell? x=some v:=by
 have ah:x.block<w.heap.size:=by
  unfold World.cell? at h
  split at h
  ·rename_i hx
   exact (abM.1 hx).1
  ·cases h
 have hh:(w1.alloc o).heap[x.block]? = w.heap[x.block]? := by
  rw[heap_alloc_old w1 o (by rw[ff.1];exact ah),ff.1]
 unfold World.cell? at h ⊢
 rw[hh]
 exact h
inductive lk {α:Type}:Sem α->Prop
 | pure (a:α):lk (.pure a)
 | getObj (r:Nat) (k:Obj->Sem α) (h:∀ o,lk (k o)):lk (.getObj r k)
 | setObj (r:Nat) (o:Obj) (k:Sem α) (h:lk k):lk (.setObj r o k)
 | choose (q:Question) (k:Nat->Sem α) (h:∀ n,lk (k n)):lk (.choose q k)
 | halt (x:Halt):lk (.halt x)
theorem lk.bind {α β:Type}{m:Sem α}{f:α->Sem β}(h:lk m)(hf:∀ a,lk (f a)):lk (m.bind f):=by
 induction h with
 | pure a=>exact hf a
 | getObj r k _ ih=>exact .getObj r _ ih
 | setObj r o k _ ih=>exact .setObj r o _ ih
 | choose q k _ ih=>exact .choose q _ ih
 | halt x=>exact .halt x
theorem lk.tape {α:Type}{P:Program}{m:Sem α}(h:lk m):∀ {w w':World} {v:α},m.run P w = .ok v w'->w'.tape=w.tape:=by
 induction h with
 | pure a=>intro w w' v h;cases h;rfl
 | getObj r k _ ih=>
  intro w w' v h
  simp only[Sem.run] at h
  split at h
  ·cases h
  ·have q:=ih _ h
   exact q
  ·cases h
 | setObj r o k _ ih=>
  intro w w' v h
  simp only[Sem.run] at h
  split at h
  ·cases h
  ·have q:=ih h
   exact q
  ·cases h
 | choose q k _ ih=>
  intro w w' v h
  simp only[Sem.run] at h
  split at h
  ·have q:=ih _ h
   exact q
  ·have q:=ih _ h
   exact q
 | halt x=>intro w w' v h;cases h
theorem WD (r:Nat):lk (Go.getObj r) := .getObj r _ fun o => .pure o
theorem afX (r:Nat)(o:Obj):lk (Go.setObj r o) := .setObj r o _ (.pure ())
theorem afz (q:Question):lk (Go.choose q) := .choose q _ fun n => .pure n
theorem alQ (it:Value)(ty:TypeId):lk (Instr.next it false ty):=by
 unfold Instr.next
 split
 ·refine lk.bind (WD _) fun o => ?_
  split
  ·exact absurd (by assumption) (by decide)
  ·exact .pure _
  ·refine lk.bind (WD _) fun o => ?_
   split
   ·split
    ·exact .halt _
    ·refine lk.bind (afz _) fun n => ?_
     split
     ·exact lk.bind (afX _ _) fun _ => .pure _
     ·exact .pure _
     ·exact .halt _
   ·exact .halt _
  ·exact .halt _
 ·exact .halt _
def NW (w1 w:World):Prop:=w1.Alike w/\w1.tape=w.tape
theorem ajk {w w1:World}(h:NW w1 w):Below w.heap.size w w1:=⟨h.1.2.1,h.2,h.1.2.2,by rw[h.1.1];exact aar _,fun k _=>by rw[h.1.1]⟩
def zG (f:MapEntry->Int)(x:MapEntry):MapEntry:={ x with val := .int .i64 (f x) }
theorem alp (f:MapEntry->Int)(l:List MapEntry):(l.map (zG f)).map (·.born)=l.map (·.born):=by rw[agx];rfl
theorem aj5 (f:MapEntry->Int)(es:Array MapEntry)(seen:Array Nat)(h:(leftOf es seen).size=0):seenSum (es.toList.map (zG f)) seen=(es.toList.map f).sum:=by
 rw[seenSum_full seen (es.toList.map (zG f)) (fun x hx=>by
  obtain⟨y,hy,rfl⟩:=adj.1 hx
  exact all_seen es seen h y hy),agx]
 rfl
theorem agN (a b n:Int):Value.int IntKind.i64 (wrap64 (wrap64 (a-b)-n))=Value.int IntKind.i64 (wrap64 (a-(b+n))):=by
 congr 1
 unfold wrap64
 omega
theorem walk (bs o:Nat)(room:Int)(bm:Nat)(es:Array MapEntry)(clock:Nat)(f:MapEntry->Int)(w:World)(wP:0<=room)(gG:room<=9223372036854775807)(h0:w.cell? ⟨bs,o,none⟩=some (.int .i64 room))(h1:w.cell? ⟨bs,o+1,none⟩=some (.map (some bm)))
  (hb:w.heap[bm]? = some (.map es clock)) (ah:∀ x∈es.toList,x.born<clock) (dI:(es.toList.map (·.born)).Nodup) (hv:∀ x∈es.toList,∃ b k s n c,x.val = .pointer (some ⟨b,k,none⟩)/\w.cell? ⟨b,k,none⟩=some (.slice s n c)/\f x=(n:Int)) :
  Calls Tryz.prog 260 #[.pointer (some ⟨bs,o,none⟩)] w fun e w'=>e = .returned (.int .i64 (wrap64 (room-(es.toList.map f).sum)))/\∃ (w1:World) (seen:Array Nat),NW w1 w/\w'=w1.alloc (.mapIter (some bm) clock seen clock):=by
 have ua:=run_range_map (P:=Tryz.prog) w 104 9 195 bm es clock Tryz.underlying104 hb
 go_enter Tryz.func260,Tryz.ntmps260
 go_wp2
 go_loopw [3] (fun s w'=>∃ (w1:World) (seen:Array Nat),NW w1 w/\w'=w1.alloc (.mapIter (some bm) clock seen clock)/\s = .int .i64 (wrap64 (room-seenSum (es.toList.map (zG f)) seen))) (fun _ w'=>(leftOf es (w'.iterSeen w.heap.size)).size)
 case atStart=>exact⟨w,#[],⟨⟨rfl,rfl,rfl⟩,rfl⟩,rfl,by rw[seenSum_none,Int.sub_zero,IntWalk.wrap64_in room ⟨by omega,gG⟩]⟩
 case round=>
  obtain⟨w1,seen,QT,rfl,rfl⟩:=hrel
  have ff:=QT.1
  have dp:w1.heap.size=w.heap.size:=by rw[ff.1]
  have DM:w1.heap[bm]? = some (.map es clock):=by rw[ff.1];exact hb
  have law:=run_next_map (P:=Tryz.prog) w1 0 bm clock clock seen es clock DM ah (aar _)
  rw[dp] at law
  rcases law with⟨h0,kS⟩ | ⟨e,he,w2,G2,kS⟩
  ·have AW:∀ ty,(Instr.next (.pointer (some ⟨w.heap.size,0,none⟩)) false ty).run Tryz.prog (w1.alloc (.mapIter (some bm) clock seen clock))=_:=fun _=>kS
   go_wp2
   go_ret
   refine⟨?_,w1,seen,QT,rfl⟩
   rw[<-aj5 f es seen h0]
   rfl
  ·obtain⟨b,k,s,n,c,rM,oG,hf⟩:=hv e (mem_left he).1
   have aj1:w2.tape=w1.tape:=by
    have q:=(alQ _ _).tape kS
    exact q
   rw[rM] at kS
   have AW:∀ ty,(Instr.next (.pointer (some ⟨w.heap.size,0,none⟩)) false ty).run Tryz.prog (w1.alloc (.mapIter (some bm) clock seen clock))=_:=fun _=>kS
   have Tj:w2.heap.size=w.heap.size:=by rw[G2.1,ff.1]
   have iT:w2.heap[bm]? = some (.map es clock):=by rw[G2.1];exact DM
   have tB:=run_entry_map (P:=Tryz.prog) w2 bm clock seen es clock e iT (mem_left he).1 dI
   rw[Tj,rM] at tB
   have Ut:w2.Alike w:=⟨G2.1.trans ff.1,G2.2.1.trans ff.2.1,G2.2.2.trans ff.2.2⟩
   have KQ:=am7 Ut (.mapIter (some bm) clock (seen.push e.born) clock) oG
   go_wp2
   go_roundw
   case rel=>
    refine⟨w2,seen.push e.born,⟨Ut,aj1.trans QT.2⟩,rfl,?_⟩
    have h6:=seenSum_push seen (zG f e) (mem_left he).2 (es.toList.map (zG f)) (by rw[alp];exact dI) (adj.2 ⟨e,(mem_left he).1,rfl⟩)
    have h5:valOf (zG f e).val=(n:Int):=hf
    have h7:(zG f e).born=e.born:=rfl
    rw[h7] at h6
    rw[h6,h5,agN]
   case measure=>
    rw[<-Tj,World.iterSeen_alloc,Tj,<-dp,World.iterSeen_alloc]
    exact left_shrinks es seen e he
theorem afY:Am.pt Tryz.prog 260 Am.Fj:=by
 refine Am.adZ (fun ar w=>Am.rF (by unfold Am.jY;kernel_rfl) Tryz.func260 rfl ar w) ?_
 intro bs o room bm es clock g w wP gG h0 h1 hb ah dI hv
 refine (walk bs o room bm es clock g w wP gG h0 h1 hb ah dI hv).mono ?_
 rintro e w' ⟨he,w1,seen,ff,rfl⟩
 refine⟨he,?_⟩
 exact (ajk ff).alloc (by rw[ff.1.1];exact aar _) _
end Go.Proofs.YtehhgkgeldinkaaGreatDoor.Vo
