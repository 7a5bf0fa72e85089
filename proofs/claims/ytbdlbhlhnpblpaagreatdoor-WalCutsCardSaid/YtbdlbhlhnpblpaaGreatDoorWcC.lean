/- slices.Clone of bytes, of any length, over the symbolic heap. Conditions: as stated. -/
import Derived.Test.YtbdlbhlhnpblpaaGreatDoorWlK
import Derived.Test.YtbdlbhlhnpblpaaGreatDoorHp
import Derived.Test.YtbdlbhlhnpblpaaGreatDoorAm16
import Derived.Test.YtbdlbhlhnpblpaaGreatDoorAm13
import Derived.Test.YtbdlbhlhnpblpaaGreatDoorAm15
namespace Go.Proofs.YtbdlbhlhnpblpaaGreatDoor.WlK
open Go Am Am.K WlEnv
set_option linter.unusedVariables false
set_option linter.unusedSimpArgs false
theorem alloc_cs (H:Hp) (l:List AV) (el fl:Nat):Cs ⟨H.h.put 34 H.next (.cells (Tr.puts .nil 0 l) 0 l.length el fl),H.next + 1⟩ H.next l el fl∧Out [] H ⟨H.h.put 34 H.next (.cells (Tr.puts .nil 0 l) 0 l.length el fl),H.next + 1⟩:=by
 refine ⟨⟨Nat.lt_succ_self _,Tr.puts .nil 0 l,?_,?_⟩,⟨Nat.le_succ _,?_⟩⟩
 ·show (Tr.put 34 H.h H.next _).get _=_
  rw [Tr.put,Tr.get_putP,if_pos rfl]
 ·intro k v hv
  rw [get_puts',if_pos ⟨Nat.zero_le _,by have:=(List.getElem?_eq_some_iff.1 hv).1; omega⟩,Nat.sub_zero]
  exact hv
 ·intro j hj _
  show (Tr.put 34 H.h H.next _).get j=_
  rw [Tr.put,Tr.get_putP,if_neg (by omega)]
theorem clone_any {H:Hp} {x:AV} {l:List Nat} (hx:Rw H 1 x (bs l)) (hl:l.length≤140737488355328) :
  ∃ y H',cK (.func (.func 25) [] []) [x] H=some (y,H')∧Ow H' 5 1 y (bs l)∧Out [] H H'∧∀ j∈rid y,H.next≤j:=by
 have h1:=bs_one l
 have hz:∃ zs:List Int,bs l=zs.map (AV.int .u8):=⟨l.map (fun (b:Nat)=>(b:Int)),by simp [bs]⟩
 have hlen:=bs_len l
 have hp:prim 25=some CloneWalk.cloneP:=by kernel_rfl
 generalize bs l=m at *
 obtain ⟨c1,c2⟩:=alloc_cs H m 5 0
 have hf:∀ n,m.length=n→∃ y H',(some (AV.slice H.next 0 n n false 1,(⟨H.h.put 34 H.next (.cells (Tr.puts .nil 0 m) 0 m.length 5 0),H.next + 1⟩:Hp)):Option (AV × Hp))=some (y,H')∧Ow H' 5 1 y m∧Out [] H H'∧∀ j∈rid y,H.next≤j:=by
  intro n hn
  refine ⟨_,_,rfl,c1.ow (n:=n) (by omega) (by omega) h1 false,c2,fun j hj => ?_⟩
  simp only [rid,Bool.false_and,cond_false,List.mem_singleton] at hj
  omega
 cases hx with
 | nil=>exact ⟨.slice0,H,ck_prim hp rfl,.nil,Out.refl _ _,fun j hj=>by cases hj⟩
 | @emp i off=>
  obtain ⟨y,H',e,q⟩:=hf 0 rfl
  refine ⟨y,H',ck_prim hp ?_,q⟩
  rw [← e]
  have hc:Am.cellsAt H i off 0=some []:=rfl
  unfold CloneWalk.cloneP
  simp only [hc]
  rw [if_pos ⟨Nat.zero_le _,hz⟩]
  rfl
 | @mk i off n cap ex _ hr hn hc he=>
  rw [Nat.mul_one] at hn
  obtain ⟨y,H',e,q⟩:=hf n hn
  refine ⟨y,H',ck_prim hp ?_,q⟩
  rw [← e]
  have hc:Am.cellsAt H i off n=some m:=by rw [← hn]; exact hr.cellsAt
  unfold CloneWalk.cloneP
  simp only [hc]
  rw [if_pos ⟨by omega,hz⟩]
  rfl
end Go.Proofs.YtbdlbhlhnpblpaaGreatDoor.WlK
namespace Go.Proofs.YtbdlbhlhnpblpaaGreatDoor.StC
open Go Am Am.K WlEnv WlK
set_option linter.unusedVariables false
set_option linter.unusedSimpArgs false
set_option maxRecDepth 10000
theorem prim_trim:prim 73=some trimP:=by kernel_rfl
theorem prim_free:prim 44=some freeP:=by kernel_rfl
theorem prim_names:prim 35=some (namesP 9):=by kernel_rfl
abbrev cutN:List Nat:=[97,98,99,100,101,102,103,104,105,106,107,108,109,110,111,112,113,114,115,116,117,118,119,120,121,122,48,49,50,51,52,53,54,55,56,57,45]
theorem trim_c (s:List Nat) (H:Hp) (hs:s.length≤4294967296):cK (.func (.func 73) [] []) [.str s,.str cutN] H=some (.str (trimN s cutN),H):=by
 refine ck_prim prim_trim ?_
 have h1:lowC cutN=true:=by decide
 have h2:F.bothB (lowC cutN) (F.bothB (Nat.ble (F.lenL s) 4294967296) (Nat.ble (F.lenL cutN) 4294967280))=true:=by
  rw [F.bothB_eq,F.bothB_eq,F.lenL_eq,F.lenL_eq,h1]
  simp only [Bool.true_and,Bool.and_eq_true,Nat.ble_eq]
  exact ⟨hs,by decide⟩
 show trim2 H s cutN=_
 unfold trim2
 rw [h2]
noncomputable def okName (s:List Nat):Bool := !(s == []) && (decide ((s.length:Int)≤16) && (trimN s cutN == []))
theorem name_c (s:List Nat) (H:Hp):cK (.func (.func 60) [] []) [.str s] H=some (.bool (okName s),H):=by
 refine c_store_name ?_
 unfold s_store_name okName
 cases h0:(s == []) with
 | true=>simp only [k_s,k_x,Int.reduceBEq,Int.reduceBNe,Int.reduceLT,Int.reduceLE,Int.reduceGT,Int.reduceGE,Int.reduceNeg,h0,Bool.false_and]
 | false=>
  by_cases h1:(s.length:Int)≤16
  ·have ht:=trim_c s H (by omega)
   simp only [k_s,k_x,Int.reduceBEq,Int.reduceBNe,Int.reduceLT,Int.reduceLE,Int.reduceGT,Int.reduceGE,Int.reduceNeg,h0,h1,ht,Bool.true_and]
  ·simp only [k_s,k_x,Int.reduceBEq,Int.reduceBNe,Int.reduceLT,Int.reduceLE,Int.reduceGT,Int.reduceGE,Int.reduceNeg,h0,h1,Bool.true_and,Bool.false_and]
structure Fl where
 nm:List Nat
 b:List Nat
 sure:Nat
structure SM where
 room:Nat
 off:Bool
 fuse:Nat
 keep:List Int
 fs:List Fl
structure FC where
 id:Nat
 sl:AV
 born:Nat
 f:Fl
def FC.me (x:FC):ME:=⟨.str x.f.nm,.ptr x.id 0,x.born⟩
def FC.ids (x:FC):List Nat:=x.id::rid x.sl
structure Lay where
 mid:Nat
 clk:Nat
 keep:AV
 cs:List FC
def foot (p:Nat) (L:Lay):List Nat:=p::L.mid::(rid L.keep++L.cs.flatMap FC.ids)
def ints (l:List Int):List AV:=l.map fun z => .int .i64 z
def sumB (fs:List Fl):Nat:=(fs.map (·.b.length)).sum
def C0 (H:Hp) (i:Nat) (l:List AV):Prop:=∃ el,Cs H i l el 0
theorem C0.out {H H':Hp} {i:Nat} {l:List AV} {S:List Nat} (h:C0 H i l) (k:Out S H H') (hi:i∉S):C0 H' i l:=by
 obtain ⟨el,h⟩:=h; exact ⟨el,h.out k hi⟩
theorem C0.ld {H:Hp} {i:Nat} {l:List AV} (h:C0 H i l) {o:Nat} {v:AV} (hv:l[o]? = some v):ld (.ptr i o) H=some v:=by
 obtain ⟨el,h⟩:=h; exact h.ld hv
theorem C0.st {H:Hp} {i:Nat} {l:List AV} (h:C0 H i l) {o:Nat} (ho:o < l.length) {v:AV} (hv:oneC v=true) :
  ∃ H',st 1 (.ptr i o) v H=some H'∧C0 H' i (l.set o v)∧Out [i] H H'∧H'.next=H.next:=by
 obtain ⟨el,h⟩:=h
 obtain ⟨H',h1,h2,h3,h4⟩:=st1 h (by omega) ho hv
 exact ⟨H',h1,⟨el,h2⟩,h3,h4⟩
theorem C0.lt {H:Hp} {i:Nat} {l:List AV} (h:C0 H i l):i < H.next:=by obtain ⟨el,h⟩:=h; exact h.1
structure Okm (m:SM):Prop where
 room:m.room≤16777216
 sum:sumB m.fs≤m.room
 sure:∀ f∈m.fs,f.sure≤f.b.length
 byte:∀ f∈m.fs,∀ c∈f.b,c < 256
 fuse:(m.fuse:Int)≤9223372036854775807
 names:(m.fs.map (·.nm)).Nodup
 good:∀ f∈m.fs,okName f.nm=true
 many:m.fs.length≤64
structure St (H:Hp) (p:Nat) (m:SM) (L:Lay):Prop where
 head:C0 H p [.int .i64 m.room,.map L.mid,.bool m.off,.int .i64 m.fuse,L.keep]
 map:Mp H L.mid (L.cs.map FC.me) L.clk
 file:∀ x∈L.cs,C0 H x.id [x.sl,.int .i64 x.f.sure]∧Ow H 5 1 x.sl (bs x.f.b)
 keep:Rw H 1 L.keep (ints m.keep)
 nd:(foot p L).Nodup
 born:incr L.clk (L.cs.map FC.me) 0=true
 fs:m.fs=L.cs.map (·.f)
 ok:Okm m
def Go' (p:Nat) (H:Hp) (L:Lay) (H':Hp) (L':Lay):Prop:=Out (foot p L) H H'∧∀ j∈foot p L',j∈foot p L∨H.next≤j
theorem Go'.refl (p:Nat) (H:Hp) (L:Lay):Go' p H L H L:=⟨Out.refl _ _,fun _ h => .inl h⟩
theorem Go'.trans {p:Nat} {H H' H'':Hp} {L L' L'':Lay} (h:Go' p H L H' L') (k:Go' p H' L' H'' L''):Go' p H L H'' L'':=
 ⟨h.1.then k.1 h.2,fun j hj=>(k.2 j hj).elim (fun q=>h.2 j q) (fun q => .inr (Nat.le_trans h.1.1 q))⟩
section
variable {H:Hp} {p:Nat} {m:SM} {L:Lay}
theorem St.mem_p:p∈foot p L := .head _
theorem St.mem_mid:L.mid∈foot p L := .tail _ (.head _)
theorem St.mem_keep {j:Nat} (h:j∈rid L.keep):j∈foot p L := .tail _ (.tail _ (List.mem_append_left _ h))
theorem St.mem_file {x:FC} (hx:x∈L.cs) {j:Nat} (h:j∈x.ids):j∈foot p L := .tail _ (.tail _ (List.mem_append_right _ (List.mem_flatMap.2 ⟨x,hx,h⟩)))
theorem St.lt (h:St H p m L):∀ j∈foot p L,j < H.next:=by
 intro j hj
 unfold foot at hj
 rcases List.mem_cons.1 hj with rfl | hj
 ·exact h.head.lt
 rcases List.mem_cons.1 hj with rfl | hj
 ·exact h.map.1
 rcases List.mem_append.1 hj with hj | hj
 ·exact h.keep.lt j hj
 ·obtain ⟨x,hx,hj⟩:=List.mem_flatMap.1 hj
  rcases List.mem_cons.1 hj with rfl | hj
  ·exact (h.file x hx).1.lt
  ·exact (h.file x hx).2.rw.lt j hj
theorem St.out {H' : Hp} {S : List Nat} (h : St H p m L) (k : Out S H H') (hs : ∀ j ∈ foot p L, j ∉ S) : St H' p m L :=
  ⟨h.head.out k (hs _ St.mem_p), h.map.out k (hs _ St.mem_mid), fun x hx => ⟨(h.file x hx).1.out k (hs _ (St.mem_file hx (.head _))), (h.file x hx).2.out k fun j hj => hs _ (St.mem_file hx (.tail _ hj))⟩,
   h.keep.out k fun j hj => hs _ (St.mem_keep hj), h.nd, h.born, h.fs, h.ok⟩
def fp (L:Lay) (at':List Nat):AV:=match L.cs.find? (fun x=>x.f.nm == at') with | none => .ptr0 | some x => .ptr x.id 0
def hasF (fs:List Fl) (at':List Nat):Bool:=fs.any (fun f=>f.nm == at')
theorem St.find (h:St H p m L) (at':List Nat):(fp L at' = .ptr0∧hasF m.fs at'=false∧∀ x∈L.cs,x.f.nm≠at')∨
  ∃ a x b,L.cs=a++x::b∧x.f.nm=at'∧(∀ y∈a,y.f.nm≠at')∧(∀ y∈b,y.f.nm≠at')∧fp L at' = .ptr x.id 0∧hasF m.fs at'=true:=by
 have hn:=h.ok.names
 rw [h.fs,List.map_map] at hn
 unfold fp hasF
 rw [h.fs]
 cases hf:L.cs.find? (fun x=>x.f.nm == at') with
 | none=>
  rw [List.find?_eq_none] at hf
  have hf':∀ x∈L.cs,x.f.nm≠at':=fun x hx=>by simpa using hf x hx
  refine .inl ⟨rfl,?_,hf'⟩
  rw [List.any_eq_false]
  intro f hfm
  obtain ⟨x,hx,rfl⟩:=List.mem_map.1 hfm
  simpa using hf' x hx
 | some x=>
  obtain ⟨h1,a,b,h2,h3⟩:=List.find?_eq_some_iff_append.1 hf
  have h1:x.f.nm=at':=by simpa using h1
  have h3:∀ y∈a,y.f.nm≠at':=fun y hy=>by simpa using h3 y hy
  refine .inr ⟨a,x,b,h2,h1,h3,?_,rfl,?_⟩
  ·intro y hy he
   rw [h2,List.map_append,List.map_cons,List.nodup_append,List.nodup_cons] at hn
   exact hn.2.1.1 (List.mem_map.2 ⟨y,hy,he.trans h1.symm⟩)
  ·rw [List.any_eq_true]
   exact ⟨x.f,List.mem_map.2 ⟨x,by rw [h2]; simp,rfl⟩,by simpa using h1⟩
theorem keys_ne {a:List FC} {at':List Nat} (h:∀ y∈a,y.f.nm≠at'):∀ e∈a.map FC.me,∃ q,e.key = .str q∧q≠at':=by
 intro e he
 obtain ⟨y,hy,rfl⟩:=List.mem_map.1 he
 exact ⟨_,rfl,h y hy⟩
theorem St.lkp (h:St H p m L) (at':List Nat):lkp .str .ptr0 false (.map L.mid) (.str at') H=some (fp L at'):=by
 rcases h.find at' with ⟨h1,h2,h3⟩ | ⟨a,x,b,h1,h2,h3,h4,h5,h6⟩
 ·rw [lkp_none h.map (keys_ne h3),h1]; rfl
 ·have hm:=h.map
  rw [h1,List.map_append,List.map_cons] at hm
  rw [lkp_some hm (by rw [FC.me,h2]) (keys_ne h3),h5]; rfl
theorem St.pe0 (h:St H p m L) (at':List Nat) (H':Hp):pe (fp L at') .ptr0 H'=some (!hasF m.fs at'):=by
 rcases h.find at' with ⟨h1,h2,h3⟩ | ⟨a,x,b,h1,h2,h3,h4,h5,h6⟩
 ·rw [h1,h2]; rfl
 ·rw [h5,h6]; rfl
theorem St.setHead {H':Hp} {off:Bool} {fuse:Nat} {keep:AV} {kl:List Int} (h:St H p m L) (hc:C0 H' p [.int .i64 m.room,.map L.mid,.bool off,.int .i64 fuse,keep]) (hf:(fuse:Int)≤9223372036854775807)
  {S:List Nat} (ho:Out S H H') (hS:∀ j∈S,j=p∨j∈rid L.keep) (hk:Rw H' 1 keep (ints kl)) (hkn:∀ j∈rid keep,j∈rid L.keep∨H.next≤j) (hkd:(rid keep).Nodup) :
  St H' p { m with off:=off,fuse:=fuse,keep:=kl } { L with keep:=keep }∧Go' p H L H' { L with keep:=keep }:=by
 have hnd:=h.nd
 unfold foot at hnd
 rw [List.nodup_cons,List.nodup_cons,List.nodup_append] at hnd
 obtain ⟨n1,n2,n3,n4,n5⟩:=hnd
 have nS:∀ j,j≠p→j∉rid L.keep→j∉S:=fun j h1 h2 hj=>(hS j hj).elim h1 h2
 have hmid:L.mid∉S:=nS _ (fun q=>n1 (by rw [← q]; exact .head _)) (fun q=>n2 (List.mem_append_left _ q))
 have hfile:∀ x∈L.cs,∀ j∈x.ids,j∉S:=fun x hx j hj=>by
  have hm:j∈L.cs.flatMap FC.ids:=List.mem_flatMap.2 ⟨x,hx,hj⟩
  exact nS _ (fun q=>n1 (by rw [← q]; exact .tail _ (List.mem_append_right _ hm))) (fun q=>n5 _ q _ hm rfl)
 refine ⟨⟨hc,h.map.out ho hmid,fun x hx=>⟨(h.file x hx).1.out ho (hfile x hx _ (.head _)),(h.file x hx).2.out ho fun j hj=>hfile x hx j (.tail _ hj)⟩,hk,?_,h.born,h.fs,
  ⟨h.ok.room,h.ok.sum,h.ok.sure,h.ok.byte,hf,h.ok.names,h.ok.good,h.ok.many⟩⟩,ho.mono (fun j hj=>(hS j hj).elim (fun q=>by rw [q]; exact St.mem_p) St.mem_keep),fun j hj => ?_⟩
 ·have hlt:=h.lt
  unfold foot
  rw [List.nodup_cons,List.nodup_cons,List.nodup_append]
  have key:∀ j∈rid keep,j≠p∧j≠L.mid∧j∉L.cs.flatMap FC.ids:=by
   intro j hj
   rcases hkn j hj with q | q
   ·exact ⟨fun e=>n1 (by rw [← e]; exact .tail _ (List.mem_append_left _ q)),fun e=>n2 (by rw [← e]; exact List.mem_append_left _ q),fun e=>n5 _ q _ e rfl⟩
   ·refine ⟨fun e => ?_,fun e => ?_,fun e => ?_⟩
    ·have:=hlt p St.mem_p; omega
    ·have:=hlt L.mid St.mem_mid; omega
    ·obtain ⟨x,hx,hj'⟩:=List.mem_flatMap.1 e
     have:=hlt j (St.mem_file hx hj'); omega
  refine ⟨fun e => ?_,fun e => ?_,hkd,n4,fun a ha b hb e=>(key a ha).2.2 (e ▸ hb)⟩
  ·rcases List.mem_cons.1 e with e | e
   ·exact n1 (by rw [e]; exact .head _)
   ·rcases List.mem_append.1 e with e | e
    ·exact (key _ e).1 rfl
    ·exact n1 (.tail _ (List.mem_append_right _ e))
  ·rcases List.mem_append.1 e with e | e
   ·exact (key _ e).2.1 rfl
   ·exact n2 (List.mem_append_right _ e)
 ·unfold foot at hj
  rcases List.mem_cons.1 hj with rfl | hj
  ·exact .inl St.mem_p
  rcases List.mem_cons.1 hj with rfl | hj
  ·exact .inl St.mem_mid
  rcases List.mem_append.1 hj with hj | hj
  ·exact (hkn j hj).imp St.mem_keep id
  ·obtain ⟨x,hx,hj'⟩:=List.mem_flatMap.1 hj
   exact .inl (St.mem_file (L:=L) hx hj')
end
section
variable {H:Hp} {p:Nat} {m:SM} {L:Lay}
def setF (at':List Nat) (f:Fl) (fs:List Fl):List Fl:=fs.map fun g=>if g.nm=at' then f else g
theorem setF_split {a b:List FC} {x:FC} {at':List Nat} {f:Fl} (hx:x.f.nm=at') (ha:∀ y∈a,y.f.nm≠at') (hb:∀ y∈b,y.f.nm≠at'):setF at' f ((a++x::b).map (·.f))=a.map (·.f)++f::b.map (·.f):=by
 unfold setF
 rw [List.map_append,List.map_cons,List.map_append,List.map_cons,if_pos hx]
 congr 1
 ·rw [List.map_map]; exact List.map_congr_left fun y hy=>if_neg (ha y hy)
 ·congr 1
  rw [List.map_map]; exact List.map_congr_left fun y hy=>if_neg (hb y hy)
theorem St.setFile {H':Hp} {a b:List FC} {x:FC} {f:Fl} {sl:AV} (h:St H p m L) (hL:L.cs=a++x::b) (ha:∀ y∈a,y.f.nm≠x.f.nm) (hb:∀ y∈b,y.f.nm≠x.f.nm) (hnm:f.nm=x.f.nm)
  {S:List Nat} (ho:Out S H H') (hS:∀ j∈S,j∈x.ids) (hc:C0 H' x.id [sl,.int .i64 f.sure]) (hw:Ow H' 5 1 sl (bs f.b)) (hr:∀ j∈rid sl,j∈rid x.sl∨H.next≤j) (hrd:(rid sl).Nodup)
  (hsure:f.sure≤f.b.length) (hbyte:∀ c∈f.b,c < 256) (hsum:sumB (setF x.f.nm f m.fs)≤m.room) :
  St H' p { m with fs:=setF x.f.nm f m.fs } { L with cs:=a++⟨x.id,sl,x.born,f⟩::b }∧Go' p H L H' { L with cs:=a++⟨x.id,sl,x.born,f⟩::b }:=by
 have hxL:x∈L.cs:=by rw [hL]; simp
 have hfs:setF x.f.nm f m.fs=(a++⟨x.id,sl,x.born,f⟩::b).map (·.f):=by
  rw [h.fs,hL,setF_split rfl ha hb,List.map_append,List.map_cons]
 have hnd:=h.nd
 unfold foot at hnd
 rw [hL,List.flatMap_append,List.flatMap_cons,List.nodup_cons,List.nodup_cons,List.nodup_append,List.nodup_append,List.nodup_append] at hnd
 obtain ⟨n1,n2,n3,⟨n4,⟨n5,n6,n7⟩,n8⟩,n9⟩:=hnd
 have hlt:=h.lt
 have sub:∀ j∈S,j∈x.ids:=hS
 have nx:∀ j,j∉x.ids→j∉S:=fun j hj q=>hj (sub j q)
 have hp:p∉S:=nx _ fun q=>n1 (.tail _ (List.mem_append_right _ (List.mem_append_right _ (List.mem_append_left _ q))))
 have hmid:L.mid∉S:=nx _ fun q=>n2 (List.mem_append_right _ (List.mem_append_right _ (List.mem_append_left _ q)))
 have hkeep:∀ j∈rid L.keep,j∉S:=fun j hj=>nx _ fun q=>n9 _ hj _ (List.mem_append_right _ (List.mem_append_left _ q)) rfl
 have hA:∀ y∈a,∀ j∈y.ids,j∉S:=fun y hy j hj=>nx _ fun q=>n8 _ (List.mem_flatMap.2 ⟨y,hy,hj⟩) _ (List.mem_append_left _ q) rfl
 have hB:∀ y∈b,∀ j∈y.ids,j∉S:=fun y hy j hj=>nx _ fun q=>n7 _ q _ (List.mem_flatMap.2 ⟨y,hy,hj⟩) rfl
 have key:∀ j∈FC.ids ⟨x.id,sl,x.born,f⟩,j∈x.ids∨H.next≤j:=by
  intro j hj
  rcases List.mem_cons.1 hj with rfl | hj
  ·exact .inl (.head _)
  ·exact (hr j hj).imp (List.mem_cons_of_mem _) id
 have away:∀ j∈FC.ids ⟨x.id,sl,x.born,f⟩,∀ k∈foot p L,k∉x.ids→j≠k:=by
  intro j hj k hk hkx e
  rcases key j hj with q | q
  ·exact hkx (e ▸ q)
  ·have:=hlt k hk; omega
 have mA:∀ y∈a,y∈L.cs:=fun y hy=>by rw [hL]; exact List.mem_append_left _ hy
 have mB:∀ y∈b,y∈L.cs:=fun y hy=>by rw [hL]; exact List.mem_append_right _ (.tail _ hy)
 refine ⟨⟨h.head.out ho hp,?_,?_,h.keep.out ho hkeep,?_,?_,hfs,⟨h.ok.room,hsum,?_,?_,h.ok.fuse,?_,?_,?_⟩⟩,ho.mono fun j hj=>St.mem_file hxL (sub j hj),?_⟩
 ·have hm:=h.map.out ho hmid
  rw [hL] at hm
  rw [List.map_append,List.map_cons] at hm ⊢
  have:FC.me ⟨x.id,sl,x.born,f⟩=x.me:=by unfold FC.me; rw [hnm]
  rw [this]; exact hm
 ·intro y hy
  rcases List.mem_append.1 hy with hy | hy
  ·exact ⟨(h.file y (mA y hy)).1.out ho (hA y hy _ (.head _)),(h.file y (mA y hy)).2.out ho fun j hj=>hA y hy j (.tail _ hj)⟩
  ·rcases List.mem_cons.1 hy with rfl | hy
   ·exact ⟨hc,hw⟩
   ·exact ⟨(h.file y (mB y hy)).1.out ho (hB y hy _ (.head _)),(h.file y (mB y hy)).2.out ho fun j hj=>hB y hy j (.tail _ hj)⟩
 ·unfold foot
  rw [List.flatMap_append,List.flatMap_cons,List.nodup_cons,List.nodup_cons,List.nodup_append,List.nodup_append,List.nodup_append]
  have pX:p∉x.ids:=fun q=>n1 (.tail _ (List.mem_append_right _ (List.mem_append_right _ (List.mem_append_left _ q))))
  have mX:L.mid∉x.ids:=fun q=>n2 (List.mem_append_right _ (List.mem_append_right _ (List.mem_append_left _ q)))
  have aX:∀ k∈a.flatMap FC.ids,k∉x.ids:=fun k hk q=>n8 _ hk _ (List.mem_append_left _ q) rfl
  have bX:∀ k∈b.flatMap FC.ids,k∉x.ids:=fun k hk q=>n7 _ q _ hk rfl
  have kX:∀ k∈rid L.keep,k∉x.ids:=fun k hk q=>n9 _ hk _ (List.mem_append_right _ (List.mem_append_left _ q)) rfl
  have fA:∀ k∈a.flatMap FC.ids,k∈foot p L:=fun k hk=>by
   obtain ⟨y,hy,hk⟩:=List.mem_flatMap.1 hk
   exact St.mem_file (mA y hy) hk
  have fB:∀ k∈b.flatMap FC.ids,k∈foot p L:=fun k hk=>by
   obtain ⟨y,hy,hk⟩:=List.mem_flatMap.1 hk
   exact St.mem_file (mB y hy) hk
  refine ⟨fun e => ?_,fun e => ?_,n3,⟨n4,⟨?_,n6,fun j hj k hk=>away j hj k (fB k hk) (bX k hk)⟩,fun j hj k hk e => ?_⟩,fun j hj k hk e => ?_⟩
  ·rcases List.mem_cons.1 e with e | e
   ·exact n1 (by rw [e]; exact .head _)
   rcases List.mem_append.1 e with e | e
   ·exact n1 (.tail _ (List.mem_append_left _ e))
   rcases List.mem_append.1 e with e | e
   ·exact n1 (.tail _ (List.mem_append_right _ (List.mem_append_left _ e)))
   rcases List.mem_append.1 e with e | e
   ·exact away _ e p St.mem_p pX rfl
   ·exact n1 (.tail _ (List.mem_append_right _ (List.mem_append_right _ (List.mem_append_right _ e))))
  ·rcases List.mem_append.1 e with e | e
   ·exact n2 (List.mem_append_left _ e)
   rcases List.mem_append.1 e with e | e
   ·exact n2 (List.mem_append_right _ (List.mem_append_left _ e))
   rcases List.mem_append.1 e with e | e
   ·exact away _ e L.mid St.mem_mid mX rfl
   ·exact n2 (List.mem_append_right _ (List.mem_append_right _ (List.mem_append_right _ e)))
  ·show (x.id::rid sl).Nodup
   rw [List.nodup_cons]
   refine ⟨fun q => ?_,hrd⟩
   rcases hr _ q with q | q
   ·have:(x.id::rid x.sl).Nodup:=n5
    rw [List.nodup_cons] at this
    exact this.1 q
   ·have:=hlt x.id (St.mem_file hxL (.head _)); omega
  ·rcases List.mem_append.1 hk with hk | hk
   ·exact away k hk j (fA j hj) (aX j hj) e.symm
   ·exact n8 _ hj _ (List.mem_append_right _ hk) e
  ·rcases List.mem_append.1 hk with hk | hk
   ·exact n9 _ hj _ (List.mem_append_left _ hk) e
   rcases List.mem_append.1 hk with hk | hk
   ·exact away k hk j (St.mem_keep hj) (kX j hj) e.symm
   ·exact n9 _ hj _ (List.mem_append_right _ (List.mem_append_right _ hk)) e
 ·have hbn:=h.born
  rw [hL] at hbn
  rw [List.map_append,List.map_cons] at hbn ⊢
  have:FC.me ⟨x.id,sl,x.born,f⟩=x.me:=by unfold FC.me; rw [hnm]
  rw [this]; exact hbn
 ·intro g hg
  unfold setF at hg
  obtain ⟨g',hg',rfl⟩:=List.mem_map.1 hg
  split
  ·exact hsure
  ·exact h.ok.sure g' hg'
 ·intro g hg
  unfold setF at hg
  obtain ⟨g',hg',rfl⟩:=List.mem_map.1 hg
  split
  ·exact hbyte
  ·exact h.ok.byte g' hg'
 ·have:(setF x.f.nm f m.fs).map (·.nm)=m.fs.map (·.nm):=by
   unfold setF
   rw [List.map_map]
   refine List.map_congr_left fun g hg => ?_
   simp only [Function.comp]
   split
   ·rename_i q; rw [q,hnm]
   ·rfl
  rw [this]; exact h.ok.names
 ·intro g hg
  unfold setF at hg
  obtain ⟨g',hg',rfl⟩:=List.mem_map.1 hg
  split
  ·rename_i q; rw [hnm,← q]; exact h.ok.good g' hg'
  ·exact h.ok.good g' hg'
 ·simp only [setF,List.length_map]; exact h.ok.many
 ·intro j hj
  unfold foot at hj
  rcases List.mem_cons.1 hj with rfl | hj
  ·exact .inl St.mem_p
  rcases List.mem_cons.1 hj with rfl | hj
  ·exact .inl St.mem_mid
  rcases List.mem_append.1 hj with hj | hj
  ·exact .inl (St.mem_keep hj)
  ·obtain ⟨y,hy,hj'⟩:=List.mem_flatMap.1 hj
   rcases List.mem_append.1 hy with hy | hy
   ·exact .inl (St.mem_file (mA y hy) hj')
   ·rcases List.mem_cons.1 hy with rfl | hy
    ·exact (key j hj').imp (St.mem_file hxL) id
    ·exact .inl (St.mem_file (mB y hy) hj')
end
theorem sumF_files {H:Hp}:∀ cs:List FC,(∀ x∈cs,C0 H x.id [x.sl,.int .i64 x.f.sure]∧Ow H 5 1 x.sl (bs x.f.b))→sumF H (cs.map FC.me)=some (sumB (cs.map (·.f)))
 | [],_=>rfl
 | x::cs,h=>by
  obtain ⟨h1,h2⟩:=h x (.head _)
  have ih:=sumF_files cs fun y hy=>h y (.tail _ hy)
  have hl:lenAt H x.me.val=some x.f.b.length:=by
   show F.oE lenC (F.cellAt H x.id 0)=_
   rw [F.oE_eq,F.cellAt_eq]
   have h1':cellAt H x.id 0=some x.sl:=h1.ld (o:=0) rfl
   rw [h1']
   have h3:=h2.rw.len1
   rw [bs_len] at h3
   show lenC x.sl=_
   cases hsl:x.sl <;> rw [hsl] at h3 <;> first | (cases h3; done) | skip
   ·simp only [lenx,Option.some.injEq,AV.int.injEq,true_and] at h3
    simp only [lenC,Option.some.injEq]; omega
   ·simp only [lenx,Option.some.injEq,AV.int.injEq,true_and] at h3
    simp only [lenC,Option.some.injEq]; omega
  show F.oE (sum2 (sumF H (cs.map FC.me))) (lenAt H x.me.val)=_
  rw [hl,ih]
  show F.forceN some (Nat.add x.f.b.length (sumB (cs.map (·.f))))=_
  rw [F.forceN_eq]
  rfl
section
variable {H:Hp} {p:Nat} {m:SM} {L:Lay}
theorem free_c (h:St H p m L):cK (.func (.func 44) [] []) [.ptr p 0] H=some (.int .i64 ((m.room:Int) - sumB m.fs),H):=by
 refine ck_prim prim_free ?_
 have h0:cellAt H p 0=some (.int .i64 m.room):=h.head.ld (o:=0) rfl
 have h1:cellAt H p 1=some (.map L.mid):=h.head.ld (o:=1) rfl
 have hroom:=h.ok.room
 have hsum:=h.ok.sum
 have hr:okRoom (m.room:Int)=true:=by
  show Nat.ble m.room 9223372036854775807=true
  rw [Nat.ble_eq]; omega
 show free1 H p 0=_
 unfold free1
 rw [F.cellAt_eq,F.cellAt_eq,h0,h1]
 show free2 H (.int .i64 m.room) (.map L.mid)=_
 unfold free2
 simp only
 rw [F.bothB_eq,hr,F.get_eq]
 show F.oE (free3 H (m.room:Int)) (H.h.get L.mid)=_
 rw [h.map.2,F.oE_eq]
 show free3 H (m.room:Int) (.map (L.cs.map FC.me) L.clk)=_
 unfold free3
 simp only [h.born]
 show F.oE (free4 H (m.room:Int)) (sumF H (L.cs.map FC.me))=_
 rw [sumF_files L.cs h.file,F.oE_eq,← h.fs]
 show free4 H (m.room:Int) (sumB m.fs)=_
 unfold free4
 rw [F.subI_eq,F.oP_eq]
 have:IntKind.wrap .i64 ((m.room:Int) - Int.ofNat (sumB m.fs))=(m.room:Int) - sumB m.fs:=wrap_i64 (by simp only [Int.ofNat_eq_natCast]; omega) (by simp only [Int.ofNat_eq_natCast]; omega)
 rw [this]; rfl
theorem keysN_files:∀ cs:List FC,keysN (cs.map FC.me)=some (cs.map (·.f.nm))
 | []=>rfl
 | x::cs=>by
  show key1 (keysN (cs.map FC.me)) (.str x.f.nm)=_
  rw [keysN_files cs]; rfl
theorem nodupN_of:∀ l:List (List Nat),l.Nodup→nodupN l=true
 | [],_=>rfl
 | x::l,h=>by
  rw [List.nodup_cons] at h
  have h1:memL x l=false:=by rw [← Bool.not_eq_true]; exact fun q=>h.1 ((memL_iff x l).1 q)
  show @Bool.rec (fun _=>Bool) (nodupN l) false (memL x l)=true
  rw [h1]; exact nodupN_of l h.2
theorem shortN_of:∀ l:List (List Nat),(∀ x∈l,x.length≤16777216)→shortN l=true
 | [],_=>rfl
 | x::l,h=>by
  show F.bothB (Nat.ble (F.lenL x) 16777216) (shortN l)=true
  rw [F.bothB_eq,F.lenL_eq,shortN_of l fun y hy=>h y (.tail _ hy),Bool.and_true,Nat.ble_eq]
  exact h x (.head _)
theorem okName_len {s:List Nat} (h:okName s=true):s.length≤16:=by
 unfold okName at h
 simp only [Bool.and_eq_true,decide_eq_true_eq] at h
 omega
noncomputable def names (m:SM):List (List Nat):=sortN (m.fs.map (·.nm))
theorem insN_len (x:List Nat):∀ l:List (List Nat),(insN x l).length=l.length + 1
 | []=>rfl
 | y::l=>by
  show (@Bool.rec (fun _=>List (List Nat)) (x::y::l) (y::insN x l) (ltN y x)).length=_
  cases ltN y x
  ·rfl
  ·show (insN x l).length + 1=_
   rw [insN_len x l]; rfl
theorem sortN_len:∀ l:List (List Nat),(sortN l).length=l.length
 | []=>rfl
 | x::l=>by
  show (insN x (sortN l)).length=_
  rw [insN_len,sortN_len l]; rfl
theorem insN_mem (x y:List Nat):∀ l:List (List Nat),y∈insN x l ↔ y=x∨y∈l
 | []=>by show y∈[x] ↔ _; simp
 | z::l=>by
  show y ∈ @Bool.rec (fun _=>List (List Nat)) (x::z::l) (z::insN x l) (ltN z x) ↔ _
  cases ltN z x
  ·show y∈x::z::l ↔ _
   simp
  ·show y∈z::insN x l ↔ _
   rw [List.mem_cons,insN_mem x y l,List.mem_cons]
   constructor
   ·rintro (h | h | h)
    ·exact .inr (.inl h)
    ·exact .inl h
    ·exact .inr (.inr h)
   ·rintro (h | h | h)
    ·exact .inr (.inl h)
    ·exact .inl h
    ·exact .inr (.inr h)
theorem sortN_mem (y:List Nat):∀ l:List (List Nat),y∈sortN l ↔ y∈l
 | []=>Iff.rfl
 | x::l=>by
  show y∈insN x (sortN l) ↔ _
  rw [insN_mem,sortN_mem y l,List.mem_cons]
def strs (l:List (List Nat)):List AV:=l.map AV.str
theorem names_c (h:St H p m L):∃ x H',cK (.func (.func 35) [] []) [.ptr p 0] H=some (x,H')∧Rw H' 1 x (strs (names m))∧Out [] H H'∧(∀ j∈rid x,H.next≤j)∧lenx x=some (.int .i64 (names m).length):=by
 have h1:cellAt H p 1=some (.map L.mid):=h.head.ld (o:=1) rfl
 have hgood:∀ x∈L.cs.map (·.f.nm),x.length≤16777216:=by
  intro x hx
  obtain ⟨y,hy,rfl⟩:=List.mem_map.1 hx
  have:=okName_len (h.ok.good y.f (by rw [h.fs]; exact List.mem_map.2 ⟨y,hy,rfl⟩))
  omega
 have hnd:(L.cs.map (·.f.nm)).Nodup:=by
  have:=h.ok.names
  rw [h.fs,List.map_map] at this
  exact this
 have hmany:=h.ok.many
 rw [h.fs,List.length_map] at hmany
 have hN:names m=sortN (L.cs.map (·.f.nm)):=by unfold names; rw [h.fs,List.map_map]; rfl
 have hp:namesP 9 [.ptr p 0] H=names4 9 H (names m):=by
  show names1 9 H p 0=_
  unfold names1
  rw [F.cellAt_eq,h1]
  show F.oE (names2 9 H) (F.get H.1 L.mid)=_
  rw [F.get_eq,F.oE_eq]
  show (H.h.get L.mid).bind _=_
  rw [h.map.2]
  show names2 9 H (.map (L.cs.map FC.me) L.clk)=_
  show F.oE (names3 9 H L.clk (L.cs.map FC.me)) (keysN (L.cs.map FC.me))=_
  rw [keysN_files,F.oE_eq]
  show names3 9 H L.clk (L.cs.map FC.me) (L.cs.map (·.f.nm))=_
  unfold names3
  rw [F.bothB_eq,F.bothB_eq,F.bothB_eq,h.born,nodupN_of _ hnd,shortN_of _ hgood,F.lenL_eq]
  have:Nat.ble (L.cs.map FC.me).length 16777216=true:=by rw [Nat.ble_eq,List.length_map]; omega
  rw [this,hN]; rfl
 have hlen:(names m).length=L.cs.length:=by rw [hN,sortN_len,List.length_map]
 cases hn:names m with
 | nil=>
  refine ⟨.slice0,H,ck_prim prim_names ?_,.nil,Out.refl _ _,(fun j hj=>by cases hj),rfl⟩
  rw [hp,hn]; rfl
 | cons y ys=>
  obtain ⟨H',q1,q2,q3,q4⟩:=newCells_ok H (strs (y::ys)) 9 0 (by unfold strs; rw [List.length_map,← hn,hlen]; omega)
  refine ⟨.slice H.next 0 (y::ys).length (y::ys).length false 1,H',ck_prim prim_names ?_,.mk q2.ro (by unfold strs; rw [List.length_map,Nat.mul_one]) (Nat.le_refl _) rfl,q3,fun j hj => ?_,rfl⟩
  ·rw [hp,hn]
   show F.newC H 9 0 (sl1 (F.lenL (y::ys))) (F.mapL AV.str (y::ys))=_
   rw [F.newC_eq,F.mapL_eq,F.lenL_eq]
   have:newCells H (List.map AV.str (y::ys)) 9 0=some (H.next,H'):=q1
   rw [this]; rfl
  ·simp only [rid,Bool.false_and,cond_false,List.mem_singleton] at hj
   omega
end
theorem rw_one {H:Hp} {es:Nat} {x:AV} {l:List AV} (h:Rw H es x l):oneC x=true:=by cases h <;> rfl
def look (m:SM) (at':List Nat):Option Fl:=m.fs.find? (fun f=>f.nm == at')
noncomputable def ofE (m:SM) (at':List Nat):Int:=if m.off=true then 11 else if okName at'=false then 1 else if (look m at').isNone=true then 4 else 0
theorem clone_b {H:Hp} {x:AV} {l:List Nat} (hx:Rw H 1 x (bs l)) (h1:∀ v∈bs l,oneC v=true) (hl:(bs l).length≤16777216) :
  ∃ x' H',cK (.func (.func 25) [] []) [x] H=some (x',H')∧Ow H' 5 1 x' (bs l)∧Out [] H H'∧∀ j∈rid x',H.next≤j:=clone_any hx (by rw [bs_len] at hl; omega)
section
variable {H:Hp} {p:Nat} {m:SM} {L:Lay}
theorem St.lookC (h:St H p m L) (at':List Nat):(fp L at' = .ptr0∧look m at'=none∧∀ x∈L.cs,x.f.nm≠at')∨
  ∃ a x b,L.cs=a++x::b∧x.f.nm=at'∧(∀ y∈a,y.f.nm≠at')∧(∀ y∈b,y.f.nm≠at')∧fp L at' = .ptr x.id 0∧look m at'=some x.f:=by
 rcases h.find at' with ⟨h1,h2,h3⟩ | ⟨a,x,b,h1,h2,h3,h4,h5,h6⟩
 ·refine .inl ⟨h1,?_,h3⟩
  unfold look
  rw [h.fs,List.find?_eq_none]
  intro f hf
  obtain ⟨x,hx,rfl⟩:=List.mem_map.1 hf
  simpa using h3 x hx
 ·refine .inr ⟨a,x,b,h1,h2,h3,h4,h5,?_⟩
  unfold look
  rw [h.fs,List.find?_eq_some_iff_append]
  exact ⟨by simpa using h2,a.map (·.f),b.map (·.f),by rw [h1,List.map_append,List.map_cons],fun f hf=>by
   obtain ⟨y,hy,rfl⟩:=List.mem_map.1 hf
   simpa using h3 y hy⟩
theorem St.ld_map (h:St H p m L):ld (.ptr p 1) H=some (.map L.mid):=h.head.ld (o:=1) rfl
theorem St.ld_off (h:St H p m L):ld (.ptr p 2) H=some (.bool m.off):=h.head.ld (o:=2) rfl
theorem St.ld_fuse (h:St H p m L):ld (.ptr p 3) H=some (.int .i64 m.fuse):=h.head.ld (o:=3) rfl
theorem of_c (h:St H p m L) (at':List Nat):cK (.func (.func 43) [] []) [.ptr p 0,.str at'] H=
  some (.tuple [if m.off=true∨okName at'=false then .ptr0 else fp L at',.int .i64 (ofE m at')],H):=by
 refine c_store_Store_of ?_
 unfold s_store_Store_of
 have h1:=h.ld_map
 have h2:=h.ld_off
 have h3:=h.lkp at'
 have h4:=name_c at' H
 have h5:=h.pe0 at' H
 simp only [h1,h2,h3,h4,h5,k_s,k_x,Int.reduceBEq,Int.reduceBNe,Int.reduceLT,Int.reduceLE,Int.reduceGT,Int.reduceGE,Int.reduceNeg]
 cases ho:m.off with
 | true=>simp only [k_s,k_x,Int.reduceBEq,Int.reduceBNe,Int.reduceLT,Int.reduceLE,Int.reduceGT,Int.reduceGE,Int.reduceNeg,true_or,if_true,ofE,ho]
 | false=>
  cases hk:okName at' with
  | false=>simp only [k_s,k_x,Int.reduceBEq,Int.reduceBNe,Int.reduceLT,Int.reduceLE,Int.reduceGT,Int.reduceGE,Int.reduceNeg,or_true,if_true,ofE,ho,hk,Bool.false_eq_true,if_false]
  | true=>
   simp only [k_s,k_x,Int.reduceBEq,Int.reduceBNe,Int.reduceLT,Int.reduceLE,Int.reduceGT,Int.reduceGE,Int.reduceNeg,or_self,if_false,ofE,ho,hk,Bool.false_eq_true,Bool.true_eq_false]
   rcases h.find at' with ⟨q1,q2,q3⟩ | ⟨a,x,b,q1,q2,q3,q4,q5,q6⟩ <;> rcases h.lookC at' with ⟨r1,r2,r3⟩ | ⟨a',x',b',r1,r2,r3,r4,r5,r6⟩
   ·simp only [q1,q2,r2,k_s,k_x,Int.reduceBEq,Int.reduceBNe,Int.reduceLT,Int.reduceLE,Int.reduceGT,Int.reduceGE,Int.reduceNeg,Option.isNone_none,if_true]
   ·exact absurd r2 (q3 x' (by rw [r1]; simp))
   ·exact absurd q2 (r3 x (by rw [q1]; simp))
   ·simp only [q5,q6,r6,k_s,k_x,Int.reduceBEq,Int.reduceBNe,Int.reduceLT,Int.reduceLE,Int.reduceGT,Int.reduceGE,Int.reduceNeg,Option.isNone_some,if_false,Bool.false_eq_true]
end
section
variable {H:Hp} {p:Nat} {m:SM} {L:Lay}
theorem on_c (h:St H p m L):∃ H',cK (.func (.func 14) [] []) [.ptr p 0] H=some (.tuple [],H')∧St H' p { m with off:=false } L∧Go' p H L H' L:=by
 obtain ⟨H',h1,h2,h3,h4⟩:=h.head.st (o:=2) (v := .bool false) (by simp) rfl
 have hk:=h.keep.out h3 fun j hj q=>by
  have hnd:=h.nd
  unfold foot at hnd
  rw [List.nodup_cons] at hnd
  simp only [List.mem_singleton] at q
  exact hnd.1 (q ▸ .tail _ (List.mem_append_left _ hj))
 obtain ⟨q1,q2⟩:=h.setHead (off:=false) (fuse:=m.fuse) (keep:=L.keep) (kl:=m.keep) h2 h.ok.fuse h3 (fun j hj => .inl (by simpa using hj)) hk (fun j hj => .inl hj) (rid_nd _)
 refine ⟨H',c_store_Store_On ?_,q1,q2⟩
 unfold s_store_Store_On
 simp only [h1,k_s,k_x,Int.reduceBEq,Int.reduceBNe,Int.reduceLT,Int.reduceLE,Int.reduceGT,Int.reduceGE,Int.reduceNeg]
theorem off_c (h:St H p m L):cK (.func (.func 19) [] []) [.ptr p 0] H=some (.bool m.off,H):=by
 refine c_store_Store_Off ?_
 unfold s_store_Store_Off
 simp only [h.ld_off,k_s,k_x,Int.reduceBEq,Int.reduceBNe,Int.reduceLT,Int.reduceLE,Int.reduceGT,Int.reduceGE,Int.reduceNeg]
def sureM (m:SM) (at':List Nat):Nat:=match look m at' with | some f=>f.sure | none=>0
theorem sure_c (h:St H p m L) (at':List Nat):cK (.func (.func 33) [] []) [.ptr p 0,.str at'] H=some (.int .i64 (sureM m at'),H):=by
 refine c_store_Store_Sure ?_
 unfold s_store_Store_Sure sureM
 have h1:=h.ld_map
 have h2:=h.lkp at'
 rcases h.lookC at' with ⟨r1,r2,r3⟩ | ⟨a,x,b,r1,r2,r3,r4,r5,r6⟩
 ·simp only [h1,h2,r1,r2,k_s,k_x,Int.reduceBEq,Int.reduceBNe,Int.reduceLT,Int.reduceLE,Int.reduceGT,Int.reduceGE,Int.reduceNeg]; rfl
 ·have h3:=(h.file x (by rw [r1]; simp)).1.ld (o:=1) rfl
  simp only [h1,h2,r5,r6,h3,k_s,k_x,Int.reduceBEq,Int.reduceBNe,Int.reduceLT,Int.reduceLE,Int.reduceGT,Int.reduceGE,Int.reduceNeg]
noncomputable def readM (m:SM) (at':List Nat):List Nat:=if ofE m at'=0 then (match look m at' with | some f=>f.b | none=>[]) else []
theorem ofE_cases (m:SM) (at':List Nat):(ofE m at'=11∧m.off=true)∨(ofE m at'=1∧m.off=false∧okName at'=false)∨(ofE m at'=4∧m.off=false∧okName at'=true∧look m at'=none)∨
  (ofE m at'=0∧m.off=false∧okName at'=true∧∃ f,look m at'=some f):=by
 unfold ofE
 cases ho:m.off with
 | true=>exact .inl ⟨by simp,rfl⟩
 | false=>
  cases hk:okName at' with
  | false=>exact .inr (.inl ⟨by simp,rfl,rfl⟩)
  | true=>
   cases hl:look m at' with
   | none=>exact .inr (.inr (.inl ⟨by simp,rfl,rfl,rfl⟩))
   | some f=>exact .inr (.inr (.inr ⟨by simp,rfl,rfl,f,rfl⟩))
theorem St.ofP (h:St H p m L) {at':List Nat} (he:ofE m at'=0):m.off=false∧okName at'=true∧∃ a x b,L.cs=a++x::b∧x.f.nm=at'∧(∀ y∈a,y.f.nm≠at')∧(∀ y∈b,y.f.nm≠at')∧fp L at' = .ptr x.id 0∧look m at'=some x.f∧x∈L.cs∧x.f∈m.fs:=by
 rcases ofE_cases m at' with ⟨q,_⟩ | ⟨q,_⟩ | ⟨q,_⟩ | ⟨_,q1,q2,f,q3⟩
 ·rw [he] at q; cases q
 ·rw [he] at q; cases q
 ·rw [he] at q; cases q
 ·rcases h.lookC at' with ⟨r1,r2,r3⟩ | ⟨a,x,b,r1,r2,r3,r4,r5,r6⟩
  ·rw [r2] at q3; cases q3
  ·have hx:x∈L.cs:=by rw [r1]; simp
   exact ⟨q1,q2,a,x,b,r1,r2,r3,r4,r5,r6,hx,by rw [h.fs]; exact List.mem_map.2 ⟨x,hx,rfl⟩⟩
theorem len_le {f:Fl} {fs:List Fl} (hf:f∈fs):f.b.length≤sumB fs:=by
 induction fs with
 | nil=>cases hf
 | cons g fs ih=>
  have e:sumB (g::fs)=g.b.length + sumB fs:=by unfold sumB; rw [List.map_cons,List.sum_cons]
  rw [e]
  rcases List.mem_cons.1 hf with rfl | hf
  ·omega
  ·have:=ih hf; omega
theorem read_c (h:St H p m L) (at':List Nat):∃ x' H',cK (.func (.func 51) [] []) [.ptr p 0,.str at'] H=some (.tuple [x',.int .i64 (ofE m at')],H')∧
  Rw H' 1 x' (bs (readM m at'))∧Out [] H H'∧∀ j∈rid x',H.next≤j:=by
 have h0:=of_c h at'
 by_cases he:ofE m at'=0
 ·obtain ⟨q1,q2,a,x,b,r1,r2,r3,r4,r5,r6,hx,hf⟩:=h.ofP he
  obtain ⟨hf1,hf2⟩:=h.file x hx
  have hl:=hf1.ld (o:=0) rfl
  have hb:(bs x.f.b).length≤16777216:=by
   rw [bs_len]
   have:=len_le hf; have:=h.ok.sum; have:=h.ok.room; omega
  obtain ⟨x',H',c1,c2,c3,c4⟩:=clone_b hf2.rw (bs_one _) hb
  refine ⟨x',H',c_store_Store_Read ?_,?_,c3,c4⟩
  ·unfold s_store_Store_Read
   simp only [h0,he,q1,q2,r5,hl,c1,Bool.false_eq_true,Bool.true_eq_false,or_self,if_false,k_s,k_x,Int.reduceBEq,Int.reduceBNe,Int.reduceLT,Int.reduceLE,Int.reduceGT,Int.reduceGE,Int.reduceNeg]
  ·unfold readM
   rw [if_pos he,r6]; exact c2.rw
 ·refine ⟨.slice0,H,c_store_Store_Read ?_,?_,Out.refl _ _,fun j hj=>by cases hj⟩
  ·unfold s_store_Store_Read
   have:(ofE m at' != 0)=true:=by simpa using he
   simp only [h0,this,k_s,k_x,Int.reduceBEq,Int.reduceBNe,Int.reduceLT,Int.reduceLE,Int.reduceGT,Int.reduceGE,Int.reduceNeg]
  ·unfold readM
   rw [if_neg he]; exact .nil
end
section
variable {H:Hp} {p:Nat} {m:SM} {L:Lay}
theorem St.id_nd (h:St H p m L) {x:FC} (hx:x∈L.cs):x.id∉rid x.sl:=by
 have hnd:=h.nd
 unfold foot at hnd
 rw [List.nodup_cons,List.nodup_cons,List.nodup_append] at hnd
 obtain ⟨a,b,hL⟩:=List.append_of_mem hx
 have h1:=hnd.2.2.2.1
 rw [hL,List.flatMap_append,List.flatMap_cons,List.nodup_append,List.nodup_append] at h1
 have h2:(x.id::rid x.sl).Nodup:=h1.2.1.1
 exact (List.nodup_cons.1 h2).1
theorem St.put0 (h:St H p m L) {x:FC} (hx:x∈L.cs) {H0:Hp} {sl:AV} {b:List Nat} (ho:Out (rid x.sl) H H0) (hw:Ow H0 5 1 sl (bs b)) (hr:∀ j∈rid sl,j∈rid x.sl∨H.next≤j) :
  ∃ H1,st 1 (.ptr x.id 0) sl H0=some H1∧C0 H1 x.id [sl,.int .i64 x.f.sure]∧Out x.ids H H1∧Ow H1 5 1 sl (bs b):=by
 have hid:=h.id_nd hx
 have hc:=(h.file x hx).1.out ho hid
 obtain ⟨H1,h1,h2,h3,h4⟩:=hc.st (o:=0) (v:=sl) (by simp) (rw_one hw.rw)
 have hlt:=(h.file x hx).1.lt
 refine ⟨H1,h1,h2,(ho.mono fun j hj=>List.mem_cons_of_mem _ hj).trans (h3.mono fun j hj=>by rw [List.mem_singleton.1 hj]; exact .head _),hw.out h3 fun j hj q => ?_⟩
 rw [List.mem_singleton.1 q] at hj
 rcases hr _ hj with q | q
 ·exact hid q
 ·omega
theorem put1 {i:Nat} {sl:AV} {s t:Int} {b:List Nat} {H1:Hp} (hc:C0 H1 i [sl,.int .i64 s]) (hw:Ow H1 5 1 sl (bs b)) (hi:i∉rid sl) :
  ∃ H2,st 1 (.ptr i 1) (.int .i64 t) H1=some H2∧C0 H2 i [sl,.int .i64 t]∧Out [i] H1 H2∧Ow H2 5 1 sl (bs b):=by
 obtain ⟨H2,h1,h2,h3,h4⟩:=hc.st (o:=1) (v := .int .i64 t) (by simp) rfl
 exact ⟨H2,h1,h2,h3,hw.out h3 fun j hj q=>hi (by rw [List.mem_singleton.1 q] at hj; exact hj)⟩
theorem sumB_app (a b:List Fl):sumB (a++b)=sumB a + sumB b:=by unfold sumB; rw [List.map_append,List.sum_append]
theorem sumB_cons (f:Fl) (b:List Fl):sumB (f::b)=f.b.length + sumB b:=by unfold sumB; rw [List.map_cons,List.sum_cons]
theorem St.sum_set (h:St H p m L) {a b:List FC} {x:FC} (hL:L.cs=a++x::b) (ha:∀ y∈a,y.f.nm≠x.f.nm) (hb:∀ y∈b,y.f.nm≠x.f.nm) (f:Fl):sumB (setF x.f.nm f m.fs) + x.f.b.length=sumB m.fs + f.b.length:=by
 rw [h.fs,hL,setF_split rfl ha hb,List.map_append,List.map_cons,sumB_app,sumB_app,sumB_cons,sumB_cons]
 omega
def inF (L:Lay) (j:Nat):Prop:=∃ y∈L.cs,j∈y.ids
def cutTo (f:Fl) (n:Nat):Fl:=⟨f.nm,f.b.take n,n⟩
theorem bs_take (l:List Nat) (n:Nat):bs (l.take n)=(bs l).take n:=by unfold bs; rw [List.map_take]
theorem St.cut (h:St H p m L) {a b:List FC} {x:FC} (hL:L.cs=a++x::b) (ha:∀ y∈a,y.f.nm≠x.f.nm) (hb:∀ y∈b,y.f.nm≠x.f.nm) {n s:Nat} (hn:n≤x.f.b.length) (hs:s≤n) :
  ∃ sl H1 H2 L',sll 1 x.sl none (some (.int .i64 n)) none=some sl∧st 1 (.ptr x.id 0) sl H=some H1∧ld (.ptr x.id 0) H1=some sl∧ld (.ptr x.id 1) H1=some (.int .i64 x.f.sure)∧lenx sl=some (.int .i64 n)∧st 1 (.ptr x.id 1) (.int .i64 s) H1=some H2∧
   St H2 p { m with fs:=setF x.f.nm ⟨x.f.nm,x.f.b.take n,s⟩ m.fs } L'∧Go' p H L H2 L'∧L'.keep=L.keep∧L'.mid=L.mid∧(∀ j,inF L' j→inF L j∨H.next≤j)∧Out x.ids H H2:=by
 have hx:x∈L.cs:=by rw [hL]; simp
 obtain ⟨hf1,hf2⟩:=h.file x hx
 have hlen:(bs x.f.b).length=x.f.b.length * 1:=by rw [bs_len,Nat.mul_one]
 obtain ⟨sl,s1,s2,s3⟩:=sll_ow hf2 hlen (by omega) (a:=0) (b:=n) (lo:=none) (hi:=some (.int .i64 n)) (Nat.zero_le _) hn (Bd.no 0) (Bd.yes _ _ _)
 rw [Nat.zero_mul,List.drop_zero,Nat.sub_zero,Nat.mul_one,← bs_take] at s2
 obtain ⟨H1,p1,p2,p3,p4⟩:=h.put0 hx (Out.refl _ _) s2 fun j hj => .inl (s3 j hj)
 have hid:x.id∉rid sl:=fun q=>h.id_nd hx (s3 _ q)
 obtain ⟨H2,r1,r2,r3,r4⟩:=put1 (t:=(s:Int)) p2 p4 hid
 have hout:Out x.ids H H2:=p3.trans (r3.mono fun j hj=>by rw [List.mem_singleton.1 hj]; exact .head _)
 have hlen2:(x.f.b.take n).length=n:=by rw [List.length_take]; omega
 have hsum:=h.sum_set hL ha hb ⟨x.f.nm,x.f.b.take n,s⟩
 have hfm:x.f∈m.fs:=by rw [h.fs]; exact List.mem_map.2 ⟨x,hx,rfl⟩
 have hs0:=h.ok.sum
 obtain ⟨q1,q2⟩:=h.setFile (f:=⟨x.f.nm,x.f.b.take n,s⟩) hL ha hb rfl hout (fun j hj=>hj) r2 r4 (fun j hj => .inl (s3 j hj)) (rid_nd _) (by simp only; omega) (fun c hc=>h.ok.byte x.f hfm c (List.mem_of_mem_take hc))
  (by simp only at hsum ⊢; omega)
 refine ⟨sl,H1,H2,_,s1,p1,p2.ld rfl,p2.ld (o:=1) rfl,?_,r1,q1,q2,rfl,rfl,fun j hj => ?_,hout⟩
 ·have:=s2.rw.len1
  rw [bs_len,hlen2] at this
  exact this
 ·obtain ⟨y,hy,hj⟩:=hj
  rcases List.mem_append.1 hy with hy | hy
  ·exact .inl ⟨y,by rw [hL]; exact List.mem_append_left _ hy,hj⟩
  ·rcases List.mem_cons.1 hy with rfl | hy
   ·refine .inl ⟨x,hx,?_⟩
    rcases List.mem_cons.1 hj with rfl | hj
    ·exact .head _
    ·exact .tail _ (s3 j hj)
   ·exact .inl ⟨y,by rw [hL]; exact List.mem_append_right _ (.tail _ hy),hj⟩
end
def kn:List Int→Int
 | []=>0
 | k::_=>k
def crashF:List (List Nat)→List Int→List Fl→List Fl
 | [],_,fs=>fs
 | n::ns,keep,fs=>match fs.find? (fun f=>f.nm == n) with
  | none=>fs
  | some f=>if f.b.length=f.sure then crashF ns keep fs else crashF ns keep.tail (setF n (cutTo f (f.sure + min (kn keep).toNat (f.b.length - f.sure))) fs)
noncomputable def crashM (m:SM) (keep:List Int):SM:=if m.off=true then m else { m with off:=true,fuse:=0,fs:=crashF (names m) keep m.fs }
theorem find_setF {fs:List Fl} {n k:List Nat} {g:Fl} (hg:g.nm=n) (h:(fs.find? (fun f=>f.nm == k)).isSome=true):((setF n g fs).find? (fun f=>f.nm == k)).isSome=true:=by
 rw [List.find?_isSome] at h ⊢
 obtain ⟨f,hf,he⟩:=h
 unfold setF
 refine ⟨if f.nm=n then g else f,List.mem_map.2 ⟨f,hf,rfl⟩,?_⟩
 split
 ·rename_i q; rw [hg,← q]; exact he
 ·exact he
theorem crash_loop (j7:Am.K.Fn 1) (p:Nat) (x:AV) (all:List (List Nat)) (hall:all.length≤1000000):∀ (rest:List (List Nat)) (i:Nat) (H:Hp) (m:SM) (L:Lay) (kv:AV) (kl:List Int),St H p m L→Rw H 1 x (strs all)→(∀ j∈rid x,¬ inF L j)→
  i + rest.length=all.length→all.drop i=rest→Rw H 1 kv (ints kl)→(∀ j∈rid kv,¬ inF L j)→(∀ n∈rest,(look m n).isSome=true)→
  ∃ H' L',l_store_Store_Crash JN GO cK j7 (.ptr p 0) kv x (.int .i64 all.length) (.int .i64 i) H=j7 (.ptr p 0) H'∧St H' p { m with fs:=crashF rest kl m.fs } L'∧Go' p H L H' L'∧L'.keep=L.keep
 | [],i,H,m,L,kv,kl,h,hx,hxd,hi,hd,hk,hkd,hl=>by
  refine ⟨H,L,?_,h,Go'.refl _ _ _,rfl⟩
  rw [ql_store_Store_Crash]
  have:decide ((i:Int) < (all.length:Int))=false:=by simp only [List.length_nil] at hi; simp; omega
  simp only [this,k_s,k_x,Int.reduceBEq,Int.reduceBNe,Int.reduceLT,Int.reduceLE,Int.reduceGT,Int.reduceGE,Int.reduceNeg]
 | n::ns,i,H,m,L,kv,kl,h,hx,hxd,hi,hd,hk,hkd,hl=>by
  simp only [List.length_cons] at hi
  have hlt:decide ((i:Int) < (all.length:Int))=true:=by simp; omega
  have hn:all[i]? = some n:=by
   have:=congrArg (fun l=>l[0]?) hd
   simpa using this
  obtain ⟨q,hq1,hq2⟩:=hx.ia1 (i:=i) (v := .str n) (by unfold strs; rw [List.getElem?_map,hn]; rfl) .i64
  have hd':all.drop (i + 1)=ns:=by
   have:=congrArg (List.drop 1) hd
   rw [List.drop_drop] at this
   simpa using this
  have hw:IntKind.wrap .i64 ((i:Int) + 1)=((i + 1:Nat):Int):=by rw [wrap_i64 (by omega) (by omega)]; omega
  have h1:=h.ld_map
  have h2:=h.lkp n
  have hln:=hl n (.head _)
  rcases h.lookC n with ⟨r1,r2,r3⟩ | ⟨a,fc,b,r1,r2,r3,r4,r5,r6⟩
  ·rw [r2] at hln; cases hln
  have hfx:fc∈L.cs:=by rw [r1]; simp
  have hfm:fc.f∈m.fs:=by rw [h.fs]; exact List.mem_map.2 ⟨fc,hfx,rfl⟩
  obtain ⟨hf1,hf2⟩:=h.file fc hfx
  have hld0:=hf1.ld (o:=0) rfl
  have hld1:=hf1.ld (o:=1) rfl
  have hlen:=hf2.rw.len1
  rw [bs_len] at hlen
  have hsure:=h.ok.sure _ hfm
  have hbig:fc.f.b.length≤16777216:=by
   have:=len_le hfm; have:=h.ok.sum; have:=h.ok.room; omega
  have hwr:IntKind.wrap .i64 ((fc.f.b.length:Int) - (fc.f.sure:Int))=((fc.f.b.length - fc.f.sure:Nat):Int):=by rw [wrap_i64 (by omega) (by omega)]; omega
  rw [ql_store_Store_Crash]
  by_cases heq:fc.f.b.length=fc.f.sure
  ·have hz:(((fc.f.b.length - fc.f.sure:Nat):Int) == 0)=true:=by rw [heq]; simp
   obtain ⟨H',L',e1,e2,e3,e4⟩:=crash_loop j7 p x all hall ns (i + 1) H m L kv kl h hx hxd (by omega) hd' hk hkd fun k hk=>hl k (.tail _ hk)
   refine ⟨H',L',?_,?_,e3,e4⟩
   ·simp only [hlt,hq1,hq2,h1,h2,r5,hld0,hld1,hlen,hwr,hz,hw,e1,k_s,k_x,Int.reduceBEq,Int.reduceBNe,Int.reduceLT,Int.reduceLE,Int.reduceGT,Int.reduceGE,Int.reduceNeg]
   ·have:crashF (n::ns) kl m.fs=crashF ns kl m.fs:=by
     show (match look m n with | none=>m.fs | some f=>_)=_
     rw [r6]; simp only; rw [if_pos heq]
    rw [this]; exact e2
  ·have hz:(((fc.f.b.length - fc.f.sure:Nat):Int) == 0)=false:=by simp; omega
   obtain ⟨sl,H1,H2,L2,c1,c2,c3,c3',c4,c5,c6,c7,c8,c9,c10,c11⟩:=h.cut r1 (by rw [r2]; exact r3) (by rw [r2]; exact r4) (n:=fc.f.sure + min (kn kl).toNat (fc.f.b.length - fc.f.sure)) (s:=fc.f.sure + min (kn kl).toNat (fc.f.b.length - fc.f.sure)) (by omega) (Nat.le_refl _)
   have hwa:IntKind.wrap .i64 ((fc.f.sure:Int) + ((min (kn kl).toNat (fc.f.b.length - fc.f.sure):Nat):Int))=((fc.f.sure + min (kn kl).toNat (fc.f.b.length - fc.f.sure):Nat):Int):=by rw [wrap_i64 (by omega) (by omega)]; omega
   have hout:∀ y:AV,(∀ j∈rid y,¬ inF L j)→∀ j∈rid y,j∉fc.ids:=fun y hy j hj q=>hy j hj ⟨fc,hfx,q⟩
   have hx2:=hx.out c11 (hout x hxd)
   have away:∀ (y:AV) (l:List AV),Rw H 1 y l→(∀ j∈rid y,¬ inF L j)→∀ j∈rid y,¬ inF L2 j:=fun y l hy hyd j hj q=>by
    rcases c10 j q with q | q
    ·exact hyd j hj q
    ·have:=hy.lt j hj; omega
   have hl2:∀ k∈ns,(look { m with fs:=setF fc.f.nm ⟨fc.f.nm,fc.f.b.take (fc.f.sure + min (kn kl).toNat (fc.f.b.length - fc.f.sure)),fc.f.sure + min (kn kl).toNat (fc.f.b.length - fc.f.sure)⟩ m.fs } k).isSome=true:=
    fun k hk=>find_setF rfl (hl k (.tail _ hk))
   have hcf:crashF (n::ns) kl m.fs=crashF ns kl.tail (setF fc.f.nm ⟨fc.f.nm,fc.f.b.take (fc.f.sure + min (kn kl).toNat (fc.f.b.length - fc.f.sure)),fc.f.sure + min (kn kl).toNat (fc.f.b.length - fc.f.sure)⟩ m.fs):=by
    show (match look m n with | none=>m.fs | some f=>_)=_
    rw [r6]; simp only; rw [if_neg heq,← r2]; rfl
   cases kl with
   | nil=>
    have hk0:lenx kv=some (.int .i64 0):=by
     have:=hk.len1
     exact this
    obtain ⟨H',L',e1,e2,e3,e4⟩:=crash_loop j7 p x all hall ns (i + 1) H2 _ L2 kv [] c6 hx2 (away x _ hx hxd) (by omega) hd' (hk.out c11 (hout kv hkd)) (away kv _ hk hkd) hl2
    refine ⟨H',L',?_,by rw [hcf]; exact e2,c7.trans e3,e4.trans c8⟩
    have hwa0:IntKind.wrap .i64 ((fc.f.sure:Int) + 0)=((fc.f.sure + min (kn []).toNat (fc.f.b.length - fc.f.sure):Nat):Int):=by rw [wrap_i64 (by omega) (by omega)]; simp [kn]
    have hf0:decide ((0:Int) < 0)=false:=rfl
    simp only [hlt,hq1,hq2,h1,h2,r5,hld0,hld1,hlen,hwr,hz,hw,hk0,hf0,hwa0,c1,c2,c3,c4,c5,e1,k_s,k_x,Int.reduceBEq,Int.reduceBNe,Int.reduceLT,Int.reduceLE,Int.reduceGT,Int.reduceGE,Int.reduceNeg]
   | cons k ks=>
    have hk1:lenx kv=some (.int .i64 ((ks.length + 1:Nat):Int)):=by
     have:=hk.len1
     unfold ints at this
     rw [List.length_map] at this
     exact this
    have hpos:decide ((0:Int) < ((ks.length + 1:Nat):Int))=true:=decide_eq_true (by omega)
    obtain ⟨qk,hk2,hk3⟩:=hk.ia1 (i:=0) (v := .int .i64 k) rfl .i64
    have hkl:(ints (k::ks)).length=(ks.length + 1) * 1:=by unfold ints; simp
    obtain ⟨kv',k1,k2,k3⟩:=sll_rw hk hkl (by omega) (a:=1) (b:=ks.length + 1) (lo:=some (.int .i64 1)) (hi:=none) (by omega) (Nat.le_refl _) (Bd.yes .i64 1 0) (Bd.no _)
    have hkv':Rw H 1 kv' (ints ks):=by
     have:((ints (k::ks)).drop (1 * 1)).take ((ks.length + 1 - 1) * 1)=ints ks:=by
      unfold ints
      simp only [List.map_cons,Nat.mul_one,List.drop_succ_cons,List.drop_zero,Nat.add_sub_cancel]
      rw [List.take_of_length_le (by simp)]
     rw [this] at k2; exact k2
    have hkd':∀ j∈rid kv',¬ inF L j:=fun j hj=>hkd j (k3 j hj)
    obtain ⟨H',L',e1,e2,e3,e4⟩:=crash_loop j7 p x all hall ns (i + 1) H2 _ L2 kv' ks c6 hx2 (away x _ hx hxd) (by omega) hd' (hkv'.out c11 (hout kv' hkd')) (away kv' _ hkv' hkd') hl2
    refine ⟨H',L',?_,by rw [hcf]; exact e2,c7.trans e3,e4.trans c8⟩
    have hmx:(if ((if k < 0 then (0:Int) else k)) > ((fc.f.b.length - fc.f.sure:Nat):Int) then ((fc.f.b.length - fc.f.sure:Nat):Int) else (if k < 0 then (0:Int) else k))=((min (kn (k::ks)).toNat (fc.f.b.length - fc.f.sure):Nat):Int):=by
     simp only [kn]
     split <;> split <;> omega
    simp only [gt_iff_lt] at hmx
    have hk2':ia 1 kv (.int .i64 0)=some qk:=hk2
    simp only [hlt,hq1,hq2,h1,h2,r5,hld0,hld1,hlen,hwr,hz,hw,hk1,hpos,hk2',hk3,max_i,min_i,hmx,k1,hwa,c1,c2,c3,c4,c5,e1,k_s,k_x,Int.reduceBEq,Int.reduceBNe,Int.reduceLT,Int.reduceLE,Int.reduceGT,Int.reduceGE,Int.reduceNeg]
section
variable {H:Hp} {p:Nat} {m:SM} {L:Lay}
theorem St.notF (h:St H p m L):¬ inF L p∧¬ inF L L.mid∧∀ j∈rid L.keep,¬ inF L j:=by
 have hnd:=h.nd
 unfold foot at hnd
 rw [List.nodup_cons,List.nodup_cons,List.nodup_append] at hnd
 obtain ⟨n1,n2,n3,n4,n5⟩:=hnd
 refine ⟨fun ⟨y,hy,hj⟩=>n1 (.tail _ (List.mem_append_right _ (List.mem_flatMap.2 ⟨y,hy,hj⟩))),fun ⟨y,hy,hj⟩=>n2 (List.mem_append_right _ (List.mem_flatMap.2 ⟨y,hy,hj⟩)),fun j hj ⟨y,hy,hk⟩=>n5 _ hj _ (List.mem_flatMap.2 ⟨y,hy,hk⟩) rfl⟩
theorem St.keep_p (h:St H p m L):p∉rid L.keep:=by
 have hnd:=h.nd
 unfold foot at hnd
 rw [List.nodup_cons] at hnd
 exact fun q=>hnd.1 (.tail _ (List.mem_append_left _ q))
theorem names_mem (h:St H p m L):∀ n∈names m,(look m n).isSome=true:=by
 intro n hn
 unfold names at hn
 rw [sortN_mem] at hn
 obtain ⟨f,hf,rfl⟩:=List.mem_map.1 hn
 unfold look
 rw [List.find?_isSome]
 exact ⟨f,hf,by simp⟩
theorem crash_c (h:St H p m L) {kv:AV} {kl:List Int} (hk:Rw H 1 kv (ints kl)) (hkd:∀ j∈rid kv,¬ inF L j) :
  ∃ H' L',cK (.func (.func 13) [] []) [.ptr p 0,kv] H=some (.tuple [],H')∧St H' p (crashM m kl) L'∧Go' p H L H' L':=by
 have h2:=h.ld_off
 cases ho:m.off with
 | true=>
  rw [ho] at h2
  refine ⟨H,L,c_store_Store_Crash ?_,by unfold crashM; rw [if_pos ho]; exact h,Go'.refl _ _ _⟩
  unfold s_store_Store_Crash
  simp only [h2,k_s,k_x,Int.reduceBEq,Int.reduceBNe,Int.reduceLT,Int.reduceLE,Int.reduceGT,Int.reduceGE,Int.reduceNeg]
 | false=>
  rw [ho] at h2
  obtain ⟨x,H1,n1,n2,n3,n4,n5⟩:=names_c h
  have h1:=h.out n3 fun j _ q=>by cases q
  have hlt:=h.lt
  have hnl:(names m).length≤1000000:=by
   unfold names
   rw [sortN_len,List.length_map]
   have:=h.ok.many; omega
  obtain ⟨H2,L2,e1,e2,e3,e4⟩:=crash_loop (fun x118 h119=>
    B1 (nilA x118) fun v120=>
    B1 (fa 2 v120) fun v121=>
    B1 (st 1 v121 (.bool true) h119) fun h122=>
    B1 (nilA x118) fun v123=>
    B1 (fa 3 v123) fun v124=>
    B1 (st 1 v124 (.int .i64 0) h122) fun h125=>
    some (.tuple [],h125)) p x (names m) hnl (names m) 0 H1 m L kv kl h1 n2 (fun j hj ⟨y,hy,q⟩=>by
     have:=n4 j hj
     have:=hlt j (St.mem_file hy q); omega) (by simp) rfl (hk.out n3 fun j _ q=>by cases q) hkd (names_mem h)
  obtain ⟨H3,a1,a2,a3,a4⟩:=e2.head.st (o:=2) (v := .bool true) (by simp) rfl
  obtain ⟨H4,b1,b2,b3,b4⟩:=a2.st (o:=3) (v := .int .i64 ((0:Nat):Int)) (by simp) rfl
  have ho2:Out [p] H2 H4:=a3.trans b3
  have hk2:=e2.keep.out ho2 fun j hj q=>e2.keep_p (by rw [List.mem_singleton.1 q] at hj; exact hj)
  obtain ⟨q1,q2⟩:=e2.setHead (off:=true) (fuse:=0) (keep:=L2.keep) (kl:=m.keep) b2 (by omega) ho2 (fun j hj => .inl (by simpa using hj)) hk2 (fun j hj => .inl hj) (rid_nd _)
  have hgo:Go' p H L H1 L:=⟨n3.mono (fun j hj=>by cases hj),fun j hj => .inl hj⟩
  refine ⟨H4,L2,c_store_Store_Crash ?_,?_,(hgo.trans e3).trans q2⟩
  ·unfold s_store_Store_Crash
   have b1':st 1 (.ptr p 3) (.int .i64 0) H3=some H4:=b1
   have e1':l_store_Store_Crash JN GO cK (fun x118 h119=>
    B1 (nilA x118) fun v120=>
    B1 (fa 2 v120) fun v121=>
    B1 (st 1 v121 (.bool true) h119) fun h122=>
    B1 (nilA x118) fun v123=>
    B1 (fa 3 v123) fun v124=>
    B1 (st 1 v124 (.int .i64 0) h122) fun h125=>
    some (.tuple [],h125)) (.ptr p 0) kv x (.int .i64 (names m).length) (.int .i64 0) H1=some (.tuple [],H4):=by
    refine e1.trans ?_
    simp only [a1,b1',k_s,k_x,Int.reduceBEq,Int.reduceBNe,Int.reduceLT,Int.reduceLE,Int.reduceGT,Int.reduceGE,Int.reduceNeg]
   simp only [h2,n1,n5,k_s,k_x,Int.reduceBEq,Int.reduceBNe,Int.reduceLT,Int.reduceLE,Int.reduceGT,Int.reduceGE,Int.reduceNeg]
   exact e1'
  ·unfold crashM
   rw [if_neg (by rw [ho]; simp)]
   exact q1
def burnB (m:SM):Bool:=m.fuse != 1
noncomputable def burnM (m:SM):SM:=if m.fuse=0 then m else if m.fuse=1 then crashM { m with fuse:=0 } m.keep else { m with fuse:=m.fuse - 1 }
theorem burn_c (h:St H p m L):∃ H' L',cK (.func (.func 45) [] []) [.ptr p 0] H=some (.bool (burnB m),H')∧St H' p (burnM m) L'∧Go' p H L H' L'∧(burnB m=true→L'=L∧Out [p] H H'∧(burnM m).fs=m.fs∧(burnM m).room=m.room∧(burnM m).off=m.off∧(burnM m).keep=m.keep):=by
 have h3:=h.ld_fuse
 by_cases h0:m.fuse=0
 ·have hB:burnB m=true:=by simp [burnB,h0]
  refine ⟨H,L,c_store_Store_burn ?_,by unfold burnM; rw [if_pos h0]; exact h,Go'.refl _ _ _,fun _=>⟨rfl,Out.refl _ _,by unfold burnM; rw [if_pos h0],by unfold burnM; rw [if_pos h0],by unfold burnM; rw [if_pos h0],by unfold burnM; rw [if_pos h0]⟩⟩
  unfold s_store_Store_burn
  have:((m.fuse:Int) == 0)=true:=by rw [h0]; rfl
  simp only [h3,this,hB,k_s,k_x,Int.reduceBEq,Int.reduceBNe,Int.reduceLT,Int.reduceLE,Int.reduceGT,Int.reduceGE,Int.reduceNeg]
 ·have hz:((m.fuse:Int) == 0)=false:=by simp; omega
  have hf:=h.ok.fuse
  have hw:IntKind.wrap .i64 ((m.fuse:Int) - 1)=((m.fuse - 1:Nat):Int):=by rw [wrap_i64 (by omega) (by omega)]; omega
  obtain ⟨H1,a1,a2,a3,a4⟩:=h.head.st (o:=3) (v := .int .i64 ((m.fuse - 1:Nat):Int)) (by simp) rfl
  have hk1:=h.keep.out a3 fun j hj q=>h.keep_p (by rw [List.mem_singleton.1 q] at hj; exact hj)
  obtain ⟨q1,q2⟩:=h.setHead (off:=m.off) (fuse:=m.fuse - 1) (keep:=L.keep) (kl:=m.keep) a2 (by omega) a3 (fun j hj => .inl (by simpa using hj)) hk1 (fun j hj => .inl hj) (rid_nd _)
  have hld:ld (.ptr p 3) H1=some (.int .i64 ((m.fuse - 1:Nat):Int)):=a2.ld (o:=3) rfl
  have hld4:ld (.ptr p 4) H1=some L.keep:=a2.ld (o:=4) rfl
  by_cases h1:m.fuse=1
  ·have hB:burnB m=false:=by simp [burnB,h1]
   have hn:decide ((0:Int) < ((m.fuse - 1:Nat):Int))=false:=decide_eq_false (by omega)
   obtain ⟨H2,L2,c1,c2,c3⟩:=crash_c q1 (kv:=L.keep) (kl:=m.keep) hk1 q1.notF.2.2
   refine ⟨H2,L2,c_store_Store_burn ?_,?_,q2.trans c3,fun q=>by rw [hB] at q; cases q⟩
   ·unfold s_store_Store_burn
    simp only [h3,hz,hw,a1,hld,hn,hld4,c1,hB,k_s,k_x,Int.reduceBEq,Int.reduceBNe,Int.reduceLT,Int.reduceLE,Int.reduceGT,Int.reduceGE,Int.reduceNeg]
   ·unfold burnM
    rw [if_neg h0,if_pos h1]
    have:m.fuse - 1=0:=by omega
    rw [this] at c2; exact c2
  ·have hB:burnB m=true:=by simp [burnB,h1]
   have hn:decide ((0:Int) < ((m.fuse - 1:Nat):Int))=true:=decide_eq_true (by omega)
   have hbm:burnM m={ m with fuse:=m.fuse - 1 }:=by unfold burnM; rw [if_neg h0,if_neg h1]
   refine ⟨H1,L,c_store_Store_burn ?_,by rw [hbm]; exact q1,q2,fun _=>⟨rfl,a3,by rw [hbm],by rw [hbm],by rw [hbm],by rw [hbm]⟩⟩
   unfold s_store_Store_burn
   simp only [h3,hz,hw,a1,hld,hn,hB,k_s,k_x,Int.reduceBEq,Int.reduceBNe,Int.reduceLT,Int.reduceLE,Int.reduceGT,Int.reduceGE,Int.reduceNeg]
noncomputable def syncM (m:SM) (at':List Nat):Int × SM:=if ofE m at'≠0 then (ofE m at',m) else if burnB m=false then (11,burnM m) else
 (0,{ burnM m with fs:=match look m at' with | some f=>setF at' ⟨f.nm,f.b,f.b.length⟩ m.fs | none=>m.fs })
theorem ne_of_ofE {m:SM} {at':List Nat} (he:ofE m at'≠0):(ofE m at' != 0)=true:=by simpa using he
theorem sync_c (h:St H p m L) (at':List Nat):∃ H' L',cK (.func (.func 34) [] []) [.ptr p 0,.str at'] H=some (.int .i64 (syncM m at').1,H')∧St H' p (syncM m at').2 L'∧Go' p H L H' L':=by
 have h0:=of_c h at'
 by_cases he:ofE m at'=0
 ·obtain ⟨q1,q2,a,x,b,r1,r2,r3,r4,r5,r6,hx,hf⟩:=h.ofP he
  obtain ⟨H1,L1,b1,b2,b3,b4⟩:=burn_c h
  cases hB:burnB m with
  | false=>
   have:syncM m at'=(11,burnM m):=by unfold syncM; rw [if_neg (by simp [he]),if_pos hB]
   rw [this]
   refine ⟨H1,L1,c_store_Store_Sync ?_,b2,b3⟩
   unfold s_store_Store_Sync
   simp only [h0,he,q1,q2,b1,hB,Bool.false_eq_true,Bool.true_eq_false,or_self,if_false,k_s,k_x,Int.reduceBEq,Int.reduceBNe,Int.reduceLT,Int.reduceLE,Int.reduceGT,Int.reduceGE,Int.reduceNeg]
  | true=>
   obtain ⟨e1,e2,e3,e4,e5,e6⟩:=b4 hB
   rw [e1] at b2 b3
   obtain ⟨hf1,hf2⟩:=b2.file x hx
   have hl:=hf1.ld (o:=0) rfl
   have hlen:=hf2.rw.len1
   rw [bs_len] at hlen
   obtain ⟨H2,c1,c2,c3,c4⟩:=put1 (t:=(x.f.b.length:Int)) hf1 hf2 (b2.id_nd hx)
   have hset:=b2.setFile (f:=⟨x.f.nm,x.f.b,x.f.b.length⟩) r1 (by rw [r2]; exact r3) (by rw [r2]; exact r4) rfl c3 (fun j hj=>by rw [List.mem_singleton.1 hj]; exact .head _) c2 c4 (fun j hj => .inl hj) (rid_nd _) (Nat.le_refl _) (h.ok.byte x.f hf) (by
    have:=b2.sum_set r1 (by rw [r2]; exact r3) (by rw [r2]; exact r4) ⟨x.f.nm,x.f.b,x.f.b.length⟩
    have:=b2.ok.sum
    simp only at *; omega)
   obtain ⟨s1,s2⟩:=hset
   have:syncM m at'=(0,{ burnM m with fs:=setF x.f.nm ⟨x.f.nm,x.f.b,x.f.b.length⟩ (burnM m).fs }):=by
    unfold syncM; rw [if_neg (by simp [he]),if_neg (by simp [hB]),r6,← r2,e3]
   rw [this]
   refine ⟨H2,_,c_store_Store_Sync ?_,s1,b3.trans s2⟩
   unfold s_store_Store_Sync
   simp only [h0,he,q1,q2,b1,hB,r5,hl,hlen,c1,Bool.false_eq_true,Bool.true_eq_false,or_self,if_false,k_s,k_x,Int.reduceBEq,Int.reduceBNe,Int.reduceLT,Int.reduceLE,Int.reduceGT,Int.reduceGE,Int.reduceNeg]
 ·have:syncM m at'=(ofE m at',m):=by unfold syncM; rw [if_pos he]
  rw [this]
  refine ⟨H,L,c_store_Store_Sync ?_,h,Go'.refl _ _ _⟩
  unfold s_store_Store_Sync
  simp only [h0,ne_of_ofE he,k_s,k_x,Int.reduceBEq,Int.reduceBNe,Int.reduceLT,Int.reduceLE,Int.reduceGT,Int.reduceGE,Int.reduceNeg]
end
theorem incr_cons (c:Nat) (x:ME) (es:List ME) (p:Nat):incr c (x::es) p=true ↔ p≤x.born∧x.born < c∧incr c es (x.born + 1)=true:=by
 show F.bothB (Nat.ble p x.born) (F.bothB (Nat.blt x.born c) (incr c es (x.born + 1)))=true ↔ _
 rw [F.bothB_eq,F.bothB_eq,Bool.and_eq_true,Bool.and_eq_true,Nat.ble_eq,Nat.blt_eq]
theorem incr_mono (c:Nat):∀ (es:List ME) (p q:Nat),q≤p→incr c es p=true→incr c es q=true
 | [],p,q,h,_=>rfl
 | x::es,p,q,h,hi=>by
  rw [incr_cons] at hi ⊢
  exact ⟨by omega,hi.2⟩
theorem incr_del (c:Nat) (x:ME) (b:List ME):∀ (a:List ME) (p:Nat),incr c (a++x::b) p=true→incr c (a++b) p=true
 | [],p,h=>by
  rw [List.nil_append,incr_cons] at h
  exact incr_mono c b _ _ (by omega) h.2.2
 | y::a,p,h=>by
  rw [List.cons_append,incr_cons] at h ⊢
  exact ⟨h.1,h.2.1,incr_del c x b a _ h.2.2⟩
theorem incr_add (c:Nat) (x:ME) (hx:x.born=c):∀ (a:List ME) (p:Nat),p≤c→incr c a p=true→incr (c + 1) (a++[x]) p=true
 | [],p,hp,h=>by
  rw [List.nil_append,incr_cons]
  exact ⟨by omega,by omega,rfl⟩
 | y::a,p,hp,h=>by
  rw [incr_cons] at h
  rw [List.cons_append,incr_cons]
  exact ⟨h.1,by omega,incr_add c x hx a _ (by omega) h.2.2⟩
def delF (n:List Nat) (fs:List Fl):List Fl:=fs.filter fun f => !(f.nm == n)
theorem delF_split {a b:List FC} {x:FC} {n:List Nat} (hx:x.f.nm=n) (ha:∀ y∈a,y.f.nm≠n) (hb:∀ y∈b,y.f.nm≠n):delF n ((a++x::b).map (·.f))=(a++b).map (·.f):=by
 unfold delF
 rw [List.map_append,List.map_cons,List.filter_append,List.filter_cons]
 have h1:(!(x.f.nm == n))=false:=by rw [hx]; simp
 have hf:∀ l:List FC,(∀ y∈l,y.f.nm≠n)→(l.map (·.f)).filter (fun f => !(f.nm == n))=l.map (·.f):=fun l hl=>List.filter_eq_self.2 fun f hf=>by
  obtain ⟨y,hy,rfl⟩:=List.mem_map.1 hf
  simpa using hl y hy
 rw [h1,hf a ha,hf b hb,List.map_append]
 simp
section
variable {H:Hp} {p:Nat} {m:SM} {L:Lay}
theorem St.mid_nf (h:St H p m L):p≠L.mid∧L.mid∉rid L.keep∧∀ y∈L.cs,L.mid∉y.ids:=by
 have hnd:=h.nd
 unfold foot at hnd
 rw [List.nodup_cons,List.nodup_cons] at hnd
 exact ⟨fun q=>hnd.1 (by rw [q]; exact .head _),fun q=>hnd.2.1 (List.mem_append_left _ q),fun y hy q=>hnd.2.1 (List.mem_append_right _ (List.mem_flatMap.2 ⟨y,hy,q⟩))⟩
theorem St.outMid {H':Hp} (h:St H p m L) (ho:Out [L.mid] H H'):C0 H' p [.int .i64 m.room,.map L.mid,.bool m.off,.int .i64 m.fuse,L.keep]∧Rw H' 1 L.keep (ints m.keep)∧
  ∀ x∈L.cs,C0 H' x.id [x.sl,.int .i64 x.f.sure]∧Ow H' 5 1 x.sl (bs x.f.b):=by
 obtain ⟨n1,n2,n3⟩:=h.mid_nf
 have e:∀ j,j≠L.mid→j∉[L.mid]:=fun j hj q=>hj (List.mem_singleton.1 q)
 exact ⟨h.head.out ho (e _ n1),h.keep.out ho fun j hj=>e _ fun q=>n2 (q ▸ hj),fun x hx=>⟨(h.file x hx).1.out ho (e _ fun q=>n3 x hx (q ▸ .head _)),(h.file x hx).2.out ho fun j hj=>e _ fun q=>n3 x hx (q ▸ .tail _ hj)⟩⟩
theorem St.delFile (h:St H p m L) {a b:List FC} {x:FC} (hL:L.cs=a++x::b) (ha:∀ y∈a,y.f.nm≠x.f.nm) (hb:∀ y∈b,y.f.nm≠x.f.nm) :
  ∃ H',mdel .str (.map L.mid) (.str x.f.nm) H=some H'∧St H' p { m with fs:=delF x.f.nm m.fs } { L with cs:=a++b }∧Go' p H L H' { L with cs:=a++b }∧
   C0 H' x.id [x.sl,.int .i64 x.f.sure]∧Ow H' 5 1 x.sl (bs x.f.b)∧(∀ j∈x.ids,j∉foot p { L with cs:=a++b })∧x.ids.Nodup:=by
 have hm:=h.map
 rw [hL,List.map_append,List.map_cons] at hm
 obtain ⟨H',d1,d2,d3⟩:=mdel_some hm (k:=x.f.nm) rfl (keys_ne ha)
 obtain ⟨c1,c2,c3⟩:=h.outMid d3
 have hfs:delF x.f.nm m.fs=(a++b).map (·.f):=by rw [h.fs,hL,delF_split rfl ha hb]
 have hsub:∀ f∈delF x.f.nm m.fs,f∈m.fs:=fun f hf=>(List.mem_filter.1 hf).1
 have hxL:x∈L.cs:=by rw [hL]; simp
 have mem:∀ y∈a++b,y∈L.cs:=fun y hy=>by
  rw [hL]
  rcases List.mem_append.1 hy with q | q
  ·exact List.mem_append_left _ q
  ·exact List.mem_append_right _ (.tail _ q)
 have hnd:=h.nd
 unfold foot at hnd
 rw [hL,List.flatMap_append,List.flatMap_cons,List.nodup_cons,List.nodup_cons,List.nodup_append,List.nodup_append,List.nodup_append] at hnd
 obtain ⟨n1,n2,n3,⟨n4,⟨n5,n6,n7⟩,n8⟩,n9⟩:=hnd
 have hsum:sumB (delF x.f.nm m.fs)≤sumB m.fs:=by
  rw [hfs,h.fs,hL,List.map_append,List.map_append,List.map_cons,sumB_app,sumB_app,sumB_cons]; omega
 refine ⟨H',d1,⟨c1,by rw [List.map_append]; exact d2,fun y hy=>c3 y (mem y hy),c2,?_,?_,hfs,⟨h.ok.room,Nat.le_trans hsum h.ok.sum,fun f hf=>h.ok.sure f (hsub f hf),fun f hf=>h.ok.byte f (hsub f hf),h.ok.fuse,?_,fun f hf=>h.ok.good f (hsub f hf),?_⟩⟩,
  ⟨d3.mono fun j hj=>by rw [List.mem_singleton.1 hj]; exact St.mem_mid,fun j hj => .inl ?_⟩,(c3 x hxL).1,(c3 x hxL).2,?_,n5⟩
 ·unfold foot
  rw [List.flatMap_append,List.nodup_cons,List.nodup_cons,List.nodup_append,List.nodup_append]
  refine ⟨fun q => ?_,fun q => ?_,n3,⟨n4,n6,fun j hj k hk=>n8 j hj k (List.mem_append_right _ hk)⟩,fun j hj k hk => ?_⟩
  ·rcases List.mem_cons.1 q with q | q
   ·exact n1 (by rw [q]; exact .head _)
   rcases List.mem_append.1 q with q | q
   ·exact n1 (.tail _ (List.mem_append_left _ q))
   rcases List.mem_append.1 q with q | q
   ·exact n1 (.tail _ (List.mem_append_right _ (List.mem_append_left _ q)))
   ·exact n1 (.tail _ (List.mem_append_right _ (List.mem_append_right _ (List.mem_append_right _ q))))
  ·rcases List.mem_append.1 q with q | q
   ·exact n2 (List.mem_append_left _ q)
   rcases List.mem_append.1 q with q | q
   ·exact n2 (List.mem_append_right _ (List.mem_append_left _ q))
   ·exact n2 (List.mem_append_right _ (List.mem_append_right _ (List.mem_append_right _ q)))
  ·rcases List.mem_append.1 hk with q | q
   ·exact n9 j hj k (List.mem_append_left _ q)
   ·exact n9 j hj k (List.mem_append_right _ (List.mem_append_right _ q))
 ·have hb':=h.born
  rw [hL,List.map_append,List.map_cons] at hb'
  rw [List.map_append]
  exact incr_del _ _ _ _ _ hb'
 ·exact List.Nodup.sublist ((List.filter_sublist).map _) h.ok.names
 ·exact Nat.le_trans (List.length_filter_le _ _) h.ok.many
 ·unfold foot at hj
  rcases List.mem_cons.1 hj with rfl | hj
  ·exact St.mem_p
  rcases List.mem_cons.1 hj with rfl | hj
  ·exact St.mem_mid
  rcases List.mem_append.1 hj with hj | hj
  ·exact St.mem_keep hj
  ·obtain ⟨y,hy,hj⟩:=List.mem_flatMap.1 hj
   exact St.mem_file (mem y hy) hj
 ·intro j hj q
  have hj':j∈FC.ids x:=hj
  unfold foot at q
  rcases List.mem_cons.1 q with q | q
  ·exact n1 (.tail _ (List.mem_append_right _ (List.mem_append_right _ (List.mem_append_left _ (q ▸ hj')))))
  rcases List.mem_cons.1 q with q | q
  ·exact n2 (List.mem_append_right _ (List.mem_append_right _ (List.mem_append_left _ (q ▸ hj'))))
  rcases List.mem_append.1 q with q | q
  ·exact n9 j q j (List.mem_append_right _ (List.mem_append_left _ hj')) rfl
  ·rw [List.flatMap_append] at q
   rcases List.mem_append.1 q with q | q
   ·exact n8 j q j (List.mem_append_left _ hj') rfl
   ·exact n7 j hj' j q rfl
theorem St.addFile (h:St H p m L) {id:Nat} {sl:AV} {f:Fl} (hne:∀ y∈L.cs,y.f.nm≠f.nm) (hc:C0 H id [sl,.int .i64 f.sure]) (hw:Ow H 5 1 sl (bs f.b)) (hd:∀ j∈FC.ids ⟨id,sl,L.clk,f⟩,j∉foot p L) (hnd:(FC.ids ⟨id,sl,L.clk,f⟩).Nodup)
  (hsure:f.sure≤f.b.length) (hbyte:∀ c∈f.b,c < 256) (hsum:sumB m.fs + f.b.length≤m.room) (hgood:okName f.nm=true) (hmany:m.fs.length < 64) :
  ∃ H',mup .str (.map L.mid) (.str f.nm) (.ptr id 0) H=some H'∧St H' p { m with fs:=m.fs++[f] } { L with cs:=L.cs++[⟨id,sl,L.clk,f⟩],clk:=L.clk + 1 }∧Out [L.mid] H H':=by
 obtain ⟨H',d1,d2,d3⟩:=mup_new h.map (keys_ne hne) (.ptr id 0)
 obtain ⟨c1,c2,c3⟩:=h.outMid d3
 have hmid:∀ j∈FC.ids ⟨id,sl,L.clk,f⟩,j∉[L.mid]:=fun j hj q=>hd j hj (by rw [List.mem_singleton.1 q]; exact St.mem_mid)
 refine ⟨H',d1,⟨c1,by rw [List.map_append]; exact d2,fun y hy => ?_,c2,?_,?_,by rw [List.map_append,← h.fs]; rfl,⟨h.ok.room,by rw [sumB_app,sumB_cons]; exact hsum,fun g hg => ?_,fun g hg => ?_,h.ok.fuse,?_,fun g hg => ?_,by rw [List.length_append]; simp; omega⟩⟩,d3⟩
 ·rcases List.mem_append.1 hy with q | q
  ·exact c3 y q
  ·rw [List.mem_singleton.1 q]
   exact ⟨hc.out d3 (hmid _ (.head _)),hw.out d3 fun j hj=>hmid j (.tail _ hj)⟩
 ·have hn:=h.nd
  unfold foot at hn ⊢
  rw [List.nodup_cons,List.nodup_cons,List.nodup_append] at hn
  rw [List.flatMap_append,List.nodup_cons,List.nodup_cons,List.nodup_append,List.nodup_append]
  have e:List.flatMap FC.ids [(⟨id,sl,L.clk,f⟩:FC)]=FC.ids ⟨id,sl,L.clk,f⟩:=by simp
  rw [e]
  obtain ⟨n1,n2,n3,n4,n5⟩:=hn
  refine ⟨fun q => ?_,fun q => ?_,n3,⟨n4,hnd,fun j hj k hk ek=>hd k hk ?_⟩,fun j hj k hk => ?_⟩
  ·rcases List.mem_cons.1 q with q | q
   ·exact n1 (by rw [q]; exact .head _)
   rcases List.mem_append.1 q with q | q
   ·exact n1 (.tail _ (List.mem_append_left _ q))
   rcases List.mem_append.1 q with q | q
   ·exact n1 (.tail _ (List.mem_append_right _ q))
   ·exact hd _ q St.mem_p
  ·rcases List.mem_append.1 q with q | q
   ·exact n2 (List.mem_append_left _ q)
   rcases List.mem_append.1 q with q | q
   ·exact n2 (List.mem_append_right _ q)
   ·exact hd _ q St.mem_mid
  ·obtain ⟨y,hy,hj⟩:=List.mem_flatMap.1 hj
   rw [← ek]; exact St.mem_file hy hj
  ·rcases List.mem_append.1 hk with q | q
   ·exact n5 j hj k q
   ·exact fun ek=>hd k q (by rw [← ek]; exact St.mem_keep hj)
 ·have hb':=h.born
  rw [List.map_append]
  exact incr_add L.clk (FC.me ⟨id,sl,L.clk,f⟩) rfl _ _ (Nat.zero_le _) hb'
 ·rcases List.mem_append.1 hg with q | q
  ·exact h.ok.sure g q
  ·rw [List.mem_singleton.1 q]; exact hsure
 ·rcases List.mem_append.1 hg with q | q
  ·exact h.ok.byte g q
  ·rw [List.mem_singleton.1 q]; exact hbyte
 ·rw [List.map_append,List.nodup_append]
  refine ⟨h.ok.names,by simp,fun n hn k hk => ?_⟩
  obtain ⟨g,hg,rfl⟩:=List.mem_map.1 hn
  rw [h.fs] at hg
  obtain ⟨y,hy,rfl⟩:=List.mem_map.1 hg
  simp only [List.map_cons,List.map_nil,List.mem_singleton] at hk
  rw [hk]; exact hne y hy
 ·rcases List.mem_append.1 hg with q | q
  ·exact h.ok.good g q
  ·rw [List.mem_singleton.1 q]; exact hgood
end
section
variable {H:Hp} {p:Nat} {m:SM} {L:Lay}
noncomputable def cutM (m:SM) (at':List Nat) (n:Int):Int × SM:=if ofE m at'≠0 then (ofE m at',m) else match look m at' with
 | none=>(0,m)
 | some f=>if n < 0∨(f.b.length:Int) < n then (1,m) else if burnB m=false then (11,burnM m) else (0,{ burnM m with fs:=setF at' ⟨f.nm,f.b.take n.toNat,min f.sure n.toNat⟩ m.fs })
theorem cut_c (h:St H p m L) (at':List Nat) (n:Int):∃ H' L',cK (.func (.func 31) [] []) [.ptr p 0,.str at',.int .i64 n] H=some (.int .i64 (cutM m at' n).1,H')∧St H' p (cutM m at' n).2 L'∧Go' p H L H' L':=by
 have h0:=of_c h at'
 by_cases he:ofE m at'=0
 ·obtain ⟨q1,q2,a,x,b,r1,r2,r3,r4,r5,r6,hx,hf⟩:=h.ofP he
  obtain ⟨hf1,hf2⟩:=h.file x hx
  have hl:=hf1.ld (o:=0) rfl
  have hlen:=hf2.rw.len1
  rw [bs_len] at hlen
  have hbig:x.f.b.length≤16777216:=by
   have:=len_le hf; have:=h.ok.sum; have:=h.ok.room; omega
  by_cases hn:n < 0
  ·have:cutM m at' n=(1,m):=by unfold cutM; rw [if_neg (by simp [he]),r6]; simp only; rw [if_pos (.inl hn)]
   rw [this]
   refine ⟨H,L,c_store_Store_Cut ?_,h,Go'.refl _ _ _⟩
   unfold s_store_Store_Cut
   have d1:decide (n < 0)=true:=decide_eq_true hn
   simp only [h0,he,q1,q2,d1,Bool.false_eq_true,Bool.true_eq_false,or_self,if_false,k_s,k_x,Int.reduceBEq,Int.reduceBNe,Int.reduceLT,Int.reduceLE,Int.reduceGT,Int.reduceGE,Int.reduceNeg]
  ·have d1:decide (n < 0)=false:=decide_eq_false hn
   by_cases hn2:(x.f.b.length:Int) < n
   ·have:cutM m at' n=(1,m):=by unfold cutM; rw [if_neg (by simp [he]),r6]; simp only; rw [if_pos (.inr hn2)]
    rw [this]
    refine ⟨H,L,c_store_Store_Cut ?_,h,Go'.refl _ _ _⟩
    unfold s_store_Store_Cut
    have d2:decide ((x.f.b.length:Int) < n)=true:=decide_eq_true hn2
    simp only [h0,he,q1,q2,d1,d2,r5,hl,hlen,Bool.false_eq_true,Bool.true_eq_false,or_self,if_false,k_s,k_x,Int.reduceBEq,Int.reduceBNe,Int.reduceLT,Int.reduceLE,Int.reduceGT,Int.reduceGE,Int.reduceNeg]
   ·have d2:decide ((x.f.b.length:Int) < n)=false:=decide_eq_false hn2
    obtain ⟨H1,L1,b1,b2,b3,b4⟩:=burn_c h
    have hcm:cutM m at' n=if burnB m=false then (11,burnM m) else (0,{ burnM m with fs:=setF at' ⟨x.f.nm,x.f.b.take n.toNat,min x.f.sure n.toNat⟩ m.fs }):=by
     unfold cutM; rw [if_neg (by simp [he]),r6]; simp only; rw [if_neg (by omega)]
    cases hB:burnB m with
    | false=>
     rw [hcm,if_pos hB]
     refine ⟨H1,L1,c_store_Store_Cut ?_,b2,b3⟩
     unfold s_store_Store_Cut
     simp only [h0,he,q1,q2,d1,d2,r5,hl,hlen,b1,hB,Bool.false_eq_true,Bool.true_eq_false,or_self,if_false,k_s,k_x,Int.reduceBEq,Int.reduceBNe,Int.reduceLT,Int.reduceLE,Int.reduceGT,Int.reduceGE,Int.reduceNeg]
    | true=>
     rw [hcm,if_neg (by simp [hB])]
     obtain ⟨e1,e2,e3,e4,e5,e6⟩:=b4 hB
     rw [e1] at b2 b3
     obtain ⟨N,rfl⟩:=Int.eq_ofNat_of_zero_le (show 0≤n by omega)
     obtain ⟨hg1,hg2⟩:=b2.file x hx
     have hl1:=hg1.ld (o:=0) rfl
     obtain ⟨sl,H2,H3,L3,c1,c2,c3,c3',c4,c5,c6,c7,c8,c9,c10,c11⟩:=b2.cut r1 (by rw [r2]; exact r3) (by rw [r2]; exact r4) (n:=N) (s:=min x.f.sure N) (by omega) (by omega)
     have hmin:(if (N:Int) < (x.f.sure:Int) then (N:Int) else (x.f.sure:Int))=((min x.f.sure N:Nat):Int):=by split <;> omega
     refine ⟨H3,L3,c_store_Store_Cut ?_,?_,b3.trans c7⟩
     ·unfold s_store_Store_Cut
      simp only [h0,he,q1,q2,d1,d2,r5,hl,hlen,b1,hB,hl1,c1,c2,c3,c3',c4,min_i,hmin,c5,Bool.false_eq_true,Bool.true_eq_false,or_self,if_false,k_s,k_x,Int.reduceBEq,Int.reduceBNe,Int.reduceLT,Int.reduceLE,Int.reduceGT,Int.reduceGE,Int.reduceNeg]
     ·rw [e3,r2] at c6
      rw [Int.toNat_natCast,r2]; exact c6
 ·have:cutM m at' n=(ofE m at',m):=by unfold cutM; rw [if_pos he]
  rw [this]
  refine ⟨H,L,c_store_Store_Cut ?_,h,Go'.refl _ _ _⟩
  unfold s_store_Store_Cut
  simp only [h0,ne_of_ofE he,k_s,k_x,Int.reduceBEq,Int.reduceBNe,Int.reduceLT,Int.reduceLE,Int.reduceGT,Int.reduceGE,Int.reduceNeg]
noncomputable def dropM (m:SM) (at':List Nat):Int × SM:=if ofE m at'≠0 then (ofE m at',m) else if burnB m=false then (11,burnM m) else (0,{ burnM m with fs:=delF at' m.fs })
theorem drop_c (h:St H p m L) (at':List Nat):∃ H' L',cK (.func (.func 32) [] []) [.ptr p 0,.str at'] H=some (.int .i64 (dropM m at').1,H')∧St H' p (dropM m at').2 L'∧Go' p H L H' L':=by
 have h0:=of_c h at'
 by_cases he:ofE m at'=0
 ·obtain ⟨q1,q2,a,x,b,r1,r2,r3,r4,r5,r6,hx,hf⟩:=h.ofP he
  obtain ⟨H1,L1,b1,b2,b3,b4⟩:=burn_c h
  cases hB:burnB m with
  | false=>
   have:dropM m at'=(11,burnM m):=by unfold dropM; rw [if_neg (by simp [he]),if_pos hB]
   rw [this]
   refine ⟨H1,L1,c_store_Store_Drop ?_,b2,b3⟩
   unfold s_store_Store_Drop
   simp only [h0,he,q1,q2,b1,hB,Bool.false_eq_true,Bool.true_eq_false,or_self,if_false,k_s,k_x,Int.reduceBEq,Int.reduceBNe,Int.reduceLT,Int.reduceLE,Int.reduceGT,Int.reduceGE,Int.reduceNeg]
  | true=>
   obtain ⟨e1,e2,e3,e4,e5,e6⟩:=b4 hB
   rw [e1] at b2 b3
   have hm1:=b2.ld_map
   obtain ⟨H2,d1,d2,d3,d4,d5,d6,d7⟩:=b2.delFile r1 (by rw [r2]; exact r3) (by rw [r2]; exact r4)
   rw [r2] at d1 d2
   rw [e3] at d2
   have:dropM m at'=(0,{ burnM m with fs:=delF at' m.fs }):=by unfold dropM; rw [if_neg (by simp [he]),if_neg (by simp [hB])]
   rw [this]
   refine ⟨H2,_,c_store_Store_Drop ?_,d2,b3.trans d3⟩
   unfold s_store_Store_Drop
   simp only [h0,he,q1,q2,b1,hB,hm1,d1,Bool.false_eq_true,Bool.true_eq_false,or_self,if_false,k_s,k_x,Int.reduceBEq,Int.reduceBNe,Int.reduceLT,Int.reduceLE,Int.reduceGT,Int.reduceGE,Int.reduceNeg]
 ·have:dropM m at'=(ofE m at',m):=by unfold dropM; rw [if_pos he]
  rw [this]
  refine ⟨H,L,c_store_Store_Drop ?_,h,Go'.refl _ _ _⟩
  unfold s_store_Store_Drop
  simp only [h0,ne_of_ofE he,k_s,k_x,Int.reduceBEq,Int.reduceBNe,Int.reduceLT,Int.reduceLE,Int.reduceGT,Int.reduceGE,Int.reduceNeg]
noncomputable def appM (m:SM) (at':List Nat) (b:List Nat):Int × SM:=if ofE m at'≠0∧ofE m at'≠4 then (ofE m at',m) else
 if (m.room:Int) - sumB m.fs < b.length∨((look m at').isNone=true∧64≤m.fs.length) then (6,m) else if burnB m=false then (11,burnM m) else
 (0,{ burnM m with fs:=match look m at' with | some f=>setF at' ⟨f.nm,f.b++b,f.sure⟩ m.fs | none=>m.fs++[⟨at',b,0⟩] })
theorem app_c (h:St H p m L) (at':List Nat) {y:AV} {b:List Nat} (hy:Rw H 1 y (bs b)) (hb:∀ c∈b,c < 256) (hyd:∀ j∈rid y,j∉foot p L) :
  ∃ H' L',cK (.func (.func 27) [] []) [.ptr p 0,.str at',y] H=some (.int .i64 (appM m at' b).1,H')∧St H' p (appM m at' b).2 L'∧Go' p H L H' L':=by
 have h0:=of_c h at'
 have hfree:=free_c h
 have hylen:=hy.len1
 rw [bs_len] at hylen
 have hroom:=h.ok.room
 have hsum:=h.ok.sum
 have hlenm:=lenm_m h.map
 have hmap:=h.ld_map
 have hcs:(L.cs.map FC.me).length=m.fs.length:=by rw [h.fs,List.length_map,List.length_map]
 rw [hcs] at hlenm
 by_cases he2:ofE m at'≠0∧ofE m at'≠4
 ·have:appM m at' b=(ofE m at',m):=by unfold appM; rw [if_pos he2]
  rw [this]
  refine ⟨H,L,c_store_Store_Append ?_,h,Go'.refl _ _ _⟩
  unfold s_store_Store_Append
  have d1:(ofE m at' != 0)=true:=by simpa using he2.1
  have d2:(ofE m at' != 4)=true:=by simpa using he2.2
  simp only [h0,d1,d2,k_s,k_x,Int.reduceBEq,Int.reduceBNe,Int.reduceLT,Int.reduceLE,Int.reduceGT,Int.reduceGE,Int.reduceNeg]
 · -- the file is there,or is none
  have hcase:(ofE m at'=0∧m.off=false∧okName at'=true∧∃ a x c,L.cs=a++x::c∧x.f.nm=at'∧(∀ y∈a,y.f.nm≠at')∧(∀ y∈c,y.f.nm≠at')∧fp L at' = .ptr x.id 0∧look m at'=some x.f∧x∈L.cs∧x.f∈m.fs)∨
    (ofE m at'=4∧m.off=false∧okName at'=true∧look m at'=none∧fp L at' = .ptr0∧∀ y∈L.cs,y.f.nm≠at'):=by
   rcases ofE_cases m at' with ⟨q,_⟩ | ⟨q,_⟩ | ⟨q,q1,q2,q3⟩ | ⟨q,_⟩
   ·rw [q] at he2; simp at he2
   ·rw [q] at he2; simp at he2
   ·rcases h.lookC at' with ⟨r1,r2,r3⟩ | ⟨a,x,c,r1,r2,r3,r4,r5,r6⟩
    ·exact .inr ⟨q,q1,q2,q3,r1,r3⟩
    ·rw [q3] at r6; cases r6
   ·obtain ⟨q1,q2,r⟩:=h.ofP q
    exact .inl ⟨q,q1,q2,r⟩
  have hE:(ofE m at' != 0)=true→(ofE m at' != 4)=false:=by
   intro q
   rcases hcase with ⟨e,_⟩ | ⟨e,_⟩
   ·rw [e] at q; cases q
   ·rw [e]; rfl
  have hfirst:∀ k:AV→R,B1 (ine (.int .i64 (ofE m at')) (.int .i64 0)) (fun v13=>GO v13 true (fun k14=>k14 (.int .i64 (ofE m at')) H) (fun v15 h16=>GO v13 true (fun k17=>B1 (ine v15 (.int .i64 4)) fun v18=>k17 v18 h16) (fun v19 h20=>B1 (pk v13 v19 (.bool false)) fun v21=>k v21) h16) H)=k (.bool false):=by
   intro k
   cases d:(ofE m at' != 0) with
   | false=>simp only [d,k_s,k_x,Int.reduceBEq,Int.reduceBNe,Int.reduceLT,Int.reduceLE,Int.reduceGT,Int.reduceGE,Int.reduceNeg]
   | true=>simp only [d,hE d,k_s,k_x,Int.reduceBEq,Int.reduceBNe,Int.reduceLT,Int.reduceLE,Int.reduceGT,Int.reduceGE,Int.reduceNeg]
  have hp0:(if m.off=true∨okName at'=false then AV.ptr0 else fp L at')=fp L at':=by
   rcases hcase with ⟨_,q1,q2,_⟩ | ⟨_,q1,q2,_⟩ <;> simp [q1,q2]
  rw [hp0] at h0
  by_cases hbig:(m.room:Int) - sumB m.fs < b.length
  ·have:appM m at' b=(6,m):=by unfold appM; rw [if_neg he2,if_pos (.inl hbig)]
   rw [this]
   refine ⟨H,L,c_store_Store_Append ?_,h,Go'.refl _ _ _⟩
   unfold s_store_Store_Append
   have d3:decide ((m.room:Int) - sumB m.fs < b.length)=true:=decide_eq_true hbig
   cases d:(ofE m at' != 0) with
   | false=>simp only [h0,d,hylen,hfree,d3,k_s,k_x,Int.reduceBEq,Int.reduceBNe,Int.reduceLT,Int.reduceLE,Int.reduceGT,Int.reduceGE,Int.reduceNeg]
   | true=>simp only [h0,d,hE d,hylen,hfree,d3,k_s,k_x,Int.reduceBEq,Int.reduceBNe,Int.reduceLT,Int.reduceLE,Int.reduceGT,Int.reduceGE,Int.reduceNeg]
  ·have d3:decide ((m.room:Int) - sumB m.fs < b.length)=false:=decide_eq_false hbig
   obtain ⟨H1,L1,b1,b2,b3,b4⟩:=burn_c h
   rcases hcase with ⟨e,q1,q2,a,x,c,r1,r2,r3,r4,r5,r6,hx,hf⟩ | ⟨e,q1,q2,r6,r5,r3⟩
   ·rw [r5,e] at h0
    have hcm:appM m at' b=if burnB m=false then (11,burnM m) else (0,{ burnM m with fs:=setF at' ⟨x.f.nm,x.f.b++b,x.f.sure⟩ m.fs }):=by
     unfold appM; rw [if_neg he2,if_neg (by simp [r6]; omega),r6]
    cases hB:burnB m with
    | false=>
     rw [hcm,if_pos hB]
     refine ⟨H1,L1,c_store_Store_Append ?_,b2,b3⟩
     unfold s_store_Store_Append
     simp only [h0,hylen,hfree,d3,b1,hB,k_s,k_x,Int.reduceBEq,Int.reduceBNe,Int.reduceLT,Int.reduceLE,Int.reduceGT,Int.reduceGE,Int.reduceNeg]
    | true=>
     rw [hcm,if_neg (by simp [hB])]
     obtain ⟨e1,e2,e3,e4,e5,e6⟩:=b4 hB
     rw [e1] at b2 b3
     obtain ⟨hg1,hg2⟩:=b2.file x hx
     have hl1:=hg1.ld (o:=0) rfl
     have hy1:=hy.out e2 fun j hj q=>hyd j hj (by rw [List.mem_singleton.1 q]; exact St.mem_p)
     have hlen2:(bs x.f.b).length + (bs b).length≤16777216:=by
      rw [bs_len,bs_len]
      have:=len_le hf; omega
     obtain ⟨s',H2,a1,a2,a3,a4⟩:=append_ok (z:=[.int .u8 0]) hg2 hy1 (bs_one b) (by omega) hlen2
     rw [← bs_app] at a2
     obtain ⟨H3,p1,p2,p3,p4⟩:=b2.put0 hx a3 a2 a4
     have hld2:ld (.ptr x.id 0) H1=some x.sl:=hl1
     have hset:=b2.setFile (f:=⟨x.f.nm,x.f.b++b,x.f.sure⟩) r1 (by rw [r2]; exact r3) (by rw [r2]; exact r4) rfl p3 (fun j hj=>hj) p2 p4 a4 (rid_nd _) (by have:=h.ok.sure x.f hf; simp; omega) (fun k hk=>(List.mem_append.1 hk).elim (h.ok.byte x.f hf k) (hb k)) (by
      have:=b2.sum_set r1 (by rw [r2]; exact r3) (by rw [r2]; exact r4) ⟨x.f.nm,x.f.b++b,x.f.sure⟩
      rw [e3] at this ⊢
      rw [e4]
      simp only [List.length_append] at this; omega)
     obtain ⟨s1,s2⟩:=hset
     rw [e3,r2] at s1
     refine ⟨H3,_,c_store_Store_Append ?_,by rw [r2]; exact s1,b3.trans s2⟩
     unfold s_store_Store_Append
     simp only [h0,hylen,hfree,d3,b1,hB,hl1,a1,p1,k_s,k_x,Int.reduceBEq,Int.reduceBNe,Int.reduceLT,Int.reduceLE,Int.reduceGT,Int.reduceGE,Int.reduceNeg]
   ·rw [r5,e] at h0
    by_cases hmany:64≤m.fs.length
    ·have:appM m at' b=(6,m):=by unfold appM; rw [if_neg he2,if_pos (.inr ⟨by rw [r6]; rfl,hmany⟩)]
     rw [this]
     refine ⟨H,L,c_store_Store_Append ?_,h,Go'.refl _ _ _⟩
     unfold s_store_Store_Append
     have d4:decide ((64:Int)≤(m.fs.length:Int))=true:=decide_eq_true (by omega)
     simp only [h0,hylen,hfree,d3,hmap,hlenm,d4,k_s,k_x,Int.reduceBEq,Int.reduceBNe,Int.reduceLT,Int.reduceLE,Int.reduceGT,Int.reduceGE,Int.reduceNeg]
    ·have d4:decide ((64:Int)≤(m.fs.length:Int))=false:=decide_eq_false (by omega)
     have hcm:appM m at' b=if burnB m=false then (11,burnM m) else (0,{ burnM m with fs:=m.fs++[⟨at',b,0⟩] }):=by
      unfold appM; rw [if_neg he2,if_neg (by rw [r6]; simp; omega),r6]
     cases hB:burnB m with
     | false=>
      rw [hcm,if_pos hB]
      refine ⟨H1,L1,c_store_Store_Append ?_,b2,b3⟩
      unfold s_store_Store_Append
      simp only [h0,hylen,hfree,d3,hmap,hlenm,d4,b1,hB,k_s,k_x,Int.reduceBEq,Int.reduceBNe,Int.reduceLT,Int.reduceLE,Int.reduceGT,Int.reduceGE,Int.reduceNeg]
     | true=>
      rw [hcm,if_neg (by simp [hB])]
      obtain ⟨e1,e2,e3,e4,e5,e6⟩:=b4 hB
      rw [e1] at b2 b3
      have hfl:fl [.slice0,(.int .i64 0)] []=some [AV.slice0,.int .i64 ((0:Nat):Int)]:=rfl
      obtain ⟨H2,n1,n2,n3,n4⟩:=bx_ok H1 81 (.agg [AV.slice0,.int .i64 ((0:Nat):Int)]) [AV.slice0,.int .i64 ((0:Nat):Int)] rfl (by simp)
      have b5:=b2.out n3 fun j _ q=>by cases q
      have hlt:=b2.lt
      have hmap2:=b5.ld_map
      have hne:∀ y∈L.cs,y.f.nm≠(⟨at',[],0⟩:Fl).nm:=r3
      obtain ⟨H3,f1,f2,f3⟩:=b5.addFile (id:=H1.next) (sl := .slice0) (f:=⟨at',[],0⟩) hne ⟨_,n2⟩ .nil (fun j hj=>by
        simp only [FC.ids,rid,List.mem_singleton] at hj
        intro q
        have:=hlt j q; omega) (by simp [FC.ids,rid]) (by simp) (fun c hc=>by cases hc) (by simp only [List.length_nil]; rw [e3,e4]; omega) q2 (by rw [e3]; omega)
      have hx':(⟨H1.next,.slice0,L.clk,⟨at',[],0⟩⟩:FC)∈L.cs++[⟨H1.next,.slice0,L.clk,⟨at',[],0⟩⟩]:=by simp
      obtain ⟨hg1,hg2⟩:=f2.file _ hx'
      have hl1:=hg1.ld (o:=0) rfl
      have hnextlt:∀ j∈rid y,j < H1.next:=fun j hj=>Nat.lt_of_lt_of_le (hy.lt j hj) e2.1
      have hy1:Rw H3 1 y (bs b):=((hy.out e2 fun j hj q=>hyd j hj (by rw [List.mem_singleton.1 q]; exact St.mem_p)).out n3 fun j _ q=>by cases q).out f3 fun j hj q=>hyd j hj (by rw [List.mem_singleton.1 q]; exact St.mem_mid)
      have hlen2:([]:List AV).length + (bs b).length≤16777216:=by
       rw [bs_len]; simp only [List.length_nil]; omega
      obtain ⟨s',H4,a1,a2,a3,a4⟩:=append_ok (z:=[.int .u8 0]) (l:=[]) hg2 hy1 (bs_one b) (by omega) hlen2
      rw [List.nil_append] at a2
      obtain ⟨H5,p1,p2,p3,p4⟩:=f2.put0 hx' a3 a2 a4
      have hsplit:L.cs++[(⟨H1.next,.slice0,L.clk,⟨at',[],0⟩⟩:FC)]=L.cs++(⟨H1.next,.slice0,L.clk,⟨at',[],0⟩⟩:FC)::[]:=rfl
      have hset:=f2.setFile (f:=⟨at',b,0⟩) hsplit r3 (fun y hy=>by cases hy) rfl p3 (fun j hj=>hj) p2 p4 a4 (rid_nd _) (Nat.zero_le _) hb (by
       have:=f2.sum_set hsplit r3 (fun y hy=>by cases hy) ⟨at',b,0⟩
       simp only [sumB_app,sumB_cons,List.length_nil] at this ⊢
       rw [e3] at this ⊢
       rw [e4]
       have:sumB ([]:List Fl)=0:=rfl
       omega)
      obtain ⟨s1,s2⟩:=hset
      have hfs:setF at' ⟨at',b,0⟩ ((burnM m).fs++[(⟨at',[],0⟩:Fl)])=m.fs++[⟨at',b,0⟩]:=by
       rw [e3]
       have:m.fs++[(⟨at',[],0⟩:Fl)]=(L.cs++(⟨H1.next,.slice0,L.clk,⟨at',[],0⟩⟩:FC)::[]).map (·.f):=by rw [h.fs,List.map_append]; rfl
       rw [this,setF_split (at':=at') (x:=⟨H1.next,.slice0,L.clk,⟨at',[],0⟩⟩) (b:=[]) rfl r3 (fun y hy=>by cases hy),h.fs]; rfl
      refine ⟨H5,_,c_store_Store_Append ?_,by
       have:=s1
       simp only at this
       rw [hfs] at this
       exact this,?_⟩
      ·unfold s_store_Store_Append
       simp only [h0,hylen,hfree,d3,hmap,hlenm,d4,b1,hB,hfl,n1,hmap2,f1,hl1,a1,p1,k_s,k_x,Int.reduceBEq,Int.reduceBNe,Int.reduceLT,Int.reduceLE,Int.reduceGT,Int.reduceGE,Int.reduceNeg]
      ·have g1:Go' p H1 L H3 { L with cs:=L.cs++[⟨H1.next,.slice0,L.clk,⟨at',[],0⟩⟩],clk:=L.clk + 1 }:=by
        refine ⟨(n3.mono fun j hj=>by cases hj).trans (f3.mono fun j hj=>by rw [List.mem_singleton.1 hj]; exact St.mem_mid),fun j hj => ?_⟩
        unfold foot at hj
        rw [List.flatMap_append] at hj
        rcases List.mem_cons.1 hj with rfl | hj
        ·exact .inl St.mem_p
        rcases List.mem_cons.1 hj with rfl | hj
        ·exact .inl St.mem_mid
        rcases List.mem_append.1 hj with hj | hj
        ·exact .inl (St.mem_keep hj)
        rcases List.mem_append.1 hj with hj | hj
        ·obtain ⟨z,hz,hj⟩:=List.mem_flatMap.1 hj
         exact .inl (St.mem_file hz hj)
        ·simp only [List.flatMap_cons,List.flatMap_nil,List.append_nil,FC.ids,rid,List.mem_singleton] at hj
         exact .inr (by omega)
       exact (b3.trans g1).trans s2
end
section
variable {H:Hp} {p:Nat} {m:SM} {L:Lay}
end
theorem new_c (H:Hp) (room:Int):(room < 1∨16777216 < room→cK (.func (.func 23) [] []) [.int .i64 room] H=some (.tuple [.ptr0,.int .i64 1],H))∧
  ∀ r:Nat,room=r→1≤r→r≤16777216→∃ H' p L,cK (.func (.func 23) [] []) [.int .i64 room] H=some (.tuple [.ptr p 0,.int .i64 0],H')∧St H' p ⟨r,false,0,[],[]⟩ L∧Out [] H H'∧∀ j∈foot p L,H.next≤j:=by
 constructor
 ·intro h
  refine c_store_New ?_
  unfold s_store_New
  by_cases h1:room < 1
  ·simp only [decide_eq_true h1,k_s,k_x,Int.reduceBEq,Int.reduceBNe,Int.reduceLT,Int.reduceLE,Int.reduceGT,Int.reduceGE,Int.reduceNeg]
  ·simp only [decide_eq_false h1,decide_eq_true (show (16777216:Int) < room by omega),k_s,k_x,Int.reduceBEq,Int.reduceBNe,Int.reduceLT,Int.reduceLE,Int.reduceGT,Int.reduceGE,Int.reduceNeg]
 ·intro r hr h1 h2
  subst hr
  obtain ⟨H1,a1,a2,a3,a4⟩:=mk0_ok H
  have hfl:fl [(.int .i64 0),.map0,(.bool false),(.int .i64 0),.slice0] [(0,1,AV.int .i64 (r:Int)),(1,1,(.map H.next))]=some [.int .i64 (r:Int),.map H.next,.bool false,.int .i64 ((0:Nat):Int),.slice0]:=rfl
  obtain ⟨H2,b1,b2,b3,b4⟩:=bx_ok H1 76 (.agg [.int .i64 (r:Int),.map H.next,.bool false,.int .i64 ((0:Nat):Int),.slice0]) _ rfl (by simp)
  have a2':=a2.out b3 fun q=>by cases q
  refine ⟨H2,H1.next,⟨H.next,0,.slice0,[]⟩,c_store_New ?_,⟨⟨_,b2⟩,a2',(fun x hx=>by cases hx),.nil,?_,rfl,rfl,⟨h2,Nat.zero_le _,(fun f hf=>by cases hf),(fun f hf=>by cases hf),by simp,List.nodup_nil,(fun f hf=>by cases hf),by simp⟩⟩,a3.trans b3,fun j hj => ?_⟩
  ·unfold s_store_New
   simp only [decide_eq_false (show ¬ (r:Int) < 1 by omega),decide_eq_false (show ¬ (16777216:Int) < (r:Int) by omega),a1,hfl,b1,k_s,k_x,Int.reduceBEq,Int.reduceBNe,Int.reduceLT,Int.reduceLE,Int.reduceGT,Int.reduceGE,Int.reduceNeg]
  ·simp only [foot,rid,List.flatMap_nil,List.append_nil,List.nodup_cons,List.mem_singleton,List.not_mem_nil,not_false_eq_true,List.nodup_nil,and_true]
   omega
  ·simp only [foot,rid,List.flatMap_nil,List.append_nil,List.mem_cons,List.not_mem_nil,or_false] at hj
   omega
end Go.Proofs.YtbdlbhlhnpblpaaGreatDoor.StC
namespace Go.Proofs.YtbdlbhlhnpblpaaGreatDoor.SgK
open Go Am Am.K WlEnv WlK
set_option linter.unusedVariables false
set_option linter.unusedSimpArgs false
theorem rem_n {a b:Nat} (hb:0 < b):irem (.int .i64 (a:Int)) (.int .i64 (b:Int))=some (.int .i64 ((a % b:Nat):Int)):=by
 rw [irem_i _ _ _ (by omega)]; rfl
theorem add_n {a b:Nat} (h:a + b≤9223372036854775807):iadd (.int .i64 (a:Int)) (.int .i64 (b:Int))=some (.int .i64 ((a + b:Nat):Int)):=by
 rw [iadd_i,wrap_i64 (by omega) (by omega)]; rfl
theorem w64 {a:Nat} (h:a≤9223372036854775807):IntKind.wrap .i64 (a:Int)=a:=wrap_i64 (by omega) (by omega)
def pr (s:Nat):Nat × Nat:=(s % 65536,s / 65536)
def sm (p:Nat × Nat):Nat:=p.2 * 65536 + p.1
def ad (p:Nat × Nat) (v:Nat):Nat × Nat:=((p.1 + v) % 65521,(p.2 + (p.1 + v) % 65521) % 65521)
def gd (s:Nat):Bool:=decide (s % 65536 < 65521) && decide (s / 65536 < 65521)
def onS (s:Nat) (l:List Nat):Nat:=sm (l.foldl ad (pr s))
theorem fold_lt:∀ (l:List Nat) (p:Nat × Nat),p.1 < 65521→p.2 < 65521→(l.foldl ad p).1 < 65521∧(l.foldl ad p).2 < 65521
 | [],p,h,k=>⟨h,k⟩
 | v::l,p,h,k=>fold_lt l (ad p v) (Nat.mod_lt _ (by decide)) (Nat.mod_lt _ (by decide))
theorem gd_lt {s:Nat} (h:gd s=true):(pr s).1 < 65521∧(pr s).2 < 65521:=by
 unfold gd at h
 rw [Bool.and_eq_true] at h
 exact ⟨of_decide_eq_true h.1,of_decide_eq_true h.2⟩
theorem onS_lt {s:Nat} (h:gd s=true) (l:List Nat):onS s l < 4294967296∧gd (onS s l)=true:=by
 obtain ⟨a,b⟩:=fold_lt l (pr s) (gd_lt h).1 (gd_lt h).2
 unfold onS sm gd
 refine ⟨by omega,?_⟩
 simp
 omega
theorem onS_app {s:Nat} (h:gd s=true) (a b:List Nat):onS (onS s a) b=onS s (a++b):=by
 obtain ⟨x,y⟩:=fold_lt a (pr s) (gd_lt h).1 (gd_lt h).2
 have e:pr (onS s a)=a.foldl ad (pr s):=by
  unfold onS sm pr
  refine Prod.ext ?_ ?_ <;> simp only <;> unfold pr at x y <;> omega
 unfold onS
 rw [List.foldl_append]
 unfold onS at e
 rw [e]
theorem parts_c {H:Hp} (s:Nat) (h:s < 4294967296):cK (.func (.func 57) [] []) [.int .u32 s] H=some (.tuple [.int .i64 ((pr s).1:Nat),.int .i64 ((pr s).2:Nat)],H):=by
 refine c_sum_parts ?_
 unfold s_sum_parts
 have e1:iand (.int .u32 (s:Int)) (.int .u32 65535)=some (.int .u32 ((s % 65536:Nat):Int)):=mask_n (m:=16) h (by decide) (wrap_u rfl (Nat.lt_of_lt_of_le (Nat.mod_lt _ (by decide)) (by decide)))
 have e2:ishr (.int .u32 (s:Int)) (.int .u64 16)=some (.int .u32 ((s / 65536:Nat):Int)):=ishr_n (b:=16)
 have w1:=w64 (a:=s % 65536) (by omega)
 have w2:=w64 (a:=s / 65536) (by omega)
 simp only [e1,e2,w1,w2,pr,k_s,k_x,Int.reduceBEq,Int.reduceBNe,Int.reduceLT,Int.reduceLE,Int.reduceGT,Int.reduceGE,Int.reduceNeg]
theorem made_c {H:Hp} (p:Nat × Nat) (h1:p.1 < 65521) (h2:p.2 < 65521):cK (.func (.func 58) [] []) [.int .i64 (p.1:Nat),.int .i64 (p.2:Nat)] H=some (.int .u32 ((sm p:Nat):Int),H):=by
 obtain ⟨a,c⟩:=p
 simp only at h1 h2
 refine c_sum_made ?_
 unfold s_sum_made
 have r:∀ x:Nat,x < 65521→irem (.int .i64 (x:Int)) (.int .i64 65521)=some (.int .i64 (x:Int)):=fun x hx=>by
  have:=rem_n (a:=x) (b:=65521) (by decide)
  rw [Nat.mod_eq_of_lt hx] at this
  exact this
 have d:∀ x:Nat,x < 65521→iadd (.int .i64 (x:Int)) (.int .i64 65521)=some (.int .i64 ((x + 65521:Nat):Int)):=fun x hx=>add_n (b:=65521) (by omega)
 have r2:∀ x:Nat,x < 65521→irem (.int .i64 ((x + 65521:Nat):Int)) (.int .i64 65521)=some (.int .i64 (x:Int)):=fun x hx=>by
  have:=rem_n (a:=x + 65521) (b:=65521) (by decide)
  rw [Nat.add_mod_right,Nat.mod_eq_of_lt hx] at this
  exact this
 have w:∀ x:Nat,x < 65521→IntKind.wrap .u32 (x:Int)=x:=fun x hx=>wrap_u rfl (Nat.lt_trans hx (by decide))
 have e4:ishl (.int .u32 (c:Int)) (.int .u64 16)=some (.int .u32 ((c * 65536:Nat):Int)):=by
  have:=ishl_n (k := .u32) (j := .u64) (a:=c) (b:=16)
  rw [wrap_u rfl (show c * 2 ^ min 16 IntKind.u32.bits < 2 ^ IntKind.u32.bits by show c * 65536 < 4294967296; omega)] at this
  exact this
 have e9:ior (.int .u32 ((c * 65536:Nat):Int)) (.int .u32 (a:Int))=some (.int .u32 ((c * 65536 + a:Nat):Int)):=by
  have ho:c * 65536 ||| a=c * 65536 + a:=by
   rw [Nat.or_comm]
   exact or_add (i:=16) (Nat.lt_trans h1 (by decide))
  have:=ior_n (k := .u32) (a:=c * 65536) (b:=a) (by show c * 65536 < 4294967296; omega) (by show a < 4294967296; omega) (by rw [ho]; exact wrap_u rfl (by show c * 65536 + a < 4294967296; omega))
  rw [ho] at this
  exact this
 simp only [r a h1,r c h2,d a h1,d c h2,r2 a h1,r2 c h2,w a h1,w c h2,e4,e9,sm,k_s,k_x,Int.reduceBEq,Int.reduceBNe,Int.reduceLT,Int.reduceLE,Int.reduceGT,Int.reduceGE,Int.reduceNeg]
theorem good_c {H:Hp} (s:Nat) (h:s < 4294967296):cK (.func (.func 56) [] []) [.int .u32 s] H=some (.bool (gd s),H):=by
 refine c_sum_Good ?_
 unfold s_sum_Good
 have e:=parts_c (H:=H) s h
 have d1:decide (((s % 65536:Nat):Int) < 65521)=decide (s % 65536 < 65521):=decide_eq_decide.2 (by omega)
 have d2:decide (((s / 65536:Nat):Int) < 65521)=decide (s / 65536 < 65521):=decide_eq_decide.2 (by omega)
 unfold pr at e
 unfold gd
 simp only at e
 generalize decide (s % 65536 < 65521)=x at *
 generalize decide (s / 65536 < 65521)=y at *
 cases x <;> simp only [e,d1,d2,Bool.true_and,Bool.false_and,k_s,k_x,Int.reduceBEq,Int.reduceBNe,Int.reduceLT,Int.reduceLE,Int.reduceGT,Int.reduceGE,Int.reduceNeg]
theorem on_loop {k:K.Fn 2} {H:Hp} {x:AV} {l:List Nat} (hx:Rw H 1 x (bs l)) (hb:∀ b∈l,b < 256) (hl:l.length≤4294967296):∀ (r:List Nat) (i:Nat) (p:Nat × Nat),l.drop i=r→p.1 < 65521→p.2 < 65521→
  l_sum_On JN GO cK k (.int .i64 (p.1:Nat)) (.int .i64 (p.2:Nat)) x (.int .i64 (l.length:Nat)) (.int .i64 (i:Nat)) H=k (.int .i64 ((r.foldl ad p).1:Nat)) (.int .i64 ((r.foldl ad p).2:Nat)) H
 | [],i,p,hr,h1,h2=>by
  rw [ql_sum_On]
  have:l.length≤i:=by simpa using hr
  have d:decide (((i:Nat):Int) < ((l.length:Nat):Int))=false:=decide_eq_false (by omega)
  simp only [d,List.foldl_nil,k_s,k_x,Int.reduceBEq,Int.reduceBNe,Int.reduceLT,Int.reduceLE,Int.reduceGT,Int.reduceGE,Int.reduceNeg]
 | v::r,i,p,hr,h1,h2=>by
  have hi:i < l.length:=by
   rcases Nat.lt_or_ge i l.length with h | h
   ·exact h
   ·rw [List.drop_eq_nil_of_le h] at hr; cases hr
  have hv:l[i]? = some v:=by
   have:=congrArg (fun z=>z[0]?) hr
   simpa using this
  have hr':l.drop (i + 1)=r:=by
   rw [← List.drop_drop,hr]; rfl
  have hv':(bs l)[i]? = some (.int .u8 (v:Int)):=by simp [bs,hv]
  have hv2:=hb v (List.mem_of_getElem? hv)
  obtain ⟨q,q1,q2⟩:=hx.ia1 hv' .i64
  have d:decide (((i:Nat):Int) < ((l.length:Nat):Int))=true:=decide_eq_true (by omega)
  have w1:=w64 (a:=v) (by omega)
  have a1:=add_n (a:=p.1) (b:=v) (by omega)
  have m1:=rem_n (a:=p.1 + v) (b:=65521) (by decide)
  have hm:=Nat.mod_lt (p.1 + v) (show 0 < 65521 by decide)
  have a2:=add_n (a:=p.2) (b:=(p.1 + v) % 65521) (by omega)
  have m2:=rem_n (a:=p.2 + (p.1 + v) % 65521) (b:=65521) (by decide)
  have a3:=add_n (a:=i) (b:=1) (by omega)
  have ih:=on_loop (k:=k) hx hb hl r (i + 1) (ad p v) hr' (Nat.mod_lt _ (by decide)) (Nat.mod_lt _ (by decide))
  rw [ql_sum_On]
  rw [show (((65521:Nat):Int))=65521 from rfl] at m1 m2
  rw [show (((1:Nat):Int))=1 from rfl] at a3
  simp only [iadd_i] at a1 a2 a3
  simp only [d,q1,q2,w1,a1,m1,a2,m2,a3,k_s,k_x,Int.reduceBEq,Int.reduceBNe,Int.reduceLT,Int.reduceLE,Int.reduceGT,Int.reduceGE,Int.reduceNeg]
  exact ih
theorem on_c {H:Hp} {x:AV} {l:List Nat} (hx:Rw H 1 x (bs l)) (hb:∀ b∈l,b < 256) (hl:l.length≤4294967296) {s:Nat} (hs:s < 4294967296) (hg:gd s=true) :
  cK (.func (.func 40) [] []) [.int .u32 s,x] H=some (.tuple [.int .u32 ((onS s l:Nat):Int),.bool true],H):=by
 refine c_sum_On ?_
 unfold s_sum_On
 have e1:=good_c (H:=H) s hs
 rw [hg] at e1
 have e2:=parts_c (H:=H) s hs
 have hn:=hx.len1
 rw [bs_len] at hn
 have hp:=gd_lt hg
 have hf:=fold_lt l (pr s) hp.1 hp.2
 have e3:=made_c (H:=H) (l.foldl ad (pr s)) hf.1 hf.2
 have lp:=fun (k:K.Fn 2)=>on_loop (k:=k) hx hb hl l 0 (pr s) rfl hp.1 hp.2
 rw [show (((0:Nat):Int))=0 from rfl] at lp
 simp only [e1,e2,hn,lp,e3,onS,k_s,k_x,Int.reduceBEq,Int.reduceBNe,Int.reduceLT,Int.reduceLE,Int.reduceGT,Int.reduceGE,Int.reduceNeg]
theorem of_c {H:Hp} {x:AV} {l:List Nat} (hx:Rw H 1 x (bs l)) (hb:∀ b∈l,b < 256) (hl:l.length≤4294967296) :
  cK (.func (.func 41) [] []) [x] H=some (.int .u32 ((onS 1 l:Nat):Int),H):=by
 refine c_sum_Of ?_
 unfold s_sum_Of
 have e1:=on_c hx hb hl (s:=1) (by decide) (by decide)
 rw [show (((1:Nat):Int))=1 from rfl] at e1
 simp only [e1,k_s,k_x,Int.reduceBEq,Int.reduceBNe,Int.reduceLT,Int.reduceLE,Int.reduceGT,Int.reduceGE,Int.reduceNeg]
theorem off_c {H:Hp} (s:Nat) (h:s < 18446744073709551616):cK (.func (.func 68) [] []) [.int .u64 s] H=some (.int .i64 ((s % 17592186044416:Nat):Int),H):=by
 refine c__stamp_Stamp_Off ?_
 unfold s__stamp_Stamp_Off
 have e1:iand (.int .u64 (s:Int)) (.int .u64 17592186044415)=some (.int .u64 ((s % 17592186044416:Nat):Int)):=mask_n (m:=44) h (by decide) (wrap_u rfl (Nat.lt_of_lt_of_le (Nat.mod_lt _ (by decide)) (by decide)))
 have w1:=w64 (a:=s % 17592186044416) (by omega)
 simp only [e1,w1,k_s,k_x,Int.reduceBEq,Int.reduceBNe,Int.reduceLT,Int.reduceLE,Int.reduceGT,Int.reduceGE,Int.reduceNeg]
theorem epoch_c {H:Hp} (s:Nat) (h:s < 18446744073709551616):cK (.func (.func 17) [] []) [.int .u64 s] H=some (.int .i64 ((s / 17592186044416:Nat):Int),H):=by
 refine c__stamp_Stamp_Epoch ?_
 unfold s__stamp_Stamp_Epoch
 have e1:ishr (.int .u64 (s:Int)) (.int .u64 44)=some (.int .u64 ((s / 17592186044416:Nat):Int)):=ishr_n (b:=44)
 have w1:=w64 (a:=s / 17592186044416) (by omega)
 simp only [e1,w1,k_s,k_x,Int.reduceBEq,Int.reduceBNe,Int.reduceLT,Int.reduceLE,Int.reduceGT,Int.reduceGE,Int.reduceNeg]
theorem bts_wrap (n:Nat) (h:n < 18446744073709551616):bts .i64 (IntKind.wrap .i64 (n:Int))=n:=by
 unfold bts IntKind.wrap
 simp [IntKind.bits,IntKind.signed]
 omega
theorem wrap_uw (n:Nat) (h:n < 18446744073709551616):IntKind.wrap .u64 (IntKind.wrap .i64 (n:Int))=n:=by
 unfold IntKind.wrap
 simp [IntKind.bits,IntKind.signed]
 omega
theorem pack_c {H:Hp} (e o:Nat) (he:e≤1048575) (ho:o≤17592186044415):cK (.func (.func 24) [] []) [.int .i64 e,.int .i64 o] H=some (.tuple [.int .u64 ((e * 17592186044416 + o:Nat):Int),.bool true],H):=by
 refine c_stamp_Pack ?_
 unfold s_stamp_Pack
 have d1:decide (((e:Nat):Int) < 0)=false:=decide_eq_false (by omega)
 have d2:decide (1048575 < ((e:Nat):Int))=false:=decide_eq_false (by omega)
 have d3:decide (((o:Nat):Int) < 0)=false:=decide_eq_false (by omega)
 have d4:decide (17592186044415 < ((o:Nat):Int))=false:=decide_eq_false (by omega)
 have hh:e * 17592186044416 ||| o=e * 17592186044416 + o:=by
  rw [Nat.or_comm]
  exact or_add (i:=44) (Nat.lt_of_le_of_lt ho (by decide))
 have e1:ishl (.int .i64 (e:Int)) (.int .u64 44)=some (.int .i64 (IntKind.wrap .i64 ((e * 17592186044416:Nat):Int))):=ishl_n (k := .i64) (j := .u64) (a:=e) (b:=44)
 have e2:ior (.int .i64 (IntKind.wrap .i64 ((e * 17592186044416:Nat):Int))) (.int .i64 (o:Int))=some (.int .i64 (IntKind.wrap .i64 ((e * 17592186044416 + o:Nat):Int))):=by
  rw [← hh]
  have q:=bts_nat (k := .i64) (n:=o) (by show o < 18446744073709551616; omega)
  unfold ior ii
  simp only [if_true,bts_wrap (e * 17592186044416) (by omega),q]
 have w1:=wrap_uw (e * 17592186044416 + o) (by omega)
 simp only [d1,d2,d3,d4,e1,e2,w1,k_s,k_x,Int.reduceBEq,Int.reduceBNe,Int.reduceLT,Int.reduceLE,Int.reduceGT,Int.reduceGE,Int.reduceNeg]
def le:Nat→Nat→List Nat
 | 0,_=>[]
 | n + 1,v=>v % 256::le n (v / 256)
def ud:List Nat→Nat
 | []=>0
 | v::r=>v + 256 * ud r
theorem le_len:∀ n v,(le n v).length=n
 | 0,v=>rfl
 | n + 1,v=>by simp [le,le_len n]
theorem le_byte:∀ n v,∀ b∈le n v,b < 256
 | 0,v,b,h=>by cases h
 | n + 1,v,b,h=>by
  rcases List.mem_cons.1 h with rfl | h
  ·exact Nat.mod_lt _ (by decide)
  ·exact le_byte n _ b h
theorem ud_le:∀ n v,ud (le n v)=v % 256 ^ n
 | 0,v=>by simp [le,ud,Nat.mod_one]
 | n + 1,v=>by
  rw [le,ud,ud_le n,Nat.pow_succ,Nat.mul_comm (256 ^ n) 256,Nat.mod_mul]
theorem ud_lt:∀ l:List Nat,(∀ b∈l,b < 256)→ud l < 256 ^ l.length
 | [],_=>by simp [ud]
 | v::r,h=>by
  have h1:=ud_lt r fun b hb=>h b (.tail _ hb)
  have h2:=h v (.head _)
  rw [ud,List.length_cons,Nat.pow_succ]
  omega
theorem fl1 (v:AV) (hv:cellsV v=some [v]):fl [.int .u8 0] [(0,1,v)]=some [v]:=by
 simp [fl,hv]
theorem rep_z:∀ n,rep n [.int .u8 0]=List.replicate n (AV.int .u8 0)
 | 0=>rfl
 | n + 1=>by
  have ih:=rep_z n
  unfold rep at ih ⊢
  rw [List.replicate_succ,List.flatten_cons,ih,List.replicate_succ]
  rfl
theorem apn_z (n:Nat) (H:Hp) (hn:((n:Nat):Int) < 16777216):apn 1 [.int .u8 0] true (.int .i64 (n:Nat)) H=some (n,List.replicate n (AV.int .u8 0)):=by
 have hc:(0:Int)≤(n:Nat)∧((n:Nat):Int) < 16777216:=⟨Int.natCast_nonneg n,hn⟩
 simp only [apn]
 rw [if_pos hc,Int.toNat_natCast,rep_z]
theorem app_eq {es n:Nat} {z:List AV} {zeros:Bool} {x:AV} {H:Hp} {new:List AV} (el:Nat) (s:AV) (h:apn es z zeros x H=some (n,new)):app' el es z zeros s x H=ap2 el es n new s H:=by
 unfold app'
 rw [h]
theorem appz_ok {H:Hp} {el n:Nat} {s:AV} {l:List AV} (h:Ow H el 1 s l) (hlen:l.length + n≤16777215) :
  ∃ s' H',app' el 1 [.int .u8 0] true s (.int .i64 (n:Nat)) H=some (s',H')∧Ow H' el 1 s' (l++List.replicate n (.int .u8 0))∧Out (rid s) H H'∧(∀ j∈rid s',j∈rid s∨H.next≤j):=by
 have hl1:(List.replicate n (AV.int .u8 0)).length=n * 1:=by rw [List.length_replicate,Nat.mul_one]
 have hl2:l.length + (List.replicate n (AV.int .u8 0)).length≤16777216:=by rw [List.length_replicate]; omega
 have ho:∀ v∈List.replicate n (AV.int .u8 0),oneC v=true:=by
  intro v hv
  rw [List.eq_of_mem_replicate hv]
  rfl
 obtain ⟨s',H',h1,h2⟩:=ap2_ok (n:=n) h hl1 ho (by omega) hl2
 exact ⟨s',H',(app_eq el s (apn_z n H (by omega))).trans h1,h2⟩
theorem number_loop {v n:Nat} (hv:v < 18446744073709551616) (hn:n≤8) {k:K.Fn 1}:∀ (r i:Nat) (s:AV) (l:List Nat) (H:Hp),i + r=n→Ow H 5 1 s (bs l)→(∀ j∈rid s,j < H.next)→l.length + r≤1000000→
  ∃ s' H',l_frame_number JN GO cK k s (.int .u64 v) (.int .i64 n) (.int .i64 i) H=k s' H'∧Ow H' 5 1 s' (bs (l++le r (v / 256 ^ i)))∧Out (rid s) H H'∧(∀ j∈rid s',j∈rid s∨H.next≤j)
 | 0,i,s,l,H,hi,hs,hlt,hl=>by
  refine ⟨s,H,?_,?_,Out.refl _ _,fun j hj => .inl hj⟩
  ·rw [ql_frame_number]
   have d:decide (((i:Nat):Int) < ((n:Nat):Int))=false:=decide_eq_false (by omega)
   simp only [d,k_s,k_x,Int.reduceBEq,Int.reduceBNe,Int.reduceLT,Int.reduceLE,Int.reduceGT,Int.reduceGE,Int.reduceNeg]
  ·rw [le,List.append_nil]; exact hs
 | r + 1,i,s,l,H,hi,hs,hlt,hl=>by
  have d:decide (((i:Nat):Int) < ((n:Nat):Int))=true:=decide_eq_true (by omega)
  have m1:imul (.int .i64 8) (.int .i64 (i:Nat))=some (.int .i64 ((8 * i:Nat):Int)):=by
   rw [imul_i,wrap_i64 (by omega) (by omega)]; rfl
  have m2:ishr (.int .u64 (v:Nat)) (.int .i64 ((8 * i:Nat):Int))=some (.int .u64 ((v / 256 ^ i:Nat):Int)):=by
   rw [ishr_n,show min (8 * i) IntKind.u64.bits=8 * i from Nat.min_eq_left (by show 8 * i≤64; omega),Nat.pow_mul]
  have m3:IntKind.wrap .u8 ((v / 256 ^ i:Nat):Int)=((v / 256 ^ i % 256:Nat):Int):=wrap_mod rfl _
  have hf:=fl1 (.int .u8 ((v / 256 ^ i % 256:Nat):Int)) rfl
  obtain ⟨H1,n1,n2,n3,n4⟩:=newCells_ok H [.int .u8 ((v / 256 ^ i % 256:Nat):Int)] 5 0 (by simp)
  have hs1:=hs.out n3 fun j hj q=>by cases q
  have hx:Rw H1 1 (.slice H.next 0 1 1 true 1) (bs [v / 256 ^ i % 256]) := .mk n2.ro rfl (Nat.le_refl _) rfl
  obtain ⟨s',H',a1,a2,a3,a4⟩:=append_ok (z:=[.int .u8 0]) hs1 hx (bs_one _) (by omega) (by rw [bs_len,bs_len]; simp; omega)
  have hlt':∀ j∈rid s',j < H'.next:=a2.rw.lt
  rw [← bs_app] at a2
  have e3:iadd (.int .i64 (i:Nat)) (.int .i64 1)=some (.int .i64 ((i + 1:Nat):Int)):=add_n (b:=1) (by omega)
  obtain ⟨s2,H2,b1,b2,b3,b4⟩:=number_loop hv hn (k:=k) r (i + 1) s' (l++[v / 256 ^ i % 256]) H' (by omega) a2 hlt' (by simp; omega)
  refine ⟨s2,H2,?_,?_,?_,?_⟩
  ·rw [ql_frame_number]
   rw [iadd_i] at e3
   simp only [d,m1,m2,m3,hf,n1,a1,e3,k_s,k_x,Int.reduceBEq,Int.reduceBNe,Int.reduceLT,Int.reduceLE,Int.reduceGT,Int.reduceGE,Int.reduceNeg]
   exact b1
  ·rw [le]
   rw [List.append_assoc] at b2
   rw [Nat.div_div_eq_div_mul,← Nat.pow_succ]
   exact b2
  ·have h1:Out (rid s) H H':=(n3.mono fun j hj=>by cases hj).trans a3
   exact h1.then b3 fun j hj=>(a4 j hj).imp id fun q=>by omega
  ·intro j hj
   rcases b4 j hj with q | q
   ·rcases a4 j q with q | q
    ·exact .inl q
    ·exact .inr (by omega)
   ·have:=a3.1
    exact .inr (by omega)
theorem number_c {v n:Nat} (hv:v < 18446744073709551616) (hn:n≤8) {s:AV} {l:List Nat} {H:Hp} (hs:Ow H 5 1 s (bs l)) (hl:l.length + n≤1000000) :
  ∃ s' H',cK (.func (.func 39) [] []) [s,.int .u64 v,.int .i64 n] H=some (s',H')∧Ow H' 5 1 s' (bs (l++le n v))∧Out (rid s) H H'∧(∀ j∈rid s',j∈rid s∨H.next≤j):=by
 obtain ⟨s',H',h1,h2,h3,h4⟩:=number_loop hv hn (k:=fun x h=>some (x,h)) n 0 s l H (by omega) hs hs.rw.lt hl
 refine ⟨s',H',c_frame_number ?_,by simpa using h2,h3,h4⟩
 unfold s_frame_number
 rw [show (((0:Nat):Int))=0 from rfl] at h1
 simp only [k_s,k_x,Int.reduceBEq,Int.reduceBNe,Int.reduceLT,Int.reduceLE,Int.reduceGT,Int.reduceGE,Int.reduceNeg]
 exact h1
theorem read_loop {k:K.Fn 1} {H:Hp} {x:AV} {l:List Nat} (hx:Rw H 1 x (bs l)) (hb:∀ b∈l,b < 256) (hl:l.length≤8):∀ (r:List Nat) (i a:Nat),l.drop i=r→i≤l.length→a < 256 ^ i→
  l_frame_read JN GO cK k (.int .u64 (a:Nat)) x (.int .i64 (l.length:Nat)) (.int .i64 (i:Nat)) H=k (.int .u64 ((a + 256 ^ i * ud r:Nat):Int)) H
 | [],i,a,hr,hi,ha=>by
  rw [ql_frame_read]
  have:l.length≤i:=by simpa using hr
  have d:decide (((i:Nat):Int) < ((l.length:Nat):Int))=false:=decide_eq_false (by omega)
  simp only [d,ud,Nat.mul_zero,Nat.add_zero,k_s,k_x,Int.reduceBEq,Int.reduceBNe,Int.reduceLT,Int.reduceLE,Int.reduceGT,Int.reduceGE,Int.reduceNeg]
 | v::r,i,a,hr,hi,ha=>by
  have hi:i < l.length:=by
   rcases Nat.lt_or_ge i l.length with h | h
   ·exact h
   ·rw [List.drop_eq_nil_of_le h] at hr; cases hr
  have hv:l[i]? = some v:=by
   have:=congrArg (fun z=>z[0]?) hr
   simpa using this
  have hr':l.drop (i + 1)=r:=by
   rw [← List.drop_drop,hr]; rfl
  have hv':(bs l)[i]? = some (.int .u8 (v:Int)):=by simp [bs,hv]
  have hv2:=hb v (List.mem_of_getElem? hv)
  obtain ⟨q,q1,q2⟩:=hx.ia1 hv' .i64
  have d:decide (((i:Nat):Int) < ((l.length:Nat):Int))=true:=decide_eq_true (by omega)
  have w1:IntKind.wrap .u64 (v:Int)=v:=wrap_u rfl (by show v < 18446744073709551616; omega)
  have m1:imul (.int .i64 8) (.int .i64 (i:Nat))=some (.int .i64 ((8 * i:Nat):Int)):=by
   rw [imul_i,wrap_i64 (by omega) (by omega)]; rfl
  have hp:256 ^ (i + 1)≤256 ^ 8:=Nat.pow_le_pow_right (by decide) (by omega)
  have hp0:0 < 256 ^ i:=Nat.pow_pos (by decide)
  have hpe:256 ^ (i + 1)=256 ^ i * 256:=Nat.pow_succ ..
  have hvm:v * 256 ^ i + a < 256 ^ (i + 1):=by
   have:=Nat.mul_le_mul_right (256 ^ i) (show v + 1≤256 by omega)
   rw [Nat.add_mul,Nat.one_mul] at this
   rw [hpe,Nat.mul_comm (256 ^ i) 256]
   omega
  have h8:(256:Nat) ^ 8=18446744073709551616:=by decide
  have m2:ishl (.int .u64 (v:Nat)) (.int .i64 ((8 * i:Nat):Int))=some (.int .u64 ((v * 256 ^ i:Nat):Int)):=by
   rw [ishl_n,show min (8 * i) IntKind.u64.bits=8 * i from Nat.min_eq_left (by show 8 * i≤64; omega),Nat.pow_mul]
   rw [show (2:Nat) ^ 8=256 from rfl,wrap_u rfl (show v * 256 ^ i < 18446744073709551616 by omega)]
  have ho:a ||| v * 256 ^ i=v * 256 ^ i + a:=by
   have h2:(256:Nat) ^ i=2 ^ (8 * i):=by rw [Nat.pow_mul]
   rw [h2] at ha ⊢
   exact or_add ha
  have m3:ior (.int .u64 (a:Nat)) (.int .u64 ((v * 256 ^ i:Nat):Int))=some (.int .u64 ((v * 256 ^ i + a:Nat):Int)):=by
   have:=ior_n (k := .u64) (a:=a) (b:=v * 256 ^ i) (by show a < 18446744073709551616; omega) (by show v * 256 ^ i < 18446744073709551616; omega) (by rw [ho]; exact wrap_u rfl (by show v * 256 ^ i + a < 18446744073709551616; omega))
   rw [ho] at this
   exact this
  have e3:iadd (.int .i64 (i:Nat)) (.int .i64 1)=some (.int .i64 ((i + 1:Nat):Int)):=add_n (b:=1) (by omega)
  rw [iadd_i] at e3
  rw [imul_i] at m1
  have ih:=read_loop (k:=k) hx hb hl r (i + 1) (v * 256 ^ i + a) hr' (by omega) hvm
  rw [ql_frame_read]
  simp only [d,q1,q2,w1,m1,m2,m3,e3,k_s,k_x,Int.reduceBEq,Int.reduceBNe,Int.reduceLT,Int.reduceLE,Int.reduceGT,Int.reduceGE,Int.reduceNeg]
  rw [ih]
  congr 3
  rw [ud,hpe,Nat.mul_add,Nat.mul_comm v,Nat.mul_assoc]
  omega
theorem read_c {H:Hp} {x:AV} {l:List Nat} (hx:Rw H 1 x (bs l)) (hb:∀ b∈l,b < 256) (hl:l.length≤8):cK (.func (.func 84) [] []) [x] H=some (.int .u64 ((ud l:Nat):Int),H):=by
 refine c_frame_read ?_
 unfold s_frame_read
 have hn:=hx.len1
 rw [bs_len] at hn
 have lp:=fun (k:K.Fn 1)=>read_loop (k:=k) hx hb hl l 0 0 rfl (Nat.zero_le _) (by decide)
 rw [show (((0:Nat):Int))=0 from rfl] at lp
 simp only [Nat.pow_zero,Nat.one_mul,Nat.zero_add] at lp
 simp only [hn,lp,k_s,k_x,Int.reduceBEq,Int.reduceBNe,Int.reduceLT,Int.reduceLE,Int.reduceGT,Int.reduceGE,Int.reduceNeg]
theorem grow_c {H:Hp} (n:Nat) (hn:n≤16777215):∃ y H',cK (.func (.func 59) [] []) [.slice0,.int .i64 n] H=some (y,H')∧Ow H' 5 1 y []∧Out [] H H'∧(∀ j∈rid y,H.next≤j):=by
 have c0:∀ H:Hp,builtinA P .cap #[28] [.slice0] H=some (.int .i64 0,H):=fun H=>by kernel_rfl
 have d0:decide (((n:Nat):Int) < 0)=false:=decide_eq_false (by omega)
 have w0:=w64 (a:=n) (by omega)
 by_cases h:n=0
 ·subst h
  refine ⟨.slice0,H,c_slices_Grow___byte_byte_ ?_,.nil,Out.refl _ _,fun j hj=>by cases hj⟩
  unfold s_slices_Grow___byte_byte_
  have w00:IntKind.wrap .i64 0=0:=by decide
  rw [show (((0:Nat):Int))=0 from rfl] at *
  simp only [c0,d0,w00,Int.sub_self,Int.sub_zero,k_s,k_x,Int.reduceBEq,Int.reduceBNe,Int.reduceLT,Int.reduceLE,Int.reduceGT,Int.reduceGE,Int.reduceNeg]
 ·have d1:decide (0 < ((n:Nat):Int))=true:=decide_eq_true (by omega)
  obtain ⟨x',s1,s2,s3⟩:=sll_ow (n:=0) (a:=0) (b:=0) (Ow.nil (H:=H) (el:=5) (es:=1)) rfl (by omega) (lo:=none) (hi:=some (.int .i64 ((0:Nat):Int))) (Nat.le_refl _) (Nat.le_refl _) (Bd.no 0) (Bd.yes _ _ _)
  have s2':Ow H 5 1 x' []:=by simpa using s2
  obtain ⟨y,H',a1,a2,a3,a4⟩:=appz_ok (n:=n) s2' (by simp; omega)
  obtain ⟨z,t1,t2,t3⟩:=sll_ow (n:=n) (a:=0) (b:=0) a2 (by simp) (by omega) (lo:=none) (hi:=some (.int .i64 ((0:Nat):Int))) (Nat.le_refl _) (Nat.zero_le _) (Bd.no 0) (Bd.yes _ _ _)
  have hx:∀ j∈rid x',False:=fun j hj=>by have:=s3 j hj; cases this
  refine ⟨z,H',c_slices_Grow___byte_byte_ ?_,by simpa using t2,⟨a3.1,fun j hj _=>a3.2 j hj fun q=>hx j q⟩,fun j hj=>(a4 j (t3 j hj)).elim (fun q=>(hx j q).elim) id⟩
  unfold s_slices_Grow___byte_byte_
  have w00:IntKind.wrap .i64 0=0:=by decide
  rw [show (((0:Nat):Int))=0 from rfl] at s1 t1
  simp only [c0,d0,d1,w00,w0,s1,a1,t1,Int.sub_self,Int.sub_zero,k_s,k_x,Int.reduceBEq,Int.reduceBNe,Int.reduceLT,Int.reduceLE,Int.reduceGT,Int.reduceGE,Int.reduceNeg]
theorem clone_c {H:Hp} {x:AV} {l:List Nat} (hx:Rw H 1 x (bs l)) (hl:l.length≤140737488355328):∃ y H',cK (.func (.func 25) [] []) [x] H=some (y,H')∧Ow H' 5 1 y (bs l)∧Out [] H H'∧(∀ j∈rid y,H.next≤j):=clone_any hx hl
structure Rows1 (H:Hp) (i:Nat) (cs:List AV) (ls:List (List Nat)) (el fl:Nat):Prop where
 ob:Cs H i cs el fl
 len:cs.length=ls.length
 row:∀ (j:Nat) (c:AV) (l:List Nat),cs[j]? = some c→ls[j]? = some l→Rw H 1 c (bs l)
theorem Rows1.out {H H':Hp} {i:Nat} {cs:List AV} {ls:List (List Nat)} {el fl:Nat} (h:Rows1 H i cs ls el fl) (k:Out [] H H'):Rows1 H' i cs ls el fl:=
 ⟨h.ob.out k (fun q=>by cases q),h.len,fun j c l h1 h2=>(h.row j c l h1 h2).out k fun j hj q=>by cases q⟩
theorem Rows1.at {H:Hp} {i:Nat} {cs:List AV} {ls:List (List Nat)} {el fl:Nat} (h:Rows1 H i cs ls el fl) {j:Nat} {l:List Nat} {r:List (List Nat)} (hr:ls.drop j=l::r):j < ls.length∧ls.drop (j + 1)=r∧
  ∃ c,ia 1 (.slice i 0 ls.length ls.length true 1) (.int .i64 (j:Nat))=some (.ptr i j)∧ld (.ptr i j) H=some c∧Rw H 1 c (bs l):=by
 have hj:j < ls.length:=by
  rcases Nat.lt_or_ge j ls.length with q | q
  ·exact q
  ·rw [List.drop_eq_nil_of_le q] at hr; cases hr
 have hl:ls[j]? = some l:=by
  have:=congrArg (fun z=>z[0]?) hr
  simpa using this
 have hr':ls.drop (j + 1)=r:=by
  rw [← List.drop_drop,hr]; rfl
 have hjc:j < cs.length:=by rw [h.len]; exact hj
 have hc:cs[j]? = some cs[j]:=List.getElem?_eq_getElem hjc
 refine ⟨hj,hr',cs[j],?_,h.ob.ld hc,h.row j _ l hc hl⟩
 have:=ia_s (es:=1) (i:=i) (off:=0) (cap:=ls.length) (ex:=true) (k := .i64) hj
 rw [Nat.zero_add,Nat.mul_one] at this
 exact this
theorem cat_loop {k:K.Fn 2} {H:Hp} {i:Nat} {cs:List AV} {ls:List (List Nat)} {el fl:Nat} (h:Rows1 H i cs ls el fl) (hn:ls.length≤1000):∀ (r:List (List Nat)) (j a:Nat),ls.drop j=r→a + r.flatten.length≤16777215→
  l_slices_Concat___byte_byte_ JN GO cK k (.slice i 0 ls.length ls.length true 1) (.int .i64 (a:Nat)) (.slice i 0 ls.length ls.length true 1) (.int .i64 (ls.length:Nat)) (.int .i64 (j:Nat)) H=k (.slice i 0 ls.length ls.length true 1) (.int .i64 ((a + r.flatten.length:Nat):Int)) H
 | [],j,a,hr,ha=>by
  rw [ql_slices_Concat___byte_byte_]
  have:ls.length≤j:=by simpa using hr
  have d:decide (((j:Nat):Int) < ((ls.length:Nat):Int))=false:=decide_eq_false (by omega)
  simp only [d,List.flatten_nil,List.length_nil,Nat.add_zero,k_s,k_x,Int.reduceBEq,Int.reduceBNe,Int.reduceLT,Int.reduceLE,Int.reduceGT,Int.reduceGE,Int.reduceNeg]
 | l::r,j,a,hr,ha=>by
  obtain ⟨hj,hr',c,c1,c2,c3⟩:=h.at hr
  rw [List.flatten_cons,List.length_append] at ha
  have hl:=c3.len1
  rw [bs_len] at hl
  have d:decide (((j:Nat):Int) < ((ls.length:Nat):Int))=true:=decide_eq_true (by omega)
  have a1:iadd (.int .i64 (a:Nat)) (.int .i64 (l.length:Nat))=some (.int .i64 ((a + l.length:Nat):Int)):=add_n (by omega)
  have d1:decide (((a + l.length:Nat):Int) < 0)=false:=decide_eq_false (by omega)
  have a2:iadd (.int .i64 (j:Nat)) (.int .i64 1)=some (.int .i64 ((j + 1:Nat):Int)):=add_n (b:=1) (by omega)
  rw [iadd_i] at a1 a2
  have ih:=cat_loop (k:=k) h hn r (j + 1) (a + l.length) hr' (by omega)
  rw [ql_slices_Concat___byte_byte_]
  simp only [d,c1,c2,hl,a1,d1,a2,k_s,k_x,Int.reduceBEq,Int.reduceBNe,Int.reduceLT,Int.reduceLE,Int.reduceGT,Int.reduceGE,Int.reduceNeg]
  rw [ih,List.flatten_cons,List.length_append,Nat.add_assoc]
theorem cat_loop1 {k:K.Fn 1} {H0:Hp} {i:Nat} {cs:List AV} {ls:List (List Nat)} {el fl:Nat} (h:Rows1 H0 i cs ls el fl) (hn:ls.length≤1000):∀ (r:List (List Nat)) (j:Nat) (s:AV) (l:List Nat) (H:Hp),ls.drop j=r→l.length + r.flatten.length≤16777215→
  Out [] H0 H→Ow H 5 1 s (bs l)→(∀ j∈rid s,H0.next≤j)→
  ∃ s' H',l_slices_Concat___byte_byte_1 JN GO cK k s (.slice i 0 ls.length ls.length true 1) (.int .i64 (ls.length:Nat)) (.int .i64 (j:Nat)) H=k s' H'∧Out [] H0 H'∧Ow H' 5 1 s' (bs (l++r.flatten))∧(∀ j∈rid s',H0.next≤j)
 | [],j,s,l,H,hr,ha,ho,hs,hf=>by
  refine ⟨s,H,?_,ho,by simpa using hs,hf⟩
  rw [ql_slices_Concat___byte_byte_1]
  have:ls.length≤j:=by simpa using hr
  have d:decide (((j:Nat):Int) < ((ls.length:Nat):Int))=false:=decide_eq_false (by omega)
  simp only [d,k_s,k_x,Int.reduceBEq,Int.reduceBNe,Int.reduceLT,Int.reduceLE,Int.reduceGT,Int.reduceGE,Int.reduceNeg]
 | x::r,j,s,l,H,hr,ha,ho,hs,hf=>by
  obtain ⟨hj,hr',c,c1,c2,c3⟩:=(h.out ho).at hr
  rw [List.flatten_cons,List.length_append] at ha
  have d:decide (((j:Nat):Int) < ((ls.length:Nat):Int))=true:=decide_eq_true (by omega)
  have a2:iadd (.int .i64 (j:Nat)) (.int .i64 1)=some (.int .i64 ((j + 1:Nat):Int)):=add_n (b:=1) (by omega)
  rw [iadd_i] at a2
  obtain ⟨s',H',b1,b2,b3,b4⟩:=append_ok (z:=[.int .u8 0]) hs c3 (bs_one _) (by omega) (by rw [bs_len,bs_len]; omega)
  rw [← bs_app] at b2
  have ho':Out [] H0 H':=ho.then b3 fun j hj => .inr (hf j hj)
  have hf':∀ j∈rid s',H0.next≤j:=fun j hj=>(b4 j hj).elim (hf j) fun q=>Nat.le_trans ho.1 q
  obtain ⟨s2,H2,e1,e2,e3,e4⟩:=cat_loop1 (k:=k) h hn r (j + 1) s' (l++x) H' hr' (by rw [List.length_append]; omega) ho' b2 hf'
  refine ⟨s2,H2,?_,e2,?_,e4⟩
  ·rw [ql_slices_Concat___byte_byte_1]
   simp only [d,c1,c2,b1,a2,k_s,k_x,Int.reduceBEq,Int.reduceBNe,Int.reduceLT,Int.reduceLE,Int.reduceGT,Int.reduceGE,Int.reduceNeg]
   exact e1
  ·rw [List.flatten_cons,← List.append_assoc]; exact e3
theorem concat_c {H:Hp} {i:Nat} {cs:List AV} {ls:List (List Nat)} {el fl:Nat} (h:Rows1 H i cs ls el fl) (hn:ls.length≤1000) (hl:ls.flatten.length≤16777215) :
  ∃ y H',cK (.func (.func 42) [] []) [.slice i 0 ls.length ls.length true 1] H=some (y,H')∧Out [] H H'∧Ow H' 5 1 y (bs ls.flatten)∧(∀ j∈rid y,H.next≤j):=by
 obtain ⟨g,H1,g1,g2,g3,g4⟩:=grow_c (H:=H) ls.flatten.length hl
 have lp:=fun (k:K.Fn 2)=>cat_loop (k:=k) h hn ls 0 0 rfl (by omega)
 obtain ⟨y,H',e1,e2,e3,e4⟩:=cat_loop1 (k:=fun x h=>some (x,h)) h hn ls 0 g [] H1 rfl (by simpa using hl) g3 g2 g4
 rw [show (((0:Nat):Int))=0 from rfl] at lp e1
 simp only [Nat.zero_add] at lp
 refine ⟨y,H',c_slices_Concat___byte_byte_ ?_,e2,by simpa using e3,e4⟩
 unfold s_slices_Concat___byte_byte_
 simp only [lp,g1,k_s,k_x,Int.reduceBEq,Int.reduceBNe,Int.reduceLT,Int.reduceLE,Int.reduceGT,Int.reduceGE,Int.reduceNeg]
 exact e1
theorem same_i (k:IntKind) (a:Int):same (.int k a) (.int k a)=true:=by cases k <;> simp [same,sameS]
theorem same_rw {H:Hp} {es:Nat} {x:AV} {l:List AV} (h:Rw H es x l):same x x=true:=by
 cases h <;> simp [same,sameS]
theorem cells_rw {H:Hp} {es:Nat} {x:AV} {l:List AV} (h:Rw H es x l):cellsV x=some [x]:=by
 cases h <;> rfl
theorem cells_rec {H:Hp} {es:Nat} {x:AV} {l:List AV} (h:Rw H es x l) (a:Int):cellsV (.agg [.int .u64 a,x])=some [.int .u64 a,x]:=by
 cases h <;> rfl
def hd12 (at':Nat) (b:List Nat):List Nat:=le 4 b.length++le 8 at'
def fr (at':Nat) (b:List Nat):List Nat:=hd12 at' b++le 4 (onS 1 (hd12 at' b++b))++b
theorem hd12_len (a:Nat) (b:List Nat):(hd12 a b).length=12:=by simp [hd12,le_len]
theorem fr_len (a:Nat) (b:List Nat):(fr a b).length=16 + b.length:=by simp [fr,hd12_len,le_len]; omega
theorem hd12_byte (a:Nat) (b:List Nat):∀ x∈hd12 a b,x < 256:=fun x hx=>(List.mem_append.1 hx).elim (le_byte _ _ x) (le_byte _ _ x)
theorem put_c {H:Hp} {x y:AV} {l b:List Nat} {at':Nat} (hx:Rw H 1 x (bs l)) (hy:Rw H 1 y (bs b)) (ha:at' < 18446744073709551616) (hb:∀ v∈b,v < 256) (hn:b.length≤1024) (hl:l.length≤1000000) :
  ∃ z H',cK (.func (.func 26) [] []) [x,.agg [.int .u64 at',y]] H=some (.tuple [z,.int .i64 0],H')∧Out [] H H'∧Ow H' 5 1 z (bs (l++fr at' b))∧(∀ j∈rid z,H.next≤j):=by
 have hcv:=cells_rec hy (at':Int)
 obtain ⟨H1,b1,b2,b3,b4⟩:=bx_ok H 37 _ _ hcv (by simp)
 have hyl:=hy.len1
 rw [bs_len] at hyl
 have d1:decide (1024 < ((b.length:Nat):Int))=false:=decide_eq_false (by omega)
 have w1:IntKind.wrap .u64 ((b.length:Nat):Int)=b.length:=wrap_u rfl (by show b.length < 18446744073709551616; omega)
 have l1:ld (.ptr H.next 1) H1=some y:=b2.ld rfl
 obtain ⟨s1,H2,n1,n2,n3,n4⟩:=number_c (v:=b.length) (n:=4) (by omega) (by decide) (Ow.nil (H:=H1) (el:=5) (es:=1)) (by simp) (l:=[])
 rw [List.nil_append] at n2
 have f1:∀ j∈rid s1,H1.next≤j:=fun j hj=>(n4 j hj).elim (fun q=>by cases q) id
 have o2:Out [] H1 H2:=n3
 have r2:=b2.out o2 (fun q=>by cases q)
 obtain ⟨s2,H3,m1,m2,m3,m4⟩:=number_c (v:=at') (n:=8) ha (by decide) n2 (by rw [le_len]; decide)
 have o3:Out [] H1 H3:=o2.then m3 fun j hj => .inr (f1 j hj)
 have f2:∀ j∈rid s2,H1.next≤j:=fun j hj=>(m4 j hj).elim (f1 j) fun q=>Nat.le_trans o2.1 q
 have r3:=b2.out o3 (fun q=>by cases q)
 have l2:ld (.ptr H.next 0) H2=some (.int .u64 (at':Int)):=r2.ld rfl
 have l2':ld (.ptr H.next 0) H1=some (.int .u64 (at':Int)):=b2.ld rfl
 have l3:ld (.ptr H.next 1) H3=some y:=r3.ld rfl
 have oH3:Out [] H H3:=b3.trans o3
 have hy3:=hy.out oH3 fun j _ q=>by cases q
 have e1:=of_c (l:=hd12 at' b) m2.rw (hd12_byte _ _) (by rw [hd12_len]; decide)
 have g1:=onS_lt (s:=1) (by decide) (hd12 at' b)
 have e2:=on_c hy3 hb (by omega) g1.1 g1.2
 rw [onS_app (by decide)] at e2
 have g2:=onS_lt (s:=1) (by decide) (hd12 at' b++b)
 have w2:IntKind.wrap .u64 ((onS 1 (hd12 at' b++b):Nat):Int)=((onS 1 (hd12 at' b++b):Nat):Int):=wrap_u rfl (Nat.lt_trans g2.1 (by decide))
 obtain ⟨s3,H4,p1,p2,p3,p4⟩:=number_c (v:=onS 1 (hd12 at' b++b)) (n:=4) (Nat.lt_trans g2.1 (by decide)) (by decide) m2 (by
  have:=hd12_len at' b
  unfold hd12 at this
  rw [this]; decide)
 have o4:Out [] H1 H4:=o3.then p3 fun j hj => .inr (f2 j hj)
 have r4:=b2.out o4 (fun q=>by cases q)
 have l4:ld (.ptr H.next 1) H4=some y:=r4.ld rfl
 have oH4:Out [] H H4:=b3.trans o4
 have hx4:=hx.out oH4 fun j _ q=>by cases q
 have hy4:=hy.out oH4 fun j _ q=>by cases q
 have fl3:fl [.slice0,.slice0,.slice0] [(0,1,x),(1,1,s3),(2,1,y)]=some [x,s3,y]:=by
  have c1:=cells_rw hx
  have c2:=cells_rw p2.rw
  have c3:=cells_rw hy
  simp [fl,c1,c2,c3]
 obtain ⟨H5,q1,q2,q3,q4⟩:=newCells_ok H4 [x,s3,y] 28 0 (by simp)
 have no:∀ (v:AV) (j:Nat),j∈rid v→j∉([]:List Nat):=fun v j _ q=>by cases q
 have hrow:Rows1 H5 H4.next [x,s3,y] [l,hd12 at' b++le 4 (onS 1 (hd12 at' b++b)),b] 28 0:=by
  refine ⟨q2,rfl,fun j c m h1 h2 => ?_⟩
  match j,h1,h2 with
  | 0,h1,h2=>cases h1; cases h2; exact hx4.out q3 (no _)
  | 1,h1,h2=>cases h1; cases h2; exact p2.rw.out q3 (no _)
  | 2,h1,h2=>cases h1; cases h2; exact hy4.out q3 (no _)
 obtain ⟨z,H6,z1,z2,z3,z4⟩:=concat_c hrow (by simp) (by simp [hd12_len,le_len]; omega)
 have l6:ld (.ptr H.next 1) H3=some y:=l3
 refine ⟨z,H6,c_frame_Put ?_,(oH4.trans q3).trans z2,?_,fun j hj=>Nat.le_trans (oH4.trans q3).1 (z4 j hj)⟩
 ·unfold s_frame_Put
  rw [show (([l,hd12 at' b++le 4 (onS 1 (hd12 at' b++b)),b]:List (List Nat)).length)=3 from rfl] at z1
  have n1':=n1
  have m1':=m1
  have p1':=p1
  rw [show (((4:Nat):Int))=4 from rfl] at n1' p1'
  rw [show (((8:Nat):Int))=8 from rfl] at m1'
  simp only [b1,l1,hyl,d1,w1,n1',l2,l2',m1',SM_t (same_i .u64 (at':Int)),e1,l3,e2,SM_t (same_rw hy),w2,p1',l4,fl3,q1,z1,k_s,k_x,Int.reduceBEq,Int.reduceBNe,Int.reduceLT,Int.reduceLE,Int.reduceGT,Int.reduceGE,Int.reduceNeg]
 ·have:fr at' b=(hd12 at' b++le 4 (onS 1 (hd12 at' b++b)))++b:=rfl
  rw [this]
  simpa using z3
theorem st_all {H:Hp} {i n:Nat} {l cs:List AV} {el fl:Nat} {v:AV} (h:Cs H i l el fl) (hf:fl≤1) (hv:cellsV v=some cs) (hl:cs.length=n) (hn:l.length=n) (ho:∀ v∈cs,oneC v=true) :
  ∃ H',st n (.ptr i 0) v H=some H'∧Cs H' i cs el fl∧Out [i] H H'∧H'.next=H.next:=by
 obtain ⟨hi,c,hc,hg⟩:=h
 obtain ⟨H',c',q1,q2,q3,q4,q5⟩:=setCells_get cs H i 0 c 0 l.length el fl hc hf (Nat.le_refl _) (by omega) (fun k hk=>by
  have hk':k < l.length:=by omega
  rw [Nat.zero_add,hg k l[k] (List.getElem?_eq_getElem hk')]; rfl) ho
 refine ⟨H',?_,⟨by omega,c',?_,fun k w hk => ?_⟩,⟨by omega,fun j hj hn=>q4 j (by simpa using hn)⟩,q2⟩
 ·unfold st
  simp only [hv]
  rw [show Nat.beq n cs.length=true by rw [hl]; exact Nat.beq_refl n]
  exact q1
 ·rw [q3,hl,hn]
 ·rw [q5 k,if_pos ⟨Nat.zero_le _,by have:=(List.getElem?_eq_some_iff.1 hk).1; omega⟩,Nat.sub_zero]
  exact hk
def gN (l:List Nat):Nat:=ud (l.take 4)
def gB (l:List Nat):List Nat:=(l.drop 16).take (gN l)
def gA (l:List Nat):Nat:=ud ((l.drop 4).take 8)
def gE (l:List Nat):Nat:=
 if l.length < 4 then 3 else if 1024 < gN l then 14 else if l.length < 16 + gN l then 3 else
 if onS 1 (l.take 12++gB l)≠ud ((l.drop 12).take 4) then 2 else 0
theorem one_rw {H:Hp} {es:Nat} {x:AV} {l:List AV} (h:Rw H es x l):oneC x=true:=by
 cases h <;> rfl
theorem bsd (a:Nat) (l:List Nat):bs (l.drop a)=(bs l).drop a:=by simp [bs,List.map_drop]
theorem bst (a:Nat) (l:List Nat):bs (l.take a)=(bs l).take a:=by simp [bs,List.map_take]
theorem cut_c {H:Hp} {x:AV} {l:List Nat} (hx:Rw H 1 x (bs l)) {a b:Nat} (hab:a≤b) (hb:b≤l.length) {lo hi:Option AV} (hlo:Bd lo a 0) (hhi:Bd hi b l.length) :
  ∃ x',sll 1 x lo hi none=some x'∧Rw H 1 x' (bs ((l.drop a).take (b - a))):=by
 obtain ⟨x',h1,h2,_⟩:=sll_rw hx (n:=l.length) (by rw [bs_len,Nat.mul_one]) (by omega) hab hb hlo hhi
 refine ⟨x',h1,?_⟩
 rw [Nat.mul_one,Nat.mul_one] at h2
 rw [bst,bsd]
 exact h2
theorem get_c {H:Hp} {x:AV} {l:List Nat} (hx:Rw H 1 x (bs l)) (hb:∀ b∈l,b < 256) (hl:l.length≤16000000) :
  ∃ y H',cK (.func (.func 67) [] []) [x] H=some (.tuple [.agg [.int .u64 ((if gE l=0 then gA l else 0:Nat):Int),y],.int .i64 ((if gE l=0 then 16 + gN l else 0:Nat):Int),.int .i64 ((gE l:Nat):Int)],H')∧
   Out [] H H'∧Ow H' 5 1 y (bs (if gE l=0 then gB l else []))∧(∀ j∈rid y,H.next≤j):=by
 obtain ⟨H1,n1,n2,n3,n4⟩:=newCells_ok H [.int .u64 0,.slice0] 37 0 (by simp)
 obtain ⟨H2,t1,t2,t3,t4⟩:=st_all (n:=2) n2 (by omega) (v := .agg [.int .u64 0,.slice0]) (cs:=[.int .u64 0,.slice0]) rfl rfl rfl (by
  intro v hv
  rcases List.mem_cons.1 hv with rfl | hv
  ·rfl
  ·rcases List.mem_cons.1 hv with rfl | hv
   ·rfl
   ·cases hv)
 have t5:lda 2 (.ptr H.next 0) H2=some (.agg [.int .u64 0,.slice0]):=t2.lda (n:=2) (o:=0) (by simp)
 have o2:Out [] H H2:=n3.then t3 fun j hj=>by
  rw [List.mem_singleton] at hj
  exact .inr (by omega)
 have hx1:=hx.out n3 fun j _ q=>by cases q
 have hn:=hx.len1
 rw [bs_len] at hn
 have h30:¬ (3:Nat)=0:=by decide
 have h140:¬ (14:Nat)=0:=by decide
 have h20:¬ (2:Nat)=0:=by decide
 have sub:∀ a b,∀ v∈(l.drop a).take b,v < 256:=fun a b v hv=>hb v (List.mem_of_mem_drop (List.mem_of_mem_take hv))
 by_cases c1:l.length < 4
 ·have ge:gE l=3:=if_pos c1
  rw [ge,if_neg h30,if_neg h30,if_neg h30]
  refine ⟨.slice0,H2,c_frame_Get ?_,o2,.nil,fun j hj=>by cases hj⟩
  unfold s_frame_Get
  have d1:decide (((l.length:Nat):Int) < 4)=true:=decide_eq_true (by omega)
  simp only [n1,hn,d1,fl_nil,t1,t5,k_s,k_x,Int.reduceBEq,Int.reduceBNe,Int.reduceLT,Int.reduceLE,Int.reduceGT,Int.reduceGE,Int.reduceNeg]
  rfl
 ·have d1:decide (((l.length:Nat):Int) < 4)=false:=decide_eq_false (by omega)
  obtain ⟨x4,u1,u2⟩:=cut_c hx1 (a:=0) (b:=4) (Nat.zero_le _) (by omega) (lo:=none) (hi:=some (.int .i64 ((4:Nat):Int))) (Bd.no 0) (Bd.yes _ _ _)
  have r4:=read_c u2 (sub _ _) (by simp; omega)
  have e4:ud ((l.drop 0).take (4 - 0))=gN l:=rfl
  rw [e4] at r4
  have b4:gN l < 4294967296:=by
   have:=ud_lt (l.take 4) fun v hv=>hb v (List.mem_of_mem_take hv)
   rw [List.length_take,Nat.min_eq_left (by omega)] at this
   exact this
  have w4:=w64 (a:=gN l) (by omega)
  rw [show (((4:Nat):Int))=4 from rfl] at u1
  by_cases c2:1024 < gN l
  ·have ge:gE l=14:=by unfold gE; rw [if_neg c1,if_pos c2]
   rw [ge,if_neg h140,if_neg h140,if_neg h140]
   refine ⟨.slice0,H2,c_frame_Get ?_,o2,.nil,fun j hj=>by cases hj⟩
   unfold s_frame_Get
   have d2:decide (1024 < ((gN l:Nat):Int))=true:=decide_eq_true (by omega)
   simp only [n1,hn,d1,u1,r4,w4,d2,fl_nil,t1,t5,k_s,k_x,Int.reduceBEq,Int.reduceBNe,Int.reduceLT,Int.reduceLE,Int.reduceGT,Int.reduceGE,Int.reduceNeg]
   rfl
  ·have d2:decide (1024 < ((gN l:Nat):Int))=false:=decide_eq_false (by omega)
   have a16:IntKind.wrap .i64 (16 + ((gN l:Nat):Int))=((16 + gN l:Nat):Int):=by rw [wrap_i64 (by omega) (by omega)]; rfl
   by_cases c3:l.length < 16 + gN l
   ·have ge:gE l=3:=by unfold gE; rw [if_neg c1,if_neg c2,if_pos c3]
    rw [ge,if_neg h30,if_neg h30,if_neg h30]
    refine ⟨.slice0,H2,c_frame_Get ?_,o2,.nil,fun j hj=>by cases hj⟩
    unfold s_frame_Get
    have d3:decide (((l.length:Nat):Int) < ((16 + gN l:Nat):Int))=true:=decide_eq_true (by omega)
    simp only [n1,hn,d1,u1,r4,w4,d2,a16,d3,fl_nil,t1,t5,k_s,k_x,Int.reduceBEq,Int.reduceBNe,Int.reduceLT,Int.reduceLE,Int.reduceGT,Int.reduceGE,Int.reduceNeg]
    rfl
   ·have d3:decide (((l.length:Nat):Int) < ((16 + gN l:Nat):Int))=false:=decide_eq_false (by omega)
    obtain ⟨x12,p1,p2⟩:=cut_c hx1 (a:=0) (b:=12) (Nat.zero_le _) (by omega) (lo:=none) (hi:=some (.int .i64 ((12:Nat):Int))) (Bd.no 0) (Bd.yes _ _ _)
    obtain ⟨xb,q1,q2⟩:=cut_c hx1 (a:=16) (b:=16 + gN l) (by omega) (by omega) (lo:=some (.int .i64 ((16:Nat):Int))) (hi:=some (.int .i64 ((16 + gN l:Nat):Int))) (Bd.yes _ _ _) (Bd.yes _ _ _)
    obtain ⟨xs,s1,s2⟩:=cut_c hx1 (a:=12) (b:=16) (by omega) (by omega) (lo:=some (.int .i64 ((12:Nat):Int))) (hi:=some (.int .i64 ((16:Nat):Int))) (Bd.yes _ _ _) (Bd.yes _ _ _)
    obtain ⟨xa,v1,v2⟩:=cut_c hx1 (a:=4) (b:=12) (by omega) (by omega) (lo:=some (.int .i64 ((4:Nat):Int))) (hi:=some (.int .i64 ((12:Nat):Int))) (Bd.yes _ _ _) (Bd.yes _ _ _)
    have eB:(l.drop 16).take (16 + gN l - 16)=gB l:=by rw [Nat.add_sub_cancel_left]; rfl
    rw [eB] at q2
    have hB:∀ v∈gB l,v < 256:=sub _ _
    have lB:(gB l).length=gN l:=by unfold gB; rw [List.length_take,List.length_drop]; omega
    have f1:=of_c p2 (sub _ _) (by simp; omega)
    rw [show (l.drop 0).take (12 - 0)=l.take 12 from rfl] at f1
    have g1:=onS_lt (s:=1) (by decide) (l.take 12)
    have f2:=on_c q2 hB (by omega) g1.1 g1.2
    rw [onS_app (by decide)] at f2
    have g2:=onS_lt (s:=1) (by decide) (l.take 12++gB l)
    have w2:IntKind.wrap .u64 ((onS 1 (l.take 12++gB l):Nat):Int)=((onS 1 (l.take 12++gB l):Nat):Int):=wrap_u rfl (Nat.lt_trans g2.1 (by decide))
    have f3:=read_c s2 (sub _ _) (by simp; omega)
    have f4:=read_c v2 (sub _ _) (by simp; omega)
    rw [show (l.drop 12).take (16 - 12)=(l.drop 12).take 4 from rfl] at f3
    rw [show ud ((l.drop 4).take (12 - 4))=gA l from rfl] at f4
    rw [show (((12:Nat):Int))=12 from rfl] at p1 s1 v1
    rw [show (((16:Nat):Int))=16 from rfl] at q1 s1
    rw [show (((4:Nat):Int))=4 from rfl] at v1
    by_cases c4:onS 1 (l.take 12++gB l)≠ud ((l.drop 12).take 4)
    ·have ge:gE l=2:=by unfold gE; rw [if_neg c1,if_neg c2,if_neg c3,if_pos c4]
     rw [ge,if_neg h20,if_neg h20,if_neg h20]
     refine ⟨.slice0,H2,c_frame_Get ?_,o2,.nil,fun j hj=>by cases hj⟩
     unfold s_frame_Get
     have d4:(((onS 1 (l.take 12++gB l):Nat):Int) != ((ud ((l.drop 12).take 4):Nat):Int))=true:=by rw [bne_iff_ne]; omega
     simp only [n1,hn,d1,u1,r4,w4,d2,a16,d3,p1,f1,q1,f2,SM_t (same_rw q2),w2,s1,f3,ine_i,d4,fl_nil,t1,t5,k_s,k_x,Int.reduceBEq,Int.reduceBNe,Int.reduceLT,Int.reduceLE,Int.reduceGT,Int.reduceGE,Int.reduceNeg]
     rfl
    ·have ge:gE l=0:=by unfold gE; rw [if_neg c1,if_neg c2,if_neg c3,if_neg c4]
     rw [ge,if_pos rfl,if_pos rfl,if_pos rfl]
     have d4:(((onS 1 (l.take 12++gB l):Nat):Int) != ((ud ((l.drop 12).take 4):Nat):Int))=false:=by rw [bne_eq_false_iff_eq]; omega
     obtain ⟨y,H3,y1,y2,y3,y4⟩:=clone_c q2 (by omega)
     have n2':=n2.out y3 fun q=>by cases q
     have y2c:=cells_rw y2.rw
     obtain ⟨H4,z1,z2,z3,z4⟩:=st_all (n:=2) n2' (by omega) (cells_rec y2.rw ((gA l:Nat):Int)) rfl rfl (by
      intro v hv
      rcases List.mem_cons.1 hv with rfl | hv
      ·rfl
      ·rcases List.mem_cons.1 hv with rfl | hv
       ·exact one_rw y2.rw
       ·cases hv)
     have z5:lda 2 (.ptr H.next 0) H4=some (.agg [.int .u64 ((gA l:Nat):Int),y]):=z2.lda (n:=2) (o:=0) (by simp)
     have fl2:fl [.int .u64 0,.slice0] [(0,1,.int .u64 ((gA l:Nat):Int)),(1,1,y)]=some [.int .u64 ((gA l:Nat):Int),y]:=by
      have ci:cellsV (.int .u64 ((gA l:Nat):Int))=some [.int .u64 ((gA l:Nat):Int)]:=rfl
      simp [fl,y2c,ci]
     refine ⟨y,H4,c_frame_Get ?_,(n3.trans y3).then z3 fun j hj=>by rw [List.mem_singleton] at hj; exact .inr (by omega),y2.out z3 fun j hj q=>by
      rw [List.mem_singleton] at q
      have:=y4 j hj
      omega,fun j hj=>by have:=y4 j hj; omega⟩
     unfold s_frame_Get
     simp only [n1,hn,d1,u1,r4,w4,d2,a16,d3,p1,f1,q1,f2,SM_t (same_rw q2),w2,s1,f3,ine_i,d4,v1,f4,y1,fl2,z1,z5,k_s,k_x,Int.reduceBEq,Int.reduceBNe,Int.reduceLT,Int.reduceLE,Int.reduceGT,Int.reduceGE,Int.reduceNeg]
     rfl
def rcs:List (Nat × List Nat)→List AV→List AV
 | r::rs,y::ys => .int .u64 (r.1:Nat)::y::rcs rs ys
 | _,_=>[]
theorem rcs_app:∀ (a:List (Nat × List Nat)) (x:List AV) (r:Nat × List Nat) (y:AV),x.length=a.length→rcs (a++[r]) (x++[y])=rcs a x++[.int .u64 (r.1:Nat),y]
 | [],[],r,y,h=>rfl
 | q::a,z::x,r,y,h=>by
  have:=rcs_app a x r y (by simpa using h)
  show _::_::rcs (a++[r]) (x++[y])=_
  rw [this]; rfl
theorem rcs_len:∀ (a:List (Nat × List Nat)) (x:List AV),x.length=a.length→(rcs a x).length=a.length * 2
 | [],[],h=>rfl
 | q::a,z::x,h=>by
  have:=rcs_len a x (by simpa using h)
  simp only [rcs,List.length_cons,this]; omega
structure Rs (H:Hp) (x:AV) (rs:List (Nat × List Nat)) (ys:List AV):Prop where
 own:Ow H 37 2 x (rcs rs ys)
 len:ys.length=rs.length
 row:∀ (j:Nat) (y:AV) (r:Nat × List Nat),ys[j]? = some y→rs[j]? = some r→Rw H 1 y (bs r.2)
 sep:∀ y∈ys,∀ i∈rid y,i∉rid x
theorem Rs.out {H H':Hp} {x:AV} {rs:List (Nat × List Nat)} {ys:List AV} (h:Rs H x rs ys) (k:Out [] H H'):Rs H' x rs ys:=
 ⟨h.own.out k (fun j _ q=>by cases q),h.len,fun j y r h1 h2=>(h.row j y r h1 h2).out k (fun j _ q=>by cases q),h.sep⟩
def on (l:List Nat) (first ep:Int):Bool:=decide (gE l=0) && decide (((gA l % 17592186044416:Nat):Int)=first) && decide (ep≤((gA l / 17592186044416:Nat):Int))
def scanM:Nat→List Nat→Int→Int→List (Nat × List Nat) × Nat
 | 0,_,_,_=>([],0)
 | f + 1,l,first,ep=>
  if l=[] then ([],0) else
  if on l first ep=true then
   let q:=scanM f (l.drop (16 + gN l)) (IntKind.wrap .i64 (first + 1)) ((gA l / 17592186044416:Nat):Int)
   ((gA l,gB l)::q.1,16 + gN l + q.2)
  else ([],0)
theorem gA_lt {l:List Nat} (hb:∀ b∈l,b < 256):gA l < 18446744073709551616:=by
 have h1:=ud_lt ((l.drop 4).take 8) fun v hv=>hb v (List.mem_of_mem_drop (List.mem_of_mem_take hv))
 have h2:((l.drop 4).take 8).length≤8:=by rw [List.length_take]; omega
 have h3:256 ^ ((l.drop 4).take 8).length≤256 ^ 8:=Nat.pow_le_pow_right (by decide) h2
 have h8:(256:Nat) ^ 8=18446744073709551616:=by decide
 unfold gA
 omega
theorem gE_0 {l:List Nat} (h:gE l=0):gN l≤1024∧16 + gN l≤l.length:=by
 unfold gE at h
 by_cases c1:l.length < 4
 ·rw [if_pos c1] at h; cases h
 rw [if_neg c1] at h
 by_cases c2:1024 < gN l
 ·rw [if_pos c2] at h; cases h
 rw [if_neg c2] at h
 by_cases c3:l.length < 16 + gN l
 ·rw [if_pos c3] at h; cases h
 omega
theorem scan_loop {k:K.Fn 2} {H0:Hp} {x:AV} {l:List Nat} (hx:Rw H0 1 x (bs l)) (hb:∀ b∈l,b < 256) (hl:l.length≤16000000):∀ (f n:Nat) (first ep:Int) (s:AV) (rs:List (Nat × List Nat)) (ys:List AV) (H:Hp),
  l.length≤n + f→n≤l.length→Out [] H0 H→Rs H s rs ys→(∀ j∈rid s,H0.next≤j)→(∀ y∈ys,∀ i∈rid y,H0.next≤i)→rs.length * 16≤n→
  ∃ s' ys' H',l_seg_Scan JN GO cK k x (.int .i64 first) (.int .i64 ep) s (.int .i64 (n:Nat)) H=k s' (.int .i64 ((n + (scanM f (l.drop n) first ep).2:Nat):Int)) H'∧Out [] H0 H'∧
   Rs H' s' (rs++(scanM f (l.drop n) first ep).1) ys'∧(∀ j∈rid s',H0.next≤j)∧(∀ y∈ys',∀ i∈rid y,H0.next≤i)
 | 0,n,first,ep,s,rs,ys,H,hf,hn,ho,hs,hr,hys,hc=>by
  have hxn:=hx.len1
  rw [bs_len] at hxn
  refine ⟨s,ys,H,?_,ho,by simpa [scanM] using hs,hr,hys⟩
  rw [ql_seg_Scan]
  have d:decide (((n:Nat):Int) < ((l.length:Nat):Int))=false:=decide_eq_false (by omega)
  simp only [hxn,d,scanM,Nat.add_zero,k_s,k_x,Int.reduceBEq,Int.reduceBNe,Int.reduceLT,Int.reduceLE,Int.reduceGT,Int.reduceGE,Int.reduceNeg]
 | f + 1,n,first,ep,s,rs,ys,H,hf,hn,ho,hs,hr,hys,hc=>by
  have hxn:=hx.len1
  rw [bs_len] at hxn
  by_cases hend:l.length≤n
  ·have he:l.drop n=[]:=List.drop_eq_nil_of_le hend
   refine ⟨s,ys,H,?_,ho,by rw [he]; simpa [scanM] using hs,hr,hys⟩
   rw [ql_seg_Scan,he]
   have d:decide (((n:Nat):Int) < ((l.length:Nat):Int))=false:=decide_eq_false (by omega)
   simp only [hxn,d,scanM,if_true,Nat.add_zero,k_s,k_x,Int.reduceBEq,Int.reduceBNe,Int.reduceLT,Int.reduceLE,Int.reduceGT,Int.reduceGE,Int.reduceNeg]
  ·have d:decide (((n:Nat):Int) < ((l.length:Nat):Int))=true:=decide_eq_true (by omega)
   have hne:l.drop n≠[]:=fun q=>by
    have:=congrArg List.length q
    rw [List.length_drop] at this
    simp at this
    omega
   have hx1:=hx.out ho fun j _ q=>by cases q
   obtain ⟨x1,u1,u2⟩:=cut_c hx1 (a:=n) (b:=l.length) (by omega) (Nat.le_refl _) (lo:=some (.int .i64 (n:Nat))) (hi:=none) (Bd.yes _ _ _) (Bd.no _)
   rw [show (l.drop n).take (l.length - n)=l.drop n from List.take_of_length_le (by rw [List.length_drop]; exact Nat.le_refl _)] at u2
   have hb1:∀ b∈l.drop n,b < 256:=fun b hv=>hb b (List.mem_of_mem_drop hv)
   obtain ⟨y,H1,g1,g2,g3,g4⟩:=get_c u2 hb1 (by rw [List.length_drop]; omega)
   obtain ⟨H2,n1,n2,n3,n4⟩:=newCells_ok H1 [.int .u64 0,.slice0] 37 0 (by simp)
   have hgA:=gA_lt hb1
   generalize hL:l.drop n=L at *
   have oy:Out [] H1 H2:=n3
   have yr2:=g3.rw.out n3 fun j _ q=>by cases q
   obtain ⟨H3,t1,t2,t3,t4⟩:=st_all (n:=2) n2 (by omega) (cells_rec g3.rw ((if gE L=0 then gA L else 0:Nat):Int)) rfl rfl (by
    intro v hv
    rcases List.mem_cons.1 hv with rfl | hv
    ·rfl
    ·rcases List.mem_cons.1 hv with rfl | hv
     ·exact one_rw g3.rw
     ·cases hv)
   have l0:ld (.ptr H1.next 0) H3=some (.int .u64 ((if gE L=0 then gA L else 0:Nat):Int)):=t2.ld rfl
   have o3:Out [] H1 H3:=n3.then t3 fun j hj=>by rw [List.mem_singleton] at hj; exact .inr (by omega)
   have oH3:Out [] H0 H3:=(ho.trans g2).trans o3
   by_cases hE:gE L=0
   ·simp only [if_pos hE] at g1 g3 t1 t2 l0
    have d1:(((gE L:Nat):Int) != 0)=false:=by rw [hE]; rfl
    have f1:=off_c (H:=H3) (gA L) hgA
    have f2:=epoch_c (H:=H3) (gA L) hgA
    by_cases h1:((gA L % 17592186044416:Nat):Int)=first
    ·have d2:(((gA L % 17592186044416:Nat):Int) != first)=false:=by rw [bne_eq_false_iff_eq]; exact h1
     by_cases h2:ep≤((gA L / 17592186044416:Nat):Int)
     ·have d3:decide (((gA L / 17592186044416:Nat):Int) < ep)=false:=decide_eq_false (by omega)
      have hon:on L first ep=true:=by unfold on; rw [decide_eq_true hE,decide_eq_true h1,decide_eq_true h2]; rfl
      obtain ⟨b1,b2⟩:=gE_0 hE
      have bL:L.length + n=l.length:=by rw [← hL,List.length_drop]; omega
      have cr:=cells_rec g3.rw ((gA L:Nat):Int)
      have t5:lda 2 (.ptr H1.next 0) H3=some (.agg [.int .u64 ((gA L:Nat):Int),y]):=t2.lda (n:=2) (o:=0) (by simp)
      have fl2:fl [.int .u64 0,.slice0] [(0,2,.agg [.int .u64 ((gA L:Nat):Int),y])]=some [.int .u64 ((gA L:Nat):Int),y]:=by
       simp [fl,cr]
      obtain ⟨H4,m1,m2,m3,m4⟩:=newCells_ok H3 [.int .u64 ((gA L:Nat):Int),y] 37 0 (by simp)
      have oH4:Out [] H H4:=(g2.trans o3).trans m3
      have hrow:Rw H4 2 (.slice H3.next 0 1 1 true 2) [.int .u64 ((gA L:Nat):Int),y] := .mk m2.ro rfl (Nat.le_refl _) rfl
      have hs4:=hs.out oH4
      have hsl:=hs.own.rw.lt
      obtain ⟨s',H5,a1,a2,a3,a4⟩:=append_ok (z:=[.int .u64 0,.slice0]) hs4.own hrow (by
       intro v hv
       rcases List.mem_cons.1 hv with rfl | hv
       ·rfl
       ·rcases List.mem_cons.1 hv with rfl | hv
        ·exact one_rw g3.rw
        ·cases hv) (by omega) (by rw [rcs_len _ _ hs.len]; simp only [List.length_cons,List.length_nil]; omega)
      have o5:Out [] H0 H5:=(ho.trans oH4).then a3 fun j hj => .inr (hr j hj)
      have yo:Rw H4 1 y (bs (gB L)):=g3.rw.out (o3.trans m3) fun j _ q=>by cases q
      have yns:∀ i∈rid y,i∉rid s:=fun i hi q=>by
       have:=g4 i hi
       have:=hsl i q
       omega
      have hrs':Rs H5 s' (rs++[(gA L,gB L)]) (ys++[y]):=by
       refine ⟨by rw [rcs_app _ _ _ _ hs.len]; exact a2,by simp [hs.len],?_,?_⟩
       ·intro j z r h3 h4
        by_cases hj:j < ys.length
        ·rw [List.getElem?_append_left hj] at h3
         rw [List.getElem?_append_left (by rw [← hs.len]; exact hj)] at h4
         exact (hs4.row j z r h3 h4).out a3 (hs.sep z (List.mem_of_getElem? h3))
        ·rw [List.getElem?_append_right (by omega)] at h3
         rw [List.getElem?_append_right (by rw [← hs.len]; omega),← hs.len] at h4
         obtain ⟨e1,rfl⟩:j - ys.length=0∧z=y:=by
          cases hq:j - ys.length with
          | zero=>rw [hq] at h3; simp at h3; exact ⟨rfl,h3.symm⟩
          | succ q=>rw [hq] at h3; simp at h3
         rw [e1] at h4
         simp at h4
         subst h4
         exact yo.out a3 yns
       ·intro z hz i hi q
        rcases List.mem_append.1 hz with hz | hz
        ·rcases a4 i q with q | q
         ·exact hs.sep z hz i hi q
         ·obtain ⟨j,hj⟩:=List.mem_iff_getElem?.1 hz
          obtain ⟨r,hr'⟩:∃ r,rs[j]? = some r:=⟨_,List.getElem?_eq_getElem (by rw [← hs.len]; exact (List.getElem?_eq_some_iff.1 hj).1)⟩
          have:=(hs4.row j z r hj hr').lt i hi
          omega
        ·rw [List.mem_singleton] at hz
         subst hz
         rcases a4 i q with q | q
         ·exact yns i hi q
         ·have:=yo.lt i hi; omega
      have hr5:∀ j∈rid s',H0.next≤j:=fun j hj=>(a4 j hj).elim (hr j) fun q=>Nat.le_trans (ho.trans oH4).1 q
      have t6:ld (.ptr H1.next 0) H5=some (.int .u64 ((gA L:Nat):Int)):=((t2.out m3 fun q=>by cases q).out a3 fun q=>by
       have:=hsl _ q
       have:=g2.1
       omega).ld rfl
      have f3:=epoch_c (H:=H5) (gA L) hgA
      obtain ⟨s2,ys2,H6,k1,k2,k3,k4,k5⟩:=scan_loop (k:=k) hx hb hl f (n + (16 + gN L)) (IntKind.wrap .i64 (first + 1)) ((gA L / 17592186044416:Nat):Int) s' _ _ H5 (by omega) (by omega) o5 hrs' hr5 (fun z hz i hi=>(List.mem_append.1 hz).elim (fun q=>hys z q i hi) fun q=>by rw [List.mem_singleton] at q; subst q; exact Nat.le_trans ho.1 (g4 i hi)) (by rw [List.length_append]; simp only [List.length_cons,List.length_nil]; omega)
      have hdr:l.drop (n + (16 + gN L))=L.drop (16 + gN L):=by rw [← List.drop_drop,hL]
      rw [hdr] at k1 k3
      have hsm:scanM (f + 1) L first ep=((gA L,gB L)::(scanM f (L.drop (16 + gN L)) (IntKind.wrap .i64 (first + 1)) ((gA L / 17592186044416:Nat):Int)).1,16 + gN L + (scanM f (L.drop (16 + gN L)) (IntKind.wrap .i64 (first + 1)) ((gA L / 17592186044416:Nat):Int)).2):=by
       rw [scanM,if_neg hne,if_pos hon]
      have w1:IntKind.wrap .i64 (((n:Nat):Int) + ((16 + gN L:Nat):Int))=((n + (16 + gN L):Nat):Int):=by rw [wrap_i64 (by omega) (by omega)]; rfl
      rw [hsm]
      refine ⟨s2,ys2,H6,?_,k2,by simpa using k3,k4,k5⟩
      rw [ql_seg_Scan]
      simp only [hxn,d,u1,g1,n1,t1,l0,d1,f1,d2,f2,d3,t5,fl2,m1,a1,w1,t6,f3,k_s,k_x,Int.reduceBEq,Int.reduceBNe,Int.reduceLT,Int.reduceLE,Int.reduceGT,Int.reduceGE,Int.reduceNeg]
      rw [k1]
      congr 3
      omega
     ·have d3:decide (((gA L / 17592186044416:Nat):Int) < ep)=true:=decide_eq_true (by omega)
      have hon:¬ on L first ep=true:=by unfold on; rw [decide_eq_false h2,Bool.and_false]; decide
      have hsm:scanM (f + 1) L first ep=([],0):=by rw [scanM,if_neg hne,if_neg hon]
      rw [hsm]
      refine ⟨s,ys,H3,?_,oH3,by simpa using hs.out (g2.trans o3),hr,hys⟩
      rw [ql_seg_Scan]
      simp only [hxn,d,u1,g1,n1,t1,l0,d1,f1,d2,f2,d3,Nat.add_zero,k_s,k_x,Int.reduceBEq,Int.reduceBNe,Int.reduceLT,Int.reduceLE,Int.reduceGT,Int.reduceGE,Int.reduceNeg]
    ·have d2:(((gA L % 17592186044416:Nat):Int) != first)=true:=by rw [bne_iff_ne]; exact h1
     have hon:¬ on L first ep=true:=by unfold on; rw [decide_eq_false h1,Bool.and_false,Bool.false_and]; decide
     have hsm:scanM (f + 1) L first ep=([],0):=by rw [scanM,if_neg hne,if_neg hon]
     rw [hsm]
     refine ⟨s,ys,H3,?_,oH3,by simpa using hs.out (g2.trans o3),hr,hys⟩
     rw [ql_seg_Scan]
     simp only [hxn,d,u1,g1,n1,t1,l0,d1,f1,d2,Nat.add_zero,k_s,k_x,Int.reduceBEq,Int.reduceBNe,Int.reduceLT,Int.reduceLE,Int.reduceGT,Int.reduceGE,Int.reduceNeg]
   ·have d1:(((gE L:Nat):Int) != 0)=true:=by rw [bne_iff_ne]; omega
    have hon:¬ on L first ep=true:=by unfold on; rw [decide_eq_false hE,Bool.false_and,Bool.false_and]; decide
    have hsm:scanM (f + 1) L first ep=([],0):=by rw [scanM,if_neg hne,if_neg hon]
    rw [hsm]
    refine ⟨s,ys,H3,?_,oH3,by simpa using hs.out (g2.trans o3),hr,hys⟩
    rw [ql_seg_Scan]
    simp only [hxn,d,u1,g1,n1,t1,d1,Nat.add_zero,k_s,k_x,Int.reduceBEq,Int.reduceBNe,Int.reduceLT,Int.reduceLE,Int.reduceGT,Int.reduceGE,Int.reduceNeg]
theorem scan_c {H:Hp} {x:AV} {l:List Nat} (hx:Rw H 1 x (bs l)) (hb:∀ b∈l,b < 256) (hl:l.length≤16000000) (first ep:Int) :
  ∃ s ys H',cK (.func (.func 52) [] []) [x,.int .i64 first,.int .i64 ep] H=some (.tuple [s,.int .i64 (((scanM l.length l first ep).2:Nat):Int)],H')∧Out [] H H'∧Rs H' s (scanM l.length l first ep).1 ys∧(∀ j∈rid s,H.next≤j)∧(∀ y∈ys,∀ i∈rid y,H.next≤i):=by
 obtain ⟨s,ys,H',h1,h2,h3,h4,h5⟩:=scan_loop (k:=fun a b h=>some (.tuple [a,b],h)) hx hb hl l.length 0 first ep .slice0 [] [] H (by omega) (Nat.zero_le _) (Out.refl _ _) ⟨.nil,rfl,fun j y r h=>by simp at h,fun y h=>by cases h⟩ (fun j hj=>by cases hj) (fun y hy=>by cases hy) (by simp)
 rw [List.drop_zero,Nat.zero_add,show (((0:Nat):Int))=0 from rfl] at h1
 rw [List.drop_zero,List.nil_append] at h3
 refine ⟨s,ys,H',c_seg_Scan ?_,h2,h3,h4,h5⟩
 unfold s_seg_Scan
 simp only [k_s,k_x,Int.reduceBEq,Int.reduceBNe,Int.reduceLT,Int.reduceLE,Int.reduceGT,Int.reduceGE,Int.reduceNeg]
 exact h1
theorem take_l {α:Type} (x y:List α) {n:Nat} (h:x.length=n):(x++y).take n=x:=by subst h; simp
theorem drop_l {α:Type} (x y:List α) {n:Nat} (h:x.length=n):(x++y).drop n=y:=by subst h; simp
theorem hd_drop {α:Type} {l r:List α} {v:α} {i:Nat} (h:l.drop i=v::r):i < l.length∧l[i]? = some v∧l.drop (i + 1)=r:=by
 have hi:i < l.length:=by
  rcases Nat.lt_or_ge i l.length with q | q
  ·exact q
  ·rw [List.drop_eq_nil_of_le q] at h; cases h
 refine ⟨hi,?_,?_⟩
 ·have:=congrArg (fun z=>z[0]?) h
  simpa using this
 ·rw [← List.drop_drop,h]; rfl
theorem fr_app (a:Nat) (b t:List Nat):fr a b++t=le 4 b.length++(le 8 a++(le 4 (onS 1 (hd12 a b++b))++(b++t))):=by
 simp [fr,hd12,List.append_assoc]
theorem fr_app2 (a:Nat) (b t:List Nat):fr a b++t=hd12 a b++(le 4 (onS 1 (hd12 a b++b))++(b++t)):=by
 simp [fr,List.append_assoc]
theorem fr_app3 (a:Nat) (b t:List Nat):fr a b++t=(hd12 a b++le 4 (onS 1 (hd12 a b++b)))++(b++t):=by
 simp [fr,List.append_assoc]
theorem gN_fr (a:Nat) {b:List Nat} (t:List Nat) (hn:b.length≤1024):gN (fr a b++t)=b.length:=by
 unfold gN
 rw [fr_app,take_l _ _ (le_len 4 _),ud_le]
 exact Nat.mod_eq_of_lt (Nat.lt_of_le_of_lt hn (by decide))
theorem gA_fr {a:Nat} (b t:List Nat) (ha:a < 18446744073709551616):gA (fr a b++t)=a:=by
 unfold gA
 rw [fr_app,drop_l _ _ (le_len 4 _),take_l _ _ (le_len 8 _),ud_le]
 exact Nat.mod_eq_of_lt (Nat.lt_of_lt_of_le ha (by decide))
theorem gB_fr (a:Nat) {b:List Nat} (t:List Nat) (hn:b.length≤1024):gB (fr a b++t)=b:=by
 unfold gB
 rw [gN_fr a t hn,fr_app3,drop_l _ _ (by rw [List.length_append,hd12_len,le_len]),take_l _ _ rfl]
theorem gE_fr (a:Nat) {b:List Nat} (t:List Nat) (hn:b.length≤1024):gE (fr a b++t)=0:=by
 have hl:(fr a b++t).length=16 + b.length + t.length:=by rw [List.length_append,fr_len]
 have h1:(fr a b++t).take 12=hd12 a b:=by rw [fr_app2,take_l _ _ (hd12_len a b)]
 have h2:((fr a b++t).drop 12).take 4=le 4 (onS 1 (hd12 a b++b)):=by rw [fr_app2,drop_l _ _ (hd12_len a b),take_l _ _ (le_len 4 _)]
 have h3:ud (le 4 (onS 1 (hd12 a b++b)))=onS 1 (hd12 a b++b):=by
  rw [ud_le]
  exact Nat.mod_eq_of_lt (onS_lt (s:=1) (by decide) _).1
 unfold gE
 rw [gN_fr a t hn,gB_fr a t hn,h1,h2,h3,if_neg (by omega),if_neg (by omega),if_neg (by omega),if_neg (by simp)]
theorem fl_rec {H:Hp} {es:Nat} {y:AV} {l:List AV} (h:Rw H es y l) (a:Int):fl [.int .u64 0,.slice0] [(0,1,.int .u64 a),(1,1,y)]=some [.int .u64 a,y]:=by
 have c1:cellsV (.int .u64 a)=some [.int .u64 a]:=rfl
 have c2:=cells_rw h
 simp [fl,c1,c2]
theorem put_big {H:Hp} {x y:AV} {b:List Nat} {s:Int} (hy:Rw H 1 y (bs b)) (hn:1024 < b.length) :
  ∃ H',cK (.func (.func 26) [] []) [x,.agg [.int .u64 s,y]] H=some (.tuple [.slice0,.int .i64 14],H')∧Out [] H H':=by
 obtain ⟨H1,b1,b2,b3,b4⟩:=bx_ok H 37 _ _ (cells_rec hy s) (by simp)
 have hyl:=hy.len1
 rw [bs_len] at hyl
 have d1:decide (1024 < ((b.length:Nat):Int))=true:=decide_eq_true (by omega)
 have l1:ld (.ptr H.next 1) H1=some y:=b2.ld rfl
 refine ⟨H1,c_frame_Put ?_,b3⟩
 unfold s_frame_Put
 simp only [b1,l1,hyl,d1,k_s,k_x,Int.reduceBEq,Int.reduceBNe,Int.reduceLT,Int.reduceLE,Int.reduceGT,Int.reduceGE,Int.reduceNeg]
theorem iaN {H:Hp} {es:Nat} {x:AV} {l:List AV} (h:Rw H es x l) (hes:0 < es) {j:Nat} (hj:j * es < l.length) (k:IntKind) :
  ∃ i o,ia es x (.int k j)=some (.ptr i o)∧∀ r v,l[j * es + r]? = some v→ld (.ptr i (o + r)) H=some v:=by
 cases h with
 | nil=>simp at hj
 | emp=>simp at hj
 | mk hr hn hc he=>
  refine ⟨_,_,ia_s (Nat.lt_of_mul_lt_mul_right (a:=es) (by omega)),fun r v hv => ?_⟩
  rw [Nat.add_assoc]
  exact hr.ld hv
theorem rcs_get:∀ (rs:List (Nat × List Nat)) (ys:List AV) (j:Nat) (r:Nat × List Nat) (y:AV),rs[j]? = some r→ys[j]? = some y→(rcs rs ys)[j * 2 + 0]? = some (.int .u64 (r.1:Nat))∧(rcs rs ys)[j * 2 + 1]? = some y
 | _::_,_::_,0,r,y,h,k=>by cases h; cases k; exact ⟨rfl,rfl⟩
 | _::rs,_::ys,j + 1,r,y,h,k=>by
  have:=rcs_get rs ys j r y h k
  rw [show (j + 1) * 2 + 0=j * 2 + 0 + 1 + 1 by omega,show (j + 1) * 2 + 1=j * 2 + 1 + 1 + 1 by omega]
  exact this
theorem Rs.lenc {H:Hp} {x:AV} {rs:List (Nat × List Nat)} {ys:List AV} (h:Rs H x rs ys):lenx x=some (.int .i64 rs.length):=by
 obtain ⟨n,h1,h2⟩:=h.own.rw.len
 rw [rcs_len _ _ h.len] at h2
 rw [h1]
 have:n=rs.length:=by omega
 rw [this]
theorem Rs.at {H:Hp} {x:AV} {rs:List (Nat × List Nat)} {ys:List AV} (h:Rs H x rs ys) {j:Nat} {r:Nat × List Nat} (hj:rs[j]? = some r) (k:IntKind) :
  ∃ i o y,ia 2 x (.int k j)=some (.ptr i o)∧ld (.ptr i (o + 0)) H=some (.int .u64 (r.1:Nat))∧ld (.ptr i (o + 1)) H=some y∧Rw H 1 y (bs r.2):=by
 have hlt:=(List.getElem?_eq_some_iff.1 hj).1
 obtain ⟨y0,hy⟩:∃ y0,ys[j]? = some y0:=⟨_,List.getElem?_eq_getElem (by rw [h.len]; exact hlt)⟩
 obtain ⟨g0,g1⟩:=rcs_get rs ys j r _ hj hy
 obtain ⟨i,o,a1,a2⟩:=iaN h.own.rw (by decide) (j:=j) (by rw [rcs_len _ _ h.len]; omega) k
 exact ⟨i,o,y0,a1,a2 0 _ g0,a2 1 _ g1,h.row j _ r hy hj⟩
theorem pick_list {α:Type} (Q:Nat→α→Prop):∀ n,(∀ j,j < n→∃ a,Q j a)→∃ l:List α,l.length=n∧∀ j a,l[j]? = some a→Q j a
 | 0,_=>⟨[],rfl,fun j a h=>by simp at h⟩
 | n + 1,h=>by
  obtain ⟨l,hl,hq⟩:=pick_list Q n fun j hj=>h j (by omega)
  obtain ⟨a,ha⟩:=h n (by omega)
  refine ⟨l++[a],by simp [hl],fun j b hb => ?_⟩
  by_cases hj:j < l.length
  ·rw [List.getElem?_append_left hj] at hb
   exact hq j b hb
  ·rw [List.getElem?_append_right (by omega)] at hb
   have hlt:=(List.getElem?_eq_some_iff.1 hb).1
   rw [List.length_singleton] at hlt
   have e:j=n:=by omega
   subst e
   rw [hl,Nat.sub_self] at hb
   cases hb
   exact ha
theorem is_b2 {H:Hp} {l:List AV} {d:D} (h:Is H (.slice 1 (.int .u8)) l d):∃ x b,[x]=l∧Rw H 1 x (bs b)∧(∀ c∈b,c < 256)∧b.length≤reachBytes:=by
 cases h with
 | slice hr hl hd hb=>
  obtain ⟨b,h1,h2⟩:=is_bytes2 (.slice hr hl hd hb)
  exact ⟨_,b,rfl,h1,h2⟩
def Mk (H:Hp) (x:AV) (ms:List (Int × Int × List Nat)):Prop:=∃ cs,Rw H 3 x cs∧cs.length=ms.length * 3∧∀ j m,ms[j]? = some m→cs[j * 3 + 0]? = some (.int .i64 m.1)∧cs[j * 3 + 1]? = some (.int .i64 m.2.1)∧∃ y,cs[j * 3 + 2]? = some y∧Rw H 1 y (bs m.2.2)
theorem Mk.out {H H':Hp} {x:AV} {ms:List (Int × Int × List Nat)} (h:Mk H x ms) (k:Out [] H H'):Mk H' x ms:=by
 obtain ⟨cs,h1,h2,h3⟩:=h
 refine ⟨cs,h1.out k (fun j _ q=>by cases q),h2,fun j m hm => ?_⟩
 obtain ⟨a,b,y,c,d⟩:=h3 j m hm
 exact ⟨a,b,y,c,d.out k fun j _ q=>by cases q⟩
theorem Mk.lenc {H:Hp} {x:AV} {ms:List (Int × Int × List Nat)} (h:Mk H x ms):lenx x=some (.int .i64 ms.length):=by
 obtain ⟨cs,h1,h2,h3⟩:=h
 obtain ⟨n,a,b⟩:=h1.len
 have:n=ms.length:=by omega
 rw [a,this]
theorem Mk.at {H:Hp} {x:AV} {ms:List (Int × Int × List Nat)} (h:Mk H x ms) {j:Nat} {m:Int × Int × List Nat} (hj:ms[j]? = some m) (k:IntKind) :
  ∃ i o y,ia 3 x (.int k j)=some (.ptr i o)∧ld (.ptr i (o + 0)) H=some (.int .i64 m.1)∧ld (.ptr i (o + 1)) H=some (.int .i64 m.2.1)∧ld (.ptr i (o + 2)) H=some y∧Rw H 1 y (bs m.2.2):=by
 obtain ⟨cs,h1,h2,h3⟩:=h
 obtain ⟨a,b,y,c,d⟩:=h3 j m hj
 have hlt:=(List.getElem?_eq_some_iff.1 hj).1
 obtain ⟨i,o,a1,a2⟩:=iaN h1 (by decide) (j:=j) (by omega) k
 exact ⟨i,o,y,a1,a2 0 _ a,a2 1 _ b,a2 2 _ c,d⟩
end Go.Proofs.YtbdlbhlhnpblpaaGreatDoor.SgK
namespace Go.Proofs.YtbdlbhlhnpblpaaGreatDoor.SgN
open Go Am Am.K WlEnv Sg SegPrim
set_option linter.unusedVariables false
set_option linter.unusedSimpArgs false
theorem vsA {H:Am.Hp} (hT:hasT H begin0):VsA H:=by
 obtain ⟨el,h⟩:=hT
 have h1:=h 7 (tab64.map (AV.int .u8)) (by simp [begin0])
 have h2:=h 1 [.iface 215 (.ptr 10 0)] (by simp [begin0])
 have h3:=h 2 [.iface 215 (.ptr 9 0)] (by simp [begin0])
 refine ⟨?_,⟨215,.ptr 10 0,?_⟩,⟨215,.ptr 9 0,?_⟩⟩
 ·unfold cellAt; rw [h1]; kernel_rfl
 ·unfold cellAt; rw [h2]; kernel_rfl
 ·unfold cellAt; rw [h3]; kernel_rfl
theorem name_c (an:Nat→An) {H:Am.Hp} (hV:VsA H) (a:Int):CK Tryz.prog (regK Tryz.prog) ext prim an (.func (.func 46) [] []) [.int .i64 a] H=some (.tuple [.str (nms a),.bool (inN a)],H):=by
 refine ck_prim (p:=nameP) (by kernel_rfl) ?_
 unfold nameP
 simp only [if_pos hV]
theorem parse_c (an:Nat→An) {H:Am.Hp} (hV:VsA H) (s:List Nat) (hs:s.length≤281474976710656):CK Tryz.prog (regK Tryz.prog) ext prim an (.func (.func 53) [] []) [.str s] H=some (.tuple [.int .i64 (sps s).1,.bool (sps s).2],H):=by
 refine ck_prim (p:=parseP) (by kernel_rfl) ?_
 unfold parseP
 simp only [if_pos (show VsA H∧s.length≤281474976710656 from ⟨hV,hs⟩)]
theorem inN_t {a:Int} (h:0≤a) (k:a≤17592186044415):inN a=true:=by unfold inN; simp; omega
theorem nms_t {a:Int} (h:inN a=true):nms a=(nm a.toNat).map (·.toNat):=by unfold nms; rw [h]; rfl
theorem nms_len {a:Int} (h:inN a=true):(nms a).length=14:=by rw [nms_t h]; simp [nm,pad_length]
theorem sps_nms {a:Int} (h:inN a=true):sps (nms a)=(a.toNat,true):=by
 rw [nms_t h]
 unfold sps
 rw [List.map_map,List.map_congr_left (g:=id) (fun x _=>by simp),List.map_id]
 refine sp_nm _ ?_
 unfold inN at h
 simp at h
 omega
end Go.Proofs.YtbdlbhlhnpblpaaGreatDoor.SgN
namespace Go.Proofs.YtbdlbhlhnpblpaaGreatDoor.SgK
open Go Am Am.K WlEnv WlK Sg SegPrim SgN SegSort
set_option linter.unusedVariables false
set_option linter.unusedSimpArgs false
theorem nums_len (l:List Int):(nums l).length=l.length:=by simp [nums]
theorem nums_one (l:List Int):∀ v∈nums l,oneC v=true:=by
 intro v hv
 obtain ⟨b,_,rfl⟩:=List.mem_map.1 hv
 rfl
theorem nums_app (a b:List Int):nums (a++b)=nums a++nums b:=by simp [nums]
theorem nums_get {l:List Int} {j:Nat} {z:Int} (h:l[j]? = some z):(nums l)[j]? = some (.int .i64 z):=by simp [nums,h]
theorem sort_c {H:Hp} {x:AV} {zs:List Int} (hx:Ow H 2 1 x (nums zs)) (hl:zs.length≤16777216) :
  ∃ H',cK (.func (.func 54) [] []) [x] H=some (.tuple [],H')∧Ow H' 2 1 x (nums (sortZ zs))∧Out (rid x) H H':=by
 generalize hz:nums zs=l at hx
 cases hx with
 | nil=>
  have:zs=[]:=by simpa [nums] using hz
  subst this
  refine ⟨H,ck_prim (p:=sortP) (by kernel_rfl) ?_,?_,Out.refl _ _⟩
  ·rfl
  ·simp [sortZ,nums]; exact .nil
 | @emp i off=>
  have:zs=[]:=by simpa [nums] using hz
  subst this
  refine ⟨H,ck_prim (p:=sortP) (by kernel_rfl) ?_,?_,Out.refl _ _⟩
  ·unfold sortP
   simp only [if_true]
  ·simp [sortZ,nums]; exact .emp
 | @mk i off n cap ex _ c lo hi fl hi' hg hf hlo hhi hcap hn hc hs h1 he=>
  subst hz
  rw [nums_len,Nat.mul_one] at hn
  by_cases h0:n=0
  ·subst h0
   have:zs=[]:=List.length_eq_zero_iff.1 hn
   subst this
   refine ⟨H,ck_prim (p:=sortP) (by kernel_rfl) ?_,?_,Out.refl _ _⟩
   ·unfold sortP
    simp only [if_true]
   ·exact .mk hi' hg hf hlo hhi hcap (by simp [sortZ,nums]) (by simp [sortZ,nums]) hs (by simp [sortZ,nums]) he
  ·have hsl:=sortZ_len zs
   have hro:Ro H i off (nums zs):=⟨hi',c,lo,hi,2,fl,hg,hlo,by rw [nums_len]; omega,hc⟩
   have hcells:=hro.cellsAt
   rw [nums_len,hn] at hcells
   have hbind:(Am.cellsAt H i off n).bind zsOf=some zs:=by rw [hcells]; exact zsOf_nums zs
   have hrun:sortP [.slice i off n cap ex 1] H=some (.tuple [],{ H with h:=H.h.upd i (.cells (c.puts off (nums (sortZ zs))) lo hi 2 fl) }):=by
    unfold sortP
    simp only
    rw [if_neg h0,if_pos ⟨trivial,by omega⟩,hg,Option.bind_some]
    unfold sort2
    simp only
    rw [if_pos ⟨hlo,by omega,hf⟩,hbind]
    rfl
   have hget:∀ j,(H.h.upd i (AO.cells (c.puts off (nums (sortZ zs))) lo hi 2 fl)).get j=if j=i then some (AO.cells (c.puts off (nums (sortZ zs))) lo hi 2 fl) else H.h.get j:=fun j=>Tr.get_upd _ _ _ _ (by rw [hg]; rfl)
   refine ⟨_,ck_prim (p:=sortP) (by kernel_rfl) hrun,?_,⟨Nat.le_refl _,fun j hj hn' => ?_⟩⟩
   ·refine .mk (c:=c.puts off (nums (sortZ zs))) hi' ?_ hf hlo hhi hcap (by rw [nums_len]; omega) (fun k v hk => ?_) (fun k hk => ?_) (nums_one _) he
    ·show (H.h.upd i _).get i=_
     rw [hget,if_pos rfl]
    ·have hk':=(List.getElem?_eq_some_iff.1 hk).1
     rw [Tr.get_putsA,if_pos ⟨by omega,by omega⟩,Nat.add_sub_cancel_left]
     exact hk
    ·rw [Tr.get_putsA]
     split
     ·rename_i hin
      rw [List.getElem?_eq_getElem (by omega)]
      rfl
     ·exact hs k hk
   ·show (H.h.upd i _).get j=_
    rw [hget,if_neg (fun q=>hn' (by subst q; rw [rid_s he]; exact .head _))]
theorem ow_set {H:Hp} {el:Nat} {x:AV} {l:List AV} (h:Ow H el 1 x l) {j:Nat} (hj:j < l.length) {v:AV} (hv:oneC v=true) (hc:cellsV v=some [v]) :
  ∃ q H',(∀ k,ia 1 x (.int k j)=some q)∧st 1 q v H=some H'∧Ow H' el 1 x (l.set j v)∧Out (rid x) H H'∧H'.next=H.next:=by
 cases h with
 | nil=>simp at hj
 | emp=>simp at hj
 | @mk i off n cap ex _ c lo hi fl hi' hg hf hlo hhi hcap hn hcc hs h1 he=>
  obtain ⟨H',c',q1,q2,q3,q4,q5⟩:=setCells_get [v] H i (off + j * 1) c lo hi el fl hg hf (by omega) (by simp only [List.length_cons,List.length_nil]; omega) (fun k hk=>by
   simp only [List.length_cons,List.length_nil] at hk
   have:=hs j (by omega)
   rw [show off + j * 1 + k=off + j by omega]
   exact this) (fun u hu=>by rw [List.mem_singleton] at hu; subst hu; exact hv)
  simp only [List.length_cons,List.length_nil] at q5
  refine ⟨.ptr i (off + j * 1),H',fun k=>ia_s (by omega),?_,?_,⟨by omega,fun k hk hn'=>q4 k fun e=>hn' (by subst e; rw [rid_s he]; exact .head _)⟩,q2⟩
  ·unfold st
   simp only [hc]
   exact q1
  ·refine .mk (by omega) q3 hf hlo hhi hcap (by rw [List.length_set]; exact hn) (fun k w hk => ?_) (fun k hk => ?_) (fun w hw => ?_) he
   ·rw [q5]
    rw [List.getElem?_set] at hk
    split at hk
    ·rename_i e
     subst e
     rw [if_pos ⟨by omega,by omega⟩,show off + j - (off + j * 1)=0 by omega]
     exact hk
    ·rw [if_neg (by omega)]
     exact hcc k w hk
   ·rw [q5]
    split
    ·rename_i e
     rw [show off + k - (off + j * 1)=0 by omega]
     rfl
    ·exact hs k hk
   ·rcases List.mem_or_eq_of_mem_set hw with hw | rfl
    ·exact h1 w hw
    ·exact hv
theorem builtin_clear (Q:Program) (t:Array TypeId) (x:AV) (H:Hp):builtinA Q .clear t [x] H=(clearA Q t x H).map fun H=>(undefA,H):=rfl
theorem clear_ok {H:Hp} {x:AV} {l:List AV} (h:Ow H 2 1 x l) (h0:0 < l.length) {k:Nat} (hk:k≤l.length) :
  ∃ y H',sll 1 x (some (.int .i64 (k:Nat))) none none=some y∧builtinA P .clear #[83] [y] H=some (undefA,H')∧Ow H' 2 1 x (l.take k++List.replicate (l.length - k) (.int .i64 0))∧Out (rid x) H H':=by
 cases h with
 | nil=>simp at h0
 | emp=>simp at h0
 | @mk i off n cap ex _ c lo hi fl hi' hg hf hlo hhi hcap hn hcc hs h1 he=>
  have hb:=sliceBnd_ok (len:=n) (cap:=cap) (a:=k) (b:=n) (lo:=some (.int .i64 (k:Nat))) (hi:=none) (by omega) (Nat.le_refl _) hcap (Bd.yes _ _ _) (Bd.no _)
  have hrl:(List.replicate (n - k) (AV.int .i64 0)).length=n - k:=List.length_replicate
  obtain ⟨H',c',q1,q2,q3,q4,q5⟩:=setCells_get (List.replicate (n - k) (AV.int .i64 0)) H i (off + k * 1) c lo hi 2 fl hg hf (by omega) (by rw [hrl]; omega) (fun j hj=>by
   rw [hrl] at hj
   have:=hs (k + j) (by omega)
   rw [show off + k * 1 + j=off + (k + j) by omega]
   exact this) (fun u hu=>by rw [List.eq_of_mem_replicate hu]; rfl)
  rw [hrl] at q5
  have hrep:∀ m,rep m [AV.int .i64 0]=List.replicate m (AV.int .i64 0):=fun m=>by
   induction m with
   | zero=>rfl
   | succ m ih=>
    unfold rep at ih ⊢
    rw [List.replicate_succ,List.flatten_cons,ih,List.replicate_succ]
    rfl
  refine ⟨.slice i (off + k * 1) (n - k) (cap - k) (ex || false) 1,H',?_,?_,?_,⟨by omega,fun j hj hn'=>q4 j fun e=>hn' (by subst e; rw [rid_s he]; exact .head _)⟩⟩
  ·unfold sll
   simp only [hb,Option.bind_some,if_true,Option.isSome_none]
  ·rw [builtin_clear]
   have hz:zc P 2=some [.int .i64 0]:=by kernel_rfl
   have hu:P.underlying 83=some (.slice 2):=Tryz.underlying83
   have:clearA P #[83] (.slice i (off + k * 1) (n - k) (cap - k) (ex || false) 1) H=setCells H i (off + k * 1) (rep (n - k) [.int .i64 0]):=by
    unfold clearA
    simp only [List.getElem?_toArray,List.getElem?_cons_zero,Option.bind_some,hu,hz]
   rw [this,hrep,q1]
   rfl
  ·refine .mk (by omega) q3 hf hlo hhi hcap (by simp; omega) (fun j w hj => ?_) (fun j hj => ?_) (fun w hw => ?_) he
   ·rw [q5]
    by_cases hjk:j < k
    ·rw [List.getElem?_append_left (by rw [List.length_take]; omega),List.getElem?_take,if_pos hjk] at hj
     rw [if_neg (by omega)]
     exact hcc j w hj
    ·rw [List.getElem?_append_right (by rw [List.length_take]; omega),List.length_take,Nat.min_eq_left hk] at hj
     have:=(List.getElem?_eq_some_iff.1 hj).1
     rw [List.length_replicate] at this
     rw [if_pos ⟨by omega,by omega⟩,show off + j - (off + k * 1)=j - k by omega]
     rw [List.getElem?_replicate] at hj ⊢
     rw [if_pos (by omega)] at hj
     rw [if_pos (by omega)]
     exact hj
   ·rw [q5]
    split
    ·rw [List.getElem?_replicate,if_pos (by omega)]
     rfl
    ·exact hs j hj
   ·rcases List.mem_append.1 hw with hw | hw
    ·exact h1 w (List.mem_of_mem_take hw)
    ·rw [List.eq_of_mem_replicate hw]; rfl
def gz:Int→List Int→List Int
 | _,[]=>[]
 | p,b::r=>if b=p then gz b r else b::gz b r
def cmpZ:List Int→List Int
 | []=>[]
 | a::r=>a::gz a r
theorem gz_len:∀ (p:Int) (r:List Int),(gz p r).length≤r.length
 | _,[]=>Nat.le_refl _
 | p,b::r=>by
  have:=gz_len b r
  unfold gz
  split <;> simp only [List.length_cons] <;> omega
theorem cmp_loop1 {j6:K.Fn 1} {j14:K.Fn 2} {n k0:Nat} {x y:AV} (hn:n≤16777216) (hyl:lenx y=some (.int .i64 ((n - k0:Nat):Int))) (hy:∀ j,k0 + j < n→ia 1 y (.int .i64 (j:Nat))=ia 1 x (.int .i64 ((k0 + j:Nat):Int))) :
  ∀ (r:List Int) (m kk:Nat) (p:Int) (l:List Int) (H:Hp),l.length=n→m≤n→k0 < m→kk < m→l.drop (m - 1)=p::r→Ow H 2 1 x (nums l)→
  ∃ l' H',(∀ k:K.Fn 2,l_slices_Compact___int64_int64_1 JN GO cK j6 j14 k x (.int .i64 (kk:Nat)) y (.int .i64 ((m - k0:Nat):Int)) H=k x (.int .i64 ((kk + (gz p r).length:Nat):Int)) H')∧Ow H' 2 1 x (nums l')∧l'.length=n∧l'.take (kk + (gz p r).length)=l.take kk++gz p r∧Out (rid x) H H'
 | [],m,kk,p,l,H,hl,hm,h0,hkk,hd,hx=>by
  have h1:=congrArg List.length hd
  rw [List.length_drop] at h1
  simp only [List.length_cons,List.length_nil] at h1
  have d:decide (((m - k0:Nat):Int) < ((n - k0:Nat):Int))=false:=decide_eq_false (by omega)
  refine ⟨l,H,fun k => ?_,hx,hl,by simp [gz],Out.refl _ _⟩
  rw [ql_slices_Compact___int64_int64_1]
  simp only [hyl,d,gz,List.length_nil,Nat.add_zero,k_s,k_x,Int.reduceBEq,Int.reduceBNe,Int.reduceLT,Int.reduceLE,Int.reduceGT,Int.reduceGE,Int.reduceNeg]
 | b::r,m,kk,p,l,H,hl,hm,h0,hkk,hd,hx=>by
  obtain ⟨hp1,hp2,hp3⟩:=hd_drop hd
  rw [show m - 1 + 1=m by omega] at hp3
  obtain ⟨hb1,hb2,hb3⟩:=hd_drop hp3
  have d:decide (((m - k0:Nat):Int) < ((n - k0:Nat):Int))=true:=decide_eq_true (by omega)
  obtain ⟨qb,u1,u2⟩:=hx.rw.ia1 (nums_get hb2) .i64
  obtain ⟨qp,u3,u4⟩:=hx.rw.ia1 (nums_get hp2) .i64
  have v1:=hy (m - k0) (by omega)
  rw [show k0 + (m - k0)=m by omega,u1] at v1
  have v2:=hy (m - k0 - 1) (by omega)
  rw [show k0 + (m - k0 - 1)=m - 1 by omega,u3] at v2
  have s1:IntKind.wrap .i64 (((m - k0:Nat):Int) - 1)=((m - k0 - 1:Nat):Int):=by rw [wrap_i64 (by omega) (by omega)]; omega
  have e1:IntKind.wrap .i64 (((m - k0:Nat):Int) + 1)=((m + 1 - k0:Nat):Int):=by rw [wrap_i64 (by omega) (by omega)]; omega
  by_cases hbp:b=p
  ·subst hbp
   obtain ⟨l',H',i1,i2,i3,i4,i5⟩:=cmp_loop1 (j6:=j6) (j14:=j14) hn hyl hy r (m + 1) kk b l H hl (by omega) (by omega) (by omega) (by rw [Nat.add_sub_cancel]; exact hp3) hx
   have hg:gz b (b::r)=gz b r:=by rw [gz,if_pos rfl]
   rw [hg]
   refine ⟨l',H',fun k => ?_,i2,i3,i4,i5⟩
   have d2:(b != b)=false:=by simp
   rw [ql_slices_Compact___int64_int64_1]
   simp only [hyl,d,v1,u2,s1,v2,u4,d2,e1,i1,k_s,k_x,Int.reduceBEq,Int.reduceBNe,Int.reduceLT,Int.reduceLE,Int.reduceGT,Int.reduceGE,Int.reduceNeg]
  ·have d2:(b != p)=true:=by simp [hbp]
   obtain ⟨q,H1,w1,w2,w3,w4,w5⟩:=ow_set hx (j:=kk) (by rw [nums_len]; omega) (v := .int .i64 b) rfl rfl
   have hset:(nums l).set kk (.int .i64 b)=nums (l.set kk b):=by simp [nums,List.map_set]
   rw [hset] at w3
   obtain ⟨l',H',i1,i2,i3,i4,i5⟩:=cmp_loop1 (j6:=j6) (j14:=j14) hn hyl hy r (m + 1) (kk + 1) b (l.set kk b) H1 (by rw [List.length_set]; exact hl) (by omega) (by omega) (by omega) (by rw [Nat.add_sub_cancel,List.drop_set_of_lt hkk]; exact hp3) w3
   have hg:gz p (b::r)=b::gz b r:=by rw [gz,if_neg hbp]
   have e2:IntKind.wrap .i64 (((kk:Nat):Int) + 1)=((kk + 1:Nat):Int):=by rw [wrap_i64 (by omega) (by omega)]; rfl
   have ht:(l.set kk b).take (kk + 1)=l.take kk++[b]:=by
    rw [List.take_set,List.take_add_one,List.getElem?_eq_getElem (by omega)]
    have hlen:(l.take kk).length=kk:=by rw [List.length_take]; omega
    rw [List.set_append_right _ _ (by omega),hlen,Nat.sub_self]
    rfl
   rw [hg,List.length_cons]
   refine ⟨l',H',fun k => ?_,i2,i3,?_,w4.then i5 fun j hj => .inl hj⟩
   ·rw [ql_slices_Compact___int64_int64_1]
    simp only [hyl,d,v1,u2,s1,v2,u4,d2,w1,w2,e2,e1,i1,k_s,k_x,Int.reduceBEq,Int.reduceBNe,Int.reduceLT,Int.reduceLE,Int.reduceGT,Int.reduceGE,Int.reduceNeg]
    rw [show kk + 1 + (gz b r).length=kk + ((gz b r).length + 1) by omega]
   ·rw [show kk + ((gz b r).length + 1)=kk + 1 + (gz b r).length by omega,i4,ht,List.append_assoc]
    rfl
theorem cmp_loop {x:AV} {zs:List Int} {H:Hp} (hn:zs.length≤16777216) (hx:Ow H 2 1 x (nums zs)):∀ (r:List Int) (k:Nat) (p:Int),0 < k→k≤zs.length→zs.drop (k - 1)=p::r→cmpZ zs=zs.take k++gz p r→
  ∃ y H',l_slices_Compact___int64_int64_ JN GO cK (fun v h=>some (v,h)) x (.int .i64 (k:Nat)) H=some (y,H')∧Ow H' 2 1 y (nums (cmpZ zs))∧Out (rid x) H H'∧∀ j∈rid y,j∈rid x
 | [],k,p,h0,hk,hd,hc=>by
  have h1:=congrArg List.length hd
  rw [List.length_drop] at h1
  simp only [List.length_cons,List.length_nil] at h1
  have hkl:k=zs.length:=by omega
  have hxl:=hx.rw.len1
  rw [nums_len] at hxl
  have d:decide (((k:Nat):Int) < ((zs.length:Nat):Int))=false:=decide_eq_false (by omega)
  refine ⟨x,H,?_,?_,Out.refl _ _,fun j hj=>hj⟩
  ·rw [ql_slices_Compact___int64_int64_]
   simp only [hxl,d,k_s,k_x,Int.reduceBEq,Int.reduceBNe,Int.reduceLT,Int.reduceLE,Int.reduceGT,Int.reduceGE,Int.reduceNeg]
  ·rw [hc,gz,List.append_nil,List.take_of_length_le (by omega)]
   exact hx
 | b::r,k,p,h0,hk,hd,hc=>by
  obtain ⟨hp1,hp2,hp3⟩:=hd_drop hd
  rw [show k - 1 + 1=k by omega] at hp3
  obtain ⟨hb1,hb2,hb3⟩:=hd_drop hp3
  have hxl:=hx.rw.len1
  rw [nums_len] at hxl
  have d:decide (((k:Nat):Int) < ((zs.length:Nat):Int))=true:=decide_eq_true (by omega)
  obtain ⟨qb,u1,u2⟩:=hx.rw.ia1 (nums_get hb2) .i64
  obtain ⟨qp,u3,u4⟩:=hx.rw.ia1 (nums_get hp2) .i64
  have s1:IntKind.wrap .i64 (((k:Nat):Int) - 1)=((k - 1:Nat):Int):=by rw [wrap_i64 (by omega) (by omega)]; omega
  have e1:IntKind.wrap .i64 (((k:Nat):Int) + 1)=((k + 1:Nat):Int):=by rw [wrap_i64 (by omega) (by omega)]; rfl
  by_cases hbp:b=p
  ·subst hbp
   have d2:(b == b)=true:=by simp
   have hg:gz b (b::r)=gz b r:=by rw [gz,if_pos rfl]
   rw [hg] at hc
   have hsub:∃ y,sll 1 x (some (.int .i64 (k:Nat))) none none=some y∧lenx y=some (.int .i64 ((zs.length - k:Nat):Int))∧∀ j,k + j < zs.length→ia 1 y (.int .i64 (j:Nat))=ia 1 x (.int .i64 ((k + j:Nat):Int)):=by
    have hxx:=hx
    generalize hz:nums zs=l at hxx
    have hll:l.length=zs.length:=by rw [← hz,nums_len]
    cases hxx with
    | nil=>simp at hll; omega
    | emp=>simp at hll; omega
    | @mk i off n cap ex _ c lo hi fl hi' hg hf hlo hhi hcap hn' hcc hs h1 he=>
     have hnn:n=zs.length:=by omega
     have hb:=sliceBnd_ok (len:=n) (cap:=cap) (a:=k) (b:=n) (lo:=some (.int .i64 (k:Nat))) (hi:=none) (by omega) (Nat.le_refl _) hcap (Bd.yes _ _ _) (Bd.no _)
     refine ⟨.slice i (off + k * 1) (n - k) (cap - k) (ex || false) 1,?_,?_,fun j hj => ?_⟩
     ·unfold sll
      simp only [hb,Option.bind_some,if_true,Option.isSome_none]
     ·rw [lenx_s,hnn]
     ·rw [ia_s (by omega),ia_s (by omega)]
      congr 2
      omega
   obtain ⟨y,y1,y2,y3⟩:=hsub
   obtain ⟨l',H1,i1,i2,i3,i4,i5⟩:=cmp_loop1 (j6:=fun v h=>some (v,h)) (j14:=fun x84 x85 h86=>B1 (iadd x85 (.int .i64 1)) fun v90=>l_slices_Compact___int64_int64_ JN GO cK (fun v h=>some (v,h)) x84 v90 h86) (x:=x) (y:=y) hn y2 y3 r (k + 1) k b zs H rfl (by omega) (by omega) (by omega) (by rw [Nat.add_sub_cancel]; exact hp3) hx
   rw [← hc] at i4
   have hgl:=gz_len b r
   have hrl:r.length + (k + 1)=zs.length:=by
    have:=congrArg List.length hb3
    rw [List.length_drop] at this
    omega
   obtain ⟨y5,H2,c1,c2,c3,c4⟩:=clear_ok i2 (by rw [nums_len]; omega) (k:=k + (gz b r).length) (by rw [nums_len]; omega)
   have hct:(nums l').take (k + (gz b r).length)=nums (cmpZ zs):=by rw [← i4]; simp [nums,List.map_take]
   rw [hct] at c3
   have hcl:(nums (cmpZ zs)).length=k + (gz b r).length:=by rw [nums_len,← i4,List.length_take]; omega
   obtain ⟨y6,t1,t2,t3⟩:=sll_ow (n:=zs.length) (a:=0) (b:=k + (gz b r).length) c3 (by rw [List.length_append,hcl,List.length_replicate,nums_len,i3]; omega) (by decide) (lo:=none) (hi:=some (.int .i64 ((k + (gz b r).length:Nat):Int))) (Nat.zero_le _) (by omega) (Bd.no 0) (Bd.yes _ _ _)
   rw [Nat.zero_mul,List.drop_zero,Nat.sub_zero,Nat.mul_one,← hcl,List.take_left' rfl] at t2
   have e11:((k + 1 - k:Nat):Int)=1:=by omega
   rw [e11] at i1
   refine ⟨y6,H2,?_,t2,i5.then c4 fun j hj => .inl hj,t3⟩
   rw [ql_slices_Compact___int64_int64_]
   simp only [hxl,d,u1,u2,s1,u3,u4,d2,y1,i1,c1,c2,t1,k_s,k_x,Int.reduceBEq,Int.reduceBNe,Int.reduceLT,Int.reduceLE,Int.reduceGT,Int.reduceGE,Int.reduceNeg]
  ·have d2:(b == p)=false:=by simp [hbp]
   have hg:gz p (b::r)=b::gz b r:=by rw [gz,if_neg hbp]
   obtain ⟨y,H',i1,i2,i3,i4⟩:=cmp_loop hn hx r (k + 1) b (by omega) (by omega) (by rw [Nat.add_sub_cancel]; exact hp3) (by rw [hc,hg,List.take_add_one,hb2]; simp)
   refine ⟨y,H',?_,i2,i3,i4⟩
   rw [ql_slices_Compact___int64_int64_]
   simp only [hxl,d,u1,u2,s1,u3,u4,d2,e1,i1,k_s,k_x,Int.reduceBEq,Int.reduceBNe,Int.reduceLT,Int.reduceLE,Int.reduceGT,Int.reduceGE,Int.reduceNeg]
theorem compact_c {H:Hp} {x:AV} {zs:List Int} (hx:Ow H 2 1 x (nums zs)) (hn:zs.length≤16777216) :
  ∃ y H',cK (.func (.func 55) [] []) [x] H=some (y,H')∧Ow H' 2 1 y (nums (cmpZ zs))∧Out (rid x) H H'∧∀ j∈rid y,j∈rid x:=by
 have hxl:=hx.rw.len1
 rw [nums_len] at hxl
 by_cases h2:zs.length < 2
 ·have d:decide (((zs.length:Nat):Int) < 2)=true:=decide_eq_true (by omega)
  have hz:cmpZ zs=zs:=by
   match zs,h2 with
   | [],_=>rfl
   | [a],_=>rfl
  refine ⟨x,H,c_slices_Compact___int64_int64_ ?_,by rw [hz]; exact hx,Out.refl _ _,fun j hj=>hj⟩
  unfold s_slices_Compact___int64_int64_
  simp only [hxl,d,k_s,k_x,Int.reduceBEq,Int.reduceBNe,Int.reduceLT,Int.reduceLE,Int.reduceGT,Int.reduceGE,Int.reduceNeg]
 ·have d:decide (((zs.length:Nat):Int) < 2)=false:=decide_eq_false (by omega)
  obtain ⟨a,r,rfl⟩:∃ a r,zs=a::r:=by
   cases zs with
   | nil=>simp at h2
   | cons a r=>exact ⟨a,r,rfl⟩
  obtain ⟨y,H',i1,i2,i3,i4⟩:=cmp_loop hn hx r 1 a (by decide) (by omega) rfl rfl
  rw [show (((1:Nat):Int))=1 from rfl] at i1
  refine ⟨y,H',c_slices_Compact___int64_int64_ ?_,i2,i3,i4⟩
  unfold s_slices_Compact___int64_int64_
  simp only [hxl,d,k_s,k_x,Int.reduceBEq,Int.reduceBNe,Int.reduceLT,Int.reduceLE,Int.reduceGT,Int.reduceGE,Int.reduceNeg]
  exact i1
theorem begin_lt:∀ g l,(g,l)∈begin0→g < 11:=by
 have h:(begin0.all fun q=>Nat.blt q.1 11)=true:=by kernel_rfl
 intro g l hg
 have:=List.all_eq_true.1 h (g,l) hg
 simpa using this
theorem hasT_out {H H':Hp} (h:hasT H begin0) (hn:11≤H.next) (k:Out [] H H'):hasT H' begin0:=by
 obtain ⟨el,h⟩:=h
 refine ⟨el,fun g l hg => ?_⟩
 have:=begin_lt g l hg
 rw [k.2 g (by omega) (fun q=>by cases q)]
 exact h g l hg
def strs (l:List (List Nat)):List AV:=l.map AV.str
theorem strs_len (l:List (List Nat)):(strs l).length=l.length:=by simp [strs]
theorem strs_get {l:List (List Nat)} {j:Nat} {z:List Nat} (h:l[j]? = some z):(strs l)[j]? = some (.str z):=by simp [strs,h]
def pickL:List (List Nat)→List Int
 | []=>[]
 | s::r=>if (sps s).2=true then ((sps s).1:Int)::pickL r else pickL r
theorem pick_loop {H0:Hp} {x:AV} {ns:List (List Nat)} (hx:Rw H0 1 x (strs ns)) (hT:hasT H0 begin0) (hn:11≤H0.next) (hl:ns.length≤1000) (hs:∀ s∈ns,s.length≤281474976710656):∀ (r:List (List Nat)) (i:Nat) (s:AV) (A:List Int) (H:Hp),ns.drop i=r→i≤ns.length→Out [] H0 H→Ow H 2 1 s (nums A)→(∀ j∈rid s,H0.next≤j)→A.length≤i→
  ∃ s' H',(∀ k:K.Fn 1,l_seg_Pick JN GO cK k s x (.int .i64 (ns.length:Nat)) (.int .i64 (i:Nat)) H=k s' H')∧Out [] H0 H'∧Ow H' 2 1 s' (nums (A++pickL r))∧(∀ j∈rid s',H0.next≤j)∧(A++pickL r).length≤ns.length
 | [],i,s,A,H,hr,hi,ho,hsl,hrd,hA=>by
  have:ns.length≤i:=by simpa using hr
  have d:decide (((i:Nat):Int) < ((ns.length:Nat):Int))=false:=decide_eq_false (by omega)
  refine ⟨s,H,fun k => ?_,ho,by simpa [pickL] using hsl,hrd,by simp [pickL]; omega⟩
  rw [ql_seg_Pick]
  simp only [d,k_s,k_x,Int.reduceBEq,Int.reduceBNe,Int.reduceLT,Int.reduceLE,Int.reduceGT,Int.reduceGE,Int.reduceNeg]
 | c::r,i,s,A,H,hr,hi,ho,hsl,hrd,hA=>by
  obtain ⟨hi',hv,hr'⟩:=hd_drop hr
  have d:decide (((i:Nat):Int) < ((ns.length:Nat):Int))=true:=decide_eq_true (by omega)
  obtain ⟨q,u1,u2⟩:=(hx.out ho fun j _ q=>by cases q).ia1 (strs_get hv) .i64
  have hp:=parse_c an (vsA (hasT_out hT hn ho)) c (hs c (List.mem_of_getElem? hv))
  have e3:IntKind.wrap .i64 (((i:Nat):Int) + 1)=((i + 1:Nat):Int):=by rw [wrap_i64 (by omega) (by omega)]; rfl
  by_cases hok:(sps c).2=true
  ·obtain ⟨H1,n1,n2,n3,n4⟩:=newCells_ok H [.int .i64 (((sps c).1:Nat):Int)] 2 0 (by simp)
   have hrow:Rw H1 1 (.slice H.next 0 1 1 true 1) (nums [(((sps c).1:Nat):Int)]) := .mk n2.ro rfl (Nat.le_refl _) rfl
   have hs1:=hsl.out n3 fun j _ q=>by cases q
   obtain ⟨s',H2,a1,a2,a3,a4⟩:=append_ok (z:=[.int .i64 0]) hs1 hrow (nums_one _) (by omega) (by rw [nums_len,nums_len]; simp; omega)
   rw [← nums_app] at a2
   have o2:Out [] H0 H2:=(ho.trans n3).then a3 fun j hj => .inr (hrd j hj)
   have hrd2:∀ j∈rid s',H0.next≤j:=fun j hj=>(a4 j hj).elim (hrd j) fun q=>Nat.le_trans (ho.trans n3).1 q
   obtain ⟨s2,H3,b1,b2,b3,b4,b5⟩:=pick_loop hx hT hn hl hs r (i + 1) s' _ H2 hr' (by omega) o2 a2 hrd2 (by simp; omega)
   have hpk:pickL (c::r)=(((sps c).1:Nat):Int)::pickL r:=by rw [pickL,if_pos hok]
   rw [hpk]
   rw [List.append_assoc] at b3 b5
   refine ⟨s2,H3,fun k => ?_,b2,b3,b4,b5⟩
   have hf:fl [.int .i64 0] [(0,1,AV.int .i64 (((sps c).1:Nat):Int))]=some [.int .i64 (((sps c).1:Nat):Int)]:=rfl
   rw [ql_seg_Pick]
   rw [hok] at hp
   simp only [d,u1,u2,hp,hf,n1,a1,e3,b1,k_s,k_x,Int.reduceBEq,Int.reduceBNe,Int.reduceLT,Int.reduceLE,Int.reduceGT,Int.reduceGE,Int.reduceNeg]
  ·have hok':(sps c).2=false:=by simpa using hok
   obtain ⟨s2,H3,b1,b2,b3,b4,b5⟩:=pick_loop hx hT hn hl hs r (i + 1) s _ H hr' (by omega) ho hsl hrd (by omega)
   have hpk:pickL (c::r)=pickL r:=by rw [pickL,if_neg hok]
   rw [hpk]
   refine ⟨s2,H3,fun k => ?_,b2,b3,b4,b5⟩
   rw [ql_seg_Pick]
   rw [hok'] at hp
   simp only [d,u1,u2,hp,e3,b1,k_s,k_x,Int.reduceBEq,Int.reduceBNe,Int.reduceLT,Int.reduceLE,Int.reduceGT,Int.reduceGE,Int.reduceNeg]
def pickZ (ns:List (List Nat)):List Int:=cmpZ (sortZ (pickL ns))
theorem pick_c {H:Hp} {x:AV} {ns:List (List Nat)} (hx:Rw H 1 x (strs ns)) (hT:hasT H begin0) (hn:11≤H.next) (hl:ns.length≤1000) (hs:∀ s∈ns,s.length≤281474976710656) :
  ∃ y H',cK (.func (.func 37) [] []) [x] H=some (y,H')∧Out [] H H'∧Ow H' 2 1 y (nums (pickZ ns))∧∀ j∈rid y,H.next≤j:=by
 have hxl:=hx.len1
 rw [strs_len] at hxl
 obtain ⟨s,H1,a1,a2,a3,a4,a5⟩:=pick_loop hx hT hn hl hs ns 0 .slice0 [] H rfl (Nat.zero_le _) (Out.refl _ _) .nil (fun j hj=>by cases hj) (Nat.le_refl _)
 rw [List.nil_append] at a3 a5
 rw [show (((0:Nat):Int))=0 from rfl] at a1
 obtain ⟨H2,b1,b2,b3⟩:=sort_c a3 (by omega)
 obtain ⟨y,H3,c1,c2,c3,c4⟩:=compact_c b2 (by rw [sortZ_len]; omega)
 refine ⟨y,H3,c_seg_Pick ?_,(a2.then b3 fun j hj => .inr (a4 j hj)).then c3 fun j hj => .inr (a4 j hj),c2,fun j hj=>a4 j (c4 j hj)⟩
 unfold s_seg_Pick
 simp only [hxl,a1,b1,c1,k_s,k_x,Int.reduceBEq,Int.reduceBNe,Int.reduceLT,Int.reduceLE,Int.reduceGT,Int.reduceGE,Int.reduceNeg]
theorem pickL_mem:∀ (ns:List (List Nat)) (z:Int),z∈pickL ns ↔ ∃ s∈ns,(sps s).2=true∧z=((sps s).1:Int)
 | [],z=>by simp [pickL]
 | c::r,z=>by
  have ih:=pickL_mem r z
  rw [pickL]
  split
  ·rename_i h
   rw [List.mem_cons,ih]
   constructor
   ·rintro (rfl | ⟨s,a,b⟩)
    ·exact ⟨c,.head _,h,rfl⟩
    ·exact ⟨s,.tail _ a,b⟩
   ·rintro ⟨s,a,b,e⟩
    rcases List.mem_cons.1 a with rfl | a
    ·exact .inl e
    ·exact .inr ⟨s,a,b,e⟩
  ·rename_i h
   rw [ih]
   constructor
   ·rintro ⟨s,a,b⟩
    exact ⟨s,.tail _ a,b⟩
   ·rintro ⟨s,a,b,e⟩
    rcases List.mem_cons.1 a with rfl | a
    ·exact absurd b h
    ·exact ⟨s,a,b,e⟩
theorem gz_mem:∀ (p:Int) (r:List Int) (x:Int),x∈p::gz p r ↔ x∈p::r
 | p,[],x=>by simp [gz]
 | p,b::r,x=>by
  have ih:=gz_mem b r x
  rw [gz]
  split
  ·rename_i h
   subst h
   rw [ih]
   simp
  ·rw [List.mem_cons,ih]
   simp
theorem gz_lt:∀ (p:Int) (r:List Int),(p::r).Pairwise (fun a b=>a≤b)→(p::gz p r).Pairwise (fun a b=>a < b)
 | p,[],_=>by simp [gz]
 | p,b::r,h=>by
  rw [List.pairwise_cons] at h
  have ih:=gz_lt b r h.2
  rw [gz]
  split
  ·rename_i e
   subst e
   exact ih
  ·rename_i e
   rw [List.pairwise_cons]
   refine ⟨fun x hx => ?_,ih⟩
   have hx':=(gz_mem b r x).1 hx
   have h1:=h.1 b (.head _)
   rcases List.mem_cons.1 hx' with rfl | hx'
   ·omega
   ·have:=(List.pairwise_cons.1 h.2).1 x hx'
    omega
theorem cmpZ_mem (l:List Int) (x:Int):x∈cmpZ l ↔ x∈l:=by
 cases l with
 | nil=>rfl
 | cons a r=>exact gz_mem a r x
theorem cmpZ_lt {l:List Int} (h:l.Pairwise (fun a b=>a≤b)):(cmpZ l).Pairwise (fun a b=>a < b):=by
 cases l with
 | nil=>exact .nil
 | cons a r=>exact gz_lt a r h
theorem sortZ_sorted (l:List Int):(sortZ l).Pairwise (fun a b=>a≤b):=by
 have:=List.pairwise_mergeSort (le:=fun x y:Int=>decide (x≤y)) (fun a b c h k=>by simp at h k ⊢; omega) (fun a b=>by simp; omega) l
 exact this.imp fun h=>by simpa using h
theorem pickZ_lt (ns:List (List Nat)):(pickZ ns).Pairwise (fun a b=>a < b):=cmpZ_lt (sortZ_sorted _)
theorem pickZ_mem (ns:List (List Nat)) (z:Int):z∈pickZ ns ↔ ∃ s∈ns,(sps s).2=true∧z=((sps s).1:Int):=by
 unfold pickZ
 rw [cmpZ_mem,← pickL_mem]
 exact (List.mergeSort_perm _ _).mem_iff
end Go.Proofs.YtbdlbhlhnpblpaaGreatDoor.SgK
namespace Go.Proofs.YtbdlbhlhnpblpaaGreatDoor.WlK
open Go Am Am.K WlEnv Sg SegPrim SgN SgK StC
set_option linter.unusedVariables false
set_option linter.unusedSimpArgs false
set_option maxRecDepth 10000
theorem pad_mem:∀ (k n:Nat) (x:UInt8),x∈pad k n→∃ d:Fin 16,x=hd d
 | 0,n,x,h=>by cases h
 | k + 1,n,x,h=>by
  rcases List.mem_append.1 h with h | h
  ·exact pad_mem k _ x h
  ·exact ⟨⟨n % 16,Nat.mod_lt _ (by decide)⟩,by simpa using h⟩
theorem nms_in {a:Int} (h:inN a=true):∀ x∈nms a,cutN.contains x=true:=by
 have key:∀ d:Fin 16,cutN.contains (hd d).toNat=true:=by decide
 intro x hx
 rw [nms_t h] at hx
 obtain ⟨y,hy,rfl⟩:=List.mem_map.1 hx
 unfold nm at hy
 rcases List.mem_cons.1 hy with rfl | hy
 ·decide
 rcases List.mem_cons.1 hy with rfl | hy
 ·decide
 obtain ⟨d,rfl⟩:=pad_mem _ _ _ hy
 exact key d
theorem dropW_all {α:Type} {p:α→Bool}:∀ (l:List α),(∀ x∈l,p x=true)→l.dropWhile p=[]
 | [],_=>rfl
 | x::l,h=>by
  rw [List.dropWhile_cons,if_pos (h x (.head _))]
  exact dropW_all l fun y hy=>h y (.tail _ hy)
theorem okName_nms {a:Int} (h:inN a=true):okName (nms a)=true:=by
 have hl:=nms_len h
 have ht:trimN (nms a) cutN=[]:=by
  rw [trimN_eq]
  have:(nms a).reverse.dropWhile (cutN.contains ·)=[]:=dropW_all _ fun x hx=>nms_in h x (List.mem_reverse.1 hx)
  rw [this]; rfl
 have hne:(nms a == [])=false:=by
  cases hq:nms a with
  | nil=>rw [hq] at hl; cases hl
  | cons x l=>rfl
 unfold okName
 rw [hne,hl,ht]
 rfl
theorem app_some {H:Hp} {p:Nat} {m:SM} {L:Lay} (h:St H p m L) {at' b:List Nat} (ho:m.off=false) (hf:m.fuse=0) (hn:okName at'=true) (hr:sumB m.fs + b.length≤m.room) (hm:m.fs.length < 64) :
  ∃ m',appM m at' b=(0,m')∧m'.off=false∧m'.fuse=0∧m'.room=m.room∧sumB m'.fs=sumB m.fs + b.length∧m'.fs.length≤m.fs.length + 1:=by
 have hB:burnB m=true:=by unfold burnB; rw [hf]; rfl
 have hM:burnM m=m:=by unfold burnM; rw [if_pos hf]
 unfold appM
 rcases h.lookC at' with ⟨r1,r2,r3⟩ | ⟨a,x,c,r1,r2,r3,r4,r5,r6⟩
 ·have hE:ofE m at'=4:=by unfold ofE; rw [r2,hn,ho]; rfl
  rw [if_neg (by rw [hE]; decide),if_neg (by rw [r2]; simp; omega),if_neg (by rw [hB]; decide),hM,r2]
  exact ⟨_,rfl,ho,hf,rfl,by rw [sumB_app,sumB_cons]; rfl,by simp⟩
 ·have hE:ofE m at'=0:=by unfold ofE; rw [r6,hn,ho]; rfl
  rw [if_neg (by rw [hE]; decide),if_neg (by rw [r6]; simp; omega),if_neg (by rw [hB]; decide),hM,r6]
  refine ⟨_,rfl,ho,hf,rfl,?_,by simp [setF]⟩
  have:=h.sum_set r1 (by rw [r2]; exact r3) (by rw [r2]; exact r4) ⟨x.f.nm,x.f.b++b,x.f.sure⟩
  simp only [List.length_append] at this
  rw [r2] at this
  show sumB (setF at' ⟨x.f.nm,x.f.b++b,x.f.sure⟩ m.fs)=_
  rw [r2]
  omega
end Go.Proofs.YtbdlbhlhnpblpaaGreatDoor.WlK
namespace Go.Proofs.YtbdlbhlhnpblpaaGreatDoor.Am.K
open Go
set_option linter.unusedVariables false
set_option linter.unusedSimpArgs false
theorem setR_left:∀ (vs c r:List AV) (k:Nat),k + vs.length≤c.length→setR (c++r) k vs=setR c k vs++r
 | [],c,r,k,h=>rfl
 | v::vs,c,r,k,h=>by
  simp only [List.length_cons] at h
  show setR ((c++r).set k v) (k + 1) vs=setR (c.set k v) (k + 1) vs++r
  rw [List.set_append_left _ _ (by omega)]
  exact setR_left vs _ _ _ (by rw [List.length_set]; omega)
theorem setR_right:∀ (vs a r:List AV) (k:Nat),setR (a++r) (a.length + k) vs=a++setR r k vs
 | [],a,r,k=>rfl
 | v::vs,a,r,k=>by
  show setR ((a++r).set (a.length + k) v) (a.length + k + 1) vs=a++setR (r.set k v) (k + 1) vs
  rw [List.set_append_right _ _ (by omega),Nat.add_sub_cancel_left,Nat.add_assoc]
  exact setR_right vs _ _ _
theorem flatten_set {es:Nat} {vs:List AV} {k:Nat} (hk:k + vs.length≤es):∀ {L:List (List AV)} {i:Nat} {c:List AV},(∀ c∈L,c.length=es)→L[i]? = some c→(L.set i (setR c k vs)).flatten=setR L.flatten (i * es + k) vs
 | [],i,c,_,h=>by simp at h
 | a::L,0,c,hl,h=>by
  simp only [List.getElem?_cons_zero,Option.some.injEq] at h
  subst h
  have:=hl a (.head _)
  rw [Nat.zero_mul,Nat.zero_add]
  show setR a k vs++L.flatten=setR (a++L.flatten) k vs
  rw [setR_left _ _ _ _ (by omega)]
 | a::L,i + 1,c,hl,h=>by
  simp only [List.getElem?_cons_succ] at h
  have ha:=hl a (.head _)
  show a++(L.set i (setR c k vs)).flatten=setR (a++L.flatten) ((i + 1) * es + k) vs
  rw [flatten_set hk (fun d hd=>hl d (.tail _ hd)) h,Nat.add_mul,Nat.one_mul,show i * es + es + k=a.length + (i * es + k) by omega,setR_right]
theorem OL.stAt {H:Hp} {el es:Nat} {x:AV} {L:List (List AV)} (h:OL H el es x L) {i k b o:Nat} {c vs:List AV} (hi:L[i]? = some c) (hia:∀ kd,ia es x (.int kd i)=some (.ptr b o)) (hv:∀ v∈vs,oneC v=true) (hk:k + vs.length≤es) (hes:0 < es) :
  ∃ H',setCells H b (o + k) vs=some H'∧OL H' el es x (L.set i (setR c k vs))∧Out (rid x) H H'∧H'.next=H.next:=by
 obtain ⟨ho,hl⟩:=h
 have hil:=(List.getElem?_eq_some_iff.1 hi).1
 have hfl:=flatten_len hl
 have hfs:=flatten_set hk hl hi
 have hc:=hl c (List.mem_of_getElem? hi)
 have hpos:i * es + es≤L.flatten.length:=by
  rw [hfl]
  have:=Nat.mul_le_mul_right es (show i + 1≤L.length by omega)
  rw [Nat.add_mul,Nat.one_mul] at this
  exact this
 have hL':∀ d∈L.set i (setR c k vs),d.length=es:=fun d hd=>by
  rcases List.mem_or_eq_of_mem_set hd with hd | rfl
  ·exact hl d hd
  ·rw [setR_len]; exact hc
 generalize hF:L.flatten=F at *
 cases ho with
 | nil=>simp at hpos; omega
 | emp=>simp at hpos; omega
 | @mk i0 off n cap ex _ ct lo hi0 fl hi' hg hf hlo hhi hcap hn hcc hs h1 he=>
  have hin:i < n:=by
   rw [hfl] at hn
   exact Nat.eq_of_mul_eq_mul_right hes hn ▸ hil
  have e:=hia .i64
  rw [ia_s hin] at e
  injection e with e
  injection e with eb eo
  subst eb
  subst eo
  have hcn:n * es≤cap * es:=Nat.mul_le_mul_right _ hcap
  obtain ⟨H',c',q1,q2,q3,q4,q5⟩:=setCells_get vs H i0 (off + i * es + k) ct lo hi0 el fl hg hf (by omega) (by omega) (fun m hm=>by
   have:=hs (i * es + k + m) (by omega)
   rw [show off + i * es + k + m=off + (i * es + k + m) by omega]
   exact this) hv
  refine ⟨H',q1,⟨?_,hL'⟩,⟨by omega,fun j hj hn'=>q4 j fun e=>hn' (by subst e; rw [rid_s he]; exact .head _)⟩,q2⟩
  rw [hfs]
  refine .mk (by omega) q3 hf hlo hhi hcap (by rw [setR_len]; exact hn) (fun m w hm => ?_) (fun m hm => ?_) (fun w hw => ?_) he
  ·rw [q5]
   rw [setR_get _ _ _ _ (by omega)] at hm
   split at hm
   ·rw [if_pos (by omega),show off + m - (off + i * es + k)=m - (i * es + k) by omega]; exact hm
   ·rw [if_neg (by omega)]; exact hcc m w hm
  ·rw [q5]
   split
   ·rename_i hb
    rw [List.getElem?_eq_getElem (by omega)]; rfl
   ·exact hs m hm
  ·obtain ⟨m,hm⟩:=List.getElem?_of_mem hw
   rw [setR_get _ _ _ _ (by omega)] at hm
   split at hm
   ·exact hv w (List.mem_of_getElem? hm)
   ·exact h1 w (List.mem_of_getElem? hm)
theorem OL.st1 {H:Hp} {el es:Nat} {x:AV} {L:List (List AV)} (h:OL H el es x L) {i k b o:Nat} {c:List AV} {v:AV} (hi:L[i]? = some c) (hia:∀ kd,ia es x (.int kd i)=some (.ptr b o)) (hv:oneC v=true) (hk:k < es) :
  ∃ H',st 1 (.ptr b (o + k)) v H=some H'∧OL H' el es x (L.set i (c.set k v))∧Out (rid x) H H'∧H'.next=H.next:=by
 obtain ⟨H',h1,h2⟩:=h.stAt (k:=k) (vs:=[v]) hi hia (fun u hu=>by rw [List.mem_singleton] at hu; subst hu; exact hv) (by simp only [List.length_cons,List.length_nil]; omega) (by omega)
 refine ⟨H',?_,h2⟩
 unfold st
 simp only [cellsV_one hv]
 exact h1
end Go.Proofs.YtbdlbhlhnpblpaaGreatDoor.Am.K
namespace Go.Proofs.YtbdlbhlhnpblpaaGreatDoor.SgK
open Go Am Am.K WlEnv WlK
set_option linter.unusedVariables false
set_option linter.unusedSimpArgs false
theorem Rs.outS {H H':Hp} {x:AV} {rs:List (Nat × List Nat)} {ys:List AV} {S:List Nat} (h:Rs H x rs ys) (k:Out S H H') (hx:∀ j∈rid x,j∉S) (hy:∀ y∈ys,∀ j∈rid y,j∉S):Rs H' x rs ys:=
 ⟨h.own.out k hx,h.len,fun j y r h1 h2=>(h.row j y r h1 h2).out k (hy y (List.mem_of_getElem? h1)),h.sep⟩
theorem Rs.ylt {H:Hp} {x:AV} {rs:List (Nat × List Nat)} {ys:List AV} (h:Rs H x rs ys):∀ y∈ys,∀ i∈rid y,i < H.next:=by
 intro y hy i hi
 obtain ⟨j,hj⟩:=List.mem_iff_getElem?.1 hy
 have hjl:=(List.getElem?_eq_some_iff.1 hj).1
 exact (h.row j y _ hj (List.getElem?_eq_getElem (by rw [← h.len]; exact hjl))).lt i hi
theorem Rs.push {H:Hp} {s y:AV} {rs:List (Nat × List Nat)} {ys:List AV} {a:Nat} {b:List Nat} (h:Rs H s rs ys) (hy:Rw H 1 y (bs b)) (hd:∀ i∈rid y,i∉rid s) (hl:rs.length≤100000) :
  ∃ H1 s' H2,newCells H [.int .u64 (a:Nat),y] 37 0=some (H.next,H1)∧app' 37 2 [.int .u64 0,.slice0] false s (.slice H.next 0 1 1 true 2) H1=some (s',H2)∧
   Rs H2 s' (rs++[(a,b)]) (ys++[y])∧Out (rid s) H H2∧(∀ j∈rid s',j∈rid s∨H.next≤j):=by
 obtain ⟨H4,m1,m2,m3,m4⟩:=newCells_ok H [.int .u64 ((a:Nat):Int),y] 37 0 (by simp)
 have hrow:Rw H4 2 (.slice H.next 0 1 1 true 2) [.int .u64 ((a:Nat):Int),y] := .mk m2.ro rfl (Nat.le_refl _) rfl
 have hs4:=h.out m3
 have hsl:=h.own.rw.lt
 obtain ⟨s',H5,a1,a2,a3,a4⟩:=append_ok (z:=[.int .u64 0,.slice0]) hs4.own hrow (by
  intro v hv
  rcases List.mem_cons.1 hv with rfl | hv
  ·rfl
  ·rcases List.mem_cons.1 hv with rfl | hv
   ·exact one_rw hy
   ·cases hv) (by omega) (by rw [rcs_len _ _ h.len]; simp only [List.length_cons,List.length_nil]; omega)
 have yo:Rw H4 1 y (bs b):=hy.out m3 fun j _ q=>by cases q
 have hyl:=hy.lt
 have a4':∀ j∈rid s',j∈rid s∨H.next≤j:=fun j hj=>(a4 j hj).imp id fun q=>Nat.le_trans m3.1 q
 refine ⟨H4,s',H5,m1,a1,⟨by rw [rcs_app _ _ _ _ h.len]; exact a2,by simp [h.len],?_,?_⟩,(m3.mono fun j hj=>by cases hj).trans a3,a4'⟩
 ·intro j z r h3 h4
  by_cases hj:j < ys.length
  ·rw [List.getElem?_append_left hj] at h3
   rw [List.getElem?_append_left (by rw [← h.len]; exact hj)] at h4
   exact (hs4.row j z r h3 h4).out a3 (h.sep z (List.mem_of_getElem? h3))
  ·rw [List.getElem?_append_right (by omega)] at h3
   rw [List.getElem?_append_right (by rw [← h.len]; omega),← h.len] at h4
   obtain ⟨e1,rfl⟩:j - ys.length=0∧z=y:=by
    cases hq:j - ys.length with
    | zero=>rw [hq] at h3; simp at h3; exact ⟨rfl,h3.symm⟩
    | succ q=>rw [hq] at h3; simp at h3
   rw [e1] at h4
   simp at h4
   subst h4
   exact yo.out a3 hd
 ·intro z hz i hi q
  rcases List.mem_append.1 hz with hz | hz
  ·rcases a4' i q with q | q
   ·exact h.sep z hz i hi q
   ·have:=h.ylt z hz i hi; omega
  ·rw [List.mem_singleton] at hz
   subst hz
   rcases a4' i q with q | q
   ·exact hd i hi q
   ·have:=hyl i hi; omega
end Go.Proofs.YtbdlbhlhnpblpaaGreatDoor.SgK
namespace Go.Proofs.YtbdlbhlhnpblpaaGreatDoor.WlK
open Go Am Am.K WlEnv Sg SegPrim SgN SgK StC
def pc (q:Int × Int):List AV:=[.int .i64 q.1,.int .i64 q.2]
def lfoot (lp:Nat) (xp xr:AV) (p:Nat) (L:Lay):List Nat:=lp::(rid xp++(rid xr++foot p L))
structure LM where
 most:Int
 m:SM
 parts:List (Int × Int)
 recs:List (Nat × List Nat)
 first:Int
 sure:Int
structure LP where
 L:Lay
 xp:AV
 xr:AV
 ys:List AV
abbrev lf (lp p:Nat) (l:LP):List Nat:=lfoot lp l.xp l.xr p l.L
structure Lg (H:Hp) (lp p:Nat) (m:LM) (l:LP):Prop where
 head:C0 H lp [.ptr p 0,.int .i64 m.most,l.xp,l.xr,.int .i64 m.first,.int .i64 m.sure]
 st:St H p m.m l.L
 parts:OL H 66 2 l.xp (m.parts.map pc)
 recs:Rs H l.xr m.recs l.ys
 nd:(lf lp p l).Nodup
 row:∀ y∈l.ys,∀ i∈rid y,i∉lf lp p l
def Lgo (lp p:Nat) (H:Hp) (l:LP) (H':Hp) (l':LP):Prop:=Out (lf lp p l) H H'∧∀ j∈lf lp p l',j∈lf lp p l∨H.next≤j
theorem Lgo.refl (lp p:Nat) (H:Hp) (l:LP):Lgo lp p H l H l:=⟨Out.refl _ _,fun _ h => .inl h⟩
theorem Lgo.trans {lp p:Nat} {H H' H'':Hp} {l l' l'':LP} (h:Lgo lp p H l H' l') (k:Lgo lp p H' l' H'' l''):Lgo lp p H l H'' l'':=
 ⟨h.1.then k.1 h.2,fun j hj=>(k.2 j hj).elim (fun q=>h.2 j q) (fun q => .inr (Nat.le_trans h.1.1 q))⟩
section
variable {H:Hp} {lp p:Nat} {m:LM} {l:LP}
theorem lf_lp:lp∈lf lp p l := .head _
theorem lf_xp {j:Nat} (h:j∈rid l.xp):j∈lf lp p l := .tail _ (List.mem_append_left _ h)
theorem lf_xr {j:Nat} (h:j∈rid l.xr):j∈lf lp p l := .tail _ (List.mem_append_right _ (List.mem_append_left _ h))
theorem lf_st {j:Nat} (h:j∈foot p l.L):j∈lf lp p l := .tail _ (List.mem_append_right _ (List.mem_append_right _ h))
theorem lf_cases {j:Nat} (h:j∈lf lp p l):j=lp∨j∈rid l.xp∨j∈rid l.xr∨j∈foot p l.L:=by
 rcases List.mem_cons.1 h with h | h
 ·exact .inl h
 rcases List.mem_append.1 h with h | h
 ·exact .inr (.inl h)
 rcases List.mem_append.1 h with h | h
 ·exact .inr (.inr (.inl h))
 ·exact .inr (.inr (.inr h))
theorem Lg.lt (h:Lg H lp p m l):∀ j∈lf lp p l,j < H.next:=by
 intro j hj
 rcases lf_cases hj with rfl | hj | hj | hj
 ·exact h.head.lt
 ·exact h.parts.1.rw.lt j hj
 ·exact h.recs.own.rw.lt j hj
 ·exact h.st.lt j hj
theorem Lg.out {H':Hp} {S:List Nat} (h:Lg H lp p m l) (k:Out S H H') (hs:∀ j∈lf lp p l,j∉S) (hy:∀ y∈l.ys,∀ i∈rid y,i∉S):Lg H' lp p m l:=
 ⟨h.head.out k (hs _ lf_lp),h.st.out k fun j hj=>hs _ (lf_st hj),h.parts.out k fun j hj=>hs _ (lf_xp hj),h.recs.outS k (fun j hj=>hs _ (lf_xr hj)) hy,h.nd,h.row⟩
theorem Lg.out0 {H':Hp} (h:Lg H lp p m l) (k:Out [] H H'):Lg H' lp p m l:=h.out k (fun _ _ q=>by cases q) (fun _ _ _ _ q=>by cases q)
theorem Lg.apart (h:Lg H lp p m l):(lp∉rid l.xp∧lp∉rid l.xr∧lp∉foot p l.L)∧(∀ j∈rid l.xp,j∉rid l.xr∧j∉foot p l.L)∧(∀ j∈rid l.xr,j∉foot p l.L):=by
 have hn:=h.nd
 unfold lf lfoot at hn
 rw [List.nodup_cons,List.nodup_append,List.nodup_append] at hn
 obtain ⟨n1,n2,⟨n3,n4,n5⟩,n6⟩:=hn
 refine ⟨⟨fun q=>n1 (List.mem_append_left _ q),fun q=>n1 (List.mem_append_right _ (List.mem_append_left _ q)),fun q=>n1 (List.mem_append_right _ (List.mem_append_right _ q))⟩,fun j hj=>⟨fun q=>n6 j hj j (List.mem_append_left _ q) rfl,fun q=>n6 j hj j (List.mem_append_right _ q) rfl⟩,fun j hj q=>n5 j hj j q rfl⟩
theorem nd_mk {xp xr:AV} {L:Lay} (hL:(foot p L).Nodup) (a1:lp∉rid xp) (a2:lp∉rid xr) (a3:lp∉foot p L) (b1:∀ j∈rid xp,j∉rid xr) (b2:∀ j∈rid xp,j∉foot p L) (b3:∀ j∈rid xr,j∉foot p L):(lfoot lp xp xr p L).Nodup:=by
 unfold lfoot
 rw [List.nodup_cons,List.nodup_append,List.nodup_append]
 refine ⟨fun q => ?_,rid_nd _,⟨rid_nd _,hL,fun a ha b hb e=>b3 a ha (e ▸ hb)⟩,fun a ha b hb e => ?_⟩
 ·rcases List.mem_append.1 q with q | q
  ·exact a1 q
  rcases List.mem_append.1 q with q | q
  ·exact a2 q
  ·exact a3 q
 ·subst e
  rcases List.mem_append.1 hb with q | q
  ·exact b1 a ha q
  ·exact b2 a ha q
theorem Lg.toStore {H':Hp} {m':SM} {L':Lay} (h:Lg H lp p m l) (hs:St H' p m' L') (hg:Go' p H l.L H' L'):Lg H' lp p { m with m:=m' } { l with L:=L' }∧Lgo lp p H l H' { l with L:=L' }:=by
 obtain ⟨⟨a1,a2,a3⟩,b,b3⟩:=h.apart
 have hlt:=h.lt
 have new:∀ j,j < H.next→j∉foot p l.L→j∉foot p L':=fun j hj hn q=>(hg.2 j q).elim hn fun q=>by omega
 have hf:∀ j∈lf lp p { l with L:=L' },j∈lf lp p l∨H.next≤j:=by
  intro j hj
  rcases lf_cases hj with rfl | hj | hj | hj
  ·exact .inl lf_lp
  ·exact .inl (lf_xp hj)
  ·exact .inl (lf_xr hj)
  ·exact (hg.2 j hj).imp lf_st id
 refine ⟨⟨h.head.out hg.1 a3,hs,h.parts.out hg.1 fun j hj=>(b j hj).2,h.recs.outS hg.1 b3 fun y hy i hi q=>h.row y hy i hi (lf_st q),?_,fun y hy i hi q => ?_⟩,hg.1.mono fun j hj=>lf_st hj,hf⟩
 ·exact nd_mk hs.nd a1 a2 (new _ (hlt _ lf_lp) a3) (fun j hj=>(b j hj).1) (fun j hj=>new j (hlt _ (lf_xp hj)) (b j hj).2) fun j hj=>new j (hlt _ (lf_xr hj)) (b3 j hj)
 ·rcases hf i q with q | q
  ·exact h.row y hy i hi q
  ·have:=h.recs.ylt y hy i hi; omega
theorem Lg.toParts {H1:Hp} {xp:AV} {ps:List (Int × Int)} (h:Lg H lp p m l) (ho:OL H1 66 2 xp (ps.map pc)) (hg:Out (rid l.xp) H H1) (hr:∀ j∈rid xp,j∈rid l.xp∨H.next≤j) :
  ∃ H2,K.st 1 (.ptr lp 2) xp H1=some H2∧Lg H2 lp p { m with parts:=ps } { l with xp:=xp }∧Lgo lp p H l H2 { l with xp:=xp }:=by
 obtain ⟨⟨a1,a2,a3⟩,b,b3⟩:=h.apart
 have hlt:=h.lt
 obtain ⟨H2,s1,s2,s3,s4⟩:=(h.head.out hg a1).st (o:=2) (v:=xp) (by simp) ho.1.rw.one
 have n2:∀ j,j≠lp→j∉[lp]:=fun j hj q=>hj (List.mem_singleton.1 q)
 have new:∀ j,j < H.next→j∉rid l.xp→j∉rid xp:=fun j hj hn q=>(hr j q).elim hn fun q=>by omega
 have hf:∀ j∈lf lp p { l with xp:=xp },j∈lf lp p l∨H.next≤j:=by
  intro j hj
  rcases lf_cases hj with rfl | hj | hj | hj
  ·exact .inl lf_lp
  ·exact (hr j hj).imp lf_xp id
  ·exact .inl (lf_xr hj)
  ·exact .inl (lf_st hj)
 have hlx:lp∉rid xp:=new _ (hlt _ lf_lp) a1
 refine ⟨H2,s1,⟨s2,(h.st.out hg fun j hj q=>(b j q).2 hj).out s3 fun j hj=>n2 j fun q=>a3 (q ▸ hj),ho.out s3 fun j hj=>n2 j fun q=>hlx (q ▸ hj),(h.recs.outS hg (fun j hj q=>(b j q).1 hj) fun y hy i hi q=>h.row y hy i hi (lf_xp q)).outS s3 (fun j hj=>n2 j fun q=>a2 (q ▸ hj)) (fun y hy i hi=>n2 i fun q=>h.row y hy i hi (q ▸ lf_lp)),?_,fun y hy i hi q => ?_⟩,(hg.mono fun j hj=>lf_xp hj).trans (s3.mono fun j hj=>by rw [List.mem_singleton.1 hj]; exact lf_lp),hf⟩
 ·exact nd_mk h.st.nd hlx a2 a3 (fun j hj=>(hr j hj).elim (fun q=>(b j q).1) fun q e=>by have:=hlt j (lf_xr e); omega) (fun j hj=>(hr j hj).elim (fun q=>(b j q).2) fun q e=>by have:=hlt j (lf_st e); omega) b3
 ·rcases hf i q with q | q
  ·exact h.row y hy i hi q
  ·have:=h.recs.ylt y hy i hi; omega
theorem Lg.inParts {H1:Hp} {ps:List (Int × Int)} (h:Lg H lp p m l) (ho:OL H1 66 2 l.xp (ps.map pc)) (hg:Out (rid l.xp) H H1):Lg H1 lp p { m with parts:=ps } l∧Lgo lp p H l H1 l:=by
 obtain ⟨⟨a1,a2,a3⟩,b,b3⟩:=h.apart
 exact ⟨⟨h.head.out hg a1,h.st.out hg fun j hj q=>(b j q).2 hj,ho,h.recs.outS hg (fun j hj q=>(b j q).1 hj) fun y hy i hi q=>h.row y hy i hi (lf_xp q),h.nd,h.row⟩,hg.mono fun j hj=>lf_xp hj,fun j hj => .inl hj⟩
theorem Lg.toRecs {H1:Hp} {xr:AV} {rs:List (Nat × List Nat)} {ys:List AV} (h:Lg H lp p m l) (ho:Rs H1 xr rs ys) (hg:Out (rid l.xr) H H1) (hr:∀ j∈rid xr,j∈rid l.xr∨H.next≤j) (hy:∀ y∈ys,∀ i∈rid y,i∉lf lp p l∧i < H.next) :
  ∃ H2,K.st 1 (.ptr lp 3) xr H1=some H2∧Lg H2 lp p { m with recs:=rs } { l with xr:=xr,ys:=ys }∧Lgo lp p H l H2 { l with xr:=xr,ys:=ys }:=by
 obtain ⟨⟨a1,a2,a3⟩,b,b3⟩:=h.apart
 have hlt:=h.lt
 obtain ⟨H2,s1,s2,s3,s4⟩:=(h.head.out hg a2).st (o:=3) (v:=xr) (by simp) ho.own.rw.one
 have n2:∀ j,j≠lp→j∉[lp]:=fun j hj q=>hj (List.mem_singleton.1 q)
 have new:∀ j,j < H.next→j∉rid l.xr→j∉rid xr:=fun j hj hn q=>(hr j q).elim hn fun q=>by omega
 have hf:∀ j∈lf lp p { l with xr:=xr,ys:=ys },j∈lf lp p l∨H.next≤j:=by
  intro j hj
  rcases lf_cases hj with rfl | hj | hj | hj
  ·exact .inl lf_lp
  ·exact .inl (lf_xp hj)
  ·exact (hr j hj).imp lf_xr id
  ·exact .inl (lf_st hj)
 have hlx:lp∉rid xr:=new _ (hlt _ lf_lp) a2
 refine ⟨H2,s1,⟨s2,(h.st.out hg fun j hj q=>b3 j q hj).out s3 fun j hj=>n2 j fun q=>a3 (q ▸ hj),(h.parts.out hg fun j hj=>(b j hj).1).out s3 fun j hj=>n2 j fun q=>a1 (q ▸ hj),ho.outS s3 (fun j hj=>n2 j fun q=>hlx (q ▸ hj)) (fun y hy' i hi=>n2 i fun q=>(hy y hy' i hi).1 (q ▸ lf_lp)),?_,fun y hy' i hi q => ?_⟩,(hg.mono fun j hj=>lf_xr hj).trans (s3.mono fun j hj=>by rw [List.mem_singleton.1 hj]; exact lf_lp),hf⟩
 ·exact nd_mk h.st.nd a1 hlx a3 (fun j hj q=>(hr j q).elim (fun q=>(b j hj).1 q) fun q=>by have:=hlt j (lf_xp hj); omega) (fun j hj=>(b j hj).2) (fun j hj=>(hr j hj).elim (fun q=>b3 j q) fun q e=>by have:=hlt j (lf_st e); omega)
 ·obtain ⟨e1,e2⟩:=hy y hy' i hi
  rcases hf i q with q | q
  ·exact e1 q
  ·omega
end
end Go.Proofs.YtbdlbhlhnpblpaaGreatDoor.WlK
namespace Go.Proofs.YtbdlbhlhnpblpaaGreatDoor.WlK
open Go Am Am.K WlEnv Sg SegPrim SgN SgK StC
set_option linter.unusedVariables false
set_option linter.unusedSimpArgs false
set_option maxRecDepth 10000
set_option maxHeartbeats 1000000
theorem OL.pushC {H:Hp} {el es el2:Nat} {z:List AV} {s:AV} {L:List (List AV)} {vs:List AV} (h:OL H el es s L) (hv:∀ v∈vs,oneC v=true) (hn:vs.length=es) (hes:0 < es) (hk:es≤1000) (hlen:(L.length + 1) * es≤16777216) :
  ∃ H1 s' H2,newCells H vs el2 0=some (H.next,H1)∧app' el es z false s (.slice H.next 0 1 1 true es) H1=some (s',H2)∧OL H2 el es s' (L++[vs])∧Out [] H H1∧Out (rid s) H H2∧(∀ j∈rid s',j∈rid s∨H.next≤j):=by
 obtain ⟨H1,m1,m2,m3,m4⟩:=newCells_ok H vs el2 0 (by omega)
 have hrow:Rw H1 es (.slice H.next 0 1 1 true es) vs := .mk m2.ro (by omega) (Nat.le_refl _) rfl
 obtain ⟨s',H2,a1,a2,a3,a4⟩:=append_ok (z:=z) (h.1.out m3 fun j _ q=>by cases q) hrow hv hes (by
  rw [flatten_len h.2,hn]
  rw [Nat.add_mul,Nat.one_mul] at hlen
  exact hlen)
 refine ⟨H1,s',H2,m1,a1,⟨by rw [List.flatten_append]; simpa using a2,fun c hc => ?_⟩,m3,(m3.mono fun j hj=>by cases hj).trans a3,fun j hj=>(a4 j hj).imp id fun q=>Nat.le_trans m3.1 q⟩
 rcases List.mem_append.1 hc with hc | hc
 ·exact h.2 c hc
 ·rw [List.mem_singleton] at hc; subst hc; exact hn
theorem lda_of {H:Hp} {b o n:Nat} {c:List AV} (h:cellsAt H b o n=some c):lda n (.ptr b o) H=some (.agg c):=by
 unfold lda
 simp only [h]
 rfl
theorem ld_of {H:Hp} {b o:Nat} {v:AV} (h:cellAt H b o=some v):ld (.ptr b o) H=some v:=h
end Go.Proofs.YtbdlbhlhnpblpaaGreatDoor.WlK
namespace Go.Proofs.YtbdlbhlhnpblpaaGreatDoor.SgK
open Go.Proofs.YtbdlbhlhnpblpaaGreatDoor.WlK
open Go Am Am.K WlEnv Sg SegPrim SgN SgK StC
set_option linter.unusedVariables false
set_option linter.unusedSimpArgs false
set_option maxRecDepth 10000
set_option maxHeartbeats 1000000
theorem Rs.lda {H:Hp} {x:AV} {rs:List (Nat × List Nat)} {ys:List AV} (h:Rs H x rs ys) {j:Nat} {r:Nat × List Nat} (hj:rs[j]? = some r) :
  ∃ i o y,(∀ k,ia 2 x (.int k j)=some (.ptr i o))∧K.lda 2 (.ptr i o) H=some (.agg [.int .u64 (r.1:Nat),y])∧ld (.ptr i (o + 0)) H=some (.int .u64 (r.1:Nat))∧ld (.ptr i (o + 1)) H=some y∧Rw H 1 y (bs r.2)∧y∈ys:=by
 have hlt:=(List.getElem?_eq_some_iff.1 hj).1
 obtain ⟨y0,hy⟩:∃ y0,ys[j]? = some y0:=⟨_,List.getElem?_eq_getElem (by rw [h.len]; exact hlt)⟩
 obtain ⟨g0,g1⟩:=rcs_get rs ys j r _ hj hy
 obtain ⟨b,o,h1,h2,h3,h4,h5⟩:=h.own.rw.ia (rcs_len _ _ h.len) (by decide) hlt
 have hc:((rcs rs ys).drop (j * 2)).take 2=[.int .u64 (r.1:Nat),y0]:=by
  apply List.ext_getElem?
  intro k
  match k with
  | 0=>rw [List.getElem?_take,if_pos (by decide),List.getElem?_drop]; exact g0
  | 1=>rw [List.getElem?_take,if_pos (by decide),List.getElem?_drop]; exact g1
  | k + 2=>rw [List.getElem?_take,if_neg (by omega)]; simp
 rw [hc] at h5
 refine ⟨b,o,y0,h1,lda_of h5,?_,?_,h.row j _ r hy hj,List.mem_of_getElem? hy⟩
 ·exact ld_of (h4 0 _ g0 (by decide))
 ·exact ld_of (h4 1 _ g1 (by decide))
end Go.Proofs.YtbdlbhlhnpblpaaGreatDoor.SgK
namespace Go.Proofs.YtbdlbhlhnpblpaaGreatDoor.WlK
open Go Am Am.K WlEnv Sg SegPrim SgN SgK StC
set_option linter.unusedVariables false
set_option linter.unusedSimpArgs false
set_option maxRecDepth 10000
set_option maxHeartbeats 1000000
section
variable {H:Hp} {lp p:Nat} {m:LM} {l:LP}
def endM (m:LM):Int:=m.first + m.recs.length
def epM (m:LM):Int:=match m.recs.getLast? with | none=>0 | some r=>((r.1 / 17592186044416:Nat):Int)
structure Small (m:LM):Prop where
 first:0≤m.first∧m.first≤17592186040000
 recs:m.recs.length≤1000
 at':∀ r∈m.recs,r.1 < 18446744073709551616
 parts:m.parts.length≤1000
 part:∀ q∈m.parts,0≤q.2∧q.2≤1000000000
theorem end_c (h:Lg H lp p m l) (hs:Small m):cK (.func (.func 16) [] []) [.ptr lp 0] H=some (.int .i64 (endM m),H):=by
 refine c_wal_Log_End ?_
 unfold s_wal_Log_End endM
 have l4:=h.head.ld (o:=4) rfl
 have l3:=h.head.ld (o:=3) rfl
 have hl:=h.recs.lenc
 have h1:=hs.first
 have h2:=hs.recs
 have w:IntKind.wrap .i64 (m.first + (m.recs.length:Nat))=m.first + (m.recs.length:Nat):=wrap_i64 (by omega) (by omega)
 simp only [l4,l3,hl,w,k_s,k_x,Int.reduceBEq,Int.reduceBNe,Int.reduceLT,Int.reduceLE,Int.reduceGT,Int.reduceGE,Int.reduceNeg]
theorem lepoch_c (h:Lg H lp p m l) (hs:Small m):cK (.func (.func 22) [] []) [.ptr lp 0] H=some (.int .i64 (epM m),H):=by
 refine c_wal_Log_Epoch ?_
 unfold s_wal_Log_Epoch
 have l3:=h.head.ld (o:=3) rfl
 have hl:=h.recs.lenc
 have h2:=hs.recs
 rcases List.eq_nil_or_concat m.recs with he | ⟨rs,r,he⟩
 ·have hm:epM m=0:=by unfold epM; rw [he]; rfl
  rw [he] at hl
  rw [hm]
  simp only [l3,hl,List.length_nil,Int.natCast_zero,show (((0:Nat):Int))=0 from rfl,k_s,k_x,Int.reduceBEq,Int.reduceBNe,Int.reduceLT,Int.reduceLE,Int.reduceGT,Int.reduceGE,Int.reduceNeg]
 ·rw [List.concat_eq_append] at he
  have hm:epM m=((r.1 / 17592186044416:Nat):Int):=by unfold epM; rw [he]; simp
  have hn:m.recs.length=rs.length + 1:=by rw [he]; simp
  have hj:m.recs[rs.length]? = some r:=by rw [he]; simp
  obtain ⟨i,o,y,a1,a2,a3,a4,a5,a6⟩:=h.recs.lda hj
  have d:((((m.recs.length:Nat):Int)) == 0)=false:=by rw [beq_eq_false_iff_ne]; omega
  have w:IntKind.wrap .i64 ((m.recs.length:Nat) - 1)=((rs.length:Nat):Int):=by rw [wrap_i64 (by omega) (by omega)]; omega
  have e:=epoch_c (H:=H) r.1 (hs.at' r (List.mem_of_getElem? hj))
  have a1':=a1 .i64
  rw [hm]
  rw [Nat.add_zero] at a3
  simp only [l3,hl,d,w,a1',a3,e,Nat.add_zero,k_s,k_x,Int.reduceBEq,Int.reduceBNe,Int.reduceLT,Int.reduceLE,Int.reduceGT,Int.reduceGE,Int.reduceNeg]
theorem pname_c {H:Hp} (hT:hasT H begin0) (hn:11≤H.next) {f:Int} (s:Int) (hf:inN f=true) :
  ∃ H',cK (.func (.func 28) [] []) [.agg [.int .i64 f,.int .i64 s]] H=some (.str (nms f),H')∧Out [] H H':=by
 obtain ⟨H1,b1,b2,b3,b4⟩:=bx_ok H 66 (.agg [.int .i64 f,.int .i64 s]) [.int .i64 f,.int .i64 s] rfl (by simp)
 have l0:ld (.ptr H.next 0) H1=some (.int .i64 f):=b2.ld rfl
 have hnm:=name_c an (vsA (hasT_out hT hn b3)) f
 refine ⟨H1,c__wal_part_name ?_,b3⟩
 unfold s__wal_part_name
 simp only [b1,l0,hnm,k_s,k_x,Int.reduceBEq,Int.reduceBNe,Int.reduceLT,Int.reduceLE,Int.reduceGT,Int.reduceGE,Int.reduceNeg]
end
end Go.Proofs.YtbdlbhlhnpblpaaGreatDoor.WlK
namespace Go.Proofs.YtbdlbhlhnpblpaaGreatDoor.WlK
open Go Am Am.K WlEnv Sg SegPrim SgN SgK StC
set_option linter.unusedVariables false
set_option linter.unusedSimpArgs false
set_option maxRecDepth 10000
set_option maxHeartbeats 2000000
def lastP (m:LM):Int × Int:=(m.parts.getLast?).getD (0,0)
noncomputable def apM (m:LM) (a:Nat) (b:List Nat):LM:=
 if m.parts=[]∨m.most≤(lastP m).2 then { m with m:=(appM m.m (nms (endM m)) (fr a b)).2,parts:=m.parts++[(endM m,0 + ((16 + b.length:Nat):Int))],recs:=m.recs++[(a,b)] }
 else { m with m:=(appM m.m (nms (lastP m).1) (fr a b)).2,parts:=m.parts.set (m.parts.length - 1) ((lastP m).1,(lastP m).2 + ((16 + b.length:Nat):Int)),recs:=m.recs++[(a,b)] }
theorem pc_one (q:Int × Int):∀ v∈pc q,oneC v=true:=by
 intro v hv
 unfold pc at hv
 rcases List.mem_cons.1 hv with rfl | hv
 ·rfl
 ·rcases List.mem_cons.1 hv with rfl | hv
  ·rfl
  ·cases hv
theorem fr_byte {a:Nat} {b:List Nat} (hb:∀ v∈b,v < 256):∀ v∈fr a b,v < 256:=by
 intro v h
 rcases List.mem_append.1 h with h | h
 ·rcases List.mem_append.1 h with h | h
  ·exact hd12_byte _ _ v h
  ·exact le_byte _ _ v h
 ·exact hb v h
section
variable {H:Hp} {lp p:Nat} {m:LM} {l:LP}
theorem app_tail (h:Lg H lp p m l) {i t fl' a:Nat} {x':AV} {b:List Nat} (box:Cs H i [.int .u64 (a:Nat),x'] t fl') (hi:i∉lf lp p l) (hx:Rw H 1 x' (bs b)) (hxd:∀ j∈rid x',j∉lf lp p l) (hr:m.recs.length≤1000)
  {k:Nat} {f s:Int} (hq:m.parts[k]? = some (f,s)) (hs:0≤s∧s≤1000000000) {n:Nat} (hn:n≤1000000) :
  ∃ bb o H1 H2 s' H3 H4,ia 2 l.xp (.int .i64 (k:Nat))=some (.ptr bb o)∧ld (.ptr bb (o + 1)) H=some (.int .i64 s)∧iadd (.int .i64 s) (.int .i64 (n:Nat))=some (.int .i64 (s + n))∧st 1 (.ptr bb (o + 1)) (.int .i64 (s + n)) H=some H1∧
   ld (.ptr lp 2) H=some l.xp∧ld (.ptr lp 3) H1=some l.xr∧lda 2 (.ptr i 0) H1=some (.agg [.int .u64 (a:Nat),x'])∧fl [.int .u64 0,.slice0] [(0,2,.agg [.int .u64 (a:Nat),x'])]=some [.int .u64 (a:Nat),x']∧
   newCells H1 [.int .u64 (a:Nat),x'] 37 0=some (H1.next,H2)∧app' 37 2 [.int .u64 0,.slice0] false l.xr (.slice H1.next 0 1 1 true 2) H2=some (s',H3)∧st 1 (.ptr lp 3) s' H3=some H4∧ld (.ptr lp 3) H2=some l.xr∧same l.xr l.xr=true∧
   Lg H4 lp p { m with parts:=m.parts.set k (f,s + n),recs:=m.recs++[(a,b)] } { l with xr:=s',ys:=l.ys++[x'] }∧Lgo lp p H l H4 { l with xr:=s',ys:=l.ys++[x'] }:=by
 have hq':(m.parts.map pc)[k]? = some (pc (f,s)):=by rw [List.getElem?_map,hq]; rfl
 obtain ⟨bb,o,r1,r2,r3,r4,r5⟩:=h.parts.rl.at (by decide) hq'
 have hs1:ld (.ptr bb (o + 1)) H=some (.int .i64 s):=ld_of (r5 1 _ rfl)
 obtain ⟨H1,s1,s2,s3,s4⟩:=h.parts.st1 (k:=1) hq' r1 (v := .int .i64 (s + n)) rfl (by decide)
 have e:(m.parts.map pc).set k ((pc (f,s)).set 1 (.int .i64 (s + n)))=(m.parts.set k (f,s + n)).map pc:=by rw [List.map_set]; rfl
 rw [e] at s2
 obtain ⟨g1,g2⟩:=h.inParts s2 s3
 have xo:∀ j∈rid x',j∉rid l.xp:=fun j hj q=>hxd j hj (lf_xp q)
 have hx1:=hx.out s3 xo
 have box1:=box.out s3 fun q=>hi (lf_xp q)
 obtain ⟨H2,s',H3,m1,m2,m3,m4,m5⟩:=g1.recs.push (a:=a) hx1 (fun j hj q=>hxd j hj (lf_xr q)) (by show m.recs.length≤100000; omega)
 have m0:Out [] H1 H2:=by
  obtain ⟨Hq,z1,z2,z3,z4⟩:=newCells_ok H1 [.int .u64 ((a:Nat):Int),x'] 37 0 (by simp)
  rw [m1] at z1
  cases z1
  exact z3
 obtain ⟨H4,k1,k2,k3⟩:=g1.toRecs m3 m4 m5 (fun y hy j hj=>by
  rcases List.mem_append.1 hy with hy | hy
  ·exact ⟨h.row y hy j hj,g1.recs.ylt y hy j hj⟩
  ·rw [List.mem_singleton] at hy
   subst hy
   exact ⟨hxd j hj,hx1.lt j hj⟩)
 have w:IntKind.wrap .i64 (s + (n:Int))=s + n:=wrap_i64 (by omega) (by omega)
 refine ⟨bb,o,H1,H2,s',H3,H4,r1 .i64,hs1,by rw [iadd_i,w],s1,h.head.ld (o:=2) rfl,g1.head.ld (o:=3) rfl,box1.lda (n:=2) (o:=0) (by simp),?_,m1,m2,k1,(g1.out0 m0).head.ld (o:=3) rfl,same_rw h.recs.own.rw,k2,g2.trans k3⟩
 have cr:=cells_rec hx ((a:Nat):Int)
 simp [fl,cr]
end
end Go.Proofs.YtbdlbhlhnpblpaaGreatDoor.WlK
namespace Go.Proofs.YtbdlbhlhnpblpaaGreatDoor.WlK
open Go Am Am.K WlEnv Sg SegPrim SgN SgK StC
set_option linter.unusedVariables false
set_option linter.unusedSimpArgs false
set_option maxRecDepth 10000
set_option maxHeartbeats 4000000
theorem Lgo.of0 {lp p:Nat} {H H':Hp} {l:LP} (h:Out [] H H'):Lgo lp p H l H' l:=⟨h.mono (fun j hj=>by cases hj),fun j hj => .inl hj⟩
section
variable {H:Hp} {lp p:Nat} {m:LM} {l:LP}
theorem append_c (h:Lg H lp p m l) (hs:Small m) (hT:hasT H begin0) (hn:11≤H.next) {ep E:Nat} {y:AV} {b:List Nat} (hy:Rw H 1 y (bs b)) (hb:∀ v∈b,v < 256) (hlen:b.length≤1024)
  (he1:epM m≤ep) (he2:ep≤1048575) (hE:endM m=(E:Nat)) (hE2:E≤17592186044415) (ho:m.m.off=false) (hfu:m.m.fuse=0) (hroom:sumB m.m.fs + (16 + b.length)≤m.m.room) (hfs:m.m.fs.length < 64) (hin:∀ q∈m.parts,inN q.1=true) :
  ∃ H' l',cK (.func (.func 8) [] []) [.ptr lp 0,.int .i64 ep,y] H=some (.tuple [.int .u64 ((ep * 17592186044416 + E:Nat):Int),.int .i64 0],H')∧Lg H' lp p (apM m (ep * 17592186044416 + E) b) l'∧Lgo lp p H l H' l':=by
 have e1:=lepoch_c h hs
 have d1:decide (((ep:Nat):Int) < epM m)=false:=decide_eq_false (by omega)
 have d2:decide ((1048575:Int) < ((ep:Nat):Int))=false:=decide_eq_false (by omega)
 have e2:=end_c h hs
 rw [hE] at e2
 have e3:=pack_c (H:=H) ep E he2 hE2
 have ha:ep * 17592186044416 + E < 18446744073709551616:=by omega
 have hendN:inN (endM m)=true:=by rw [hE]; exact inN_t (by omega) (by omega)
 generalize hA:ep * 17592186044416 + E=a at *
 have hylt:=hy.lt
 have hlt:=h.lt
 obtain ⟨x',H1,c1,c2,c3,c4⟩:=SgK.clone_c hy (by omega)
 have f1:=fl_rec c2.rw ((a:Nat):Int)
 obtain ⟨H2,n1,n2,n3,n4⟩:=newCells_ok H1 [.int .u64 0,.slice0] 37 0 (by simp)
 obtain ⟨H3,t1,t2,t3,t4⟩:=st_all (n:=2) n2 (by omega) (cells_rec c2.rw ((a:Nat):Int)) rfl rfl (by
  intro v hv
  rcases List.mem_cons.1 hv with rfl | hv
  ·rfl
  ·rcases List.mem_cons.1 hv with rfl | hv
   ·exact one_rw c2.rw
   ·cases hv)
 have t5:lda 2 (.ptr H1.next 0) H3=some (.agg [.int .u64 ((a:Nat):Int),x']):=t2.lda (n:=2) (o:=0) (by simp)
 have x1lt:=c2.rw.lt
 have xr3:Rw H3 1 x' (bs b):=(c2.rw.out n3 fun j _ q=>by cases q).out t3 fun j hj q=>by
  have:=x1lt j hj
  rw [List.mem_singleton] at q
  omega
 obtain ⟨z,H4,p1,p2,p3,p4⟩:=put_c (x := .slice0) (l:=[]) .nil xr3 ha hb hlen (by simp)
 rw [List.nil_append] at p3
 have zl:=p3.rw.len1
 rw [bs_len,fr_len] at zl
 have o3:Out [] H H3:=(c3.trans n3).then t3 fun j hj=>by
  rw [List.mem_singleton] at hj
  have:=c3.1
  exact .inr (by omega)
 have o4:Out [] H H4:=o3.trans p2
 have h4:=h.out0 o4
 have box4:=t2.out p2 fun q=>by cases q
 have xr4:=xr3.out p2 fun j _ q=>by cases q
 have hxd:∀ j∈rid x',j∉lf lp p l:=fun j hj q=>by have:=c4 j hj; have:=hlt j q; omega
 have hid:H1.next∉lf lp p l:=fun q=>by have:=hlt _ q; have:=c3.1; omega
 have hzd:∀ j∈rid z,j∉lf lp p l:=fun j hj q=>by have:=p4 j hj; have:=hlt j q; have:=o3.1; omega
 have lp4:=h4.parts.rl.len (by decide)
 rw [List.length_map] at lp4
 have l42:=h4.head.ld (o:=2) rfl
 have l41:=h4.head.ld (o:=1) rfl
 have l40:=h4.head.ld (o:=0) rfl
 have hpl:=hs.parts
 have w1:IntKind.wrap .i64 (((m.parts.length:Nat):Int) - 1)=((m.parts.length:Nat):Int) - 1:=wrap_i64 (by omega) (by omega)
 have w2:IntKind.wrap .i64 (((m.parts.length:Nat):Int) - 1 + 1)=((m.parts.length:Nat):Int):=by rw [wrap_i64 (by omega) (by omega)]; omega
 have hT4:=hasT_out hT hn o4
 have hn4:11≤H4.next:=Nat.le_trans hn o4.1
 have frb:=fr_byte (a:=a) hb
 have frl:=fr_len a b
 by_cases hnew:m.parts=[]∨m.most≤(lastP m).2
 ·have hguard:∀ (K1:Bool→R),(∀ c:Bool,c=true→K1 c=K1 true)→True:=fun _ _=>trivial
  have e2':=end_c h4 hs
  rw [hE] at e2'
  obtain ⟨H5,u1,u2,u3,u4⟩:=newCells_ok H4 [.int .i64 0,.int .i64 0] 66 0 (by simp)
  obtain ⟨H6,v1,v2,v3,v4⟩:=st_all (n:=2) (v := .agg [.int .i64 (E:Nat),.int .i64 0]) (cs:=[.int .i64 (E:Nat),.int .i64 0]) u2 (by omega) rfl rfl rfl (pc_one ((E:Nat),0))
  have v5:lda 2 (.ptr H4.next 0) H6=some (.agg [.int .i64 (E:Nat),.int .i64 0]):=v2.lda (n:=2) (o:=0) (by simp)
  have o6:Out [] H4 H6:=u3.then v3 fun j hj=>by rw [List.mem_singleton] at hj; exact .inr (by omega)
  obtain ⟨H7,q1,q2⟩:=pname_c (hasT_out hT4 hn4 o6) (Nat.le_trans hn4 o6.1) 0 hendN
  rw [hE] at q1
  have o7:Out [] H4 H7:=o6.trans q2
  have h6:=h4.out0 o6
  have h7:=h4.out0 o7
  have l60:=h6.head.ld (o:=0) rfl
  have l70:=h7.head.ld (o:=0) rfl
  obtain ⟨m',s0,s1,s2,s3,s4,s5⟩:=app_some h7.st (at':=nms (E:Nat)) (b:=fr a b) ho hfu (okName_nms (by rw [← hE]; exact hendN)) (by rw [frl]; omega) hfs
  obtain ⟨H8,L',r1,r2,r3⟩:=app_c h7.st (nms (E:Nat)) (p3.rw.out o7 fun j _ q=>by cases q) frb fun j hj q=>hzd j hj (lf_st q)
  have hm':m'=(appM m.m (nms (E:Nat)) (fr a b)).2:=by rw [s0]
  rw [s0] at r1 r2
  obtain ⟨h8,g8⟩:=h7.toStore r2 r3
  have l82:=h8.head.ld (o:=2) rfl
  have hfo:∀ j∈foot p l.L,j < H.next:=fun j hj=>hlt j (lf_st hj)
  have v8:lda 2 (.ptr H4.next 0) H8=some (.agg [.int .i64 (E:Nat),.int .i64 0]):=((v2.out q2 fun q=>by cases q).out r3.1 fun q=>by have:=hfo _ q; have:=o4.1; omega).lda (n:=2) (o:=0) (by simp)
  obtain ⟨H9,sp,H10,i1,i2,i3,i4,i5,i6⟩:=OL.pushC (el2:=66) (z:=[.int .i64 0,.int .i64 0]) (vs:=pc ((E:Nat),0)) h8.parts (pc_one _) rfl (by decide) (by decide) (by rw [List.length_map]; show (m.parts.length + 1) * 2≤16777216; omega)
  have i3':OL H10 66 2 sp ((m.parts++[((E:Int),(0:Int))]).map pc):=by rw [List.map_append]; exact i3
  obtain ⟨H11,k1,h11,g11⟩:=h8.toParts i3' i5 i6
  have l92:=(h8.out0 i4).head.ld (o:=2) rfl
  have oA:Lgo lp p H4 l H11 { l with L:=L',xp:=sp }:=(Lgo.of0 o7:Lgo lp p H4 l H7 l).trans (g8.trans g11)
  have hnl:∀ j,j < H4.next→j∉lf lp p l→j∉lf lp p { l with L:=L',xp:=sp }:=fun j h1 h2 q=>(oA.2 j q).elim h2 fun q=>by omega
  have x4lt:=xr4.lt
  have hid4:H1.next < H4.next:=by have:=p2.1; have:=t3.1; omega
  obtain ⟨bb,o,H12,H13,s',H14,H15,y1,y2,y3,y4,y5,y6,y7,y8,y9,y10,y11,y12,y13,y14,y15⟩:=app_tail h11 (box4.out oA.1 hid) (hnl _ hid4 hid) (xr4.out oA.1 hxd) (fun j hj=>hnl j (x4lt j hj) (hxd j hj)) hs.recs (k:=m.parts.length) (f:=(E:Nat)) (s:=0) (by simp) (by omega) (n:=16 + b.length) (by omega)
  refine ⟨H15,_,c_wal_Log_Append ?_,?_,(Lgo.of0 o4:Lgo lp p H l H4 l).trans (oA.trans y15)⟩
  ·have fq:fl [(.int .i64 0),(.int .i64 0)] [(0,1,AV.int .i64 (E:Nat))]=some [.int .i64 (E:Nat),.int .i64 0]:=rfl
   have fq2:fl [(.int .i64 0),(.int .i64 0)] [(0,2,AV.agg [.int .i64 (E:Nat),.int .i64 0])]=some [.int .i64 (E:Nat),.int .i64 0]:=rfl
   have sx:same l.xp l.xp=true:=same_rw h.parts.1.rw
   unfold pc at i1
   by_cases hnil:m.parts=[]
   ·have d3:decide (((m.parts.length:Nat):Int) - 1 < 0)=true:=decide_eq_true (by rw [hnil]; decide)
    unfold s_wal_Log_Append
    simp only [e1,d1,d2,e2,e3,c1,f1,n1,t1,t5,p1,l42,lp4,w1,d3,e2',fq,u1,v1,l60,v5,q1,l70,SM_t (show same (.ptr p 0) (.ptr p 0)=true by simp [same,sameS]),r1,l82,v8,fq2,i1,i2,k1,l92,SM_t sx,w2,y1,y2,y3,y4,y5,y6,y7,y8,y9,y10,y11,y12,SM_t y13,zl,k_s,k_x,Int.reduceBEq,Int.reduceBNe,Int.reduceLT,Int.reduceLE,Int.reduceGT,Int.reduceGE,Int.reduceNeg]
   ·have hne:1≤m.parts.length:=by
     cases hq:m.parts with
     | nil=>exact absurd hq hnil
     | cons q r=>simp
    have d3:decide (((m.parts.length:Nat):Int) - 1 < 0)=false:=decide_eq_false (by omega)
    have hlast:m.parts[m.parts.length - 1]? = some (lastP m):=by
     unfold lastP
     rw [List.getLast?_eq_getElem?,List.getElem?_eq_getElem (by omega)]
     rfl
    obtain ⟨b9,o9,z1,z2,z3,z4,z5⟩:=h4.parts.rl.at (by decide) (show (m.parts.map pc)[m.parts.length - 1]? = some (pc (lastP m)) by rw [List.getElem?_map,hlast]; rfl)
    have z6:ld (.ptr b9 (o9 + 1)) H4=some (.int .i64 (lastP m).2):=ld_of (z5 1 _ rfl)
    have z7:=z1 .i64
    rw [show (((m.parts.length - 1:Nat):Int))=((m.parts.length:Nat):Int) - 1 by omega] at z7
    have d4:decide (m.most≤(lastP m).2)=true:=decide_eq_true (hnew.resolve_left hnil)
    unfold s_wal_Log_Append
    simp only [e1,d1,d2,e2,e3,c1,f1,n1,t1,t5,p1,l42,l41,lp4,w1,d3,z7,z6,d4,e2',fq,u1,v1,l60,v5,q1,l70,SM_t (show same (.ptr p 0) (.ptr p 0)=true by simp [same,sameS]),r1,l82,v8,fq2,i1,i2,k1,l92,SM_t sx,w2,y1,y2,y3,y4,y5,y6,y7,y8,y9,y10,y11,y12,SM_t y13,zl,k_s,k_x,Int.reduceBEq,Int.reduceBNe,Int.reduceLT,Int.reduceLE,Int.reduceGT,Int.reduceGE,Int.reduceNeg]
  ·have:apM m a b={ m with m:=m',parts:=(m.parts++[((E:Int),(0:Int))]).set m.parts.length ((E:Int),0 + ((16 + b.length:Nat):Int)),recs:=m.recs++[(a,b)] }:=by
    unfold apM
    rw [if_pos hnew,hm',hE]
    simp
   rw [this]
   exact y14
 ·have hnil:m.parts≠[]:=fun q=>hnew (.inl q)
  have hne:1≤m.parts.length:=by
   cases hq:m.parts with
   | nil=>exact absurd hq hnil
   | cons q r=>simp
  have d3:decide (((m.parts.length:Nat):Int) - 1 < 0)=false:=decide_eq_false (by omega)
  have hlast:m.parts[m.parts.length - 1]? = some (lastP m):=by
   unfold lastP
   rw [List.getLast?_eq_getElem?,List.getElem?_eq_getElem (by omega)]
   rfl
  obtain ⟨b9,o9,z1,z2,z3,z4,z5⟩:=h4.parts.rl.at (by decide) (show (m.parts.map pc)[m.parts.length - 1]? = some (pc (lastP m)) by rw [List.getElem?_map,hlast]; rfl)
  have z6:ld (.ptr b9 (o9 + 1)) H4=some (.int .i64 (lastP m).2):=ld_of (z5 1 _ rfl)
  have z7:=z1 .i64
  rw [show (((m.parts.length - 1:Nat):Int))=((m.parts.length:Nat):Int) - 1 by omega] at z7
  have z8:lda 2 (.ptr b9 o9) H4=some (.agg [.int .i64 (lastP m).1,.int .i64 (lastP m).2]):=lda_of z4
  have d4:decide (m.most≤(lastP m).2)=false:=decide_eq_false fun q=>hnew (.inr q)
  have hinL:inN (lastP m).1=true:=hin _ (List.mem_of_getElem? hlast)
  obtain ⟨H7,q1,q2⟩:=pname_c hT4 hn4 (lastP m).2 hinL
  have o7:Out [] H4 H7:=q2
  have h7:=h4.out0 o7
  have l70:=h7.head.ld (o:=0) rfl
  obtain ⟨m',s0,s1,s2,s3,s4,s5⟩:=app_some h7.st (at':=nms (lastP m).1) (b:=fr a b) ho hfu (okName_nms hinL) (by rw [frl]; omega) hfs
  obtain ⟨H8,L',r1,r2,r3⟩:=app_c h7.st (nms (lastP m).1) (p3.rw.out o7 fun j _ q=>by cases q) frb fun j hj q=>hzd j hj (lf_st q)
  have hm':m'=(appM m.m (nms (lastP m).1) (fr a b)).2:=by rw [s0]
  rw [s0] at r1 r2
  obtain ⟨h8,g8⟩:=h7.toStore r2 r3
  have oA:Lgo lp p H4 l H8 { l with L:=L' }:=(Lgo.of0 o7:Lgo lp p H4 l H7 l).trans g8
  have hnl:∀ j,j < H4.next→j∉lf lp p l→j∉lf lp p { l with L:=L' }:=fun j h1 h2 q=>(oA.2 j q).elim h2 fun q=>by omega
  have x4lt:=xr4.lt
  have hid4:H1.next < H4.next:=by have:=p2.1; have:=t3.1; omega
  obtain ⟨bb,o,H12,H13,s',H14,H15,y1,y2,y3,y4,y5,y6,y7,y8,y9,y10,y11,y12,y13,y14,y15⟩:=app_tail h8 (box4.out oA.1 hid) (hnl _ hid4 hid) (xr4.out oA.1 hxd) (fun j hj=>hnl j (x4lt j hj) (hxd j hj)) hs.recs (k:=m.parts.length - 1) hlast (hs.part _ (List.mem_of_getElem? hlast)) (n:=16 + b.length) (by omega)
  rw [show (((m.parts.length - 1:Nat):Int))=((m.parts.length:Nat):Int) - 1 by omega] at y1
  obtain ⟨rfl,rfl⟩:b9=bb∧o9=o:=by have:=z7.symm.trans y1; simpa using this
  refine ⟨H15,_,c_wal_Log_Append ?_,?_,(Lgo.of0 o4:Lgo lp p H l H4 l).trans (oA.trans y15)⟩
  ·unfold s_wal_Log_Append
   simp only [e1,d1,d2,e2,e3,c1,f1,n1,t1,t5,p1,l42,l41,l40,lp4,w1,d3,z7,z6,z8,d4,q1,l70,SM_t (show same (.ptr p 0) (.ptr p 0)=true by simp [same,sameS]),r1,w2,y1,y2,y3,y4,y5,y6,y7,y8,y9,y10,y11,y12,SM_t y13,zl,k_s,k_x,Int.reduceBEq,Int.reduceBNe,Int.reduceLT,Int.reduceLE,Int.reduceGT,Int.reduceGE,Int.reduceNeg]
  ·have:apM m a b={ m with m:=m',parts:=m.parts.set (m.parts.length - 1) ((lastP m).1,(lastP m).2 + ((16 + b.length:Nat):Int)),recs:=m.recs++[(a,b)] }:=by
    unfold apM
    rw [if_neg hnew,hm']
   rw [this]
   exact y14
end
end Go.Proofs.YtbdlbhlhnpblpaaGreatDoor.WlK
namespace Go.Proofs.YtbdlbhlhnpblpaaGreatDoor.WlK
open Go Am Am.K WlEnv Sg SegPrim SgN SgK StC
set_option linter.unusedVariables false
set_option linter.unusedSimpArgs false
set_option maxRecDepth 10000
set_option maxHeartbeats 2000000
theorem wclone_c {H:Hp} {a:Nat} {y:AV} {b:List Nat} (hy:Rw H 1 y (bs b)) (hl:b.length≤100000) :
  ∃ x H',cK (.func (.func 29) [] []) [.agg [.int .u64 (a:Nat),y]] H=some (.agg [.int .u64 (a:Nat),x],H')∧Rw H' 1 x (bs b)∧Out [] H H'∧∀ j∈rid x,H.next≤j:=by
 obtain ⟨H1,b1,b2,b3,b4⟩:=bx_ok H 37 _ _ (cells_rec hy ((a:Nat):Int)) (by simp)
 obtain ⟨H2,n1,n2,n3,n4⟩:=newCells_ok H1 [.int .u64 0,.slice0] 37 0 (by simp)
 have r2:=b2.out n3 fun q=>by cases q
 have l0:ld (.ptr H.next 0) H2=some (.int .u64 ((a:Nat):Int)):=r2.ld rfl
 have l1:ld (.ptr H.next 1) H2=some y:=r2.ld rfl
 have hy2:=(hy.out b3 fun j _ q=>by cases q).out n3 fun j _ q=>by cases q
 obtain ⟨x,H3,c1,c2,c3,c4⟩:=SgK.clone_c hy2 (by omega)
 have f1:=fl_rec c2.rw ((a:Nat):Int)
 have n2':=n2.out c3 fun q=>by cases q
 obtain ⟨H4,t1,t2,t3,t4⟩:=st_all (n:=2) n2' (by omega) (cells_rec c2.rw ((a:Nat):Int)) rfl rfl (by
  intro v hv
  rcases List.mem_cons.1 hv with rfl | hv
  ·rfl
  ·rcases List.mem_cons.1 hv with rfl | hv
   ·exact one_rw c2.rw
   ·cases hv)
 have t5:lda 2 (.ptr H1.next 0) H4=some (.agg [.int .u64 ((a:Nat):Int),x]):=t2.lda (n:=2) (o:=0) (by simp)
 have l03:ld (.ptr H.next 0) H3=some (.int .u64 ((a:Nat):Int)):=(r2.out c3 fun q=>by cases q).ld rfl
 refine ⟨x,H4,c_wal_clone ?_,c2.rw.out t3 fun j hj q => ?_,((b3.trans n3).trans c3).then t3 fun j hj => ?_,fun j hj=>Nat.le_trans (b3.trans n3).1 (c4 j hj)⟩
 ·unfold s_wal_clone
  simp only [b1,n1,l0,l1,c1,f1,t1,l03,SM_t (same_i .u64 ((a:Nat):Int)),t5,k_s,k_x,Int.reduceBEq,Int.reduceBNe,Int.reduceLT,Int.reduceLE,Int.reduceGT,Int.reduceGE,Int.reduceNeg]
 ·rw [List.mem_singleton] at q
  have:=c4 j hj
  omega
 ·rw [List.mem_singleton] at hj
  have:=b3.1
  exact .inr (by omega)
section
variable {H:Hp} {lp p:Nat} {m:LM} {l:LP}
theorem wget_c (h:Lg H lp p m l) (hs:Small m) {j:Nat} {r:Nat × List Nat} (hj:m.recs[j]? = some r) (hr:r.2.length≤100000) :
  ∃ x H',cK (.func (.func 10) [] []) [.ptr lp 0,.int .i64 (m.first + (j:Nat))] H=some (.tuple [.agg [.int .u64 (r.1:Nat),x],.int .i64 0],H')∧Rw H' 1 x (bs r.2)∧Out [] H H'∧∀ i∈rid x,H.next≤i:=by
 have hjl:=(List.getElem?_eq_some_iff.1 hj).1
 have h1:=hs.first
 have h2:=hs.recs
 obtain ⟨H1,n1,n2,n3,n4⟩:=newCells_ok H [.int .u64 0,.slice0] 37 0 (by simp)
 have g1:=h.out0 n3
 have l4:=g1.head.ld (o:=4) rfl
 have l3:=g1.head.ld (o:=3) rfl
 have d1:decide (m.first + (j:Nat) < m.first)=false:=decide_eq_false (by omega)
 have e1:=end_c g1 hs
 have d2:decide (endM m≤m.first + (j:Nat))=false:=decide_eq_false (by unfold endM; omega)
 have w:IntKind.wrap .i64 (m.first + (j:Nat) - m.first)=(j:Nat):=by rw [wrap_i64 (by omega) (by omega)]; omega
 obtain ⟨i,o,y,a1,a2,a3,a4,a5,a6⟩:=g1.recs.lda hj
 obtain ⟨x,H2,c1,c2,c3,c4⟩:=wclone_c (a:=r.1) a5 hr
 have n2':=n2.out c3 fun q=>by cases q
 obtain ⟨H3,t1,t2,t3,t4⟩:=st_all (n:=2) n2' (by omega) (cells_rec c2 ((r.1:Nat):Int)) rfl rfl (by
  intro v hv
  rcases List.mem_cons.1 hv with rfl | hv
  ·rfl
  ·rcases List.mem_cons.1 hv with rfl | hv
   ·exact one_rw c2
   ·cases hv)
 have t5:lda 2 (.ptr H.next 0) H3=some (.agg [.int .u64 ((r.1:Nat):Int),x]):=t2.lda (n:=2) (o:=0) (by simp)
 have a1':=a1 .i64
 refine ⟨x,H3,c_wal_Log_Get ?_,c2.out t3 fun k hk q => ?_,(n3.trans c3).then t3 fun k hk => ?_,fun k hk=>Nat.le_trans n3.1 (c4 k hk)⟩
 ·unfold s_wal_Log_Get
  simp only [n1,l4,l3,d1,e1,d2,w,a1',a2,c1,t1,t5,k_s,k_x,Int.reduceBEq,Int.reduceBNe,Int.reduceLT,Int.reduceLE,Int.reduceGT,Int.reduceGE,Int.reduceNeg]
 ·rw [List.mem_singleton] at q
  have:=c4 k hk
  omega
 ·rw [List.mem_singleton] at hk
  exact .inr (by omega)
end
theorem rs_nil (H:Hp):Rs H .slice0 [] []:=⟨.nil,rfl,(fun j y r h=>by simp at h),(fun y h=>by cases h)⟩
section
variable {H:Hp} {lp p:Nat} {m:LM} {l:LP}
end
theorem pickZ_nil:pickZ []=[]:=by
 have h:∀ z,z∉pickZ []:=fun z hz=>by
  obtain ⟨s,hs,_⟩:=(pickZ_mem [] z).1 hz
  cases hs
 cases hq:pickZ [] with
 | nil=>rfl
 | cons a r=>exact absurd (hq ▸ List.Mem.head _) (h a)
def newM (r:Nat) (most:Int):LM:=⟨most,⟨r,false,0,[],[]⟩,[],[],0,0⟩
theorem newM_small (r:Nat) (most:Int):Small (newM r most):=⟨⟨Int.le_refl _,by show (0:Int)≤17592186040000; decide⟩,Nat.zero_le _,(fun r h=>by cases h),Nat.zero_le _,(fun q h=>by cases h)⟩
theorem open_new {H:Hp} {p r:Nat} {L:Lay} (h:St H p ⟨r,false,0,[],[]⟩ L) (hT:hasT H begin0) (hn:11≤H.next) {most:Int} (h1:64≤most) (h2:most≤1048576) :
  ∃ lp l H',cK (.func (.func 15) [] []) [.ptr p 0,.int .i64 most] H=some (.tuple [.ptr lp 0,.int .i64 0],H')∧Lg H' lp p (newM r most) l∧Out [] H H'∧(∀ j∈lf lp p l,H.next≤j∨j∈foot p L):=by
 have d1:decide (most < 64)=false:=decide_eq_false (by omega)
 have d2:decide (1048576 < most)=false:=decide_eq_false (by omega)
 have e1:=StC.off_c h
 simp only at e1
 have hf:fl [.ptr0,(.int .i64 0),.slice0,.slice0,(.int .i64 0),(.int .i64 0)] [(0,1,AV.ptr p 0),(1,1,AV.int .i64 most)]=some [.ptr p 0,.int .i64 most,.slice0,.slice0,.int .i64 0,.int .i64 0]:=rfl
 obtain ⟨H1,b1,b2,b3,b4⟩:=bx_ok H 57 (.agg [.ptr p 0,.int .i64 most,.slice0,.slice0,.int .i64 0,.int .i64 0]) _ rfl (by simp)
 have h1':=h.out b3 fun j _ q=>by cases q
 obtain ⟨x,H2,n1,n2,n3,n4,n5⟩:=names_c h1'
 have n2':Rw H2 1 x (SgK.strs []):=n2
 have o2:Out [] H H2:=b3.trans n3
 obtain ⟨y,H3,p1,p2,p3,p4⟩:=pick_c n2' (hasT_out hT hn o2) (Nat.le_trans hn o2.1) (by simp) (fun s hs=>by cases hs)
 rw [pickZ_nil] at p3
 have yl:=p3.rw.len1
 have yl:lenx y=some (.int .i64 0):=yl
 have o3:Out [] H H3:=o2.trans p2
 have hd3:=(b2.out n3 fun q=>by cases q).out p2 fun q=>by cases q
 have hlp:H.next∉foot p L:=fun q=>by have:=h.lt _ q; omega
 have g3:Lg H3 H.next p (newM r most) ⟨L,.slice0,.slice0,[]⟩:=⟨⟨_,hd3⟩,h.out o3 (fun j _ q=>by cases q),OL.nil _ _ _,rs_nil _,nd_mk h.nd (fun q=>by cases q) (fun q=>by cases q) hlp (fun j hj=>by cases hj) (fun j hj=>by cases hj) (fun j hj=>by cases hj),(fun y hy=>by cases hy)⟩
 have e2:=end_c g3 (newM_small r most)
 have e0:endM (newM r most)=0:=rfl
 rw [e0] at e2
 obtain ⟨H4,s1,s2,s3,s4⟩:=g3.head.st (o:=5) (v := .int .i64 0) (by simp) rfl
 have l32:=g3.head.ld (o:=2) rfl
 have o4:Out [] H H4:=o3.then s3 fun j hj=>by rw [List.mem_singleton] at hj; exact .inr (by omega)
 have rd:cK (.func (.func 36) [] []) [.ptr H.next 0,y] H3=some (.int .i64 0,H3):=by
  refine c_wal_Log_read ?_
  unfold s_wal_Log_read
  simp only [yl,Int.natCast_zero,show (((0:Nat):Int))=0 from rfl,k_s,k_x,Int.reduceBEq,Int.reduceBNe,Int.reduceLT,Int.reduceLE,Int.reduceGT,Int.reduceGE,Int.reduceNeg]
  rw [ql_wal_Log_read]
  simp only [k_s,k_x,Int.reduceBEq,Int.reduceBNe,Int.reduceLT,Int.reduceLE,Int.reduceGT,Int.reduceGE,Int.reduceNeg]
 refine ⟨H.next,⟨L,.slice0,.slice0,[]⟩,H4,c_wal_Open ?_,⟨s2,g3.st.out s3 (fun j hj q=>hlp (by rw [List.mem_singleton] at q; exact q ▸ hj)),OL.nil _ _ _,rs_nil _,g3.nd,(fun y hy=>by cases hy)⟩,o4,fun j hj => ?_⟩
 ·unfold s_wal_Open
  simp only [d1,d2,e1,hf,b1,n1,p1,rd,l32,k_s,k_x,Int.reduceBEq,Int.reduceBNe,Int.reduceLT,Int.reduceLE,Int.reduceGT,Int.reduceGE,Int.reduceNeg]
  rw [ql_wal_Open]
  simp only [e2,s1,k_s,k_x,Int.reduceBEq,Int.reduceBNe,Int.reduceLT,Int.reduceLE,Int.reduceGT,Int.reduceGE,Int.reduceNeg]
 ·rcases lf_cases hj with rfl | hj | hj | hj
  ·exact .inl (Nat.le_refl _)
  ·cases hj
  ·cases hj
  ·exact .inr hj
theorem begun_c {H:Hp} (hT:hasT H begin0) (hn:11≤H.next) {most:Int} (h1:64≤most) (h2:most≤1048576) :
  ∃ lp p l H',cK (.func (.func 7) [] []) [.int .i64 most] H=some (.tuple [.ptr lp 0,.ptr p 0],H')∧Lg H' lp p (newM 65536 most) l∧Out [] H H'∧(∀ j∈lf lp p l,H.next≤j):=by
 obtain ⟨H1,p,L,n1,n2,n3,n4⟩:=(new_c H 65536).2 65536 rfl (by omega) (by omega)
 obtain ⟨lp,l,H2,o1,o2,o3,o4⟩:=open_new n2 (hasT_out hT hn n3) (Nat.le_trans hn n3.1) h1 h2
 refine ⟨lp,p,l,H2,c_outriderlaw7_begun ?_,o2,n3.trans o3,fun j hj=>(o4 j hj).elim (fun q=>Nat.le_trans n3.1 q) (n4 j)⟩
 unfold s_outriderlaw7_begun
 simp only [n1,o1,k_s,k_x,Int.reduceBEq,Int.reduceBNe,Int.reduceLT,Int.reduceLE,Int.reduceGT,Int.reduceGE,Int.reduceNeg]
end Go.Proofs.YtbdlbhlhnpblpaaGreatDoor.WlK
