/- A log by its segments; wal's Sync: contract over the symbolic heap. Conditions: as each states them. -/
import Derived.Test.YtbdlbhlhnpblpaaGreatDoorWcC
import Derived.Handed
import Derived.Test.YtbdlbhlhnpblpaaGreatDoorProg
namespace Go.Proofs.YtbdlbhlhnpblpaaGreatDoor.WlK
open Go Am Am.K WlEnv Sg SegPrim SgN SgK StC
set_option linter.unusedVariables false
set_option linter.unusedSimpArgs false
set_option maxRecDepth 10000
set_option maxHeartbeats 2000000
structure Sm where
 first:Nat
 rs:List (Nat × List Nat)
 sure:Nat
def fb:List (Nat × List Nat)→List Nat
 | []=>[]
 | r::rs=>fr r.1 r.2++fb rs
theorem fb_app:∀ (a b:List (Nat × List Nat)),fb (a++b)=fb a++fb b
 | [],b=>rfl
 | r::a,b=>by rw [List.cons_append,fb,fb,fb_app a b,List.append_assoc]
def sP (s:Sm):Int × Int:=((s.first:Nat),((fb s.rs).length:Nat))
def sF (s:Sm):Fl:=⟨nms (s.first:Nat),fb s.rs,s.sure⟩
theorem sF_nm (s:Sm):(sF s).nm=nms (s.first:Nat):=by simp only [sF]
def recsOf (ss:List Sm):List (Nat × List Nat):=ss.flatMap (·.rs)
def chain:Nat→List Sm→Prop
 | _,[]=>True
 | e,s::r=>s.first=e∧(r≠[]→s.rs≠[])∧chain (e + s.rs.length) r
def syS (s:Sm):Sm:={ s with sure:=(fb s.rs).length }
def withFs (m:LM) (ss:List Sm):LM:={ m with m:={ m.m with fs:=ss.map sF } }
theorem look_at {a b:List Fl} {f:Fl} (hn:((a++f::b).map (·.nm)).Nodup):(a++f::b).find? (fun g=>g.nm == f.nm)=some f:=by
 rw [List.map_append,List.map_cons,List.nodup_append] at hn
 obtain ⟨n1,n2,n3⟩:=hn
 rw [List.find?_append]
 have:a.find? (fun g=>g.nm == f.nm)=none:=by
  rw [List.find?_eq_none]
  intro g hg q
  have e:g.nm=f.nm:=by simpa using q
  exact n3 _ (List.mem_map.2 ⟨g,hg,rfl⟩) _ (.head _) e
 rw [this]
 simp
theorem setF_at {a b:List Fl} {f g:Fl} (hn:((a++f::b).map (·.nm)).Nodup):setF f.nm g (a++f::b)=a++g::b:=by
 rw [List.map_append,List.map_cons,List.nodup_append,List.nodup_cons] at hn
 obtain ⟨n1,⟨n2,n4⟩,n3⟩:=hn
 unfold setF
 rw [List.map_append,List.map_cons,if_pos rfl]
 congr 1
 ·refine (List.map_congr_left fun y hy=>if_neg fun q => ?_).trans (List.map_id _)
  exact n3 _ (List.mem_map.2 ⟨y,hy,rfl⟩) _ (.head _) q
 ·congr 1
  refine (List.map_congr_left fun y hy=>if_neg fun q => ?_).trans (List.map_id _)
  exact n2 (List.mem_map.2 ⟨y,hy,q⟩)
theorem delF_at {a b:List Fl} {f:Fl} (hn:((a++f::b).map (·.nm)).Nodup):delF f.nm (a++f::b)=a++b:=by
 rw [List.map_append,List.map_cons,List.nodup_append,List.nodup_cons] at hn
 obtain ⟨n1,⟨n2,n4⟩,n3⟩:=hn
 unfold delF
 rw [List.filter_append,List.filter_cons]
 have h1:(!(f.nm == f.nm))=false:=by simp
 have hf:∀ l:List Fl,(∀ y∈l,y.nm≠f.nm)→l.filter (fun g => !(g.nm == f.nm))=l:=fun l hl=>List.filter_eq_self.2 fun y hy=>by simpa using hl y hy
 rw [h1,hf a fun y hy q=>n3 _ (List.mem_map.2 ⟨y,hy,rfl⟩) _ (.head _) q,hf b fun y hy q=>n2 (List.mem_map.2 ⟨y,hy,q⟩)]
 rfl
theorem ofE_at {m:SM} {a b:List Fl} {f:Fl} (h:m.fs=a++f::b) (hn:(m.fs.map (·.nm)).Nodup) (ho:m.off=false) (hk:okName f.nm=true):ofE m f.nm=0∧StC.look m f.nm=some f:=by
 have hl:StC.look m f.nm=some f:=by unfold StC.look; rw [h] at hn ⊢; exact look_at hn
 refine ⟨?_,hl⟩
 unfold ofE
 rw [hl,ho,hk]
 rfl
section
variable {H:Hp} {lp p:Nat} {m:LM} {l:LP}
theorem sync_loop (hT0:hasT H begin0) (hn0:11≤H.next):∀ (r a:List Sm) (H1:Hp) (m:LM) (l:LP),Out [] H H1∨True→hasT H1 begin0→11≤H1.next→Lg H1 lp p m l→m.m.fs=(a++r).map sF→m.parts=(a++r).map sP→m.m.off=false→m.m.fuse=0→(∀ s∈a++r,s.first≤17592186044415)→(a++r).length≤1000→
  (∀ j∈lf lp p l,11≤j)→
  ∃ H' l',(∀ k:K.Fn 1,l_wal_Log_Sync JN GO cK k (.ptr lp 0) l.xp (.int .i64 ((a++r).length:Nat)) (.int .i64 (a.length:Nat)) H1=k (.ptr lp 0) H')∧Lg H' lp p (withFs m (a++r.map syS)) l'∧Lgo lp p H1 l H' l'∧l'.xp=l.xp
 | [],a,H1,m,l,_,hT,hn,h,hfs,hps,hoff,hfu,hin,hlen,hge=>by
  have d:decide (((a.length:Nat):Int) < (((a++[]).length:Nat):Int))=false:=decide_eq_false (by simp)
  have e:withFs m (a++([]:List Sm).map syS)=m:=by
   unfold withFs
   rw [List.map_nil,← hfs]
  rw [e]
  refine ⟨H1,l,fun k => ?_,h,Lgo.refl _ _ _ _,rfl⟩
  rw [ql_wal_Log_Sync]
  simp only [d,k_s,k_x,Int.reduceBEq,Int.reduceBNe,Int.reduceLT,Int.reduceLE,Int.reduceGT,Int.reduceGE,Int.reduceNeg]
 | s::r,a,H1,m,l,_,hT,hn,h,hfs,hps,hoff,hfu,hin,hlen,hge=>by
  have d:decide (((a.length:Nat):Int) < (((a++s::r).length:Nat):Int))=true:=decide_eq_true (by simp; omega)
  have hq:(m.parts.map pc)[a.length]? = some (pc (sP s)):=by rw [hps]; simp
  obtain ⟨b,o,z1,z2,z3,z4,z5⟩:=h.parts.rl.at (by decide) hq
  have z1':=z1 .i64
  have z6:lda 2 (.ptr b o) H1=some (.agg [.int .i64 (s.first:Nat),.int .i64 ((fb s.rs).length:Nat)]):=lda_of z4
  have hinS:inN ((s.first:Nat):Int)=true:=inN_t (by omega) (by have:=hin s (by simp); omega)
  obtain ⟨H2,u1,u2,u3,u4⟩:=newCells_ok H1 [.int .i64 0,.int .i64 0] 66 0 (by simp)
  obtain ⟨H3,v1,v2,v3,v4⟩:=st_all (n:=2) (v := .agg [.int .i64 (s.first:Nat),.int .i64 ((fb s.rs).length:Nat)]) (cs:=[.int .i64 (s.first:Nat),.int .i64 ((fb s.rs).length:Nat)]) u2 (by omega) rfl rfl rfl (pc_one ((s.first:Nat),((fb s.rs).length:Nat)))
  have o3:Out [] H1 H3:=u3.then v3 fun j hj=>by rw [List.mem_singleton] at hj; exact .inr (by omega)
  have v5:lda 2 (.ptr H1.next 0) H3=some (.agg [.int .i64 (s.first:Nat),.int .i64 ((fb s.rs).length:Nat)]):=v2.lda (n:=2) (o:=0) (by simp)
  have v6:ld (.ptr H1.next 1) H3=some (.int .i64 ((fb s.rs).length:Nat)):=v2.ld rfl
  obtain ⟨H4,q1,q2⟩:=pname_c (hasT_out hT hn o3) (Nat.le_trans hn o3.1) ((fb s.rs).length:Nat) hinS
  have o4:=o3.trans q2
  have w2:=v2.out q2 fun q=>by cases q
  have w6:ld (.ptr H1.next 1) H4=some (.int .i64 ((fb s.rs).length:Nat)):=w2.ld rfl
  have h3:=h.out0 o3
  have h4:=h.out0 o4
  have l30:=h3.head.ld (o:=0) rfl
  have l40:=h4.head.ld (o:=0) rfl
  have hfs':m.m.fs=a.map sF++sF s::r.map sF:=by rw [hfs]; simp
  have hk:okName (sF s).nm=true:=by rw [sF_nm]; exact okName_nms hinS
  obtain ⟨e0,e1⟩:=ofE_at hfs' h.st.ok.names hoff hk
  rw [sF_nm] at e0 e1
  have hsure:=sure_c h4.st (nms (s.first:Nat))
  have hsv:sureM m.m (nms (s.first:Nat))=s.sure:=by
   unfold sureM
   rw [e1]
   simp only [sF]
  rw [hsv] at hsure
  have sp:same (.ptr p 0) (.ptr p 0)=true:=by simp [same,sameS]
  have sl:=same_i .i64 (((fb s.rs).length:Nat):Int)
  have e3:IntKind.wrap .i64 (((a.length:Nat):Int) + 1)=(((a++[syS s]).length:Nat):Int):=by
   rw [wrap_i64 (by omega) (by simp at hlen; omega)]; simp
  have hlt:=h.lt
  by_cases hsz:s.sure=(fb s.rs).length
  ·have d2:((((s.sure:Nat):Int)) == (((fb s.rs).length:Nat):Int))=true:=by rw [beq_iff_eq]; omega
   have hss:syS s=s:=by unfold syS; rw [← hsz]
   have hA:(a++[syS s])++r=a++s::r:=by rw [hss]; simp
   obtain ⟨H',l',k1,k2,k3,k4⟩:=sync_loop hT0 hn0 r (a++[syS s]) H4 m l (.inr trivial) (hasT_out hT hn o4) (Nat.le_trans hn o4.1) h4 (by rw [hA]; exact hfs) (by rw [hA]; exact hps) hoff hfu (by rw [hA]; exact hin) (by rw [hA]; exact hlen) hge
   refine ⟨H',l',fun k => ?_,?_,(Lgo.of0 o4).trans k3,k4⟩
   ·have k1':=k1 k
    rw [hA] at k1'
    rw [ql_wal_Log_Sync]
    simp only [d,z1',z6,u1,v1,v5,v6,q1,l30,l40,hsure,w6,d2,SM_t sp,SM_t sl,e3,k_s,k_x,Int.reduceBEq,Int.reduceBNe,Int.reduceLT,Int.reduceLE,Int.reduceGT,Int.reduceGE,Int.reduceNeg]
    exact k1'
   ·simpa using k2
  ·have d2:((((s.sure:Nat):Int)) == (((fb s.rs).length:Nat):Int))=false:=by rw [beq_eq_false_iff_ne]; omega
   have v5':lda 2 (.ptr H1.next 0) H4=some (.agg [.int .i64 (s.first:Nat),.int .i64 ((fb s.rs).length:Nat)]):=w2.lda (n:=2) (o:=0) (by simp)
   obtain ⟨H5,q3,q4⟩:=pname_c (hasT_out hT hn o4) (Nat.le_trans hn o4.1) ((fb s.rs).length:Nat) hinS
   have o5:=o4.trans q4
   have h5:=h.out0 o5
   have l50:=h5.head.ld (o:=0) rfl
   obtain ⟨H6,L',r1,r2,r3⟩:=sync_c h5.st (nms (s.first:Nat))
   have hB:burnB m.m=true:=by unfold burnB; rw [hfu]; rfl
   have hM:burnM m.m=m.m:=by unfold burnM; rw [if_pos hfu]
   have hsy:syncM m.m (nms (s.first:Nat))=(0,{ m.m with fs:=(a.map sF)++sF (syS s)::r.map sF }):=by
    unfold syncM
    rw [e0,if_neg (by decide),if_neg (by rw [hB]; decide),hM,e1]
    have hnd:=h.st.ok.names
    rw [hfs'] at hnd
    have:=setF_at (g:=sF (syS s)) hnd
    rw [sF_nm] at this
    simp only [hfs',sF_nm]
    exact congrArg (fun z=>((0:Int),({ m.m with fs:=z }:SM))) this
   rw [hsy] at r1 r2
   obtain ⟨h6,g6⟩:=h5.toStore r2 r3
   have hA:(a++[syS s])++r=a++syS s::r:=by simp
   have o6:Lgo lp p H1 l H6 { l with L:=L' }:=(Lgo.of0 o5).trans g6
   have hT6:hasT H6 begin0:=by
    obtain ⟨el,hh⟩:=hT
    refine ⟨el,fun g l' hg => ?_⟩
    have hb:=begin_lt g l' hg
    rw [o6.1.2 g (by omega) fun q=>by have:=hge g q; omega]
    exact hh g l' hg
   obtain ⟨H',l',k1,k2,k3,k4⟩:=sync_loop hT0 hn0 r (a++[syS s]) H6 _ _ (.inr trivial) hT6 (Nat.le_trans hn o6.1.1) h6 (by rw [hA]; simp) (by rw [hA]; show m.parts=_; rw [hps]; simp [sP,syS]) hoff hfu (by
    rw [hA]
    intro q hq
    rcases List.mem_append.1 hq with hq | hq
    ·exact hin q (List.mem_append_left _ hq)
    ·rcases List.mem_cons.1 hq with rfl | hq
     ·exact hin s (by simp)
     ·exact hin q (List.mem_append_right _ (.tail _ hq))) (by rw [hA]; simpa using hlen) (fun j hj=>(o6.2 j hj).elim (hge j) fun q=>by omega)
   refine ⟨H',l',fun k => ?_,?_,o6.trans k3,k4⟩
   ·have k1':=k1 k
    rw [show ((a++[syS s])++r).length=(a++s::r).length by simp] at k1'
    rw [ql_wal_Log_Sync]
    simp only [d,z1',z6,u1,v1,v5,v6,q1,l30,l40,hsure,w6,d2,SM_t sp,SM_t sl,v5',q3,l50,r1,e3,k_s,k_x,Int.reduceBEq,Int.reduceBNe,Int.reduceLT,Int.reduceLE,Int.reduceGT,Int.reduceGE,Int.reduceNeg]
    exact k1'
   ·have:withFs { m with m:={ m.m with fs:=(a.map sF)++sF (syS s)::r.map sF } } ((a++[syS s])++r.map syS)=withFs m (a++(s::r).map syS):=by
     unfold withFs; simp
    rw [← this]
    exact k2
end
theorem rcs_drop:∀ (a:Nat) (rs:List (Nat × List Nat)) (ys:List AV),ys.length=rs.length→(rcs rs ys).drop (a * 2)=rcs (rs.drop a) (ys.drop a)
 | 0,rs,ys,h=>by simp
 | a + 1,[],[],h=>by simp [rcs]
 | a + 1,r::rs,y::ys,h=>by
  have:=rcs_drop a rs ys (by simpa using h)
  rw [show (a + 1) * 2=a * 2 + 1 + 1 by omega]
  exact this
theorem rcs_take:∀ (a:Nat) (rs:List (Nat × List Nat)) (ys:List AV),ys.length=rs.length→(rcs rs ys).take (a * 2)=rcs (rs.take a) (ys.take a)
 | 0,rs,ys,h=>by simp [rcs]
 | a + 1,[],[],h=>by simp [rcs]
 | a + 1,r::rs,y::ys,h=>by
  have:=rcs_take a rs ys (by simpa using h)
  rw [show (a + 1) * 2=a * 2 + 1 + 1 by omega]
  show _::_::(rcs rs ys).take (a * 2)=_
  rw [this]; rfl
theorem rs_sub {H:Hp} {x:AV} {rs:List (Nat × List Nat)} {ys:List AV} (h:Rs H x rs ys) {a b:Nat} (hab:a≤b) (hb:b≤rs.length) {lo hi:Option AV} (hlo:Bd lo a 0) (hhi:Bd hi b rs.length) :
  ∃ x',sll 2 x lo hi none=some x'∧Rs H x' ((rs.drop a).take (b - a)) ((ys.drop a).take (b - a))∧∀ j∈rid x',j∈rid x:=by
 obtain ⟨x',h1,h2,h3⟩:=sll_ow h.own (rcs_len _ _ h.len) (by decide) hab hb hlo hhi
 rw [rcs_drop a rs ys h.len,rcs_take _ _ _ (by simp [h.len])] at h2
 refine ⟨x',h1,⟨h2,by simp [h.len],fun j y r q1 q2 => ?_,fun y hy i hi q=>h.sep y (List.mem_of_mem_drop (List.mem_of_mem_take hy)) i hi (h3 i q)⟩,h3⟩
 rw [List.getElem?_take] at q1 q2
 split at q1
 ·rename_i hj
  rw [if_pos hj,List.getElem?_drop] at q2
  rw [List.getElem?_drop] at q1
  exact h.row _ y r q1 q2
 ·cases q1
theorem fsize_c {H:Hp} {a:Nat} {y:AV} {b:List Nat} (hy:Rw H 1 y (bs b)) (hl:b.length≤100000):∃ H',cK (.func (.func 47) [] []) [.agg [.int .u64 (a:Nat),y]] H=some (.int .i64 ((16 + b.length:Nat):Int),H')∧Out [] H H':=by
 obtain ⟨H1,b1,b2,b3,b4⟩:=bx_ok H 37 _ _ (cells_rec hy ((a:Nat):Int)) (by simp)
 have l1:ld (.ptr H.next 1) H1=some y:=b2.ld rfl
 have hyl:=hy.len1
 rw [bs_len] at hyl
 have w:IntKind.wrap .i64 (16 + ((b.length:Nat):Int))=((16 + b.length:Nat):Int):=by rw [wrap_i64 (by omega) (by omega)]; omega
 refine ⟨H1,c_frame_Size ?_,b3⟩
 unfold s_frame_Size
 simp only [b1,l1,hyl,w,k_s,k_x,Int.reduceBEq,Int.reduceBNe,Int.reduceLT,Int.reduceLE,Int.reduceGT,Int.reduceGE,Int.reduceNeg]
theorem size_loop {x:AV} {rs:List (Nat × List Nat)} {ys:List AV} (hr:∀ r∈rs,r.2.length≤100000) (hlen:rs.length≤1000):∀ (r:List (Nat × List Nat)) (i s:Nat) (H:Hp),rs.drop i=r→Rs H x rs ys→s≤i * 1000000→
  ∃ H',(∀ k:K.Fn 1,l_wal_Log_size JN GO cK k (.int .i64 (s:Nat)) x (.int .i64 (rs.length:Nat)) (.int .i64 (i:Nat)) H=k (.int .i64 ((s + (fb r).length:Nat):Int)) H')∧Out [] H H'
 | [],i,s,H,hd,hx,hs=>by
  have:rs.length≤i:=by simpa using hd
  have d:decide (((i:Nat):Int) < ((rs.length:Nat):Int))=false:=decide_eq_false (by omega)
  refine ⟨H,fun k => ?_,Out.refl _ _⟩
  rw [ql_wal_Log_size]
  simp only [d,fb,List.length_nil,Nat.add_zero,k_s,k_x,Int.reduceBEq,Int.reduceBNe,Int.reduceLT,Int.reduceLE,Int.reduceGT,Int.reduceGE,Int.reduceNeg]
 | r::rr,i,s,H,hd,hx,hs=>by
  obtain ⟨hi,hj,hd'⟩:=K.hd_drop hd
  have d:decide (((i:Nat):Int) < ((rs.length:Nat):Int))=true:=decide_eq_true (by omega)
  have hrl:=hr r (List.mem_of_getElem? hj)
  obtain ⟨b,o,y,u1,u2,u3,u4,u5,u6⟩:=hx.lda hj
  have u1':=u1 .i64
  obtain ⟨H2,n1,n2,n3,n4⟩:=newCells_ok H [.int .u64 0,.slice0] 37 0 (by simp)
  obtain ⟨H3,t1,t2,t3,t4⟩:=st_all (n:=2) n2 (by omega) (cells_rec u5 ((r.1:Nat):Int)) rfl rfl (by
   intro v hv
   rcases List.mem_cons.1 hv with rfl | hv
   ·rfl
   ·rcases List.mem_cons.1 hv with rfl | hv
    ·exact one_rw u5
    ·cases hv)
  have o3:Out [] H H3:=n3.then t3 fun j hj=>by rw [List.mem_singleton] at hj; exact .inr (by omega)
  have t5:lda 2 (.ptr H.next 0) H3=some (.agg [.int .u64 ((r.1:Nat):Int),y]):=t2.lda (n:=2) (o:=0) (by simp)
  obtain ⟨H4,f1,f2⟩:=fsize_c (a:=r.1) (u5.out o3 fun j _ q=>by cases q) hrl
  have w1:IntKind.wrap .i64 (((s:Nat):Int) + ((16 + r.2.length:Nat):Int))=((s + (16 + r.2.length):Nat):Int):=by rw [wrap_i64 (by omega) (by omega)]; rfl
  have e3:IntKind.wrap .i64 (((i:Nat):Int) + 1)=((i + 1:Nat):Int):=by rw [wrap_i64 (by omega) (by omega)]; rfl
  obtain ⟨H5,k1,k2⟩:=size_loop hr hlen rr (i + 1) (s + (16 + r.2.length)) H4 hd' (hx.out (o3.trans f2)) (by omega)
  refine ⟨H5,fun k => ?_,(o3.trans f2).trans k2⟩
  rw [ql_wal_Log_size]
  simp only [d,u1',u2,n1,t1,t5,f1,w1,e3,k_s,k_x,Int.reduceBEq,Int.reduceBNe,Int.reduceLT,Int.reduceLE,Int.reduceGT,Int.reduceGE,Int.reduceNeg]
  rw [k1,fb,List.length_append,fr_len]
  congr 3
  omega
section
variable {H:Hp} {lp p:Nat} {m:LM} {l:LP}
theorem size_c (h:Lg H lp p m l) (hs:Small m) (hf:m.first=0) (hr:∀ r∈m.recs,r.2.length≤100000) {f many:Nat} (s:Int) (hb:f + many≤m.recs.length) :
  ∃ H',cK (.func (.func 30) [] []) [.ptr lp 0,.agg [.int .i64 (f:Nat),.int .i64 s],.int .i64 (many:Nat)] H=some (.int .i64 ((fb ((m.recs.drop f).take many)).length:Nat),H')∧Out [] H H':=by
 obtain ⟨H1,b1,b2,b3,b4⟩:=bx_ok H 66 (.agg [.int .i64 (f:Nat),.int .i64 s]) [.int .i64 (f:Nat),.int .i64 s] rfl (by simp)
 have l0:ld (.ptr H.next 0) H1=some (.int .i64 (f:Nat)):=b2.ld rfl
 have h1:=h.out0 b3
 have l3:=h1.head.ld (o:=3) rfl
 have l4:=h1.head.ld (o:=4) rfl
 rw [hf] at l4
 have hrl:=hs.recs
 have w:IntKind.wrap .i64 (((f:Nat):Int) - 0)=((f:Nat):Int):=by rw [wrap_i64 (by omega) (by omega)]; omega
 obtain ⟨x1,u1,u2,u3⟩:=rs_sub h1.recs (a:=f) (b:=m.recs.length) (by omega) (Nat.le_refl _) (lo:=some (.int .i64 (f:Nat))) (hi:=none) (Bd.yes _ _ _) (Bd.no _)
 rw [show (m.recs.drop f).take (m.recs.length - f)=m.recs.drop f from List.take_of_length_le (by simp)] at u2
 obtain ⟨x2,v1,v2,v3⟩:=rs_sub u2 (a:=0) (b:=many) (Nat.zero_le _) (by simp; omega) (lo:=none) (hi:=some (.int .i64 (many:Nat))) (Bd.no _) (Bd.yes _ _ _)
 rw [List.drop_zero,Nat.sub_zero] at v2
 have hx2:=v2.lenc
 obtain ⟨H2,k1,k2⟩:=size_loop (fun r hr'=>hr r (List.mem_of_mem_drop (List.mem_of_mem_take hr'))) (by simp; omega) _ 0 0 H1 rfl v2 (Nat.zero_le _)
 rw [show (((0:Nat):Int))=0 from rfl,Nat.zero_add,List.drop_zero] at k1
 refine ⟨H2,c_wal_Log_size ?_,b3.trans k2⟩
 unfold s_wal_Log_size
 simp only [b1,l3,l0,l4,w,u1,v1,hx2,k1,k_s,k_x,Int.reduceBEq,Int.reduceBNe,Int.reduceLT,Int.reduceLE,Int.reduceGT,Int.reduceGE,Int.reduceNeg]
end
end Go.Proofs.YtbdlbhlhnpblpaaGreatDoor.WlK
namespace Go.Proofs.YtbdlbhlhnpblpaaGreatDoor.WlK
open Go Am Am.K WlEnv Sg SegPrim SgN SgK StC
set_option linter.unusedVariables false
set_option linter.unusedSimpArgs false
set_option maxRecDepth 10000
set_option maxHeartbeats 4000000
theorem flatten_take {es:Nat}:∀ (L:List (List AV)) (b:Nat),(∀ c∈L,c.length=es)→L.flatten.take (b * es)=(L.take b).flatten
 | [],b,h=>by simp
 | c::L,0,h=>by simp
 | c::L,b + 1,h=>by
  have hc:=h c (.head _)
  rw [List.flatten_cons,List.take_succ_cons,List.flatten_cons,Nat.add_mul,Nat.one_mul,← flatten_take L b fun d hd=>h d (.tail _ hd),List.take_append,hc]
  rw [List.take_of_length_le (by omega),show b * es + es - es=b * es by omega]
theorem ol_take {H:Hp} {el es:Nat} {x:AV} {L:List (List AV)} (h:OL H el es x L) (hes:0 < es) {b:Nat} (hb:b≤L.length) {hi:Option AV} (hhi:Bd hi b L.length) :
  ∃ x',sll es x none hi none=some x'∧OL H el es x' (L.take b)∧∀ j∈rid x',j∈rid x:=by
 obtain ⟨x',h1,h2,h3⟩:=sll_ow h.1 (flatten_len h.2) hes (Nat.zero_le _) hb (lo:=none) (Bd.no 0) hhi
 rw [Nat.zero_mul,List.drop_zero,Nat.sub_zero,flatten_take L b h.2] at h2
 exact ⟨x',h1,⟨h2,fun c hc=>h.2 c (List.mem_of_mem_take hc)⟩,h3⟩
theorem fb_len_take (rs:List (Nat × List Nat)) (n:Nat):(fb (rs.take n)).length≤(fb rs).length∧(fb rs).take (fb (rs.take n)).length=fb (rs.take n):=by
 have h:fb rs=fb (rs.take n)++fb (rs.drop n):=by rw [← fb_app,List.take_append_drop]
 constructor
 ·rw [h,List.length_append]; omega
 ·conv=>lhs; rw [h]
  rw [List.take_append_of_le_length (Nat.le_refl _),List.take_length]
theorem chain_last:∀ (a:List Sm) (e:Nat) (s:Sm),chain e (a++[s])→s.first=e + (recsOf a).length∧chain e a∧(a≠[]→recsOf a≠[])
 | [],e,s,h=>⟨by simpa [recsOf] using h.1,trivial,fun q=>absurd rfl q⟩
 | c::a,e,s,h=>by
  obtain ⟨h1,h2,h3⟩:=h
  obtain ⟨q1,q2,q3⟩:=chain_last a _ s h3
  have hc:c.rs≠[]:=h2 (by simp)
  refine ⟨?_,⟨h1,fun _=>hc,q2⟩,fun _ q => ?_⟩
  ·rw [q1]
   simp only [recsOf,List.flatMap_cons,List.length_append]
   omega
  ·simp only [recsOf,List.flatMap_cons,List.append_eq_nil_iff] at q
   exact hc q.1
def cutL (off:Nat):List Sm→List Sm
 | []=>[]
 | s::r=>if s.first + s.rs.length≤off then s::r
  else if s.first < off∨r=[] then ⟨s.first,s.rs.take (off - s.first),min s.sure (fb (s.rs.take (off - s.first))).length⟩::r
  else cutL off r
structure Cutd (m m':LM) (ss:List Sm):Prop where
 cm:m'.m={ m.m with fs:=ss.map sF }
 cparts:m'.parts=ss.map sP
 crecs:m'.recs=recsOf ss
 cfirst:m'.first=m.first
 cmost:m'.most=m.most
section
variable {H:Hp} {lp p:Nat} {m:LM} {l:LP}
theorem Lg.toSure (h:Lg H lp p m l) (v:Int):∃ H2,K.st 1 (.ptr lp 5) (.int .i64 v) H=some H2∧Lg H2 lp p { m with sure:=v } l∧Lgo lp p H l H2 l:=by
 obtain ⟨⟨a1,a2,a3⟩,b,b3⟩:=h.apart
 obtain ⟨H2,s1,s2,s3,s4⟩:=h.head.st (o:=5) (v := .int .i64 v) (by simp) rfl
 have n2:∀ j,j≠lp→j∉[lp]:=fun j hj q=>hj (List.mem_singleton.1 q)
 refine ⟨H2,s1,⟨s2,h.st.out s3 (fun j hj=>n2 j fun q=>a3 (q ▸ hj)),h.parts.out s3 (fun j hj=>n2 j fun q=>a1 (q ▸ hj)),h.recs.outS s3 (fun j hj=>n2 j fun q=>a2 (q ▸ hj)) (fun y hy i hi=>n2 i fun q=>h.row y hy i hi (q ▸ lf_lp)),h.nd,h.row⟩,s3.mono fun j hj=>by rw [List.mem_singleton.1 hj]; exact lf_lp,fun j hj => .inl hj⟩
theorem cut_exit (h:Lg H lp p m l) (hs:Small m) {off n:Int} (hx:n < 0∨endM m≤off) (k:K.Fn 0):l_wal_Log_Cut JN GO cK k (.ptr lp 0) (.int .i64 off) (.int .i64 n) H=k H:=by
 rw [ql_wal_Log_Cut]
 by_cases h1:n < 0
 ·have d:decide (0≤n)=false:=decide_eq_false (by omega)
  simp only [d,k_s,k_x,Int.reduceBEq,Int.reduceBNe,Int.reduceLT,Int.reduceLE,Int.reduceGT,Int.reduceGE,Int.reduceNeg]
 ·have d:decide (0≤n)=true:=decide_eq_true (by omega)
  have e1:=end_c h hs
  have d2:decide (off < endM m)=false:=decide_eq_false (by omega)
  simp only [d,e1,d2,k_s,k_x,Int.reduceBEq,Int.reduceBNe,Int.reduceLT,Int.reduceLE,Int.reduceGT,Int.reduceGE,Int.reduceNeg]
theorem lgo_T (hT:hasT H begin0) (hn:11≤H.next) {H':Hp} {l':LP} (hge:∀ j∈lf lp p l,11≤j) (g:Lgo lp p H l H' l'):hasT H' begin0∧11≤H'.next∧∀ j∈lf lp p l',11≤j:=by
 refine ⟨?_,Nat.le_trans hn g.1.1,fun j hj=>(g.2 j hj).elim (hge j) fun q=>by omega⟩
 obtain ⟨el,hh⟩:=hT
 refine ⟨el,fun q l' hg => ?_⟩
 have hb:=begin_lt q l' hg
 rw [g.1.2 q (by omega) fun z=>by have:=hge q z; omega]
 exact hh q l' hg
end
end Go.Proofs.YtbdlbhlhnpblpaaGreatDoor.WlK
namespace Go.Proofs.YtbdlbhlhnpblpaaGreatDoor.WlK
open Go Am Am.K WlEnv Sg SegPrim SgN SgK StC
set_option linter.unusedVariables false
set_option linter.unusedSimpArgs false
set_option maxRecDepth 10000
set_option maxHeartbeats 8000000
theorem recsOf_app (a b:List Sm):recsOf (a++b)=recsOf a++recsOf b:=by simp [recsOf]
section
variable {lp p:Nat}
theorem cut_loop {off:Nat}:∀ (T:List Sm) (H:Hp) (m:LM) (l:LP),Lg H lp p m l→Small m→hasT H begin0→11≤H.next→(∀ j∈lf lp p l,11≤j)→m.first=0→m.m.fs=T.reverse.map sF→m.parts=T.reverse.map sP→m.recs=recsOf T.reverse→chain 0 T.reverse→
  m.m.off=false→m.m.fuse=0→(∀ r∈m.recs,r.2.length≤2000)→(∀ s∈T,s.first≤1000)→off≤1000→
  ∃ H' l' m',(∀ k:K.Fn 0,l_wal_Log_Cut JN GO cK k (.ptr lp 0) (.int .i64 (off:Nat)) (.int .i64 (((T.length:Nat):Int) - 1)) H=k H')∧Lg H' lp p m' l'∧Lgo lp p H l H' l'∧Cutd m m' (cutL off T).reverse
 | [],H,m,l,h,hs,hT,hn,hge,hf,hfs,hps,hrs,hc,ho,hfu,hpl,hfirst,hoff=>by
  refine ⟨H,l,m,fun k=>cut_exit h hs (.inl (by simp)) k,h,Lgo.refl _ _ _ _,⟨?_,hps,hrs,rfl,rfl⟩⟩
  show m.m={ m.m with fs:=[] }
  have:m.m.fs=[]:=hfs
  rw [← this]
 | s::r,H,m,l,h,hs,hT,hn,hge,hf,hfs,hps,hrs,hc,ho,hfu,hpl,hfirst,hoff=>by
  rw [List.reverse_cons] at hfs hps hrs hc
  obtain ⟨c1,c2,c3⟩:=chain_last _ _ _ hc
  rw [Nat.zero_add] at c1
  have hrs':m.recs=recsOf r.reverse++s.rs:=by rw [hrs,recsOf_app]; simp [recsOf]
  have hE:endM m=((s.first + s.rs.length:Nat):Int):=by unfold endM; rw [hf,hrs',List.length_append,c1]; omega
  by_cases hend:s.first + s.rs.length≤off
  ·have hcut:cutL off (s::r)=s::r:=by rw [cutL,if_pos hend]
   rw [hcut]
   refine ⟨H,l,m,fun k=>cut_exit h hs (.inr (by rw [hE]; omega)) k,h,Lgo.refl _ _ _ _,⟨?_,by rw [List.reverse_cons]; exact hps,by rw [List.reverse_cons]; exact hrs,rfl,rfl⟩⟩
   rw [List.reverse_cons,← hfs]
  · -- the last segment is cut,or goes
   have hF:s.first≤1000:=hfirst s (.head _)
   have hrl:=hs.recs
   have hlen:s.rs.length≤1000:=by rw [hrs',List.length_append] at hrl; omega
   have eN:(((s::r).length:Nat):Int) - 1=((r.length:Nat):Int):=by simp
   rw [eN]
   have e1:=end_c h hs
   rw [hE] at e1
   have d1:decide ((0:Int)≤((r.length:Nat):Int))=true:=decide_eq_true (by omega)
   have d2:decide (((off:Nat):Int) < ((s.first + s.rs.length:Nat):Int))=true:=decide_eq_true (by omega)
   have l2:=h.head.ld (o:=2) rfl
   have hq:(m.parts.map pc)[r.length]? = some (pc (sP s)):=by rw [hps]; simp
   obtain ⟨b,o,z1,z2,z3,z4,z5⟩:=h.parts.rl.at (by decide) hq
   have z1':=z1 .i64
   have z6:lda 2 (.ptr b o) H=some (.agg [.int .i64 (s.first:Nat),.int .i64 ((fb s.rs).length:Nat)]):=lda_of z4
   obtain ⟨H2,u1,u2,u3,u4⟩:=newCells_ok H [.int .i64 0,.int .i64 0] 66 0 (by simp)
   obtain ⟨H3,v1,v2,v3,v4⟩:=st_all (n:=2) (v := .agg [.int .i64 (s.first:Nat),.int .i64 ((fb s.rs).length:Nat)]) (cs:=[.int .i64 (s.first:Nat),.int .i64 ((fb s.rs).length:Nat)]) u2 (by omega) rfl rfl rfl (pc_one ((s.first:Nat),((fb s.rs).length:Nat)))
   have o3:Out [] H H3:=u3.then v3 fun j hj=>by rw [List.mem_singleton] at hj; exact .inr (by omega)
   have v5:lda 2 (.ptr H.next 0) H3=some (.agg [.int .i64 (s.first:Nat),.int .i64 ((fb s.rs).length:Nat)]):=v2.lda (n:=2) (o:=0) (by simp)
   have v6:ld (.ptr H.next 0) H3=some (.int .i64 (s.first:Nat)):=v2.ld rfl
   have w1:IntKind.wrap .i64 (((off:Nat):Int) - ((s.first:Nat):Int))=((off:Nat):Int) - ((s.first:Nat):Int):=wrap_i64 (by omega) (by omega)
   have mx:builtinA P .max #[2,2] [.int .i64 (((off:Nat):Int) - ((s.first:Nat):Int)),.int .i64 0] H3=some (.int .i64 ((off - s.first:Nat):Int),H3):=by
    rw [max_i]
    congr 3
    split <;> omega
   have h3:=h.out0 o3
   obtain ⟨H4,q1,q2⟩:=size_c h3 hs hf (fun r hr=>by have:=hpl r hr; omega) (f:=s.first) (many:=off - s.first) ((fb s.rs).length:Nat) (by rw [hrs',List.length_append]; omega)
   have hsz:(m.recs.drop s.first).take (off - s.first)=s.rs.take (off - s.first):=by rw [hrs',c1,List.drop_left]
   rw [hsz] at q1
   obtain ⟨fl1,fl2⟩:=fb_len_take s.rs (off - s.first)
   generalize hL:s.rs.take (off - s.first)=L at *
   have o4:=o3.trans q2
   have h4:=h.out0 o4
   have w2:=v2.out q2 fun q=>by cases q
   have w5:lda 2 (.ptr H.next 0) H4=some (.agg [.int .i64 (s.first:Nat),.int .i64 ((fb s.rs).length:Nat)]):=w2.lda (n:=2) (o:=0) (by simp)
   have l40:=h4.head.ld (o:=0) rfl
   have hinS:inN ((s.first:Nat):Int)=true:=inN_t (by omega) (by omega)
   obtain ⟨H5,q3,q4⟩:=pname_c (hasT_out hT hn o4) (Nat.le_trans hn o4.1) ((fb s.rs).length:Nat) hinS
   have o5:=o4.trans q4
   have h5:=h.out0 o5
   have l50:=h5.head.ld (o:=0) rfl
   have sp:same (.ptr p 0) (.ptr p 0)=true:=by simp [same,sameS]
   have hfs':m.m.fs=r.reverse.map sF++sF s::[]:=by rw [hfs]; simp
   have hk:okName (sF s).nm=true:=by rw [sF_nm]; exact okName_nms hinS
   obtain ⟨e0,e2⟩:=ofE_at hfs' h.st.ok.names ho hk
   rw [sF_nm] at e0 e2
   have hB:burnB m.m=true:=by unfold burnB; rw [hfu]; rfl
   have hM:burnM m.m=m.m:=by unfold burnM; rw [if_pos hfu]
   have hnd:=h.st.ok.names
   rw [hfs'] at hnd
   have hlt:=h.lt
   have hbox:H.next∉lf lp p l:=fun q=>by have:=hlt _ q; omega
   have d0:decide ((0:Int) < ((off - s.first:Nat):Int))=decide (s.first < off):=decide_eq_decide.2 (by omega)
   have share:∀ (H6:Hp) (m6:LM) (l6:LP),Lg H6 lp p m6 l6→Lgo lp p H l H6 l6→H.next < H6.next→l6.xp=l.xp→l6.xr=l.xr→l6.ys=l.ys→m6.parts=m.parts→m6.recs=m.recs→m6.first=0→ld (.ptr H.next 0) H6=some (.int .i64 (s.first:Nat))→
     ∃ x' H7 bb oo H8 l8,ld (.ptr lp 3) H6=some l.xr∧builtinA P .max #[2,2] [.int .i64 (off:Nat),.int .i64 (s.first:Nat)] H6=some (.int .i64 (s.first + L.length:Nat),H6)∧ld (.ptr lp 4) H6=some (.int .i64 0)∧sll 2 l.xr none (some (.int .i64 (s.first + L.length:Nat))) none=some x'∧st 1 (.ptr lp 3) x' H6=some H7∧
      ld (.ptr lp 2) H7=some l.xp∧ia 2 l.xp (.int .i64 (r.length:Nat))=some (.ptr bb oo)∧st 1 (.ptr bb (oo + 1)) (.int .i64 ((fb L).length:Nat)) H7=some H8∧
      Lg H8 lp p { m6 with recs:=recsOf r.reverse++L,parts:=r.reverse.map sP++[(((s.first:Nat):Int),(((fb L).length:Nat):Int))] } l8∧Lgo lp p H6 l6 H8 l8∧l8.xp=l.xp∧Small { m6 with recs:=recsOf r.reverse++L,parts:=r.reverse.map sP++[(((s.first:Nat):Int),(((fb L).length:Nat):Int))] }:=by
    intro H6 m6 l6 h6 g6 hnx ex er ey ep erc ef hld
    have hll:L.length=min (off - s.first) s.rs.length:=by rw [← hL,List.length_take]
    have hmx:builtinA P .max #[2,2] [.int .i64 (off:Nat),.int .i64 (s.first:Nat)] H6=some (.int .i64 (s.first + L.length:Nat),H6):=by
     rw [max_i,show (if ((off:Nat):Int) < ((s.first:Nat):Int) then ((s.first:Nat):Int) else ((off:Nat):Int))=((s.first + L.length:Nat):Int) by split <;> omega]
    have l63:=h6.head.ld (o:=3) rfl
    have l64:=h6.head.ld (o:=4) rfl
    rw [er] at l63
    rw [ef] at l64
    have hr6:=h6.recs
    rw [er,erc,ey] at hr6
    obtain ⟨x',y1,y2,y3⟩:=rs_sub hr6 (a:=0) (b:=s.first + L.length) (Nat.zero_le _) (by rw [hrs',List.length_append]; omega) (lo:=none) (hi:=some (.int .i64 (s.first + L.length:Nat))) (Bd.no _) (Bd.yes _ _ _)
    rw [List.drop_zero,List.drop_zero,Nat.sub_zero] at y2
    have ht:m.recs.take (s.first + L.length)=recsOf r.reverse++L:=by
     rw [hrs',c1,List.take_append,List.take_of_length_le (by omega),show (recsOf r.reverse).length + L.length - (recsOf r.reverse).length=L.length by omega]
     rw [show s.rs.take L.length=L by rw [← hL,List.length_take,List.take_eq_take_iff]; omega]
    rw [ht] at y2
    have hsm:Small { m6 with recs:=recsOf r.reverse++L,parts:=r.reverse.map sP++[(((s.first:Nat):Int),(((fb L).length:Nat):Int))] }:=by
     have hsub:∀ z∈recsOf r.reverse++L,z∈m.recs:=fun z hz=>by rw [← ht] at hz; exact List.mem_of_mem_take hz
     refine ⟨by rw [ef]; omega,?_,fun z hz=>hs.at' z (hsub z hz),?_,fun q hq => ?_⟩
     ·show (recsOf r.reverse++L).length≤1000
      rw [← ht,List.length_take]; omega
     ·have:=hs.parts
      rw [hps] at this
      simpa using this
     ·rcases List.mem_append.1 hq with hq | hq
      ·exact hs.part q (by rw [hps,List.map_append]; exact List.mem_append_left _ hq)
      ·rw [List.mem_singleton] at hq
       subst hq
       have:=hs.part (sP s) (by rw [hps]; simp)
       simp only [sP] at this
       simp only
       omega
    obtain ⟨H7,k1,k2,k3⟩:=h6.toRecs y2 (Out.refl _ _) (fun j hj => .inl (er ▸ y3 j hj)) (fun y hy i hi=>by
     have hy':y∈l6.ys:=by rw [ey]; exact List.mem_of_mem_take hy
     exact ⟨h6.row y hy' i hi,h6.recs.ylt y hy' i hi⟩)
    have l72:=k2.head.ld (o:=2) rfl
    simp only [ex] at l72
    have hq7:(m6.parts.map pc)[r.length]? = some (pc (sP s)):=by rw [ep,hps]; simp
    have hp7:=k2.parts
    obtain ⟨bb,oo,x1,x2,x3,x4,x5⟩:=hp7.rl.at (by decide) hq7
    obtain ⟨H8,s1,s2,s3,s4⟩:=hp7.st1 (k:=1) hq7 x1 (v := .int .i64 ((fb L).length:Nat)) rfl (by decide)
    have e:(m6.parts.map pc).set r.length ((pc (sP s)).set 1 (.int .i64 ((fb L).length:Nat)))=(r.reverse.map sP++[(((s.first:Nat):Int),(((fb L).length:Nat):Int))]).map pc:=by
     rw [ep,hps]
     simp [pc,sP]
    rw [e] at s2
    obtain ⟨g1,g2⟩:=k2.inParts s2 s3
    have x1':=x1 .i64
    simp only [ex] at x1'
    exact ⟨x',H7,bb,oo,H8,_,l63,hmx,l64,y1,k1,l72,x1',s1,g1,k3.trans g2,ex,hsm⟩
   have hboxk:∀ (H6:Hp) (l6:LP),Lgo lp p H5 l H6 l6→ld (.ptr H.next 0) H6=some (.int .i64 (s.first:Nat)):=fun H6 l6 g=>((w2.out q4 fun q=>by cases q).out g.1 hbox).ld rfl
   have hn5:H.next < H5.next:=by have:=u4; have:=v4; have:=q2.1; have:=q4.1; omega
   have w3:IntKind.wrap .i64 (((s.first + L.length:Nat):Int) - 0)=((s.first + L.length:Nat):Int):=by
    have hll:L.length≤s.rs.length:=by rw [← hL,List.length_take]; omega
    rw [wrap_i64 (by omega) (by omega)]; omega
   have w4:IntKind.wrap .i64 (((r.length:Nat):Int) - 1)=((r.length:Nat):Int) - 1:=by
    have:r.length≤1000:=by have:=hs.parts; rw [hps] at this; simp at this; omega
    exact wrap_i64 (by omega) (by omega)
   have hexit:∀ (m9:LM) (l9:LP) (H9:Hp),Lg H9 lp p m9 l9→Small m9→m9.first=0→m9.recs=recsOf r.reverse++L→(s.first < off∨r=[])→∀ k:K.Fn 0,l_wal_Log_Cut JN GO cK k (.ptr lp 0) (.int .i64 (off:Nat)) (.int .i64 (((r.length:Nat):Int) - 1)) H9=k H9:=by
    intro m9 l9 H9 h9 s9 f9 r9 hor k
    refine cut_exit h9 s9 ?_ k
    rcases hor with q | q
    ·right
     unfold endM
     rw [f9,r9,List.length_append,← c1,← hL,List.length_take]
     omega
    ·left; rw [q]; decide
   by_cases hA:s.first < off∨r=[]
   ·obtain ⟨H6,L',r1,r2,r3⟩:=StC.cut_c h5.st (nms (s.first:Nat)) ((fb L).length:Nat)
    have hcm:cutM m.m (nms (s.first:Nat)) ((fb L).length:Nat)=(0,{ m.m with fs:=r.reverse.map sF++[sF ⟨s.first,L,min s.sure (fb L).length⟩] }):=by
     unfold cutM
     rw [e0,if_neg (by decide),e2]
     simp only
     rw [if_neg (by simp only [sF]; omega),hB,if_neg (by decide),hM]
     have:=setF_at (g:=sF ⟨s.first,L,min s.sure (fb L).length⟩) hnd
     rw [sF_nm] at this
     have hb':({ nm:=(sF s).nm,b:=(sF s).b.take (fb L).length,sure:=min (sF s).sure (fb L).length }:Fl)=sF ⟨s.first,L,min s.sure (fb L).length⟩:=by simp only [sF,fl2]
     simp only [Int.toNat_natCast,hb',hfs']
     rw [this]
    rw [hcm] at r1 r2
    obtain ⟨h6,g6⟩:=h5.toStore r2 r3
    have g5:Lgo lp p H5 l H6 { l with L:=L' }:=g6
    have gA:Lgo lp p H l H6 { l with L:=L' }:=(Lgo.of0 o5).trans g6
    obtain ⟨x',H7,bb,oo,H8,l8,y1,y2,y3,y4,y5,y6,y7,y8,y9,y10,y11,y12⟩:=share H6 _ _ h6 gA (Nat.lt_of_lt_of_le hn5 g6.1.1) rfl rfl rfl rfl rfl hf (hboxk H6 _ g5)
    have hbk:=hboxk H6 _ g5
    obtain ⟨rfl,rfl⟩:b=bb∧o=oo:=by have:=z1'.symm.trans y7; simpa using this
    have e8:=end_c y9 y12
    have l85:=y9.head.ld (o:=5) rfl
    obtain ⟨H9,t1,t2,t3⟩:=y9.toSure (if endM { m with m:={ m.m with fs:=r.reverse.map sF++[sF ⟨s.first,L,min s.sure (fb L).length⟩] },recs:=recsOf r.reverse++L,parts:=r.reverse.map sP++[(((s.first:Nat):Int),(((fb L).length:Nat):Int))] } < m.sure then endM { m with m:={ m.m with fs:=r.reverse.map sF++[sF ⟨s.first,L,min s.sure (fb L).length⟩] },recs:=recsOf r.reverse++L,parts:=r.reverse.map sP++[(((s.first:Nat):Int),(((fb L).length:Nat):Int))] } else m.sure)
    have mn:=fun HH=>min_i P #[2,2] .i64 .i64 m.sure (endM { m with m:={ m.m with fs:=r.reverse.map sF++[sF ⟨s.first,L,min s.sure (fb L).length⟩] },recs:=recsOf r.reverse++L,parts:=r.reverse.map sP++[(((s.first:Nat):Int),(((fb L).length:Nat):Int))] }) HH
    have sm9:Small { m with m:={ m.m with fs:=r.reverse.map sF++[sF ⟨s.first,L,min s.sure (fb L).length⟩] },recs:=recsOf r.reverse++L,parts:=r.reverse.map sP++[(((s.first:Nat):Int),(((fb L).length:Nat):Int))],sure:=(if endM { m with m:={ m.m with fs:=r.reverse.map sF++[sF ⟨s.first,L,min s.sure (fb L).length⟩] },recs:=recsOf r.reverse++L,parts:=r.reverse.map sP++[(((s.first:Nat):Int),(((fb L).length:Nat):Int))] } < m.sure then endM { m with m:={ m.m with fs:=r.reverse.map sF++[sF ⟨s.first,L,min s.sure (fb L).length⟩] },recs:=recsOf r.reverse++L,parts:=r.reverse.map sP++[(((s.first:Nat):Int),(((fb L).length:Nat):Int))] } else m.sure) }:=⟨y12.first,y12.recs,y12.at',y12.parts,y12.part⟩
    have hx:=hexit _ _ H9 t2 sm9 hf rfl hA
    have hcut:cutL off (s::r)=⟨s.first,L,min s.sure (fb L).length⟩::r:=by rw [cutL,if_neg hend,if_pos hA,hL]
    generalize hv:(if endM { m with m:={ m.m with fs:=r.reverse.map sF++[sF ⟨s.first,L,min s.sure (fb L).length⟩] },recs:=recsOf r.reverse++L,parts:=r.reverse.map sP++[(((s.first:Nat):Int),(((fb L).length:Nat):Int))] } < m.sure then endM { m with m:={ m.m with fs:=r.reverse.map sF++[sF ⟨s.first,L,min s.sure (fb L).length⟩] },recs:=recsOf r.reverse++L,parts:=r.reverse.map sP++[(((s.first:Nat):Int),(((fb L).length:Nat):Int))] } else m.sure)=sv at *
    generalize hev:endM { m with m:={ m.m with fs:=r.reverse.map sF++[sF ⟨s.first,L,min s.sure (fb L).length⟩] },recs:=recsOf r.reverse++L,parts:=r.reverse.map sP++[(((s.first:Nat):Int),(((fb L).length:Nat):Int))] }=ev at *
    simp only at l85
    rw [hcut]
    refine ⟨H9,l8,_,fun k => ?_,t2,gA.trans (y10.trans t3),⟨?_,?_,?_,rfl,rfl⟩⟩
    ·have hxk:=hx k
     rw [ql_wal_Log_Cut]
     by_cases hlt':s.first < off
     ·have dd:decide (s.first < off)=true:=decide_eq_true hlt'
      have d5:(((off - s.first:Nat):Int) == 0)=false:=by rw [beq_eq_false_iff_ne]; omega
      simp only [d1,e1,d2,l2,z1',z6,u1,v1,v6,w1,mx,v5,q1,d0,dd,l40,w5,q3,l50,SM_t sp,r1,y1,hbk,y2,y3,w3,y4,y5,y6,y7,y8,d5,l85,e8,mn,hv,t1,SM_t (same_i .i64 m.sure),w4,k_s,k_x,Int.reduceBEq,Int.reduceBNe,Int.reduceLT,Int.reduceLE,Int.reduceGT,Int.reduceGE,Int.reduceNeg]
      exact hxk
     ·have hr:r=[]:=hA.resolve_left hlt'
      have dd:decide (s.first < off)=false:=decide_eq_false hlt'
      have d5:(((off - s.first:Nat):Int) == 0)=true:=by rw [beq_iff_eq]; omega
      have d6:((((r.length:Nat):Int)) == 0)=true:=by rw [hr]; rfl
      have d7:decide ((0:Int) < ((r.length:Nat):Int))=false:=by rw [hr]; rfl
      simp only [d1,e1,d2,l2,z1',z6,u1,v1,v6,w1,mx,v5,q1,d0,dd,d6,l40,w5,q3,l50,SM_t sp,r1,y1,hbk,y2,y3,w3,y4,y5,y6,y7,y8,d5,d7,l85,e8,mn,hv,t1,SM_t (same_i .i64 m.sure),w4,k_s,k_x,Int.reduceBEq,Int.reduceBNe,Int.reduceLT,Int.reduceLE,Int.reduceGT,Int.reduceGE,Int.reduceNeg]
      exact hxk
    ·simp [sF]
    ·simp [sP]
    ·simp [recsOf]
   ·have hA1:off≤s.first:=by omega
    have hA2:r≠[]:=fun q=>hA (.inr q)
    have hrpos:0 < r.length:=List.length_pos_iff.2 hA2
    have hL0:L=[]:=by rw [← hL,show off - s.first=0 by omega]; rfl
    subst hL0
    obtain ⟨H6,L',r1,r2,r3⟩:=StC.drop_c h5.st (nms (s.first:Nat))
    have hcm:dropM m.m (nms (s.first:Nat))=(0,{ m.m with fs:=r.reverse.map sF }):=by
     unfold dropM
     rw [e0,if_neg (by decide),hB,if_neg (by decide),hM]
     have:=delF_at hnd
     rw [sF_nm,List.append_nil] at this
     rw [hfs',this]
    rw [hcm] at r1 r2
    obtain ⟨h6,g6⟩:=h5.toStore r2 r3
    have g5:Lgo lp p H5 l H6 { l with L:=L' }:=g6
    have gA:Lgo lp p H l H6 { l with L:=L' }:=(Lgo.of0 o5).trans g6
    obtain ⟨x',H7,bb,oo,H8,l8,y1,y2,y3,y4,y5,y6,y7,y8,y9,y10,y11,y12⟩:=share H6 _ _ h6 gA (Nat.lt_of_lt_of_le hn5 g6.1.1) rfl rfl rfl rfl rfl hf (hboxk H6 _ g5)
    have hbk:=hboxk H6 _ g5
    obtain ⟨rfl,rfl⟩:b=bb∧o=oo:=by have:=z1'.symm.trans y7; simpa using this
    have l82:=y9.head.ld (o:=2) rfl
    simp only [y11] at l82
    have hp8:=y9.parts
    rw [y11] at hp8
    have hplen:((r.reverse.map sP++[(((s.first:Nat):Int),(((fb []).length:Nat):Int))]).map pc).length=r.length + 1:=by simp
    obtain ⟨xp',x1,x2,x3⟩:=ol_take hp8 (by decide) (b:=r.length) (by rw [hplen]; omega) (hi:=some (.int .i64 (r.length:Nat))) (Bd.yes _ _ _)
    have htk:((r.reverse.map sP++[(((s.first:Nat):Int),(((fb []).length:Nat):Int))]).map pc).take r.length=(r.reverse.map sP).map pc:=by
     rw [List.map_append,List.take_append_of_le_length (by simp),List.take_of_length_le (by simp)]
    rw [htk] at x2
    obtain ⟨H9,k1,k2,k3⟩:=y9.toParts x2 (Out.refl _ _) (fun j hj => .inl (by rw [y11]; exact x3 j hj))
    have sm9:Small { m with m:={ m.m with fs:=r.reverse.map sF },recs:=recsOf r.reverse++[],parts:=r.reverse.map sP }:=⟨y12.first,y12.recs,y12.at',by have:=y12.parts; simp at this ⊢; omega,fun q hq=>y12.part q (List.mem_append_left _ hq)⟩
    have e9:=end_c k2 sm9
    have l95:=k2.head.ld (o:=5) rfl
    obtain ⟨H10,t1,t2,t3⟩:=k2.toSure (if endM { m with m:={ m.m with fs:=r.reverse.map sF },recs:=recsOf r.reverse++[],parts:=r.reverse.map sP } < m.sure then endM { m with m:={ m.m with fs:=r.reverse.map sF },recs:=recsOf r.reverse++[],parts:=r.reverse.map sP } else m.sure)
    have mn:=fun HH=>min_i P #[2,2] .i64 .i64 m.sure (endM { m with m:={ m.m with fs:=r.reverse.map sF },recs:=recsOf r.reverse++[],parts:=r.reverse.map sP }) HH
    have gall:=gA.trans (y10.trans (k3.trans t3))
    obtain ⟨hT10,hn10,hge10⟩:=lgo_T hT hn hge gall
    obtain ⟨H11,l11,m11,i1,i2,i3,i4⟩:=cut_loop r H10 _ _ t2 ⟨sm9.first,sm9.recs,sm9.at',sm9.parts,sm9.part⟩ hT10 hn10 hge10 hf rfl rfl (by simp) c2 ho hfu (fun z hz=>hpl z (by rw [hrs']; exact List.mem_append_left _ (by simpa using hz))) (fun z hz=>hfirst z (.tail _ hz)) hoff
    have hcut:cutL off (s::r)=cutL off r:=by rw [cutL,if_neg hend,if_neg hA]
    rw [hcut]
    refine ⟨H11,l11,m11,fun k => ?_,i2,gall.trans i3,⟨i4.cm,i4.cparts,i4.crecs,i4.cfirst,i4.cmost⟩⟩
    have hxk:=i1 k
    generalize hv:(if endM { m with m:={ m.m with fs:=r.reverse.map sF },recs:=recsOf r.reverse++[],parts:=r.reverse.map sP } < m.sure then endM { m with m:={ m.m with fs:=r.reverse.map sF },recs:=recsOf r.reverse++[],parts:=r.reverse.map sP } else m.sure)=sv at *
    generalize hev:endM { m with m:={ m.m with fs:=r.reverse.map sF },recs:=recsOf r.reverse++[],parts:=r.reverse.map sP }=ev at *
    simp only at l95
    rw [ql_wal_Log_Cut]
    have dd:decide (s.first < off)=false:=decide_eq_false (by omega)
    have d5:(((off - s.first:Nat):Int) == 0)=true:=by rw [beq_iff_eq]; omega
    have d6:((((r.length:Nat):Int)) == 0)=false:=by rw [beq_eq_false_iff_ne]; omega
    have d7:decide ((0:Int) < ((r.length:Nat):Int))=true:=decide_eq_true (by omega)
    simp only [d1,e1,d2,l2,z1',z6,u1,v1,v6,w1,mx,v5,q1,d0,dd,d6,l40,w5,q3,l50,SM_t sp,r1,y1,hbk,y2,y3,w3,y4,y5,y6,y8,d5,d7,l82,x1,k1,l95,e9,mn,hv,t1,SM_t (same_i .i64 m.sure),w4,k_s,k_x,Int.reduceBEq,Int.reduceBNe,Int.reduceLT,Int.reduceLE,Int.reduceGT,Int.reduceGE,Int.reduceNeg]
    exact hxk
end
end Go.Proofs.YtbdlbhlhnpblpaaGreatDoor.WlK
namespace Go.Proofs.YtbdlbhlhnpblpaaGreatDoor.WlK
open Go Am Am.K WlEnv Sg SegPrim SgN SgK StC
set_option linter.unusedVariables false
set_option linter.unusedSimpArgs false
set_option maxRecDepth 10000
set_option maxHeartbeats 4000000
section
variable {H:Hp} {lp p:Nat} {m:LM} {l:LP}
structure Wf (m:LM) (ss:List Sm):Prop where
 fs:m.m.fs=ss.map sF
 parts:m.parts=ss.map sP
 recs:m.recs=recsOf ss
 first:m.first=0
 chain:chain 0 ss
 off:m.m.off=false
 fuse:m.m.fuse=0
theorem chain_first:∀ (ss:List Sm) (e:Nat),chain e ss→∀ s∈ss,s.first + s.rs.length≤e + (recsOf ss).length
 | [],e,h,s,hs=>by cases hs
 | c::r,e,h,s,hs=>by
  obtain ⟨h1,h2,h3⟩:=h
  rcases List.mem_cons.1 hs with rfl | hs
  ·simp only [recsOf,List.flatMap_cons,List.length_append]; omega
  ·have:=chain_first r _ h3 s hs
   simp only [recsOf,List.flatMap_cons,List.length_append] at this ⊢
   omega
theorem chain_sure:∀ (ss tt:List Sm) (e:Nat),ss.map (fun s=>(s.first,s.rs))=tt.map (fun s=>(s.first,s.rs))→chain e ss→chain e tt
 | [],[],e,h,c=>trivial
 | [],_::_,e,h,c=>by simp at h
 | _::_,[],e,h,c=>by simp at h
 | s::ss,t::tt,e,h,c=>by
  simp only [List.map_cons,List.cons.injEq,Prod.mk.injEq] at h
  obtain ⟨⟨h1,h2⟩,h3⟩:=h
  obtain ⟨c1,c2,c3⟩:=c
  refine ⟨h1 ▸ c1,fun q => ?_,?_⟩
  ·rw [← h2]
   exact c2 fun z=>q (by rw [z] at h3; simpa using h3.symm)
  ·rw [← h2]
   exact chain_sure ss tt _ h3 c3
theorem wsync_c (h:Lg H lp p m l) (hs:Small m) (hT:hasT H begin0) (hn:11≤H.next) (hge:∀ j∈lf lp p l,11≤j) {ss:List Sm} (hw:Wf m ss) :
  ∃ H' l' m',cK (.func (.func 12) [] []) [.ptr lp 0] H=some (.int .i64 0,H')∧Lg H' lp p m' l'∧Lgo lp p H l H' l'∧Wf m' (ss.map syS)∧m'.m.room=m.m.room∧m'.most=m.most:=by
 have l0:=h.head.ld (o:=0) rfl
 have l2:=h.head.ld (o:=2) rfl
 have e1:=StC.off_c h.st
 rw [hw.off] at e1
 have hpl:=h.parts.rl.len (by decide)
 rw [List.length_map,hw.parts,List.length_map] at hpl
 have hfl:∀ s∈ss,s.first≤17592186044415:=fun s hs'=>by
  have:=chain_first ss 0 hw.chain s hs'
  have:=hs.recs
  rw [hw.recs] at this
  omega
 obtain ⟨H1,l1,k1,k2,k3,k4⟩:=sync_loop hT hn ss [] H m l (.inr trivial) hT hn h (by rw [List.nil_append]; exact hw.fs) (by rw [List.nil_append]; exact hw.parts) hw.off hw.fuse (by rw [List.nil_append]; exact hfl) (by rw [List.nil_append]; have:=hs.parts; rw [hw.parts] at this; simpa using this) hge
 rw [List.nil_append,List.length_nil,show (((0:Nat):Int))=0 from rfl] at k1
 rw [List.nil_append] at k2
 have sm1:Small (withFs m (ss.map syS)):=⟨hs.first,hs.recs,hs.at',hs.parts,hs.part⟩
 have e2:=end_c k2 sm1
 obtain ⟨H2,t1,t2,t3⟩:=k2.toSure (endM (withFs m (ss.map syS)))
 refine ⟨H2,l1,_,c_wal_Log_Sync ?_,t2,k3.trans t3,⟨rfl,?_,?_,hw.first,?_,hw.off,hw.fuse⟩,rfl,rfl⟩
 ·unfold s_wal_Log_Sync
  simp only [l0,e1,l2,hpl,k1,e2,t1,k_s,k_x,Int.reduceBEq,Int.reduceBNe,Int.reduceLT,Int.reduceLE,Int.reduceGT,Int.reduceGE,Int.reduceNeg]
 ·show m.parts=_
  rw [hw.parts]
  simp [sP,syS]
 ·show m.recs=_
  rw [hw.recs]
  simp [recsOf,syS,List.flatMap_map]
 ·exact chain_sure ss _ 0 (by simp [syS]) hw.chain
theorem wcut_c (h:Lg H lp p m l) (hs:Small m) (hT:hasT H begin0) (hn:11≤H.next) (hge:∀ j∈lf lp p l,11≤j) {ss:List Sm} (hw:Wf m ss) {off:Nat} (ho:off≤m.recs.length) (hpl:∀ r∈m.recs,r.2.length≤2000) :
  ∃ H' l' m',cK (.func (.func 11) [] []) [.ptr lp 0,.int .i64 (off:Nat)] H=some (.int .i64 0,H')∧Lg H' lp p m' l'∧Lgo lp p H l H' l'∧Cutd m m' (cutL off ss.reverse).reverse:=by
 have l0:=h.head.ld (o:=0) rfl
 have l2:=h.head.ld (o:=2) rfl
 have l4:=h.head.ld (o:=4) rfl
 rw [hw.first] at l4
 have e1:=StC.off_c h.st
 rw [hw.off] at e1
 have e2:=end_c h hs
 have hrl:=hs.recs
 have hplen:=h.parts.rl.len (by decide)
 rw [List.length_map,hw.parts,List.length_map] at hplen
 have d1:decide (endM m < ((off:Nat):Int))=false:=decide_eq_false (by unfold endM; rw [hw.first]; omega)
 have d2:decide (((off:Nat):Int) < 0)=false:=decide_eq_false (by omega)
 have hfl:∀ s∈ss.reverse,s.first≤1000:=fun s hs'=>by
  have:=chain_first ss 0 hw.chain s (List.mem_reverse.1 hs')
  rw [hw.recs] at hrl
  omega
 have hpn:ss.length≤1000:=by have:=hs.parts; rw [hw.parts] at this; simpa using this
 obtain ⟨H1,l1,m1,k1,k2,k3,k4⟩:=cut_loop (off:=off) ss.reverse H m l h hs hT hn hge hw.first (by rw [List.reverse_reverse]; exact hw.fs) (by rw [List.reverse_reverse]; exact hw.parts) (by rw [List.reverse_reverse]; exact hw.recs) (by rw [List.reverse_reverse]; exact hw.chain) hw.off hw.fuse hpl hfl (by omega)
 rw [List.length_reverse] at k1
 have w:IntKind.wrap .i64 (((ss.length:Nat):Int) - 1)=((ss.length:Nat):Int) - 1:=wrap_i64 (by omega) (by omega)
 refine ⟨H1,l1,m1,c_wal_Log_Cut ?_,k2,k3,k4⟩
 unfold s_wal_Log_Cut
 simp only [e2,d1,l4,d2,l0,e1,l2,hplen,w,k1,k_s,k_x,Int.reduceBEq,Int.reduceBNe,Int.reduceLT,Int.reduceLE,Int.reduceGT,Int.reduceGE,Int.reduceNeg]
theorem cutL_wf {off:Nat}:∀ (T:List Sm),chain 0 T.reverse→off≤(recsOf T.reverse).length→chain 0 (cutL off T).reverse∧recsOf (cutL off T).reverse=(recsOf T.reverse).take off
 | [],hc,ho=>by simp [cutL,recsOf]; exact trivial
 | s::r,hc,ho=>by
  rw [List.reverse_cons] at hc ho
  obtain ⟨c1,c2,c3⟩:=chain_last _ _ _ hc
  rw [Nat.zero_add] at c1
  have hr:recsOf (r.reverse++[s])=recsOf r.reverse++s.rs:=by rw [recsOf_app]; simp [recsOf]
  rw [hr,List.length_append] at ho
  rw [List.reverse_cons,hr,cutL]
  by_cases h1:s.first + s.rs.length≤off
  ·rw [if_pos h1,List.reverse_cons,hr,List.take_of_length_le (by rw [List.length_append]; omega)]
   exact ⟨hc,rfl⟩
  ·rw [if_neg h1]
   by_cases h2:s.first < off∨r=[]
   ·rw [if_pos h2,List.reverse_cons,recsOf_app]
    constructor
    ·have:∀ (a:List Sm) (e:Nat) (x y:Sm),x.first=y.first→chain e (a++[x])→chain e (a++[y]):=by
      intro a
      induction a with
      | nil=>intro e x y hf h; exact ⟨hf ▸ h.1,fun q=>absurd rfl q,trivial⟩
      | cons c a ih=>intro e x y hf h; exact ⟨h.1,fun _=>h.2.1 (by simp),ih _ x y hf h.2.2⟩
     exact this _ 0 s _ rfl hc
    ·have e:recsOf [(⟨s.first,s.rs.take (off - s.first),min s.sure (fb (s.rs.take (off - s.first))).length⟩:Sm)]=s.rs.take (off - s.first):=by simp [recsOf]
     rw [e,List.take_append,← c1]
     rcases h2 with h2 | h2
     ·rw [List.take_of_length_le (l:=recsOf r.reverse) (by omega)]
     ·subst h2
      simp [recsOf]
   ·have h3:off≤s.first:=Nat.le_of_not_lt fun q=>h2 (.inl q)
    obtain ⟨i1,i2⟩:=cutL_wf (off:=off) r c2 (by omega)
    rw [if_neg h2]
    refine ⟨i1,?_⟩
    rw [i2,List.take_append_of_le_length (l₁:=recsOf r.reverse) (by omega)]
end
theorem rcs_app2:∀ (a b:List (Nat × List Nat)) (x y:List AV),x.length=a.length→rcs (a++b) (x++y)=rcs a x++rcs b y
 | [],b,[],y,h=>rfl
 | r::a,b,z::x,y,h=>by
  have:=rcs_app2 a b x y (by simpa using h)
  show _::_::rcs (a++b) (x++y)=_
  rw [this]; rfl
theorem rs_cat {H:Hp} {s x:AV} {rs rs2:List (Nat × List Nat)} {ys ys2:List AV} (h:Rs H s rs ys) (k:Rs H x rs2 ys2) (hd:∀ y∈ys2,∀ i∈rid y,i∉rid s) (hl:rs.length + rs2.length≤100000) :
  ∃ s' H',app' 37 2 [.int .u64 0,.slice0] false s x H=some (s',H')∧Rs H' s' (rs++rs2) (ys++ys2)∧Out (rid s) H H'∧(∀ j∈rid s',j∈rid s∨H.next≤j):=by
 obtain ⟨s',H',a1,a2,a3,a4⟩:=append_ok (z:=[.int .u64 0,.slice0]) h.own k.own.rw k.own.one (by omega) (by rw [rcs_len _ _ h.len,rcs_len _ _ k.len]; omega)
 refine ⟨s',H',a1,⟨by rw [rcs_app2 _ _ _ _ h.len]; exact a2,by simp [h.len,k.len],?_,?_⟩,a3,a4⟩
 ·intro j z r q1 q2
  by_cases hj:j < ys.length
  ·rw [List.getElem?_append_left hj] at q1
   rw [List.getElem?_append_left (by rw [← h.len]; exact hj)] at q2
   exact (h.row j z r q1 q2).out a3 (h.sep z (List.mem_of_getElem? q1))
  ·rw [List.getElem?_append_right (by omega)] at q1
   rw [List.getElem?_append_right (by rw [← h.len]; omega),← h.len] at q2
   exact (k.row _ z r q1 q2).out a3 (hd z (List.mem_of_getElem? q1))
 ·intro z hz i hi q
  rcases List.mem_append.1 hz with hz | hz
  ·rcases a4 i q with q | q
   ·exact h.sep z hz i hi q
   ·have:=h.ylt z hz i hi; omega
  ·rcases a4 i q with q | q
   ·exact hd z hz i hi q
   ·have:=k.ylt z hz i hi; omega
theorem scan_fb:∀ (rs:List (Nat × List Nat)) (f first ep:Nat),(∀ r∈rs,r.2.length≤1024)→rs.length≤f→first + rs.length≤1000000→(∀ (i:Nat) (r:Nat × List Nat),rs[i]? = some r→r.1 % 17592186044416=first + i∧r.1 < 18446744073709551616)→List.Pairwise (fun a b:Nat=>a≤b) (ep::rs.map (fun r=>r.1 / 17592186044416))→
  scanM f (fb rs) (first:Nat) (ep:Nat)=(rs,(fb rs).length)
 | [],f,first,ep,_,_,_,_,_=>by cases f <;> simp [scanM,fb]
 | r::rs,0,first,ep,_,h,_,_,_=>by simp at h
 | r::rs,f + 1,first,ep,hm,hf,hi,hat,hep=>by
  rw [List.length_cons] at hf hi
  obtain ⟨h1,h2⟩:=hat 0 r rfl
  rw [List.map_cons,List.pairwise_cons] at hep
  obtain ⟨p1,p2⟩:=hep
  have he:ep≤r.1 / 17592186044416:=p1 _ (.head _)
  have ih:=scan_fb rs f (first + 1) (r.1 / 17592186044416) (fun q hq=>hm q (.tail _ hq)) (by omega) (by omega) (fun i q hq=>by
   have:=hat (i + 1) q hq
   omega) p2
  have hl:=hm r (.head _)
  have hN:=gN_fr r.1 (fb rs) hl
  have hA:=gA_fr (a:=r.1) r.2 (fb rs) h2
  have hB:=gB_fr r.1 (fb rs) hl
  have hE:=gE_fr r.1 (fb rs) hl
  have hne:¬ (fr r.1 r.2++fb rs)=[]:=fun q=>by
   have:=congrArg List.length q
   rw [List.length_append,fr_len] at this
   simp at this
  have hon:on (fr r.1 r.2++fb rs) (first:Nat) (ep:Nat)=true:=by
   unfold on
   rw [hE,hA]
   simp
   omega
  have hw:IntKind.wrap .i64 (((first:Nat):Int) + 1)=((first + 1:Nat):Int):=by rw [wrap_i64 (by omega) (by omega)]; rfl
  rw [fb,scanM,if_neg hne,if_pos hon,hN,hA,hB,hw,drop_l _ _ (fr_len _ _),ih,List.length_append,fr_len]
theorem len_le_fb:∀ rs:List (Nat × List Nat),rs.length≤(fb rs).length
 | []=>Nat.le_refl _
 | r::rs=>by
  have:=len_le_fb rs
  rw [fb,List.length_append,fr_len,List.length_cons]
  omega
end Go.Proofs.YtbdlbhlhnpblpaaGreatDoor.WlK
namespace Go.Proofs.YtbdlbhlhnpblpaaGreatDoor.WlK
open Go Am Am.K WlEnv Sg SegPrim SgN SgK StC SegSort
set_option linter.unusedVariables false
set_option linter.unusedSimpArgs false
set_option maxRecDepth 10000
set_option maxHeartbeats 8000000
def epOf (R:List (Nat × List Nat)):Int:=match R.getLast? with | none=>0 | some r=>((r.1 / 17592186044416:Nat):Int)
section
variable {lp p:Nat}
theorem read_loop {ss:List Sm} (hch:chain 0 ss) (hG:∀ a s r,ss=a++s::r→scanM (fb s.rs).length (fb s.rs) (s.first:Nat) (epOf (recsOf a))=(s.rs,(fb s.rs).length)) (hby:∀ s∈ss,∀ v∈fb s.rs,v < 256) (hbig:∀ s∈ss,(fb s.rs).length≤1000000) (hlen:ss.length≤100) (hrec:(recsOf ss).length≤1000) (hat:∀ r∈recsOf ss,r.1 < 18446744073709551616) {y:AV} :
  ∀ (r a:List Sm) (H:Hp) (m:LM) (l:LP),ss=a++r→Lg H lp p m l→hasT H begin0→11≤H.next→(∀ j∈lf lp p l,11≤j)→m.m.fs=ss.map sF→m.parts=a.map sP→m.recs=recsOf a→m.first=0→m.m.off=false→Rw H 1 y (nums (ss.map fun s=>((s.first:Nat):Int)))→(∀ j∈rid y,j∉lf lp p l)→
  ∃ H' l',(∀ k:K.Fn 0,l_wal_Log_read JN GO cK k (.ptr lp 0) y y (.int .i64 (ss.length:Nat)) (.int .i64 (a.length:Nat)) H=k H')∧Lg H' lp p { m with parts:=ss.map sP,recs:=recsOf ss } l'∧Lgo lp p H l H' l'
 | [],a,H,m,l,hs,h,hT,hn,hge,hfs,hps,hrs,hf,ho,hy,hyd=>by
  rw [List.append_nil] at hs
  subst hs
  have d:decide (((ss.length:Nat):Int) < ((ss.length:Nat):Int))=false:=decide_eq_false (by omega)
  refine ⟨H,l,fun k => ?_,?_,Lgo.refl _ _ _ _⟩
  ·rw [ql_wal_Log_read]
   simp only [d,k_s,k_x,Int.reduceBEq,Int.reduceBNe,Int.reduceLT,Int.reduceLE,Int.reduceGT,Int.reduceGE,Int.reduceNeg]
  ·rw [← hps,← hrs]; exact h
 | s::r,a,H,m,l,hs,h,hT,hn,hge,hfs,hps,hrs,hf,ho,hy,hyd=>by
  have hsm:s∈ss:=by rw [hs]; simp
  have halen:a.length < ss.length:=by rw [hs]; simp
  have hsub:∀ z∈recsOf a,z∈recsOf ss:=fun z hz=>by rw [hs,recsOf_app]; exact List.mem_append_left _ hz
  have hal:(recsOf a).length + s.rs.length≤1000:=by
   have:=hrec
   rw [hs,recsOf_app] at this
   simp only [recsOf,List.flatMap_cons,List.length_append] at this ⊢
   omega
  have sm0:Small m:=⟨by rw [hf]; omega,by rw [hrs]; omega,fun z hz=>hat z (hsub z (hrs ▸ hz)),by rw [hps]; simp; omega,fun q hq=>by
   rw [hps] at hq
   obtain ⟨t,ht,rfl⟩:=List.mem_map.1 hq
   have:=hbig t (by rw [hs]; exact List.mem_append_left _ ht)
   simp only [sP]
   omega⟩
  have hfirst:s.first=(recsOf a).length:=by
   have:chain 0 ((a++[s])++r):=by rw [hs] at hch; simpa using hch
   have pre:∀ (x z:List Sm) (e:Nat),chain e (x++z)→x≠[]→∀ (u:List Sm),True:=fun _ _ _ _ _ _=>trivial
   have key:∀ (x:List Sm) (e:Nat),chain e (x++s::r)→s.first=e + (recsOf x).length:=by
    intro x
    induction x with
    | nil=>intro e h; simpa [recsOf] using h.1
    | cons c x ih=>
     intro e h
     have:=ih _ h.2.2
     simp only [recsOf,List.flatMap_cons,List.length_append] at this ⊢
     omega
   have:=key a 0 (by rw [← hs]; exact hch)
   omega
  have d:decide (((a.length:Nat):Int) < ((ss.length:Nat):Int))=true:=decide_eq_true (by omega)
  have hq:(nums (ss.map fun s=>((s.first:Nat):Int)))[a.length]? = some (.int .i64 ((s.first:Nat):Int)):=by rw [hs]; simp [nums]
  obtain ⟨q,u1,u2⟩:=hy.ia1 hq .i64
  have e1:=end_c h sm0
  have hE:endM m=((s.first:Nat):Int):=by unfold endM; rw [hf,hrs,hfirst]; omega
  rw [hE] at e1
  have hinS:inN ((s.first:Nat):Int)=true:=inN_t (by omega) (by omega)
  have f1:fl [(.int .i64 0),(.int .i64 0)] [(0,1,AV.int .i64 (s.first:Nat))]=some [.int .i64 (s.first:Nat),.int .i64 0]:=rfl
  obtain ⟨H2,n1,n2,n3,n4⟩:=newCells_ok H [.int .i64 0,.int .i64 0] 66 0 (by simp)
  obtain ⟨H3,v1,v2,v3,v4⟩:=st_all (n:=2) (v := .agg [.int .i64 (s.first:Nat),.int .i64 0]) (cs:=[.int .i64 (s.first:Nat),.int .i64 0]) n2 (by omega) rfl rfl rfl (pc_one ((s.first:Nat),0))
  have o3:Out [] H H3:=n3.then v3 fun j hj=>by rw [List.mem_singleton] at hj; exact .inr (by omega)
  have v5:lda 2 (.ptr H.next 0) H3=some (.agg [.int .i64 (s.first:Nat),.int .i64 0]):=v2.lda (n:=2) (o:=0) (by simp)
  have h3:=h.out0 o3
  have l30:=h3.head.ld (o:=0) rfl
  obtain ⟨H4,q1,q2⟩:=pname_c (hasT_out hT hn o3) (Nat.le_trans hn o3.1) 0 hinS
  have o4:=o3.trans q2
  have h4:=h.out0 o4
  have l40:=h4.head.ld (o:=0) rfl
  have sp:same (.ptr p 0) (.ptr p 0)=true:=by simp [same,sameS]
  have hfs':m.m.fs=a.map sF++sF s::r.map sF:=by rw [hfs,hs]; simp
  have hk:okName (sF s).nm=true:=by rw [sF_nm]; exact okName_nms hinS
  obtain ⟨e0,e2⟩:=ofE_at hfs' h.st.ok.names ho hk
  rw [sF_nm] at e0 e2
  obtain ⟨x,H5,r1,r2,r3,r4⟩:=StC.read_c h4.st (nms (s.first:Nat))
  rw [e0] at r1
  have hrm:readM m.m (nms (s.first:Nat))=fb s.rs:=by
   unfold readM
   rw [e0,if_pos rfl,e2]
   simp only [sF]
  rw [hrm] at r2
  have o5:=o4.trans r3
  have h5:=h.out0 o5
  have e3:=lepoch_c h5 sm0
  have hep:epM m=epOf (recsOf a):=by unfold epM epOf; rw [hrs]; rfl
  rw [hep] at e3
  obtain ⟨sl,ys,H6,c1,c2,c3,c4,c5⟩:=scan_c r2 (hby s hsm) (by have:=hbig s hsm; omega) (s.first:Nat) (epOf (recsOf a))
  rw [hG a s r hs] at c1 c3
  simp only at c1 c3
  have o6:=o5.trans c2
  have h6:=h.out0 o6
  have w6:=((v2.out q2 fun q=>by cases q).out r3 fun q=>by cases q).out c2 fun q=>by cases q
  obtain ⟨H7,t1,t2,t3,t4⟩:=st1 w6 (by omega) (o:=1) (by simp) (v := .int .i64 ((fb s.rs).length:Nat)) rfl
  have t2':Cs H7 H.next [.int .i64 (s.first:Nat),.int .i64 ((fb s.rs).length:Nat)] 66 0:=t2
  have o7:Out [] H H7:=o6.then t3 fun j hj=>by rw [List.mem_singleton] at hj; exact .inr (by omega)
  have h7:=h.out0 o7
  have l72:=h7.head.ld (o:=2) rfl
  have t5:lda 2 (.ptr H.next 0) H7=some (.agg [.int .i64 (s.first:Nat),.int .i64 ((fb s.rs).length:Nat)]):=t2'.lda (n:=2) (o:=0) (by simp)
  have f2:fl [(.int .i64 0),(.int .i64 0)] [(0,2,AV.agg [.int .i64 (s.first:Nat),.int .i64 ((fb s.rs).length:Nat)])]=some [.int .i64 (s.first:Nat),.int .i64 ((fb s.rs).length:Nat)]:=rfl
  obtain ⟨H8,sp',H9,i1,i2,i3,i4,i5,i6⟩:=OL.pushC (el2:=66) (z:=[.int .i64 0,.int .i64 0]) (vs:=pc (sP s)) h7.parts (pc_one _) rfl (by decide) (by decide) (by rw [List.length_map,hps,List.length_map]; omega)
  have i3':OL H9 66 2 sp' (((a++[s]).map sP).map pc):=by
   have e:((a++[s]).map sP).map pc=m.parts.map pc++[pc (sP s)]:=by rw [hps]; simp
   rw [e]; exact i3
  obtain ⟨H10,k1,h10,g10⟩:=h7.toParts i3' i5 i6
  have l82:=(h7.out0 i4).head.ld (o:=2) rfl
  have sx:same l.xp l.xp=true:=same_rw h.parts.1.rw
  have l103:=h10.head.ld (o:=3) rfl
  have hlt:=h.lt
  have g70:Lgo lp p H l H10 { l with xp:=sp' }:=(Lgo.of0 o7).trans g10
  have hyl:=c3.ylt
  have hsl:=c3.own.rw.lt
  have fresh:∀ j,H5.next≤j→j∉lf lp p l:=fun j hj q=>by have:=hlt j q; have:=o5.1; omega
  have hb5:H.next < H5.next:=by have:=n4; have:=v4; have:=q2.1; have:=r3.1; omega
  have c37:Rs H7 sl s.rs ys:=c3.outS t3 (fun j hj q=>by rw [List.mem_singleton] at q; have:=c4 j hj; omega) fun z hz i hi q=>by rw [List.mem_singleton] at q; have:=c5 z hz i hi; omega
  have c310:Rs H10 sl s.rs ys:=c37.outS g10.1 (fun j hj=>fresh j (c4 j hj)) fun z hz i hi=>fresh i (c5 z hz i hi)
  have hn7:H6.next≤H7.next:=t3.1
  have newlf:∀ j,H5.next≤j→j < H7.next→j∉lf lp p { l with xp:=sp' }:=fun j h1 h2 q=>(g10.2 j q).elim (fun q=>by have:=hlt j q; have:=o5.1; omega) fun q=>by omega
  obtain ⟨xr',H11,b1,b2,b3,b4⟩:=rs_cat h10.recs c310 (fun z hz i hi q=>newlf i (c5 z hz i hi) (Nat.lt_of_lt_of_le (hyl z hz i hi) hn7) (lf_xr q)) (by show m.recs.length + s.rs.length≤100000; rw [hrs]; omega)
  obtain ⟨H12,k2,h12,g12⟩:=h10.toRecs b2 b3 b4 (fun z hz i hi=>by
   rcases List.mem_append.1 hz with hz | hz
   ·exact ⟨h10.row z hz i hi,h10.recs.ylt z hz i hi⟩
   ·have h1:=hyl z hz i hi
    exact ⟨newlf i (c5 z hz i hi) (Nat.lt_of_lt_of_le h1 hn7),Nat.lt_of_lt_of_le h1 (Nat.le_trans hn7 g10.1.1)⟩)
  have hR:m.recs++s.rs=recsOf (a++[s]):=by rw [hrs,recsOf_app]; simp [recsOf]
  have gall:Lgo lp p H l H12 _:=g70.trans g12
  obtain ⟨hT12,hn12,hge12⟩:=lgo_T hT hn hge gall
  have hxl:=r2.len1
  rw [bs_len] at hxl
  have d3:decide ((((fb s.rs).length:Nat):Int) < (((fb s.rs).length:Nat):Int))=false:=decide_eq_false (by omega)
  have e4:IntKind.wrap .i64 (((a.length:Nat):Int) + 1)=(((a++[s]).length:Nat):Int):=by rw [wrap_i64 (by omega) (by omega)]; simp
  have hylt:=hy.lt
  obtain ⟨H13,l13,z1,z2,z3⟩:=read_loop hch hG hby hbig hlen hrec hat r (a++[s]) H12 _ _ (by rw [hs]; simp) h12 hT12 hn12 hge12 hfs rfl hR hf ho (hy.out gall.1 hyd) (fun j hj q=>(gall.2 j q).elim (hyd j hj) fun q=>by have:=hylt j hj; omega)
  refine ⟨H13,l13,fun k => ?_,z2,gall.trans z3⟩
  have z1':=z1 k
  rw [ql_wal_Log_read]
  unfold pc sP at i1
  simp only [d,u1,u2,e1,bne_self_eq_false,f1,n1,v1,l30,v5,q1,r1,l40,SM_t sp,e3,c1,t1,l72,t5,f2,i1,i2,k1,l82,SM_t sx,l103,b1,k2,hxl,d3,e4,k_s,k_x,Int.reduceBEq,Int.reduceBNe,Int.reduceLT,Int.reduceLE,Int.reduceGT,Int.reduceGE,Int.reduceNeg]
  exact z1'
end
theorem sorted_ext:∀ (a b:List Int),a.Pairwise (fun x y=>x < y)→b.Pairwise (fun x y=>x < y)→(∀ z,z∈a ↔ z∈b)→a=b
 | [],[],_,_,_=>rfl
 | [],y::b,_,_,h=>by have:=(h y).2 (.head _); cases this
 | x::a,[],_,_,h=>by have:=(h x).1 (.head _); cases this
 | x::a,y::b,ha,hb,h=>by
  rw [List.pairwise_cons] at ha hb
  have exy:x=y:=by
   rcases List.mem_cons.1 ((h x).1 (.head _)) with e | e
   ·exact e
   ·rcases List.mem_cons.1 ((h y).2 (.head _)) with e' | e'
    ·exact e'.symm
    ·have h1:=hb.1 x e
     have h2:=ha.1 y e'
     omega
  subst exy
  rw [sorted_ext a b ha.2 hb.2 fun z => ?_]
  constructor
  ·intro hz
   rcases List.mem_cons.1 ((h z).1 (.tail _ hz)) with e | e
   ·have:=ha.1 z hz; omega
   ·exact e
  ·intro hz
   rcases List.mem_cons.1 ((h z).2 (.tail _ hz)) with e | e
   ·have:=hb.1 z hz; omega
   ·exact e
theorem chain_sorted:∀ (ss:List Sm) (e:Nat),chain e ss→(ss.map fun s=>((s.first:Nat):Int)).Pairwise (fun x y=>x < y)∧∀ s∈ss,e≤s.first
 | [],e,h=>⟨.nil,fun s hs=>by cases hs⟩
 | s::r,e,h=>by
  obtain ⟨h1,h2,h3⟩:=h
  obtain ⟨i1,i2⟩:=chain_sorted r _ h3
  refine ⟨?_,fun t ht => ?_⟩
  ·rw [List.map_cons,List.pairwise_cons]
   refine ⟨fun z hz => ?_,i1⟩
   obtain ⟨t,ht,rfl⟩:=List.mem_map.1 hz
   have hne:r≠[]:=fun q=>by rw [q] at ht; cases ht
   have:=i2 t ht
   have:0 < s.rs.length:=List.length_pos_iff.2 (h2 hne)
   omega
  ·rcases List.mem_cons.1 ht with rfl | ht
   ·omega
   ·have:=i2 t ht; omega
theorem nm_map:∀ ss:List Sm,(ss.map sF).map (·.nm)=ss.map (fun s=>nms (s.first:Nat))
 | []=>rfl
 | s::r=>by rw [List.map_cons,List.map_cons,List.map_cons,nm_map r,sF_nm]
theorem names_mem {m:SM} {ss:List Sm} (hfs:m.fs=ss.map sF) (n:List Nat):n∈names m ↔ ∃ s∈ss,nms (s.first:Nat)=n:=by
 unfold names
 rw [sortN_mem,hfs,nm_map,List.mem_map]
theorem sps_first {s:Sm} (h:s.first≤1000):sps (nms (s.first:Nat))=(s.first,true):=by
 have hi:inN ((s.first:Nat):Int)=true:=inN_t (by omega) (by omega)
 rw [sps_nms hi,Int.toNat_natCast]
theorem pick_to {m:SM} {ss:List Sm} (hfs:m.fs=ss.map sF) (hin:∀ s∈ss,s.first≤1000) {z:Int} (h:z∈pickZ (names m)):z∈ss.map fun s=>((s.first:Nat):Int):=by
 obtain ⟨n,hn,h1,h2⟩:=(pickZ_mem _ _).1 h
 obtain ⟨s,hs,e⟩:=(names_mem hfs n).1 hn
 rw [← e,sps_first (hin s hs)] at h2
 exact List.mem_map.2 ⟨s,hs,h2.symm⟩
theorem pick_from {m:SM} {ss:List Sm} (hfs:m.fs=ss.map sF) (hin:∀ s∈ss,s.first≤1000) {z:Int} (h:z∈ss.map fun s=>((s.first:Nat):Int)):z∈pickZ (names m):=by
 obtain ⟨s,hs,e⟩:=List.mem_map.1 h
 have h1:=sps_first (hin s hs)
 have h2:=(names_mem hfs (nms (s.first:Nat))).2 ⟨s,hs,Eq.refl _⟩
 generalize nms (s.first:Nat)=n at h1 h2
 refine (pickZ_mem _ _).2 ⟨n,h2,?_⟩
 rw [h1]
 exact ⟨Eq.refl _,e.symm⟩
theorem pick_fs {m:SM} {ss:List Sm} (hfs:m.fs=ss.map sF) (hc:chain 0 ss) (hin:∀ s∈ss,s.first≤1000):pickZ (names m)=ss.map fun s=>((s.first:Nat):Int):=
 sorted_ext _ _ (pickZ_lt _) (chain_sorted ss 0 hc).1 fun z=>⟨pick_to hfs hin,pick_from hfs hin⟩
section
variable {lp p:Nat}
theorem open_loop:∀ (r a:List Sm) (H1:Hp) (m:LM) (l:LP),hasT H1 begin0→11≤H1.next→Lg H1 lp p m l→m.m.fs=(a++r).map sF→m.parts=(a++r).map sP→m.m.off=false→m.m.fuse=0→(∀ s∈a++r,s.first≤17592186044415)→(a++r).length≤1000→
  (∀ j∈lf lp p l,11≤j)→
  ∃ H' l',(∀ k:K.Fn 1,l_wal_Open JN GO cK k (.ptr p 0) (.ptr lp 0) l.xp (.int .i64 ((a++r).length:Nat)) (.int .i64 (a.length:Nat)) H1=k (.ptr lp 0) H')∧Lg H' lp p (withFs m (a++r.map syS)) l'∧Lgo lp p H1 l H' l'∧l'.xp=l.xp
 | [],a,H1,m,l,hT,hn,h,hfs,hps,hoff,hfu,hin,hlen,hge=>by
  have d:decide (((a.length:Nat):Int) < (((a++[]).length:Nat):Int))=false:=decide_eq_false (by simp)
  have e:withFs m (a++([]:List Sm).map syS)=m:=by
   unfold withFs
   rw [List.map_nil,← hfs]
  rw [e]
  refine ⟨H1,l,fun k => ?_,h,Lgo.refl _ _ _ _,rfl⟩
  rw [ql_wal_Open]
  simp only [d,k_s,k_x,Int.reduceBEq,Int.reduceBNe,Int.reduceLT,Int.reduceLE,Int.reduceGT,Int.reduceGE,Int.reduceNeg]
 | s::r,a,H1,m,l,hT,hn,h,hfs,hps,hoff,hfu,hin,hlen,hge=>by
  have d:decide (((a.length:Nat):Int) < (((a++s::r).length:Nat):Int))=true:=decide_eq_true (by simp; omega)
  have hq:(m.parts.map pc)[a.length]? = some (pc (sP s)):=by rw [hps]; simp
  obtain ⟨b,o,z1,z2,z3,z4,z5⟩:=h.parts.rl.at (by decide) hq
  have z1':=z1 .i64
  have z6:lda 2 (.ptr b o) H1=some (.agg [.int .i64 (s.first:Nat),.int .i64 ((fb s.rs).length:Nat)]):=lda_of z4
  have hinS:inN ((s.first:Nat):Int)=true:=inN_t (by omega) (by have:=hin s (by simp); omega)
  obtain ⟨H2,u1,u2,u3,u4⟩:=newCells_ok H1 [.int .i64 0,.int .i64 0] 66 0 (by simp)
  obtain ⟨H3,v1,v2,v3,v4⟩:=st_all (n:=2) (v := .agg [.int .i64 (s.first:Nat),.int .i64 ((fb s.rs).length:Nat)]) (cs:=[.int .i64 (s.first:Nat),.int .i64 ((fb s.rs).length:Nat)]) u2 (by omega) rfl rfl rfl (pc_one ((s.first:Nat),((fb s.rs).length:Nat)))
  have o3:Out [] H1 H3:=u3.then v3 fun j hj=>by rw [List.mem_singleton] at hj; exact .inr (by omega)
  have v5:lda 2 (.ptr H1.next 0) H3=some (.agg [.int .i64 (s.first:Nat),.int .i64 ((fb s.rs).length:Nat)]):=v2.lda (n:=2) (o:=0) (by simp)
  obtain ⟨H4,q1,q2⟩:=pname_c (hasT_out hT hn o3) (Nat.le_trans hn o3.1) ((fb s.rs).length:Nat) hinS
  have o4:=o3.trans q2
  have h4:=h.out0 o4
  have hfs':m.m.fs=a.map sF++sF s::r.map sF:=by rw [hfs]; simp
  have hk:okName (sF s).nm=true:=by rw [sF_nm]; exact okName_nms hinS
  obtain ⟨e0,e1⟩:=ofE_at hfs' h.st.ok.names hoff hk
  rw [sF_nm] at e0 e1
  have e3:IntKind.wrap .i64 (((a.length:Nat):Int) + 1)=(((a++[syS s]).length:Nat):Int):=by
   rw [wrap_i64 (by omega) (by simp at hlen; omega)]; simp
  obtain ⟨H6,L',r1,r2,r3⟩:=sync_c h4.st (nms (s.first:Nat))
  have hB:burnB m.m=true:=by unfold burnB; rw [hfu]; rfl
  have hM:burnM m.m=m.m:=by unfold burnM; rw [if_pos hfu]
  have hsy:syncM m.m (nms (s.first:Nat))=(0,{ m.m with fs:=(a.map sF)++sF (syS s)::r.map sF }):=by
   unfold syncM
   rw [e0,if_neg (by decide),if_neg (by rw [hB]; decide),hM,e1]
   have hnd:=h.st.ok.names
   rw [hfs'] at hnd
   have:=setF_at (g:=sF (syS s)) hnd
   rw [sF_nm] at this
   simp only [hfs',sF_nm]
   exact congrArg (fun z=>((0:Int),({ m.m with fs:=z }:SM))) this
  rw [hsy] at r1 r2
  obtain ⟨h6,g6⟩:=h4.toStore r2 r3
  have hA:(a++[syS s])++r=a++syS s::r:=by simp
  have o6:Lgo lp p H1 l H6 { l with L:=L' }:=(Lgo.of0 o4).trans g6
  obtain ⟨hT6,hn6,hge6⟩:=lgo_T hT hn hge o6
  obtain ⟨H',l',k1,k2,k3,k4⟩:=open_loop r (a++[syS s]) H6 _ _ hT6 hn6 h6 (by rw [hA]; simp) (by rw [hA]; show m.parts=_; rw [hps]; simp [sP,syS]) hoff hfu (by
   rw [hA]
   intro q hq
   rcases List.mem_append.1 hq with hq | hq
   ·exact hin q (List.mem_append_left _ hq)
   ·rcases List.mem_cons.1 hq with rfl | hq
    ·exact hin s (by simp)
    ·exact hin q (List.mem_append_right _ (.tail _ hq))) (by rw [hA]; simpa using hlen) hge6
  refine ⟨H',l',fun k => ?_,?_,o6.trans k3,k4⟩
  ·have k1':=k1 k
   rw [show ((a++[syS s])++r).length=(a++s::r).length by simp] at k1'
   rw [ql_wal_Open]
   simp only [d,z1',z6,u1,v1,v5,q1,r1,e3,k_s,k_x,Int.reduceBEq,Int.reduceBNe,Int.reduceLT,Int.reduceLE,Int.reduceGT,Int.reduceGE,Int.reduceNeg]
   exact k1'
  ·have:withFs { m with m:={ m.m with fs:=(a.map sF)++sF (syS s)::r.map sF } } ((a++[syS s])++r.map syS)=withFs m (a++(s::r).map syS):=by
    unfold withFs; simp
   rw [← this]
   exact k2
theorem open_c {H:Hp} {m:SM} {L:Lay} (h:St H p m L) (hT:hasT H begin0) (hn:11≤H.next) (hge:∀ j∈foot p L,11≤j) {most:Int} (h1:64≤most) (h2:most≤1048576) (ho:m.off=false) (hfu:m.fuse=0) {ss:List Sm} (hfs:m.fs=ss.map sF)
  (hch:chain 0 ss) (hG:∀ a s r,ss=a++s::r→scanM (fb s.rs).length (fb s.rs) (s.first:Nat) (epOf (recsOf a))=(s.rs,(fb s.rs).length)) (hby:∀ s∈ss,∀ v∈fb s.rs,v < 256) (hbig:∀ s∈ss,(fb s.rs).length≤1000000) (hlen:ss.length≤64) (hrec:(recsOf ss).length≤1000) (hat:∀ r∈recsOf ss,r.1 < 18446744073709551616) :
  ∃ lp l H' v,cK (.func (.func 15) [] []) [.ptr p 0,.int .i64 most] H=some (.tuple [.ptr lp 0,.int .i64 0],H')∧Lg H' lp p ⟨most,{ m with fs:=(ss.map syS).map sF },ss.map sP,recsOf ss,0,v⟩ l∧Out (foot p L) H H':=by
 have d1:decide (most < 64)=false:=decide_eq_false (by omega)
 have d2:decide (1048576 < most)=false:=decide_eq_false (by omega)
 have e1:=StC.off_c h
 rw [ho] at e1
 have hf:fl [.ptr0,(.int .i64 0),.slice0,.slice0,(.int .i64 0),(.int .i64 0)] [(0,1,AV.ptr p 0),(1,1,AV.int .i64 most)]=some [.ptr p 0,.int .i64 most,.slice0,.slice0,.int .i64 0,.int .i64 0]:=rfl
 obtain ⟨H1,b1,b2,b3,b4⟩:=bx_ok H 57 (.agg [.ptr p 0,.int .i64 most,.slice0,.slice0,.int .i64 0,.int .i64 0]) _ rfl (by simp)
 have h1':=h.out b3 fun j _ q=>by cases q
 obtain ⟨x,H2,n1,n2,n3,n4,n5⟩:=names_c h1'
 have n2':Rw H2 1 x (SgK.strs (names m)):=n2
 have o2:Out [] H H2:=b3.trans n3
 have hnl:(names m).length=ss.length:=by unfold names; rw [sortN_len,hfs]; simp
 have hfl:∀ s∈ss,s.first≤1000:=fun s hs=>by have:=chain_first ss 0 hch s hs; omega
 obtain ⟨y,H3,p1,p2,p3,p4⟩:=pick_c n2' (hasT_out hT hn o2) (Nat.le_trans hn o2.1) (by rw [hnl]; omega) (fun s hs=>by
  unfold names at hs
  rw [sortN_mem] at hs
  obtain ⟨f,hf',rfl⟩:=List.mem_map.1 hs
  have:=okName_len (h.ok.good f hf')
  omega)
 rw [pick_fs hfs hch hfl] at p3
 have yl:=p3.rw.len1
 rw [nums_len,List.length_map] at yl
 have o3:Out [] H H3:=o2.trans p2
 have hd3:=(b2.out n3 fun q=>by cases q).out p2 fun q=>by cases q
 have hlp:H.next∉foot p L:=fun q=>by have:=h.lt _ q; omega
 have g3:Lg H3 H.next p ⟨most,m,[],[],0,0⟩ ⟨L,.slice0,.slice0,[]⟩:=⟨⟨_,hd3⟩,h.out o3 (fun j _ q=>by cases q),OL.nil _ _ _,rs_nil _,nd_mk h.nd (fun q=>by cases q) (fun q=>by cases q) hlp (fun j hj=>by cases hj) (fun j hj=>by cases hj) (fun j hj=>by cases hj),(fun y hy=>by cases hy)⟩
 have hlf:∀ j∈lf H.next p (⟨L,.slice0,.slice0,[]⟩:LP),j=H.next∨j∈foot p L:=fun j hj=>by
  rcases lf_cases hj with q | q | q | q
  ·exact .inl q
  ·cases q
  ·cases q
  ·exact .inr q
 have hge3:∀ j∈lf H.next p (⟨L,.slice0,.slice0,[]⟩:LP),11≤j:=fun j hj=>(hlf j hj).elim (fun q=>by omega) (hge j)
 have hT3:=hasT_out hT hn o3
 have hn3:11≤H3.next:=Nat.le_trans hn o3.1
 obtain ⟨H4,f1,f2,f3⟩:∃ H4,Lg H4 H.next p ⟨most,m,[],[],0,0⟩ ⟨L,.slice0,.slice0,[]⟩∧Lgo H.next p H3 ⟨L,.slice0,.slice0,[]⟩ H4 ⟨L,.slice0,.slice0,[]⟩∧
   ∀ (v:AV × Hp) ,l_wal_Log_read JN GO cK (fun h=>some ((.int .i64 0),h)) (.ptr H.next 0) y y (.int .i64 (ss.length:Nat)) (.int .i64 0) H4=some v→cK (.func (.func 36) [] []) [.ptr H.next 0,y] H3=some v:=by
  cases hss:ss with
  | nil=>
   refine ⟨H3,g3,Lgo.refl _ _ _ _,fun v hv=>c_wal_Log_read ?_⟩
   have d:decide ((0:Int) < ((ss.length:Nat):Int))=false:=by rw [hss]; rfl
   unfold s_wal_Log_read
   simp only [yl,d,k_s,k_x,Int.reduceBEq,Int.reduceBNe,Int.reduceLT,Int.reduceLE,Int.reduceGT,Int.reduceGE,Int.reduceNeg]
   rw [hss]
   exact hv
  | cons s r=>
   have hs0:s.first=0:=by have:=hch; rw [hss] at this; exact this.1
   have hq:(nums (ss.map fun s=>((s.first:Nat):Int)))[0]? = some (.int .i64 0):=by rw [hss,List.map_cons,hs0]; rfl
   obtain ⟨q,u1,u2⟩:=p3.rw.ia1 hq .i64
   rw [show (((0:Nat):Int))=0 from rfl] at u1
   obtain ⟨H4,s1,s2,s3,s4⟩:=g3.head.st (o:=4) (v := .int .i64 0) (by simp) rfl
   have n2:∀ j,j∈foot p L→j∉[H.next]:=fun j hj q=>hlp (List.mem_singleton.1 q ▸ hj)
   refine ⟨H4,⟨s2,g3.st.out s3 n2,OL.nil _ _ _,rs_nil _,g3.nd,(fun y hy=>by cases hy)⟩,⟨s3.mono fun j hj=>by rw [List.mem_singleton.1 hj]; exact lf_lp,fun j hj => .inl hj⟩,fun v hv=>c_wal_Log_read ?_⟩
   have d:decide ((0:Int) < ((ss.length:Nat):Int))=true:=by rw [hss]; exact decide_eq_true (by simp)
   unfold s_wal_Log_read
   simp only [yl,d,u1,u2,s1,k_s,k_x,Int.reduceBEq,Int.reduceBNe,Int.reduceLT,Int.reduceLE,Int.reduceGT,Int.reduceGE,Int.reduceNeg]
   rw [hss]
   exact hv
 obtain ⟨hT4,hn4,hge4⟩:=lgo_T hT3 hn3 hge3 f2
 have hyf:∀ j∈rid y,j∉lf H.next p (⟨L,.slice0,.slice0,[]⟩:LP):=fun j hj q=>by
  have h5:=p4 j hj
  have h6:=o2.1
  have h7:=n3.1
  rcases hlf j q with e | e
  ·omega
  ·have:=h.lt j e; omega
 obtain ⟨H5,l5,r1,r2,r3⟩:=read_loop hch hG hby hbig (by omega) hrec hat ss [] H4 _ _ rfl f1 hT4 hn4 hge4 hfs rfl rfl rfl ho (p3.rw.out f2.1 hyf) hyf
 rw [List.length_nil,show (((0:Nat):Int))=0 from rfl] at r1
 have rd:=f3 _ (r1 fun h=>some ((.int .i64 0),h))
 obtain ⟨hT5,hn5,hge5⟩:=lgo_T hT4 hn4 hge4 r3
 have hpl:=r2.parts.rl.len (by decide)
 rw [List.length_map] at hpl
 simp only [List.length_map] at hpl
 have l52:=r2.head.ld (o:=2) rfl
 obtain ⟨H6,l6,k1,k2,k3,k4⟩:=open_loop ss [] H5 _ l5 hT5 hn5 r2 (by rw [List.nil_append]; exact hfs) (by rw [List.nil_append]) ho hfu (by rw [List.nil_append]; intro s hs; have:=hfl s hs; omega) (by rw [List.nil_append]; omega) hge5
 rw [List.nil_append,List.length_nil,show (((0:Nat):Int))=0 from rfl] at k1
 rw [List.nil_append] at k2
 have sm:Small (withFs ⟨most,m,ss.map sP,recsOf ss,0,0⟩ (ss.map syS)):=⟨⟨Int.le_refl _,by show (0:Int)≤17592186040000; decide⟩,hrec,hat,by show (ss.map sP).length≤1000; rw [List.length_map]; omega,fun q hq=>by
  obtain ⟨t,ht,rfl⟩:=List.mem_map.1 hq
  have:=hbig t ht
  simp only [sP]
  omega⟩
 have e5:=end_c k2 sm
 obtain ⟨H7,t1,t2,t3⟩:=k2.toSure (endM (withFs ⟨most,m,ss.map sP,recsOf ss,0,0⟩ (ss.map syS)))
 have gall:=f2.trans (r3.trans (k3.trans t3))
 refine ⟨H.next,l6,H7,_,c_wal_Open ?_,t2,(o3.mono fun j hj=>by cases hj).then gall.1 fun j hj=>(hlf j hj).elim (fun q => .inr (by omega)) .inl⟩
 unfold s_wal_Open
 simp only [d1,d2,e1,hf,b1,n1,p1,rd,l52,hpl,k1,e5,t1,k_s,k_x,Int.reduceBEq,Int.reduceBNe,Int.reduceLT,Int.reduceLE,Int.reduceGT,Int.reduceGE,Int.reduceNeg]
end
end Go.Proofs.YtbdlbhlhnpblpaaGreatDoor.WlK
namespace Go.Proofs.YtbdlbhlhnpblpaaGreatDoor.WlK
open Go Am Am.K WlEnv Sg SegPrim SgN SgK StC SegSort
set_option linter.unusedVariables false
set_option linter.unusedSimpArgs false
set_option maxRecDepth 10000
set_option maxHeartbeats 4000000
theorem append_big {H:Hp} {lp p:Nat} {m:LM} {l:LP} (h:Lg H lp p m l) (hs:Small m) {ep E:Nat} {y:AV} {b:List Nat} (hy:Rw H 1 y (bs b)) (hbig:1024 < b.length) (hmax:b.length≤140737488355328) (he1:epM m≤ep) (he2:ep≤1048575) (hE:endM m=(E:Nat)) (hE2:E≤17592186044415) :
  ∃ H',cK (.func (.func 8) [] []) [.ptr lp 0,.int .i64 ep,y] H=some (.tuple [.int .u64 0,.int .i64 14],H')∧Out [] H H':=by
 have e1:=lepoch_c h hs
 have d1:decide (((ep:Nat):Int) < epM m)=false:=decide_eq_false (by omega)
 have d2:decide ((1048575:Int) < ((ep:Nat):Int))=false:=decide_eq_false (by omega)
 have e2:=end_c h hs
 rw [hE] at e2
 have e3:=pack_c (H:=H) ep E he2 hE2
 generalize hA:ep * 17592186044416 + E=a at *
 obtain ⟨x',H1,c1,c2,c3,c4⟩:=SgK.clone_c hy hmax
 have f1:=fl_rec c2.rw ((a:Nat):Int)
 obtain ⟨H2,n1,n2,n3,n4⟩:=newCells_ok H1 [.int .u64 0,.slice0] 37 0 (by simp)
 obtain ⟨H3,t1,t2,t3,t4⟩:=st_all (n:=2) n2 (by omega) (cells_rec c2.rw ((a:Nat):Int)) rfl rfl (by
  intro v hv
  rcases List.mem_cons.1 hv with rfl | hv
  ·rfl
  ·rcases List.mem_cons.1 hv with rfl | hv
   ·exact one_rw c2.rw
   ·cases hv)
 have t5:lda 2 (.ptr H1.next 0) H3=some (.agg [.int .u64 ((a:Nat):Int),x']):=t2.lda (n:=2) (o:=0) (by simp)
 have x1lt:=c2.rw.lt
 have xr3:Rw H3 1 x' (bs b):=(c2.rw.out n3 fun j _ q=>by cases q).out t3 fun j hj q=>by
  have:=x1lt j hj
  rw [List.mem_singleton] at q
  omega
 obtain ⟨H4,p1,p2⟩:=put_big (x := .slice0) (s:=((a:Nat):Int)) xr3 hbig
 refine ⟨H4,c_wal_Log_Append ?_,((c3.trans n3).then t3 fun j hj=>by
  rw [List.mem_singleton] at hj
  have:=c3.1
  exact .inr (by omega)).trans p2⟩
 unfold s_wal_Log_Append
 simp only [e1,d1,d2,e2,e3,c1,f1,n1,t1,t5,p1,k_s,k_x,Int.reduceBEq,Int.reduceBNe,Int.reduceLT,Int.reduceLE,Int.reduceGT,Int.reduceGE,Int.reduceNeg]
theorem sumB_fs:∀ ss:List Sm,sumB (ss.map sF)=(fb (recsOf ss)).length
 | []=>rfl
 | s::r=>by
  rw [List.map_cons,sumB_cons,sumB_fs r]
  have:recsOf (s::r)=s.rs++recsOf r:=by simp [recsOf]
  rw [this,fb_app,List.length_append]
  simp only [sF]
theorem fb_le:∀ R:List (Nat × List Nat),(∀ r∈R,r.2.length≤1024)→(fb R).length≤R.length * 1040
 | [],_=>Nat.zero_le _
 | r::R,h=>by
  have h1:=h r (.head _)
  have h2:=fb_le R fun q hq=>h q (.tail _ hq)
  rw [fb,List.length_append,fr_len,List.length_cons]
  omega
theorem chain_len:∀ (ss:List Sm) (e:Nat),chain e ss→ss.length≤(recsOf ss).length + 1
 | [],e,h=>Nat.zero_le _
 | s::r,e,h=>by
  obtain ⟨h1,h2,h3⟩:=h
  have:=chain_len r _ h3
  have e1:recsOf (s::r)=s.rs++recsOf r:=by simp [recsOf]
  rw [e1,List.length_append,List.length_cons]
  by_cases hr:r=[]
  ·subst hr; simp [recsOf]
  ·have:0 < s.rs.length:=List.length_pos_iff.2 (h2 hr)
   omega
theorem chain_push:∀ (ss:List Sm) (e:Nat) (rs:List (Nat × List Nat)) (su:Nat),chain e ss→(∀ u∈ss,u.rs≠[])→chain e (ss++[⟨e + (recsOf ss).length,rs,su⟩])
 | [],e,rs,su,h,hn=>⟨by simp [recsOf],fun q=>absurd rfl q,trivial⟩
 | s::r,e,rs,su,h,hn=>by
  obtain ⟨h1,h2,h3⟩:=h
  have:=chain_push r _ rs su h3 fun u hu=>hn u (.tail _ hu)
  have e1:(recsOf (s::r)).length=s.rs.length + (recsOf r).length:=by simp [recsOf]
  refine ⟨h1,fun _=>hn s (.head _),?_⟩
  rw [e1,← Nat.add_assoc]
  exact this
theorem chain_swap:∀ (a:List Sm) (e:Nat) (x y:Sm),x.first=y.first→chain e (a++[x])→chain e (a++[y])
 | [],e,x,y,hf,h=>⟨hf ▸ h.1,fun q=>absurd rfl q,trivial⟩
 | c::a,e,x,y,hf,h=>⟨h.1,fun _=>h.2.1 (by simp),chain_swap a _ x y hf h.2.2⟩
theorem chain_ne:∀ (a:List Sm) (e:Nat) (x:Sm),chain e (a++[x])→∀ u∈a,u.rs≠[]
 | [],e,x,h,u,hu=>by cases hu
 | c::a,e,x,h,u,hu=>by
  rcases List.mem_cons.1 hu with rfl | hu
  ·exact h.2.1 (by simp)
  ·exact chain_ne a _ x h.2.2 u hu
theorem app_new' {m:SM} {n b:List Nat} (hl:StC.look m n=none) (hk:okName n=true) (ho:m.off=false) (hf:m.fuse=0) (hr:sumB m.fs + b.length≤m.room) (hm:m.fs.length < 64):(appM m n b).2={ m with fs:=m.fs++[⟨n,b,0⟩] }:=by
 have hB:burnB m=true:=by unfold burnB; rw [hf]; rfl
 have hM:burnM m=m:=by unfold burnM; rw [if_pos hf]
 have hE:ofE m n=4:=by unfold ofE; rw [hl,hk,ho]; rfl
 unfold appM
 rw [if_neg (by rw [hE]; decide),if_neg (by rw [hl]; simp; omega),if_neg (by rw [hB]; decide),hM,hl]
theorem app_old' {m:SM} {A B:List Fl} {f:Fl} {b:List Nat} (hfs:m.fs=A++f::B) (hn:(m.fs.map (·.nm)).Nodup) (hk:okName f.nm=true) (ho:m.off=false) (hf:m.fuse=0) (hr:sumB m.fs + b.length≤m.room):(appM m f.nm b).2={ m with fs:=A++⟨f.nm,f.b++b,f.sure⟩::B }:=by
 have hB:burnB m=true:=by unfold burnB; rw [hf]; rfl
 have hM:burnM m=m:=by unfold burnM; rw [if_pos hf]
 obtain ⟨hE,hl⟩:=ofE_at hfs hn ho hk
 unfold appM
 rw [if_neg (by rw [hE]; decide),if_neg (by rw [hl]; simp; omega),if_neg (by rw [hB]; decide),hM,hl]
 have:=setF_at (g:=⟨f.nm,f.b++b,f.sure⟩) (hfs ▸ hn)
 simp only [hfs]
 exact congrArg (fun z=>({ m with fs:=z }:SM)) this
structure Rp (R:List (Nat × List Nat)):Prop where
 len:R.length≤30
 at':∀ (i:Nat) (r:Nat × List Nat),R[i]? = some r→r.1 % 17592186044416=i∧r.1 / 17592186044416≤2
 pay:∀ r∈R,r.2.length≤1024∧∀ v∈r.2,v < 256
 ord:(R.map (fun r=>r.1 / 17592186044416)).Pairwise (fun a b:Nat=>a≤b)
theorem Rp.lt {R:List (Nat × List Nat)} (h:Rp R):∀ r∈R,r.1 < 18446744073709551616∧r.1 / 17592186044416≤2:=fun r hr=>by
 obtain ⟨i,hi⟩:=List.mem_iff_getElem?.1 hr
 have:=h.at' i r hi
 omega
theorem Wf.small {m:LM} {ss:List Sm} {R:List (Nat × List Nat)} (hw:Wf m ss) (hR:m.recs=R) (hp:Rp R):Small m:=by
 have hb:=fb_le R fun r hr=>(hp.pay r hr).1
 have hl:=hp.len
 have hsl:=chain_len ss 0 hw.chain
 have hRs:recsOf ss=R:=by rw [← hw.recs,hR]
 rw [hRs] at hsl
 refine ⟨by rw [hw.first]; omega,by rw [hR]; omega,fun r hr=>(hp.lt r (hR ▸ hr)).1,by rw [hw.parts,List.length_map]; omega,fun q hq => ?_⟩
 rw [hw.parts] at hq
 obtain ⟨s,hs,rfl⟩:=List.mem_map.1 hq
 have:(fb s.rs).length≤(fb R).length:=by
  rw [← hRs]
  obtain ⟨a,b,rfl⟩:=List.append_of_mem hs
  have:recsOf (a++s::b)=recsOf a++(s.rs++recsOf b):=by rw [recsOf_app]; simp [recsOf]
  rw [this,fb_app,fb_app,List.length_append,List.length_append]
  omega
 simp only [sP]
 omega
theorem ap_step {H:Hp} {lp p:Nat} {m:LM} {l:LP} (h:Lg H lp p m l) (hT:hasT H begin0) (hn:11≤H.next) {ss:List Sm} (hw:Wf m ss) {R:List (Nat × List Nat)} (hR:m.recs=R) (hp:Rp R) (hlt:R.length < 30) {ep:Nat} (hep:ep≤2) (hord:∀ r∈R,r.1 / 17592186044416≤ep)
  (hroom:m.m.room=65536) (hmost:m.most=120) {y:AV} {b:List Nat} (hy:Rw H 1 y (bs b)) (hb:∀ v∈b,v < 256) (hlen:b.length≤1024) :
  ∃ H' l' m' ss' a,cK (.func (.func 8) [] []) [.ptr lp 0,.int .i64 ep,y] H=some (.tuple [.int .u64 ((a:Nat):Int),.int .i64 0],H')∧Lg H' lp p m' l'∧Lgo lp p H l H' l'∧Wf m' ss'∧m'.recs=R++[(ep * 17592186044416 + R.length,b)]∧m'.m.room=65536∧m'.most=120:=by
 have hs:=hw.small hR hp
 have hRs:recsOf ss=R:=by rw [← hw.recs,hR]
 have hE:endM m=((R.length:Nat):Int):=by unfold endM; rw [hw.first,hR]; omega
 have hepM:epM m≤(ep:Nat):=by
  unfold epM
  rw [hR]
  cases hq:R.getLast? with
  | none=>simp
  | some z=>have:=hord z (List.mem_of_getLast? hq); simp only; omega
 have hfbR:=fb_le R fun r hr=>(hp.pay r hr).1
 have hsum:sumB m.m.fs + (16 + b.length)≤m.m.room:=by rw [hw.fs,sumB_fs,hRs,hroom]; omega
 have hsl:=chain_len ss 0 hw.chain
 rw [hRs] at hsl
 have hfl:m.m.fs.length < 64:=by rw [hw.fs,List.length_map]; omega
 have hfirst:∀ u∈ss,u.first + u.rs.length≤R.length:=fun u hu=>by have:=chain_first ss 0 hw.chain u hu; rw [hRs] at this; omega
 have hin:∀ u∈ss,inN ((u.first:Nat):Int)=true:=fun u hu=>inN_t (by omega) (by have:=hfirst u hu; omega)
 obtain ⟨H',l',a1,a2,a3⟩:=append_c h hs hT hn (ep:=ep) (E:=R.length) hy hb hlen hepM (by omega) hE (by omega) hw.off hw.fuse hsum hfl (fun q hq=>by
  rw [hw.parts] at hq
  obtain ⟨u,hu,rfl⟩:=List.mem_map.1 hq
  exact hin u hu)
 generalize hA:ep * 17592186044416 + R.length=a at *
 have frl:=fr_len a b
 have hokE:okName (nms (endM m))=true:=by rw [hE]; exact okName_nms (inN_t (by omega) (by omega))
 have hnew:(∀ u∈ss,u.rs≠[])→Wf { m with m:=(appM m.m (nms (endM m)) (fr a b)).2,parts:=m.parts++[(endM m,0 + ((16 + b.length:Nat):Int))],recs:=m.recs++[(a,b)] } (ss++[⟨R.length,[(a,b)],0⟩])∧(appM m.m (nms (endM m)) (fr a b)).2.room=65536:=by
  intro hne
  have hlk:StC.look m.m (nms (endM m))=none:=by
   unfold StC.look
   rw [hw.fs,List.find?_eq_none]
   intro f hf q
   obtain ⟨u,hu,rfl⟩:=List.mem_map.1 hf
   have e:(sF u).nm=nms (endM m):=by simpa using q
   rw [sF_nm,hE] at e
   have h1:=sps_nms (hin u hu)
   have h2:=sps_nms (a:=((R.length:Nat):Int)) (inN_t (by omega) (by omega))
   rw [e,h2] at h1
   simp only [Int.toNat_natCast,Prod.mk.injEq,and_true] at h1
   have:=hfirst u hu
   have:0 < u.rs.length:=List.length_pos_iff.2 (hne u hu)
   omega
  have hap:=app_new' (b:=fr a b) hlk hokE hw.off hw.fuse (by rw [frl]; exact hsum) hfl
  rw [hap]
  have hfbl:(fb [(a,b)])=fr a b:=by simp [fb]
  refine ⟨⟨?_,?_,?_,hw.first,?_,hw.off,hw.fuse⟩,hroom⟩
  ·show m.m.fs++[⟨nms (endM m),fr a b,0⟩]=_
   rw [hw.fs,hE,List.map_append,List.map_cons,List.map_nil]
   congr 2
   simp only [sF,hfbl]
  ·show m.parts++[(endM m,0 + ((16 + b.length:Nat):Int))]=_
   rw [hw.parts,hE,List.map_append,List.map_cons,List.map_nil]
   simp only [sP,hfbl,frl,Int.zero_add]
  ·show m.recs++[(a,b)]=_
   rw [hw.recs,recsOf_app]
   simp [recsOf]
  ·have:=chain_push ss 0 [(a,b)] 0 hw.chain hne
   rw [hRs,Nat.zero_add] at this
   exact this
 rcases List.eq_nil_or_concat ss with hss | ⟨t,s,hss⟩
 ·have hpn:m.parts=[]:=by rw [hw.parts,hss]; rfl
  have e:apM m a b={ m with m:=(appM m.m (nms (endM m)) (fr a b)).2,parts:=m.parts++[(endM m,0 + ((16 + b.length:Nat):Int))],recs:=m.recs++[(a,b)] }:=by unfold apM; rw [if_pos (.inl hpn)]
  rw [e] at a2
  obtain ⟨w1,w2⟩:=hnew (by rw [hss]; intro u hu; cases hu)
  exact ⟨H',l',_,_,a,a1,a2,a3,w1,by show m.recs++_=_; rw [hR],w2,hmost⟩
 ·rw [List.concat_eq_append] at hss
  have hlast:lastP m=sP s:=by unfold lastP; rw [hw.parts,hss]; simp
  by_cases hbig:120≤(fb s.rs).length
  ·have e:apM m a b={ m with m:=(appM m.m (nms (endM m)) (fr a b)).2,parts:=m.parts++[(endM m,0 + ((16 + b.length:Nat):Int))],recs:=m.recs++[(a,b)] }:=by
    unfold apM
    rw [if_pos (.inr (by rw [hlast,hmost]; simp only [sP]; omega))]
   rw [e] at a2
   obtain ⟨w1,w2⟩:=hnew (by
    intro u hu
    rw [hss] at hu
    rcases List.mem_append.1 hu with hu | hu
    ·exact chain_ne t 0 s (hss ▸ hw.chain) u hu
    ·rw [List.mem_singleton] at hu
     subst hu
     intro q
     rw [q] at hbig
     simp [fb] at hbig)
   exact ⟨H',l',_,_,a,a1,a2,a3,w1,by show m.recs++_=_; rw [hR],w2,hmost⟩
  ·have hpn:m.parts≠[]:=by rw [hw.parts,hss]; simp
   have e:apM m a b={ m with m:=(appM m.m (nms (lastP m).1) (fr a b)).2,parts:=m.parts.set (m.parts.length - 1) ((lastP m).1,(lastP m).2 + ((16 + b.length:Nat):Int)),recs:=m.recs++[(a,b)] }:=by
    unfold apM
    rw [if_neg (by
     rintro (q | q)
     ·exact hpn q
     ·rw [hlast,hmost] at q; simp only [sP] at q; omega)]
   rw [e] at a2
   have hfs':m.m.fs=t.map sF++sF s::[]:=by rw [hw.fs,hss]; simp
   have hk:okName (sF s).nm=true:=by rw [sF_nm]; exact okName_nms (hin s (by rw [hss]; simp))
   have hap:=app_old' (b:=fr a b) hfs' h.st.ok.names hk hw.off hw.fuse (by rw [frl]; exact hsum)
   rw [sF_nm] at hap
   have hl1:(lastP m).1=((s.first:Nat):Int):=by rw [hlast]; simp only [sP]
   have hl2:(lastP m).2=(((fb s.rs).length:Nat):Int):=by rw [hlast]; simp only [sP]
   rw [hl1,hl2] at a2
   rw [hap] at a2
   have hfb2:fb (s.rs++[(a,b)])=fb s.rs++fr a b:=by rw [fb_app]; simp [fb]
   refine ⟨H',l',_,t++[⟨s.first,s.rs++[(a,b)],s.sure⟩],a,a1,a2,a3,⟨?_,?_,?_,hw.first,?_,hw.off,hw.fuse⟩,by show m.recs++_=_; rw [hR],hroom,hmost⟩
   ·show t.map sF++[⟨nms (s.first:Nat),(sF s).b++fr a b,(sF s).sure⟩]=_
    rw [List.map_append,List.map_cons,List.map_nil]
    have:(⟨nms (s.first:Nat),(sF s).b++fr a b,(sF s).sure⟩:Fl)=sF ⟨s.first,s.rs++[(a,b)],s.sure⟩:=by simp only [sF,hfb2]
    rw [this]
   ·show m.parts.set (m.parts.length - 1) _=_
    rw [hw.parts,hss,List.map_append,List.map_append,List.map_cons,List.map_nil,List.map_cons,List.map_nil]
    simp only [sP,hfb2,List.length_append,frl]
    simp
   ·show m.recs++[(a,b)]=_
    rw [hw.recs,hss,recsOf_app,recsOf_app]
    simp [recsOf]
   ·exact chain_swap t 0 s _ rfl (hss ▸ hw.chain)
end Go.Proofs.YtbdlbhlhnpblpaaGreatDoor.WlK
namespace Go.Proofs.YtbdlbhlhnpblpaaGreatDoor.WlK
open Go Am Am.K WlEnv Sg SegPrim SgN SgK StC
set_option linter.unusedVariables false
set_option linter.unusedSimpArgs false
set_option maxRecDepth 10000
set_option maxHeartbeats 2000000
def Bl (H:Hp) (x:AV) (ls:List (List Nat)):Prop:=∃ cs,Rw H 1 x cs∧cs.length=ls.length∧∀ (j:Nat) (b:List Nat),ls[j]? = some b→∃ y,cs[j]? = some y∧Rw H 1 y (bs b)
theorem Bl.out {H H':Hp} {x:AV} {ls:List (List Nat)} (h:Bl H x ls) (k:Out [] H H'):Bl H' x ls:=by
 obtain ⟨cs,h1,h2,h3⟩:=h
 refine ⟨cs,h1.out k (fun j _ q=>by cases q),h2,fun j b hb => ?_⟩
 obtain ⟨y,a,c⟩:=h3 j b hb
 exact ⟨y,a,c.out k fun j _ q=>by cases q⟩
theorem Bl.lenc {H:Hp} {x:AV} {ls:List (List Nat)} (h:Bl H x ls):lenx x=some (.int .i64 (ls.length:Nat)):=by
 obtain ⟨cs,h1,h2,h3⟩:=h
 rw [h1.len1,h2]
theorem Bl.at {H:Hp} {x:AV} {ls:List (List Nat)} (h:Bl H x ls) {j:Nat} {b:List Nat} (hj:ls[j]? = some b):∃ q y,ia 1 x (.int .i64 (j:Nat))=some q∧ld q H=some y∧Rw H 1 y (bs b):=by
 obtain ⟨cs,h1,h2,h3⟩:=h
 obtain ⟨y,a,c⟩:=h3 j b hj
 obtain ⟨q,u1,u2⟩:=h1.ia1 a .i64
 exact ⟨q,y,u1,u2,c⟩
def rcE (e:Nat):Nat→List (List Nat)→List (Nat × List Nat)
 | _,[]=>[]
 | i,b::r=>(e * 17592186044416 + i,b)::rcE e (i + 1) r
theorem rcE_len (e:Nat):∀ (i:Nat) (l:List (List Nat)),(rcE e i l).length=l.length
 | i,[]=>rfl
 | i,b::r=>by rw [rcE,List.length_cons,rcE_len e (i + 1) r,List.length_cons]
theorem rcE_app (e:Nat):∀ (l:List (List Nat)) (i:Nat) (b:List Nat),rcE e i (l++[b])=rcE e i l++[(e * 17592186044416 + (i + l.length),b)]
 | [],i,b=>rfl
 | c::l,i,b=>by
  rw [List.cons_append,rcE,rcE_app e l (i + 1) b,rcE,List.cons_append,List.length_cons,show i + 1 + l.length=i + (l.length + 1) by omega]
theorem rcE_mem (e:Nat):∀ (l:List (List Nat)) (i:Nat) (r:Nat × List Nat),r∈rcE e i l→∃ k,r.1=e * 17592186044416 + k∧k < i + l.length∧r.2∈l
 | [],i,r,h=>by cases h
 | c::l,i,r,h=>by
  rcases List.mem_cons.1 h with rfl | h
  ·exact ⟨i,rfl,by simp,.head _⟩
  ·obtain ⟨k,h1,h2,h3⟩:=rcE_mem e l (i + 1) r h
   exact ⟨k,h1,by rw [List.length_cons]; omega,.tail _ h3⟩
theorem rcE_get (e:Nat):∀ (l:List (List Nat)) (i j:Nat) (b:List Nat),l[j]? = some b→(rcE e i l)[j]? = some (e * 17592186044416 + (i + j),b)
 | c::l,i,0,b,h=>by cases h; rfl
 | c::l,i,j + 1,b,h=>by
  rw [rcE,List.getElem?_cons_succ,rcE_get e l (i + 1) j b h,show i + 1 + j=i + (j + 1) by omega]
structure Inv (m:LM) (i:Nat) (R:List (Nat × List Nat)):Prop where
 first:m.first=0
 recs:m.recs=R
 len:R.length=i
 off:m.m.off=false
 fuse:m.m.fuse=0
 room:m.m.room=65536
 sum:sumB m.m.fs≤i * 116
 files:m.m.fs.length≤i
 parts:m.parts.length≤i
 part:∀ q∈m.parts,(0≤q.1∧q.1≤i)∧0≤q.2∧q.2≤i * 116
theorem Inv.small {m:LM} {i:Nat} {R:List (Nat × List Nat)} (h:Inv m i R) (hi:i≤100) (hR:∀ r∈R,r.1 < 18446744073709551616):Small m:=
 ⟨by rw [h.first]; omega,by rw [h.recs,h.len]; omega,fun r hr=>hR r (h.recs ▸ hr),by have:=h.parts; omega,fun q hq=>by have:=h.part q hq; omega⟩
theorem take_s {α:Type} {l:List α} {i:Nat} {b:α} (h:l[i]? = some b):l.take (i + 1)=l.take i++[b]:=by
 rw [List.take_add_one,h]; rfl
end Go.Proofs.YtbdlbhlhnpblpaaGreatDoor.WlK
namespace Go.Proofs.YtbdlbhlhnpblpaaGreatDoor.WlK
open Go Am Am.K WlEnv Sg SegPrim SgN SgK StC SegSort
set_option linter.unusedVariables false
set_option linter.unusedSimpArgs false
set_option maxRecDepth 10000
set_option maxHeartbeats 4000000
theorem bl_of2 {H:Hp} {x:AV} {d:D} (h:Is H (.slice 1 (.slice 1 (.int .u8))) [x] d):∃ ls,Bl H x ls∧∀ b∈ls,(∀ v∈b,v < 256)∧b.length≤140737488355328:=by
 cases h with
 | @slice _ _ _ cs ds hr hl hd=>
  obtain ⟨ls,h1,h2⟩:=pick_list (fun j (b:List Nat)=>(∃ y,cs[j]? = some y∧Rw H 1 y (bs b))∧(∀ v∈b,v < 256)∧b.length≤140737488355328) ds.length (fun j hj=>by
   have hs:=hd j _ (List.getElem?_eq_getElem hj)
   obtain ⟨y,b,e,h2,h3,h4⟩:=is_b2 hs
   refine ⟨b,⟨y,?_,h2⟩,h3,Nat.le_trans h4 (by decide)⟩
   have:=congrArg (fun z=>z[0]?) e
   simp only [List.getElem?_cons_zero,List.getElem?_take,List.getElem?_drop,Nat.mul_one,Nat.add_zero] at this
   split at this
   ·exact this.symm
   ·cases this)
  refine ⟨ls,⟨cs,hr,by rw [hl,h1,Nat.mul_one],fun j b hb=>(h2 j b hb).1⟩,fun b hb => ?_⟩
  obtain ⟨j,hj⟩:=List.mem_iff_getElem?.1 hb
  exact (h2 j b hj).2
theorem rcE_at (e:Nat) (l:List (List Nat)) (i j:Nat) (r:Nat × List Nat) (h:(rcE e i l)[j]? = some r):∃ b,l[j]? = some b∧r=(e * 17592186044416 + (i + j),b):=by
 have hj:=(List.getElem?_eq_some_iff.1 h).1
 rw [rcE_len] at hj
 refine ⟨l[j],List.getElem?_eq_getElem hj,?_⟩
 have:=rcE_get e l i j l[j] (List.getElem?_eq_getElem hj)
 rw [h] at this
 exact Option.some.inj this
theorem rcE_take (e:Nat):∀ (l:List (List Nat)) (i n:Nat),(rcE e i l).take n=rcE e i (l.take n)
 | [],i,n=>by simp [rcE]
 | b::l,i,0=>by simp [rcE]
 | b::l,i,n + 1=>by rw [rcE,List.take_succ_cons,List.take_succ_cons,rcE,rcE_take e l (i + 1) n]
theorem pw_const:∀ (X:List (Nat × List Nat)) (c:Nat),(∀ r∈X,r.1 / 17592186044416=c)→(X.map (fun r=>r.1 / 17592186044416)).Pairwise (fun a b:Nat=>a≤b)
 | [],c,h => .nil
 | x::X,c,h=>by
  rw [List.map_cons,List.pairwise_cons]
  refine ⟨fun z hz => ?_,pw_const X c fun r hr=>h r (.tail _ hr)⟩
  obtain ⟨r,hr,rfl⟩:=List.mem_map.1 hz
  rw [h x (.head _),h r (.tail _ hr)]
  exact Nat.le_refl _
theorem rcE_ep {e i:Nat} {l:List (List Nat)} (hb:i + l.length≤1000):∀ r∈rcE e i l,r.1 / 17592186044416=e:=fun r hr=>by
 obtain ⟨k,h1,h2,h3⟩:=rcE_mem e l i r hr
 omega
theorem rp_two {A B:List (List Nat)} {c:Nat} (hc:c=A.length) (hA:A.length≤15) (hB:B.length≤10) (h:∀ b,b∈A∨b∈B→b.length≤1024∧∀ v∈b,v < 256):Rp (rcE 1 0 A++rcE 2 c B) where
 len:=by rw [List.length_append,rcE_len,rcE_len]; omega
 at':=fun i r hi=>by
  by_cases hlt:i < A.length
  ·rw [List.getElem?_append_left (by rw [rcE_len]; exact hlt)] at hi
   obtain ⟨b,h1,rfl⟩:=rcE_at _ _ _ _ _ hi
   simp only
   omega
  ·rw [List.getElem?_append_right (by rw [rcE_len]; omega),rcE_len] at hi
   have hl:=(List.getElem?_eq_some_iff.1 hi).1
   rw [rcE_len] at hl
   obtain ⟨b,h1,rfl⟩:=rcE_at _ _ _ _ _ hi
   simp only
   omega
 pay:=fun r hr=>by
  rcases List.mem_append.1 hr with hr | hr
  ·obtain ⟨k,h1,h2,h3⟩:=rcE_mem _ _ _ r hr
   exact h _ (.inl h3)
  ·obtain ⟨k,h1,h2,h3⟩:=rcE_mem _ _ _ r hr
   exact h _ (.inr h3)
 ord:=by
  have e1:=rcE_ep (e:=1) (i:=0) (l:=A) (by omega)
  have e2:=rcE_ep (e:=2) (i:=c) (l:=B) (by omega)
  rw [List.map_append,List.pairwise_append]
  refine ⟨pw_const _ 1 e1,pw_const _ 2 e2,fun a ha b hb => ?_⟩
  obtain ⟨r,hr,rfl⟩:=List.mem_map.1 ha
  obtain ⟨q,hq,rfl⟩:=List.mem_map.1 hb
  rw [e1 r hr,e2 q hq]
  decide
theorem ep_le {m:LM} {R:List (Nat × List Nat)} (hR:m.recs=R) {ep:Nat} (h:∀ r∈R,r.1 / 17592186044416≤ep):epM m≤((ep:Nat):Int):=by
 unfold epM
 rw [hR]
 cases hq:R.getLast? with
 | none=>simp
 | some z=>have:=h z (List.mem_of_getLast? hq); simp only; omega
theorem cu_loop {H0 : Hp} {x a1 a2 sp : AV} {ls : List (List Nat)} {lp p : Nat} (hx : Bl H0 x ls) (hb : ∀ b ∈ ls, (∀ v ∈ b, v < 256) ∧ b.length ≤ 140737488355328) (hl : ls.length ≤ 15) (hT : hasT H0 begin0) (hn : 11 ≤ H0.next) :
    ∀ (r : List (List Nat)) (i : Nat) (m : LM) (l : LP) (H : Hp) (ss : List Sm), ls.drop i = r → i ≤ ls.length → Out [] H0 H → Lg H lp p m l → (∀ j ∈ lf lp p l, H0.next ≤ j) → Wf m ss → m.recs = rcE 1 0 (ls.take i) → (∀ b ∈ ls.take i, b.length ≤ 1024) → m.m.room = 65536 → m.most = 120 →
    (∃ H', ∀ k : K.Fn 5, l_outriderlaw7_WalCuts JN GO cK k x a1 a2 (.ptr lp 0) sp (.int .i64 (i : Nat)) H = some (.bool true, H')) ∨
    ∃ m' l' H' ss', (∀ k : K.Fn 5, l_outriderlaw7_WalCuts JN GO cK k x a1 a2 (.ptr lp 0) sp (.int .i64 (i : Nat)) H = k x a1 a2 (.ptr lp 0) sp H') ∧ Out [] H0 H' ∧ Lg H' lp p m' l' ∧ (∀ j ∈ lf lp p l', H0.next ≤ j) ∧ Wf m' ss' ∧ m'.recs = rcE 1 0 ls ∧ m'.m.room = 65536 ∧ m'.most = 120 ∧ ∀ b ∈ ls, b.length ≤ 1024
  | [], i, m, l, H, ss, hr, hi, ho, h, hf, hw, hR, hle, hroom, hmost => by
    have hil : i = ls.length := by have : ls.length ≤ i := by simpa using hr
                                   omega
    have hxl := (hx.out ho).lenc
    have d : decide (((i : Nat) : Int) < ((ls.length : Nat) : Int)) = false := decide_eq_false (by omega)
    rw [hil, List.take_length] at hR hle
    refine .inr ⟨m, l, H, ss, fun k => ?_, ho, h, hf, hw, hR, hroom, hmost, hle⟩
    rw [ql_outriderlaw7_WalCuts]
    simp only [hxl, d, k_s, k_x, Int.reduceBEq, Int.reduceBNe, Int.reduceLT, Int.reduceLE, Int.reduceGT, Int.reduceGE, Int.reduceNeg]
  | b :: r, i, m, l, H, ss, hr, hi, ho, h, hf, hw, hR, hle, hroom, hmost => by
    obtain ⟨hi', hv, hr'⟩ := K.hd_drop hr
    have hx1 := hx.out ho
    have hxl := hx1.lenc
    have d : decide (((i : Nat) : Int) < ((ls.length : Nat) : Int)) = true := decide_eq_true (by omega)
    obtain ⟨q, y, u1, u2, u3⟩ := hx1.at hv
    have hmem := List.mem_of_getElem? hv
    have hRl : (rcE 1 0 (ls.take i)).length = i := by rw [rcE_len, List.length_take]; omega
    have hRp : Rp (rcE 1 0 (ls.take i)) := by
      have := rp_two (A := ls.take i) (B := []) rfl (by rw [List.length_take]; omega) (Nat.zero_le _) (fun c hc => by
        rcases hc with hc | hc
        · exact ⟨hle c hc, (hb c (List.mem_of_mem_take hc)).1⟩
        · cases hc)
      rw [rcE, List.append_nil] at this
      exact this
    have hord : ∀ r ∈ rcE 1 0 (ls.take i), r.1 / 17592186044416 ≤ 1 := fun r hr => Nat.le_of_eq (rcE_ep (by rw [List.length_take]; omega) r hr)
    have hs := hw.small hR hRp
    by_cases hbig : 1024 < b.length
    · have hE : endM m = ((i : Nat) : Int) := by unfold endM; rw [hw.first, hR, hRl]; omega
      obtain ⟨H1, e1, e2⟩ := append_big h hs (ep := 1) (E := i) u3 hbig (hb b hmem).2 (ep_le hR hord) (by decide) hE (by omega)
      obtain ⟨q', y', u1', u2', u3'⟩ := (hx1.out e2).at hv
      rw [u1] at u1'
      cases u1'
      have hyl := u3'.len1
      rw [bs_len] at hyl
      have d2 : decide ((1024 : Int) < ((b.length : Nat) : Int)) = true := decide_eq_true (by omega)
      rw [show (((1 : Nat) : Int)) = 1 from rfl] at e1
      refine .inl ⟨H1, fun k => ?_⟩
      rw [ql_outriderlaw7_WalCuts]
      simp only [hxl, d, u1, u2, e1, u2', hyl, d2, k_s, k_x, Int.reduceBEq, Int.reduceBNe, Int.reduceLT, Int.reduceLE, Int.reduceGT, Int.reduceGE, Int.reduceNeg]
    · obtain ⟨H1, l1, m1, ss1, a, a1', a2', a3', a4, a5, a6, a7⟩ := ap_step h (hasT_out hT hn ho) (Nat.le_trans hn ho.1) hw hR hRp (by rw [hRl]; omega) (ep := 1) (by decide) hord hroom hmost u3 (hb b hmem).1 (by omega)
      have hR1 : m1.recs = rcE 1 0 (ls.take (i + 1)) := by
        rw [a5, hRl, take_s hv, rcE_app, List.length_take, Nat.min_eq_left (by omega), Nat.zero_add]
      have ho1 : Out [] H0 H1 := ho.then a3'.1 fun j hj => .inr (hf j hj)
      have hf1 : ∀ j ∈ lf lp p l1, H0.next ≤ j := fun j hj => (a3'.2 j hj).elim (hf j) fun q => Nat.le_trans ho.1 q
      have e3 : IntKind.wrap .i64 (((i : Nat) : Int) + 1) = ((i + 1 : Nat) : Int) := by rw [wrap_i64 (by omega) (by omega)]; rfl
      rw [show (((1 : Nat) : Int)) = 1 from rfl] at a1'
      have hle1 : ∀ c ∈ ls.take (i + 1), c.length ≤ 1024 := fun c hc => by
        rw [take_s hv] at hc
        rcases List.mem_append.1 hc with hc | hc
        · exact hle c hc
        · rw [List.mem_singleton] at hc; subst hc; omega
      rcases cu_loop (a1 := a1) (a2 := a2) (sp := sp) hx hb hl hT hn r (i + 1) m1 l1 H1 ss1 hr' (by omega) ho1 a2' hf1 a4 hR1 hle1 a6 a7 with ⟨H2, k1⟩ | ⟨m2, l2, H2, ss2, k1, k2⟩
      · refine .inl ⟨H2, fun k => ?_⟩
        rw [ql_outriderlaw7_WalCuts]
        (simp only [hxl, d, u1, u2, a1', e3, k_s, k_x, Int.reduceBEq, Int.reduceBNe, Int.reduceLT, Int.reduceLE, Int.reduceGT, Int.reduceGE, Int.reduceNeg]; exact k1 k)
      · refine .inr ⟨m2, l2, H2, ss2, fun k => ?_, k2⟩
        rw [ql_outriderlaw7_WalCuts]
        (simp only [hxl, d, u1, u2, a1', e3, k_s, k_x, Int.reduceBEq, Int.reduceBNe, Int.reduceLT, Int.reduceLE, Int.reduceGT, Int.reduceGE, Int.reduceNeg]; exact k1 k)
theorem cu_loop1 {H0 : Hp} {a0 a1 x sp : AV} {A ls : List (List Nat)} {lp p : Nat} (hx : Bl H0 x ls) (hb : ∀ b ∈ ls, (∀ v ∈ b, v < 256) ∧ b.length ≤ 140737488355328) (hl : ls.length ≤ 10) (hA : A.length ≤ 15) (hAp : ∀ b ∈ A, b.length ≤ 1024 ∧ ∀ v ∈ b, v < 256) (hT : hasT H0 begin0) (hn : 11 ≤ H0.next) :
    ∀ (r : List (List Nat)) (i : Nat) (m : LM) (l : LP) (H : Hp) (ss : List Sm), ls.drop i = r → i ≤ ls.length → Out [] H0 H → Lg H lp p m l → (∀ j ∈ lf lp p l, H0.next ≤ j) → Wf m ss → m.recs = rcE 1 0 A ++ rcE 2 A.length (ls.take i) → (∀ b ∈ ls.take i, b.length ≤ 1024) → m.m.room = 65536 → m.most = 120 →
    (∃ H', ∀ k : K.Fn 5, l_outriderlaw7_WalCuts1 JN GO cK k a0 a1 x (.ptr lp 0) sp (.int .i64 (i : Nat)) H = some (.bool true, H')) ∨
    ∃ m' l' H' ss', (∀ k : K.Fn 5, l_outriderlaw7_WalCuts1 JN GO cK k a0 a1 x (.ptr lp 0) sp (.int .i64 (i : Nat)) H = k a0 a1 x (.ptr lp 0) sp H') ∧ Out [] H0 H' ∧ Lg H' lp p m' l' ∧ (∀ j ∈ lf lp p l', H0.next ≤ j) ∧ Wf m' ss' ∧ m'.recs = rcE 1 0 A ++ rcE 2 A.length ls ∧ m'.m.room = 65536 ∧ m'.most = 120 ∧ ∀ b ∈ ls, b.length ≤ 1024
  | [], i, m, l, H, ss, hr, hi, ho, h, hf, hw, hR, hle, hroom, hmost => by
    have hil : i = ls.length := by have : ls.length ≤ i := by simpa using hr
                                   omega
    have hxl := (hx.out ho).lenc
    have d : decide (((i : Nat) : Int) < ((ls.length : Nat) : Int)) = false := decide_eq_false (by omega)
    rw [hil, List.take_length] at hR hle
    refine .inr ⟨m, l, H, ss, fun k => ?_, ho, h, hf, hw, hR, hroom, hmost, hle⟩
    rw [ql_outriderlaw7_WalCuts1]
    simp only [hxl, d, k_s, k_x, Int.reduceBEq, Int.reduceBNe, Int.reduceLT, Int.reduceLE, Int.reduceGT, Int.reduceGE, Int.reduceNeg]
  | b :: r, i, m, l, H, ss, hr, hi, ho, h, hf, hw, hR, hle, hroom, hmost => by
    obtain ⟨hi', hv, hr'⟩ := K.hd_drop hr
    have hx1 := hx.out ho
    have hxl := hx1.lenc
    have d : decide (((i : Nat) : Int) < ((ls.length : Nat) : Int)) = true := decide_eq_true (by omega)
    obtain ⟨q, y, u1, u2, u3⟩ := hx1.at hv
    have hmem := List.mem_of_getElem? hv
    have hRl : (rcE 1 0 A ++ rcE 2 A.length (ls.take i)).length = A.length + i := by rw [List.length_append, rcE_len, rcE_len, List.length_take]; omega
    have hRp : Rp (rcE 1 0 A ++ rcE 2 A.length (ls.take i)) := rp_two rfl hA (by rw [List.length_take]; omega) (fun c hc => by
        rcases hc with hc | hc
        · exact hAp c hc
        · exact ⟨hle c hc, (hb c (List.mem_of_mem_take hc)).1⟩)
    have hord : ∀ r ∈ rcE 1 0 A ++ rcE 2 A.length (ls.take i), r.1 / 17592186044416 ≤ 2 := fun r hr => (hRp.lt r hr).2
    have hs := hw.small hR hRp
    by_cases hbig : 1024 < b.length
    · have hE : endM m = ((A.length + i : Nat) : Int) := by unfold endM; rw [hw.first, hR, hRl]; omega
      obtain ⟨H1, e1, e2⟩ := append_big h hs (ep := 2) (E := A.length + i) u3 hbig (hb b hmem).2 (ep_le hR hord) (by decide) hE (by omega)
      obtain ⟨q', y', u1', u2', u3'⟩ := (hx1.out e2).at hv
      rw [u1] at u1'
      cases u1'
      have hyl := u3'.len1
      rw [bs_len] at hyl
      have d2 : decide ((1024 : Int) < ((b.length : Nat) : Int)) = true := decide_eq_true (by omega)
      rw [show (((2 : Nat) : Int)) = 2 from rfl] at e1
      refine .inl ⟨H1, fun k => ?_⟩
      rw [ql_outriderlaw7_WalCuts1]
      simp only [hxl, d, u1, u2, e1, u2', hyl, d2, k_s, k_x, Int.reduceBEq, Int.reduceBNe, Int.reduceLT, Int.reduceLE, Int.reduceGT, Int.reduceGE, Int.reduceNeg]
    · obtain ⟨H1, l1, m1, ss1, a, a1', a2', a3', a4, a5, a6, a7⟩ := ap_step h (hasT_out hT hn ho) (Nat.le_trans hn ho.1) hw hR hRp (by rw [hRl]; omega) (ep := 2) (by decide) hord hroom hmost u3 (hb b hmem).1 (by omega)
      have hR1 : m1.recs = rcE 1 0 A ++ rcE 2 A.length (ls.take (i + 1)) := by
        rw [a5, hRl, take_s hv, rcE_app, List.length_take, Nat.min_eq_left (by omega), List.append_assoc]
      have ho1 : Out [] H0 H1 := ho.then a3'.1 fun j hj => .inr (hf j hj)
      have hf1 : ∀ j ∈ lf lp p l1, H0.next ≤ j := fun j hj => (a3'.2 j hj).elim (hf j) fun q => Nat.le_trans ho.1 q
      have e3 : IntKind.wrap .i64 (((i : Nat) : Int) + 1) = ((i + 1 : Nat) : Int) := by rw [wrap_i64 (by omega) (by omega)]; rfl
      rw [show (((2 : Nat) : Int)) = 2 from rfl] at a1'
      have hle1 : ∀ c ∈ ls.take (i + 1), c.length ≤ 1024 := fun c hc => by
        rw [take_s hv] at hc
        rcases List.mem_append.1 hc with hc | hc
        · exact hle c hc
        · rw [List.mem_singleton] at hc; subst hc; omega
      rcases cu_loop1 (a0 := a0) (a1 := a1) (sp := sp) hx hb hl hA hAp hT hn r (i + 1) m1 l1 H1 ss1 hr' (by omega) ho1 a2' hf1 a4 hR1 hle1 a6 a7 with ⟨H2, k1⟩ | ⟨m2, l2, H2, ss2, k1, k2⟩
      · refine .inl ⟨H2, fun k => ?_⟩
        rw [ql_outriderlaw7_WalCuts1]
        (simp only [hxl, d, u1, u2, a1', e3, k_s, k_x, Int.reduceBEq, Int.reduceBNe, Int.reduceLT, Int.reduceLE, Int.reduceGT, Int.reduceGE, Int.reduceNeg]; exact k1 k)
      · refine .inr ⟨m2, l2, H2, ss2, fun k => ?_, k2⟩
        rw [ql_outriderlaw7_WalCuts1]
        (simp only [hxl, d, u1, u2, a1', e3, k_s, k_x, Int.reduceBEq, Int.reduceBNe, Int.reduceLT, Int.reduceLE, Int.reduceGT, Int.reduceGE, Int.reduceNeg]; exact k1 k)
end Go.Proofs.YtbdlbhlhnpblpaaGreatDoor.WlK
namespace Go.Proofs.YtbdlbhlhnpblpaaGreatDoor.WlK
open Go Am Am.K WlEnv Sg SegPrim SgN SgK StC SegSort
set_option linter.unusedVariables false
set_option linter.unusedSimpArgs false
set_option maxRecDepth 10000
set_option maxHeartbeats 8000000
theorem chain_at:∀ (a:List Sm) (e:Nat) (s:Sm) (r:List Sm),chain e (a++s::r)→s.first=e + (recsOf a).length
 | [],e,s,r,h=>by have:=h.1; simp only [recsOf,List.flatMap_nil,List.length_nil]; omega
 | c::a,e,s,r,h=>by
  have:=chain_at a _ s r h.2.2
  have e1:(recsOf (c::a)).length=c.rs.length + (recsOf a).length:=by simp [recsOf]
  omega
theorem epOf_nat (R:List (Nat × List Nat)):∃ ep:Nat,epOf R=((ep:Nat):Int)∧(ep=0∨∃ z∈R,z.1 / 17592186044416=ep):=by
 unfold epOf
 cases hq:R.getLast? with
 | none=>exact ⟨0,rfl,.inl rfl⟩
 | some z=>exact ⟨_,rfl,.inr ⟨z,List.mem_of_getLast? hq,rfl⟩⟩
theorem scan_of {ss:List Sm} {R:List (Nat × List Nat)} (hc:chain 0 ss) (hR:recsOf ss=R) (hp:Rp R) (a:List Sm) (s:Sm) (r:List Sm) (hs:ss=a++s::r):scanM (fb s.rs).length (fb s.rs) (s.first:Nat) (epOf (recsOf a))=(s.rs,(fb s.rs).length):=by
 subst hs
 have hf:=chain_at a 0 s r hc
 rw [Nat.zero_add] at hf
 have hRe:R=recsOf a++(s.rs++recsOf r):=by rw [← hR,recsOf_app]; simp [recsOf]
 have hl:=hp.len
 rw [hRe,List.length_append,List.length_append] at hl
 obtain ⟨ep,e1,e2⟩:=epOf_nat (recsOf a)
 rw [e1]
 have ho:=hp.ord
 rw [hRe,List.map_append,List.map_append,List.pairwise_append] at ho
 obtain ⟨o1,o2,o3⟩:=ho
 rw [List.pairwise_append] at o2
 refine scan_fb s.rs _ s.first ep (fun q hq=>(hp.pay q (by rw [hRe]; simp [hq])).1) (len_le_fb s.rs) (by omega) (fun i q hq => ?_) ?_
 ·have hi:=(List.getElem?_eq_some_iff.1 hq).1
  have hg:R[(recsOf a).length + i]? = some q:=by
   rw [hRe,List.getElem?_append_right (by omega),Nat.add_sub_cancel_left,List.getElem?_append_left hi]
   exact hq
  have h1:=hp.at' _ q hg
  have h2:=hp.lt q (List.mem_of_getElem? hg)
  exact ⟨by rw [hf]; exact h1.1,h2.1⟩
 ·rw [List.pairwise_cons]
  refine ⟨fun z hz => ?_,o2.1⟩
  rcases e2 with e2 | ⟨w,hw,e2⟩
  ·omega
  ·rw [← e2]
   exact o3 _ (List.mem_map.2 ⟨w,hw,rfl⟩) z (List.mem_append_left _ hz)
theorem fb_byte:∀ R:List (Nat × List Nat),(∀ r∈R,∀ v∈r.2,v < 256)→∀ v∈fb R,v < 256
 | [],h,v,hv=>by cases hv
 | r::R,h,v,hv=>by
  rw [fb] at hv
  rcases List.mem_append.1 hv with hv | hv
  ·exact fr_byte (h r (.head _)) v hv
  ·exact fb_byte R (fun q hq=>h q (.tail _ hq)) v hv
theorem recs_of_mem {ss:List Sm} {s:Sm} (h:s∈ss):∀ r∈s.rs,r∈recsOf ss:=fun r hr=>List.mem_flatMap.2 ⟨s,h,hr⟩
theorem rs_len {ss:List Sm} {s:Sm} (h:s∈ss):s.rs.length≤(recsOf ss).length:=by
 obtain ⟨a,b,rfl⟩:=List.append_of_mem h
 rw [recsOf_app]
 simp [recsOf]
 omega
theorem crashF_id:∀ (ns:List (List Nat)) (kl:List Int) (fs:List Fl),(∀ f∈fs,f.b.length=f.sure)→crashF ns kl fs=fs
 | [],kl,fs,h=>rfl
 | n::ns,kl,fs,h=>by
  unfold crashF
  split
  ·rfl
  ·rename_i f hf
   rw [if_pos (h f (List.mem_of_find?_eq_some hf))]
   exact crashF_id ns kl fs h
theorem syS_recs (ss:List Sm):recsOf (ss.map syS)=recsOf ss:=by simp [recsOf,syS,List.flatMap_map]
theorem syS_sure (ss:List Sm):∀ f∈(ss.map syS).map sF,f.b.length=f.sure:=fun f hf=>by
 obtain ⟨s,hs,rfl⟩:=List.mem_map.1 hf
 obtain ⟨t,ht,rfl⟩:=List.mem_map.1 hs
 simp only [sF,syS]
theorem cu_loop2 {x y:AV} {ls ms:List (List Nat)} {c lp p:Nat} {m:LM} {l:LP} (hb:∀ b∈ls,∀ v∈b,v < 256) (hbm:∀ b∈ms,∀ v∈b,v < 256) (hc:c≤ls.length) (hc2:c≤15) (hml:ms.length≤10) (hle:∀ b∈ls.take c,b.length≤1024) (hlm:∀ b∈ms,b.length≤1024)
  (hs:Small m) (hm:m.first=0) (hR:m.recs=rcE 1 0 (ls.take c)++rcE 2 c ms):∀ (n i:Nat) (H:Hp),n=c + ms.length - i→Lg H lp p m l→Bl H x ls→Bl H y ms→
  ∃ H',∀ k:K.Fn 0,l_outriderlaw7_WalCuts2 JN GO cK k x (.int .i64 (c:Nat)) y (.ptr lp 0) (.int .i64 (i:Nat)) H=k H'
 | n,i,H,hn,h,hx,hy=>by
  have e2:=end_c h hs
  have hAl:(ls.take c).length=c:=by rw [List.length_take]; omega
  have hE:endM m=((c + ms.length:Nat):Int):=by unfold endM; rw [hm,hR,List.length_append,rcE_len,rcE_len,hAl]; omega
  rw [hE] at e2
  by_cases hi:c + ms.length≤i
  ·have d:decide (((i:Nat):Int) < ((c + ms.length:Nat):Int))=false:=decide_eq_false (by omega)
   refine ⟨H,fun k => ?_⟩
   rw [ql_outriderlaw7_WalCuts2]
   simp only [e2,d,k_s,k_x,Int.reduceBEq,Int.reduceBNe,Int.reduceLT,Int.reduceLE,Int.reduceGT,Int.reduceGE,Int.reduceNeg]
  have d:decide (((i:Nat):Int) < ((c + ms.length:Nat):Int))=true:=decide_eq_true (by omega)
  have e3:IntKind.wrap .i64 (((i:Nat):Int) + 1)=((i + 1:Nat):Int):=by rw [wrap_i64 (by omega) (by omega)]; rfl
  by_cases hic:i < c
  ·obtain ⟨b,hbv⟩:∃ b,ls[i]? = some b:=⟨_,List.getElem?_eq_getElem (by omega)⟩
   have hbt:(ls.take c)[i]? = some b:=by rw [List.getElem?_take,if_pos hic]; exact hbv
   have hr:m.recs[i]? = some (1 * 17592186044416 + (0 + i),b):=by
    rw [hR,List.getElem?_append_left (by rw [rcE_len]; omega)]
    exact rcE_get 1 _ 0 i b hbt
   have hby:=hb b (List.mem_of_getElem? hbv)
   have hbl:=hle b (List.mem_of_getElem? hbt)
   obtain ⟨xg,H1,g1,g2,g3,g4⟩:=wget_c h hs hr (by simp only; omega)
   rw [hm,Int.zero_add] at g1
   simp only at g1 g2
   obtain ⟨a,hAe⟩:∃ a:Nat,1 * 17592186044416 + (0 + i)=a:=⟨_,rfl⟩
   have ha1:a / 17592186044416=1:=by omega
   have ha2:a < 18446744073709551616:=by omega
   rw [hAe] at g1
   obtain ⟨H2,n1,n2,n3,n4⟩:=newCells_ok H1 [.int .u64 0,.slice0] 37 0 (by simp)
   obtain ⟨H3,t1,t2,t3,t4⟩:=st_all (n:=2) n2 (by omega) (cells_rec g2 ((a:Nat):Int)) rfl rfl (by
    intro v hv
    rcases List.mem_cons.1 hv with rfl | hv
    ·rfl
    ·rcases List.mem_cons.1 hv with rfl | hv
     ·exact one_rw g2
     ·cases hv)
   have o3:Out [] H1 H3:=n3.then t3 fun j hj=>by rw [List.mem_singleton] at hj; exact .inr (by omega)
   have oH:Out [] H H3:=g3.trans o3
   have l0:ld (.ptr H1.next 0) H3=some (.int .u64 ((a:Nat):Int)):=t2.ld rfl
   have l1:ld (.ptr H1.next 1) H3=some xg:=t2.ld rfl
   have hx3:=hx.out oH
   have hy3:=hy.out oH
   have sg:=b2s_ok (g2.out o3 fun j _ q=>by cases q) hby
   obtain ⟨q,yl,v1,v2,v3⟩:=hx3.at hbv
   have sl:=b2s_ok v3 hby
   have ep:=epoch_c (H:=H3) a ha2
   rw [ha1] at ep
   have d2:decide (((i:Nat):Int) < ((c:Nat):Int))=true:=decide_eq_true (by omega)
   have d3:decide (((c:Nat):Int)≤((i:Nat):Int))=false:=decide_eq_false (by omega)
   rw [show (((1:Nat):Int))=1 from rfl] at ep
   obtain ⟨H4,k1⟩:=cu_loop2 hb hbm hc hc2 hml hle hlm hs hm hR (n - 1) (i + 1) H3 (by omega) (h.out0 oH) hx3 hy3
   refine ⟨H4,fun k => ?_⟩
   rw [ql_outriderlaw7_WalCuts2]
   simp only [e2,d,g1,n1,t1,l0,l1,sg,v1,v2,sl,ep,d2,d3,e3,k1,k_s,k_x,Int.reduceBEq,Int.reduceBNe,Int.reduceLT,Int.reduceLE,Int.reduceGT,Int.reduceGE,Int.reduceNeg]
  ·have hw2:((i:Nat):Int) - ((c:Nat):Int)=((i - c:Nat):Int):=by omega
   obtain ⟨b,hbv⟩:∃ b,ms[i - c]? = some b:=⟨_,List.getElem?_eq_getElem (by omega)⟩
   have hr:m.recs[i]? = some (2 * 17592186044416 + (c + (i - c)),b):=by
    rw [hR,List.getElem?_append_right (by rw [rcE_len]; omega),rcE_len,hAl]
    exact rcE_get 2 _ c (i - c) b hbv
   have hby:=hbm b (List.mem_of_getElem? hbv)
   have hbl:=hlm b (List.mem_of_getElem? hbv)
   obtain ⟨xg,H1,g1,g2,g3,g4⟩:=wget_c h hs hr (by simp only; omega)
   rw [hm,Int.zero_add] at g1
   simp only at g1 g2
   obtain ⟨a,hAe⟩:∃ a:Nat,2 * 17592186044416 + (c + (i - c))=a:=⟨_,rfl⟩
   have ha1:a / 17592186044416=2:=by omega
   have ha2:a < 18446744073709551616:=by omega
   rw [hAe] at g1
   obtain ⟨H2,n1,n2,n3,n4⟩:=newCells_ok H1 [.int .u64 0,.slice0] 37 0 (by simp)
   obtain ⟨H3,t1,t2,t3,t4⟩:=st_all (n:=2) n2 (by omega) (cells_rec g2 ((a:Nat):Int)) rfl rfl (by
    intro v hv
    rcases List.mem_cons.1 hv with rfl | hv
    ·rfl
    ·rcases List.mem_cons.1 hv with rfl | hv
     ·exact one_rw g2
     ·cases hv)
   have o3:Out [] H1 H3:=n3.then t3 fun j hj=>by rw [List.mem_singleton] at hj; exact .inr (by omega)
   have oH:Out [] H H3:=g3.trans o3
   have l0:ld (.ptr H1.next 0) H3=some (.int .u64 ((a:Nat):Int)):=t2.ld rfl
   have l1:ld (.ptr H1.next 1) H3=some xg:=t2.ld rfl
   have hx3:=hx.out oH
   have hy3:=hy.out oH
   have sg:=b2s_ok (g2.out o3 fun j _ q=>by cases q) hby
   obtain ⟨q,yl,v1,v2,v3⟩:=hy3.at hbv
   have sl:=b2s_ok v3 hby
   have ep:=epoch_c (H:=H3) a ha2
   rw [ha1] at ep
   have d2:decide (((i:Nat):Int) < ((c:Nat):Int))=false:=decide_eq_false (by omega)
   have d3:decide (((c:Nat):Int)≤((i:Nat):Int))=true:=decide_eq_true (by omega)
   have w2:IntKind.wrap .i64 (((i:Nat):Int) - ((c:Nat):Int))=((i - c:Nat):Int):=by rw [hw2]; exact wrap_i64 (by omega) (by omega)
   rw [show (((2:Nat):Int))=2 from rfl] at ep
   obtain ⟨H4,k1⟩:=cu_loop2 hb hbm hc hc2 hml hle hlm hs hm hR (n - 1) (i + 1) H3 (by omega) (h.out0 oH) hx3 hy3
   refine ⟨H4,fun k => ?_⟩
   rw [ql_outriderlaw7_WalCuts2]
   simp only [e2,d,g1,n1,t1,l0,l1,sg,v1,v2,sl,ep,d2,d3,w2,e3,k1,k_s,k_x,Int.reduceBEq,Int.reduceBNe,Int.reduceLT,Int.reduceLE,Int.reduceGT,Int.reduceGE,Int.reduceNeg]
termination_by n i H hn=>c + ms.length - i
theorem wcuts_law {H:Hp} {x y:AV} {ls ms:List (List Nat)} {cut:Int} (hx:Bl H x ls) (hy:Bl H y ms) (hb:∀ b∈ls,(∀ v∈b,v < 256)∧b.length≤140737488355328) (hbm:∀ b∈ms,(∀ v∈b,v < 256)∧b.length≤140737488355328) (hT:hasT H begin0) (hn:11≤H.next) :
  ∃ H',cK (.func (.func 4) [] []) [x,.int .i64 cut,y] H=some (.bool true,H'):=by
 have hA:=awake_c an hT hn
 have hxl:=hx.lenc
 have hyl:=hy.lenc
 by_cases h1:15 < ls.length
 ·have d1:decide ((15:Int) < ((ls.length:Nat):Int))=true:=decide_eq_true (by omega)
  refine ⟨H,c_outriderlaw7_WalCuts ?_⟩
  unfold s_outriderlaw7_WalCuts
  simp only [hA,hxl,d1,k_s,k_x,Int.reduceBEq,Int.reduceBNe,Int.reduceLT,Int.reduceLE,Int.reduceGT,Int.reduceGE,Int.reduceNeg]
 have d1:decide ((15:Int) < ((ls.length:Nat):Int))=false:=decide_eq_false (by omega)
 by_cases h2:10 < ms.length
 ·have d2:decide ((10:Int) < ((ms.length:Nat):Int))=true:=decide_eq_true (by omega)
  refine ⟨H,c_outriderlaw7_WalCuts ?_⟩
  unfold s_outriderlaw7_WalCuts
  simp only [hA,hxl,hyl,d1,d2,k_s,k_x,Int.reduceBEq,Int.reduceBNe,Int.reduceLT,Int.reduceLE,Int.reduceGT,Int.reduceGE,Int.reduceNeg]
 have d2:decide ((10:Int) < ((ms.length:Nat):Int))=false:=decide_eq_false (by omega)
 by_cases h3:cut < 0
 ·have d3:decide (cut < 0)=true:=decide_eq_true h3
  refine ⟨H,c_outriderlaw7_WalCuts ?_⟩
  unfold s_outriderlaw7_WalCuts
  simp only [hA,hxl,hyl,d1,d2,d3,k_s,k_x,Int.reduceBEq,Int.reduceBNe,Int.reduceLT,Int.reduceLE,Int.reduceGT,Int.reduceGE,Int.reduceNeg]
 have d3:decide (cut < 0)=false:=decide_eq_false h3
 by_cases h4:((ls.length:Nat):Int) < cut
 ·have d4:decide (((ls.length:Nat):Int) < cut)=true:=decide_eq_true h4
  refine ⟨H,c_outriderlaw7_WalCuts ?_⟩
  unfold s_outriderlaw7_WalCuts
  simp only [hA,hxl,hyl,d1,d2,d3,d4,k_s,k_x,Int.reduceBEq,Int.reduceBNe,Int.reduceLT,Int.reduceLE,Int.reduceGT,Int.reduceGE,Int.reduceNeg]
 have d4:decide (((ls.length:Nat):Int) < cut)=false:=decide_eq_false h4
 obtain ⟨c,rfl⟩:∃ c:Nat,cut=((c:Nat):Int):=⟨cut.toNat,by omega⟩
 obtain ⟨lp,p,l,H1,b1,b2,b3,b4⟩:=begun_c hT hn (most:=120) (by decide) (by decide)
 have hw0:Wf (newM 65536 120) []:=⟨rfl,rfl,rfl,rfl,trivial,rfl,rfl⟩
 rcases cu_loop (a1 := .int .i64 ((c:Nat):Int)) (a2:=y) (sp := .ptr p 0) hx hb (by omega) hT hn ls 0 _ l H1 [] rfl (Nat.zero_le _) b3 b2 b4 hw0 (by simp [newM,rcE]) (by simp) rfl rfl with ⟨H2,k1⟩ | ⟨m2,l2,H2,ss2,k1,o2,k3,f2,w2,r2,room2,most2,le2⟩
 ·rw [show (((0:Nat):Int))=0 from rfl] at k1
  refine ⟨H2,c_outriderlaw7_WalCuts ?_⟩
  unfold s_outriderlaw7_WalCuts
  simp only [hA,hxl,hyl,d1,d2,d3,d4,b1,k1,k_s,k_x,Int.reduceBEq,Int.reduceBNe,Int.reduceLT,Int.reduceLE,Int.reduceGT,Int.reduceGE,Int.reduceNeg]
 rw [show (((0:Nat):Int))=0 from rfl] at k1
 have hRp2:Rp (rcE 1 0 ls):=by
  have:=rp_two (A:=ls) (B:=[]) rfl (by omega) (Nat.zero_le _) (fun c hc=>by
   rcases hc with hc | hc
   ·exact ⟨le2 c hc,(hb c hc).1⟩
   ·cases hc)
  rw [rcE,List.append_nil] at this
  exact this
 have hs2:=w2.small r2 hRp2
 have hge2:∀ j∈lf lp p l2,11≤j:=fun j hj=>Nat.le_trans hn (f2 j hj)
 obtain ⟨H3,l3,m3,t1,t2,t3,t4⟩:=wcut_c k3 hs2 (hasT_out hT hn o2) (Nat.le_trans hn o2.1) hge2 w2 (off:=c) (by rw [r2,rcE_len]; omega) (fun r hr=>by rw [r2] at hr; have:=(hRp2.pay r hr).1; omega)
 obtain ⟨ch3,rc3⟩:=cutL_wf (off:=c) ss2.reverse (by rw [List.reverse_reverse]; exact w2.chain) (by rw [List.reverse_reverse,← w2.recs,r2,rcE_len]; omega)
 rw [List.reverse_reverse,← w2.recs,r2,rcE_take] at rc3
 have w3:Wf m3 (cutL c ss2.reverse).reverse:=⟨by rw [t4.cm],t4.cparts,t4.crecs,t4.cfirst.trans w2.first,ch3,by rw [t4.cm]; exact w2.off,by rw [t4.cm]; exact w2.fuse⟩
 generalize (cutL c ss2.reverse).reverse=ss3 at *
 have r3:m3.recs=rcE 1 0 (ls.take c)++rcE 2 (ls.take c).length (ms.take 0):=by rw [t4.crecs,rc3,List.take_zero,rcE,List.append_nil]
 have o3:Out [] H H3:=o2.then t3.1 fun j hj => .inr (f2 j hj)
 have f3:∀ j∈lf lp p l3,H.next≤j:=fun j hj=>(t3.2 j hj).elim (f2 j) fun q=>Nat.le_trans o2.1 q
 have hAl:(ls.take c).length=c:=by rw [List.length_take]; omega
 have hAp:∀ b∈ls.take c,b.length≤1024∧∀ v∈b,v < 256:=fun b hb'=>⟨le2 b (List.mem_of_mem_take hb'),(hb b (List.mem_of_mem_take hb')).1⟩
 rcases cu_loop1 (a0:=x) (a1 := .int .i64 ((c:Nat):Int)) (sp := .ptr p 0) hy hbm (by omega) (A:=ls.take c) (by omega) hAp hT hn ms 0 m3 l3 H3 ss3 rfl (Nat.zero_le _) o3 t2 f3 w3 r3 (by simp) (by rw [t4.cm]; exact room2) (t4.cmost.trans most2) with ⟨H4,k4⟩ | ⟨m4,l4,H4,ss4,k4,o4,g4,f4,w4,r4,room4,most4,le4⟩
 ·rw [show (((0:Nat):Int))=0 from rfl] at k4
  refine ⟨H4,c_outriderlaw7_WalCuts ?_⟩
  unfold s_outriderlaw7_WalCuts
  simp only [hA,hxl,hyl,d1,d2,d3,d4,b1,k1,t1,k4,k_s,k_x,Int.reduceBEq,Int.reduceBNe,Int.reduceLT,Int.reduceLE,Int.reduceGT,Int.reduceGE,Int.reduceNeg]
 rw [show (((0:Nat):Int))=0 from rfl] at k4
 rw [hAl] at r4
 have hRp4:Rp (rcE 1 0 (ls.take c)++rcE 2 c ms):=rp_two hAl.symm (by omega) (by omega) (fun b hb'=>by
  rcases hb' with hb' | hb'
  ·exact hAp b hb'
  ·exact ⟨le4 b hb',(hbm b hb').1⟩)
 have hs4:=w4.small r4 hRp4
 have hge4:∀ j∈lf lp p l4,11≤j:=fun j hj=>Nat.le_trans hn (f4 j hj)
 obtain ⟨H5,l5,m5,u1,u2,u3,w5,room5,most5⟩:=wsync_c g4 hs4 (hasT_out hT hn o4) (Nat.le_trans hn o4.1) hge4 w4
 have o5:Out [] H H5:=o4.then u3.1 fun j hj => .inr (f4 j hj)
 have f5:∀ j∈lf lp p l5,H.next≤j:=fun j hj=>(u3.2 j hj).elim (f4 j) fun q=>Nat.le_trans o4.1 q
 have f5s:∀ j∈foot p l5.L,H.next≤j:=fun j hj=>f5 j (lf_st hj)
 obtain ⟨H6,L6,v1,v2,v3⟩:=crash_c u2.st (kv := .slice0) (kl:=[]) .nil fun j hj=>by cases hj
 have o6:Out [] H H6:=o5.then v3.1 fun j hj => .inr (f5s j hj)
 have f6:∀ j∈foot p L6,H.next≤j:=fun j hj=>(v3.2 j hj).elim (f5s j) fun q=>Nat.le_trans o5.1 q
 obtain ⟨H7,x1,x2,x3⟩:=on_c v2
 have o7:Out [] H H7:=o6.then x3.1 fun j hj => .inr (f6 j hj)
 have hcr:(crashM m5.m []).fs=(ss4.map syS).map sF∧(crashM m5.m []).fuse=0:=by
  unfold crashM
  rw [if_neg (by rw [w5.off]; decide)]
  exact ⟨by show crashF _ _ m5.m.fs=_; rw [w5.fs,crashF_id _ _ _ (syS_sure ss4)],rfl⟩
 have hrc:recsOf (ss4.map syS)=rcE 1 0 (ls.take c)++rcE 2 c ms:=by rw [syS_recs,← w4.recs,r4]
 have hfbl:∀ s∈ss4.map syS,(fb s.rs).length≤1000000:=fun s hs=>by
  have h1:=fb_le s.rs fun r hr=>(hRp4.pay r (hrc ▸ recs_of_mem hs r hr)).1
  have h2:=rs_len hs
  rw [hrc] at h2
  have:=hRp4.len
  omega
 have hsl:=chain_len _ 0 w5.chain
 rw [hrc] at hsl
 have hl4:=hRp4.len
 obtain ⟨lp8,l8,H8,v8,y1,y2,y3⟩:=open_c x2 (hasT_out hT hn o7) (Nat.le_trans hn o7.1) (fun j hj=>Nat.le_trans hn (f6 j hj)) (most:=120) (by decide) (by decide) rfl hcr.2 (ss:=ss4.map syS) hcr.1 w5.chain (fun a s r hsr=>scan_of w5.chain hrc hRp4 a s r hsr)
  (fun s hs=>fb_byte s.rs fun r hr=>(hRp4.pay r (hrc ▸ recs_of_mem hs r hr)).2) hfbl (by omega) (by rw [hrc]; omega) (fun r hr=>(hRp4.lt r (hrc ▸ hr)).1)
 rw [hrc] at y2
 have o8:Out [] H H8:=o7.then y3 fun j hj => .inr (f6 j hj)
 generalize hM:(⟨120,_,(ss4.map syS).map sP,rcE 1 0 (ls.take c)++rcE 2 c ms,0,v8⟩:LM)=m8 at y2
 have hm8:m8.first=0∧m8.recs=rcE 1 0 (ls.take c)++rcE 2 c ms∧m8.parts=(ss4.map syS).map sP:=by rw [← hM]; exact ⟨rfl,rfl,rfl⟩
 have hs8:Small m8:=⟨by rw [hm8.1]; omega,by rw [hm8.2.1]; omega,fun r hr=>(hRp4.lt r (hm8.2.1 ▸ hr)).1,by rw [hm8.2.2,List.length_map]; omega,fun q hq=>by
  rw [hm8.2.2] at hq
  obtain ⟨s,hs,rfl⟩:=List.mem_map.1 hq
  have:=hfbl s hs
  simp only [sP]
  omega⟩
 have e8:=end_c y2 hs8
 have hE8:endM m8=((c + ms.length:Nat):Int):=by unfold endM; rw [hm8.1,hm8.2.1,List.length_append,rcE_len,rcE_len,hAl]; omega
 rw [hE8] at e8
 have w8:IntKind.wrap .i64 (((c:Nat):Int) + ((ms.length:Nat):Int))=((c + ms.length:Nat):Int):=by rw [wrap_i64 (by omega) (by omega)]; rfl
 have hyl8:=(hy.out o8).lenc
 obtain ⟨H9,k9⟩:=cu_loop2 (x:=x) (y:=y) (ls:=ls) (ms:=ms) (c:=c) (fun b hb'=>(hb b hb').1) (fun b hb'=>(hbm b hb').1) (by omega) (by omega) (by omega) (fun b hb'=>(hAp b hb').1) le4 hs8 hm8.1 hm8.2.1 _ 0 H8 rfl y2 (hx.out o8) (hy.out o8)
 rw [show (((0:Nat):Int))=0 from rfl] at k9
 refine ⟨H9,c_outriderlaw7_WalCuts ?_⟩
 unfold s_outriderlaw7_WalCuts
 simp only [hA,hxl,hyl,d1,d2,d3,d4,b1,k1,t1,k4,u1,v1,x1,y1,e8,hyl8,w8,k9,k_s,k_x,Int.reduceBEq,Int.reduceBNe,Int.reduceLT,Int.reduceLE,Int.reduceGT,Int.reduceGE,Int.reduceNeg]
theorem wcuts_top {H:Hp} {as':List AV} {ds:List D} (h:ArgsIs H [.slice 1 (.slice 1 (.int .u8)),.int .i64,.slice 1 (.slice 1 (.int .u8))] as' ds) (hT:hasT H begin0) (hn:11≤H.next) :
  ∃ H',cK (.func (.func 4) [] []) as' H=some (.bool true,H'):=by
 cases h with
 | cons h0 h=>
 cases h with
 | cons h1 h=>
 cases h with
 | cons h2 h=>
 cases h
 obtain ⟨ls,hx,hb⟩:=bl_of2 (isA_row h0)
 obtain ⟨cut,rfl,_⟩:=isA_int h1
 obtain ⟨ms,hy,hbm⟩:=bl_of2 (isA_row h2)
 exact wcuts_law hx hy hb hbm hT hn
end Go.Proofs.YtbdlbhlhnpblpaaGreatDoor.WlK
namespace Go.Proofs.YtbdlbhlhnpblpaaGreatDoor.Hand
open Go
set_option linter.unusedVariables false
theorem size_open {P:Program} {w:World} (h:w.ShapedOpen P) {g:Nat} (hg:g + 1=P.globals.size) (hr:(((begin P (fun _ _=>0) default).world.heap[g]?).bind Obj.row?).isSome=true):P.globals.size≤w.heap.size:=by
 obtain ⟨⟨zero,t⟩,hr⟩:=Option.isSome_iff_exists.1 hr
 obtain ⟨cs,hc,_⟩:=h.1 g zero t (by omega) hr
 have:=(Array.getElem?_eq_some_iff.1 hc).1
 omega
variable {H:Type} {enc:TypeId × Value→H}
theorem handed {a:Assume} {C:Checked} {os:Os} {f:FuncId} {fn:Func} {s:ChangeSpec} {conds:List PathCond} {apart fresh handsOn again:Bool} {X:World→Array Value→Prop} {g:Nat}
  (hg:g + 1=C.prog.globals.size) (hr:(((begin C.prog (fun _ _=>0) default).world.heap[g]?).bind Obj.row?).isSome=true)
  (hX:∀ (w w':World) (args:Array Value),w.heap=w'.heap→X w args→X w' args)
  (own:ownKnob C.prog.godebug=none) (started:os.Started) (noInit:C.prog.inits.idxOf? f=none) (hfn:C.prog.funcs[f]? = some fn)
  (witness:∃ (w:World) (tape:Tape) (i:Input),w.os=os∧(w.forCall tape i).Shaped C.prog∧i.vars=[]∧Input.okWide C.prog (w.forCall tape i) .any w.heap.size f i∧
   ((s.pre enc C.prog fn conds apart (w.forCall tape i).memory i.args∧X (w.forCall tape i).memory i.args)∧sizedMet enc C.prog fn (OpenSpec.ofChange s) apart (w.forCall tape i).memory i.args)∧a.holds C.prog (lone (Frame.enter C.prog f i.args .normal) [] (w.forCall tape i)))
  (contract:∀ (W:World) (base:Nat) (args:Array Value) (ds gs:List (DataW H)) (before:List MemPlace),C.prog.globals.size≤W.heap.size→
   (∀ (j:Nat) t v,fn.params[j]? = some t→args[j]? = some v→Value.okWide C.prog W .any base t v)→
   DataW.Whole enc C.prog fn.params.toList s.vars apart W args.toList ds gs before→
   conds.all (PathCond.test C.prog ⟨fn.params.toList,ds,s.plain.varTypes C.prog,gs⟩)=true→
   (DataW.weightsEach C.prog (fn.params.toList++s.plain.varTypes C.prog) (ds++gs)).all (·≤reachBytes)=true→X W args→
   a.holds C.prog (lone (Frame.enter C.prog f args .normal) [] W)→
   Calls C.prog f args W fun e W'=>∃ v,e = .returned v∧s.post enc C.prog fn apart fresh handsOn again W args v W') :
  ReturnsInHanded a C os f .any (fun w args=>(s.pre enc C.prog fn conds apart w args∧X w args)∧sizedMet enc C.prog fn (OpenSpec.ofChange s) apart w args) (s.post enc C.prog fn apart fresh handsOn again):=
 returnsInHanded_of_calls own started noInit witness fun w tape i _ hsh _ hok hpre hholds=>by
  obtain ⟨_,_,_,fn',hfn',_,_,_,_,hval⟩:=hok
  obtain rfl:fn'=fn:=Option.some.inj (hfn'.symm.trans hfn)
  obtain ⟨⟨⟨ds,gs,before,hw,hc⟩,hx⟩,hz⟩:=hpre
  refine (contract (w.forCall tape i) w.heap.size i.args ds gs before (size_open hsh hg hr) hval (DataW.Whole.of_heap (w':=w.forCall tape i) (by rfl) hw) hc (hz.weights hw) (hX _ _ _ (by rfl) hx) hholds).mono fun e W' hp => ?_
  obtain ⟨v,rfl,hp⟩:=hp
  exact ChangeSpec.post_blind hp
end Go.Proofs.YtbdlbhlhnpblpaaGreatDoor.Hand
