/- What package flow's From does, as a contract over the symbolic heap. Conditions: as each states them. -/
import Derived.Test.YtkhhnpkmblldbaaGreatDoorDfD6
import Derived.Handed
import Derived.Test.YtkhhnpkmblldbaaGreatDoorProg
namespace Go.Proofs.YtkhhnpkmblldbaaGreatDoor.DfK
open Go Am Am.K DfEnv DfM LibP DfG
set_option linter.unusedVariables false
set_option linter.unusedSimpArgs false
set_option maxRecDepth 10000
set_option maxHeartbeats 2000000
def okK (f:Fm) (x:Ke):Bool:=decide (1≤x.2) && (decide (x.2≤(f.rns.length:Int)) && ((f.rns[(x.2 - 1).toNat]?.map (·.2) == some x.1.1) && (!(x.1.2 == []) && (decide (x.1.2.length≤16) && (getK f.ks x.1).isNone))))
def f3M:Fm→List Ke→Option Fm
 | f,[]=>some f
 | f,x::r=>bif okK f x then f3M { f with ks:=f.ks++[x] } r else none
theorem from2_loop {sp p:Nat} {sa:SA} {S:SS} (hn:S.ks.length≤128):∀ (r:List Ke) (i:Nat) (H:Hp) (a:FA) (f:Fm),i≤S.ks.length→S.ks.drop i=r→SV sp H sa S→FL H p a f→f.rns.length≤64→(∀ j∈own p a,sp < j)→sp < H.next→f.ks.length≤i→
  ∃ a' H',(∀ j347:K.Fn 1,l_flow_From2 JN GO cK j347 (.ptr p 0) sa.kx (.int .i64 (S.ks.length:Nat)) (.int .i64 (i:Nat)) H=match f3M f r with | none=>some (.tuple [.ptr0,.int .i64 2],H') | some _=>j347 (.ptr p 0) H')∧∀ f',f3M f r=some f'→FL H' p a' f'∧FSt H H' p a a'
 | [],i,H,a,f,hi,h,hS,hF,hrn,ho,hsp,hk=>by
  obtain rfl:=drop_nil hi h
  refine ⟨a,H,fun j347 => ?_,fun f' h' => ?_⟩
  ·rw [ql_flow_From2]
   simp only [bl_flow_From2,lt_f,f3M,k_s,k_x,simprocAttr]
  ·cases h'; exact ⟨hF,FSt.same (Out.refl _ _) p a⟩
 | x::r,i,H,a,f,hi,h,hS,hF,hrn,ho,hsp,hk=>by
  obtain ⟨h1,h2,h3⟩:=hd_drop h
  have es:=wrap_s h1 (by omega)
  obtain ⟨b,o,q1,q2,q3,q4,q5⟩:=hS.k.at (by decide) (i:=i) (c:=keC x) (by rw [List.getElem?_map,h2]; rfl)
  have hz:st 3 (.ptr H.next 0) (.agg (keC x)) (al H [(.str []),(.str []),(.int .i64 0)] 71 0)=some (al H (keC x) 71 0):=st_alN rfl rfl rfl (by decide) rfl
  have o1:=al_out H (keC x) 71 0
  have c1:=al_cs H (keC x) 71 0
  have n1:(al H (keC x) 71 0).next=H.next + 1:=rfl
  generalize hA1:al H (keC x) 71 0=H1 at *
  have e0:cellAt H1 H.next 0=some (.str x.1.1):=c1.cellAt rfl
  have e1:cellAt H1 H.next 1=some (.str x.1.2):=c1.cellAt rfl
  have e2:cellAt H1 H.next 2=some (.int .i64 x.2):=c1.cellAt rfl
  have ek:cellsAt H1 H.next 0 2=some (kyC x.1):=c1.cellsAt 2 0 (by simp [keC])
  have hF1:=hF.out0 o1
  have k3:cellAt H1 p 3=some a.rx:=hF1.c.cellAt rfl
  have k4:cellAt H1 p 4=some (.ptr a.kp 0):=hF1.c.cellAt rfl
  have hrl:=hF.rlen
  have base:∀ (j347:K.Fn 1),l_flow_From2 JN GO cK j347 (.ptr p 0) sa.kx (.int .i64 (S.ks.length:Nat)) (.int .i64 (i:Nat)) H=bl_flow_From2 JN GO cK j347 (l_flow_From2 JN GO cK j347) (.ptr p 0) sa.kx (.int .i64 (S.ks.length:Nat)) (.int .i64 (i:Nat)) H:=fun j347=>ql_flow_From2 cK j347 _ _ _ _ H
  have bad:okK f x=false→(∃ H',∀ (j347:K.Fn 1),bl_flow_From2 JN GO cK j347 (l_flow_From2 JN GO cK j347) (.ptr p 0) sa.kx (.int .i64 (S.ks.length:Nat)) (.int .i64 (i:Nat)) H=some (.tuple [.ptr0,.int .i64 2],H'))→∃ a' H',(∀ j347:K.Fn 1,l_flow_From2 JN GO cK j347 (.ptr p 0) sa.kx (.int .i64 (S.ks.length:Nat)) (.int .i64 (i:Nat)) H=match f3M f (x::r) with | none=>some (.tuple [.ptr0,.int .i64 2],H') | some _=>j347 (.ptr p 0) H')∧∀ f',f3M f (x::r)=some f'→FL H' p a' f'∧FSt H H' p a a':=by
   rintro hb ⟨H',hH⟩
   have hM:f3M f (x::r)=none:=by show (bif okK f x then _ else none)=none; rw [hb]; rfl
   exact ⟨a,H',fun j347=>by rw [base,hM,hH],fun f' h'=>by rw [hM] at h'; cases h'⟩
  by_cases g1:1≤x.2
  rotate_left
  ·have d1:decide (x.2 < 1)=true:=decide_eq_true (by omega)
   refine bad (by unfold okK; rw [decide_eq_false g1]; rfl) ⟨H1,fun j347 => ?_⟩
   simp (disch:=(first | assumption | omega | (simp only [k_d,k_c,simprocAttr] <;> fail) | (simp only [k_c]; omega) | (simp only [k_d,k_c,simprocAttr, *] <;> fail) | fail)) only [bl_flow_From2,lt_t h1,q1,q4,hz,hA1,e2,d1,k_a,k_b,k_s,k_x,simprocAttr]
  have d1:decide (x.2 < 1)=false:=decide_eq_false (by omega)
  by_cases g2:x.2≤(f.rns.length:Int)
  rotate_left
  ·have d2:decide (((f.rns.length:Nat):Int) < x.2)=true:=decide_eq_true (by omega)
   refine bad (by unfold okK; rw [decide_eq_false g2,Bool.false_and,Bool.and_false]) ⟨H1,fun j347 => ?_⟩
   simp (disch:=(first | assumption | omega | (simp only [k_d,k_c,simprocAttr] <;> fail) | (simp only [k_c]; omega) | (simp only [k_d,k_c,simprocAttr, *] <;> fail) | fail)) only [bl_flow_From2,lt_t h1,q1,q4,hz,hA1,e2,d1,k3,hrl,d2,k_a,k_b,k_s,k_x,simprocAttr]
  have d2:decide (((f.rns.length:Nat):Int) < x.2)=false:=decide_eq_false (by omega)
  obtain ⟨m,hm⟩:∃ m:Nat,x.2=(m:Int) + 1:=⟨(x.2 - 1).toNat,by omega⟩
  have hmi:(x.2 - 1).toNat=m:=by omega
  have hw:IntKind.wrap .i64 (x.2 - 1)=((m:Nat):Int):=by rw [hm,wrap_i64 (by omega) (by omega)]; omega
  have hml:m < f.rns.length:=by omega
  obtain ⟨y,hy⟩:∃ y,f.rns[m]? = some y:=⟨_,List.getElem?_eq_getElem hml⟩
  obtain ⟨ra,hra⟩:∃ ra,a.ras[m]? = some ra:=⟨_,List.getElem?_eq_getElem (by rw [hF.len]; exact hml)⟩
  obtain ⟨b',o',p1,p2,p3,p4,p5⟩:=hF1.r.rl.at (by decide) (rows_at hra hy)
  have pn:cellAt H1 b' (o' + 4)=some (.str y.2):=p5 4 _ rfl
  cases m3:(y.2 == x.1.1) with
  | false=>
   refine bad (by unfold okK; rw [hmi,hy]; simp [m3]) ⟨H1,fun j347 => ?_⟩
   simp (disch:=(first | assumption | omega | (simp only [k_d,k_c,simprocAttr] <;> fail) | (simp only [k_c]; omega) | (simp only [k_d,k_c,simprocAttr, *] <;> fail) | fail)) only [bl_flow_From2,lt_t h1,q1,q4,hz,hA1,e0,e2,d1,k3,hrl,d2,hw,p1,pn,m3,k_a,k_b,k_s,k_x,simprocAttr]
  | true=>
  cases m4:(x.1.2 == []) with
  | true=>
   refine bad (by unfold okK; rw [m4]; simp) ⟨H1,fun j347 => ?_⟩
   simp (disch:=(first | assumption | omega | (simp only [k_d,k_c,simprocAttr] <;> fail) | (simp only [k_c]; omega) | (simp only [k_d,k_c,simprocAttr, *] <;> fail) | fail)) only [bl_flow_From2,lt_t h1,q1,q4,hz,hA1,e0,e1,e2,d1,k3,hrl,d2,hw,p1,pn,m3,m4,k_a,k_b,k_s,k_x,simprocAttr]
  | false=>
  by_cases g5:x.1.2.length≤16
  rotate_left
  ·have d5:decide ((16:Int) < ((x.1.2.length:Nat):Int))=true:=decide_eq_true (by omega)
   refine bad (by unfold okK; rw [decide_eq_false g5]; simp) ⟨H1,fun j347 => ?_⟩
   simp (disch:=(first | assumption | omega | (simp only [k_d,k_c,simprocAttr] <;> fail) | (simp only [k_c]; omega) | (simp only [k_d,k_c,simprocAttr, *] <;> fail) | fail)) only [bl_flow_From2,lt_t h1,q1,q4,hz,hA1,e0,e1,e2,d1,k3,hrl,d2,hw,p1,pn,m3,m4,d5,k_a,k_b,k_s,k_x,simprocAttr]
  have d5:decide ((16:Int) < ((x.1.2.length:Nat):Int))=false:=decide_eq_false (by omega)
  cases hk6:getK f.ks x.1 with
  | some had=>
   obtain ⟨H2,t1,t2⟩:=keysPut_old hF1.k hk6 x.2
   refine bad (by unfold okK; rw [hk6]; simp) ⟨H2,fun j347 => ?_⟩
   simp (disch:=(first | assumption | omega | (simp only [k_d,k_c,simprocAttr] <;> fail) | (simp only [k_c]; omega) | (simp only [k_d,k_c,simprocAttr, *] <;> fail) | fail)) only [bl_flow_From2,lt_t h1,q1,q4,hz,hA1,e0,e1,e2,ek,d1,k3,k4,hrl,d2,hw,p1,pn,m3,m4,d5,t1,k_a,k_b,k_s,k_x,simprocAttr]
  | none=>
   obtain ⟨kl',H2,t1,t2,t3⟩:=hF1.putK (by omega) hk6 x.2
   have hok:okK f x=true:=by
    unfold okK
    rw [hmi,hy,hk6,m4,decide_eq_true g1,decide_eq_true g2,decide_eq_true g5]
    simp at m3
    simp [m3]
   have hM:f3M f (x::r)=f3M { f with ks:=f.ks++[x] } r:=by show (bif okK f x then _ else none)=_; rw [hok]; rfl
   have hFS:=FSt.end o1 t3
   have hle:∀ j∈own p a,sp≤j:=fun j hj=>Nat.le_of_lt (ho j hj)
   obtain ⟨a',H',i1,i2⟩:=from2_loop hn r (i + 1) H2 { a with kl:=kl' } { f with ks:=f.ks++[x] } h1 h3 (hS.out hFS.o hle) t2 hrn (fun j hj=>(hFS.w j hj).elim (ho j) fun q=>by omega) (Nat.lt_of_lt_of_le hsp hFS.o.1) (by show (f.ks++[x]).length≤_; rw [List.length_append]; simp; omega)
   refine ⟨a',H',fun j347 => ?_,fun f' h' => ?_⟩
   ·rw [base,hM,← i1 j347]
    simp (disch:=(first | assumption | omega | (simp only [k_d,k_c,simprocAttr] <;> fail) | (simp only [k_c]; omega) | (simp only [k_d,k_c,simprocAttr, *] <;> fail) | fail)) only [bl_flow_From2,lt_t h1,q1,q4,hz,hA1,e0,e1,e2,ek,d1,k3,k4,hrl,d2,hw,p1,pn,m3,m4,d5,t1,es,k_a,k_b,k_s,k_x,simprocAttr]
   ·rw [hM] at h'
    obtain ⟨z1,z2⟩:=i2 f' h'
    exact ⟨z1,hFS.trans z2⟩
def f0B (S:SS):Bool:=decide (S.ck < 0) || (decide (1099511627776 < S.ck) || (!(decide (S.nms.length=S.txs.length)) || (!(decide (S.rs.length=S.ofs.length)) || (decide (64 < S.rs.length) || decide (128 < S.ks.length)))))
noncomputable def fromM (S:SS):Option Fm:=
 bif f0B S then none else (f1M { fm0 with ck:=S.ck } (S.nms.zip S.txs)).bind fun f=>(f2M f (S.rs.zip S.ofs)).bind fun f=>f3M f S.ks
theorem f1M_rns:∀ (l:List (Str × Str)) (f f':Fm),f1M f l=some f'→f'.rns=f.rns∧f'.ks=f.ks
 | [],f,f',h=>by cases h; exact ⟨rfl,rfl⟩
 | x::r,f,f',h=>by
  unfold f1M at h
  split at h
  ·obtain ⟨a,b⟩:=f1M_rns r _ _ h
   have:(defineM f x.1 x.2).1.rns=f.rns∧(defineM f x.1 x.2).1.ks=f.ks:=by
    unfold defineM; split
    ·exact ⟨rfl,rfl⟩
    ·split
     ·exact ⟨rfl,rfl⟩
     ·split <;> exact ⟨rfl,rfl⟩
   exact ⟨a.trans this.1,b.trans this.2⟩
  ·cases h
theorem f2M_ks:∀ (l:List (Rn × Str)) (f f':Fm),f2M f l=some f'→f'.ks=f.ks∧f'.rns=f.rns++l∧f'.nms=f.nms∧f'.txs=f.txs∧f'.ck=f.ck
 | [],f,f',h=>by cases h; exact ⟨rfl,(List.append_nil _).symm,rfl,rfl,rfl⟩
 | x::r,f,f',h=>by
  unfold f2M at h
  split at h
  ·obtain ⟨a,b,c,d,e⟩:=f2M_ks r _ _ h
   exact ⟨a,by rw [b]; simp,c,d,e⟩
  ·cases h
theorem from_c {H:Hp} {sa:SA} {S:SS} (hS:SV H.next H sa S) (hg:Gl H) (hn1:S.nms.length≤1000) (hb:∀ R∈S.rs,R.rs.length≤1000∧R.sg.length≤1000) :
  ∃ p a H',cK (.func (.func 28) [] []) [.agg (stC sa S)] H=(match fromM S with | none=>some (.tuple [.ptr0,.int .i64 2],H') | some _=>some (.tuple [.ptr p 0,.int .i64 0],H'))∧∀ f,fromM S=some f→FL H' p a f∧Out [] H H'∧∀ j∈own p a,H.next≤j:=by
 have hbx:bx 56 (.agg (stC sa S)) H=some (H.next,al H (stC sa S) 56 0):=bx_alA (by simp [stC])
 have o1:=al_out H (stC sa S) 56 0
 have c1:=al_cs H (stC sa S) 56 0
 have n1:(al H (stC sa S) 56 0).next=H.next + 1:=rfl
 generalize hA1:al H (stC sa S) 56 0=H1 at *
 obtain ⟨p,a,H2,m1,m2,m3,m4,m5⟩:=flowNew_c (hg.out0 o1).nx
 have o2:=o1.trans m3
 have c2:=c1.out m3 (by simp)
 have k0:cellAt H2 H.next 0=some (.int .i64 S.ck):=c2.cellAt rfl
 have k1:cellAt H2 H.next 1=some sa.nx:=c2.cellAt rfl
 have k2:cellAt H2 H.next 2=some sa.tx:=c2.cellAt rfl
 have k3:cellAt H2 H.next 3=some sa.rx:=c2.cellAt rfl
 have k4:cellAt H2 H.next 4=some sa.ox:=c2.cellAt rfl
 have k5:cellAt H2 H.next 5=some sa.kx:=c2.cellAt rfl
 have l1:=hS.n.len1
 have l2:=hS.t.len1
 have l4:=hS.o.len1
 rw [strs_len] at l1 l2 l4
 have l3:=hS.r.len (by decide)
 rw [List.length_zipWith,hS.len,Nat.min_self] at l3
 have l5:=hS.k.len (by decide)
 rw [List.length_map] at l5
 have bad:f0B S=true→cK (.func (.func 28) [] []) [.agg (stC sa S)] H=some (.tuple [.ptr0,.int .i64 2],H2)→∃ p a H',cK (.func (.func 28) [] []) [.agg (stC sa S)] H=(match fromM S with | none=>some (.tuple [.ptr0,.int .i64 2],H') | some _=>some (.tuple [.ptr p 0,.int .i64 0],H'))∧∀ f,fromM S=some f→FL H' p a f∧Out [] H H'∧∀ j∈own p a,H.next≤j:=by
  intro hb hc
  have hM:fromM S=none:=by unfold fromM; rw [hb]; rfl
  exact ⟨p,a,H2,by rw [hM,hc],fun f h=>by rw [hM] at h; cases h⟩
 by_cases g1:S.ck < 0
 ·have d1:decide (S.ck < 0)=true:=decide_eq_true g1
  refine bad (by unfold f0B; rw [d1]; rfl) (c_flow_From ?_)
  unfold s_flow_From
  simp (disch:=(first | assumption | omega | (simp only [k_d,k_c,simprocAttr] <;> fail) | (simp only [k_c]; omega) | (simp only [k_d,k_c,simprocAttr, *] <;> fail) | fail)) only [hbx,hA1,m1,k0,d1,k_a,k_b,k_s,k_x,simprocAttr]
 have d1:decide (S.ck < 0)=false:=decide_eq_false g1
 by_cases g2:1099511627776 < S.ck
 ·have d2:decide (1099511627776 < S.ck)=true:=decide_eq_true g2
  refine bad (by unfold f0B; rw [d1,d2]; rfl) (c_flow_From ?_)
  unfold s_flow_From
  simp (disch:=(first | assumption | omega | (simp only [k_d,k_c,simprocAttr] <;> fail) | (simp only [k_c]; omega) | (simp only [k_d,k_c,simprocAttr, *] <;> fail) | fail)) only [hbx,hA1,m1,k0,d1,d2,k_a,k_b,k_s,k_x,simprocAttr]
 have d2:decide (1099511627776 < S.ck)=false:=decide_eq_false g2
 by_cases g3:S.nms.length=S.txs.length
 rotate_left
 ·have d3:(((S.nms.length:Nat):Int) != ((S.txs.length:Nat):Int))=true:=by simp; omega
  refine bad (by unfold f0B; rw [decide_eq_false g3]; simp) (c_flow_From ?_)
  unfold s_flow_From
  simp (disch:=(first | assumption | omega | (simp only [k_d,k_c,simprocAttr] <;> fail) | (simp only [k_c]; omega) | (simp only [k_d,k_c,simprocAttr, *] <;> fail) | fail)) only [hbx,hA1,m1,k0,k1,k2,l1,l2,d1,d2,d3,k_a,k_b,k_s,k_x,simprocAttr]
 have d3:(((S.nms.length:Nat):Int) != ((S.txs.length:Nat):Int))=false:=by simp; omega
 by_cases g4:S.rs.length=S.ofs.length
 rotate_left
 ·have d4:(((S.rs.length:Nat):Int) != ((S.ofs.length:Nat):Int))=true:=by simp; omega
  refine bad (by unfold f0B; rw [decide_eq_false g4]; simp) (c_flow_From ?_)
  unfold s_flow_From
  simp (disch:=(first | assumption | omega | (simp only [k_d,k_c,simprocAttr] <;> fail) | (simp only [k_c]; omega) | (simp only [k_d,k_c,simprocAttr, *] <;> fail) | fail)) only [hbx,hA1,m1,k0,k1,k2,k3,k4,l1,l2,l3,l4,d1,d2,d3,d4,k_a,k_b,k_s,k_x,simprocAttr]
 have d4:(((S.rs.length:Nat):Int) != ((S.ofs.length:Nat):Int))=false:=by simp; omega
 by_cases g5:64 < S.rs.length
 ·have d5:decide ((64:Int) < ((S.rs.length:Nat):Int))=true:=decide_eq_true (by omega)
  refine bad (by unfold f0B; rw [decide_eq_true g5]; simp) (c_flow_From ?_)
  unfold s_flow_From
  simp (disch:=(first | assumption | omega | (simp only [k_d,k_c,simprocAttr] <;> fail) | (simp only [k_c]; omega) | (simp only [k_d,k_c,simprocAttr, *] <;> fail) | fail)) only [hbx,hA1,m1,k0,k1,k2,k3,k4,l1,l2,l3,l4,d1,d2,d3,d4,d5,k_a,k_b,k_s,k_x,simprocAttr]
 have d5:decide ((64:Int) < ((S.rs.length:Nat):Int))=false:=decide_eq_false (by omega)
 by_cases g6:128 < S.ks.length
 ·have d6:decide ((128:Int) < ((S.ks.length:Nat):Int))=true:=decide_eq_true (by omega)
  refine bad (by unfold f0B; rw [decide_eq_true g6]; simp) (c_flow_From ?_)
  unfold s_flow_From
  simp (disch:=(first | assumption | omega | (simp only [k_d,k_c,simprocAttr] <;> fail) | (simp only [k_c]; omega) | (simp only [k_d,k_c,simprocAttr, *] <;> fail) | fail)) only [hbx,hA1,m1,k0,k1,k2,k3,k4,k5,l1,l2,l3,l4,l5,d1,d2,d3,d4,d5,d6,k_a,k_b,k_s,k_x,simprocAttr]
 have d6:decide ((128:Int) < ((S.ks.length:Nat):Int))=false:=decide_eq_false (by omega)
 have hf0:f0B S=false:=by
  unfold f0B
  rw [d1,d2,decide_eq_true g3,decide_eq_true g4,decide_eq_false g5,decide_eq_false g6]; rfl
 obtain ⟨H3,s1,s2,s3⟩:=m2.clock S.ck
 have hown:∀ j∈own p a,H.next < j:=fun j hj=>by have:=m4 j hj; omega
 have hle:∀ j∈own p a,H.next≤j:=fun j hj=>Nat.le_of_lt (hown j hj)
 have hne:H.next∉own p a:=fun z=>by have:=hown _ z; omega
 have O:∀ {X:Hp} {b:FA},FSt H2 X p a b→Out [] H X∧SV H.next X sa S∧Cs X H.next (stC sa S) 56 0∧Gl X∧∀ j∈own p b,H.next < j:=by
  intro X b k
  have ko:Out [] H X:=outNew o2 k.o hle
  refine ⟨ko,hS.out0 ko,c2.out k.o hne,hg.out0 ko,fun j hj=>(k.w j hj).elim (hown j) fun q => ?_⟩
  have:=m3.1; omega
 obtain ⟨O31,O32,O33,O34,O35⟩:=O s3
 have q1:cellAt H3 H.next 1=some sa.nx:=O33.cellAt rfl
 obtain ⟨a4,H4,i1,i2⟩:=from_loop (sp:=H.next) g3 hn1 (S.nms.zip S.txs) 0 H3 a _ (Nat.zero_le _) List.drop_zero O32 O33 s2 O34 O35 (Nat.zero_le _)
 rw [show (((0:Nat):Int))=0 from rfl] at i1
 have hM0:fromM S=(f1M { fm0 with ck:=S.ck } (S.nms.zip S.txs)).bind fun f=>(f2M f (S.rs.zip S.ofs)).bind fun f=>f3M f S.ks:=by unfold fromM; rw [hf0]; rfl
 cases hf1:f1M { fm0 with ck:=S.ck } (S.nms.zip S.txs) with
 | none=>
  simp only [hf1] at i1
  have hM:fromM S=none:=by rw [hM0,hf1]; rfl
  refine ⟨p,a,H4,?_,fun f h=>by rw [hM] at h; cases h⟩
  rw [hM]
  refine c_flow_From ?_
  unfold s_flow_From
  simp (disch:=(first | assumption | omega | (simp only [k_d,k_c,simprocAttr] <;> fail) | (simp only [k_c]; omega) | (simp only [k_d,k_c,simprocAttr, *] <;> fail) | fail)) only [hbx,hA1,m1,k0,k1,k2,k3,k4,k5,l1,l2,l3,l4,l5,d1,d2,d3,d4,d5,d6,s1,q1,i1,k_a,k_b,k_s,k_x,simprocAttr]
 | some f1=>
 simp only [hf1] at i1
 obtain ⟨t1,t2,t3⟩:=i2 f1 hf1
 obtain ⟨O41,O42,O43,O44,O45⟩:=O (s3.trans t2)
 have q3:cellAt H4 H.next 3=some sa.rx:=O43.cellAt rfl
 obtain ⟨r1,r2⟩:=f1M_rns _ _ _ hf1
 have r1':f1.rns=[]:=r1
 have r2':f1.ks=[]:=r2
 obtain ⟨a5,H5,j1,j2⟩:=from1_loop (sp:=H.next) g4 (by omega) hb (S.rs.zip S.ofs) 0 H4 a4 f1 (Nat.zero_le _) List.drop_zero O42 O43 t1 O44 O45 (by rw [r1']; exact Nat.le_refl _)
 rw [show (((0:Nat):Int))=0 from rfl] at j1
 cases hf2:f2M f1 (S.rs.zip S.ofs) with
 | none=>
  simp only [hf2] at j1
  have hM:fromM S=none:=by rw [hM0,hf1,Option.bind_some,hf2]; rfl
  refine ⟨p,a,H5,?_,fun f h=>by rw [hM] at h; cases h⟩
  rw [hM]
  refine c_flow_From ?_
  unfold s_flow_From
  simp (disch:=(first | assumption | omega | (simp only [k_d,k_c,simprocAttr] <;> fail) | (simp only [k_c]; omega) | (simp only [k_d,k_c,simprocAttr, *] <;> fail) | fail)) only [hbx,hA1,m1,k0,k1,k2,k3,k4,k5,l1,l2,l3,l4,l5,d1,d2,d3,d4,d5,d6,s1,q1,i1,q3,j1,k_a,k_b,k_s,k_x,simprocAttr]
 | some f2=>
 simp only [hf2] at j1
 obtain ⟨u1,u2⟩:=j2 f2 hf2
 obtain ⟨O51,O52,O53,O54,O55⟩:=O ((s3.trans t2).trans u2)
 have q5:cellAt H5 H.next 5=some sa.kx:=O53.cellAt rfl
 obtain ⟨v1,v2,v3,v4,v5⟩:=f2M_ks _ _ _ hf2
 obtain ⟨a6,H6,w1,w2⟩:=from2_loop (sp:=H.next) (p:=p) (by omega) S.ks 0 H5 a5 f2 (Nat.zero_le _) List.drop_zero O52 u1 (by rw [v2,r1',List.nil_append,List.length_zip]; omega) O55 O53.1 (by rw [v1,r2']; exact Nat.le_refl _)
 rw [show (((0:Nat):Int))=0 from rfl] at w1
 have hM2:fromM S=f3M f2 S.ks:=by rw [hM0,hf1,Option.bind_some,hf2,Option.bind_some]
 cases hf3:f3M f2 S.ks with
 | none=>
  simp only [hf3] at w1
  refine ⟨p,a,H6,?_,fun f h=>by rw [hM2,hf3] at h; cases h⟩
  rw [hM2,hf3]
  refine c_flow_From ?_
  unfold s_flow_From
  simp (disch:=(first | assumption | omega | (simp only [k_d,k_c,simprocAttr] <;> fail) | (simp only [k_c]; omega) | (simp only [k_d,k_c,simprocAttr, *] <;> fail) | fail)) only [hbx,hA1,m1,k0,k1,k2,k3,k4,k5,l1,l2,l3,l4,l5,d1,d2,d3,d4,d5,d6,s1,q1,i1,q3,j1,q5,w1,k_a,k_b,k_s,k_x,simprocAttr]
 | some f3=>
 simp only [hf3] at w1
 obtain ⟨x1,x2⟩:=w2 f3 hf3
 obtain ⟨O61,O62,O63,O64,O65⟩:=O (((s3.trans t2).trans u2).trans x2)
 refine ⟨p,a6,H6,?_,fun f h => ?_⟩
 ·rw [hM2,hf3]
  refine c_flow_From ?_
  unfold s_flow_From
  simp (disch:=(first | assumption | omega | (simp only [k_d,k_c,simprocAttr] <;> fail) | (simp only [k_c]; omega) | (simp only [k_d,k_c,simprocAttr, *] <;> fail) | fail)) only [hbx,hA1,m1,k0,k1,k2,k3,k4,k5,l1,l2,l3,l4,l5,d1,d2,d3,d4,d5,d6,s1,q1,i1,q3,j1,q5,w1,k_a,k_b,k_s,k_x,simprocAttr]
 ·rw [hM2,hf3] at h
  cases h
  exact ⟨x1,O61,fun j hj=>Nat.le_of_lt (O65 j hj)⟩
def slotS (q:Nat) (a:SA):List (List Nat):=[[q],rid a.tx,rid a.rx,rid a.ox,rid a.nx++(rid a.kx++a.ras.flatMap RA.fp)]
structure SB (N:Nat) (H:Hp) (q:Nat) (a:SA) (S:SS):Prop where
 c:Cs H q (stC a S) 56 0
 n:Rw H 1 a.nx (strs S.nms)
 t:Ow H 9 1 a.tx (strs S.txs)
 r:OL H 62 4 a.rx (List.zipWith runC a.ras S.rs)
 v:∀ (i:Nat) (r:RA) (R:Rn),a.ras[i]? = some r→S.rs[i]? = some R→RV H r.dx r.xs r.tx r.sx R
 len:a.ras.length=S.rs.length
 o:Ow H 9 1 a.ox (strs S.ofs)
 k:RL H 3 a.kx (S.ks.map keC)
 dj:(slotS q a).Pairwise Dj
 fr:∀ l∈slotS q a,∀ j∈l,N≤j
 lt:∀ l∈slotS q a,∀ j∈l,j < H.next
theorem mem4 {q:Nat} {a:SA} {j:Nat} (h:j∈rid a.nx∨j∈rid a.kx∨j∈a.ras.flatMap RA.fp):j∈rid a.nx++(rid a.kx++a.ras.flatMap RA.fp):=by
 rcases h with h | h | h
 ·exact List.mem_append_left _ h
 ·exact List.mem_append_right _ (List.mem_append_left _ h)
 ·exact List.mem_append_right _ (List.mem_append_right _ h)
theorem SB.part {N:Nat} {H H':Hp} {q:Nat} {a:SA} {S:SS} {T:List Nat} {i:Nat} (h:SB N H q a S) (k:Out T H H') (hT:(slotS q a)[i]? = some T) :
  (i≠0→Cs H' q (stC a S) 56 0)∧(i≠1→Ow H' 9 1 a.tx (strs S.txs))∧(i≠2→OL H' 62 4 a.rx (List.zipWith runC a.ras S.rs))∧(i≠3→Ow H' 9 1 a.ox (strs S.ofs))∧
  (i≠4→Rw H' 1 a.nx (strs S.nms)∧RL H' 3 a.kx (S.ks.map keC)∧∀ (i:Nat) (r:RA) (R:Rn),a.ras[i]? = some r→S.rs[i]? = some R→RV H' r.dx r.xs r.tx r.sx R):=by
 have sep:∀ {j:Nat} {l:List Nat},i≠j→(slotS q a)[j]? = some l→∀ x∈l,x∉T:=fun hij hl=>(dj_at h.dj hij hT hl).symm
 refine ⟨fun hi=>h.c.out k (sep hi rfl q (.head _)),fun hi=>h.t.out k (sep hi rfl),fun hi=>h.r.out k (sep hi rfl),fun hi=>h.o.out k (sep hi rfl),fun hi=>⟨h.n.out k fun j hj=>sep hi rfl j (mem4 (q:=q) (.inl hj)),h.k.out k fun j hj=>sep hi rfl j (mem4 (q:=q) (.inr (.inl hj))),fun i r R hr hR=>(h.v i r R hr hR).out k fun j hj=>sep hi rfl j (mem4 (q:=q) (.inr (.inr (List.mem_flatMap.2 ⟨r,List.mem_of_getElem? hr,hj⟩))))⟩⟩
theorem SB.out0 {N:Nat} {H H':Hp} {q:Nat} {a:SA} {S:SS} (h:SB N H q a S) (k:Out [] H H'):SB N H' q a S:=
 ⟨h.c.out k (by simp),h.n.out0 k,h.t.out k fun j hj=>by simp,h.r.out k fun j hj=>by simp,fun i r R hr hR=>(h.v i r R hr hR).out0 k,h.len,h.o.out k fun j hj=>by simp,h.k.out0 k,h.dj,h.fr,fun l hl j hj=>Nat.lt_of_lt_of_le (h.lt l hl j hj) k.1⟩
theorem SB.put {N:Nat} {H H':Hp} {q:Nat} {a a':SA} {S S':SS} {i o:Nat} {T T':List Nat} {v:AV} (h:SB N H q a S) (k:Out T H H') (hi:i≠0) (hT:(slotS q a)[i]? = some T) (hs:slotS q a'=(slotS q a).set i T') (hT':∀ j∈T',j∈T∨H.next≤j) (hlt:∀ j∈T',j < H'.next) (hN:N≤H.next) (ho:o < 6) (hv:oneC v=true) (hst:(stC a S).set o v=stC a' S') :
  ∃ H2,st 1 (.ptr q o) v H'=some H2∧Cs H2 q (stC a' S') 56 0∧Out [q] H' H2∧(slotS q a').Pairwise Dj∧(∀ l∈slotS q a',∀ j∈l,N≤j)∧(∀ l∈slotS q a',∀ j∈l,j < H2.next)∧(∀ j∈T,N≤j)∧N≤q∧∀ {j:Nat} {l:List Nat},0≠j→(slotS q a')[j]? = some l→∀ x∈l,x∉[q]:=by
 obtain ⟨p0,_⟩:=h.part k hT
 obtain ⟨H2,s1,s2,s3,s4⟩:=st1 (p0 hi) (by decide) (o:=o) (by simpa [stC] using ho) (v:=v) hv
 have hdj:(slotS q a').Pairwise Dj:=by rw [hs]; exact dj_set h.dj hT h.lt hT'
 have hTm:=List.mem_of_getElem? hT
 have h0:(slotS q a')[0]? = some [q]:=rfl
 refine ⟨H2,s1,by rw [← hst]; exact s2,s3,hdj,fun l hl j hj => ?_,fun l hl j hj => ?_,h.fr T hTm,h.fr [q] (.head _) q (.head _),fun hij hl=>(dj_at hdj hij h0 hl).symm⟩
 ·rw [hs] at hl
  rcases List.mem_or_eq_of_mem_set hl with z | rfl
  ·exact h.fr l z j hj
  ·exact (hT' j hj).elim (h.fr T hTm j) fun z=>by omega
 ·rw [hs] at hl
  have:=s3.1
  rcases List.mem_or_eq_of_mem_set hl with z | rfl
  ·have:=h.lt l z j hj; have:=k.1; omega
  ·have:=hlt j hj; omega
theorem SB.pushT {N:Nat} {H:Hp} {q:Nat} {a:SA} {S:SS} (h:SB N H q a S) (hN:N≤H.next) (s:Str) (hn:S.txs.length≤1000) :
  ∃ tx' H1 H2 T,(∀ i,i=H.next→app' 9 1 [(.str [])] false a.tx (.slice i 0 1 1 true 1) (al H [.str s] 9 0)=some (tx',H1))∧st 1 (.ptr q 2) tx' H1=some H2∧SB N H2 q { a with tx:=tx' } { S with txs:=S.txs++[s] }∧Out T H H2∧∀ j∈T,∃ l∈slotS q a,j∈l:=by
 obtain ⟨tx',H1,p1,p2,p3,p4,p5⟩:=push_ok (el2:=9) (z:=[(.str [])]) (vs:=[.str s]) h.t rfl rfl (by decide) (by rw [strs_len]; simp; omega)
 obtain ⟨q0,q1,q2,q3,q4⟩:=h.part p3 (i:=1) rfl
 obtain ⟨H2,s1,s2,s3,d1,d2,d3,d4,d5,d6⟩:=h.put (a':={ a with tx:=tx' }) (S':={ S with txs:=S.txs++[s] }) (o:=2) (T':=rid tx') p3 (i:=1) (by decide) rfl rfl p4 p2.rw.lt hN (by decide) p5 rfl
 obtain ⟨r1,r2,r3⟩:=q4 (by decide)
 have m:=fun {x} hx=>d6 (j:=4) (by decide) rfl x hx
 refine ⟨tx',H1,H2,rid a.tx++[q],p1,s1,⟨s2,r1.out s3 fun j hj=>m (mem4 (q:=q) (.inl hj)),?_,(q2 (by decide)).out s3 (d6 (j:=2) (by decide) rfl),fun i r R hr hR=>(r3 i r R hr hR).out s3 fun j hj=>m (mem4 (q:=q) (.inr (.inr (List.mem_flatMap.2 ⟨r,List.mem_of_getElem? hr,hj⟩)))),h.len,(q3 (by decide)).out s3 (d6 (j:=3) (by decide) rfl),r2.out s3 fun j hj=>m (mem4 (q:=q) (.inr (.inl hj))),d1,d2,d3⟩,
  (p3.mono fun j hj=>List.mem_append_left _ hj).trans (s3.mono fun j hj=>List.mem_append_right _ hj),fun j hj=>(List.mem_append.1 hj).elim (fun z=>⟨_,(.tail _ (.head _)),z⟩) fun z=>⟨_,.head _,z⟩⟩
 rw [show strs (S.txs++[s])=strs S.txs++[.str s] by rw [strs_app]; rfl]
 exact p2.out s3 (d6 (j:=1) (by decide) rfl)
theorem SB.pushO {N:Nat} {H:Hp} {q:Nat} {a:SA} {S:SS} (h:SB N H q a S) (hN:N≤H.next) (s:Str) (hn:S.ofs.length≤1000) :
  ∃ ox' H1 H2 T,(∀ i,i=H.next→app' 9 1 [(.str [])] false a.ox (.slice i 0 1 1 true 1) (al H [.str s] 9 0)=some (ox',H1))∧st 1 (.ptr q 4) ox' H1=some H2∧SB N H2 q { a with ox:=ox' } { S with ofs:=S.ofs++[s] }∧Out T H H2∧∀ j∈T,∃ l∈slotS q a,j∈l:=by
 obtain ⟨ox',H1,p1,p2,p3,p4,p5⟩:=push_ok (el2:=9) (z:=[(.str [])]) (vs:=[.str s]) h.o rfl rfl (by decide) (by rw [strs_len]; simp; omega)
 obtain ⟨q0,q1,q2,q3,q4⟩:=h.part p3 (i:=3) rfl
 obtain ⟨H2,s1,s2,s3,d1,d2,d3,d4,d5,d6⟩:=h.put (a':={ a with ox:=ox' }) (S':={ S with ofs:=S.ofs++[s] }) (o:=4) (T':=rid ox') p3 (i:=3) (by decide) rfl rfl p4 p2.rw.lt hN (by decide) p5 rfl
 obtain ⟨r1,r2,r3⟩:=q4 (by decide)
 have m:=fun {x} hx=>d6 (j:=4) (by decide) rfl x hx
 refine ⟨ox',H1,H2,rid a.ox++[q],p1,s1,⟨s2,r1.out s3 fun j hj=>m (mem4 (q:=q) (.inl hj)),(q1 (by decide)).out s3 (d6 (j:=1) (by decide) rfl),(q2 (by decide)).out s3 (d6 (j:=2) (by decide) rfl),fun i r R hr hR=>(r3 i r R hr hR).out s3 fun j hj=>m (mem4 (q:=q) (.inr (.inr (List.mem_flatMap.2 ⟨r,List.mem_of_getElem? hr,hj⟩)))),h.len,?_,r2.out s3 fun j hj=>m (mem4 (q:=q) (.inr (.inl hj))),d1,d2,d3⟩,
  (p3.mono fun j hj=>List.mem_append_left _ hj).trans (s3.mono fun j hj=>List.mem_append_right _ hj),fun j hj=>(List.mem_append.1 hj).elim (fun z=>⟨_,(.tail _ (.tail _ (.tail _ (.head _)))),z⟩) fun z=>⟨_,.head _,z⟩⟩
 rw [show strs (S.ofs++[s])=strs S.ofs++[.str s] by rw [strs_app]; rfl]
 exact p2.out s3 (d6 (j:=3) (by decide) rfl)
theorem flatMap_push (l:List RA) (r:RA):(l++[r]).flatMap RA.fp=l.flatMap RA.fp++r.fp:=by rw [List.flatMap_append]; simp
theorem SB.pushR {N:Nat} {H:Hp} {q:Nat} {a:SA} {S:SS} (h:SB N H q a S) (hN:N≤H.next) {r:RA} {R:Rn} (hR:RV H r.dx r.xs r.tx r.sx R) (hf:∀ j∈r.fp,N≤j∧∀ l∈slotS q a,j∉l) (hn:S.rs.length≤1000) :
  ∃ rx' H1 H2 T,(∀ i,i=H.next→app' 62 4 zR false a.rx (.slice i 0 1 1 true 4) (al H (runC r R) 62 0)=some (rx',H1))∧st 1 (.ptr q 3) rx' H1=some H2∧SB N H2 q { a with rx:=rx',ras:=a.ras++[r] } { S with rs:=S.rs++[R] }∧Out T H H2∧∀ j∈T,∃ l∈slotS q a,j∈l:=by
 obtain ⟨rx',H1,p1,p2,p3,p4,p5⟩:=h.r.push (el2:=62) (z:=zR) (vs:=runC r R) (by simp [runC,hR.d.row.one,hR.t.one,hR.s.one,oneC_i]) rfl (by decide) (by rw [List.length_zipWith]; have:=h.len; omega)
 obtain ⟨q0,q1,q2,q3,q4⟩:=h.part p3 (i:=2) rfl
 obtain ⟨H2,s1,s2,s3,d1,d2,d3,d4,d5,d6⟩:=h.put (a':={ a with rx:=rx' }) (S':=S) (o:=3) (T':=rid rx') p3 (i:=2) (by decide) rfl rfl p4 p2.rl.1.lt hN (by decide) p5 rfl
 obtain ⟨r1,r2,r3⟩:=q4 (by decide)
 have m:=fun {x} hx=>d6 (j:=4) (by decide) rfl x hx
 have hRlt:=hR.lt
 have hn1:=p3.1
 have hn2:=s3.1
 have fq:∀ j∈r.fp,j∉rid a.rx∧j≠q:=fun j hj=>⟨(hf j hj).2 _ (.tail _ (.tail _ (.head _))),fun e=>(hf j hj).2 [q] (.head _) (by rw [e]; exact .head _)⟩
 have hfp:∀ j∈r.fp,j < H.next:=fun j hj=>hRlt j hj
 have hR2:RV H2 r.dx r.xs r.tx r.sx R:=(hR.out p3 fun j hj=>(fq j hj).1).out s3 fun j hj=>by rw [List.mem_singleton]; exact (fq j hj).2
 have hlast:∀ j,j∈rid a.nx++(rid a.kx++(a.ras++[r]).flatMap RA.fp)→j∈rid a.nx++(rid a.kx++a.ras.flatMap RA.fp)∨j∈r.fp:=fun j hj=>by
  rw [flatMap_push] at hj
  rcases List.mem_append.1 hj with z | z
  ·exact .inl (List.mem_append_left _ z)
  ·rcases List.mem_append.1 z with z | z
   ·exact .inl (List.mem_append_right _ (List.mem_append_left _ z))
   ·rcases List.mem_append.1 z with z | z
    ·exact .inl (List.mem_append_right _ (List.mem_append_right _ z))
    ·exact .inr z
 have hs4:slotS q { a with rx:=rx',ras:=a.ras++[r] }=(slotS q { a with rx:=rx' }).set 4 (rid a.nx++(rid a.kx++(a.ras++[r]).flatMap RA.fp)):=rfl
 have hx':∀ j∈r.fp,∀ l∈slotS q { a with rx:=rx' },j∉l:=fun j hj l hl hm=>by
  have e:slotS q { a with rx:=rx' }=(slotS q a).set 2 (rid rx'):=rfl
  rw [e] at hl
  rcases List.mem_or_eq_of_mem_set hl with z | rfl
  ·exact (hf j hj).2 l z hm
  ·rcases p4 j hm with z | z
   ·exact (fq j hj).1 z
   ·have:=hfp j hj; omega
 have hdj:(slotS q { a with rx:=rx',ras:=a.ras++[r] }).Pairwise Dj:=by
  rw [hs4,List.pairwise_iff_getElem]
  have hp:=List.pairwise_iff_getElem.1 d1
  have e4:(slotS q { a with rx:=rx' }).length=5:=rfl
  intro i j hi hj hij
  rw [List.length_set] at hi hj
  rw [List.getElem_set,List.getElem_set]
  by_cases h1:4=i
  ·omega
  ·rw [if_neg h1]
   by_cases h2:4=j
   ·rw [if_pos h2]
    intro x hx hm
    rcases hlast x hm with z | z
    ·exact (hp i 4 hi (by rw [e4]; decide) (by omega)) x hx z
    ·exact hx' x z _ (List.getElem_mem hi) hx
   ·rw [if_neg h2]; exact hp i j hi hj hij
 refine ⟨rx',H1,H2,rid a.rx++[q],p1,s1,⟨s2,r1.out s3 fun j hj=>m (mem4 (q:=q) (.inl hj)),(q1 (by decide)).out s3 (d6 (j:=1) (by decide) rfl),?_,fun i r' R' hr' hR' => ?_,by simp [h.len],(q3 (by decide)).out s3 (d6 (j:=3) (by decide) rfl),r2.out s3 fun j hj=>m (mem4 (q:=q) (.inr (.inl hj))),hdj,fun l hl j hj => ?_,fun l hl j hj => ?_⟩,
  (p3.mono fun j hj=>List.mem_append_left _ hj).trans (s3.mono fun j hj=>List.mem_append_right _ hj),fun j hj=>(List.mem_append.1 hj).elim (fun z=>⟨_,(.tail _ (.tail _ (.head _))),z⟩) fun z=>⟨_,.head _,z⟩⟩
 ·rw [show List.zipWith runC (a.ras++[r]) (S.rs++[R])=List.zipWith runC a.ras S.rs++[runC r R] by rw [List.zipWith_append h.len]; rfl]
  exact p2.out s3 (d6 (j:=2) (by decide) rfl)
 ·by_cases hil:i < a.ras.length
  ·rw [List.getElem?_append_left hil] at hr'
   rw [List.getElem?_append_left (by rw [← h.len]; exact hil)] at hR'
   exact (r3 i r' R' hr' hR').out s3 fun j hj=>m (mem4 (q:=q) (.inr (.inr (List.mem_flatMap.2 ⟨r',List.mem_of_getElem? hr',hj⟩))))
  ·rw [List.getElem?_append_right (by omega)] at hr'
   rw [List.getElem?_append_right (by rw [← h.len]; omega),← h.len] at hR'
   have h0:i - a.ras.length=0:=by
    have:=(List.getElem?_eq_some_iff.1 hr').1
    simp at this; omega
   rw [h0] at hr' hR'
   cases hr'; cases hR'
   exact hR2
 ·rw [hs4] at hl
  rcases List.mem_or_eq_of_mem_set hl with z | rfl
  ·exact d2 l z j hj
  ·rcases hlast j hj with z | z
   ·exact d2 _ (.tail _ (.tail _ (.tail _ (.tail _ (.head _))))) j z
   ·exact (hf j z).1
 ·rw [hs4] at hl
  rcases List.mem_or_eq_of_mem_set hl with z | rfl
  ·exact d3 l z j hj
  ·rcases hlast j hj with z | z
   ·exact d3 _ (.tail _ (.tail _ (.tail _ (.tail _ (.head _))))) j z
   ·have:=hfp j z; omega
end Go.Proofs.YtkhhnpkmblldbaaGreatDoor.DfK
namespace Go.Proofs.YtkhhnpkmblldbaaGreatDoor.DfK
open Go Am Am.K DfEnv DfM LibP DfG
set_option linter.unusedVariables false
set_option linter.unusedSimpArgs false
set_option maxRecDepth 10000
set_option maxHeartbeats 1000000
theorem FL.at {H:Hp} {p:Nat} {a:FA} {f:Fm} (h:FL H p a f) {i:Nat} {x:Rn × Str} (hx:f.rns[i]? = some x) :
  ∃ r b o,a.ras[i]? = some r∧(∀ kd,ia 5 a.rx (.int kd i)=some (.ptr b o))∧b∈rid a.rx∧b < H.next∧cellsAt H b o 4=some (rv r.dx x.1.st r.tx r.sx)∧cellsAt H b o 5=some (rowC r x)∧RV H r.dx r.xs r.tx r.sx x.1:=by
 have hil:=(List.getElem?_eq_some_iff.1 hx).1
 have hr:a.ras[i]? = some (a.ras[i]'(by rw [h.len]; exact hil)):=List.getElem?_eq_getElem _
 obtain ⟨b,o,q1,q2,q3,q4,q5⟩:=h.r.rl.at (by decide) (rows_at hr hx)
 refine ⟨_,b,o,hr,q1,q2,q3,?_,q4,h.v i _ x hr hx⟩
 have e0:=q5 0 _ rfl
 have e1:=q5 1 _ rfl
 have e2:=q5 2 _ rfl
 have e3:=q5 3 _ rfl
 rw [Nat.add_zero] at e0
 simp only [cellsAt,e0,e1,e2,e3,Option.bind_eq_bind,Option.bind_some]
 rfl
end Go.Proofs.YtkhhnpkmblldbaaGreatDoor.DfK
namespace Go.Proofs.YtkhhnpkmblldbaaGreatDoor.DfK
open Go Am Am.K DfEnv DfM LibP DfG
set_option linter.unusedVariables false
set_option linter.unusedSimpArgs false
set_option maxRecDepth 10000
set_option maxHeartbeats 2000000
def OutN (N:Nat) (H H':Hp):Prop:=∃ T,Out T H H'∧∀ j∈T,N≤j
theorem OutN.refl (N:Nat) (H:Hp):OutN N H H:=⟨[],Out.refl _ _,fun j hj=>by cases hj⟩
theorem OutN.of0 {N:Nat} {H H':Hp} (k:Out [] H H'):OutN N H H':=⟨[],k,fun j hj=>by cases hj⟩
theorem OutN.trans {N:Nat} {H H' H'':Hp} (h:OutN N H H') (k:OutN N H' H''):OutN N H H'':=by
 obtain ⟨T,t1,t2⟩:=h
 obtain ⟨U,u1,u2⟩:=k
 exact ⟨T++U,(t1.mono fun j hj=>List.mem_append_left _ hj).trans (u1.mono fun j hj=>List.mem_append_right _ hj),fun j hj=>(List.mem_append.1 hj).elim (t2 j) (u2 j)⟩
theorem OutN.nx {N:Nat} {H H':Hp} (h:OutN N H H'):H.next≤H'.next:=by obtain ⟨T,t,_⟩:=h; exact t.1
def FLo (N p:Nat) (a:FA):Prop:=(∀ j∈own p a,j < N)∧∀ j∈DfK.inn a,j < N
theorem FL.outN {N:Nat} {H H':Hp} {p:Nat} {a:FA} {f:Fm} (h:FL H p a f) (k:OutN N H H') (hl:FLo N p a):FL H' p a f:=by
 obtain ⟨T,t,u⟩:=k
 exact h.out t (fun j hj q=>by have:=u j q; have:=hl.1 j hj; omega) fun j hj q=>by have:=u j q; have:=hl.2 j hj; omega
def txOf (f:Fm) (s:Str):Str:=(getT f.txs s).getD []
theorem state_loop {p b0 q N:Nat} {a:FA} {f:Fm} (hn:f.nms.length≤1000) (hl:FLo N p a):∀ (r:List Str) (i:Nat) (H:Hp) (sa:SA) (S:SS),i≤f.nms.length→f.nms.drop i=r→FL H p a f→SB N H q sa S→N≤H.next→S.txs.length=i→
  ∃ sa' H',(∀ j33:K.Fn 3,l_flow_Flow_State JN GO cK j33 (.ptr p 0) (.ptr b0 0) (.ptr q 0) a.nx (.int .i64 (f.nms.length:Nat)) (.int .i64 (i:Nat)) H=j33 (.ptr p 0) (.ptr b0 0) (.ptr q 0) H')∧SB N H' q sa' { S with txs:=S.txs++r.map (txOf f) }∧OutN N H H'
 | [],i,H,sa,S,hi,h,hF,hS,hN,hi'=>by
  obtain rfl:=drop_nil hi h
  refine ⟨sa,H,fun j33 => ?_,?_,OutN.refl _ _⟩
  ·rw [ql_flow_Flow_State]
   simp only [bl_flow_Flow_State,lt_f,k_s,k_x,simprocAttr]
  ·rw [List.map_nil,List.append_nil]; exact hS
 | s::r,i,H,sa,S,hi,h,hF,hS,hN,hi'=>by
  obtain ⟨g1,g2,g3⟩:=hd_drop h
  have es:=wrap_s g1 (by omega)
  obtain ⟨w,w1,w2⟩:=hF.n.rw.ia1 (strs_get g2) .i64
  have k2:cellAt H q 2=some sa.tx:=hS.c.cellAt rfl
  have kt:cellAt H p 2=some (.map a.tm):=hF.c.cellAt rfl
  have lk:=getT_lk hF.t hF.tnd s false
  rw [cond_false] at lk
  have lk':lkp .str (.str []) false (.map a.tm) (.str s) H=some (.str (txOf f s)):=lk
  obtain ⟨tx',H1,H2,T,p1,p2,p3,p4,p5⟩:=hS.pushT hN (txOf f s) (by omega)
  have p1':=p1 H.next rfl
  have hf:fl [(.str [])] [(0,1,.str (txOf f s))]=some [.str (txOf f s)]:=rfl
  have hnc:newCells H [.str (txOf f s)] 9 0=some (H.next,al H [.str (txOf f s)] 9 0):=newCells_al (by simp)
  have k2':cellAt (al H [.str (txOf f s)] 9 0) q 2=some sa.tx:=by rw [(al_out _ _ _ _).cellAt hS.c.1 (by simp)]; exact k2
  have hO:OutN N H H2:=⟨T,p4,fun j hj=>by obtain ⟨l,hl,hj⟩:=p5 j hj; exact hS.fr l hl j hj⟩
  obtain ⟨sa',H',i1,i2,i3⟩:=state_loop (b0:=b0) hn hl r (i + 1) H2 _ _ g1 g3 (hF.outN hO hl) p3 (Nat.le_trans hN hO.nx) (by show (S.txs++[txOf f s]).length=_; rw [List.length_append,hi']; rfl)
  refine ⟨sa',H',fun j33 => ?_,?_,hO.trans i3⟩
  ·rw [ql_flow_Flow_State]
   simp (disch:=(first | assumption | omega | (simp only [k_d,k_c,simprocAttr] <;> fail) | (simp only [k_c]; omega) | (simp only [k_d,k_c,simprocAttr, *] <;> fail) | fail)) only [bl_flow_Flow_State,lt_t g1,w1,w2,k2,kt,lk',hf,hnc,p1',p2,k2',SM_t (same_rw hS.t.rw),es,i1,k_a,k_b,k_s,k_x,simprocAttr]
  ·have e:({ S with txs:=S.txs++[txOf f s]++r.map (txOf f) }:SS)={ S with txs:=S.txs++(s::r).map (txOf f) }:=by rw [List.map_cons,List.append_assoc]; rfl
   rw [← e]; exact i2
theorem state1_loop {p b0 q N:Nat} {a:FA} {f:Fm} (hn:f.rns.length≤1000) (hsm:∀ x∈f.rns,Sm x.1) (hl:FLo N p a):∀ (r:List (Rn × Str)) (i:Nat) (H:Hp) (sa:SA) (S:SS),i≤f.rns.length→f.rns.drop i=r→FL H p a f→SB N H q sa S→N≤H.next→S.rs.length=i→S.ofs.length=i→
  ∃ sa' H',(∀ j88:K.Fn 2,l_flow_Flow_State1 JN GO cK j88 (.ptr b0 0) (.ptr q 0) a.rx (.int .i64 (f.rns.length:Nat)) (.int .i64 (i:Nat)) H=j88 (.ptr b0 0) (.ptr q 0) H')∧SB N H' q sa' { S with rs:=S.rs++r.map (·.1),ofs:=S.ofs++r.map (·.2) }∧OutN N H H'
 | [],i,H,sa,S,hi,h,hF,hS,hN,hi1,hi2=>by
  obtain rfl:=drop_nil hi h
  refine ⟨sa,H,fun j88 => ?_,?_,OutN.refl _ _⟩
  ·rw [ql_flow_Flow_State1]
   simp only [bl_flow_Flow_State1,lt_f,k_s,k_x,simprocAttr]
  ·rw [List.map_nil,List.map_nil,List.append_nil,List.append_nil]; exact hS
 | x::r,i,H,sa,S,hi,h,hF,hS,hN,hi1,hi2=>by
  obtain ⟨g1,g2,g3⟩:=hd_drop h
  have es:=wrap_s g1 (by omega)
  obtain ⟨ra,b,o,q1,q2,q3,q4,q5,q6,q7⟩:=hF.at g2
  have hz:st 5 (.ptr H.next 0) (.agg (rowC ra x)) (al H [.slice0,(.int .i64 0),.slice0,.slice0,(.str [])] 95 0)=some (al H (rowC ra x) 95 0):=st_alN (rowC_one q7) rfl rfl (by decide) rfl
  have o1:=al_out H (rowC ra x) 95 0
  have c1:=al_cs H (rowC ra x) 95 0
  have n1:(al H (rowC ra x) 95 0).next=H.next + 1:=rfl
  generalize hA1:al H (rowC ra x) 95 0=H1 at *
  have hS1:=hS.out0 o1
  have k3:cellAt H1 q 3=some sa.rx:=hS1.c.cellAt rfl
  have k14:cellsAt H1 H.next 0 4=some (rv ra.dx x.1.st ra.tx ra.sx):=by
   have e0:cellAt H1 H.next 0=some ra.dx:=c1.cellAt rfl
   have e1:cellAt H1 H.next 1=some (.int .i64 x.1.st):=c1.cellAt rfl
   have e2:cellAt H1 H.next 2=some ra.tx:=c1.cellAt rfl
   have e3:cellAt H1 H.next 3=some ra.sx:=c1.cellAt rfl
   simp only [cellsAt,Nat.zero_add,e0,e1,e2,e3,Option.bind_eq_bind,Option.bind_some]
   rfl
  obtain ⟨dx',xs',tx',sx',H2,r1,r2,r3,r4⟩:=cloneU_c (q7.out0 o1) (hsm x (List.mem_of_getElem? g2))
  have hS2:=hS1.out0 r3
  have k32:cellAt H2 q 3=some sa.rx:=hS2.c.cellAt rfl
  have hn2:=r3.1
  obtain ⟨rx',H3,H4,T,p1,p2,p3,p4,p5⟩:=hS2.pushR (r:=⟨dx',xs',tx',sx'⟩) (R:=x.1) (by omega) r2.v (fun j hj=>⟨by have:=r4 j hj; omega,fun l hl hm=>by have:=hS1.lt l hl j hm; have:=r4 j hj; omega⟩) (by omega)
  have p1':app' 62 4 [.slice0,(.int .i64 0),.slice0,.slice0] false sa.rx (.slice H2.next 0 1 1 true 4) (al H2 [dx',.int .i64 x.1.st,tx',sx'] 62 0)=some (rx',H3):=p1 H2.next rfl
  have k32':cellAt (al H2 [dx',.int .i64 x.1.st,tx',sx'] 62 0) q 3=some sa.rx:=by rw [(al_out _ _ _ _).cellAt hS2.c.1 (by simp)]; exact k32
  have hO4:OutN N H2 H4:=⟨T,p4,fun j hj=>by obtain ⟨l,hl,hj⟩:=p5 j hj; exact hS2.fr l hl j hj⟩
  have hHT:H.next∉T:=fun hj=>by
   obtain ⟨l,hl,hj⟩:=p5 _ hj
   have:=hS.lt l hl _ hj; omega
  have c4:Cs H4 H.next (rowC ra x) 95 0:=(c1.out r3 (by simp)).out p4 hHT
  have kn:cellAt H4 H.next 4=some (.str x.2):=c4.cellAt rfl
  have ko:cellAt H4 q 4=some sa.ox:=p3.c.cellAt rfl
  have hn4:=p4.1
  obtain ⟨ox',H5,H6,T2,u1,u2,u3,u4,u5⟩:=p3.pushO (by omega) x.2 (by show S.ofs.length≤_; omega)
  have u1':app' 9 1 [(.str [])] false sa.ox (.slice H4.next 0 1 1 true 1) (al H4 [.str x.2] 9 0)=some (ox',H5):=u1 H4.next rfl
  have hO6:OutN N H4 H6:=⟨T2,u4,fun j hj=>by obtain ⟨l,hl,hj⟩:=u5 j hj; exact p3.fr l hl j hj⟩
  have hO:OutN N H H6:=((OutN.of0 (o1.trans r3)).trans hO4).trans hO6
  have hf:fl [(.str [])] [(0,1,.str x.2)]=some [.str x.2]:=rfl
  have hnc:newCells H4 [.str x.2] 9 0=some (H4.next,al H4 [.str x.2] 9 0):=newCells_al (by simp)
  obtain ⟨sa',H',i1,i2,i3⟩:=state1_loop (b0:=b0) hn hsm hl r (i + 1) H6 _ _ g1 g3 (hF.outN hO hl) u3 (Nat.le_trans hN hO.nx) (by show (S.rs++[x.1]).length=_; rw [List.length_append,hi1]; rfl) (by show (S.ofs++[x.2]).length=_; rw [List.length_append,hi2]; rfl)
  refine ⟨sa',H',fun j88 => ?_,?_,hO.trans i3⟩
  ·rw [ql_flow_Flow_State1]
   simp (disch:=(first | assumption | omega | (simp only [k_d,k_c,simprocAttr] <;> fail) | (simp only [k_c]; omega) | (simp only [k_d,k_c,simprocAttr, *] <;> fail) | fail)) only [bl_flow_Flow_State1,lt_t g1,q2,q6,hz,hA1,k3,k14,r1,k32,p1',p2,k32',kn,ko,hf,hnc,u1',u2,SM_t (same_rw hS.r.1.rw),es,i1,k_a,k_b,k_s,k_x,simprocAttr]
  ·have e:({ S with rs:=S.rs++[x.1]++r.map (·.1),ofs:=S.ofs++[x.2]++r.map (·.2) }:SS)={ S with rs:=S.rs++(x::r).map (·.1),ofs:=S.ofs++(x::r).map (·.2) }:=by rw [List.map_cons,List.map_cons,List.append_assoc,List.append_assoc]; rfl
   rw [← e]; exact i2
theorem SB.outb {N b:Nat} {H H':Hp} {q:Nat} {a:SA} {S:SS} (h:SB N H q a S) (k:Out [b] H H') (hb:b < N):SB N H' q a S:=by
 have m:∀ {l:List Nat},l∈slotS q a→∀ j∈l,j∉[b]:=fun hl j hj z=>by rw [List.mem_singleton] at z; have:=h.fr _ hl j hj; omega
 have m4:=m (l:=rid a.nx++(rid a.kx++a.ras.flatMap RA.fp)) (.tail _ (.tail _ (.tail _ (.tail _ (.head _)))))
 exact ⟨h.c.out k (m (.head _) q (.head _)),h.n.out k fun j hj=>m4 j (mem4 (q:=q) (.inl hj)),h.t.out k (m (.tail _ (.head _))),h.r.out k (m (.tail _ (.tail _ (.head _)))),fun i r R hr hR=>(h.v i r R hr hR).out k fun j hj=>m4 j (mem4 (q:=q) (.inr (.inr (List.mem_flatMap.2 ⟨r,List.mem_of_getElem? hr,hj⟩)))),h.len,h.o.out k (m (.tail _ (.tail _ (.tail _ (.head _))))),h.k.out k fun j hj=>m4 j (mem4 (q:=q) (.inr (.inl hj))),h.dj,h.fr,fun l hl j hj=>Nat.lt_of_lt_of_le (h.lt l hl j hj) k.1⟩
def stateM (f:Fm):SS:=⟨f.ck,f.nms,f.nms.map (txOf f),f.rns.map (·.1),f.rns.map (·.2),f.ks⟩
def zS:List AV:=[.int .i64 0,.slice0,.slice0,.slice0,.slice0,.slice0]
theorem Cs.outN {N H0:Nat} {H H':Hp} {i:Nat} {l:List AV} {el fl:Nat} (h:Cs H i l el fl) (k:OutN N H H') (hi:i < N):Cs H' i l el fl:=by
 obtain ⟨T,t,u⟩:=k
 exact h.out t fun q=>by have:=u i q; omega
theorem state_c {H:Hp} {p:Nat} {a:FA} {f:Fm} (h:FL H p a f) (hn:f.nms.length≤1000) (hr:f.rns.length≤1000) (hk:f.ks.length≤1000) (hsm:∀ x∈f.rns,Sm x.1) :
  ∃ sa q H',cK (.func (.func 29) [] []) [.ptr p 0] H=some (.agg (stC sa (stateM f)),H')∧SB H.next H' q sa (stateM f)∧Out [] H H':=by
 have o1:=al_out H zS 56 0
 have c1:=al_cs H zS 56 0
 have n1:(al H zS 56 0).next=H.next + 1:=rfl
 have hnc:newCells H [(.int .i64 0),.slice0,.slice0,.slice0,.slice0,.slice0] 56 0=some (H.next,al H zS 56 0):=newCells_al (by simp)
 generalize hA1:al H zS 56 0=H1 at *
 have h1:=h.out0 o1
 have k0:cellAt H1 p 0=some (.int .i64 f.ck):=h1.c.cellAt rfl
 have k1:cellAt H1 p 1=some a.nx:=h1.c.cellAt rfl
 obtain ⟨y,H2,y1,y2,y3,y4,_⟩:=cloneStr_c h1.n.rw (fun v hv=>by obtain ⟨s,_,rfl⟩:=List.mem_map.1 hv; rfl) (by rw [strs_len]; omega)
 have hdef:cK (.func (.func 65) [] []) [.ptr p 0] H1=some (y,H2):=by
  refine c_flow_Flow_Defs ?_
  unfold s_flow_Flow_Defs
  simp (disch:=(first | assumption | omega | (simp only [k_d,k_c,simprocAttr] <;> fail) | (simp only [k_c]; omega) | (simp only [k_d,k_c,simprocAttr, *] <;> fail) | fail)) only [k1,y1,k_a,k_b,k_s,k_x,simprocAttr]
 have h2:=h1.out0 y3
 have k02:cellAt H2 p 0=some (.int .i64 f.ck):=h2.c.cellAt rfl
 have k4:cellAt H2 p 4=some (.ptr a.kp 0):=h2.c.cellAt rfl
 obtain ⟨kx,H3,x1,x2,x3,x4⟩:=keysAll_c hk h2.k
 have hkey:cK (.func (.func 66) [] []) [.ptr p 0] H2=some (kx,H3):=by
  refine c_flow_Flow_Keys ?_
  unfold s_flow_Flow_Keys
  simp (disch:=(first | assumption | omega | (simp only [k_d,k_c,simprocAttr] <;> fail) | (simp only [k_c]; omega) | (simp only [k_d,k_c,simprocAttr, *] <;> fail) | fail)) only [k4,x1,k_a,k_b,k_s,k_x,simprocAttr]
 have h3:=h2.out0 x3
 have k03:cellAt H3 p 0=some (.int .i64 f.ck):=h3.c.cellAt rfl
 have hz:st 6 (.ptr H3.next 0) (.agg [.int .i64 f.ck,y,.slice0,.slice0,.slice0,kx]) (al H3 [(.int .i64 0),.slice0,.slice0,.slice0,.slice0,.slice0] 56 0)=some (al H3 [.int .i64 f.ck,y,.slice0,.slice0,.slice0,kx] 56 0):=st_alN (by simp [y2.rw.one,x2.rl.one,oneC_i]; decide) rfl rfl (by decide) rfl
 have hf:fl [(.int .i64 0),.slice0,.slice0,.slice0,.slice0,.slice0] [(0,1,.int .i64 f.ck),(1,1,y),(5,1,kx)]=some [.int .i64 f.ck,y,.slice0,.slice0,.slice0,kx]:=by
  rw [fl_cons1 rfl (by simp),fl_cons1 y2.rw.one (by simp),fl_cons1 x2.rl.one (by simp),fl_nil]; rfl
 have o4:=al_out H3 [.int .i64 f.ck,y,.slice0,.slice0,.slice0,kx] 56 0
 have c4:=al_cs H3 [.int .i64 f.ck,y,.slice0,.slice0,.slice0,kx] 56 0
 have n4:(al H3 [.int .i64 f.ck,y,.slice0,.slice0,.slice0,kx] 56 0).next=H3.next + 1:=rfl
 have nn2:=y3.1
 have nn3:=x3.1
 have ly:=y2.rw.lt
 have lx:=x2.rl.1.lt
 generalize hA4:al H3 [.int .i64 f.ck,y,.slice0,.slice0,.slice0,kx] 56 0=H4 at *
 have SB4:SB (H.next + 1) H4 H3.next ⟨y,.slice0,.slice0,.slice0,kx,[]⟩ ⟨f.ck,f.nms,[],[],[],f.ks⟩:=by
  have hsl:slotS H3.next ⟨y,.slice0,.slice0,.slice0,kx,[]⟩=[[H3.next],[],[],[],rid y++(rid kx++[])]:=rfl
  refine ⟨c4,(y2.rw.out0 x3).out0 o4,.nil,OL.nil _ _ _,fun i r R hr=>by simp at hr,rfl,.nil,x2.rl.out0 o4,?_,?_,?_⟩
  ·rw [hsl]
   simp [Dj]
   refine ⟨fun z => ?_,fun z => ?_⟩
   ·have:=ly _ z; omega
   ·have:=lx _ z; omega
  ·rw [hsl]
   intro l hl j hj
   simp only [List.mem_cons,List.mem_nil_iff,or_false] at hl
   rcases hl with rfl | rfl | rfl | rfl | rfl
   ·rw [List.mem_singleton] at hj; omega
   ·cases hj
   ·cases hj
   ·cases hj
   ·rw [List.append_nil] at hj
    rcases List.mem_append.1 hj with z | z
    ·have:=y4 j z; omega
    ·have:=x4 j z; omega
  ·rw [hsl]
   intro l hl j hj
   simp only [List.mem_cons,List.mem_nil_iff,or_false] at hl
   rcases hl with rfl | rfl | rfl | rfl | rfl
   ·rw [List.mem_singleton] at hj; omega
   ·cases hj
   ·cases hj
   ·cases hj
   ·rw [List.append_nil] at hj
    rcases List.mem_append.1 hj with z | z
    ·have:=ly j z; omega
    ·have:=lx j z; omega
 have hl:FLo (H.next + 1) p a:=⟨fun j hj=>by have:=h.lt j hj; omega,fun j hj=>by have:=(h.inn j hj).2; omega⟩
 have o14:=(y3.trans x3).trans o4
 have h4:=h3.out0 o4
 have k41:cellAt H4 p 1=some a.nx:=h4.c.cellAt rfl
 have l1:=h4.n.rw.len1
 rw [strs_len] at l1
 obtain ⟨sa5,H5,i1,i2,i3⟩:=state_loop (b0:=H.next) hn hl f.nms 0 H4 _ _ (Nat.zero_le _) List.drop_zero h4 SB4 (by omega) rfl
 rw [show (((0:Nat):Int))=0 from rfl] at i1
 have h5:=h4.outN i3 hl
 have k53:cellAt H5 p 3=some a.rx:=h5.c.cellAt rfl
 have l3:=h5.rlen
 obtain ⟨sa6,H6,j1,j2,j3⟩:=state1_loop (b0:=H.next) hr hsm hl f.rns 0 H5 _ _ (Nat.zero_le _) List.drop_zero h5 i2 (by have:=i3.nx; omega) rfl rfl
 rw [show (((0:Nat):Int))=0 from rfl] at j1
 have hS:SB (H.next + 1) H6 H3.next sa6 (stateM f):=j2
 have cb:Cs H6 H.next zS 56 0:=Cs.outN (H0:=0) (Cs.outN (H0:=0) (c1.out o14 (by simp)) i3 (Nat.lt_succ_self _)) j3 (Nat.lt_succ_self _)
 have kq:cellsAt H6 H3.next 0 6=some (stC sa6 (stateM f)):=hS.c.cellsAt 6 0 (by simp [stC])
 obtain ⟨H7,s1,s2,s3,s4⟩:=stAll (n:=6) (vs:=stC sa6 (stateM f)) cb rfl rfl (by simp [stC,hS.n.one,hS.t.rw.one,hS.r.rl.one,hS.o.rw.one,hS.k.one,oneC_i])
 have kb:cellsAt H7 H.next 0 6=some (stC sa6 (stateM f)):=s2.cellsAt 6 0 (by simp [stC])
 have S7:=hS.outb s3 (Nat.lt_succ_self _)
 have oN:OutN H.next H H7:=by
  obtain ⟨T,t1,t2⟩:=i3.trans j3
  exact ((OutN.of0 (o1.trans o14)).trans ⟨T,t1,fun j hj=>by have:=t2 j hj; omega⟩).trans ⟨[H.next],s3,one_ge (Nat.le_refl _)⟩
 refine ⟨sa6,H3.next,H7,c_flow_Flow_State ?_,⟨S7.c,S7.n,S7.t,S7.r,S7.v,S7.len,S7.o,S7.k,S7.dj,fun l hl j hj=>by have:=S7.fr l hl j hj; omega,S7.lt⟩,?_⟩
 ·unfold s_flow_Flow_State
  simp (disch:=(first | assumption | omega | (simp only [k_d,k_c,simprocAttr] <;> fail) | (simp only [k_c]; omega) | (simp only [k_d,k_c,simprocAttr, *] <;> fail) | fail)) only [hnc,hA1,k0,hdef,k02,k03,hkey,hf,hz,hA4,k41,l1,i1,k53,l3,j1,kq,s1,kb,SM_t (same_i _ _),k_a,k_b,k_s,k_x,simprocAttr]
 ·obtain ⟨T,t1,t2⟩:=oN
  exact outNew (Out.refl _ _) t1 t2
theorem is_sl {H:Hp} {es:Nat} {ty:Ty} {l:List AV} {d:D} (h:Is H (.slice es ty) l d):∃ x,l=[x]∧Is H (.slice es ty) [x] d:=by
 cases h with
 | slice hr hl hd=>exact ⟨_,rfl,.slice hr hl hd⟩
theorem six {l:List AV} (h:l.length=6) {a b c d e f:AV} (h0:(l.drop 0).take 1=[a]) (h1:(l.drop 1).take 1=[b]) (h2:(l.drop 2).take 1=[c]) (h3:(l.drop 3).take 1=[d]) (h4:(l.drop 4).take 1=[e]) (h5:(l.drop 5).take 1=[f]):l=[a,b,c,d,e,f]:=by
 match l,h with
 | [x0,x1,x2,x3,x4,x5],_=>
  simp at h0 h1 h2 h3 h4 h5
  simp [h0,h1,h2,h3,h4,h5]
theorem four {l:List AV} (h:l.length=4) {a b c d:AV} (h0:(l.drop 0).take 1=[a]) (h1:(l.drop 1).take 1=[b]) (h2:(l.drop 2).take 1=[c]) (h3:(l.drop 3).take 1=[d]):l=[a,b,c,d]:=by
 match l,h with
 | [x0,x1,x2,x3],_=>
  simp at h0 h1 h2 h3
  simp [h0,h1,h2,h3]
abbrev TkTy:Ty := .struct 6 [(0,1,.str),(1,1,.slice 1 (.int .i64)),(2,1,.int .i64),(3,1,.int .i64),(4,1,.int .i64),(5,1,.str)]
abbrev RtTy:Ty := .struct 4 [(0,1,.int .i64),(1,1,.int .i64),(2,1,.int .i64),(3,1,.str)]
abbrev RnTy:Ty := .struct 4 [(0,1,.struct 1 [(0,1,.slice 6 TkTy)]),(1,1,.int .i64),(2,1,.slice 4 RtTy),(3,1,.slice 1 .str)]
abbrev KeTy:Ty := .struct 3 [(0,2,.struct 2 [(0,1,.str),(1,1,.str)]),(2,1,.int .i64)]
abbrev StTy:Ty := .struct 6 [(0,1,.int .i64),(1,1,.slice 1 .str),(2,1,.slice 1 .str),(3,1,.slice 4 RnTy),(4,1,.slice 1 .str),(5,1,.slice 3 KeTy)]
theorem tk_of {H:Hp} {l:List AV} {d:D} (hl:l.length=6) (h:Is H TkTy l d):∃ z:AV × Tk,l=tkC z.2 z.1∧Rw H 1 z.1 (ints z.2.after):=by
 cases h with
 | @struct _ _ _ ds _ hn hd=>
  have at':∀ j,j < 6→∃ d,ds[j]? = some d:=fun j hj=>⟨_,List.getElem?_eq_getElem (by rw [hn]; exact hj)⟩
  obtain ⟨d0,e0⟩:=at' 0 (by omega)
  obtain ⟨d1,e1⟩:=at' 1 (by omega)
  obtain ⟨d2,e2⟩:=at' 2 (by omega)
  obtain ⟨d3,e3⟩:=at' 3 (by omega)
  obtain ⟨d4,e4⟩:=at' 4 (by omega)
  obtain ⟨d5,e5⟩:=at' 5 (by omega)
  obtain ⟨s0,f0,_⟩:=is_s (hd 0 _ _ rfl e0)
  obtain ⟨x1,f1,g1⟩:=is_sl (hd 1 _ _ rfl e1)
  obtain ⟨z2,f2,_⟩:=is_i (hd 2 _ _ rfl e2)
  obtain ⟨z3,f3,_⟩:=is_i (hd 3 _ _ rfl e3)
  obtain ⟨z4,f4,_⟩:=is_i (hd 4 _ _ rfl e4)
  obtain ⟨s5,f5,_⟩:=is_s (hd 5 _ _ rfl e5)
  obtain ⟨li,g2,_⟩:=ints_of g1
  exact ⟨(x1,⟨s0,li,z2,z3,z4,s5⟩),six hl f0 f1 f2 f3 f4 f5,g2⟩
theorem rt_of {H:Hp} {l:List AV} {d:D} (hl:l.length=4) (h:Is H RtTy l d):∃ z:RT,l=rtC z∧True:=by
 cases h with
 | @struct _ _ _ ds _ hn hd=>
  have at':∀ j,j < 4→∃ d,ds[j]? = some d:=fun j hj=>⟨_,List.getElem?_eq_getElem (by rw [hn]; exact hj)⟩
  obtain ⟨d0,e0⟩:=at' 0 (by omega)
  obtain ⟨d1,e1⟩:=at' 1 (by omega)
  obtain ⟨d2,e2⟩:=at' 2 (by omega)
  obtain ⟨d3,e3⟩:=at' 3 (by omega)
  obtain ⟨z0,f0,_⟩:=is_i (hd 0 _ _ rfl e0)
  obtain ⟨z1,f1,_⟩:=is_i (hd 1 _ _ rfl e1)
  obtain ⟨z2,f2,_⟩:=is_i (hd 2 _ _ rfl e2)
  obtain ⟨s3,f3,_⟩:=is_s (hd 3 _ _ rfl e3)
  exact ⟨⟨z0,z1,z2,s3⟩,four hl f0 f1 f2 f3,trivial⟩
theorem strs_of {H:Hp} {x:AV} {d:D} (h:Is H (.slice 1 .str) [x] d):∃ l:List Str,Rw H 1 x (strs l):=by
 obtain ⟨l,h1,_⟩:=row_of (fun s:Str=>[AV.str s]) (fun _=>rfl) (fun _=>True) (fun l d _ hi=>by
  obtain ⟨s,h1,_⟩:=is_s hi
  exact ⟨s,h1,trivial⟩) (by decide) h
 refine ⟨l,?_⟩
 have:=h1.1
 rw [flat1 (fun s:Str=>AV.str s)] at this
 exact this
theorem zipW_unzip {α β γ:Type} (C:α→β→γ) (l:List (α × β)):List.zipWith C (l.map (·.1)) (l.map (·.2))=l.map fun z=>C z.1 z.2:=by
 induction l with
 | nil=>rfl
 | cons z l ih=>rw [List.map_cons,List.map_cons,List.zipWith_cons_cons,ih,List.map_cons]
theorem rn_of {H:Hp} {l:List AV} {d:D} (hl:l.length=4) (h:Is H RnTy l d):∃ z:RA × Rn,l=runC z.1 z.2∧RV H z.1.dx z.1.xs z.1.tx z.1.sx z.2:=by
 cases h with
 | @struct _ _ _ ds _ hn hd=>
  have at':∀ j,j < 4→∃ d,ds[j]? = some d:=fun j hj=>⟨_,List.getElem?_eq_getElem (by rw [hn]; exact hj)⟩
  obtain ⟨d0,e0⟩:=at' 0 (by omega)
  obtain ⟨d1,e1⟩:=at' 1 (by omega)
  obtain ⟨d2,e2⟩:=at' 2 (by omega)
  obtain ⟨d3,e3⟩:=at' 3 (by omega)
  have k0:=hd 0 _ _ rfl e0
  obtain ⟨z1,f1,_⟩:=is_i (hd 1 _ _ rfl e1)
  obtain ⟨x2,f2,g2⟩:=is_sl (hd 2 _ _ rfl e2)
  obtain ⟨x3,f3,g3⟩:=is_sl (hd 3 _ _ rfl e3)
  have h0:∃ dx dd,(l.drop 0).take 1=[dx]∧Is H (.slice 6 TkTy) [dx] dd:=by
   have h1:((l.drop 0).take 1).length=1:=by rw [List.length_take,List.length_drop,hl]; rfl
   generalize hL:(l.drop 0).take 1=L at h1
   have k0':Is H (.struct 1 [(0,1,.slice 6 TkTy)]) L d0:=by rw [← hL]; exact k0
   cases k0' with
   | @struct _ _ _ es _ hn' hd'=>
    obtain ⟨c0,m0⟩:∃ c,es[0]? = some c:=⟨_,List.getElem?_eq_getElem (by rw [hn']; exact Nat.one_pos)⟩
    obtain ⟨x,f,g⟩:=is_sl (hd' 0 _ _ rfl m0)
    match L,h1 with
    | [u],_=>
     simp at f
     subst f
     exact ⟨u,c0,rfl,g⟩
  obtain ⟨dx,dd,f0,g0⟩:=h0
  obtain ⟨tl,t1,t2⟩:=row_of (fun z:AV × Tk=>tkC z.2 z.1) (fun _=>rfl) (fun z=>Rw H 1 z.1 (ints z.2.after)) (fun l d hl hi=>tk_of hl hi) (by decide) g0
  obtain ⟨rl,r1,_⟩:=row_of rtC (fun _=>rfl) (fun _=>True) (fun l d hl hi=>rt_of hl hi) (by decide) g2
  obtain ⟨sg,s1⟩:=strs_of g3
  refine ⟨(⟨dx,tl.map (·.1),x2,x3⟩,⟨tl.map (·.2),z1,rl,sg⟩),four hl f0 f1 f2 f3,⟨⟨by simp,?_,fun i x t hx ht => ?_⟩,r1,s1⟩⟩
  ·have e:List.zipWith tkC (tl.map (·.2)) (tl.map (·.1))=tl.map fun z=>tkC z.2 z.1:=by
    clear t1 t2
    induction tl with
    | nil=>rfl
    | cons z l ih=>rw [List.map_cons,List.map_cons,List.zipWith_cons_cons,ih,List.map_cons]
   rw [e]; exact t1
  ·rw [List.getElem?_map,Option.map_eq_some_iff] at hx ht
   obtain ⟨z,hz,rfl⟩:=hx
   obtain ⟨y,hy,rfl⟩:=ht
   rw [hz] at hy; cases hy
   exact t2 z (List.mem_of_getElem? hz)
theorem ke_of {H:Hp} {l:List AV} {d:D} (hl:l.length=3) (h:Is H KeTy l d):∃ x:Ke,l=keC x∧True:=by
 cases h with
 | @struct _ _ _ ds _ hn hd=>
  obtain ⟨d0,e0⟩:∃ c,ds[0]? = some c:=⟨_,List.getElem?_eq_getElem (by rw [hn]; exact Nat.two_pos)⟩
  obtain ⟨d1,e1⟩:∃ c,ds[1]? = some c:=⟨_,List.getElem?_eq_getElem (by rw [hn]; exact Nat.lt_succ_self _)⟩
  have k0:=hd 0 _ _ rfl e0
  obtain ⟨z1,f1,_⟩:=is_i (hd 1 _ _ rfl e1)
  match l,hl with
  | [a,b,c],_=>
   simp at f1 k0
   cases k0 with
   | @struct _ _ _ es _ hn' hd'=>
    obtain ⟨c0,m0⟩:∃ c,es[0]? = some c:=⟨_,List.getElem?_eq_getElem (by rw [hn']; exact Nat.two_pos)⟩
    obtain ⟨c1,m1⟩:∃ c,es[1]? = some c:=⟨_,List.getElem?_eq_getElem (by rw [hn']; exact Nat.lt_succ_self _)⟩
    obtain ⟨s0,g0,_⟩:=is_s (hd' 0 _ _ rfl m0)
    obtain ⟨s1,g1,_⟩:=is_s (hd' 1 _ _ rfl m1)
    simp at g0 g1
    subst g0 g1 f1
    exact ⟨((s0,s1),z1),rfl,trivial⟩
theorem st_of {H:Hp} {a:AV} {d:D} (h:IsA H StTy a d):∃ sa S,a = .agg (stC sa S)∧SV H.next H sa S:=by
 obtain ⟨l,rfl,h⟩:=h
 cases h with
 | @struct _ _ _ ds hl hn hd=>
  have at':∀ j,j < 6→∃ d,ds[j]? = some d:=fun j hj=>⟨_,List.getElem?_eq_getElem (by rw [hn]; exact hj)⟩
  obtain ⟨d0,e0⟩:=at' 0 (by omega)
  obtain ⟨d1,e1⟩:=at' 1 (by omega)
  obtain ⟨d2,e2⟩:=at' 2 (by omega)
  obtain ⟨d3,e3⟩:=at' 3 (by omega)
  obtain ⟨d4,e4⟩:=at' 4 (by omega)
  obtain ⟨d5,e5⟩:=at' 5 (by omega)
  obtain ⟨z0,f0,_⟩:=is_i (hd 0 _ _ rfl e0)
  obtain ⟨x1,f1,g1⟩:=is_sl (hd 1 _ _ rfl e1)
  obtain ⟨x2,f2,g2⟩:=is_sl (hd 2 _ _ rfl e2)
  obtain ⟨x3,f3,g3⟩:=is_sl (hd 3 _ _ rfl e3)
  obtain ⟨x4,f4,g4⟩:=is_sl (hd 4 _ _ rfl e4)
  obtain ⟨x5,f5,g5⟩:=is_sl (hd 5 _ _ rfl e5)
  obtain ⟨nms,q1⟩:=strs_of g1
  obtain ⟨txs,q2⟩:=strs_of g2
  obtain ⟨rl,q3,q3'⟩:=row_of (fun z:RA × Rn=>runC z.1 z.2) (fun _=>rfl) (fun z=>RV H z.1.dx z.1.xs z.1.tx z.1.sx z.2) (fun l d hl hi=>rn_of hl hi) (by decide) g3
  obtain ⟨ofs,q4⟩:=strs_of g4
  obtain ⟨ks,q5,_⟩:=row_of keC (fun _=>rfl) (fun _=>True) (fun l d hl hi=>ke_of hl hi) (by decide) g5
  refine ⟨⟨x1,x2,x3,x4,x5,rl.map (·.1)⟩,⟨z0,nms,txs,rl.map (·.2),ofs,ks⟩,?_,⟨q1,q2,?_,fun i r R hr hR => ?_,by simp,q4,q5,fun j hj => ?_⟩⟩
  ·show AV.agg l=_
   rw [six hl f0 f1 f2 f3 f4 f5]; rfl
  ·rw [zipW_unzip runC rl]; exact q3
  ·rw [List.getElem?_map,Option.map_eq_some_iff] at hr hR
   obtain ⟨z,hz,rfl⟩:=hr
   obtain ⟨y,hy,rfl⟩:=hR
   rw [hz] at hy; cases hy
   exact q3' z (List.mem_of_getElem? hz)
  ·rcases hj with z | z | z | z | z | z
   ·exact q1.lt j z
   ·exact q2.lt j z
   ·exact q3.1.lt j z
   ·exact q4.lt j z
   ·exact q5.1.lt j z
   ·obtain ⟨r,hr,hj⟩:=List.mem_flatMap.1 z
    obtain ⟨y,hy,rfl⟩:=List.mem_map.1 hr
    exact (q3' y hy).lt j hj
theorem f1M_nt:∀ (l:List (Str × Str)) (f f':Fm),f1M f l=some f'→f'.nms=f.nms++l.map (·.1)∧f'.txs=f.txs++l∧f'.ck=f.ck
 | [],f,f',h=>by cases h; simp
 | x::r,f,f',h=>by
  unfold f1M at h
  split at h
  ·rename_i hc
   obtain ⟨a,b,c⟩:=f1M_nt r _ _ h
   have:(defineM f x.1 x.2).1={ f with nms:=f.nms++[x.1],txs:=f.txs++[(x.1,showM (parseM x.2).1)] }:=by
    have h2:=hc.2.2
    unfold defineM at h2 ⊢
    split at h2
    ·cases h2
    ·rename_i n1
     rw [if_neg n1]
     split at h2
     ·rename_i n2; exact absurd h2 n2
     ·rename_i n2
      rw [if_neg n2]
      split at h2
      ·cases h2
      ·rename_i n3
       rw [if_neg n3]
   rw [this,hc.2.1] at a b c
   exact ⟨by rw [a]; simp,by rw [b]; simp,c⟩
  ·cases h
theorem f3M_all:∀ (l:List Ke) (f f':Fm),f3M f l=some f'→f'.ks=f.ks++l∧f'.nms=f.nms∧f'.txs=f.txs∧f'.rns=f.rns∧f'.ck=f.ck
 | [],f,f',h=>by cases h; simp
 | x::r,f,f',h=>by
  have h':(bif okK f x then f3M { f with ks:=f.ks++[x] } r else none)=some f':=h
  cases hk:okK f x with
  | false=>rw [hk] at h'; cases h'
  | true=>
   rw [hk] at h'
   obtain ⟨a,b,c,d,e⟩:=f3M_all r _ _ h'
   exact ⟨by rw [a]; simp,b,c,d,e⟩
theorem getT_at {l:List (Str × Str)} (hnd:(l.map (·.1)).Nodup) {x:Str × Str} (h:x∈l):getT l x.1=some x.2:=by
 cases hg:getT l x.1 with
 | none=>exact absurd rfl (getT_none hg x h)
 | some t=>
  obtain ⟨a,b,rfl,h3⟩:=getT_some hg
  rcases List.mem_append.1 h with hx | hx
  ·exact absurd rfl (h3 x hx)
  ·rcases List.mem_cons.1 hx with hx | hx
   ·rw [hx]
   ·rw [List.map_append,List.map_cons,List.nodup_append,List.nodup_cons] at hnd
    exact absurd (List.mem_map.2 ⟨x,hx,rfl⟩) hnd.2.1.1
theorem f2M_sm:∀ (l:List (Rn × Str)) (f f':Fm),f2M f l=some f'→(∀ x∈l,x.1.rs.length≤1000∧x.1.sg.length≤1000)→∀ x∈l,Sm x.1
 | [],f,f',h,hb,x,hx=>by cases hx
 | y::r,f,f',h,hb,x,hx=>by
  unfold f2M at h
  split at h
  ·rename_i hc
   rcases List.mem_cons.1 hx with rfl | hx
   ·have hts:=mayF_ts hc.2
    obtain ⟨z1,z2⟩:=defM_bd f x.2
    obtain ⟨b1,b2⟩:=hb x (.head _)
    exact ⟨by rw [hts]; omega,by rw [hts]; exact fun t ht=>by have:=z2 t ht; omega,b1,by omega⟩
   ·exact f2M_sm r _ _ h (fun z hz=>hb z (.tail _ hz)) x hx
  ·cases h
theorem from_plain {S:SS} {f:Fm} (h:fromM S=some f) (hnd:(f.txs.map (·.1)).Nodup) (hb:∀ R∈S.rs,R.rs.length≤1000∧R.sg.length≤1000):stateM f=S∧(∀ x∈f.rns,Sm x.1)∧f.rns.length≤64∧f.ks.length≤128∧f.nms.length=S.nms.length:=by
 unfold fromM at h
 cases hf0:f0B S with
 | true=>rw [hf0] at h; cases h
 | false=>
  rw [hf0] at h
  have h':((f1M { fm0 with ck:=S.ck } (S.nms.zip S.txs)).bind fun f=>(f2M f (S.rs.zip S.ofs)).bind fun f=>f3M f S.ks)=some f:=h
  obtain ⟨f1,h1,h'⟩:=Option.bind_eq_some_iff.1 h'
  obtain ⟨f2,h2,h3⟩:=Option.bind_eq_some_iff.1 h'
  obtain ⟨a1,a2,a3⟩:=f1M_nt _ _ _ h1
  obtain ⟨r1,r2⟩:=f1M_rns _ _ _ h1
  obtain ⟨b1,b2,b3,b4,b5⟩:=f2M_ks _ _ _ h2
  obtain ⟨c1,c2,c3,c4,c5⟩:=f3M_all _ _ _ h3
  unfold f0B at hf0
  simp only [Bool.or_eq_false_iff,Bool.not_eq_false',decide_eq_true_eq,decide_eq_false_iff_not] at hf0
  obtain ⟨_,_,g3,g4,g5,g6⟩:=hf0
  have e1:(S.nms.zip S.txs).map (·.1)=S.nms:=by rw [List.map_fst_zip]; omega
  have e2:(S.rs.zip S.ofs).map (·.1)=S.rs:=by rw [List.map_fst_zip]; omega
  have e3:(S.rs.zip S.ofs).map (·.2)=S.ofs:=by rw [List.map_snd_zip]; omega
  have e4:(S.nms.zip S.txs).map (·.2)=S.txs:=by rw [List.map_snd_zip]; omega
  have n1:f.nms=S.nms:=by rw [c2,b3,a1,e1]; rfl
  have n2:f.txs=S.nms.zip S.txs:=by rw [c3,b4,a2]; rfl
  have n3:f.rns=S.rs.zip S.ofs:=by rw [c4,b2,r1]; rfl
  have n4:f.ks=S.ks:=by rw [c1,b1,r2]; rfl
  have n5:f.ck=S.ck:=by rw [c5,b5,a3]
  have n6:f.nms.map (txOf f)=S.txs:=by
   rw [n1]
   conv=>lhs; rw [← e1]
   conv=>rhs; rw [← e4]
   rw [List.map_map]
   refine List.map_congr_left fun x hx => ?_
   show (getT f.txs x.1).getD []=x.2
   rw [getT_at hnd (by rw [n2]; exact hx)]; rfl
  refine ⟨?_,?_,by rw [n3,List.length_zip]; omega,by rw [n4]; omega,by rw [n1]⟩
  ·unfold stateM
   rw [n6,n5,n1,n3,n4,e2,e3]
  ·rw [n3]
   exact f2M_sm _ _ _ h2 fun x hx=>hb x.1 (List.of_mem_zip hx).1
theorem texts_loop {x y:AV} {l:List Str} {H:Hp} (hn:l.length≤1000) (hx:Rw H 1 x (strs l)) (hy:Rw H 1 y (strs l)) (j13:K.Fn 0):∀ (r:List Str) (i:Nat),i≤l.length→l.drop i=r→l_outriderlaw18_texts JN GO cK j13 x y (.int .i64 (i:Nat)) H=j13 H
 | [],i,hi,h=>by
  obtain rfl:=drop_nil hi h
  have hl:=hx.len1
  rw [strs_len] at hl
  rw [ql_outriderlaw18_texts]
  simp only [bl_outriderlaw18_texts,hl,lt_f,k_s,k_x,simprocAttr]
 | s::r,i,hi,h=>by
  obtain ⟨h1,h2,h3⟩:=hd_drop h
  have hl:=hx.len1
  rw [strs_len] at hl
  have es:=wrap_s h1 (by omega)
  obtain ⟨q,q1,q2⟩:=hx.ia1 (strs_get h2) .i64
  obtain ⟨w,w1,w2⟩:=hy.ia1 (strs_get h2) .i64
  have ih:=texts_loop hn hx hy j13 r (i + 1) h1 h3
  have hb:(s == s)=true:=beq_self_eq_true s
  rw [ql_outriderlaw18_texts]
  simp (disch:=(first | assumption | omega | (simp only [k_d,k_c,simprocAttr] <;> fail) | (simp only [k_c]; omega) | (simp only [k_d,k_c,simprocAttr, *] <;> fail) | fail)) only [bl_outriderlaw18_texts,hl,lt_t h1,q1,q2,w1,w2,hb,es,ih,k_a,k_b,k_s,k_x,simprocAttr]
theorem texts_c {x y:AV} {l:List Str} {H:Hp} (hn:l.length≤1000) (hx:Rw H 1 x (strs l)) (hy:Rw H 1 y (strs l)):cK (.func (.func 30) [] []) [x,y] H=some (.bool true,H):=by
 have h1:=hx.len1
 have h2:=hy.len1
 rw [strs_len] at h1 h2
 have i1:=fun j13=>texts_loop hn hx hy j13 l 0 (Nat.zero_le _) List.drop_zero
 rw [show (((0:Nat):Int))=0 from rfl] at i1
 refine c_outriderlaw18_texts ?_
 unfold s_outriderlaw18_texts
 simp (disch:=(first | assumption | omega | (simp only [k_d,k_c,simprocAttr] <;> fail) | (simp only [k_c]; omega) | (simp only [k_d,k_c,simprocAttr, *] <;> fail) | fail)) only [h1,h2,i1,k_a,k_b,k_s,k_x,simprocAttr]
def okR (R:Rn):Bool := !(decide (20 < R.rs.length)) && (!(decide (20 < R.sg.length)) && !(decide (20 < R.ts.length)))
theorem small_loop {sp:Nat} {sa:SA} {S:SS} {H:Hp} (hS:SV sp H sa S) (hc:Cs H sp (stC sa S) 56 0) (hn:S.rs.length≤1000) (j85:K.Fn 1):∀ (r:List Rn) (i:Nat),i≤S.rs.length→S.rs.drop i=r→
  l_outriderlaw18_FlowFrom JN GO cK j85 (.ptr sp 0) (.int .i64 (i:Nat)) H=if r.all okR=true then j85 (.ptr sp 0) H else some (.bool true,H)
 | [],i,hi,h=>by
  obtain rfl:=drop_nil hi h
  have k3:cellAt H sp 3=some sa.rx:=hc.cellAt rfl
  have l3:=hS.r.len (by decide)
  rw [List.length_zipWith,hS.len,Nat.min_self] at l3
  rw [ql_outriderlaw18_FlowFrom]
  simp (disch:=(first | assumption | omega | (simp only [k_d,k_c,simprocAttr] <;> fail) | (simp only [k_c]; omega) | (simp only [k_d,k_c,simprocAttr, *] <;> fail) | fail)) only [bl_outriderlaw18_FlowFrom,k3,l3,lt_f,List.all_nil,if_true,k_a,k_b,k_s,k_x,simprocAttr]
 | R::r,i,hi,h=>by
  obtain ⟨h1,h2,h3⟩:=hd_drop h
  have k3:cellAt H sp 3=some sa.rx:=hc.cellAt rfl
  have l3:=hS.r.len (by decide)
  rw [List.length_zipWith,hS.len,Nat.min_self] at l3
  have es:=wrap_s h1 (by omega)
  obtain ⟨ra,hra⟩:∃ ra,sa.ras[i]? = some ra:=⟨_,List.getElem?_eq_getElem (by rw [hS.len]; exact h1)⟩
  obtain ⟨b,o,q1,q2,q3,q4,q5⟩:=hS.r.at (by decide) (runs_at hra h2)
  have hv:=hS.v i ra R hra h2
  have c0:cellAt H b o=some ra.dx:=q5 0 _ rfl
  have c2:cellAt H b (o + 2)=some ra.tx:=q5 2 _ rfl
  have c3:cellAt H b (o + 3)=some ra.sx:=q5 3 _ rfl
  have m1:=hv.t.len (by decide)
  rw [rts_len] at m1
  have m2:=hv.s.len1
  rw [strs_len] at m2
  have m3:=hv.d.lenx
  have ih:=small_loop hS hc hn j85 r (i + 1) h1 h3
  rw [ql_outriderlaw18_FlowFrom]
  by_cases g1:20 < R.rs.length
  ·have d1:decide ((20:Int) < ((R.rs.length:Nat):Int))=true:=decide_eq_true (by omega)
   have hM:(R::r).all okR=false:=by rw [List.all_cons]; unfold okR; rw [decide_eq_true g1]; rfl
   rw [hM,if_neg (by decide)]
   simp (disch:=(first | assumption | omega | (simp only [k_d,k_c,simprocAttr] <;> fail) | (simp only [k_c]; omega) | (simp only [k_d,k_c,simprocAttr, *] <;> fail) | fail)) only [bl_outriderlaw18_FlowFrom,k3,l3,lt_t h1,q1,c0,c2,c3,m1,d1,k_a,k_b,k_s,k_x,simprocAttr]
  have d1:decide ((20:Int) < ((R.rs.length:Nat):Int))=false:=decide_eq_false (by omega)
  by_cases g2:20 < R.sg.length
  ·have d2:decide ((20:Int) < ((R.sg.length:Nat):Int))=true:=decide_eq_true (by omega)
   have hM:(R::r).all okR=false:=by rw [List.all_cons]; unfold okR; rw [decide_eq_true g2]; simp
   rw [hM,if_neg (by decide)]
   simp (disch:=(first | assumption | omega | (simp only [k_d,k_c,simprocAttr] <;> fail) | (simp only [k_c]; omega) | (simp only [k_d,k_c,simprocAttr, *] <;> fail) | fail)) only [bl_outriderlaw18_FlowFrom,k3,l3,lt_t h1,q1,c0,c2,c3,m1,m2,d1,d2,k_a,k_b,k_s,k_x,simprocAttr]
  have d2:decide ((20:Int) < ((R.sg.length:Nat):Int))=false:=decide_eq_false (by omega)
  by_cases g3:20 < R.ts.length
  ·have d3:decide ((20:Int) < ((R.ts.length:Nat):Int))=true:=decide_eq_true (by omega)
   have hM:(R::r).all okR=false:=by rw [List.all_cons]; unfold okR; rw [decide_eq_true g3]; simp
   rw [hM,if_neg (by decide)]
   simp (disch:=(first | assumption | omega | (simp only [k_d,k_c,simprocAttr] <;> fail) | (simp only [k_c]; omega) | (simp only [k_d,k_c,simprocAttr, *] <;> fail) | fail)) only [bl_outriderlaw18_FlowFrom,k3,l3,lt_t h1,q1,c0,c2,c3,m1,m2,m3,d1,d2,d3,k_a,k_b,k_s,k_x,simprocAttr]
  have d3:decide ((20:Int) < ((R.ts.length:Nat):Int))=false:=decide_eq_false (by omega)
  have hM:(R::r).all okR=r.all okR:=by rw [List.all_cons]; unfold okR; rw [decide_eq_false g1,decide_eq_false g2,decide_eq_false g3]; rfl
  rw [hM,← ih]
  simp (disch:=(first | assumption | omega | (simp only [k_d,k_c,simprocAttr] <;> fail) | (simp only [k_c]; omega) | (simp only [k_d,k_c,simprocAttr, *] <;> fail) | fail)) only [bl_outriderlaw18_FlowFrom,k3,l3,lt_t h1,q1,c0,c2,c3,m1,m2,m3,d1,d2,d3,es,k_a,k_b,k_s,k_x,simprocAttr]
theorem sameR_refl (R:Rn):sameR R R=true:=by unfold sameR; simp
theorem same_loop {sp tp q N:Nat} {sa ta:SA} {S:SS} (hn:S.rs.length≤1000) (hsm:∀ R∈S.rs,Sm R):∀ (r:List Rn) (i:Nat) (H:Hp),i≤S.rs.length→S.rs.drop i=r→SV sp H sa S→SB N H q ta S→Cs H sp (stC sa S) 56 0→Cs H tp (stC ta S) 56 0→
  ∃ H',(∀ j373:K.Fn 2,l_outriderlaw18_FlowFrom1 JN GO cK j373 (.ptr sp 0) (.ptr tp 0) (.int .i64 (i:Nat)) H=j373 (.ptr sp 0) (.ptr tp 0) H')∧Out [] H H'
 | [],i,H,hi,h,hS,hT,hc,ht=>by
  obtain rfl:=drop_nil hi h
  have k3:cellAt H tp 3=some ta.rx:=ht.cellAt rfl
  have l3:=hT.r.rl.len (by decide)
  rw [List.length_zipWith,hT.len,Nat.min_self] at l3
  refine ⟨H,fun j373 => ?_,Out.refl _ _⟩
  rw [ql_outriderlaw18_FlowFrom1]
  simp (disch:=(first | assumption | omega | (simp only [k_d,k_c,simprocAttr] <;> fail) | (simp only [k_c]; omega) | (simp only [k_d,k_c,simprocAttr, *] <;> fail) | fail)) only [bl_outriderlaw18_FlowFrom1,k3,l3,lt_f,k_a,k_b,k_s,k_x,simprocAttr]
 | R::r,i,H,hi,h,hS,hT,hc,ht=>by
  obtain ⟨h1,h2,h3⟩:=hd_drop h
  have k3:cellAt H tp 3=some ta.rx:=ht.cellAt rfl
  have s3:cellAt H sp 3=some sa.rx:=hc.cellAt rfl
  have l3:=hT.r.rl.len (by decide)
  rw [List.length_zipWith,hT.len,Nat.min_self] at l3
  have es:=wrap_s h1 (by omega)
  obtain ⟨ra,hra⟩:∃ ra,sa.ras[i]? = some ra:=⟨_,List.getElem?_eq_getElem (by rw [hS.len]; exact h1)⟩
  obtain ⟨rb,hrb⟩:∃ rb,ta.ras[i]? = some rb:=⟨_,List.getElem?_eq_getElem (by rw [hT.len]; exact h1)⟩
  obtain ⟨b,o,q1,q2,q3,q4,q5⟩:=hS.r.at (by decide) (runs_at hra h2)
  obtain ⟨b',o',p1,p2,p3,p4,p5⟩:=hT.r.rl.at (by decide) (runs_at hrb h2)
  have hs:=hsm R (List.mem_of_getElem? h2)
  obtain ⟨H1,y1,y2⟩:=sameG_c (by have:=hs.r; omega) (by have:=hs.s; omega) (by have:=hs.n; omega) (fun t ht=>by have:=hs.a t ht; omega) (hT.v i rb R hrb h2) (hS.v i ra R hra h2)
  have y1':cK (.func (.func 31) [] []) [.agg (runC rb R),.agg (runC ra R)] H=some (.bool true,H1):=by rw [← sameR_refl R]; exact y1
  obtain ⟨H',i1,i2⟩:=same_loop (sp:=sp) (tp:=tp) hn hsm r (i + 1) H1 h1 h3 (hS.out0 y2) (hT.out0 y2) (hc.out y2 (by simp)) (ht.out y2 (by simp))
  refine ⟨H',fun j373 => ?_,y2.trans i2⟩
  rw [ql_outriderlaw18_FlowFrom1]
  simp (disch:=(first | assumption | omega | (simp only [k_d,k_c,simprocAttr] <;> fail) | (simp only [k_c]; omega) | (simp only [k_d,k_c,simprocAttr, *] <;> fail) | fail)) only [bl_outriderlaw18_FlowFrom1,k3,s3,l3,lt_t h1,p1,p4,q1,q4,y1',es,i1,k_a,k_b,k_s,k_x,simprocAttr]
theorem eqA_ke (a b a' b':Str) (c c':Int) (H:Hp):eqA P 50 71 (.agg [.str a,.str b,.int .i64 c]) (.agg [.str a',.str b',.int .i64 c']) H=allO (fun z:Option Bool=>z) [allO (fun z:Bool=>some z) [a == a',b == b'],some (c == c')]:=by kernel_rfl
theorem eqG_ke:Program.eqGuardType P P.depth 71=false:=by kernel_rfl
theorem ne_ke (x:Ke) (H:Hp):gA P .neq 71 false (.agg (keC x)) (.agg (keC x))=true∧binA P .neq 71 (.agg (keC x)) (.agg (keC x)) H=some (.bool false):=by
 constructor
 ·show (!(Program.eqGuardType P P.depth 71))=true
  rw [eqG_ke]; rfl
 ·show (eqA P 50 71 (.agg (keC x)) (.agg (keC x)) H).map (fun b=>AV.bool !b)=_
  have h:eqA P 50 71 (.agg (keC x)) (.agg (keC x)) H=_:=eqA_ke x.1.1 x.1.2 x.1.1 x.1.2 x.2 x.2 H
  rw [h]
  simp [allO]
theorem keq_loop {sp tp q N:Nat} {sa ta:SA} {S:SS} {H:Hp} (hn:S.ks.length≤1000) (hS:SV sp H sa S) (hT:SB N H q ta S) (hc:Cs H sp (stC sa S) 56 0) (ht:Cs H tp (stC ta S) 56 0) (j424:K.Fn 0):∀ (r:List Ke) (i:Nat),i≤S.ks.length→S.ks.drop i=r→
  l_outriderlaw18_FlowFrom2 JN GO cK j424 (.ptr sp 0) (.ptr tp 0) (.int .i64 (i:Nat)) H=j424 H
 | [],i,hi,h=>by
  obtain rfl:=drop_nil hi h
  have k5:cellAt H tp 5=some ta.kx:=ht.cellAt rfl
  have l5:=hT.k.len (by decide)
  rw [List.length_map] at l5
  rw [ql_outriderlaw18_FlowFrom2]
  simp (disch:=(first | assumption | omega | (simp only [k_d,k_c,simprocAttr] <;> fail) | (simp only [k_c]; omega) | (simp only [k_d,k_c,simprocAttr, *] <;> fail) | fail)) only [bl_outriderlaw18_FlowFrom2,k5,l5,lt_f,k_a,k_b,k_s,k_x,simprocAttr]
 | x::r,i,hi,h=>by
  obtain ⟨h1,h2,h3⟩:=hd_drop h
  have k5:cellAt H tp 5=some ta.kx:=ht.cellAt rfl
  have s5:cellAt H sp 5=some sa.kx:=hc.cellAt rfl
  have l5:=hT.k.len (by decide)
  rw [List.length_map] at l5
  have es:=wrap_s h1 (by omega)
  have hx:(S.ks.map keC)[i]? = some (keC x):=by rw [List.getElem?_map,h2]; rfl
  obtain ⟨b,o,q1,q2,q3,q4,q5⟩:=hS.k.at (by decide) hx
  obtain ⟨b',o',p1,p2,p3,p4,p5⟩:=hT.k.at (by decide) hx
  obtain ⟨g1,g2⟩:=ne_ke x H
  have ih:=keq_loop (sp:=sp) (tp:=tp) hn hS hT hc ht j424 r (i + 1) h1 h3
  rw [ql_outriderlaw18_FlowFrom2]
  simp (disch:=(first | assumption | omega | (simp only [k_d,k_c,simprocAttr] <;> fail) | (simp only [k_c]; omega) | (simp only [k_d,k_c,simprocAttr, *] <;> fail) | fail)) only [bl_outriderlaw18_FlowFrom2,k5,s5,l5,lt_t h1,p1,p4,q1,q4,g1,IFT_t,g2,es,ih,k_a,k_b,k_s,k_x,simprocAttr]
theorem begin_lo (g:Nat) (l:List AV) (hg:(g,l)∈begin0):g < 11:=by
 have h:begin0.all (fun x=>Nat.blt x.1 11)=true:=by kernel_rfl
 have:=List.all_eq_true.1 h (g,l) hg
 simpa using this
theorem hasT_keep {H H':Hp} (h:hasT H begin0) (hn:11≤H.next) (k:Out [] H H'):hasT H' begin0:=by
 obtain ⟨el,h⟩:=h
 refine ⟨el,fun g l hg => ?_⟩
 have:=begin_lo g l hg
 rw [k.2 g (by omega) (fun q=>by cases q)]
 exact h g l hg
theorem SV.mono {N M:Nat} {H:Hp} {a:SA} {S:SS} (h:SV N H a S) (hm:N≤M):SV M H a S:=⟨h.n,h.t,h.r,h.v,h.len,h.o,h.k,fun j hj=>Nat.lt_of_lt_of_le (h.b j hj) hm⟩
theorem flowFrom_c {H:Hp} {sa:SA} {S:SS} (hS:SV H.next H sa S) (hT:hasT H begin0) (hnx:11≤H.next):∃ H',cK (.func (.func 8) [] []) [.agg (stC sa S)] H=some (.bool true,H'):=by
 have hbx:bx 56 (.agg (stC sa S)) H=some (H.next,al H (stC sa S) 56 0):=bx_alA (by simp [stC])
 have o1:=al_out H (stC sa S) 56 0
 have c1:=al_cs H (stC sa S) 56 0
 have n1:(al H (stC sa S) 56 0).next=H.next + 1:=rfl
 generalize hA1:al H (stC sa S) 56 0=H1 at *
 have hT1:=hasT_keep hT hnx o1
 have hn1:11≤H1.next:=by omega
 have hg:=Gl.of hT1 hn1
 have haw:=awake_c an hT1 hn1
 have hS1:=hS.out0 o1
 have k1:cellAt H1 H.next 1=some sa.nx:=c1.cellAt rfl
 have k2:cellAt H1 H.next 2=some sa.tx:=c1.cellAt rfl
 have k3:cellAt H1 H.next 3=some sa.rx:=c1.cellAt rfl
 have k4:cellAt H1 H.next 4=some sa.ox:=c1.cellAt rfl
 have k5:cellAt H1 H.next 5=some sa.kx:=c1.cellAt rfl
 have l1:=hS.n.len1
 have l2:=hS.t.len1
 have l4:=hS.o.len1
 rw [strs_len] at l1 l2 l4
 have l3:=hS.r.len (by decide)
 rw [List.length_zipWith,hS.len,Nat.min_self] at l3
 have l5:=hS.k.len (by decide)
 rw [List.length_map] at l5
 have kq:cellsAt H1 H.next 0 6=some (stC sa S):=c1.cellsAt 6 0 (by simp [stC])
 by_cases g1:20 < S.nms.length
 ·have d1:decide ((20:Int) < ((S.nms.length:Nat):Int))=true:=decide_eq_true (by omega)
  refine ⟨H1,c_outriderlaw18_FlowFrom ?_⟩
  unfold s_outriderlaw18_FlowFrom
  simp (maxSteps:=10000000) (disch:=(first | assumption | omega | (simp only [k_d,k_c,simprocAttr] <;> fail) | (simp only [k_c]; omega) | (simp only [k_d,k_c,simprocAttr, *] <;> fail) | fail)) only [hbx,hA1,haw,k1,l1,d1,k_a,k_b,k_s,k_x,simprocAttr]
 have d1:decide ((20:Int) < ((S.nms.length:Nat):Int))=false:=decide_eq_false (by omega)
 by_cases g2:20 < S.txs.length
 ·have d2:decide ((20:Int) < ((S.txs.length:Nat):Int))=true:=decide_eq_true (by omega)
  refine ⟨H1,c_outriderlaw18_FlowFrom ?_⟩
  unfold s_outriderlaw18_FlowFrom
  simp (maxSteps:=10000000) (disch:=(first | assumption | omega | (simp only [k_d,k_c,simprocAttr] <;> fail) | (simp only [k_c]; omega) | (simp only [k_d,k_c,simprocAttr, *] <;> fail) | fail)) only [hbx,hA1,haw,k1,k2,l1,l2,d1,d2,k_a,k_b,k_s,k_x,simprocAttr]
 have d2:decide ((20:Int) < ((S.txs.length:Nat):Int))=false:=decide_eq_false (by omega)
 by_cases g3:20 < S.rs.length
 ·have d3:decide ((20:Int) < ((S.rs.length:Nat):Int))=true:=decide_eq_true (by omega)
  refine ⟨H1,c_outriderlaw18_FlowFrom ?_⟩
  unfold s_outriderlaw18_FlowFrom
  simp (maxSteps:=10000000) (disch:=(first | assumption | omega | (simp only [k_d,k_c,simprocAttr] <;> fail) | (simp only [k_c]; omega) | (simp only [k_d,k_c,simprocAttr, *] <;> fail) | fail)) only [hbx,hA1,haw,k1,k2,k3,l1,l2,l3,d1,d2,d3,k_a,k_b,k_s,k_x,simprocAttr]
 have d3:decide ((20:Int) < ((S.rs.length:Nat):Int))=false:=decide_eq_false (by omega)
 by_cases g4:20 < S.ofs.length
 ·have d4:decide ((20:Int) < ((S.ofs.length:Nat):Int))=true:=decide_eq_true (by omega)
  refine ⟨H1,c_outriderlaw18_FlowFrom ?_⟩
  unfold s_outriderlaw18_FlowFrom
  simp (maxSteps:=10000000) (disch:=(first | assumption | omega | (simp only [k_d,k_c,simprocAttr] <;> fail) | (simp only [k_c]; omega) | (simp only [k_d,k_c,simprocAttr, *] <;> fail) | fail)) only [hbx,hA1,haw,k1,k2,k3,k4,l1,l2,l3,l4,d1,d2,d3,d4,k_a,k_b,k_s,k_x,simprocAttr]
 have d4:decide ((20:Int) < ((S.ofs.length:Nat):Int))=false:=decide_eq_false (by omega)
 by_cases g5:20 < S.ks.length
 ·have d5:decide ((20:Int) < ((S.ks.length:Nat):Int))=true:=decide_eq_true (by omega)
  refine ⟨H1,c_outriderlaw18_FlowFrom ?_⟩
  unfold s_outriderlaw18_FlowFrom
  simp (maxSteps:=10000000) (disch:=(first | assumption | omega | (simp only [k_d,k_c,simprocAttr] <;> fail) | (simp only [k_c]; omega) | (simp only [k_d,k_c,simprocAttr, *] <;> fail) | fail)) only [hbx,hA1,haw,k1,k2,k3,k4,k5,l1,l2,l3,l4,l5,d1,d2,d3,d4,d5,k_a,k_b,k_s,k_x,simprocAttr]
 have d5:decide ((20:Int) < ((S.ks.length:Nat):Int))=false:=decide_eq_false (by omega)
 have i1:=fun j85=>small_loop hS1 c1 (by omega) j85 S.rs 0 (Nat.zero_le _) List.drop_zero
 rw [show (((0:Nat):Int))=0 from rfl] at i1
 cases hok:S.rs.all okR with
 | false=>
  simp only [hok,Bool.false_eq_true,if_false] at i1
  refine ⟨H1,c_outriderlaw18_FlowFrom ?_⟩
  unfold s_outriderlaw18_FlowFrom
  simp (maxSteps:=10000000) (disch:=(first | assumption | omega | (simp only [k_d,k_c,simprocAttr] <;> fail) | (simp only [k_c]; omega) | (simp only [k_d,k_c,simprocAttr, *] <;> fail) | fail)) only [hbx,hA1,haw,k1,k2,k3,k4,k5,l1,l2,l3,l4,l5,d1,d2,d3,d4,d5,i1,k_a,k_b,k_s,k_x,simprocAttr]
 | true=>
 simp only [hok,if_true] at i1
 have hb:∀ R∈S.rs,R.rs.length≤1000∧R.sg.length≤1000:=fun R hR=>by
  have:=List.all_eq_true.1 hok R hR
  unfold okR at this
  simp only [Bool.and_eq_true,Bool.not_eq_true',decide_eq_false_iff_not] at this
  omega
 obtain ⟨p,a,H2,f1,f2⟩:=from_c (hS1.mono (M:=H1.next) (by omega)) hg (by omega) hb
 cases hM:fromM S with
 | none=>
  rw [hM] at f1
  refine ⟨H2,c_outriderlaw18_FlowFrom ?_⟩
  unfold s_outriderlaw18_FlowFrom
  simp (maxSteps:=10000000) (disch:=(first | assumption | omega | (simp only [k_d,k_c,simprocAttr] <;> fail) | (simp only [k_c]; omega) | (simp only [k_d,k_c,simprocAttr, *] <;> fail) | fail)) only [hbx,hA1,haw,k1,k2,k3,k4,k5,l1,l2,l3,l4,l5,d1,d2,d3,d4,d5,i1,kq,f1,k_a,k_b,k_s,k_x,simprocAttr]
 | some f=>
 rw [hM] at f1
 obtain ⟨hF,o2,_⟩:=f2 f hM
 obtain ⟨e1,e2,e3,e4,e5⟩:=from_plain hM hF.tnd hb
 obtain ⟨ta,q,H3,s1,s2,s3⟩:=state_c hF (by omega) (by omega) (by omega) e2
 rw [e1] at s1 s2
 have hz:st 6 (.ptr H3.next 0) (.agg (stC ta S)) (al H3 [(.int .i64 0),.slice0,.slice0,.slice0,.slice0,.slice0] 56 0)=some (al H3 (stC ta S) 56 0):=st_alN (by simp [stC,s2.n.one,s2.t.rw.one,s2.r.rl.one,s2.o.rw.one,s2.k.one,oneC_i]) rfl rfl (by decide) rfl
 have o4:=al_out H3 (stC ta S) 56 0
 have c4:=al_cs H3 (stC ta S) 56 0
 generalize hA4:al H3 (stC ta S) 56 0=H4 at *
 have o14:=(o2.trans s3).trans o4
 have cb:=c1.out o14 (by simp)
 have hS4:=hS1.out0 o14
 have hT4:=s2.out0 o4
 have u0:cellAt H4 H.next 0=some (.int .i64 S.ck):=cb.cellAt rfl
 have u1:cellAt H4 H.next 1=some sa.nx:=cb.cellAt rfl
 have u2:cellAt H4 H.next 2=some sa.tx:=cb.cellAt rfl
 have u3:cellAt H4 H.next 3=some sa.rx:=cb.cellAt rfl
 have u4:cellAt H4 H.next 4=some sa.ox:=cb.cellAt rfl
 have u5:cellAt H4 H.next 5=some sa.kx:=cb.cellAt rfl
 have v0:cellAt H4 H3.next 0=some (.int .i64 S.ck):=c4.cellAt rfl
 have v1:cellAt H4 H3.next 1=some ta.nx:=c4.cellAt rfl
 have v2:cellAt H4 H3.next 2=some ta.tx:=c4.cellAt rfl
 have v3:cellAt H4 H3.next 3=some ta.rx:=c4.cellAt rfl
 have v4:cellAt H4 H3.next 4=some ta.ox:=c4.cellAt rfl
 have v5:cellAt H4 H3.next 5=some ta.kx:=c4.cellAt rfl
 have t1:=texts_c (by omega) hT4.n hS4.n
 have t2:=texts_c (by omega) hT4.t.rw hS4.t
 have t4:=texts_c (by omega) hT4.o.rw hS4.o
 have m3:=hT4.r.rl.len (by decide)
 rw [List.length_zipWith,hT4.len,Nat.min_self] at m3
 have m5:=hT4.k.len (by decide)
 rw [List.length_map] at m5
 have bk:(S.ck != S.ck)=false:=by simp
 have b3:(((S.rs.length:Nat):Int) != ((S.rs.length:Nat):Int))=false:=by simp
 have b5:(((S.ks.length:Nat):Int) != ((S.ks.length:Nat):Int))=false:=by simp
 have hsm:∀ R∈S.rs,Sm R:=fun R hR=>by
  have e:S.rs=f.rns.map (·.1):=by rw [← e1]; rfl
  rw [e] at hR
  obtain ⟨x,hx,rfl⟩:=List.mem_map.1 hR
  exact e2 x hx
 obtain ⟨H5,y1,y2⟩:=same_loop (sp:=H.next) (tp:=H3.next) (by omega) hsm S.rs 0 H4 (Nat.zero_le _) List.drop_zero hS4 hT4 cb c4
 rw [show (((0:Nat):Int))=0 from rfl] at y1
 have z1:=fun j424=>keq_loop (sp:=H.next) (tp:=H3.next) (by omega) (hS4.out0 y2) (hT4.out0 y2) (cb.out y2 (by simp)) (c4.out y2 (by simp)) j424 S.ks 0 (Nat.zero_le _) List.drop_zero
 rw [show (((0:Nat):Int))=0 from rfl] at z1
 refine ⟨H5,c_outriderlaw18_FlowFrom ?_⟩
 unfold s_outriderlaw18_FlowFrom
 simp (maxSteps:=10000000) (disch:=(first | assumption | omega | (simp only [k_d,k_c,simprocAttr] <;> fail) | (simp only [k_c]; omega) | (simp only [k_d,k_c,simprocAttr, *] <;> fail) | fail)) only [hbx,hA1,haw,k1,k2,k3,k4,k5,l1,l2,l3,l4,l5,d1,d2,d3,d4,d5,i1,kq,f1,s1,hz,hA4,u0,u1,u2,u3,u4,u5,v0,v1,v2,v3,v4,v5,t1,t2,t4,m3,m5,bk,b3,b5,y1,z1,k_a,k_b,k_s,k_x,simprocAttr]
theorem from_top {H:Hp} {as':List AV} {ds:List D} (h:ArgsIs H [StTy] as' ds) (hT:hasT H begin0) (hn:11≤H.next):∃ H',cK (.func (.func 8) [] []) as' H=some (.bool true,H'):=by
 cases h with
 | cons h0 h=>
 cases h
 obtain ⟨sa,S,rfl,hS⟩:=st_of h0
 exact flowFrom_c hS hT hn
end Go.Proofs.YtkhhnpkmblldbaaGreatDoor.DfK
namespace Go.Proofs.YtkhhnpkmblldbaaGreatDoor.Hand
open Go
set_option linter.unusedVariables false
theorem size_open {P:Program} {w:World} (h:w.ShapedOpen P) {g:Nat} (hg:g + 1=P.globals.size) (hr:(((begin P (fun _ _=>0) default).world.heap[g]?).bind Obj.row?).isSome=true):P.globals.size≤w.heap.size:=by
 obtain ⟨⟨zero,t⟩,hr⟩:=Option.isSome_iff_exists.1 hr
 obtain ⟨cs,hc,_⟩:=h.1 g zero t (by omega) hr
 have:=(Array.getElem?_eq_some_iff.1 hc).1
 omega
variable {H:Type} {enc:TypeId × Value→H}
theorem handed {a:Assume} {C:Checked} {os:Os} {f:FuncId} {fn:Func} {s:ChangeSpec} {conds:List PathCond} {apart fresh handsOn again:Bool} {X:World→Array Value→Prop} {g:Nat}
  (hg:g + 1=C.prog.globals.size) (hr:(((begin C.prog (fun _ _=>0) default).world.heap[g]?).bind Obj.row?).isSome=true)
  (hX:∀ (w w':World) (args:Array Value),w.heap=w'.heap→X w args→X w' args)
  (own:ownKnob C.prog.godebug=none) (started:os.Started) (noInit:C.prog.inits.idxOf? f=none) (hfn:C.prog.funcs[f]? = some fn)
  (witness:∃ (w:World) (tape:Tape) (i:Input),w.os=os∧(w.forCall tape i).Shaped C.prog∧i.vars=[]∧Input.okWide C.prog (w.forCall tape i) .any w.heap.size f i∧
   ((s.pre enc C.prog fn conds apart (w.forCall tape i).memory i.args∧X (w.forCall tape i).memory i.args)∧sizedMet enc C.prog fn (OpenSpec.ofChange s) apart (w.forCall tape i).memory i.args)∧a.holds C.prog (lone (Frame.enter C.prog f i.args .normal) [] (w.forCall tape i)))
  (contract:∀ (W:World) (base:Nat) (args:Array Value) (ds gs:List (DataW H)) (before:List MemPlace),C.prog.globals.size≤W.heap.size→
   (∀ (j:Nat) t v,fn.params[j]? = some t→args[j]? = some v→Value.okWide C.prog W .any base t v)→
   DataW.Whole enc C.prog fn.params.toList s.vars apart W args.toList ds gs before→
   conds.all (PathCond.test C.prog ⟨fn.params.toList,ds,s.plain.varTypes C.prog,gs⟩)=true→
   (DataW.weightsEach C.prog (fn.params.toList++s.plain.varTypes C.prog) (ds++gs)).all (·≤reachBytes)=true→X W args→
   a.holds C.prog (lone (Frame.enter C.prog f args .normal) [] W)→
   Calls C.prog f args W fun e W'=>∃ v,e = .returned v∧s.post enc C.prog fn apart fresh handsOn again W args v W') :
  ReturnsInHanded a C os f .any (fun w args=>(s.pre enc C.prog fn conds apart w args∧X w args)∧sizedMet enc C.prog fn (OpenSpec.ofChange s) apart w args) (s.post enc C.prog fn apart fresh handsOn again):=
 returnsInHanded_of_calls own started noInit witness fun w tape i _ hsh _ hok hpre hholds=>by
  obtain ⟨_,_,_,fn',hfn',_,_,_,_,hval⟩:=hok
  obtain rfl:fn'=fn:=Option.some.inj (hfn'.symm.trans hfn)
  obtain ⟨⟨⟨ds,gs,before,hw,hc⟩,hx⟩,hz⟩:=hpre
  refine (contract (w.forCall tape i) w.heap.size i.args ds gs before (size_open hsh hg hr) hval (DataW.Whole.of_heap (w':=w.forCall tape i) (by rfl) hw) hc (hz.weights hw) (hX _ _ _ (by rfl) hx) hholds).mono fun e W' hp => ?_
  obtain ⟨v,rfl,hp⟩:=hp
  exact ChangeSpec.post_blind hp
end Go.Proofs.YtkhhnpkmblldbaaGreatDoor.Hand
