/- Regions with continuations, and loops (of no program). -/
import Derived.Test.YtodfajmihkagnaaGreatDoorAm11
import Derived.Laws.IdiomRangeMap
set_option linter.unusedVariables false
set_option linter.unusedSimpArgs false
namespace Go.Proofs.YtodfajmihkagnaaGreatDoor.Am
section
section
section
set_option linter.unusedVariables false
set_option linter.unusedSimpArgs false
namespace K
section
variable (P:Program)
def wg (n:Nat)(dst:Option Tmp):Bool:=match dst with | none=>true | some d=>Nat.blt d n&&Nat.blt d 4294967296
def gL (dst:Option Tmp)(v:AV)(t:Tm):Tm:=match dst with | none=>t | some d=>t.put 34 d v
def gv (ops:Array Oper)(j:Nat)(t:Tm):AV:=match (ops[j]?).bind (·.dst) with | none=>cq | some d=>(t.get d).getD cq
def wv (want:Bool)(g:AV):Option Bool:=match g with | .bool b=>some (b==want) | .dD=>none | _=>some false
def GO (g:AV)(want:Bool)(f:(AV->Hp->R)->R)(k:AV->Hp->R)(H:Hp):R:=match wv want g with | some true=>f k | some false=>k cq H | none=>none
def SM (a b:AV)(x:R):R:=bif same a b then x else none
def wz (cf:CF)(n:Nat)(ops:Array Oper):List Oper->Tm->Hp->KN->R
 | [],t,H,k=>k t H
 | o::r,t,H,k=>bif wg n o.dst then (match o.guard with
   | none=>ey P cf o t H fun v H=>wz cf n ops r (gL o.dst v t) H k
   | some (j,want)=>GO (gv ops j t) want (fun k'=>ey P cf o t H k') (fun v H=>wz cf n ops r (gL o.dst v t) H k) H) else none
def ka:CF:=fun _ _ _=>none
def pt (s:kH)(x:R):List kH->R
 | []=>x
 | r::l=>match r.k with
  | .pure=>pt s x l
  | .read=>bif Nat.blt r.i s.i then (bif s.b.testBit r.i then pt s x l else ey P ka r.o r.t s.ha fun v _=>SM r.v v (pt s x l))
    else (bif r.b.testBit s.i then pt s x l else ey P ka r.o r.t s.hb fun v _=>SM r.v v (pt s x l))
  | _=>bif !(Nat.blt r.i s.i)||s.b.testBit r.i then pt s x l else none
def yv (all:List kH)(x:R):List kH->R
 | []=>x
 | s::l=>match s.k with
  | .dE=>pt P s (yv all x l) all
  | _=>yv all x l
def vg:List (Nat × AV)->Nat->Option AV
 | [],_=>none
 | (e,v)::r,d=>bif Nat.beq e d then some v else vg r d
def oO:List (Nat × AV)->Option Tmp->List (Nat × AV)
 | kn,none=>kn
 | [],some _=>[]
 | (e,v)::r,some d=>bif Nat.beq e d then oO r (some d) else (e,v)::oO r (some d)
def Jx (kn:List (Nat × AV)):Option Tmp->List (Nat × AV)
 | none=>kn
 | some d=>(d,cq)::oO kn (some d)
def gZ (g:AV)(want:Bool)(x y:R):R:=match g with | .bool b=>bif b==want then x else y | _=>none
def lq (cf:CF)(n:Nat)(ops:Array Oper):Nat->List Oper->List Nat->List (Nat × AV)->Tm->Tm->Hp->Hp->List kH->KN->R
 | _,[],_,_,_,te,_,h,acc,k=>yv P acc (k te h) acc
 | _,_::_,[],_,_,_,_,_,_,_=>none
 | i,o::r,b::bs,kn,tp,te,hb,h,acc,k=>bif wg n o.dst then
   let go:List (Nat × AV)->Tm->R:=fun kn tp=>match kd P o with
    | .late=>ey P ka o te h fun v h'=>lq cf n ops (i+1) r bs (oO kn o.dst) (gL o.dst .dD tp) (gL o.dst v te) hb h' (acc++[⟨i,o,b,true,.late,v,tp,hb,hb⟩]) k
    | .dE=>ey P cf o te h fun v h'=>lq cf n ops (i+1) r bs (oO kn o.dst) (gL o.dst v tp) (gL o.dst v te) h' h' (acc++[⟨i,o,b,true,.dE,v,tp,hb,h'⟩]) k
    | .pure=>ey P ka o tp hb fun v _=>lq cf n ops (i+1) r bs (oO kn o.dst) (gL o.dst v tp) (gL o.dst v te) hb h (acc++[⟨i,o,b,true,.pure,v,tp,hb,hb⟩]) k
    | .read=>ey P ka o tp hb fun v _=>lq cf n ops (i+1) r bs (oO kn o.dst) (gL o.dst v tp) (gL o.dst v te) hb h (acc++[⟨i,o,b,true,.read,v,tp,hb,hb⟩]) k
   let skip:List (Nat × AV)->Tm->R:=fun kn tp=>lq cf n ops (i+1) r bs (Jx kn o.dst) (gL o.dst cq tp) (gL o.dst cq te) hb h (acc++[⟨i,o,b,false,.pure,cq,tp,hb,hb⟩]) k
   match o.guard with
   | none=>go kn tp
   | some (j,want)=>match (ops[j]?).bind (·.dst) with
    | none=>skip kn tp
    | some d=>match vg kn d with
     | some c=>(match wv want c with | some true=>go kn tp | some false=>skip kn tp | none=>none)
     | none=>gZ ((tp.get d).getD cq) want (go ((d,.bool want)::kn) (gL (some d) (.bool want) tp)) (skip ((d,.bool !want)::kn) (gL (some d) (.bool !want) tp))
  else none
def sJ:sr:=fun cf n ops d t H k=>bif d then (bif yk ops then lq P cf n ops 0 ops.toList (before ops.toList []) [] t t H H [] k else none) else wz P cf n ops ops.toList t H k
end
section
variable {P:Program}
theorem CW {n:Nat}{dst:Option Tmp}{v:AV}{t:Tm}(h:wg n dst=true):gP n dst v t=some (gL dst v t):=by
 unfold gP gL
 cases dst with
 | none=>rfl
 | some d=>
  have h':(Nat.blt d n&&Nat.blt d 4294967296)=true:=h
  simp only[h',cond_true]
theorem X9 {ops:Array Oper}{o:Oper}{t:Tm}{j:Nat}{want:Bool}(h:o.guard=some (j,want)):ql ops o t=wv want (gv ops j t):=by
 unfold ql gv
 rw[h]
 simp only
 cases (ops[j]?).bind (·.dst) with
 | none=>rfl
 | some d=>
  simp only
  cases t.get d with
  | none=>rfl
  | some a=>cases a<;>rfl
theorem Uu {cf:CF}{n:Nat}{ops:Array Oper}:∀ (l:List Oper) (t:Tm) (H:Hp) (k:KN) (r:AV × Hp),wz P cf n ops l t H k=some r->∃ t' H',ub P cf n ops l t H=some (t',H')/\k t' H'=some r
 | [],t,H,k,r,h=>⟨t,H,rfl,h⟩
 | o::l,t,H,k,r,h=>by
  unfold wz at h
  cases hd:wg n o.dst with
  | false=>rw[hd] at h;cases h
  | true=>
   rw[hd] at h
   simp only[cond_true] at h
   have run:∀ (v:AV) (H':Hp),tQ P cf t o H=some (v,H')->ql ops o t=some true->wz P cf n ops l (gL o.dst v t) H' k=some r->∃ t' H',ub P cf n ops (o::l) t H=some (t',H')/\k t' H'=some r:=by
    intro v H' h1 h2 h3
    obtain⟨t2,H2,q1,q2⟩:=Uu l _ _ k r h3
    refine⟨t2,H2,?_,q2⟩
    unfold ub
    rw[h2]
    simp only[h1,CW hd]
    exact q1
   cases hg:o.guard with
   | none=>
    rw[hg] at h
    obtain⟨v,H',h1,h2⟩:=K2 h
    exact run v H' h1 (by unfold ql;rw[hg]) h2
   | some p=>
    obtain⟨j,want⟩:=p
    rw[hg] at h
    simp only at h
    unfold GO at h
    rw[<-X9 (o:=o) hg] at h
    cases hw:ql ops o t with
    | none=>rw[hw] at h;cases h
    | some b=>
     rw[hw] at h
     cases b with
     | true=>
      simp only at h
      obtain⟨v,H',h1,h2⟩:=K2 h
      exact run v H' h1 hw h2
     | false=>
      simp only at h
      obtain⟨t2,H2,q1,q2⟩:=Uu l _ _ k r h
      refine⟨t2,H2,?_,q2⟩
      unfold ub
      rw[hw]
      simp only[CW hd]
      exact q1
theorem Nr {o:Oper}{t:Tm}{H:Hp}{k:AV->Hp->R}{r:AV × Hp}(h:ey P ka o t H k=some r):∃ v H',iV P (ev P.globals.size t) o H=some (v,H')/\k v H'=some r:=by
 obtain⟨v,H',h1,h2⟩:=K2 h
 refine⟨v,H',?_,h2⟩
 unfold tQ at h1
 split at h1
 ·cases h1
 ·exact h1
theorem Ao {s:kH}{x:R}{r:AV × Hp}:∀ (l:List kH),pt P s x l=some r->(l.all fun q=>match q.k with
   | .dE | .late => !(Nat.blt q.i s.i)||s.b.testBit q.i
   | .read=>bif Nat.blt q.i s.i then s.b.testBit q.i||vp P q s.ha else q.b.testBit s.i||vp P q s.hb
   | .pure=>true)=true/\x=some r
 | [],h=>⟨rfl,h⟩
 | q::l,h=>by
  unfold pt at h
  rw[ajU,aaT]
  have rd:∀ (Hx:Hp),(ey P ka q.o q.t Hx fun v _=>SM q.v v (pt P s x l))=some r->vp P q Hx=true/\pt P s x l=some r:=by
   intro Hx hx
   obtain⟨v,H',h1,h2⟩:=Nr hx
   unfold SM at h2
   cases hs:same q.v v with
   | false=>rw[hs] at h2;cases h2
   | true=>
    rw[hs] at h2
    refine⟨?_,h2⟩
    unfold vp
    rw[h1]
    exact hs
  cases hk:q.k with
  | pure=>
   rw[hk] at h
   obtain⟨a,b⟩:=Ao l h
   exact⟨⟨rfl,a⟩,b⟩
  | read=>
   rw[hk] at h
   simp only at h ⊢
   cases hb:Nat.blt q.i s.i with
   | true=>
    rw[hb] at h
    simp only[cond_true] at h ⊢
    cases ht:s.b.testBit q.i with
    | true=>
     rw[ht] at h
     obtain⟨a,b⟩:=Ao l h
     exact⟨⟨rfl,a⟩,b⟩
    | false=>
     rw[ht] at h
     obtain⟨c,d⟩:=rd _ h
     obtain⟨a,b⟩:=Ao l d
     exact⟨⟨by rw[c];rfl,a⟩,b⟩
   | false=>
    rw[hb] at h
    simp only[cond_false] at h ⊢
    cases ht:q.b.testBit s.i with
    | true=>
     rw[ht] at h
     obtain⟨a,b⟩:=Ao l h
     exact⟨⟨rfl,a⟩,b⟩
    | false=>
     rw[ht] at h
     obtain⟨c,d⟩:=rd _ h
     obtain⟨a,b⟩:=Ao l d
     exact⟨⟨by rw[c];rfl,a⟩,b⟩
  | late=>
   rw[hk] at h
   simp only at h ⊢
   cases hb:(!(Nat.blt q.i s.i)||s.b.testBit q.i) with
   | false=>rw[hb] at h;cases h
   | true=>
    rw[hb] at h
    obtain⟨a,b⟩:=Ao l h
    exact⟨⟨rfl,a⟩,b⟩
  | dE=>
   rw[hk] at h
   simp only at h ⊢
   cases hb:(!(Nat.blt q.i s.i)||s.b.testBit q.i) with
   | false=>rw[hb] at h;cases h
   | true=>
    rw[hb] at h
    obtain⟨a,b⟩:=Ao l h
    exact⟨⟨rfl,a⟩,b⟩
theorem Kx {all:List kH}{x:R}{r:AV × Hp}:∀ (l:List kH),yv P all x l=some r->(l.all fun s=>match s.k with
  | .dE=>all.all fun q=>match q.k with
   | .dE | .late => !(Nat.blt q.i s.i)||s.b.testBit q.i
   | .read=>bif Nat.blt q.i s.i then s.b.testBit q.i||vp P q s.ha else q.b.testBit s.i||vp P q s.hb
   | .pure=>true
  | _=>true)=true/\x=some r
 | [],h=>⟨rfl,h⟩
 | s::l,h=>by
  unfold yv at h
  rw[ajU,aaT]
  cases hk:s.k with
  | dE=>
   rw[hk] at h
   obtain⟨a,b⟩:=Ao all h
   obtain⟨c,d⟩:=Kx l b
   exact⟨⟨a,c⟩,d⟩
  | pure=>rw[hk] at h;obtain⟨c,d⟩:=Kx l h;exact⟨⟨rfl,c⟩,d⟩
  | read=>rw[hk] at h;obtain⟨c,d⟩:=Kx l h;exact⟨⟨rfl,c⟩,d⟩
  | late=>rw[hk] at h;obtain⟨c,d⟩:=Kx l h;exact⟨⟨rfl,c⟩,d⟩
def uZ (kn:List (Nat × AV))(t:Tm):Prop:=∀ d v,vg kn d=some v->t.get d=some v
theorem Rq:∀ (kn:List (Nat × AV)) (x d:Nat) (v:AV),vg (oO kn (some x)) d=some v->d≠x/\vg kn d=some v
 | [],x,d,v,h=>by cases h
 | (e,u)::r,x,d,v,h=>by
  unfold oO at h
  by_cases he:e=x
  ·subst he
   rw[wb,cond_true] at h
   obtain⟨a,b⟩:=Rq r e d v h
   refine⟨a,?_⟩
   unfold vg
   rw[pq (Ne.symm a)];exact b
  ·rw[pq he,cond_false] at h
   unfold vg at h ⊢
   by_cases hd:e=d
   ·subst hd
    rw[wb] at h ⊢
    exact⟨he,h⟩
   ·rw[pq hd] at h ⊢
    exact Rq r x d v h
theorem uZ.put {kn:List (Nat × AV)}{t:Tm}(h:uZ kn t)(dst:Option Tmp)(v:AV):uZ (oO kn dst) (gL dst v t):=by
 cases dst with
 | none=>intro d u hd;cases kn<;>exact h d u hd
 | some x=>
  intro d u hd
  obtain⟨a,b⟩:=Rq kn x d u hd
  show (t.put 34 x v).get d=some u
  rw[Tr.put,Tr.fH,if_neg a]
  exact h d u b
theorem uZ.avX {kn:List (Nat × AV)}{t:Tm}(h:uZ kn t)(dst:Option Tmp):uZ (Jx kn dst) (gL dst cq t):=by
 cases dst with
 | none=>exact h
 | some x=>
  intro d u hd
  unfold Jx vg at hd
  by_cases hx:x=d
  ·subst hx
   rw[wb] at hd
   cases hd
   show (t.put 34 x cq).get x=some cq
   rw[Tr.put,Tr.fH,if_pos rfl]
  ·rw[pq hx] at hd
   exact (h.put (some x) cq) d u hd
theorem uZ.cons {kn:List (Nat × AV)}{t:Tm}(h:uZ kn t){d:Nat}{v:AV}(hv:t.get d=some v):uZ ((d,v)::kn) t:=by
 intro e u he
 unfold vg at he
 by_cases hx:d=e
 ·subst hx
  rw[wb] at he
  cases he;exact hv
 ·rw[pq hx] at he
  exact h e u he
theorem Hy {α:Type}{x:α}:∀ (p:Pa) (t:Tr α),Tr.rY p t=some x->Tr.lg p (some x) t=t
 | .e,.nil,h=>by cases h
 | .e,.node v k0 k1 k2 k3,h=>by cases h;rfl
 | .a p,.nil,h=>by rw[Tr.xX] at h;cases h
 | .b p,.nil,h=>by rw[Tr.xX] at h;cases h
 | .c p,.nil,h=>by rw[Tr.xX] at h;cases h
 | .d p,.nil,h=>by rw[Tr.xX] at h;cases h
 | .a p,.node v k0 k1 k2 k3,h=>congrArg (fun k=>Tr.node v k k1 k2 k3) (Hy p k0 h)
 | .b p,.node v k0 k1 k2 k3,h=>congrArg (fun k=>Tr.node v k0 k k2 k3) (Hy p k1 h)
 | .c p,.node v k0 k1 k2 k3,h=>congrArg (fun k=>Tr.node v k0 k1 k k3) (Hy p k2 h)
 | .d p,.node v k0 k1 k2 k3,h=>congrArg (fun k=>Tr.node v k0 k1 k2 k) (Hy p k3 h)
theorem XF {t:Tm}{d:Nat}{v:AV}(h:t.get d=some v):gL (some d) v t=t:=Hy (pathOf d) t h
theorem FM {cf:CF}{n:Nat}{ops:Array Oper}:∀ (l:List Oper) (i:Nat) (bs:List Nat) (kn:List (Nat × AV)) (tp te:Tm) (hb h:Hp) (acc:List kH) (k:KN) (r:AV × Hp),uZ kn tp->lq P cf n ops i l bs kn tp te hb h acc k=some r->
  ∃ s t' H',lP P cf n ops i l bs tp te hb h=some (s,t',H')/\BG P (acc++s)=true/\k t' H'=some r
 | [],i,bs,kn,tp,te,hb,h,acc,k,r,gg,hr=>by
  unfold lq at hr
  obtain⟨a,b⟩:=Kx acc hr
  refine⟨[],te,h,by unfold lP;rfl,?_,b⟩
  rw[af9]
  exact a
 | o::l,i,[],kn,tp,te,hb,h,acc,k,r,gg,hr=>by unfold lq at hr;cases hr
 | o::l,i,b::bs,kn,tp,te,hb,h,acc,k,r,gg,hr=>by
  unfold lq at hr
  cases hd:wg n o.dst with
  | false=>rw[hd] at hr;cases hr
  | true=>
   rw[hd] at hr
   simp only[cond_true] at hr
   have go:∀ kn,uZ kn tp->ql ops o tp=some true->(match kd P o with
    | .late=>ey P ka o te h fun v h'=>lq P cf n ops (i+1) l bs (oO kn o.dst) (gL o.dst .dD tp) (gL o.dst v te) hb h' (acc++[⟨i,o,b,true,.late,v,tp,hb,hb⟩]) k
    | .dE=>ey P cf o te h fun v h'=>lq P cf n ops (i+1) l bs (oO kn o.dst) (gL o.dst v tp) (gL o.dst v te) h' h' (acc++[⟨i,o,b,true,.dE,v,tp,hb,h'⟩]) k
    | .pure=>ey P ka o tp hb fun v _=>lq P cf n ops (i+1) l bs (oO kn o.dst) (gL o.dst v tp) (gL o.dst v te) hb h (acc++[⟨i,o,b,true,.pure,v,tp,hb,hb⟩]) k
    | .read=>ey P ka o tp hb fun v _=>lq P cf n ops (i+1) l bs (oO kn o.dst) (gL o.dst v tp) (gL o.dst v te) hb h (acc++[⟨i,o,b,true,.read,v,tp,hb,hb⟩]) k)=some r->
     ∃ s t' H',lP P cf n ops i (o::l) (b::bs) tp te hb h=some (s,t',H')/\BG P (acc++s)=true/\k t' H'=some r:=by
    intro kn gg hw hr
    cases hk:kd P o with
    | late=>
     rw[hk] at hr
     obtain⟨v,h',h1,h2⟩:=Nr hr
     obtain⟨s,t',H',q1,q2,q3⟩:=FM l _ _ _ _ _ _ _ _ k r (gg.put _ _) h2
     refine⟨_,t',H',?_,by rw[afk] at q2;exact q2,q3⟩
     unfold lP
     simp only[hw,hk,h1,CW hd,q1]
     rfl
    | dE=>
     rw[hk] at hr
     obtain⟨v,h',h1,h2⟩:=K2 hr
     obtain⟨s,t',H',q1,q2,q3⟩:=FM l _ _ _ _ _ _ _ _ k r (gg.put _ _) h2
     refine⟨_,t',H',?_,by rw[afk] at q2;exact q2,q3⟩
     unfold lP
     simp only[hw,hk,h1,CW hd,q1]
     rfl
    | pure=>
     rw[hk] at hr
     obtain⟨v,h',h1,h2⟩:=Nr hr
     obtain⟨s,t',H',q1,q2,q3⟩:=FM l _ _ _ _ _ _ _ _ k r (gg.put _ _) h2
     refine⟨_,t',H',?_,by rw[afk] at q2;exact q2,q3⟩
     unfold lP
     simp only[hw,hk,h1,CW hd,q1]
     rfl
    | read=>
     rw[hk] at hr
     obtain⟨v,h',h1,h2⟩:=Nr hr
     obtain⟨s,t',H',q1,q2,q3⟩:=FM l _ _ _ _ _ _ _ _ k r (gg.put _ _) h2
     refine⟨_,t',H',?_,by rw[afk] at q2;exact q2,q3⟩
     unfold lP
     simp only[hw,hk,h1,CW hd,q1]
     rfl
   have skip:∀ kn,uZ kn tp->ql ops o tp=some false->lq P cf n ops (i+1) l bs (Jx kn o.dst) (gL o.dst cq tp) (gL o.dst cq te) hb h (acc++[⟨i,o,b,false,.pure,cq,tp,hb,hb⟩]) k=some r->
     ∃ s t' H',lP P cf n ops i (o::l) (b::bs) tp te hb h=some (s,t',H')/\BG P (acc++s)=true/\k t' H'=some r:=by
    intro kn gg hw hr
    obtain⟨s,t',H',q1,q2,q3⟩:=FM l _ _ _ _ _ _ _ _ k r (gg.avX _) hr
    refine⟨_,t',H',?_,by rw[afk] at q2;exact q2,q3⟩
    unfold lP
    simp only[hw,CW hd,q1]
    rfl
   cases hg:o.guard with
   | none=>
    rw[hg] at hr
    exact go kn gg (by unfold ql;rw[hg]) hr
   | some p=>
    obtain⟨j,want⟩:=p
    rw[hg] at hr
    simp only at hr
    have wQ:=X9 (ops:=ops) (o:=o) (t:=tp) hg
    unfold gv at wQ
    cases hj:(ops[j]?).bind (·.dst) with
    | none=>
     rw[hj] at hr wQ
     exact skip kn gg wQ hr
    | some d=>
     rw[hj] at hr wQ
     simp only at hr wQ
     cases hl:vg kn d with
     | some c=>
      rw[hl] at hr
      simp only at hr
      rw[gg d c hl,ahb] at wQ
      cases hw:wv want c with
      | none=>rw[hw] at hr;cases hr
      | some q=>
       rw[hw] at hr wQ
       cases q with
       | true=>exact go kn gg wQ hr
       | false=>exact skip kn gg wQ hr
     | none=>
      rw[hl] at hr
      simp only at hr
      unfold gZ at hr
      cases ht:tp.get d with
      | none=>rw[ht] at hr;cases hr
      | some v=>
       rw[ht,ahb] at hr wQ
       cases v<;>first | (cases hr;done) | skip
       rename_i q
       simp only at hr
       have OI:ql ops o tp=some (q==want):=wQ
       cases hq:(q==want) with
       | true=>
        rw[hq] at hr OI
        have:q=want:=by simpa using hq
        subst this
        rw[XF ht] at hr
        exact go _ (gg.cons ht) OI hr
       | false=>
        rw[hq] at hr OI
        have:q = !want:=by cases q<;>cases want<;>simp_all
        subst this
        rw[XF ht] at hr
        exact skip _ (gg.cons ht) OI hr
theorem auU:FN P (sJ P):=by
 intro cf n ops d t H k r h
 unfold sJ at h
 cases d with
 | false=>
  simp only[cond_false] at h ⊢
  exact Uu _ _ _ _ _ h
 | true=>
  simp only[cond_true] at h ⊢
  cases hr:yk ops with
  | false=>rw[hr] at h;cases h
  | true=>
   rw[hr] at h
   simp only[cond_true] at h
   obtain⟨s,t',H',q1,q2,q3⟩:=FM _ _ _ _ _ _ _ _ _ _ _ (fun d v hd=>by cases hd) h
   refine⟨t',H',?_,q3⟩
   unfold Da
   rw[hr]
   simp only[cond_true,q1]
   rw[ai6] at q2
   rw[q2];rfl
def U7:AV->Hp->R:=fun v H=>some (v,H)
theorem kj {α:Type}(o:Option α)(f:α->R)(g:AV × Hp->R):(B1 o f).bind g=B1 o fun v=>(f v).bind g:=by cases o<;>rfl
theorem wV (o:Option (AV × Hp))(f:AV->Hp->R)(g:AV × Hp->R):(B2 o f).bind g=B2 o fun v H=>(f v H).bind g:=by cases o<;>rfl
theorem Ni (o:Option (Nat × Hp))(f:Nat->Hp->R)(g:AV × Hp->R):(BN o f).bind g=BN o fun i H=>(f i H).bind g:=by cases o<;>rfl
theorem ah8 {op:BinOp}{t:TypeId}{X Y:Operand}{x y:AV}{H:Hp}(f:AV->R)(g:AV × Hp->R):(FY P op t X Y x y H f).bind g=FY P op t X Y x y H fun v=>(f v).bind g:=by
 unfold FY
 split<;>first | exact kj _ _ _ | skip
 cases gA P op t (xb X||xb Y) x y with
 | false=>rfl
 | true=>exact kj _ _ _
theorem akT {a b:TypeId}{x:AV}{H:Hp}(f:AV->Hp->R)(g:AV × Hp->R):(DT P a b x H f).bind g=DT P a b x H fun v H=>(f v H).bind g:=by
 unfold DT
 split<;>first | exact kj _ _ _ | exact wV _ _ _ | (split<;>first | exact kj _ _ _ | exact wV _ _ _ | rfl)
theorem aqe {t:TypeId}{x:AV}{lo hi mx:Option AV}{H:Hp}(f:AV->R)(g:AV × Hp->R):(Gn P t x lo hi mx H f).bind g=Gn P t x lo hi mx H fun v=>(f v).bind g:=by
 unfold Gn
 split<;>first | exact kj _ _ _ | (split<;>first | exact kj _ _ _ | rfl)
theorem am7 {b:Builtin}{ty:Array TypeId}{args:List AV}{H:Hp}(f:AV->Hp->R)(g:AV × Hp->R):(EJ P b ty args H f).bind g=EJ P b ty args H fun v H=>(f v H).bind g:=by
 unfold EJ
 split
 ·split<;>first | exact kj _ _ _ | exact wV _ _ _
 ·split<;>first | rfl | skip
  split<;>first | rfl | skip
  rename_i z _ _
  cases (Nat.ble (P.bytesOf _) 4096&&Nat.beq _ _) with
  | false=>rfl
  | true=>exact wV _ _ _
 ·split<;>first | rfl | skip
  split<;>first | exact wV _ _ _ | rfl
 ·split<;>first | rfl | skip
  split<;>first | exact kj _ _ _ | exact wV _ _ _
 ·exact wV _ _ _
theorem auJ {cf:CF}{o:Oper}{t:Tm}{H:Hp}(f:AV->Hp->R)(g:AV × Hp->R):(ey P cf o t H f).bind g=ey P cf o t H fun v H=>(f v H).bind g:=by
 obtain⟨dst,op,YY,pos,after,guard⟩:=o
 cases op<;>unfold ey<;>simp only
 case pick=>exact kj _ _ _
 case alloc=>split<;>first | exact Ni _ _ _ | rfl
 case box=>exact Ni _ _ _
 case build=>
  split
  ·split<;>first | rfl | skip
   split<;>first | exact kj _ _ _ | rfl
  ·split<;>first | exact kj _ _ _ | rfl
  ·rfl
 case buildSlice=>
  split<;>first | rfl | skip
  split<;>first | rfl | skip
  cases Nat.ble _ 65536 with
  | false=>rfl
  | true=>
   simp only[cond_true]
   split<;>first | rfl | skip
   rw[kj]
   congr 1
   funext l
   exact Ni _ _ _
 case insert=>split<;>first | rfl | (split<;>exact kj _ _ _)
 case mapUpdate=>split<;>first | rfl | (split<;>exact kj _ _ _)
 case load=>split<;>first | exact kj _ _ _ | rfl
 case store=>split<;>first | exact kj _ _ _ | rfl
 case nilCheck=>exact kj _ _ _
 case binOp=>exact ah8 _ _
 case unOp=>exact kj _ _ _
 case convert=>exact akT _ _
 case makeInterface=>split<;>rfl
 case makeFunc=>split<;>rfl
 case makeMap ty x=>cases x<;>first | exact Ni _ _ _ | rfl
 case makeSlice=>
  split<;>first | rfl | skip
  split<;>first | rfl | skip
  cases (Nat.ble (P.bytesOf _) 4096&&Nat.beq _ _) with
  | false=>rfl
  | true=>exact wV _ _ _
 case slice=>exact aqe _ _
 case fieldAddr=>split<;>first | exact kj _ _ _ | rfl
 case field=>
  split<;>first | rfl | skip
  split<;>first | rfl | skip
  split<;>first | exact kj _ _ _ | rfl
 case indexAddr=>
  split<;>first | rfl | skip
  ·split<;>first | exact kj _ _ _ | rfl
  ·split<;>first | exact kj _ _ _ | rfl
 case index=>split<;>exact kj _ _ _
 case lookup=>
  split<;>first | rfl | skip
  split<;>exact kj _ _ _
 case range=>exact wV _ _ _
 case next=>exact wV _ _ _
 case entry=>rfl
 case extract=>exact kj _ _ _
 case typeAssert=>split<;>first | exact kj _ _ _ | rfl
 case call c=>
  obtain⟨callee,args,sP⟩:=c
  cases callee with
  | value f=>exact wV _ _ _
  | invoke r m=>rfl
  | builtin b=>exact am7 _ _
 all_goals rfl
theorem abF {cf:CF}{o:Oper}{t:Tm}{H:Hp}(k:AV->Hp->R):ey P cf o t H k=(ey P cf o t H U7).bind fun p=>k p.1 p.2:=by
 rw[auJ];rfl
theorem aso {cf : CF}{o : Oper}{t : Tm}{H : Hp}{k : AV -> Hp -> R}{r : AV × Hp}(h : ey P cf o t H k = some r) :
    ∃ v H', k v H' = some r /\ ∀ du : Nat -> CF, tJ du cf -> Ev fun j => ∀ k', ey P (du j) o t H k' = k' v H' := by
  rw[abF, abA] at h
  obtain⟨⟨v, H'⟩, h1, h2⟩ := h
  refine⟨v, H', h2, fun du gK => ?_⟩
  have key : Ev fun j => ey P (du j) o t H U7 = some (v, H') := by
    obtain⟨dst, op, YY, pos, after, guard⟩ := o
    cases op
    case makeMap ty x => cases x<;>exact Ev.of fun _ => h1
    case call c =>
     obtain⟨callee, args, sP⟩ := c
     cases callee with
     | invoke r m => exact Ev.of fun _ => h1
     | builtin b => exact Ev.of fun _ => h1
     | value f =>
      obtain⟨v2, H2, q1, q2⟩ := uQ h1
      obtain⟨k0, hk⟩ := gK _ _ _ _ q1
      refine⟨k0, fun j hj => ?_⟩
      show B2 (du j _ _ H) U7 = _
      rw[hk j hj]
      exact q2
    all_goals exact Ev.of fun _ => h1
  obtain⟨k0, hk⟩ := key
  refine⟨k0, fun j hj k' => ?_⟩
  rw[abF, hk j hj];rfl
theorem xT:tJ (fun _=>ka) ka:=fun x l H r h=>by cases h
theorem qV {du:Nat->CF}{cf:CF}(gK:tJ du cf){o:Oper}{t:Tm}{H:Hp}{ks:Nat->AV->Hp->R}{k:AV->Hp->R}{r:AV × Hp}(hk:∀ v H,k v H=some r->Ev fun j=>ks j v H=some r)(h:ey P cf o t H k=some r):Ev fun j=>ey P (du j) o t H (ks j)=some r:=by
 obtain⟨v,H',h1,h2⟩:=aso h
 obtain⟨a,ha⟩:=h2 du gK
 obtain⟨b,hb⟩:=hk v H' h1
 refine⟨max a b,fun j hj => ?_⟩
 exact (ha j (ahS (Nat.le_max_left a b) hj) (ks j)).trans (hb j (ahS (Nat.le_max_right a b) hj))
theorem MM {du:Nat->CF}{cf:CF}(gK:tJ du cf){ks:Nat->KN}{k:KN}(hk:xW ks k){n:Nat}{ops:Array Oper}:∀ (l:List Oper) (t:Tm) (H:Hp) (r:AV × Hp),wz P cf n ops l t H k=some r->Ev fun j=>wz P (du j) n ops l t H (ks j)=some r
 | [],t,H,r,h=>hk t H r h
 | o::l,t,H,r,h=>by
  unfold wz at h ⊢
  cases hd:wg n o.dst with
  | false=>rw[hd] at h;cases h
  | true=>
   rw[hd] at h
   simp only[cond_true] at h ⊢
   cases hg:o.guard with
   | none=>
    rw[hg] at h
    exact qV gK (fun v H h=>MM gK hk l _ _ r h) h
   | some p=>
    obtain⟨q,want⟩:=p
    rw[hg] at h
    simp only at h ⊢
    unfold GO at h ⊢
    cases hw:wv want (gv ops q t) with
    | none=>rw[hw] at h;cases h
    | some b=>
     rw[hw] at h
     cases b with
     | true=>exact qV gK (fun v H h=>MM gK hk l _ _ r h) h
     | false=>exact MM gK hk l _ _ r h
theorem Ds {s:kH}{xs:Nat->R}{x:R}{r:AV × Hp}(hx:x=some r->Ev fun j=>xs j=some r):∀ (l:List kH),pt P s x l=some r->Ev fun j=>pt P s (xs j) l=some r
 | [],h=>hx h
 | q::l,h=>by
  unfold pt at h ⊢
  have rd:∀ Hx:Hp,(ey P ka q.o q.t Hx fun v _=>SM q.v v (pt P s x l))=some r->Ev fun j=>(ey P ka q.o q.t Hx fun v _=>SM q.v v (pt P s (xs j) l))=some r:=by
   intro Hx h
   refine qV (du:=fun _=>ka) xT (ks:=fun j v _=>SM q.v v (pt P s (xs j) l)) (fun v H h => ?_) h
   unfold SM at h ⊢
   cases hs:same q.v v with
   | false=>rw[hs] at h;cases h
   | true=>rw[hs] at h;exact Ds hx l h
  cases hk:q.k with
  | pure=>rw[hk] at h;exact Ds hx l h
  | read=>
   rw[hk] at h
   simp only at h ⊢
   cases hb:Nat.blt q.i s.i with
   | true=>
    rw[hb] at h
    simp only[cond_true] at h ⊢
    cases ht:s.b.testBit q.i with
    | true=>rw[ht] at h;exact Ds hx l h
    | false=>rw[ht] at h;exact rd _ h
   | false=>
    rw[hb] at h
    simp only[cond_false] at h ⊢
    cases ht:q.b.testBit s.i with
    | true=>rw[ht] at h;exact Ds hx l h
    | false=>rw[ht] at h;exact rd _ h
  | late=>
   rw[hk] at h
   simp only at h ⊢
   cases hb:(!(Nat.blt q.i s.i)||s.b.testBit q.i) with
   | false=>rw[hb] at h;cases h
   | true=>rw[hb] at h;exact Ds hx l h
  | dE=>
   rw[hk] at h
   simp only at h ⊢
   cases hb:(!(Nat.blt q.i s.i)||s.b.testBit q.i) with
   | false=>rw[hb] at h;cases h
   | true=>rw[hb] at h;exact Ds hx l h
theorem IS {all:List kH}{xs:Nat->R}{x:R}{r:AV × Hp}(hx:x=some r->Ev fun j=>xs j=some r):∀ (l:List kH),yv P all x l=some r->Ev fun j=>yv P all (xs j) l=some r
 | [],h=>hx h
 | s::l,h=>by
  unfold yv at h ⊢
  cases hk:s.k with
  | dE=>rw[hk] at h;exact Ds (xs:=fun j=>yv P all (xs j) l) (fun h=>IS hx l h) all h
  | pure=>rw[hk] at h;exact IS hx l h
  | read=>rw[hk] at h;exact IS hx l h
  | late=>rw[hk] at h;exact IS hx l h
theorem adA {du:Nat->CF}{cf:CF}(gK:tJ du cf){ks:Nat->KN}{k:KN}(hk:xW ks k){n:Nat}{ops:Array Oper}:∀ (l:List Oper) (i:Nat) (bs:List Nat) (kn:List (Nat × AV)) (tp te:Tm) (hb h:Hp) (acc:List kH) (r:AV × Hp),lq P cf n ops i l bs kn tp te hb h acc k=some r->
  Ev fun j=>lq P (du j) n ops i l bs kn tp te hb h acc (ks j)=some r
 | [],i,bs,kn,tp,te,hb,h,acc,r,hr=>by
  unfold lq at hr ⊢
  exact IS (xs:=fun j=>ks j te h) (fun q=>hk te h r q) acc hr
 | o::l,i,[],kn,tp,te,hb,h,acc,r,hr=>by unfold lq at hr;cases hr
 | o::l,i,b::bs,kn,tp,te,hb,h,acc,r,hr=>by
  unfold lq at hr ⊢
  cases hd:wg n o.dst with
  | false=>rw[hd] at hr;cases hr
  | true=>
   rw[hd] at hr
   simp only[cond_true] at hr ⊢
   have qQ:=fun i bs kn tp te hb h acc hr=>adA (n:=n) (ops:=ops) gK hk l i bs kn tp te hb h acc r hr
   cases hg:o.guard with
   | none=>
    rw[hg] at hr
    simp only at hr ⊢
    cases c8:kd P o<;>rw[c8] at hr<;>simp only at hr ⊢
    ·exact qV (du:=fun _=>ka) xT (fun v H h=>qQ _ _ _ _ _ _ _ _ h) hr
    ·exact qV (du:=fun _=>ka) xT (fun v H h=>qQ _ _ _ _ _ _ _ _ h) hr
    ·exact qV (du:=fun _=>ka) xT (fun v H h=>qQ _ _ _ _ _ _ _ _ h) hr
    ·exact qV gK (fun v H h=>qQ _ _ _ _ _ _ _ _ h) hr
   | some p=>
    obtain⟨q,want⟩:=p
    rw[hg] at hr
    simp only at hr ⊢
    cases hj:(ops[q]?).bind (·.dst) with
    | none=>
     rw[hj] at hr
     exact qQ _ _ _ _ _ _ _ _ hr
    | some d=>
     rw[hj] at hr
     simp only at hr ⊢
     cases hl:vg kn d with
     | some c=>
      rw[hl] at hr
      simp only at hr ⊢
      cases hw:wv want c with
      | none=>rw[hw] at hr;cases hr
      | some w=>
       rw[hw] at hr
       cases w with
       | true=>
        simp only at hr ⊢
        cases c8:kd P o<;>rw[c8] at hr<;>simp only at hr ⊢
        ·exact qV (du:=fun _=>ka) xT (fun v H h=>qQ _ _ _ _ _ _ _ _ h) hr
        ·exact qV (du:=fun _=>ka) xT (fun v H h=>qQ _ _ _ _ _ _ _ _ h) hr
        ·exact qV (du:=fun _=>ka) xT (fun v H h=>qQ _ _ _ _ _ _ _ _ h) hr
        ·exact qV gK (fun v H h=>qQ _ _ _ _ _ _ _ _ h) hr
       | false=>exact qQ _ _ _ _ _ _ _ _ hr
     | none=>
      rw[hl] at hr
      simp only at hr ⊢
      unfold gZ at hr ⊢
      split at hr
      ·rename_i w hv
       cases hw:(w==want) with
       | true=>
        rw[hw] at hr
        simp only[cond_true] at hr ⊢
        cases c8:kd P o<;>rw[c8] at hr<;>simp only at hr ⊢
        ·exact qV (du:=fun _=>ka) xT (fun v H h=>qQ _ _ _ _ _ _ _ _ h) hr
        ·exact qV (du:=fun _=>ka) xT (fun v H h=>qQ _ _ _ _ _ _ _ _ h) hr
        ·exact qV (du:=fun _=>ka) xT (fun v H h=>qQ _ _ _ _ _ _ _ _ h) hr
        ·exact qV gK (fun v H h=>qQ _ _ _ _ _ _ _ _ h) hr
       | false=>
        rw[hw] at hr
        exact qQ _ _ _ _ _ _ _ _ hr
      ·cases hr
theorem Ov:xU (sJ P):=by
 intro du cf lJ kn n ops d t H r h1 h2 h
 unfold sJ at h ⊢
 cases d with
 | false=>
  simp only[cond_false] at h ⊢
  exact MM h1 h2 _ _ _ _ h
 | true=>
  simp only[cond_true] at h ⊢
  cases hr:yk ops with
  | false=>rw[hr] at h;cases h
  | true=>
   rw[hr] at h
   simp only[cond_true] at h ⊢
   exact adA h1 h2 _ _ _ _ _ _ _ _ _ _ h
end
end K
end
set_option linter.unusedVariables false
namespace K
def sub:Code->List Nat->Code
 | c,[]=>c
 | .seq a b,i::r=>match i with | 0=>sub a r | _=>sub b r
 | .cond _ a b,i::r=>match i with | 0=>sub a r | _=>sub b r
 | .block _ b,_::r=>sub b r
 | .loop b,_::r=>sub b r
 | c,_::_=>c
def atC (P:Program)(f:Nat)(path:List Nat):Code:=match P.funcs[f]? with
 | some fn=>(match fn.body with | some b=>sub b path | none => .skip)
 | none => .skip
def nT (P:Program)(f:Nat):Nat:=match P.funcs[f]? with | some fn=>fn.ntmps | none=>0
def YL (P:Program)(f:Nat):KN:=fun t H=>match P.funcs[f]? with | some fn=>BY P t H fn.results.toList | none=>none
noncomputable section
def K4 (P:Program)(bo:sr)(cf:CF)(n:Nat)(b:Code)(x:An)(lv:List Nat)(ke:Nat->KN)(kr:KN):Fn lv.length:=
 LP lv.length (fun k=>abs lv.length fun l H=>bN P bo cf n b x (fun t H=>app lv.length k (aw lv t) H) ke kr (dd n lv l) H)
theorem auk {P:Program}{bo:sr}(gG:xU bo)(cf:CF)(n:Nat)(b:Code)(x:An)(lv:List Nat)(ke:Nat->KN)(kr:KN)(l:List AV)(hl:l.length=lv.length)(H:Hp) :
  app lv.length (K4 P bo cf n b x lv ke kr) l H=bN P bo cf n b x (fun t H=>app lv.length (K4 P bo cf n b x lv ke kr) (aw lv t) H) ke kr (dd n lv l) H:=
 ap7 gG cf n b x lv ke kr l hl H
end
def LF (k:Nat)(x:AV)(H:Hp)(f:AV->R):R:=B1 (fa k x) fun v=>B1 (ld v H) f
def NF (k:Nat)(x:AV)(H:Hp)(f:AV->R):R:=B1 (aT x) fun v=>B1 (fa k v) fun u=>B1 (ld u H) f
def NA (k:Nat)(x:AV)(f:AV->R):R:=B1 (aT x) fun v=>B1 (fa k v) f
theorem acM (k i o:Nat)(H:Hp)(f:AV->R):LF k (.ptr i o) H f=B1 (ld (.ptr i (o+k)) H) f:=aaK rfl (id rfl)
theorem Yr (k i o:Nat)(H:Hp)(f:AV->R):NF k (.ptr i o) H f=B1 (ld (.ptr i (o+k)) H) f:=aaK rfl (id rfl)
theorem aaD (k i o:Nat)(f:AV->R):NA k (.ptr i o) f=f (.ptr i (o+k)):=aaK rfl (id rfl)
end K
end
set_option linter.unusedVariables false
set_option linter.unusedSimpArgs false
namespace K
section
def sf:Pa->AV->Tm->(Tm->R)->R
 | .e,x,t,k=>match t with | .nil=>k (.node (some x) .nil .nil .nil .nil) | .node _ a b c d=>k (.node (some x) a b c d)
 | .a p,x,t,k=>match t with | .nil=>sf p x .nil fun q=>k (.node none q .nil .nil .nil) | .node v a b c d=>sf p x a fun q=>k (.node v q b c d)
 | .b p,x,t,k=>match t with | .nil=>sf p x .nil fun q=>k (.node none .nil q .nil .nil) | .node v a b c d=>sf p x b fun q=>k (.node v a q c d)
 | .c p,x,t,k=>match t with | .nil=>sf p x .nil fun q=>k (.node none .nil .nil q .nil) | .node v a b c d=>sf p x c fun q=>k (.node v a b q d)
 | .d p,x,t,k=>match t with | .nil=>sf p x .nil fun q=>k (.node none .nil .nil .nil q) | .node v a b c d=>sf p x d fun q=>k (.node v a b c q)
theorem J7:∀ (p:Pa) (x:AV) (t:Tm) (k:Tm->R),sf p x t k=k (Tr.lg p (some x) t)
 | .e,x,t,k=>by cases t<;>rfl
 | .a p,x,t,k=>by cases t<;>(unfold sf;simp only[J7 p];rfl)
 | .b p,x,t,k=>by cases t<;>(unfold sf;simp only[J7 p];rfl)
 | .c p,x,t,k=>by cases t<;>(unfold sf;simp only[J7 p];rfl)
 | .d p,x,t,k=>by cases t<;>(unfold sf;simp only[J7 p];rfl)
def rB (dst:Option Tmp)(v:AV)(t:Tm)(k:Tm->R):R:=match dst with | none=>k t | some d=>sf (pathOf d) v t k
theorem aeE (dst:Option Tmp)(v:AV)(t:Tm)(k:Tm->R):rB dst v t k=k (gL dst v t):=by
 cases dst with
 | none=>rfl
 | some d=>exact J7 _ _ _ _
def FO (o:Option AV)(k:Option AV->R):R:=match o with | none=>k none | some v=>k (some v)
theorem ak0 (o:Option AV)(k:Option AV->R):FO o k=k o:=by cases o<;>rfl
def FT:Tm->(Tm->R)->R
 | .nil,k=>k .nil
 | .node v a b c d,k=>FO v fun v=>FT a fun a=>FT b fun b=>FT c fun c=>FT d fun d=>k (.node v a b c d)
theorem Gr:∀ (t:Tm) (k:Tm->R),FT t k=k t
 | .nil,k=>rfl
 | .node v a b c d,k=>by unfold FT;rw[ak0,Gr a,Gr b,Gr c,Gr d]
def OE (o:Option AV)(k:AV->R):R:=match o with | some v=>k v | none=>k cq
theorem aiX (o:Option AV)(k:AV->R):OE o k=k (o.getD cq):=by cases o<;>rfl
noncomputable section
variable (P:Program)
def aV (t:Tm)(x:Operand)(k:AV->R):R:=match x with
 | .tmp d=>OE (t.get d) k
 | x=>k (ev P.globals.size t x)
theorem aaI (t:Tm)(x:Operand)(k:AV->R):aV P t x k=k (ev P.globals.size t x):=by
 cases x<;>first | rfl | exact aiX _ _
def Ak (cf:CF)(o:Oper)(t:Tm)(H:Hp)(k:AV->Hp->R):R:=match o.op with
 | .move x=>aV P t x fun v=>k v H
 | .assign x=>aV P t x fun v=>k v H
 | _=>ey P cf o t H k
theorem aey (cf:CF)(o:Oper)(t:Tm)(H:Hp)(k:AV->Hp->R):Ak P cf o t H k=ey P cf o t H k:=by
 unfold Ak
 split
 ·rename_i x h
  rw[aaI];unfold ey;rw[h]
 ·rename_i x h
  rw[aaI];unfold ey;rw[h]
 ·rfl
abbrev JT:=(m:Nat)->(Fn m->R)->Fn m->R
abbrev GT:=AV->Bool->((AV->Hp->R)->R)->(AV->Hp->R)->Hp->R
def II (G:GT)(cf:CF)(n:Nat)(ops:Array Oper):List Oper->Tm->Hp->KN->R
 | [],t,H,k=>k t H
 | o::r,t,H,k=>match wg n o.dst with
  | true=>(match o.guard with
   | none=>Ak P cf o t H fun v H=>rB o.dst v t fun t=>II G cf n ops r t H k
   | some (j,want)=>G (gv ops j t) want (fun k'=>Ak P cf o t H k') (fun v H=>rB o.dst v t fun t=>II G cf n ops r t H k) H)
  | false=>none
theorem VO (cf:CF)(n:Nat)(ops:Array Oper):∀ (l:List Oper) (t:Tm) (H:Hp) (k:KN),II P GO cf n ops l t H k=wz P cf n ops l t H k
 | [],t,H,k=>rfl
 | o::r,t,H,k=>by
  unfold II wz
  simp only[aey,aeE,VO cf n ops r]
  cases wg n o.dst<;>rfl
def ya (cf:CF)(n:Nat)(ops:Array Oper):Nat->List Oper->List Nat->List (Nat × AV)->Tm->Tm->Hp->Hp->List kH->KN->R
 | _,[],_,_,_,te,_,h,acc,k=>yv P acc (k te h) acc
 | _,_::_,[],_,_,_,_,_,_,_=>none
 | i,o::r,b::bs,kn,tp,te,hb,h,acc,k=>match wg n o.dst with
  | true=>
   let go:List (Nat × AV)->Tm->R:=fun kn tp=>match kd P o with
    | .late=>Ak P ka o te h fun v h'=>rB o.dst .dD tp fun tq=>rB o.dst v te fun te=>ya cf n ops (i+1) r bs (oO kn o.dst) tq te hb h' (acc++[⟨i,o,b,true,.late,v,tp,hb,hb⟩]) k
    | .dE=>Ak P cf o te h fun v h'=>rB o.dst v tp fun tq=>rB o.dst v te fun te=>ya cf n ops (i+1) r bs (oO kn o.dst) tq te h' h' (acc++[⟨i,o,b,true,.dE,v,tp,hb,h'⟩]) k
    | .pure=>Ak P ka o tp hb fun v _=>rB o.dst v tp fun tq=>rB o.dst v te fun te=>ya cf n ops (i+1) r bs (oO kn o.dst) tq te hb h (acc++[⟨i,o,b,true,.pure,v,tp,hb,hb⟩]) k
    | .read=>Ak P ka o tp hb fun v _=>rB o.dst v tp fun tq=>rB o.dst v te fun te=>ya cf n ops (i+1) r bs (oO kn o.dst) tq te hb h (acc++[⟨i,o,b,true,.read,v,tp,hb,hb⟩]) k
   let skip:List (Nat × AV)->Tm->R:=fun kn tp=>rB o.dst cq tp fun tq=>rB o.dst cq te fun te=>ya cf n ops (i+1) r bs (Jx kn o.dst) tq te hb h (acc++[⟨i,o,b,false,.pure,cq,tp,hb,hb⟩]) k
   match o.guard with
   | none=>go kn tp
   | some (j,want)=>match (ops[j]?).bind (·.dst) with
    | none=>skip kn tp
    | some d=>match vg kn d with
     | some c=>(match wv want c with | some true=>go kn tp | some false=>skip kn tp | none=>none)
     | none=>gZ ((tp.get d).getD cq) want (rB (some d) (.bool want) tp fun tp=>go ((d,.bool want)::kn) tp) (rB (some d) (.bool !want) tp fun tp=>skip ((d,.bool !want)::kn) tp)
  | false=>none
theorem aet (cf:CF)(n:Nat)(ops:Array Oper):∀ (l:List Oper) (i:Nat) (bs:List Nat) (kn:List (Nat × AV)) (tp te:Tm) (hb h:Hp) (acc:List kH) (k:KN),
  ya P cf n ops i l bs kn tp te hb h acc k=lq P cf n ops i l bs kn tp te hb h acc k
 | [],i,bs,kn,tp,te,hb,h,acc,k=>by unfold ya lq;rfl
 | o::l,i,[],kn,tp,te,hb,h,acc,k=>by unfold ya lq;rfl
 | o::l,i,b::bs,kn,tp,te,hb,h,acc,k=>by
  unfold ya lq
  simp only[aey,aeE,aet cf n ops l]
  cases wg n o.dst<;>rfl
def Qo (G:GT):sr:=fun cf n ops d t H k=>match d with
 | true=>(match yk ops with | true=>FT t fun t=>ya P cf n ops 0 ops.toList (before ops.toList []) [] t t H H [] k | false=>none)
 | false=>FT t fun t=>II P G cf n ops ops.toList t H k
theorem anQ:Qo P GO=sJ P:=by
 funext cf n ops d t H k
 unfold Qo sJ
 cases d with
 | false=>simp only[cond_false,Gr,VO]
 | true=>
  simp only[cond_true]
  cases yk ops<;>simp only[cond_true,cond_false,Gr,aet]
def codeF (J:JT)(G:GT)(cf:CF)(n:Nat):Code->An->KN->(Nat->KN)->KN->KN
 | .skip,_,kn,_,_=>kn
 | .label _,_,kn,_,_=>kn
 | .seq a b,an,kn,ke,kr=>match an with
  | .sq none x y=>codeF J G cf n a x (codeF J G cf n b y kn ke kr) ke kr
  | .sq (some lv) x y=>fun t H=>J lv.length (fun k=>codeF J G cf n a x (fun t H=>app lv.length k (aw lv t) H) ke kr t H) (abs lv.length fun l H=>codeF J G cf n b y kn ke kr (dd n lv l) H)
  | .pr lv p=>fun t H=>B1 (p t H) fun H=>kn (dd n lv (aw lv t)) H
  | _=>fun _ _=>none
 | .cond c a b,an,kn,ke,kr=>match an with
  | .cd x y=>fun t H=>CD (ev P.globals.size t c) (codeF J G cf n a x kn ke kr t H) (codeF J G cf n b y kn ke kr t H)
  | _=>fun _ _=>none
 | .block i b,an,kn,ke,kr=>match an with
  | .bl none x=>codeF J G cf n b x kn (fun j t H=>match Nat.beq j i with | true=>kn t H | false=>ke j t H) kr
  | .bl (some lv) x=>fun t H=>J lv.length (fun k=>codeF J G cf n b x (fun t H=>app lv.length k (aw lv t) H) (fun j t H=>match Nat.beq j i with | true=>app lv.length k (aw lv t) H | false=>ke j t H) kr t H) (abs lv.length fun l H=>kn (dd n lv l) H)
  | _=>fun _ _=>none
 | .loop b,an,kn,ke,kr=>match an with
  | .lp lv x=>fun t H=>app lv.length (LP lv.length (fun k=>abs lv.length fun l H=>codeF J G cf n b x (fun t H=>app lv.length k (aw lv t) H) ke kr (dd n lv l) H)) (aw lv t) H
  | _=>fun _ _=>none
 | .exit i,_,_,ke,_=>ke i
 | .ret,_,_,_,kr=>kr
 | .region _ ops d,_,kn,_,_=>fun t H=>Qo P G cf n ops d t H kn
 | _,_,_,_,_=>fun _ _=>none
theorem avA {α:Type}(b:Bool)(x y:α):(match b with | true=>x | false=>y)=bif b then x else y:=by cases b<;>rfl
theorem codeF_eq (cf:CF)(n:Nat):∀ (c:Code) (an:An) (kn:KN) (ke:Nat->KN) (kr:KN),codeF P JN GO cf n c an kn ke kr=bN P (sJ P) cf n c an kn ke kr:=by
 intro c
 induction c with
 | seq a b ia ib=>
  intro an kn ke kr
  unfold codeF bN
  cases an with
  | sq j x y=>cases j<;>simp only[ia,ib]
  | _=>rfl
 | cond q a b ia ib=>
  intro an kn ke kr
  unfold codeF bN
  cases an with
  | cd x y=>simp only[ia,ib]
  | _=>rfl
 | block i b ib=>
  intro an kn ke kr
  unfold codeF bN
  cases an with
  | bl j x=>cases j<;>simp only[ib,avA]
  | _=>rfl
 | loop b ib=>
  intro an kn ke kr
  unfold codeF bN
  cases an with
  | lp lv x=>simp only[ib]
  | _=>rfl
 | region id ops d=>
  intro an kn ke kr
  unfold codeF bN
  rw[anQ]
 | _=>intro an kn ke kr;unfold codeF bN;rfl
def WZ (J:JT)(G:GT)(cf:CF)(fn:Func)(an:An)(b:Code)(args:List AV)(H:Hp):R:=
 codeF P J G cf fn.ntmps b an (fun t H=>BY P t H fn.results.toList) (fun _ _ _=>none) (fun t H=>BY P t H fn.results.toList) (Ju fn.ntmps args) H
def fB (J:JT)(G:GT)(aR:Nat->Option Prim)(an:Nat->An)(cf:CF)(bg:Nat)(args:List AV)(H:Hp):R:=
 match aR bg with
 | some _=>none
 | none=>match P.funcs[bg]? with
  | some fn=>match fn.body with
   | some b=>match Nat.ble args.length fn.ntmps&&Nat.blt fn.ntmps 4294967296&&(an bg).ok fn.ntmps with
    | true=>WZ P J G cf fn (an bg) b args H
    | false=>none
   | none=>none
  | none=>none
def IG (J:JT)(G:GT)(cf:CF)(n:Nat)(b:Code)(x:An)(lv:List Nat)(ke:Nat->KN)(kr:KN):Fn lv.length:=
 LP lv.length (fun k=>abs lv.length fun l H=>codeF P J G cf n b x (fun t H=>app lv.length k (aw lv t) H) ke kr (dd n lv l) H)
end
variable {P:Program}{ext:Nat->Option Ext}{aR:Nat->Option Prim}{an:Nat->An}
theorem aO {bg:Nat}{first args cap:List AV}{H:Hp}{r:AV × Hp}(h:fB P JN GO aR an (CK P (sJ P) ext aR an) bg (first++args++cap) H=some r):CK P (sJ P) ext aR an (.func (.func bg) first cap) args H=some r:=by
 refine UP Ov ?_
 unfold fB at h
 unfold ym
 simp only
 split at h
 ·cases h
 ·rename_i hp
  rw[hp]
  simp only
  split at h
  ·rename_i fn hf
   rw[hf]
   simp only
   split at h
   ·rename_i b hb
    rw[hb]
    simp only
    split at h
    ·rename_i hc
     rw[hc]
     unfold WZ at h
     rw[codeF_eq] at h
     exact h
    ·cases h
   ·cases h
  ·cases h
theorem awC (cf:CF)(n:Nat)(b:Code)(x:An)(lv:List Nat)(ke:Nat->KN)(kr:KN)(l:List AV)(hl:l.length=lv.length)(H:Hp) :
  app lv.length (IG P JN GO cf n b x lv ke kr) l H=codeF P JN GO cf n b x (fun t H=>app lv.length (IG P JN GO cf n b x lv ke kr) (aw lv t) H) ke kr (dd n lv l) H:=by
 have h:IG P JN GO cf n b x lv ke kr=K4 P (sJ P) cf n b x lv ke kr:=by unfold IG K4;simp only[codeF_eq]
 rw[h,codeF_eq]
 exact auk Ov cf n b x lv ke kr l hl H
end
abbrev An.n (x:An):An := .sq none .nl x
abbrev An.q (x y:An):An := .sq none x y
abbrev An.s (l:List Nat)(x y:An):An := .sq (some l) x y
abbrev An.t (l:List Nat)(y:An):An := .sq (some l) .nl y
abbrev An.b (x:An):An := .bl none x
abbrev An.v (l:List Nat)(x:An):An := .bl (some l) x
def BC:An->List Nat->An
 | x,[]=>x
 | .sq _ a b,i::r=>match i with | 0=>BC a r | _=>BC b r
 | .cd a b,i::r=>match i with | 0=>BC a r | _=>BC b r
 | .bl _ a,_::r=>BC a r
 | .lp _ a,_::r=>BC a r
 | x,_::_=>x
noncomputable section
variable (P:Program)(an:Nat->An)
def dB (J:JT)(G:GT)(cf:CF)(f:Nat)(path lv:List Nat)(ke:Nat->KN):Fn lv.length:=IG P J G cf (nT P f) (atC P f path) (BC (an f) path) lv ke (YL P f)
def jb (J:JT)(G:GT)(cf:CF)(f:Nat)(path lv:List Nat)(ke:Nat->KN)(k:Fn lv.length)(l:List AV)(H:Hp):R:=
 codeF P J G cf (nT P f) (atC P f path) (BC (an f) path) (fun t H=>app lv.length k (aw lv t) H) ke (YL P f) (dd (nT P f) lv l) H
end
theorem dQ {P:Program}{an:Nat->An}(cf:CF)(f:Nat)(path lv:List Nat)(ke:Nat->KN)(l:List AV)(hl:l.length=lv.length)(H:Hp) :
  app lv.length (dB P an JN GO cf f path lv ke) l H=jb P an JN GO cf f path lv ke (dB P an JN GO cf f path lv ke) l H:=awC cf _ _ _ lv ke _ l hl H
end K
end
set_option linter.unusedVariables false
set_option linter.unusedSimpArgs false
set_option maxHeartbeats 1000000
section
variable {P:Program}{G:Nat}{F:Nat->Prop}{W:World}{e:Em}{H:Hp}{w:World}
theorem ayj (w:World)(ty:TypeId)(r bm since:Nat)(seen:Array Nat)(es:Array MapEntry)(hr:w.heap[r]? = some (.mapIter (some bm) since seen since))(hb:w.heap[bm]? = some (.map es since))(hold:∀ x∈es.toList,x.born<since) :
  ((leftOf es seen).size=0/\(Instr.next (.pointer (some ⟨r,0,none⟩)) false ty).run P w = .ok (.tuple #[.bool false]) w)\/
  ∃ x∈(leftOf es seen).toList,∃ n,(Instr.next (.pointer (some ⟨r,0,none⟩)) false ty).run P w = .ok (.tuple #[.bool true,x.key,x.val]) { w with drawn:=n,heap:=w.heap.setIfInBounds r (.mapIter (some bm) since (seen.push x.born) since) }:=by
 simp only[Instr.next,Go.getObj,Sem.run_bind,Sem.run,hr,hb,Result.andThen,next_test_false seen es since since hold (aaU _),abH,if_false]
 unfold leftOf
 have yh:∀ x∈(Array.filter (fun e => !seen.contains e.born) es).toList,x.born<since:=fun x hx=>hold x (by simp at hx ⊢;exact hx.1)
 generalize Array.filter (fun e => !seen.contains e.born) es=L at yh ⊢
 have e1:L.filter (fun x=>decide (x.born<since))=L:=Array.filter_eq_self.2 (fun x hx=>by simpa using yh x (by simpa using hx))
 have e2:L.filter (fun x=>decide (x.born ≥ since)) = #[]:=by
  rw[Array.filter_eq_empty_iff]
  intro x hx
  have:=yh x (by simpa using hx)
  simp
  omega
 simp only[e1,e2,Array.append_empty]
 by_cases h0:L.size=0
 ·left
  have:L = #[]:=Array.eq_empty_of_size_eq_zero h0
  subst this
  refine⟨rfl,?_⟩
  simp[choose,Sem.run,Question.forced]
 ·right
  have aH:L.isEmpty=false:=by simp[Array.isEmpty,h0]
  simp only[aH,abH,if_false,Array.empty_append,Array.size_map]
  have hch:∃ (j:Nat) (n:Nat),j<L.size/\(choose (Question.mapNext L.size)).run P w = .ok j { w with drawn:=n }:=by
   by_cases hf:L.size<=1
   ·exact⟨0,w.drawn,by omega,by simp[choose,Sem.run,Question.forced,hf]⟩
   ·exact⟨_,_,Nat.mod_lt _ (by omega),by
     simp only[choose,Sem.run,Question.forced,decide_eq_true_eq,hf,if_false,Question.cut]
     rfl⟩
  obtain⟨j,n,hj,lr⟩:=hch
  refine⟨L[j],by simp,n,?_⟩
  have e9:∀ (o':Obj),(Go.setObj r o').run P { w with drawn:=n }=Result.ok () { w with drawn:=n,heap:=w.heap.setIfInBounds r o' }:=fun o'=>by
   simp only[Go.setObj,Sem.run,hr]
  simp only[lr,Array.getElem?_map,ahY hj,ae6,Sem.run_bind,e9,Result.andThen]
  rfl
theorem ax0 (w:World)(r bm since:Nat)(seen:Array Nat)(es:Array MapEntry)(x:MapEntry)(hr:w.heap[r]? = some (.mapIter (some bm) since (seen.push x.born) since))(hb:w.heap[bm]? = some (.map es since))(he:x∈es.toList)(hn:(es.toList.map (·.born)).Nodup) :
  (Instr.entry (.pointer (some ⟨r,0,none⟩))).run P w = .ok (.tuple #[x.key,x.val]) w:=by
 have hf:es.find? (·.born==x.born)=some x:=by rw[<-Array.find?_toList];exact find_born x es.toList hn he
 simp only[Instr.entry,Go.getObj,Sem.run_bind,Sem.run,hr,hb,Result.andThen,Array.back?_push,bne_self_eq_false,abH,if_false,hf]
 rfl
theorem RH.ayb (h:RH G F W e H w){r:Nat}(o:Obj)(hF:¬ F r)(hr:∀ i a,H.h.get i=some a->e.b i≠r)(n:Nat):RH G F W e H { w with drawn:=n,heap:=w.heap.setIfInBounds r o }:=by
 refine⟨h.N,fun i a hi => ?_,h.inj,h.si,fun k hk => ?_,h.os,h.tape,h.output,by simp only[Array.size_setIfInBounds];exact h.size,by simp only[Array.size_setIfInBounds];exact h.mL⟩
 ·obtain⟨h1,ob,h2,h3,h4⟩:=h.obj i a hi
  exact⟨h1,ob,by simp only;rw[ag2 (fun q=>hr i a hi q.symm)];exact h2,h3,h4⟩
 ·obtain⟨h1,h2⟩:=h.frame k hk
  exact⟨by simp only[Array.size_setIfInBounds];exact h1,by simp only;rw[ag2 (fun q=>by subst q;exact hF hk)];exact h2⟩
theorem iK.perm {e:Em}{a b:List ME}(hp:a.Perm b):∀ {fs:List MapEntry},iK e a fs->∃ LI,LI.Perm fs/\iK e b LI:=by
 induction hp with
 | nil=>intro fs h;exact⟨fs,List.Perm.refl _,h⟩
 | @cons x l l' hp ih=>
  intro fs h
  cases fs with
  | nil=>have:=h.1;simp at this
  | cons y fs=>
   obtain⟨LI,h1,h2⟩:=ih (fs:=fs) ⟨by simpa using h.1,fun i m m' hm na=>h.2 (i+1) m m' (by simpa using hm) (by simpa using na)⟩
   refine⟨y::LI,h1.cons y,by simp[h2.1],fun i m m' hm na => ?_⟩
   cases i with
   | zero=>simp at hm na;subst hm;subst na;exact h.2 0 x y rfl rfl
   | succ i=>exact h2.2 i m m' (by simpa using hm) (by simpa using na)
 | swap x y l=>
  intro fs h
  match fs,h with
  | [],h=>have:=h.1;simp at this
  | [_],h=>have:=h.1;simp at this
  | u::v::fs,h=>
   refine⟨v::u::fs,List.Perm.swap _ _ _,by have:=h.1;simpa using this,fun i m m' hm na => ?_⟩
   match i with
   | 0=>simp at hm na;subst hm;subst na;exact h.2 1 x v rfl rfl
   | 1=>simp at hm na;subst hm;subst na;exact h.2 0 y u rfl rfl
   | i+2=>exact h.2 (i+2) m m' (by simpa using hm) (by simpa using na)
 | trans _ _ i1 i2=>
  intro fs h
  obtain⟨f1,a1,b1⟩:=i1 h
  obtain⟨f2,a2,b2⟩:=i2 b1
  exact⟨f2,a2.trans a1,b2⟩
end
namespace K
def tg (t:Tm)(d:Nat):AV:=(t.get d).getD cq
def Gs:List ME->Bool
 | []=>true
 | m::r=>(match m.key with | .str k=>r.all (fun x=>match x.key with | .str q => !(q==k) | _=>false) | _=>false)&&Gs r
def uc:Nat->List ME->List ME
 | _,[]=>[]
 | c,m::r=>⟨m.key,m.val,c⟩::uc (c+1) r
theorem auB:∀ (l:List ME) (c:Nat) (m:ME),uc c (l++[m])=uc c l++[⟨m.key,m.val,c+l.length⟩]
 | [],c,m=>rfl
 | x::l,c,m=>by
  show _::uc (c+1) (l++[m])=_
  rw[auB l (c+1) m,aa1,show c+1+l.length=c+(l.length+1) by omega];rfl
theorem auh:∀ (l:List ME) (c:Nat) (x:ME),x∈uc c l->∃ m∈l,x.key=m.key
 | [],c,x,h=>by cases h
 | m::l,c,x,h=>by
  rcases aa7.1 h with rfl | h
  ·exact⟨m,.head _,rfl⟩
  ·obtain⟨y,h1,h2⟩:=auh l (c+1) x h
   exact⟨y,.tail _ h1,h2⟩
theorem My:∀ (l:List ME) (c:Nat),(uc c l).length=l.length
 | [],_=>rfl
 | m::l,c=>by show (uc (c+1) l).length+1=_;rw[My l (c+1)];rfl
theorem U3:∀ (l:List ME) (c i:Nat) (x:ME),(uc c l)[i]? = some x->∃ m,l[i]? = some m/\x.key=m.key/\x.val=m.val
 | [],c,i,x,h=>by simp[uc] at h
 | m::l,c,0,x,h=>by
  have:some (⟨m.key,m.val,c⟩:ME)=some x:=h
  cases this;exact⟨m,rfl,rfl,rfl⟩
 | m::l,c,i+1,x,h=>U3 l (c+1) i x h
theorem ayh {e:Em}{l:List ME}{fs:List MapEntry}(c:Nat):iK e (uc c l) fs↔iK e l fs:=by
 constructor
 ·intro h
  refine⟨by rw[h.1,My],fun i m m' hm na => ?_⟩
  have hi:i<(uc c l).length:=by rw[My];exact (aaw.1 hm).1
  obtain⟨y,h1,h2,h3⟩:=U3 l c i _ (aaC hi)
  rw[hm] at h1;cases h1
  have:=h.2 i _ m' (aaC hi) na
  rw[h2,h3] at this;exact this
 ·intro h
  refine⟨by rw[h.1,My],fun i m m' hm na => ?_⟩
  obtain⟨y,h1,h2,h3⟩:=U3 l c i _ hm
  have:=h.2 i y m' h1 na
  rw[h2,h3];exact this
def K3 (a b:ME):Prop:=∃ k q,a.key = .str k/\b.key = .str q/\q≠k
theorem K3.symm {a b:ME}(h:K3 a b):K3 b a:=by obtain⟨k,q,h1,h2,h3⟩:=h;exact⟨q,k,h2,h1,fun e=>h3 e.symm⟩
theorem au7:∀ {l:List ME},Gs l=true->l.Pairwise K3/\∀ m∈l,∃ k,m.key = .str k
 | [],_=>⟨.nil,fun m h=>by cases h⟩
 | m::l,h=>by
  unfold Gs at h
  rw[aaT] at h
  obtain⟨h1,h2⟩:=h
  obtain⟨a,b⟩:=au7 h2
  split at h1
  ·rename_i k hk
   refine⟨List.pairwise_cons.2 ⟨fun x hx => ?_,a⟩,fun x hx => ?_⟩
   ·have:=aeO.1 h1 x hx
    split at this
    ·rename_i q hq
     exact⟨k,q,hk,hq,by simpa using this⟩
    ·cases this
   ·rcases aa7.1 hx with rfl | hx
    ·exact⟨k,hk⟩
    ·exact b x hx
  ·cases h1
def QQ (k:Nat)(c f:AV)(H:Hp):Option Hp:=
 match c,f with
 | .ptr ci co,.ptr fi fo=>
  match cellAt H ci (co+k),cellAt H fi (fo+k) with
  | some (.map cm),some (.map fm)=>
   match H.h.get cm,H.h.get fm with
   | some (.map [] q),some (.map es _)=>bif Gs es&&!(Nat.beq cm fm) then some ⟨H.h.df cm (.map (uc q es) (q+es.length)),H.next+1⟩ else none
   | _,_=>none
  | _,_=>none
 | _,_=>none
def axT (k c f:Nat):Tm->Hp->Option Hp:=fun t H=>QQ k (tg t c) (tg t f) H
theorem aya {k:Nat}{c f:AV}{H H2:Hp}(h:QQ k c f H=some H2):∃ ci co fi fo cm fm q es z,c = .ptr ci co/\f = .ptr fi fo/\cellAt H ci (co+k)=some (.map cm)/\cellAt H fi (fo+k)=some (.map fm)/\H.h.get cm=some (.map [] q)/\H.h.get fm=some (.map es z)/\Gs es=true/\cm≠fm/\
  H2=⟨H.h.df cm (.map (uc q es) (q+es.length)),H.next+1⟩:=by
 unfold QQ at h
 split at h
 ·rename_i ci co fi fo
  split at h
  ·rename_i cm fm h1 h2
   split at h
   ·rename_i q es z h3 h4
    cases hb:(Gs es&&!(Nat.beq cm fm)) with
    | false=>rw[hb] at h;cases h
    | true=>
     rw[hb] at h
     rw[aaT] at hb
     refine⟨ci,co,fi,fo,cm,fm,q,es,z,rfl,rfl,h1,h2,h3,h4,hb.1,fun e => ?_,(ac8 h).symm⟩
     subst e
     have:=hb.2
     rw[aie] at this
     cases this
   ·cases h
  ·cases h
 ·cases h
section
variable {P:Program}{F:Nat->Prop}{W:World}{e:Em}{H:Hp}{w:World}
theorem ns.put {n:Nat}{t t':Tm}{a:Act}(h:ns e n t a){dst:Option Tmp}{v:AV}{v':Value}(hp:gP n dst v t=some t')(hv:VR e v v'):ns e n t' (a.put dst v'):=by
 refine⟨h.1.put hp hv,fun d hd => ?_⟩
 unfold gP at hp
 split at hp
 ·cases hp;exact h.2 d hd
 ·rename_i x
  cases hb:(Nat.blt x n&&Nat.blt x 4294967296) with
  | false=>rw[hb] at hp;cases hp
  | true=>
   rw[hb] at hp
   cases hp
   simp only[aaT,ae2] at hb
   rw[Tr.GK _ _ _ _ _ (by omega),if_neg (by omega)]
   exact h.2 d hd
theorem ns.mono {e':Em}(h:e.le e'){n:Nat}{t:Tm}{a:Act}(k:ns e n t a):ns e' n t a:=⟨k.1.mono h,k.2⟩
theorem axd {cf:CF}(gK:vO P cf){ops:Array Oper}{i:Nat}{o:Oper}(hi:ops[i]? = some o)(hg:o.guard=none){n:Nat}{t t':Tm}{H':Hp}{v:AV}(ho:tQ P cf t o H=some (v,H'))(hp:gP n o.dst v t=some t'){a:Act}{rest:List Nat}{Q:Exit->Act->World->Prop}
  (hR:RH P.globals.size F W e H w) (hT:ns e n t a) (hn:∀ e' a' w',e.le e'->RH P.globals.size F W e' H' w'->ns e' n t' a'->a'.defers=a.defers->wpOps P ops Q rest a' w'):wpOps P ops Q (i::rest) a w:=by
 have hw:ql ops o t=some true:=by unfold ql;rw[hg]
 simp only[wpOps,hi,MD (e:=e) (a:=a) hw (fun d _=>hT.1.val d),if_true]
 left
 exact IV gK hR ho (fun x _=>VR.ev hR hT.1 x) fun e' v' w' he bE hv=>hn e' _ w' he bE ((hT.mono he).put hp hv) (by cases o.dst<;>rfl)
theorem ax8 {ops:Array Oper}{i:Nat}{o:Oper}(hi:ops[i]? = some o)(hg:o.guard=none){a:Act}{rest:List Nat}{Q:Exit->Act->World->Prop}{v':Value}{w':World}
  (hx:(execOp a.eval o).run P w = .ok (.value v') w') (hn:wpOps P ops Q rest (a.put o.dst v') w'):wpOps P ops Q (i::rest) a w:=by
 have hw:Region.wanted o (yielded ops a.tmps)=true:=by unfold Region.wanted;simp[hg]
 simp only[wpOps,hi,hw,if_true]
 left
 unfold Oper.wp
 rw[hx]
 exact hn
theorem axW {σ:Operand->Value}{o:Oper}{it:Operand}(ho:o.op = .next it false){v':Value}{w':World}(h:(Instr.next (σ it) false o.type).run P w = .ok v' w'):(execOp σ o).run P w = .ok (.value v') w':=by
 unfold execOp;rw[ho];simp[h]
theorem axI {σ:Operand->Value}{o:Oper}{it:Operand}(ho:o.op = .entry it){v':Value}{w':World}(h:(Instr.entry (σ it)).run P w = .ok v' w'):(execOp σ o).run P w = .ok (.value v') w':=by
 unfold execOp;rw[ho];simp[h]
theorem ax7 {σ:Operand->Value}{o:Oper}{ty:TypeId}{x:Operand}(ho:o.op = .range ty x){v':Value}{w':World}(h:(Instr.range ty (σ x)).run P w = .ok v' w'):(execOp σ o).run P w = .ok (.value v') w':=by
 unfold execOp;rw[ho];simp[h]
end
end K
end Go.Proofs.YtodfajmihkagnaaGreatDoor.Am
