/- Laws that the proof uses. -/
import Derived.Test.YtehhgkgeldinkaaGreatDoorAm11
import Derived.Laws.IdiomRangeMap
set_option linter.unusedVariables false
set_option linter.unusedSimpArgs false
set_option maxHeartbeats 1000000
namespace Go.Proofs.YtehhgkgeldinkaaGreatDoor.Am
section
section
section
namespace K
section
variable (P:Program)
def uM (n:Nat)(dst:Option Tmp):Bool:=match dst with | none=>true | some d=>Nat.blt d n&&Nat.blt d 4294967296
def iH (dst:Option Tmp)(v:AV)(t:Tm):Tm:=match dst with | none=>t | some d=>t.put 34 d v
def gv (ops:Array Oper)(j:Nat)(t:Tm):AV:=match (ops[j]?).bind (·.dst) with | none=>cP | some d=>(t.get d).getD cP
def wv (want:Bool)(g:AV):Option Bool:=match g with | .bool b=>some (b==want) | .dT=>none | _=>some false
def GO (g:AV)(want:Bool)(f:(AV->Hp->R)->R)(k:AV->Hp->R)(H:Hp):R:=match wv want g with | some true=>f k | some false=>k cP H | none=>none
def SM (a b:AV)(x:R):R:=bif same a b then x else none
def uX (cf:CF)(n:Nat)(ops:Array Oper):List Oper->Tm->Hp->KN->R
 | [],t,H,k=>k t H
 | o::r,t,H,k=>bif uM n o.dst then (match o.guard with
   | none=>eU P cf o t H fun v H=>uX cf n ops r (iH o.dst v t) H k
   | some (j,want)=>GO (gv ops j t) want (fun k'=>eU P cf o t H k') (fun v H=>uX cf n ops r (iH o.dst v t) H k) H) else none
def jJ:CF:=fun _ _ _=>none
def oL (s:jW)(x:R):List jW->R
 | []=>x
 | r::l=>match r.k with
  | .pure=>oL s x l
  | .read=>bif Nat.blt r.i s.i then (bif s.b.testBit r.i then oL s x l else eU P jJ r.o r.t s.ha fun v _=>SM r.v v (oL s x l))
    else (bif r.b.testBit s.i then oL s x l else eU P jJ r.o r.t s.hb fun v _=>SM r.v v (oL s x l))
  | _=>bif !(Nat.blt r.i s.i)||s.b.testBit r.i then oL s x l else none
def wV (all:List jW)(x:R):List jW->R
 | []=>x
 | s::l=>match s.k with
  | .dU=>oL P s (wV all x l) all
  | _=>wV all x l
def ui:List (Nat × AV)->Nat->Option AV
 | [],_=>none
 | (e,v)::r,d=>bif Nat.beq e d then some v else ui r d
def nZ:List (Nat × AV)->Option Tmp->List (Nat × AV)
 | kn,none=>kn
 | [],some _=>[]
 | (e,v)::r,some d=>bif Nat.beq e d then nZ r (some d) else (e,v)::nZ r (some d)
def Hh (kn:List (Nat × AV)):Option Tmp->List (Nat × AV)
 | none=>kn
 | some d=>(d,cP)::nZ kn (some d)
def uE (g:AV)(want:Bool)(x y:R):R:=match g with | .bool b=>bif b==want then x else y | _=>none
def kx (cf:CF)(n:Nat)(ops:Array Oper):Nat->List Oper->List Nat->List (Nat × AV)->Tm->Tm->Hp->Hp->List jW->KN->R
 | _,[],_,_,_,te,_,h,acc,k=>wV P acc (k te h) acc
 | _,_::_,[],_,_,_,_,_,_,_=>none
 | i,o::r,b::bs,kn,tp,te,hb,h,acc,k=>bif uM n o.dst then
   let go:List (Nat × AV)->Tm->R:=fun kn tp=>match kd P o with
    | .late=>eU P jJ o tp h fun v h'=>kx cf n ops (i+1) r bs (nZ kn o.dst) (iH o.dst .dT tp) (iH o.dst v te) hb h' (acc++[⟨i,o,b,true,.late,v,tp,hb,hb⟩]) k
    | .dU=>eU P cf o te h fun v h'=>kx cf n ops (i+1) r bs (nZ kn o.dst) (iH o.dst v tp) (iH o.dst v te) h' h' (acc++[⟨i,o,b,true,.dU,v,tp,hb,h'⟩]) k
    | .pure=>eU P jJ o tp hb fun v _=>kx cf n ops (i+1) r bs (nZ kn o.dst) (iH o.dst v tp) (iH o.dst v te) hb h (acc++[⟨i,o,b,true,.pure,v,tp,hb,hb⟩]) k
    | .read=>eU P jJ o tp hb fun v _=>kx cf n ops (i+1) r bs (nZ kn o.dst) (iH o.dst v tp) (iH o.dst v te) hb h (acc++[⟨i,o,b,true,.read,v,tp,hb,hb⟩]) k
   let skip:List (Nat × AV)->Tm->R:=fun kn tp=>kx cf n ops (i+1) r bs (Hh kn o.dst) (iH o.dst cP tp) (iH o.dst cP te) hb h (acc++[⟨i,o,b,false,.pure,cP,tp,hb,hb⟩]) k
   match o.guard with
   | none=>go kn tp
   | some (j,want)=>match (ops[j]?).bind (·.dst) with
    | none=>skip kn tp
    | some d=>match ui kn d with
     | some c=>(match wv want c with | some true=>go kn tp | some false=>skip kn tp | none=>none)
     | none=>uE ((tp.get d).getD cP) want (go ((d,.bool want)::kn) (iH (some d) (.bool want) tp)) (skip ((d,.bool !want)::kn) (iH (some d) (.bool !want) tp))
  else none
def pF:rO:=fun cf n ops d t H k=>bif d then (bif uI ops then kx P cf n ops 0 ops.toList (before ops.toList []) [] t t H H [] k else none) else uX P cf n ops ops.toList t H k
end
section
variable {P:Program}
theorem Bh {n:Nat}{dst:Option Tmp}{v:AV}{t:Tm}(h:uM n dst=true):hZ n dst v t=some (iH dst v t):=by
 unfold hZ iH
 cases dst with
 | none=>rfl
 | some d=>
  have h':(Nat.blt d n&&Nat.blt d 4294967296)=true:=h
  simp only[h',cond_true]
theorem X1 {ops:Array Oper}{o:Oper}{t:Tm}{j:Nat}{want:Bool}(h:o.guard=some (j,want)):mI ops o t=wv want (gv ops j t):=by
 unfold mI gv
 rw[h]
 simp only
 cases (ops[j]?).bind (·.dst) with
 | none=>rfl
 | some d=>
  simp only
  cases t.get d with
  | none=>rfl
  | some a=>cases a<;>rfl
theorem Sb {cf:CF}{n:Nat}{ops:Array Oper}:∀ (l:List Oper) (t:Tm) (H:Hp) (k:KN) (r:AV × Hp),uX P cf n ops l t H k=some r->∃ t' H',lN P cf n ops l t H=some (t',H')/\k t' H'=some r
 | [],t,H,k,r,h=>⟨t,H,rfl,h⟩
 | o::l,t,H,k,r,h=>by
  unfold uX at h
  cases hd:uM n o.dst with
  | false=>rw[hd] at h;cases h
  | true=>
   rw[hd] at h
   simp only[cond_true] at h
   have run:∀ (v:AV) (H':Hp),rk P cf t o H=some (v,H')->mI ops o t=some true->uX P cf n ops l (iH o.dst v t) H' k=some r->∃ t' H',lN P cf n ops (o::l) t H=some (t',H')/\k t' H'=some r:=by
    intro v H' h1 h2 h3
    obtain⟨t2,H2,q1,q2⟩:=Sb l _ _ k r h3
    refine⟨t2,H2,?_,q2⟩
    unfold lN
    rw[h2]
    simp only[h1,Bh hd]
    exact q1
   cases hg:o.guard with
   | none=>
    rw[hg] at h
    obtain⟨v,H',h1,h2⟩:=IG h
    exact run v H' h1 (by unfold mI;rw[hg]) h2
   | some p=>
    obtain⟨j,want⟩:=p
    rw[hg] at h
    simp only at h
    unfold GO at h
    rw[<-X1 (o:=o) hg] at h
    cases hw:mI ops o t with
    | none=>rw[hw] at h;cases h
    | some b=>
     rw[hw] at h
     cases b with
     | true=>
      simp only at h
      obtain⟨v,H',h1,h2⟩:=IG h
      exact run v H' h1 hw h2
     | false=>
      simp only at h
      obtain⟨t2,H2,q1,q2⟩:=Sb l _ _ k r h
      refine⟨t2,H2,?_,q2⟩
      unfold lN
      rw[hw]
      simp only[Bh hd]
      exact q1
theorem Mh {o:Oper}{t:Tm}{H:Hp}{k:AV->Hp->R}{r:AV × Hp}(h:eU P jJ o t H k=some r):∃ v H',fH P (ev P.globals.size t) o H=some (v,H')/\k v H'=some r:=by
 obtain⟨v,H',h1,h2⟩:=IG h
 refine⟨v,H',?_,h2⟩
 unfold rk at h1
 split at h1
 ·cases h1
 ·exact h1
theorem zn {s:jW}{x:R}{r:AV × Hp}:∀ (l:List jW),oL P s x l=some r->(l.all fun q=>match q.k with
   | .dU | .late => !(Nat.blt q.i s.i)||s.b.testBit q.i
   | .read=>bif Nat.blt q.i s.i then s.b.testBit q.i||tM P q s.ha else q.b.testBit s.i||tM P q s.hb
   | .pure=>true)=true/\x=some r
 | [],h=>⟨rfl,h⟩
 | q::l,h=>by
  unfold oL at h
  rw[List.all_cons,zf]
  have rd:∀ (Hx:Hp),(eU P jJ q.o q.t Hx fun v _=>SM q.v v (oL P s x l))=some r->tM P q Hx=true/\oL P s x l=some r:=by
   intro Hx hx
   obtain⟨v,H',h1,h2⟩:=Mh hx
   unfold SM at h2
   cases hs:same q.v v with
   | false=>rw[hs] at h2;cases h2
   | true=>
    rw[hs] at h2
    refine⟨?_,h2⟩
    unfold tM
    rw[h1]
    exact hs
  cases hk:q.k with
  | pure=>
   rw[hk] at h
   obtain⟨a,b⟩:=zn l h
   exact⟨⟨rfl,a⟩,b⟩
  | read=>
   rw[hk] at h
   simp only at h ⊢
   cases hb:Nat.blt q.i s.i with
   | true=>
    rw[hb] at h
    simp only[cond_true] at h ⊢
    cases ht:s.b.testBit q.i with
    | true=>
     rw[ht] at h
     obtain⟨a,b⟩:=zn l h
     exact⟨⟨rfl,a⟩,b⟩
    | false=>
     rw[ht] at h
     obtain⟨c,d⟩:=rd _ h
     obtain⟨a,b⟩:=zn l d
     exact⟨⟨by rw[c];rfl,a⟩,b⟩
   | false=>
    rw[hb] at h
    simp only[cond_false] at h ⊢
    cases ht:q.b.testBit s.i with
    | true=>
     rw[ht] at h
     obtain⟨a,b⟩:=zn l h
     exact⟨⟨rfl,a⟩,b⟩
    | false=>
     rw[ht] at h
     obtain⟨c,d⟩:=rd _ h
     obtain⟨a,b⟩:=zn l d
     exact⟨⟨by rw[c];rfl,a⟩,b⟩
  | late=>
   rw[hk] at h
   simp only at h ⊢
   cases hb:(!(Nat.blt q.i s.i)||s.b.testBit q.i) with
   | false=>rw[hb] at h;cases h
   | true=>
    rw[hb] at h
    obtain⟨a,b⟩:=zn l h
    exact⟨⟨rfl,a⟩,b⟩
  | dU=>
   rw[hk] at h
   simp only at h ⊢
   cases hb:(!(Nat.blt q.i s.i)||s.b.testBit q.i) with
   | false=>rw[hb] at h;cases h
   | true=>
    rw[hb] at h
    obtain⟨a,b⟩:=zn l h
    exact⟨⟨rfl,a⟩,b⟩
theorem IB {all:List jW}{x:R}{r:AV × Hp}:∀ (l:List jW),wV P all x l=some r->(l.all fun s=>match s.k with
  | .dU=>all.all fun q=>match q.k with
   | .dU | .late => !(Nat.blt q.i s.i)||s.b.testBit q.i
   | .read=>bif Nat.blt q.i s.i then s.b.testBit q.i||tM P q s.ha else q.b.testBit s.i||tM P q s.hb
   | .pure=>true
  | _=>true)=true/\x=some r
 | [],h=>⟨rfl,h⟩
 | s::l,h=>by
  unfold wV at h
  rw[List.all_cons,zf]
  cases hk:s.k with
  | dU=>
   rw[hk] at h
   obtain⟨a,b⟩:=zn all h
   obtain⟨c,d⟩:=IB l b
   exact⟨⟨a,c⟩,d⟩
  | pure=>rw[hk] at h;obtain⟨c,d⟩:=IB l h;exact⟨⟨rfl,c⟩,d⟩
  | read=>rw[hk] at h;obtain⟨c,d⟩:=IB l h;exact⟨⟨rfl,c⟩,d⟩
  | late=>rw[hk] at h;obtain⟨c,d⟩:=IB l h;exact⟨⟨rfl,c⟩,d⟩
def uc (kn:List (Nat × AV))(t:Tm):Prop:=∀ d v,ui kn d=some v->t.get d=some v
theorem N2:∀ (kn:List (Nat × AV)) (x d:Nat) (v:AV),ui (nZ kn (some x)) d=some v->d≠x/\ui kn d=some v
 | [],x,d,v,h=>by cases h
 | (e,u)::r,x,d,v,h=>by
  unfold nZ at h
  by_cases he:e=x
  ·subst he
   rw[sZ,cond_true] at h
   obtain⟨a,b⟩:=N2 r e d v h
   refine⟨a,?_⟩
   unfold ui
   rw[oa (Ne.symm a)];exact b
  ·rw[oa he,cond_false] at h
   unfold ui at h ⊢
   by_cases hd:e=d
   ·subst hd
    rw[sZ] at h ⊢
    exact⟨he,h⟩
   ·rw[oa hd] at h ⊢
    exact N2 r x d v h
theorem uc.put {kn:List (Nat × AV)}{t:Tm}(h:uc kn t)(dst:Option Tmp)(v:AV):uc (nZ kn dst) (iH dst v t):=by
 cases dst with
 | none=>intro d u hd;cases kn<;>exact h d u hd
 | some x=>
  intro d u hd
  obtain⟨a,b⟩:=N2 kn x d u hd
  show (t.put 34 x v).get d=some u
  rw[Tr.put,Tr.fE,if_neg a]
  exact h d u b
theorem uc.arn {kn:List (Nat × AV)}{t:Tm}(h:uc kn t)(dst:Option Tmp):uc (Hh kn dst) (iH dst cP t):=by
 cases dst with
 | none=>exact h
 | some x=>
  intro d u hd
  unfold Hh ui at hd
  by_cases hx:x=d
  ·subst hx
   rw[sZ] at hd
   cases hd
   show (t.put 34 x cP).get x=some cP
   rw[Tr.put,Tr.fE,if_pos rfl]
  ·rw[oa hx] at hd
   exact (h.put (some x) cP) d u hd
theorem uc.cons {kn:List (Nat × AV)}{t:Tm}(h:uc kn t){d:Nat}{v:AV}(hv:t.get d=some v):uc ((d,v)::kn) t:=by
 intro e u he
 unfold ui at he
 by_cases hx:d=e
 ·subst hx
  rw[sZ] at he
  cases he;exact hv
 ·rw[oa hx] at he
  exact h e u he
theorem G5 {α:Type}{x:α}:∀ (p:Pa) (t:Tr α),Tr.lF p t=some x->Tr.iq p (some x) t=t
 | .e,.nil,h=>by cases h
 | .e,.node v k0 k1 k2 k3,h=>by cases h;rfl
 | .a p,.nil,h=>by rw[Tr.sW] at h;cases h
 | .b p,.nil,h=>by rw[Tr.sW] at h;cases h
 | .c p,.nil,h=>by rw[Tr.sW] at h;cases h
 | .d p,.nil,h=>by rw[Tr.sW] at h;cases h
 | .a p,.node v k0 k1 k2 k3,h=>congrArg (fun k=>Tr.node v k k1 k2 k3) (G5 p k0 h)
 | .b p,.node v k0 k1 k2 k3,h=>congrArg (fun k=>Tr.node v k0 k k2 k3) (G5 p k1 h)
 | .c p,.node v k0 k1 k2 k3,h=>congrArg (fun k=>Tr.node v k0 k1 k k3) (G5 p k2 h)
 | .d p,.node v k0 k1 k2 k3,h=>congrArg (fun k=>Tr.node v k0 k1 k2 k) (G5 p k3 h)
theorem T2 {t:Tm}{d:Nat}{v:AV}(h:t.get d=some v):iH (some d) v t=t:=G5 (pathOf d) t h
theorem C9 {cf:CF}{n:Nat}{ops:Array Oper}:∀ (l:List Oper) (i:Nat) (bs:List Nat) (kn:List (Nat × AV)) (tp te:Tm) (hb h:Hp) (acc:List jW) (k:KN) (r:AV × Hp),uc kn tp->kx P cf n ops i l bs kn tp te hb h acc k=some r->
  ∃ s t' H',kV P cf n ops i l bs tp te hb h=some (s,t',H')/\Bm P (acc++s)=true/\k t' H'=some r
 | [],i,bs,kn,tp,te,hb,h,acc,k,r,fP,hr=>by
  unfold kx at hr
  obtain⟨a,b⟩:=IB acc hr
  refine⟨[],te,h,by unfold kV;rfl,?_,b⟩
  rw[afD]
  exact a
 | o::l,i,[],kn,tp,te,hb,h,acc,k,r,fP,hr=>by unfold kx at hr;cases hr
 | o::l,i,b::bs,kn,tp,te,hb,h,acc,k,r,fP,hr=>by
  unfold kx at hr
  cases hd:uM n o.dst with
  | false=>rw[hd] at hr;cases hr
  | true=>
   rw[hd] at hr
   simp only[cond_true] at hr
   have go:∀ kn,uc kn tp->mI ops o tp=some true->(match kd P o with
    | .late=>eU P jJ o tp h fun v h'=>kx P cf n ops (i+1) l bs (nZ kn o.dst) (iH o.dst .dT tp) (iH o.dst v te) hb h' (acc++[⟨i,o,b,true,.late,v,tp,hb,hb⟩]) k
    | .dU=>eU P cf o te h fun v h'=>kx P cf n ops (i+1) l bs (nZ kn o.dst) (iH o.dst v tp) (iH o.dst v te) h' h' (acc++[⟨i,o,b,true,.dU,v,tp,hb,h'⟩]) k
    | .pure=>eU P jJ o tp hb fun v _=>kx P cf n ops (i+1) l bs (nZ kn o.dst) (iH o.dst v tp) (iH o.dst v te) hb h (acc++[⟨i,o,b,true,.pure,v,tp,hb,hb⟩]) k
    | .read=>eU P jJ o tp hb fun v _=>kx P cf n ops (i+1) l bs (nZ kn o.dst) (iH o.dst v tp) (iH o.dst v te) hb h (acc++[⟨i,o,b,true,.read,v,tp,hb,hb⟩]) k)=some r->
     ∃ s t' H',kV P cf n ops i (o::l) (b::bs) tp te hb h=some (s,t',H')/\Bm P (acc++s)=true/\k t' H'=some r:=by
    intro kn fP hw hr
    cases hk:kd P o with
    | late=>
     rw[hk] at hr
     obtain⟨v,h',h1,h2⟩:=Mh hr
     obtain⟨s,t',H',q1,q2,q3⟩:=C9 l _ _ _ _ _ _ _ _ k r (fP.put _ _) h2
     refine⟨_,t',H',?_,by rw[adY] at q2;exact q2,q3⟩
     unfold kV
     simp only[hw,hk,h1,Bh hd,q1]
     rfl
    | dU=>
     rw[hk] at hr
     obtain⟨v,h',h1,h2⟩:=IG hr
     obtain⟨s,t',H',q1,q2,q3⟩:=C9 l _ _ _ _ _ _ _ _ k r (fP.put _ _) h2
     refine⟨_,t',H',?_,by rw[adY] at q2;exact q2,q3⟩
     unfold kV
     simp only[hw,hk,h1,Bh hd,q1]
     rfl
    | pure=>
     rw[hk] at hr
     obtain⟨v,h',h1,h2⟩:=Mh hr
     obtain⟨s,t',H',q1,q2,q3⟩:=C9 l _ _ _ _ _ _ _ _ k r (fP.put _ _) h2
     refine⟨_,t',H',?_,by rw[adY] at q2;exact q2,q3⟩
     unfold kV
     simp only[hw,hk,h1,Bh hd,q1]
     rfl
    | read=>
     rw[hk] at hr
     obtain⟨v,h',h1,h2⟩:=Mh hr
     obtain⟨s,t',H',q1,q2,q3⟩:=C9 l _ _ _ _ _ _ _ _ k r (fP.put _ _) h2
     refine⟨_,t',H',?_,by rw[adY] at q2;exact q2,q3⟩
     unfold kV
     simp only[hw,hk,h1,Bh hd,q1]
     rfl
   have skip:∀ kn,uc kn tp->mI ops o tp=some false->kx P cf n ops (i+1) l bs (Hh kn o.dst) (iH o.dst cP tp) (iH o.dst cP te) hb h (acc++[⟨i,o,b,false,.pure,cP,tp,hb,hb⟩]) k=some r->
     ∃ s t' H',kV P cf n ops i (o::l) (b::bs) tp te hb h=some (s,t',H')/\Bm P (acc++s)=true/\k t' H'=some r:=by
    intro kn fP hw hr
    obtain⟨s,t',H',q1,q2,q3⟩:=C9 l _ _ _ _ _ _ _ _ k r (fP.arn _) hr
    refine⟨_,t',H',?_,by rw[adY] at q2;exact q2,q3⟩
    unfold kV
    simp only[hw,Bh hd,q1]
    rfl
   cases hg:o.guard with
   | none=>
    rw[hg] at hr
    exact go kn fP (by unfold mI;rw[hg]) hr
   | some p=>
    obtain⟨j,want⟩:=p
    rw[hg] at hr
    simp only at hr
    have vF:=X1 (ops:=ops) (o:=o) (t:=tp) hg
    unfold gv at vF
    cases hj:(ops[j]?).bind (·.dst) with
    | none=>
     rw[hj] at hr vF
     exact skip kn fP vF hr
    | some d=>
     rw[hj] at hr vF
     simp only at hr vF
     cases hl:ui kn d with
     | some c=>
      rw[hl] at hr
      simp only at hr
      rw[fP d c hl,agy] at vF
      cases hw:wv want c with
      | none=>rw[hw] at hr;cases hr
      | some q=>
       rw[hw] at hr vF
       cases q with
       | true=>exact go kn fP vF hr
       | false=>exact skip kn fP vF hr
     | none=>
      rw[hl] at hr
      simp only at hr
      unfold uE at hr
      cases ht:tp.get d with
      | none=>rw[ht] at hr;cases hr
      | some v=>
       rw[ht,agy] at hr vF
       cases v<;>first | (cases hr;done) | skip
       rename_i q
       simp only at hr
       have ID:mI ops o tp=some (q==want):=vF
       cases hq:(q==want) with
       | true=>
        rw[hq] at hr ID
        have:q=want:=by simpa using hq
        subst this
        rw[T2 ht] at hr
        exact go _ (fP.cons ht) ID hr
       | false=>
        rw[hq] at hr ID
        have:q = !want:=by cases q<;>cases want<;>simp_all
        subst this
        rw[T2 ht] at hr
        exact skip _ (fP.cons ht) ID hr
theorem aeH:En P (pF P):=by
 intro cf n ops d t H k r h
 unfold pF at h
 cases d with
 | false=>
  simp only[cond_false] at h ⊢
  exact Sb _ _ _ _ _ h
 | true=>
  simp only[cond_true] at h ⊢
  cases hr:uI ops with
  | false=>rw[hr] at h;cases h
  | true=>
   rw[hr] at h
   simp only[cond_true] at h
   obtain⟨s,t',H',q1,q2,q3⟩:=C9 _ _ _ _ _ _ _ _ _ _ _ (fun d v hd=>by cases hd) h
   refine⟨t',H',?_,q3⟩
   unfold Bf
   rw[hr]
   simp only[cond_true,q1]
   rw[afE] at q2
   rw[q2];rfl
def NL:AV->Hp->R:=fun v H=>some (v,H)
theorem jR {α:Type}(o:Option α)(f:α->R)(g:AV × Hp->R):(B1 o f).bind g=B1 o fun v=>(f v).bind g:=by cases o<;>rfl
theorem vd (o:Option (AV × Hp))(f:AV->Hp->R)(g:AV × Hp->R):(B2 o f).bind g=B2 o fun v H=>(f v H).bind g:=by cases o<;>rfl
theorem Ms (o:Option (Nat × Hp))(f:Nat->Hp->R)(g:AV × Hp->R):(BN o f).bind g=BN o fun i H=>(f i H).bind g:=by cases o<;>rfl
theorem ae1 {op:BinOp}{t:TypeId}{X Y:Operand}{x y:AV}{H:Hp}(f:AV->R)(g:AV × Hp->R):(D4 P op t X Y x y H f).bind g=D4 P op t X Y x y H fun v=>(f v).bind g:=by
 unfold D4
 split<;>first | exact jR _ _ _ | skip
 cases gA P op t (uZ X||uZ Y) x y with
 | false=>rfl
 | true=>exact jR _ _ _
theorem adU {a b:TypeId}{x:AV}{H:Hp}(f:AV->Hp->R)(g:AV × Hp->R):(EP P a b x H f).bind g=EP P a b x H fun v H=>(f v H).bind g:=by
 unfold EP
 split<;>first | exact jR _ _ _ | exact vd _ _ _ | (split<;>first | exact jR _ _ _ | exact vd _ _ _ | rfl)
theorem akf {t:TypeId}{x:AV}{lo hi mx:Option AV}{H:Hp}(f:AV->R)(g:AV × Hp->R):(CZ P t x lo hi mx H f).bind g=CZ P t x lo hi mx H fun v=>(f v).bind g:=by
 unfold CZ
 split<;>first | exact jR _ _ _ | (split<;>first | exact jR _ _ _ | rfl)
theorem aka {b:Builtin}{ty:Array TypeId}{args:List AV}{H:Hp}(f:AV->Hp->R)(g:AV × Hp->R):(CW P b ty args H f).bind g=CW P b ty args H fun v H=>(f v H).bind g:=by
 unfold CW
 split
 ·split<;>first | exact jR _ _ _ | exact vd _ _ _
 ·split<;>first | rfl | skip
  split<;>first | rfl | skip
  rename_i z _ _
  cases (Nat.ble (P.bytesOf _) 4096&&Nat.beq _ _) with
  | false=>rfl
  | true=>exact vd _ _ _
 ·split<;>first | rfl | skip
  split<;>first | exact vd _ _ _ | rfl
 ·split<;>first | rfl | skip
  split<;>first | exact jR _ _ _ | exact vd _ _ _
 ·exact vd _ _ _
theorem aim {cf:CF}{o:Oper}{t:Tm}{H:Hp}(f:AV->Hp->R)(g:AV × Hp->R):(eU P cf o t H f).bind g=eU P cf o t H fun v H=>(f v H).bind g:=by
 obtain⟨dst,op,ty0,pos,after,guard⟩:=o
 cases op<;>unfold eU<;>simp only
 case pick=>exact jR _ _ _
 case alloc=>split<;>first | exact Ms _ _ _ | rfl
 case box=>exact Ms _ _ _
 case build=>
  split
  ·split<;>first | rfl | skip
   split<;>first | exact jR _ _ _ | rfl
  ·split<;>first | exact jR _ _ _ | rfl
  ·rfl
 case buildSlice=>
  split<;>first | rfl | skip
  split<;>first | rfl | skip
  cases Nat.ble _ 65536 with
  | false=>rfl
  | true=>
   simp only[cond_true]
   split<;>first | rfl | skip
   rw[jR]
   congr 1
   funext l
   exact Ms _ _ _
 case insert=>split<;>first | rfl | (split<;>exact jR _ _ _)
 case mapUpdate=>split<;>first | rfl | (split<;>exact jR _ _ _)
 case load=>split<;>first | exact jR _ _ _ | rfl
 case store=>split<;>first | exact jR _ _ _ | rfl
 case nilCheck=>exact jR _ _ _
 case binOp=>exact ae1 _ _
 case unOp=>exact jR _ _ _
 case convert=>exact adU _ _
 case makeInterface=>split<;>rfl
 case makeFunc=>split<;>rfl
 case makeMap ty x=>cases x<;>first | exact Ms _ _ _ | rfl
 case makeSlice=>
  split<;>first | rfl | skip
  split<;>first | rfl | skip
  cases (Nat.ble (P.bytesOf _) 4096&&Nat.beq _ _) with
  | false=>rfl
  | true=>exact vd _ _ _
 case slice=>exact akf _ _
 case fieldAddr=>split<;>first | exact jR _ _ _ | rfl
 case field=>
  split<;>first | rfl | skip
  split<;>first | rfl | skip
  split<;>first | exact jR _ _ _ | rfl
 case indexAddr=>
  split<;>first | rfl | skip
  ·split<;>first | exact jR _ _ _ | rfl
  ·split<;>first | exact jR _ _ _ | rfl
 case index=>split<;>exact jR _ _ _
 case lookup=>
  split<;>first | rfl | skip
  split<;>exact jR _ _ _
 case range=>exact vd _ _ _
 case next=>exact vd _ _ _
 case entry=>rfl
 case extract=>exact jR _ _ _
 case typeAssert=>split<;>first | exact jR _ _ _ | rfl
 case call c=>
  obtain⟨callee,args,rI⟩:=c
  cases callee with
  | value f=>exact vd _ _ _
  | invoke r m=>rfl
  | builtin b=>exact aka _ _
 all_goals rfl
theorem UC {cf:CF}{o:Oper}{t:Tm}{H:Hp}(k:AV->Hp->R):eU P cf o t H k=(eU P cf o t H NL).bind fun p=>k p.1 p.2:=by
 rw[aim];rfl
theorem ane {cf : CF}{o : Oper}{t : Tm}{H : Hp}{k : AV -> Hp -> R}{r : AV × Hp}(h : eU P cf o t H k = some r) :
    ∃ v H', k v H' = some r /\ ∀ dM : Nat -> CF, sY dM cf -> Ev fun j => ∀ k', eU P (dM j) o t H k' = k' v H' := by
  rw[UC, aa6] at h
  obtain⟨⟨v, H'⟩, h1, h2⟩ := h
  refine⟨v, H', h2, fun dM gm => ?_⟩
  have key : Ev fun j => eU P (dM j) o t H NL = some (v, H') := by
    obtain⟨dst, op, ty0, pos, after, guard⟩ := o
    cases op
    case makeMap ty x => cases x<;>exact Ev.of fun _ => h1
    case call c =>
     obtain⟨callee, args, rI⟩ := c
     cases callee with
     | invoke r m => exact Ev.of fun _ => h1
     | builtin b => exact Ev.of fun _ => h1
     | value f =>
      obtain⟨v2, H2, q1, q2⟩ := tn h1
      obtain⟨k0, hk⟩ := gm _ _ _ _ q1
      refine⟨k0, fun j hj => ?_⟩
      show B2 (dM j _ _ H) NL = _
      rw[hk j hj]
      exact q2
    all_goals exact Ev.of fun _ => h1
  obtain⟨k0, hk⟩ := key
  refine⟨k0, fun j hj k' => ?_⟩
  rw[UC, hk j hj];rfl
theorem wh:sY (fun _=>jJ) jJ:=fun x l H r h=>by cases h
theorem qN {dM:Nat->CF}{cf:CF}(gm:sY dM cf){o:Oper}{t:Tm}{H:Hp}{ks:Nat->AV->Hp->R}{k:AV->Hp->R}{r:AV × Hp}(hk:∀ v H,k v H=some r->Ev fun j=>ks j v H=some r)(h:eU P cf o t H k=some r):Ev fun j=>eU P (dM j) o t H (ks j)=some r:=by
 obtain⟨v,H',h1,h2⟩:=ane h
 obtain⟨a,ha⟩:=h2 dM gm
 obtain⟨b,hb⟩:=hk v H' h1
 refine⟨max a b,fun j hj => ?_⟩
 exact (ha j (abS (Nat.le_max_left a b) hj) (ks j)).trans (hb j (abS (Nat.le_max_right a b) hj))
theorem L6 {dM:Nat->CF}{cf:CF}(gm:sY dM cf){ks:Nat->KN}{k:KN}(hk:wK ks k){n:Nat}{ops:Array Oper}:∀ (l:List Oper) (t:Tm) (H:Hp) (r:AV × Hp),uX P cf n ops l t H k=some r->Ev fun j=>uX P (dM j) n ops l t H (ks j)=some r
 | [],t,H,r,h=>hk t H r h
 | o::l,t,H,r,h=>by
  unfold uX at h ⊢
  cases hd:uM n o.dst with
  | false=>rw[hd] at h;cases h
  | true=>
   rw[hd] at h
   simp only[cond_true] at h ⊢
   cases hg:o.guard with
   | none=>
    rw[hg] at h
    exact qN gm (fun v H h=>L6 gm hk l _ _ r h) h
   | some p=>
    obtain⟨q,want⟩:=p
    rw[hg] at h
    simp only at h ⊢
    unfold GO at h ⊢
    cases hw:wv want (gv ops q t) with
    | none=>rw[hw] at h;cases h
    | some b=>
     rw[hw] at h
     cases b with
     | true=>exact qN gm (fun v H h=>L6 gm hk l _ _ r h) h
     | false=>exact L6 gm hk l _ _ r h
theorem Cy {s:jW}{xs:Nat->R}{x:R}{r:AV × Hp}(hx:x=some r->Ev fun j=>xs j=some r):∀ (l:List jW),oL P s x l=some r->Ev fun j=>oL P s (xs j) l=some r
 | [],h=>hx h
 | q::l,h=>by
  unfold oL at h ⊢
  have rd:∀ Hx:Hp,(eU P jJ q.o q.t Hx fun v _=>SM q.v v (oL P s x l))=some r->Ev fun j=>(eU P jJ q.o q.t Hx fun v _=>SM q.v v (oL P s (xs j) l))=some r:=by
   intro Hx h
   refine qN (dM:=fun _=>jJ) wh (ks:=fun j v _=>SM q.v v (oL P s (xs j) l)) (fun v H h => ?_) h
   unfold SM at h ⊢
   cases hs:same q.v v with
   | false=>rw[hs] at h;cases h
   | true=>rw[hs] at h;exact Cy hx l h
  cases hk:q.k with
  | pure=>rw[hk] at h;exact Cy hx l h
  | read=>
   rw[hk] at h
   simp only at h ⊢
   cases hb:Nat.blt q.i s.i with
   | true=>
    rw[hb] at h
    simp only[cond_true] at h ⊢
    cases ht:s.b.testBit q.i with
    | true=>rw[ht] at h;exact Cy hx l h
    | false=>rw[ht] at h;exact rd _ h
   | false=>
    rw[hb] at h
    simp only[cond_false] at h ⊢
    cases ht:q.b.testBit s.i with
    | true=>rw[ht] at h;exact Cy hx l h
    | false=>rw[ht] at h;exact rd _ h
  | late=>
   rw[hk] at h
   simp only at h ⊢
   cases hb:(!(Nat.blt q.i s.i)||s.b.testBit q.i) with
   | false=>rw[hb] at h;cases h
   | true=>rw[hb] at h;exact Cy hx l h
  | dU=>
   rw[hk] at h
   simp only at h ⊢
   cases hb:(!(Nat.blt q.i s.i)||s.b.testBit q.i) with
   | false=>rw[hb] at h;cases h
   | true=>rw[hb] at h;exact Cy hx l h
theorem Ff {all:List jW}{xs:Nat->R}{x:R}{r:AV × Hp}(hx:x=some r->Ev fun j=>xs j=some r):∀ (l:List jW),wV P all x l=some r->Ev fun j=>wV P all (xs j) l=some r
 | [],h=>hx h
 | s::l,h=>by
  unfold wV at h ⊢
  cases hk:s.k with
  | dU=>rw[hk] at h;exact Cy (xs:=fun j=>wV P all (xs j) l) (fun h=>Ff hx l h) all h
  | pure=>rw[hk] at h;exact Ff hx l h
  | read=>rw[hk] at h;exact Ff hx l h
  | late=>rw[hk] at h;exact Ff hx l h
theorem Wl {dM:Nat->CF}{cf:CF}(gm:sY dM cf){ks:Nat->KN}{k:KN}(hk:wK ks k){n:Nat}{ops:Array Oper}:∀ (l:List Oper) (i:Nat) (bs:List Nat) (kn:List (Nat × AV)) (tp te:Tm) (hb h:Hp) (acc:List jW) (r:AV × Hp),kx P cf n ops i l bs kn tp te hb h acc k=some r->
  Ev fun j=>kx P (dM j) n ops i l bs kn tp te hb h acc (ks j)=some r
 | [],i,bs,kn,tp,te,hb,h,acc,r,hr=>by
  unfold kx at hr ⊢
  exact Ff (xs:=fun j=>ks j te h) (fun q=>hk te h r q) acc hr
 | o::l,i,[],kn,tp,te,hb,h,acc,r,hr=>by unfold kx at hr;cases hr
 | o::l,i,b::bs,kn,tp,te,hb,h,acc,r,hr=>by
  unfold kx at hr ⊢
  cases hd:uM n o.dst with
  | false=>rw[hd] at hr;cases hr
  | true=>
   rw[hd] at hr
   simp only[cond_true] at hr ⊢
   have qv:=fun i bs kn tp te hb h acc hr=>Wl (n:=n) (ops:=ops) gm hk l i bs kn tp te hb h acc r hr
   cases hg:o.guard with
   | none=>
    rw[hg] at hr
    simp only at hr ⊢
    cases cU:kd P o<;>rw[cU] at hr<;>simp only at hr ⊢
    ·exact qN (dM:=fun _=>jJ) wh (fun v H h=>qv _ _ _ _ _ _ _ _ h) hr
    ·exact qN (dM:=fun _=>jJ) wh (fun v H h=>qv _ _ _ _ _ _ _ _ h) hr
    ·exact qN (dM:=fun _=>jJ) wh (fun v H h=>qv _ _ _ _ _ _ _ _ h) hr
    ·exact qN gm (fun v H h=>qv _ _ _ _ _ _ _ _ h) hr
   | some p=>
    obtain⟨q,want⟩:=p
    rw[hg] at hr
    simp only at hr ⊢
    cases hj:(ops[q]?).bind (·.dst) with
    | none=>
     rw[hj] at hr
     exact qv _ _ _ _ _ _ _ _ hr
    | some d=>
     rw[hj] at hr
     simp only at hr ⊢
     cases hl:ui kn d with
     | some c=>
      rw[hl] at hr
      simp only at hr ⊢
      cases hw:wv want c with
      | none=>rw[hw] at hr;cases hr
      | some w=>
       rw[hw] at hr
       cases w with
       | true=>
        simp only at hr ⊢
        cases cU:kd P o<;>rw[cU] at hr<;>simp only at hr ⊢
        ·exact qN (dM:=fun _=>jJ) wh (fun v H h=>qv _ _ _ _ _ _ _ _ h) hr
        ·exact qN (dM:=fun _=>jJ) wh (fun v H h=>qv _ _ _ _ _ _ _ _ h) hr
        ·exact qN (dM:=fun _=>jJ) wh (fun v H h=>qv _ _ _ _ _ _ _ _ h) hr
        ·exact qN gm (fun v H h=>qv _ _ _ _ _ _ _ _ h) hr
       | false=>exact qv _ _ _ _ _ _ _ _ hr
     | none=>
      rw[hl] at hr
      simp only at hr ⊢
      unfold uE at hr ⊢
      split at hr
      ·rename_i w hv
       cases hw:(w==want) with
       | true=>
        rw[hw] at hr
        simp only[cond_true] at hr ⊢
        cases cU:kd P o<;>rw[cU] at hr<;>simp only at hr ⊢
        ·exact qN (dM:=fun _=>jJ) wh (fun v H h=>qv _ _ _ _ _ _ _ _ h) hr
        ·exact qN (dM:=fun _=>jJ) wh (fun v H h=>qv _ _ _ _ _ _ _ _ h) hr
        ·exact qN (dM:=fun _=>jJ) wh (fun v H h=>qv _ _ _ _ _ _ _ _ h) hr
        ·exact qN gm (fun v H h=>qv _ _ _ _ _ _ _ _ h) hr
       | false=>
        rw[hw] at hr
        exact qv _ _ _ _ _ _ _ _ hr
      ·cases hr
theorem Jf:wi (pF P):=by
 intro dM cf kT kn n ops d t H r h1 h2 h
 unfold pF at h ⊢
 cases d with
 | false=>
  simp only[cond_false] at h ⊢
  exact L6 h1 h2 _ _ _ _ h
 | true=>
  simp only[cond_true] at h ⊢
  cases hr:uI ops with
  | false=>rw[hr] at h;cases h
  | true=>
   rw[hr] at h
   simp only[cond_true] at h ⊢
   exact Wl h1 h2 _ _ _ _ _ _ _ _ _ _ h
end
end K
end
namespace K
def sub:Code->List Nat->Code
 | c,[]=>c
 | .seq a b,i::r=>match i with | 0=>sub a r | _=>sub b r
 | .cond _ a b,i::r=>match i with | 0=>sub a r | _=>sub b r
 | .block _ b,_::r=>sub b r
 | .loop b,_::r=>sub b r
 | c,_::_=>c
def U4 (P:Program)(f:Nat)(path:List Nat):Code:=match P.funcs[f]? with
 | some fn=>(match fn.body with | some b=>sub b path | none => .skip)
 | none => .skip
def nT (P:Program)(f:Nat):Nat:=match P.funcs[f]? with | some fn=>fn.ntmps | none=>0
def VT (P:Program)(f:Nat):KN:=fun t H=>match P.funcs[f]? with | some fn=>A5 P t H fn.results.toList | none=>none
noncomputable section
def KY (P:Program)(reg:rO)(cf:CF)(n:Nat)(b:Code)(x:An)(lv:List Nat)(ke:Nat->KN)(kr:KN):Fn lv.length:=
 LP lv.length (fun k=>abs lv.length fun l H=>cO P reg cf n b x (fun t H=>app lv.length k (ai lv t) H) ke kr (dF n lv l) H)
theorem aht {P:Program}{reg:rO}(gZ:wi reg)(cf:CF)(n:Nat)(b:Code)(x:An)(lv:List Nat)(ke:Nat->KN)(kr:KN)(l:List AV)(hl:l.length=lv.length)(H:Hp) :
  app lv.length (KY P reg cf n b x lv ke kr) l H=cO P reg cf n b x (fun t H=>app lv.length (KY P reg cf n b x lv ke kr) (ai lv t) H) ke kr (dF n lv l) H:=
 acy gZ cf n b x lv ke kr l hl H
end
abbrev fn (f:Nat):AV := .func (.func f) [] []
def LF (k:Nat)(x:AV)(H:Hp)(f:AV->R):R:=B1 (fa k x) fun v=>B1 (ld v H) f
def NF (k:Nat)(x:AV)(H:Hp)(f:AV->R):R:=B1 (ag x) fun v=>B1 (fa k v) fun u=>B1 (ld u H) f
def NA (k:Nat)(x:AV)(f:AV->R):R:=B1 (ag x) fun v=>B1 (fa k v) f
theorem UE (k i o:Nat)(H:Hp)(f:AV->R):LF k (.ptr i o) H f=B1 (ld (.ptr i (o+k)) H) f:=No rfl (id rfl)
theorem Wa (k i o:Nat)(H:Hp)(f:AV->R):NF k (.ptr i o) H f=B1 (ld (.ptr i (o+k)) H) f:=No rfl (id rfl)
theorem abV (k i o:Nat)(f:AV->R):NA k (.ptr i o) f=f (.ptr i (o+k)):=No rfl (id rfl)
end K
end
namespace K
section
def rN:Pa->AV->Tm->(Tm->R)->R
 | .e,x,t,k=>match t with | .nil=>k (.node (some x) .nil .nil .nil .nil) | .node _ a b c d=>k (.node (some x) a b c d)
 | .a p,x,t,k=>match t with | .nil=>rN p x .nil fun q=>k (.node none q .nil .nil .nil) | .node v a b c d=>rN p x a fun q=>k (.node v q b c d)
 | .b p,x,t,k=>match t with | .nil=>rN p x .nil fun q=>k (.node none .nil q .nil .nil) | .node v a b c d=>rN p x b fun q=>k (.node v a q c d)
 | .c p,x,t,k=>match t with | .nil=>rN p x .nil fun q=>k (.node none .nil .nil q .nil) | .node v a b c d=>rN p x c fun q=>k (.node v a b q d)
 | .d p,x,t,k=>match t with | .nil=>rN p x .nil fun q=>k (.node none .nil .nil .nil q) | .node v a b c d=>rN p x d fun q=>k (.node v a b c q)
theorem HK:∀ (p:Pa) (x:AV) (t:Tm) (k:Tm->R),rN p x t k=k (Tr.iq p (some x) t)
 | .e,x,t,k=>by cases t<;>rfl
 | .a p,x,t,k=>by cases t<;>(unfold rN;simp only[HK p];rfl)
 | .b p,x,t,k=>by cases t<;>(unfold rN;simp only[HK p];rfl)
 | .c p,x,t,k=>by cases t<;>(unfold rN;simp only[HK p];rfl)
 | .d p,x,t,k=>by cases t<;>(unfold rN;simp only[HK p];rfl)
def qA (dst:Option Tmp)(v:AV)(t:Tm)(k:Tm->R):R:=match dst with | none=>k t | some d=>rN (pathOf d) v t k
theorem VL (dst:Option Tmp)(v:AV)(t:Tm)(k:Tm->R):qA dst v t k=k (iH dst v t):=by
 cases dst with
 | none=>rfl
 | some d=>exact HK _ _ _ _
def FO (o:Option AV)(k:Option AV->R):R:=match o with | none=>k none | some v=>k (some v)
theorem aiJ (o:Option AV)(k:Option AV->R):FO o k=k o:=by cases o<;>rfl
def FT:Tm->(Tm->R)->R
 | .nil,k=>k .nil
 | .node v a b c d,k=>FO v fun v=>FT a fun a=>FT b fun b=>FT c fun c=>FT d fun d=>k (.node v a b c d)
theorem CU:∀ (t:Tm) (k:Tm->R),FT t k=k t
 | .nil,k=>rfl
 | .node v a b c d,k=>by unfold FT;rw[aiJ,CU a,CU b,CU c,CU d]
def OE (o:Option AV)(k:AV->R):R:=match o with | some v=>k v | none=>k cP
theorem acZ (o:Option AV)(k:AV->R):OE o k=k (o.getD cP):=by cases o<;>rfl
noncomputable section
variable (P:Program)
def MZ (t:Tm)(x:Operand)(k:AV->R):R:=match x with
 | .tmp d=>OE (t.get d) k
 | x=>k (ev P.globals.size t x)
theorem Wx (t:Tm)(x:Operand)(k:AV->R):MZ P t x k=k (ev P.globals.size t x):=by
 cases x<;>first | rfl | exact acZ _ _
def yJ (cf:CF)(o:Oper)(t:Tm)(H:Hp)(k:AV->Hp->R):R:=match o.op with
 | .move x=>MZ P t x fun v=>k v H
 | .assign x=>MZ P t x fun v=>k v H
 | _=>eU P cf o t H k
theorem Ye (cf:CF)(o:Oper)(t:Tm)(H:Hp)(k:AV->Hp->R):yJ P cf o t H k=eU P cf o t H k:=by
 unfold yJ
 split
 ·rename_i x h
  rw[Wx];unfold eU;rw[h]
 ·rename_i x h
  rw[Wx];unfold eU;rw[h]
 ·rfl
abbrev JT:=(m:Nat)->(Fn m->R)->Fn m->R
abbrev GT:=AV->Bool->((AV->Hp->R)->R)->(AV->Hp->R)->Hp->R
def Fb (G:GT)(cf:CF)(n:Nat)(ops:Array Oper):List Oper->Tm->Hp->KN->R
 | [],t,H,k=>k t H
 | o::r,t,H,k=>match uM n o.dst with
  | true=>(match o.guard with
   | none=>yJ P cf o t H fun v H=>qA o.dst v t fun t=>Fb G cf n ops r t H k
   | some (j,want)=>G (gv ops j t) want (fun k'=>yJ P cf o t H k') (fun v H=>qA o.dst v t fun t=>Fb G cf n ops r t H k) H)
  | false=>none
theorem abx (cf:CF)(n:Nat)(ops:Array Oper):∀ (l:List Oper) (t:Tm) (H:Hp) (k:KN),Fb P GO cf n ops l t H k=uX P cf n ops l t H k
 | [],t,H,k=>rfl
 | o::r,t,H,k=>by
  unfold Fb uX
  simp only[Ye,VL,abx cf n ops r]
  cases uM n o.dst<;>rfl
def wk (cf:CF)(n:Nat)(ops:Array Oper):Nat->List Oper->List Nat->List (Nat × AV)->Tm->Tm->Hp->Hp->List jW->KN->R
 | _,[],_,_,_,te,_,h,acc,k=>wV P acc (k te h) acc
 | _,_::_,[],_,_,_,_,_,_,_=>none
 | i,o::r,b::bs,kn,tp,te,hb,h,acc,k=>match uM n o.dst with
  | true=>
   let go:List (Nat × AV)->Tm->R:=fun kn tp=>match kd P o with
    | .late=>yJ P jJ o tp h fun v h'=>qA o.dst .dT tp fun tq=>qA o.dst v te fun te=>wk cf n ops (i+1) r bs (nZ kn o.dst) tq te hb h' (acc++[⟨i,o,b,true,.late,v,tp,hb,hb⟩]) k
    | .dU=>yJ P cf o te h fun v h'=>qA o.dst v tp fun tq=>qA o.dst v te fun te=>wk cf n ops (i+1) r bs (nZ kn o.dst) tq te h' h' (acc++[⟨i,o,b,true,.dU,v,tp,hb,h'⟩]) k
    | .pure=>yJ P jJ o tp hb fun v _=>qA o.dst v tp fun tq=>qA o.dst v te fun te=>wk cf n ops (i+1) r bs (nZ kn o.dst) tq te hb h (acc++[⟨i,o,b,true,.pure,v,tp,hb,hb⟩]) k
    | .read=>yJ P jJ o tp hb fun v _=>qA o.dst v tp fun tq=>qA o.dst v te fun te=>wk cf n ops (i+1) r bs (nZ kn o.dst) tq te hb h (acc++[⟨i,o,b,true,.read,v,tp,hb,hb⟩]) k
   let skip:List (Nat × AV)->Tm->R:=fun kn tp=>qA o.dst cP tp fun tq=>qA o.dst cP te fun te=>wk cf n ops (i+1) r bs (Hh kn o.dst) tq te hb h (acc++[⟨i,o,b,false,.pure,cP,tp,hb,hb⟩]) k
   match o.guard with
   | none=>go kn tp
   | some (j,want)=>match (ops[j]?).bind (·.dst) with
    | none=>skip kn tp
    | some d=>match ui kn d with
     | some c=>(match wv want c with | some true=>go kn tp | some false=>skip kn tp | none=>none)
     | none=>uE ((tp.get d).getD cP) want (qA (some d) (.bool want) tp fun tp=>go ((d,.bool want)::kn) tp) (qA (some d) (.bool !want) tp fun tp=>skip ((d,.bool !want)::kn) tp)
  | false=>none
theorem ZY (cf:CF)(n:Nat)(ops:Array Oper):∀ (l:List Oper) (i:Nat) (bs:List Nat) (kn:List (Nat × AV)) (tp te:Tm) (hb h:Hp) (acc:List jW) (k:KN),
  wk P cf n ops i l bs kn tp te hb h acc k=kx P cf n ops i l bs kn tp te hb h acc k
 | [],i,bs,kn,tp,te,hb,h,acc,k=>by unfold wk kx;rfl
 | o::l,i,[],kn,tp,te,hb,h,acc,k=>by unfold wk kx;rfl
 | o::l,i,b::bs,kn,tp,te,hb,h,acc,k=>by
  unfold wk kx
  simp only[Ye,VL,ZY cf n ops l]
  cases uM n o.dst<;>rfl
def Rn (G:GT):rO:=fun cf n ops d t H k=>match d with
 | true=>(match uI ops with | true=>FT t fun t=>wk P cf n ops 0 ops.toList (before ops.toList []) [] t t H H [] k | false=>none)
 | false=>FT t fun t=>Fb P G cf n ops ops.toList t H k
theorem aq7:Rn P GO=pF P:=by
 funext cf n ops d t H k
 unfold Rn pF
 cases d with
 | false=>simp only[cond_false,CU,abx]
 | true=>
  simp only[cond_true]
  cases uI ops<;>simp only[cond_true,cond_false,CU,ZY]
def codeF (J:JT)(G:GT)(cf:CF)(n:Nat):Code->An->KN->(Nat->KN)->KN->KN
 | .skip,_,kn,_,_=>kn
 | .label _,_,kn,_,_=>kn
 | .seq a b,an,kn,ke,kr=>match an with
  | .sq none x y=>codeF J G cf n a x (codeF J G cf n b y kn ke kr) ke kr
  | .sq (some lv) x y=>fun t H=>J lv.length (fun k=>codeF J G cf n a x (fun t H=>app lv.length k (ai lv t) H) ke kr t H) (abs lv.length fun l H=>codeF J G cf n b y kn ke kr (dF n lv l) H)
  | .pr lv p=>fun t H=>B1 (p t H) fun H=>kn (dF n lv (ai lv t)) H
  | _=>fun _ _=>none
 | .cond c a b,an,kn,ke,kr=>match an with
  | .cd x y=>fun t H=>CD (ev P.globals.size t c) (codeF J G cf n a x kn ke kr t H) (codeF J G cf n b y kn ke kr t H)
  | _=>fun _ _=>none
 | .block i b,an,kn,ke,kr=>match an with
  | .bl none x=>codeF J G cf n b x kn (fun j t H=>match Nat.beq j i with | true=>kn t H | false=>ke j t H) kr
  | .bl (some lv) x=>fun t H=>J lv.length (fun k=>codeF J G cf n b x (fun t H=>app lv.length k (ai lv t) H) (fun j t H=>match Nat.beq j i with | true=>app lv.length k (ai lv t) H | false=>ke j t H) kr t H) (abs lv.length fun l H=>kn (dF n lv l) H)
  | _=>fun _ _=>none
 | .loop b,an,kn,ke,kr=>match an with
  | .lp lv x=>fun t H=>app lv.length (LP lv.length (fun k=>abs lv.length fun l H=>codeF J G cf n b x (fun t H=>app lv.length k (ai lv t) H) ke kr (dF n lv l) H)) (ai lv t) H
  | _=>fun _ _=>none
 | .exit i,_,_,ke,_=>ke i
 | .ret,_,_,_,kr=>kr
 | .region _ ops d,_,kn,_,_=>fun t H=>Rn P G cf n ops d t H kn
 | _,_,_,_,_=>fun _ _=>none
theorem aem {α:Type}(b:Bool)(x y:α):(match b with | true=>x | false=>y)=bif b then x else y:=by cases b<;>rfl
theorem codeF_eq (cf:CF)(n:Nat):∀ (c:Code) (an:An) (kn:KN) (ke:Nat->KN) (kr:KN),codeF P JN GO cf n c an kn ke kr=cO P (pF P) cf n c an kn ke kr:=by
 intro c
 induction c with
 | seq a b ia ib=>
  intro an kn ke kr
  unfold codeF cO
  cases an with
  | sq j x y=>cases j<;>simp only[ia,ib]
  | _=>rfl
 | cond q a b ia ib=>
  intro an kn ke kr
  unfold codeF cO
  cases an with
  | cd x y=>simp only[ia,ib]
  | _=>rfl
 | block i b ib=>
  intro an kn ke kr
  unfold codeF cO
  cases an with
  | bl j x=>cases j<;>simp only[ib,aem]
  | _=>rfl
 | loop b ib=>
  intro an kn ke kr
  unfold codeF cO
  cases an with
  | lp lv x=>simp only[ib]
  | _=>rfl
 | region id ops d=>
  intro an kn ke kr
  unfold codeF cO
  rw[aq7]
 | _=>intro an kn ke kr;unfold codeF cO;rfl
def Vy (J:JT)(G:GT)(cf:CF)(fn:Func)(an:An)(b:Code)(args:List AV)(H:Hp):R:=
 codeF P J G cf fn.ntmps b an (fun t H=>A5 P t H fn.results.toList) (fun _ _ _=>none) (fun t H=>A5 P t H fn.results.toList) (Hu fn.ntmps args) H
def gD (J:JT)(G:GT)(aw:Nat->Option Prim)(an:Nat->An)(cf:CF)(aB:Nat)(args:List AV)(H:Hp):R:=
 match aw aB with
 | some _=>none
 | none=>match P.funcs[aB]? with
  | some fn=>match fn.body with
   | some b=>match Nat.ble args.length fn.ntmps&&Nat.blt fn.ntmps 4294967296&&(an aB).ok fn.ntmps with
    | true=>Vy P J G cf fn (an aB) b args H
    | false=>none
   | none=>none
  | none=>none
def GV (J:JT)(G:GT)(cf:CF)(n:Nat)(b:Code)(x:An)(lv:List Nat)(ke:Nat->KN)(kr:KN):Fn lv.length:=
 LP lv.length (fun k=>abs lv.length fun l H=>codeF P J G cf n b x (fun t H=>app lv.length k (ai lv t) H) ke kr (dF n lv l) H)
end
variable {P:Program}{ext:Nat->Option Ext}{aw:Nat->Option Prim}{an:Nat->An}
theorem aE {aB:Nat}{first args cap:List AV}{H:Hp}{r:AV × Hp}(h:gD P JN GO aw an (CK P (pF P) ext aw an) aB (first++args++cap) H=some r):CK P (pF P) ext aw an (.func (.func aB) first cap) args H=some r:=by
 refine Qz Jf ?_
 unfold gD at h
 unfold vU
 simp only
 split at h
 ·cases h
 ·rename_i hp
  rw[hp]
  simp only
  split at h
  ·rename_i fn hf
   rw[hf]
   simp only
   split at h
   ·rename_i b hb
    rw[hb]
    simp only
    split at h
    ·rename_i hc
     rw[hc]
     unfold Vy at h
     rw[codeF_eq] at h
     exact h
    ·cases h
   ·cases h
  ·cases h
theorem anI (cf:CF)(n:Nat)(b:Code)(x:An)(lv:List Nat)(ke:Nat->KN)(kr:KN)(l:List AV)(hl:l.length=lv.length)(H:Hp) :
  app lv.length (GV P JN GO cf n b x lv ke kr) l H=codeF P JN GO cf n b x (fun t H=>app lv.length (GV P JN GO cf n b x lv ke kr) (ai lv t) H) ke kr (dF n lv l) H:=by
 have h:GV P JN GO cf n b x lv ke kr=KY P (pF P) cf n b x lv ke kr:=by unfold GV KY;simp only[codeF_eq]
 rw[h,codeF_eq]
 exact aht Jf cf n b x lv ke kr l hl H
end
abbrev An.n (x:An):An := .sq none .nl x
abbrev An.q (x y:An):An := .sq none x y
abbrev An.s (l:List Nat)(x y:An):An := .sq (some l) x y
abbrev An.t (l:List Nat)(y:An):An := .sq (some l) .nl y
abbrev An.b (x:An):An := .bl none x
abbrev An.v (l:List Nat)(x:An):An := .bl (some l) x
def zy:An->List Nat->An
 | x,[]=>x
 | .sq _ a b,i::r=>match i with | 0=>zy a r | _=>zy b r
 | .cd a b,i::r=>match i with | 0=>zy a r | _=>zy b r
 | .bl _ a,_::r=>zy a r
 | .lp _ a,_::r=>zy a r
 | x,_::_=>x
noncomputable section
variable (P:Program)(an:Nat->An)
def gI (J:JT)(G:GT)(cf:CF)(f:Nat)(path lv:List Nat)(ke:Nat->KN):Fn lv.length:=GV P J G cf (nT P f) (U4 P f path) (zy (an f) path) lv ke (VT P f)
def nI (J:JT)(G:GT)(cf:CF)(f:Nat)(path lv:List Nat)(ke:Nat->KN)(k:Fn lv.length)(l:List AV)(H:Hp):R:=
 codeF P J G cf (nT P f) (U4 P f path) (zy (an f) path) (fun t H=>app lv.length k (ai lv t) H) ke (VT P f) (dF (nT P f) lv l) H
end
theorem ik {P:Program}{an:Nat->An}(cf:CF)(f:Nat)(path lv:List Nat)(ke:Nat->KN)(l:List AV)(hl:l.length=lv.length)(H:Hp) :
  app lv.length (gI P an JN GO cf f path lv ke) l H=nI P an JN GO cf f path lv ke (gI P an JN GO cf f path lv ke) l H:=anI cf _ _ _ lv ke _ l hl H
end K
end
section
variable {P:Program}{G:Nat}{F:Nat->Prop}{W:World}{e:Em}{H:Hp}{w:World}
theorem RH.congr {H':Hp}(h:RH G F W e H w)(hn:H'.next=H.next)(hg:∀ i o,H'.h.get i=some o->H.h.get i=some o):RH G F W e H' w:=
 ⟨h.N.trans hn.symm,fun i o hi=>h.obj i o (hg i o hi),fun i j oi oj hi hj=>h.inj i j oi oj (hg i oi hi) (hg j oj hj),h.nW,h.frame,h.os,h.tape,h.output,h.size,h.jy⟩
end
namespace K
def P5 (a b:ME):Prop:=∃ k q,a.key = .str k/\b.key = .str q/\q≠k
theorem P5.symm {a b:ME}(h:P5 a b):P5 b a:=by obtain⟨k,q,h1,h2,h3⟩:=h;exact⟨q,k,h2,h1,fun e=>h3 e.symm⟩
section
variable {P:Program}{F:Nat->Prop}{W:World}{e:Em}{H:Hp}{w:World}
theorem oC.put {n:Nat}{t t':Tm}{a:Act}(h:oC e n t a){dst:Option Tmp}{v:AV}{v':Value}(hp:hZ n dst v t=some t')(hv:VR e v v'):oC e n t' (a.put dst v'):=by
 refine⟨h.1.put hp hv,fun d hd => ?_⟩
 unfold hZ at hp
 split at hp
 ·cases hp;exact h.2 d hd
 ·rename_i x
  cases hb:(Nat.blt x n&&Nat.blt x 4294967296) with
  | false=>rw[hb] at hp;cases hp
  | true=>
   rw[hb] at hp
   cases hp
   simp only[zf,adn] at hb
   rw[Tr.Ij _ _ _ _ _ (by omega),if_neg (by omega)]
   exact h.2 d hd
theorem oC.mono {e':Em}(h:e.le e'){n:Nat}{t:Tm}{a:Act}(k:oC e n t a):oC e' n t a:=⟨k.1.mono h,k.2⟩
end
end K
end Go.Proofs.YtehhgkgeldinkaaGreatDoor.Am
