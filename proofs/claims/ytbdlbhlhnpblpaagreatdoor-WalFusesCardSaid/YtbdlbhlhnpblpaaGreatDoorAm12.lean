/- Laws that the proof uses. -/
import Derived.Test.YtbdlbhlhnpblpaaGreatDoorAm11
import Derived.Laws.IdiomRangeMap
set_option linter.unusedVariables false
set_option linter.unusedSimpArgs false
set_option maxHeartbeats 1000000
namespace Go.Proofs.YtbdlbhlhnpblpaaGreatDoor.Am
section
section
section
namespace K
section
variable (P:Program)
def sB (n:Nat)(dst:Option Tmp):Bool:=match dst with | none=>true | some d=>Nat.blt d n&&Nat.blt d 4294967296
def fZ (dst:Option Tmp)(v:AV)(t:Tm):Tm:=match dst with | none=>t | some d=>t.put 34 d v
def gv (ops:Array Oper)(j:Nat)(t:Tm):AV:=match (ops[j]?).bind (·.dst) with | none=>cF | some d=>(t.get d).getD cF
def wv (want:Bool)(g:AV):Option Bool:=match g with | .bool b=>some (b==want) | .dE=>none | _=>some false
def GO (g:AV)(want:Bool)(f:(AV->Hp->R)->R)(k:AV->Hp->R)(H:Hp):R:=match wv want g with | some true=>f k | some false=>k cF H | none=>none
def SM (a b:AV)(x:R):R:=bif same a b then x else none
def sN (cf:CF)(n:Nat)(ops:Array Oper):List Oper->Tm->Hp->KN->R
 | [],t,H,k=>k t H
 | o::r,t,H,k=>bif sB n o.dst then (match o.guard with
   | none=>dI P cf o t H fun v H=>sN cf n ops r (fZ o.dst v t) H k
   | some (j,want)=>GO (gv ops j t) want (fun k'=>dI P cf o t H k') (fun v H=>sN cf n ops r (fZ o.dst v t) H k) H) else none
def hU:CF:=fun _ _ _=>none
def lQ (s:iv)(x:R):List iv->R
 | []=>x
 | r::l=>match r.k with
  | .pure=>lQ s x l
  | .read=>bif Nat.blt r.i s.i then (bif s.b.testBit r.i then lQ s x l else dI P hU r.o r.t s.ha fun v _=>SM r.v v (lQ s x l))
    else (bif r.b.testBit s.i then lQ s x l else dI P hU r.o r.t s.hb fun v _=>SM r.v v (lQ s x l))
  | _=>bif !(Nat.blt r.i s.i)||s.b.testBit r.i then lQ s x l else none
def uM (all:List iv)(x:R):List iv->R
 | []=>x
 | s::l=>match s.k with
  | .dj=>lQ P s (uM all x l) all
  | _=>uM all x l
def rI:List (Nat × AV)->Nat->Option AV
 | [],_=>none
 | (e,v)::r,d=>bif Nat.beq e d then some v else rI r d
def lr:List (Nat × AV)->Option Tmp->List (Nat × AV)
 | kn,none=>kn
 | [],some _=>[]
 | (e,v)::r,some d=>bif Nat.beq e d then lr r (some d) else (e,v)::lr r (some d)
def GB (kn:List (Nat × AV)):Option Tmp->List (Nat × AV)
 | none=>kn
 | some d=>(d,cF)::lr kn (some d)
def pQ (g:AV)(want:Bool)(x y:R):R:=match g with | .bool b=>bif b==want then x else y | _=>none
def iE (cf:CF)(n:Nat)(ops:Array Oper):Nat->List Oper->List Nat->List (Nat × AV)->Tm->Tm->Hp->Hp->List iv->KN->R
 | _,[],_,_,_,te,_,h,acc,k=>uM P acc (k te h) acc
 | _,_::_,[],_,_,_,_,_,_,_=>none
 | i,o::r,b::bs,kn,tp,te,hb,h,acc,k=>bif sB n o.dst then
   let go:List (Nat × AV)->Tm->R:=fun kn tp=>match kd P o with
    | .late=>dI P hU o tp h fun v h'=>iE cf n ops (i+1) r bs (lr kn o.dst) (fZ o.dst .dE tp) (fZ o.dst v te) hb h' (acc++[⟨i,o,b,true,.late,v,tp,hb,hb⟩]) k
    | .dj=>dI P cf o te h fun v h'=>iE cf n ops (i+1) r bs (lr kn o.dst) (fZ o.dst v tp) (fZ o.dst v te) h' h' (acc++[⟨i,o,b,true,.dj,v,tp,hb,h'⟩]) k
    | .pure=>dI P hU o tp hb fun v _=>iE cf n ops (i+1) r bs (lr kn o.dst) (fZ o.dst v tp) (fZ o.dst v te) hb h (acc++[⟨i,o,b,true,.pure,v,tp,hb,hb⟩]) k
    | .read=>dI P hU o tp hb fun v _=>iE cf n ops (i+1) r bs (lr kn o.dst) (fZ o.dst v tp) (fZ o.dst v te) hb h (acc++[⟨i,o,b,true,.read,v,tp,hb,hb⟩]) k
   let skip:List (Nat × AV)->Tm->R:=fun kn tp=>iE cf n ops (i+1) r bs (GB kn o.dst) (fZ o.dst cF tp) (fZ o.dst cF te) hb h (acc++[⟨i,o,b,false,.pure,cF,tp,hb,hb⟩]) k
   match o.guard with
   | none=>go kn tp
   | some (j,want)=>match (ops[j]?).bind (·.dst) with
    | none=>skip kn tp
    | some d=>match rI kn d with
     | some c=>(match wv want c with | some true=>go kn tp | some false=>skip kn tp | none=>none)
     | none=>pQ ((tp.get d).getD cF) want (go ((d,.bool want)::kn) (fZ (some d) (.bool want) tp)) (skip ((d,.bool !want)::kn) (fZ (some d) (.bool !want) tp))
  else none
def lV:pq:=fun cf n ops d t H k=>bif d then (bif tZ ops then iE P cf n ops 0 ops.toList (before ops.toList []) [] t t H H [] k else none) else sN P cf n ops ops.toList t H k
end
section
variable {P:Program}
theorem zy {n:Nat}{dst:Option Tmp}{v:AV}{t:Tm}(h:sB n dst=true):gr n dst v t=some (fZ dst v t):=by
 unfold gr fZ
 cases dst with
 | none=>rfl
 | some d=>
  have h':(Nat.blt d n&&Nat.blt d 4294967296)=true:=h
  simp only[h',cond_true]
theorem XQ {ops:Array Oper}{o:Oper}{t:Tm}{j:Nat}{want:Bool}(h:o.guard=some (j,want)):pB ops o t=wv want (gv ops j t):=by
 unfold pB gv
 rw[h]
 simp only
 cases (ops[j]?).bind (·.dst) with
 | none=>rfl
 | some d=>
  simp only
  cases t.get d with
  | none=>rfl
  | some a=>cases a<;>rfl
theorem RN {cf:CF}{n:Nat}{ops:Array Oper}:∀ (l:List Oper) (t:Tm) (H:Hp) (k:KN) (r:AV × Hp),sN P cf n ops l t H k=some r->∃ t' H',pU P cf n ops l t H=some (t',H')/\k t' H'=some r
 | [],t,H,k,r,h=>⟨t,H,rfl,h⟩
 | o::l,t,H,k,r,h=>by
  unfold sN at h
  cases hd:sB n o.dst with
  | false=>rw[hd] at h;cases h
  | true=>
   rw[hd] at h
   simp only[cond_true] at h
   have run:∀ (v:AV) (H':Hp),qL P cf t o H=some (v,H')->pB ops o t=some true->sN P cf n ops l (fZ o.dst v t) H' k=some r->∃ t' H',pU P cf n ops (o::l) t H=some (t',H')/\k t' H'=some r:=by
    intro v H' h1 h2 h3
    obtain⟨t2,H2,q1,q2⟩:=RN l _ _ k r h3
    refine⟨t2,H2,?_,q2⟩
    unfold pU
    rw[h2]
    simp only[h1,zy hd]
    exact q1
   cases hg:o.guard with
   | none=>
    rw[hg] at h
    obtain⟨v,H',h1,h2⟩:=HZ h
    exact run v H' h1 (by unfold pB;rw[hg]) h2
   | some p=>
    obtain⟨j,want⟩:=p
    rw[hg] at h
    simp only at h
    unfold GO at h
    rw[<-XQ (o:=o) hg] at h
    cases hw:pB ops o t with
    | none=>rw[hw] at h;cases h
    | some b=>
     rw[hw] at h
     cases b with
     | true=>
      simp only at h
      obtain⟨v,H',h1,h2⟩:=HZ h
      exact run v H' h1 hw h2
     | false=>
      simp only at h
      obtain⟨t2,H2,q1,q2⟩:=RN l _ _ k r h
      refine⟨t2,H2,?_,q2⟩
      unfold pU
      rw[hw]
      simp only[zy hd]
      exact q1
theorem Lh {o:Oper}{t:Tm}{H:Hp}{k:AV->Hp->R}{r:AV × Hp}(h:dI P hU o t H k=some r):∃ v H',fH P (ev P.globals.size t) o H=some (v,H')/\k v H'=some r:=by
 obtain⟨v,H',h1,h2⟩:=HZ h
 refine⟨v,H',?_,h2⟩
 unfold qL at h1
 split at h1
 ·cases h1
 ·exact h1
theorem xk {s:iv}{x:R}{r:AV × Hp}:∀ (l:List iv),lQ P s x l=some r->(l.all fun q=>match q.k with
   | .dj | .late => !(Nat.blt q.i s.i)||s.b.testBit q.i
   | .read=>bif Nat.blt q.i s.i then s.b.testBit q.i||qY P q s.ha else q.b.testBit s.i||qY P q s.hb
   | .pure=>true)=true/\x=some r
 | [],h=>⟨rfl,h⟩
 | q::l,h=>by
  unfold lQ at h
  rw[List.all_cons,aaK]
  have rd:∀ (Hx:Hp),(dI P hU q.o q.t Hx fun v _=>SM q.v v (lQ P s x l))=some r->qY P q Hx=true/\lQ P s x l=some r:=by
   intro Hx hx
   obtain⟨v,H',h1,h2⟩:=Lh hx
   unfold SM at h2
   cases hs:same q.v v with
   | false=>rw[hs] at h2;cases h2
   | true=>
    rw[hs] at h2
    refine⟨?_,h2⟩
    unfold qY
    rw[h1]
    exact hs
  cases hk:q.k with
  | pure=>
   rw[hk] at h
   obtain⟨a,b⟩:=xk l h
   exact⟨⟨rfl,a⟩,b⟩
  | read=>
   rw[hk] at h
   simp only at h ⊢
   cases hb:Nat.blt q.i s.i with
   | true=>
    rw[hb] at h
    simp only[cond_true] at h ⊢
    cases ht:s.b.testBit q.i with
    | true=>
     rw[ht] at h
     obtain⟨a,b⟩:=xk l h
     exact⟨⟨rfl,a⟩,b⟩
    | false=>
     rw[ht] at h
     obtain⟨c,d⟩:=rd _ h
     obtain⟨a,b⟩:=xk l d
     exact⟨⟨by rw[c];rfl,a⟩,b⟩
   | false=>
    rw[hb] at h
    simp only[cond_false] at h ⊢
    cases ht:q.b.testBit s.i with
    | true=>
     rw[ht] at h
     obtain⟨a,b⟩:=xk l h
     exact⟨⟨rfl,a⟩,b⟩
    | false=>
     rw[ht] at h
     obtain⟨c,d⟩:=rd _ h
     obtain⟨a,b⟩:=xk l d
     exact⟨⟨by rw[c];rfl,a⟩,b⟩
  | late=>
   rw[hk] at h
   simp only at h ⊢
   cases hb:(!(Nat.blt q.i s.i)||s.b.testBit q.i) with
   | false=>rw[hb] at h;cases h
   | true=>
    rw[hb] at h
    obtain⟨a,b⟩:=xk l h
    exact⟨⟨rfl,a⟩,b⟩
  | dj=>
   rw[hk] at h
   simp only at h ⊢
   cases hb:(!(Nat.blt q.i s.i)||s.b.testBit q.i) with
   | false=>rw[hb] at h;cases h
   | true=>
    rw[hb] at h
    obtain⟨a,b⟩:=xk l h
    exact⟨⟨rfl,a⟩,b⟩
theorem HS {all:List iv}{x:R}{r:AV × Hp}:∀ (l:List iv),uM P all x l=some r->(l.all fun s=>match s.k with
  | .dj=>all.all fun q=>match q.k with
   | .dj | .late => !(Nat.blt q.i s.i)||s.b.testBit q.i
   | .read=>bif Nat.blt q.i s.i then s.b.testBit q.i||qY P q s.ha else q.b.testBit s.i||qY P q s.hb
   | .pure=>true
  | _=>true)=true/\x=some r
 | [],h=>⟨rfl,h⟩
 | s::l,h=>by
  unfold uM at h
  rw[List.all_cons,aaK]
  cases hk:s.k with
  | dj=>
   rw[hk] at h
   obtain⟨a,b⟩:=xk all h
   obtain⟨c,d⟩:=HS l b
   exact⟨⟨a,c⟩,d⟩
  | pure=>rw[hk] at h;obtain⟨c,d⟩:=HS l h;exact⟨⟨rfl,c⟩,d⟩
  | read=>rw[hk] at h;obtain⟨c,d⟩:=HS l h;exact⟨⟨rfl,c⟩,d⟩
  | late=>rw[hk] at h;obtain⟨c,d⟩:=HS l h;exact⟨⟨rfl,c⟩,d⟩
def rE (kn:List (Nat × AV))(t:Tm):Prop:=∀ d v,rI kn d=some v->t.get d=some v
theorem MY:∀ (kn:List (Nat × AV)) (x d:Nat) (v:AV),rI (lr kn (some x)) d=some v->d≠x/\rI kn d=some v
 | [],x,d,v,h=>by cases h
 | (e,u)::r,x,d,v,h=>by
  unfold lr at h
  by_cases he:e=x
  ·subst he
   rw[qt,cond_true] at h
   obtain⟨a,b⟩:=MY r e d v h
   refine⟨a,?_⟩
   unfold rI
   rw[lY (Ne.symm a)];exact b
  ·rw[lY he,cond_false] at h
   unfold rI at h ⊢
   by_cases hd:e=d
   ·subst hd
    rw[qt] at h ⊢
    exact⟨he,h⟩
   ·rw[lY hd] at h ⊢
    exact MY r x d v h
theorem rE.put {kn:List (Nat × AV)}{t:Tm}(h:rE kn t)(dst:Option Tmp)(v:AV):rE (lr kn dst) (fZ dst v t):=by
 cases dst with
 | none=>intro d u hd;cases kn<;>exact h d u hd
 | some x=>
  intro d u hd
  obtain⟨a,b⟩:=MY kn x d u hd
  show (t.put 34 x v).get d=some u
  rw[Tr.put,Tr.eS,if_neg a]
  exact h d u b
theorem rE.amK {kn:List (Nat × AV)}{t:Tm}(h:rE kn t)(dst:Option Tmp):rE (GB kn dst) (fZ dst cF t):=by
 cases dst with
 | none=>exact h
 | some x=>
  intro d u hd
  unfold GB rI at hd
  by_cases hx:x=d
  ·subst hx
   rw[qt] at hd
   cases hd
   show (t.put 34 x cF).get x=some cF
   rw[Tr.put,Tr.eS,if_pos rfl]
  ·rw[lY hx] at hd
   exact (h.put (some x) cF) d u hd
theorem rE.cons {kn:List (Nat × AV)}{t:Tm}(h:rE kn t){d:Nat}{v:AV}(hv:t.get d=some v):rE ((d,v)::kn) t:=by
 intro e u he
 unfold rI at he
 by_cases hx:d=e
 ·subst hx
  rw[qt] at he
  cases he;exact hv
 ·rw[lY hx] at he
  exact h e u he
theorem Gl {α:Type}{x:α}:∀ (p:Pa) (t:Tr α),Tr.jx p t=some x->Tr.fJ p (some x) t=t
 | .e,.nil,h=>by cases h
 | .e,.node v k0 k1 k2 k3,h=>by cases h;rfl
 | .a p,.nil,h=>by rw[Tr.ql] at h;cases h
 | .b p,.nil,h=>by rw[Tr.ql] at h;cases h
 | .c p,.nil,h=>by rw[Tr.ql] at h;cases h
 | .d p,.nil,h=>by rw[Tr.ql] at h;cases h
 | .a p,.node v k0 k1 k2 k3,h=>congrArg (fun k=>Tr.node v k k1 k2 k3) (Gl p k0 h)
 | .b p,.node v k0 k1 k2 k3,h=>congrArg (fun k=>Tr.node v k0 k k2 k3) (Gl p k1 h)
 | .c p,.node v k0 k1 k2 k3,h=>congrArg (fun k=>Tr.node v k0 k1 k k3) (Gl p k2 h)
 | .d p,.node v k0 k1 k2 k3,h=>congrArg (fun k=>Tr.node v k0 k1 k2 k) (Gl p k3 h)
theorem T8 {t:Tm}{d:Nat}{v:AV}(h:t.get d=some v):fZ (some d) v t=t:=Gl (pathOf d) t h
theorem B3 {cf:CF}{n:Nat}{ops:Array Oper}:∀ (l:List Oper) (i:Nat) (bs:List Nat) (kn:List (Nat × AV)) (tp te:Tm) (hb h:Hp) (acc:List iv) (k:KN) (r:AV × Hp),rE kn tp->iE P cf n ops i l bs kn tp te hb h acc k=some r->
  ∃ s t' H',iY P cf n ops i l bs tp te hb h=some (s,t',H')/\zF P (acc++s)=true/\k t' H'=some r
 | [],i,bs,kn,tp,te,hb,h,acc,k,r,eD,hr=>by
  unfold iE at hr
  obtain⟨a,b⟩:=HS acc hr
  refine⟨[],te,h,by unfold iY;rfl,?_,b⟩
  rw[aeD]
  exact a
 | o::l,i,[],kn,tp,te,hb,h,acc,k,r,eD,hr=>by unfold iE at hr;cases hr
 | o::l,i,b::bs,kn,tp,te,hb,h,acc,k,r,eD,hr=>by
  unfold iE at hr
  cases hd:sB n o.dst with
  | false=>rw[hd] at hr;cases hr
  | true=>
   rw[hd] at hr
   simp only[cond_true] at hr
   have go:∀ kn,rE kn tp->pB ops o tp=some true->(match kd P o with
    | .late=>dI P hU o tp h fun v h'=>iE P cf n ops (i+1) l bs (lr kn o.dst) (fZ o.dst .dE tp) (fZ o.dst v te) hb h' (acc++[⟨i,o,b,true,.late,v,tp,hb,hb⟩]) k
    | .dj=>dI P cf o te h fun v h'=>iE P cf n ops (i+1) l bs (lr kn o.dst) (fZ o.dst v tp) (fZ o.dst v te) h' h' (acc++[⟨i,o,b,true,.dj,v,tp,hb,h'⟩]) k
    | .pure=>dI P hU o tp hb fun v _=>iE P cf n ops (i+1) l bs (lr kn o.dst) (fZ o.dst v tp) (fZ o.dst v te) hb h (acc++[⟨i,o,b,true,.pure,v,tp,hb,hb⟩]) k
    | .read=>dI P hU o tp hb fun v _=>iE P cf n ops (i+1) l bs (lr kn o.dst) (fZ o.dst v tp) (fZ o.dst v te) hb h (acc++[⟨i,o,b,true,.read,v,tp,hb,hb⟩]) k)=some r->
     ∃ s t' H',iY P cf n ops i (o::l) (b::bs) tp te hb h=some (s,t',H')/\zF P (acc++s)=true/\k t' H'=some r:=by
    intro kn eD hw hr
    cases hk:kd P o with
    | late=>
     rw[hk] at hr
     obtain⟨v,h',h1,h2⟩:=Lh hr
     obtain⟨s,t',H',q1,q2,q3⟩:=B3 l _ _ _ _ _ _ _ _ k r (eD.put _ _) h2
     refine⟨_,t',H',?_,by rw[adf] at q2;exact q2,q3⟩
     unfold iY
     simp only[hw,hk,h1,zy hd,q1]
     rfl
    | dj=>
     rw[hk] at hr
     obtain⟨v,h',h1,h2⟩:=HZ hr
     obtain⟨s,t',H',q1,q2,q3⟩:=B3 l _ _ _ _ _ _ _ _ k r (eD.put _ _) h2
     refine⟨_,t',H',?_,by rw[adf] at q2;exact q2,q3⟩
     unfold iY
     simp only[hw,hk,h1,zy hd,q1]
     rfl
    | pure=>
     rw[hk] at hr
     obtain⟨v,h',h1,h2⟩:=Lh hr
     obtain⟨s,t',H',q1,q2,q3⟩:=B3 l _ _ _ _ _ _ _ _ k r (eD.put _ _) h2
     refine⟨_,t',H',?_,by rw[adf] at q2;exact q2,q3⟩
     unfold iY
     simp only[hw,hk,h1,zy hd,q1]
     rfl
    | read=>
     rw[hk] at hr
     obtain⟨v,h',h1,h2⟩:=Lh hr
     obtain⟨s,t',H',q1,q2,q3⟩:=B3 l _ _ _ _ _ _ _ _ k r (eD.put _ _) h2
     refine⟨_,t',H',?_,by rw[adf] at q2;exact q2,q3⟩
     unfold iY
     simp only[hw,hk,h1,zy hd,q1]
     rfl
   have skip:∀ kn,rE kn tp->pB ops o tp=some false->iE P cf n ops (i+1) l bs (GB kn o.dst) (fZ o.dst cF tp) (fZ o.dst cF te) hb h (acc++[⟨i,o,b,false,.pure,cF,tp,hb,hb⟩]) k=some r->
     ∃ s t' H',iY P cf n ops i (o::l) (b::bs) tp te hb h=some (s,t',H')/\zF P (acc++s)=true/\k t' H'=some r:=by
    intro kn eD hw hr
    obtain⟨s,t',H',q1,q2,q3⟩:=B3 l _ _ _ _ _ _ _ _ k r (eD.amK _) hr
    refine⟨_,t',H',?_,by rw[adf] at q2;exact q2,q3⟩
    unfold iY
    simp only[hw,zy hd,q1]
    rfl
   cases hg:o.guard with
   | none=>
    rw[hg] at hr
    exact go kn eD (by unfold pB;rw[hg]) hr
   | some p=>
    obtain⟨j,want⟩:=p
    rw[hg] at hr
    simp only at hr
    have tC:=XQ (ops:=ops) (o:=o) (t:=tp) hg
    unfold gv at tC
    cases hj:(ops[j]?).bind (·.dst) with
    | none=>
     rw[hj] at hr tC
     exact skip kn eD tC hr
    | some d=>
     rw[hj] at hr tC
     simp only at hr tC
     cases hl:rI kn d with
     | some c=>
      rw[hl] at hr
      simp only at hr
      rw[eD d c hl,afy] at tC
      cases hw:wv want c with
      | none=>rw[hw] at hr;cases hr
      | some q=>
       rw[hw] at hr tC
       cases q with
       | true=>exact go kn eD tC hr
       | false=>exact skip kn eD tC hr
     | none=>
      rw[hl] at hr
      simp only at hr
      unfold pQ at hr
      cases ht:tp.get d with
      | none=>rw[ht] at hr;cases hr
      | some v=>
       rw[ht,afy] at hr tC
       cases v<;>first | (cases hr;done) | skip
       rename_i q
       simp only at hr
       have HT:pB ops o tp=some (q==want):=tC
       cases hq:(q==want) with
       | true=>
        rw[hq] at hr HT
        have:q=want:=by simpa using hq
        subst this
        rw[T8 ht] at hr
        exact go _ (eD.cons ht) HT hr
       | false=>
        rw[hq] at hr HT
        have:q = !want:=by cases q<;>cases want<;>simp_all
        subst this
        rw[T8 ht] at hr
        exact skip _ (eD.cons ht) HT hr
theorem ID:C5 P (lV P):=by
 intro cf n ops d t H k r h
 unfold lV at h
 cases d with
 | false=>
  simp only[cond_false] at h ⊢
  exact RN _ _ _ _ _ h
 | true=>
  simp only[cond_true] at h ⊢
  cases hr:tZ ops with
  | false=>rw[hr] at h;cases h
  | true=>
   rw[hr] at h
   simp only[cond_true] at h
   obtain⟨s,t',H',q1,q2,q3⟩:=B3 _ _ _ _ _ _ _ _ _ _ _ (fun d v hd=>by cases hd) h
   refine⟨t',H',?_,q3⟩
   unfold zx
   rw[hr]
   simp only[cond_true,q1]
   rw[adt] at q2
   rw[q2];rfl
def MH:AV->Hp->R:=fun v H=>some (v,H)
theorem ir {α:Type}(o:Option α)(f:α->R)(g:AV × Hp->R):(B1 o f).bind g=B1 o fun v=>(f v).bind g:=by cases o<;>rfl
theorem sU (o:Option (AV × Hp))(f:AV->Hp->R)(g:AV × Hp->R):(B2 o f).bind g=B2 o fun v H=>(f v H).bind g:=by cases o<;>rfl
theorem Ln (o:Option (Nat × Hp))(f:Nat->Hp->R)(g:AV × Hp->R):(BN o f).bind g=BN o fun i H=>(f i H).bind g:=by cases o<;>rfl
theorem adF {op:BinOp}{t:TypeId}{X Y:Operand}{x y:AV}{H:Hp}(f:AV->R)(g:AV × Hp->R):(CM P op t X Y x y H f).bind g=CM P op t X Y x y H fun v=>(f v).bind g:=by
 unfold CM
 split<;>first | exact ir _ _ _ | skip
 cases gA P op t (sQ X||sQ Y) x y with
 | false=>rfl
 | true=>exact ir _ _ _
theorem acQ {a b:TypeId}{x:AV}{H:Hp}(f:AV->Hp->R)(g:AV × Hp->R):(Dy P a b x H f).bind g=Dy P a b x H fun v H=>(f v H).bind g:=by
 unfold Dy
 split<;>first | exact ir _ _ _ | exact sU _ _ _ | (split<;>first | exact ir _ _ _ | exact sU _ _ _ | rfl)
theorem agU {t:TypeId}{x:AV}{lo hi mx:Option AV}{H:Hp}(f:AV->R)(g:AV × Hp->R):(BU P t x lo hi mx H f).bind g=BU P t x lo hi mx H fun v=>(f v).bind g:=by
 unfold BU
 split<;>first | exact ir _ _ _ | (split<;>first | exact ir _ _ _ | rfl)
theorem agS {b:Builtin}{ty:Array TypeId}{args:List AV}{H:Hp}(f:AV->Hp->R)(g:AV × Hp->R):(BP P b ty args H f).bind g=BP P b ty args H fun v H=>(f v H).bind g:=by
 unfold BP
 split
 ·split<;>first | exact ir _ _ _ | exact sU _ _ _
 ·split<;>first | rfl | skip
  split<;>first | rfl | skip
  rename_i z _ _
  cases (Nat.ble (P.bytesOf _) 4096&&Nat.beq _ _) with
  | false=>rfl
  | true=>exact sU _ _ _
 ·split<;>first | rfl | skip
  split<;>first | exact sU _ _ _ | rfl
 ·split<;>first | rfl | skip
  split<;>first | exact ir _ _ _ | exact sU _ _ _
 ·exact sU _ _ _
theorem afJ {cf:CF}{o:Oper}{t:Tm}{H:Hp}(f:AV->Hp->R)(g:AV × Hp->R):(dI P cf o t H f).bind g=dI P cf o t H fun v H=>(f v H).bind g:=by
 obtain⟨dst,op,ty0,pos,after,guard⟩:=o
 cases op<;>unfold dI<;>simp only
 case pick=>exact ir _ _ _
 case alloc=>split<;>first | exact Ln _ _ _ | rfl
 case box=>exact Ln _ _ _
 case build=>
  split
  ·split<;>first | rfl | skip
   split<;>first | exact ir _ _ _ | rfl
  ·split<;>first | exact ir _ _ _ | rfl
  ·rfl
 case buildSlice=>
  split<;>first | rfl | skip
  split<;>first | rfl | skip
  cases Nat.ble _ 65536 with
  | false=>rfl
  | true=>
   simp only[cond_true]
   split<;>first | rfl | skip
   rw[ir]
   congr 1
   funext l
   exact Ln _ _ _
 case insert=>split<;>first | rfl | (split<;>exact ir _ _ _)
 case mapUpdate=>split<;>first | rfl | (split<;>exact ir _ _ _)
 case load=>split<;>first | exact ir _ _ _ | rfl
 case store=>split<;>first | exact ir _ _ _ | rfl
 case nilCheck=>exact ir _ _ _
 case binOp=>exact adF _ _
 case unOp=>exact ir _ _ _
 case convert=>exact acQ _ _
 case makeInterface=>split<;>rfl
 case makeFunc=>split<;>rfl
 case makeMap ty x=>cases x<;>first | exact Ln _ _ _ | rfl
 case makeSlice=>
  split<;>first | rfl | skip
  split<;>first | rfl | skip
  cases (Nat.ble (P.bytesOf _) 4096&&Nat.beq _ _) with
  | false=>rfl
  | true=>exact sU _ _ _
 case slice=>exact agU _ _
 case fieldAddr=>split<;>first | exact ir _ _ _ | rfl
 case field=>
  split<;>first | rfl | skip
  split<;>first | rfl | skip
  split<;>first | exact ir _ _ _ | rfl
 case indexAddr=>
  split<;>first | rfl | skip
  ·split<;>first | exact ir _ _ _ | rfl
  ·split<;>first | exact ir _ _ _ | rfl
 case index=>split<;>exact ir _ _ _
 case lookup=>
  split<;>first | rfl | skip
  split<;>exact ir _ _ _
 case range=>exact sU _ _ _
 case next=>exact sU _ _ _
 case entry=>rfl
 case extract=>exact ir _ _ _
 case typeAssert=>split<;>first | exact ir _ _ _ | rfl
 case call c=>
  obtain⟨callee,args,oY⟩:=c
  cases callee with
  | value f=>exact sU _ _ _
  | invoke r m=>rfl
  | builtin b=>exact agS _ _
 all_goals rfl
theorem Uu {cf:CF}{o:Oper}{t:Tm}{H:Hp}(k:AV->Hp->R):dI P cf o t H k=(dI P cf o t H MH).bind fun p=>k p.1 p.2:=by
 rw[afJ];rfl
theorem ajt {cf : CF}{o : Oper}{t : Tm}{H : Hp}{k : AV -> Hp -> R}{r : AV × Hp}(h : dI P cf o t H k = some r) :
    ∃ v H', k v H' = some r /\ ∀ cZ : Nat -> CF, qn cZ cf -> Ev fun j => ∀ k', dI P (cZ j) o t H k' = k' v H' := by
  rw[Uu, aaF] at h
  obtain⟨⟨v, H'⟩, h1, h2⟩ := h
  refine⟨v, H', h2, fun cZ fj => ?_⟩
  have key : Ev fun j => dI P (cZ j) o t H MH = some (v, H') := by
    obtain⟨dst, op, ty0, pos, after, guard⟩ := o
    cases op
    case makeMap ty x => cases x<;>exact Ev.of fun _ => h1
    case call c =>
     obtain⟨callee, args, oY⟩ := c
     cases callee with
     | invoke r m => exact Ev.of fun _ => h1
     | builtin b => exact Ev.of fun _ => h1
     | value f =>
      obtain⟨v2, H2, q1, q2⟩ := qG h1
      obtain⟨k0, hk⟩ := fj _ _ _ _ q1
      refine⟨k0, fun j hj => ?_⟩
      show B2 (cZ j _ _ H) MH = _
      rw[hk j hj]
      exact q2
    all_goals exact Ev.of fun _ => h1
  obtain⟨k0, hk⟩ := key
  refine⟨k0, fun j hj k' => ?_⟩
  rw[Uu, hk j hj];rfl
theorem ub:qn (fun _=>hU) hU:=fun x l H r h=>by cases h
theorem nV {cZ:Nat->CF}{cf:CF}(fj:qn cZ cf){o:Oper}{t:Tm}{H:Hp}{ks:Nat->AV->Hp->R}{k:AV->Hp->R}{r:AV × Hp}(hk:∀ v H,k v H=some r->Ev fun j=>ks j v H=some r)(h:dI P cf o t H k=some r):Ev fun j=>dI P (cZ j) o t H (ks j)=some r:=by
 obtain⟨v,H',h1,h2⟩:=ajt h
 obtain⟨a,ha⟩:=h2 cZ fj
 obtain⟨b,hb⟩:=hk v H' h1
 refine⟨max a b,fun j hj => ?_⟩
 exact (ha j (abl (Nat.le_max_left a b) hj) (ks j)).trans (hb j (abl (Nat.le_max_right a b) hj))
theorem La {cZ:Nat->CF}{cf:CF}(fj:qn cZ cf){ks:Nat->KN}{k:KN}(hk:uE ks k){n:Nat}{ops:Array Oper}:∀ (l:List Oper) (t:Tm) (H:Hp) (r:AV × Hp),sN P cf n ops l t H k=some r->Ev fun j=>sN P (cZ j) n ops l t H (ks j)=some r
 | [],t,H,r,h=>hk t H r h
 | o::l,t,H,r,h=>by
  unfold sN at h ⊢
  cases hd:sB n o.dst with
  | false=>rw[hd] at h;cases h
  | true=>
   rw[hd] at h
   simp only[cond_true] at h ⊢
   cases hg:o.guard with
   | none=>
    rw[hg] at h
    exact nV fj (fun v H h=>La fj hk l _ _ r h) h
   | some p=>
    obtain⟨q,want⟩:=p
    rw[hg] at h
    simp only at h ⊢
    unfold GO at h ⊢
    cases hw:wv want (gv ops q t) with
    | none=>rw[hw] at h;cases h
    | some b=>
     rw[hw] at h
     cases b with
     | true=>exact nV fj (fun v H h=>La fj hk l _ _ r h) h
     | false=>exact La fj hk l _ _ r h
theorem Be {s:iv}{xs:Nat->R}{x:R}{r:AV × Hp}(hx:x=some r->Ev fun j=>xs j=some r):∀ (l:List iv),lQ P s x l=some r->Ev fun j=>lQ P s (xs j) l=some r
 | [],h=>hx h
 | q::l,h=>by
  unfold lQ at h ⊢
  have rd:∀ Hx:Hp,(dI P hU q.o q.t Hx fun v _=>SM q.v v (lQ P s x l))=some r->Ev fun j=>(dI P hU q.o q.t Hx fun v _=>SM q.v v (lQ P s (xs j) l))=some r:=by
   intro Hx h
   refine nV (cZ:=fun _=>hU) ub (ks:=fun j v _=>SM q.v v (lQ P s (xs j) l)) (fun v H h => ?_) h
   unfold SM at h ⊢
   cases hs:same q.v v with
   | false=>rw[hs] at h;cases h
   | true=>rw[hs] at h;exact Be hx l h
  cases hk:q.k with
  | pure=>rw[hk] at h;exact Be hx l h
  | read=>
   rw[hk] at h
   simp only at h ⊢
   cases hb:Nat.blt q.i s.i with
   | true=>
    rw[hb] at h
    simp only[cond_true] at h ⊢
    cases ht:s.b.testBit q.i with
    | true=>rw[ht] at h;exact Be hx l h
    | false=>rw[ht] at h;exact rd _ h
   | false=>
    rw[hb] at h
    simp only[cond_false] at h ⊢
    cases ht:q.b.testBit s.i with
    | true=>rw[ht] at h;exact Be hx l h
    | false=>rw[ht] at h;exact rd _ h
  | late=>
   rw[hk] at h
   simp only at h ⊢
   cases hb:(!(Nat.blt q.i s.i)||s.b.testBit q.i) with
   | false=>rw[hb] at h;cases h
   | true=>rw[hb] at h;exact Be hx l h
  | dj=>
   rw[hk] at h
   simp only at h ⊢
   cases hb:(!(Nat.blt q.i s.i)||s.b.testBit q.i) with
   | false=>rw[hb] at h;cases h
   | true=>rw[hb] at h;exact Be hx l h
theorem D5 {all:List iv}{xs:Nat->R}{x:R}{r:AV × Hp}(hx:x=some r->Ev fun j=>xs j=some r):∀ (l:List iv),uM P all x l=some r->Ev fun j=>uM P all (xs j) l=some r
 | [],h=>hx h
 | s::l,h=>by
  unfold uM at h ⊢
  cases hk:s.k with
  | dj=>rw[hk] at h;exact Be (xs:=fun j=>uM P all (xs j) l) (fun h=>D5 hx l h) all h
  | pure=>rw[hk] at h;exact D5 hx l h
  | read=>rw[hk] at h;exact D5 hx l h
  | late=>rw[hk] at h;exact D5 hx l h
theorem V3 {cZ:Nat->CF}{cf:CF}(fj:qn cZ cf){ks:Nat->KN}{k:KN}(hk:uE ks k){n:Nat}{ops:Array Oper}:∀ (l:List Oper) (i:Nat) (bs:List Nat) (kn:List (Nat × AV)) (tp te:Tm) (hb h:Hp) (acc:List iv) (r:AV × Hp),iE P cf n ops i l bs kn tp te hb h acc k=some r->
  Ev fun j=>iE P (cZ j) n ops i l bs kn tp te hb h acc (ks j)=some r
 | [],i,bs,kn,tp,te,hb,h,acc,r,hr=>by
  unfold iE at hr ⊢
  exact D5 (xs:=fun j=>ks j te h) (fun q=>hk te h r q) acc hr
 | o::l,i,[],kn,tp,te,hb,h,acc,r,hr=>by unfold iE at hr;cases hr
 | o::l,i,b::bs,kn,tp,te,hb,h,acc,r,hr=>by
  unfold iE at hr ⊢
  cases hd:sB n o.dst with
  | false=>rw[hd] at hr;cases hr
  | true=>
   rw[hd] at hr
   simp only[cond_true] at hr ⊢
   have nH:=fun i bs kn tp te hb h acc hr=>V3 (n:=n) (ops:=ops) fj hk l i bs kn tp te hb h acc r hr
   cases hg:o.guard with
   | none=>
    rw[hg] at hr
    simp only at hr ⊢
    cases cE:kd P o<;>rw[cE] at hr<;>simp only at hr ⊢
    ·exact nV (cZ:=fun _=>hU) ub (fun v H h=>nH _ _ _ _ _ _ _ _ h) hr
    ·exact nV (cZ:=fun _=>hU) ub (fun v H h=>nH _ _ _ _ _ _ _ _ h) hr
    ·exact nV (cZ:=fun _=>hU) ub (fun v H h=>nH _ _ _ _ _ _ _ _ h) hr
    ·exact nV fj (fun v H h=>nH _ _ _ _ _ _ _ _ h) hr
   | some p=>
    obtain⟨q,want⟩:=p
    rw[hg] at hr
    simp only at hr ⊢
    cases hj:(ops[q]?).bind (·.dst) with
    | none=>
     rw[hj] at hr
     exact nH _ _ _ _ _ _ _ _ hr
    | some d=>
     rw[hj] at hr
     simp only at hr ⊢
     cases hl:rI kn d with
     | some c=>
      rw[hl] at hr
      simp only at hr ⊢
      cases hw:wv want c with
      | none=>rw[hw] at hr;cases hr
      | some w=>
       rw[hw] at hr
       cases w with
       | true=>
        simp only at hr ⊢
        cases cE:kd P o<;>rw[cE] at hr<;>simp only at hr ⊢
        ·exact nV (cZ:=fun _=>hU) ub (fun v H h=>nH _ _ _ _ _ _ _ _ h) hr
        ·exact nV (cZ:=fun _=>hU) ub (fun v H h=>nH _ _ _ _ _ _ _ _ h) hr
        ·exact nV (cZ:=fun _=>hU) ub (fun v H h=>nH _ _ _ _ _ _ _ _ h) hr
        ·exact nV fj (fun v H h=>nH _ _ _ _ _ _ _ _ h) hr
       | false=>exact nH _ _ _ _ _ _ _ _ hr
     | none=>
      rw[hl] at hr
      simp only at hr ⊢
      unfold pQ at hr ⊢
      split at hr
      ·rename_i w hv
       cases hw:(w==want) with
       | true=>
        rw[hw] at hr
        simp only[cond_true] at hr ⊢
        cases cE:kd P o<;>rw[cE] at hr<;>simp only at hr ⊢
        ·exact nV (cZ:=fun _=>hU) ub (fun v H h=>nH _ _ _ _ _ _ _ _ h) hr
        ·exact nV (cZ:=fun _=>hU) ub (fun v H h=>nH _ _ _ _ _ _ _ _ h) hr
        ·exact nV (cZ:=fun _=>hU) ub (fun v H h=>nH _ _ _ _ _ _ _ _ h) hr
        ·exact nV fj (fun v H h=>nH _ _ _ _ _ _ _ _ h) hr
       | false=>
        rw[hw] at hr
        exact nH _ _ _ _ _ _ _ _ hr
      ·cases hr
theorem Nq:uc (lV P):=by
 intro cZ cf iW kn n ops d t H r h1 h2 h
 unfold lV at h ⊢
 cases d with
 | false=>
  simp only[cond_false] at h ⊢
  exact La h1 h2 _ _ _ _ h
 | true=>
  simp only[cond_true] at h ⊢
  cases hr:tZ ops with
  | false=>rw[hr] at h;cases h
  | true=>
   rw[hr] at h
   simp only[cond_true] at h ⊢
   exact V3 h1 h2 _ _ _ _ _ _ _ _ _ _ h
end
end K
end
namespace K
def sub:Code->List Nat->Code
 | c,[]=>c
 | .seq a b,i::r=>match i with | 0=>sub a r | _=>sub b r
 | .cond _ a b,i::r=>match i with | 0=>sub a r | _=>sub b r
 | .block _ b,_::r=>sub b r
 | .loop b,_::r=>sub b r
 | c,_::_=>c
def UR (P:Program)(f:Nat)(path:List Nat):Code:=match P.funcs[f]? with
 | some fn=>(match fn.body with | some b=>sub b path | none => .skip)
 | none => .skip
def nT (P:Program)(f:Nat):Nat:=match P.funcs[f]? with | some fn=>fn.ntmps | none=>0
def VA (P:Program)(f:Nat):KN:=fun t H=>match P.funcs[f]? with | some fn=>ze P t H fn.results.toList | none=>none
noncomputable section
def Kg (P:Program)(reg:pq)(cf:CF)(n:Nat)(b:Code)(x:An)(lv:List Nat)(ke:Nat->KN)(kr:KN):Fn lv.length:=
 LP lv.length (fun k=>abs lv.length fun l H=>cu P reg cf n b x (fun t H=>app lv.length k (b6 lv t) H) ke kr (cW n lv l) H)
theorem ae4 {P:Program}{reg:pq}(fy:uc reg)(cf:CF)(n:Nat)(b:Code)(x:An)(lv:List Nat)(ke:Nat->KN)(kr:KN)(l:List AV)(hl:l.length=lv.length)(H:Hp) :
  app lv.length (Kg P reg cf n b x lv ke kr) l H=cu P reg cf n b x (fun t H=>app lv.length (Kg P reg cf n b x lv ke kr) (b6 lv t) H) ke kr (cW n lv l) H:=
 abJ fy cf n b x lv ke kr l hl H
end
def LF (k:Nat)(x:AV)(H:Hp)(f:AV->R):R:=B1 (fa k x) fun v=>B1 (ld v H) f
def NF (k:Nat)(x:AV)(H:Hp)(f:AV->R):R:=B1 (cg x) fun v=>B1 (fa k v) fun u=>B1 (ld u H) f
def NA (k:Nat)(x:AV)(f:AV->R):R:=B1 (cg x) fun v=>B1 (fa k v) f
theorem Uv (k i o:Nat)(H:Hp)(f:AV->R):LF k (.ptr i o) H f=B1 (ld (.ptr i (o+k)) H) f:=aaM rfl (id rfl)
theorem VQ (k i o:Nat)(H:Hp)(f:AV->R):NF k (.ptr i o) H f=B1 (ld (.ptr i (o+k)) H) f:=aaM rfl (id rfl)
theorem abd (k i o:Nat)(f:AV->R):NA k (.ptr i o) f=f (.ptr i (o+k)):=aaM rfl (id rfl)
end K
end
namespace K
section
def pg:Pa->AV->Tm->(Tm->R)->R
 | .e,x,t,k=>match t with | .nil=>k (.node (some x) .nil .nil .nil .nil) | .node _ a b c d=>k (.node (some x) a b c d)
 | .a p,x,t,k=>match t with | .nil=>pg p x .nil fun q=>k (.node none q .nil .nil .nil) | .node v a b c d=>pg p x a fun q=>k (.node v q b c d)
 | .b p,x,t,k=>match t with | .nil=>pg p x .nil fun q=>k (.node none .nil q .nil .nil) | .node v a b c d=>pg p x b fun q=>k (.node v a q c d)
 | .c p,x,t,k=>match t with | .nil=>pg p x .nil fun q=>k (.node none .nil .nil q .nil) | .node v a b c d=>pg p x c fun q=>k (.node v a b q d)
 | .d p,x,t,k=>match t with | .nil=>pg p x .nil fun q=>k (.node none .nil .nil .nil q) | .node v a b c d=>pg p x d fun q=>k (.node v a b c q)
theorem G0:∀ (p:Pa) (x:AV) (t:Tm) (k:Tm->R),pg p x t k=k (Tr.fJ p (some x) t)
 | .e,x,t,k=>by cases t<;>rfl
 | .a p,x,t,k=>by cases t<;>(unfold pg;simp only[G0 p];rfl)
 | .b p,x,t,k=>by cases t<;>(unfold pg;simp only[G0 p];rfl)
 | .c p,x,t,k=>by cases t<;>(unfold pg;simp only[G0 p];rfl)
 | .d p,x,t,k=>by cases t<;>(unfold pg;simp only[G0 p];rfl)
def nK (dst:Option Tmp)(v:AV)(t:Tm)(k:Tm->R):R:=match dst with | none=>k t | some d=>pg (pathOf d) v t k
theorem Vw (dst:Option Tmp)(v:AV)(t:Tm)(k:Tm->R):nK dst v t k=k (fZ dst v t):=by
 cases dst with
 | none=>rfl
 | some d=>exact G0 _ _ _ _
def FO (o:Option AV)(k:Option AV->R):R:=match o with | none=>k none | some v=>k (some v)
theorem afX (o:Option AV)(k:Option AV->R):FO o k=k o:=by cases o<;>rfl
def FT:Tm->(Tm->R)->R
 | .nil,k=>k .nil
 | .node v a b c d,k=>FO v fun v=>FT a fun a=>FT b fun b=>FT c fun c=>FT d fun d=>k (.node v a b c d)
theorem BM:∀ (t:Tm) (k:Tm->R),FT t k=k t
 | .nil,k=>rfl
 | .node v a b c d,k=>by unfold FT;rw[afX,BM a,BM b,BM c,BM d]
def OE (o:Option AV)(k:AV->R):R:=match o with | some v=>k v | none=>k cF
theorem ab6 (o:Option AV)(k:AV->R):OE o k=k (o.getD cF):=by cases o<;>rfl
noncomputable section
variable (P:Program)
def LU (t:Tm)(x:Operand)(k:AV->R):R:=match x with
 | .tmp d=>OE (t.get d) k
 | x=>k (ev P.globals.size t x)
theorem Wi (t:Tm)(x:Operand)(k:AV->R):LU P t x k=k (ev P.globals.size t x):=by
 cases x<;>first | rfl | exact ab6 _ _
def wO (cf:CF)(o:Oper)(t:Tm)(H:Hp)(k:AV->Hp->R):R:=match o.op with
 | .move x=>LU P t x fun v=>k v H
 | .assign x=>LU P t x fun v=>k v H
 | _=>dI P cf o t H k
theorem X6 (cf:CF)(o:Oper)(t:Tm)(H:Hp)(k:AV->Hp->R):wO P cf o t H k=dI P cf o t H k:=by
 unfold wO
 split
 ·rename_i x h
  rw[Wi];unfold dI;rw[h]
 ·rename_i x h
  rw[Wi];unfold dI;rw[h]
 ·rfl
abbrev JT:=(m:Nat)->(Fn m->R)->Fn m->R
abbrev GT:=AV->Bool->((AV->Hp->R)->R)->(AV->Hp->R)->Hp->R
def DW (G:GT)(cf:CF)(n:Nat)(ops:Array Oper):List Oper->Tm->Hp->KN->R
 | [],t,H,k=>k t H
 | o::r,t,H,k=>match sB n o.dst with
  | true=>(match o.guard with
   | none=>wO P cf o t H fun v H=>nK o.dst v t fun t=>DW G cf n ops r t H k
   | some (j,want)=>G (gv ops j t) want (fun k'=>wO P cf o t H k') (fun v H=>nK o.dst v t fun t=>DW G cf n ops r t H k) H)
  | false=>none
theorem aaU (cf:CF)(n:Nat)(ops:Array Oper):∀ (l:List Oper) (t:Tm) (H:Hp) (k:KN),DW P GO cf n ops l t H k=sN P cf n ops l t H k
 | [],t,H,k=>rfl
 | o::r,t,H,k=>by
  unfold DW sN
  simp only[X6,Vw,aaU cf n ops r]
  cases sB n o.dst<;>rfl
def ug (cf:CF)(n:Nat)(ops:Array Oper):Nat->List Oper->List Nat->List (Nat × AV)->Tm->Tm->Hp->Hp->List iv->KN->R
 | _,[],_,_,_,te,_,h,acc,k=>uM P acc (k te h) acc
 | _,_::_,[],_,_,_,_,_,_,_=>none
 | i,o::r,b::bs,kn,tp,te,hb,h,acc,k=>match sB n o.dst with
  | true=>
   let go:List (Nat × AV)->Tm->R:=fun kn tp=>match kd P o with
    | .late=>wO P hU o tp h fun v h'=>nK o.dst .dE tp fun tq=>nK o.dst v te fun te=>ug cf n ops (i+1) r bs (lr kn o.dst) tq te hb h' (acc++[⟨i,o,b,true,.late,v,tp,hb,hb⟩]) k
    | .dj=>wO P cf o te h fun v h'=>nK o.dst v tp fun tq=>nK o.dst v te fun te=>ug cf n ops (i+1) r bs (lr kn o.dst) tq te h' h' (acc++[⟨i,o,b,true,.dj,v,tp,hb,h'⟩]) k
    | .pure=>wO P hU o tp hb fun v _=>nK o.dst v tp fun tq=>nK o.dst v te fun te=>ug cf n ops (i+1) r bs (lr kn o.dst) tq te hb h (acc++[⟨i,o,b,true,.pure,v,tp,hb,hb⟩]) k
    | .read=>wO P hU o tp hb fun v _=>nK o.dst v tp fun tq=>nK o.dst v te fun te=>ug cf n ops (i+1) r bs (lr kn o.dst) tq te hb h (acc++[⟨i,o,b,true,.read,v,tp,hb,hb⟩]) k
   let skip:List (Nat × AV)->Tm->R:=fun kn tp=>nK o.dst cF tp fun tq=>nK o.dst cF te fun te=>ug cf n ops (i+1) r bs (GB kn o.dst) tq te hb h (acc++[⟨i,o,b,false,.pure,cF,tp,hb,hb⟩]) k
   match o.guard with
   | none=>go kn tp
   | some (j,want)=>match (ops[j]?).bind (·.dst) with
    | none=>skip kn tp
    | some d=>match rI kn d with
     | some c=>(match wv want c with | some true=>go kn tp | some false=>skip kn tp | none=>none)
     | none=>pQ ((tp.get d).getD cF) want (nK (some d) (.bool want) tp fun tp=>go ((d,.bool want)::kn) tp) (nK (some d) (.bool !want) tp fun tp=>skip ((d,.bool !want)::kn) tp)
  | false=>none
theorem Zy (cf:CF)(n:Nat)(ops:Array Oper):∀ (l:List Oper) (i:Nat) (bs:List Nat) (kn:List (Nat × AV)) (tp te:Tm) (hb h:Hp) (acc:List iv) (k:KN),
  ug P cf n ops i l bs kn tp te hb h acc k=iE P cf n ops i l bs kn tp te hb h acc k
 | [],i,bs,kn,tp,te,hb,h,acc,k=>by unfold ug iE;rfl
 | o::l,i,[],kn,tp,te,hb,h,acc,k=>by unfold ug iE;rfl
 | o::l,i,b::bs,kn,tp,te,hb,h,acc,k=>by
  unfold ug iE
  simp only[X6,Vw,Zy cf n ops l]
  cases sB n o.dst<;>rfl
def Q2 (G:GT):pq:=fun cf n ops d t H k=>match d with
 | true=>(match tZ ops with | true=>FT t fun t=>ug P cf n ops 0 ops.toList (before ops.toList []) [] t t H H [] k | false=>none)
 | false=>FT t fun t=>DW P G cf n ops ops.toList t H k
theorem amx:Q2 P GO=lV P:=by
 funext cf n ops d t H k
 unfold Q2 lV
 cases d with
 | false=>simp only[cond_false,BM,aaU]
 | true=>
  simp only[cond_true]
  cases tZ ops<;>simp only[cond_true,cond_false,BM,Zy]
def codeF (J:JT)(G:GT)(cf:CF)(n:Nat):Code->An->KN->(Nat->KN)->KN->KN
 | .skip,_,kn,_,_=>kn
 | .label _,_,kn,_,_=>kn
 | .seq a b,an,kn,ke,kr=>match an with
  | .sq none x y=>codeF J G cf n a x (codeF J G cf n b y kn ke kr) ke kr
  | .sq (some lv) x y=>fun t H=>J lv.length (fun k=>codeF J G cf n a x (fun t H=>app lv.length k (b6 lv t) H) ke kr t H) (abs lv.length fun l H=>codeF J G cf n b y kn ke kr (cW n lv l) H)
  | .pr lv p=>fun t H=>B1 (p t H) fun H=>kn (cW n lv (b6 lv t)) H
  | _=>fun _ _=>none
 | .cond c a b,an,kn,ke,kr=>match an with
  | .cd x y=>fun t H=>CD (ev P.globals.size t c) (codeF J G cf n a x kn ke kr t H) (codeF J G cf n b y kn ke kr t H)
  | _=>fun _ _=>none
 | .block i b,an,kn,ke,kr=>match an with
  | .bl none x=>codeF J G cf n b x kn (fun j t H=>match Nat.beq j i with | true=>kn t H | false=>ke j t H) kr
  | .bl (some lv) x=>fun t H=>J lv.length (fun k=>codeF J G cf n b x (fun t H=>app lv.length k (b6 lv t) H) (fun j t H=>match Nat.beq j i with | true=>app lv.length k (b6 lv t) H | false=>ke j t H) kr t H) (abs lv.length fun l H=>kn (cW n lv l) H)
  | _=>fun _ _=>none
 | .loop b,an,kn,ke,kr=>match an with
  | .lp lv x=>fun t H=>app lv.length (LP lv.length (fun k=>abs lv.length fun l H=>codeF J G cf n b x (fun t H=>app lv.length k (b6 lv t) H) ke kr (cW n lv l) H)) (b6 lv t) H
  | _=>fun _ _=>none
 | .exit i,_,_,ke,_=>ke i
 | .ret,_,_,_,kr=>kr
 | .region _ ops d,_,kn,_,_=>fun t H=>Q2 P G cf n ops d t H kn
 | _,_,_,_,_=>fun _ _=>none
theorem ac8 {α:Type}(b:Bool)(x y:α):(match b with | true=>x | false=>y)=bif b then x else y:=by cases b<;>rfl
theorem codeF_eq (cf:CF)(n:Nat):∀ (c:Code) (an:An) (kn:KN) (ke:Nat->KN) (kr:KN),codeF P JN GO cf n c an kn ke kr=cu P (lV P) cf n c an kn ke kr:=by
 intro c
 induction c with
 | seq a b ia ib=>
  intro an kn ke kr
  unfold codeF cu
  cases an with
  | sq j x y=>cases j<;>simp only[ia,ib]
  | _=>rfl
 | cond q a b ia ib=>
  intro an kn ke kr
  unfold codeF cu
  cases an with
  | cd x y=>simp only[ia,ib]
  | _=>rfl
 | block i b ib=>
  intro an kn ke kr
  unfold codeF cu
  cases an with
  | bl j x=>cases j<;>simp only[ib,ac8]
  | _=>rfl
 | loop b ib=>
  intro an kn ke kr
  unfold codeF cu
  cases an with
  | lp lv x=>simp only[ib]
  | _=>rfl
 | region id ops d=>
  intro an kn ke kr
  unfold codeF cu
  rw[amx]
 | _=>intro an kn ke kr;unfold codeF cu;rfl
def Ve (J:JT)(G:GT)(cf:CF)(fn:Func)(an:An)(b:Code)(args:List AV)(H:Hp):R:=
 codeF P J G cf fn.ntmps b an (fun t H=>ze P t H fn.results.toList) (fun _ _ _=>none) (fun t H=>ze P t H fn.results.toList) (GQ fn.ntmps args) H
def ka (J:JT)(G:GT)(b7:Nat->Option Prim)(an:Nat->An)(cf:CF)(cl:Nat)(args:List AV)(H:Hp):R:=
 match b7 cl with
 | some _=>none
 | none=>match P.funcs[cl]? with
  | some fn=>match fn.body with
   | some b=>match Nat.ble args.length fn.ntmps&&Nat.blt fn.ntmps 4294967296&&(an cl).ok fn.ntmps with
    | true=>Ve P J G cf fn (an cl) b args H
    | false=>none
   | none=>none
  | none=>none
def Gb (J:JT)(G:GT)(cf:CF)(n:Nat)(b:Code)(x:An)(lv:List Nat)(ke:Nat->KN)(kr:KN):Fn lv.length:=
 LP lv.length (fun k=>abs lv.length fun l H=>codeF P J G cf n b x (fun t H=>app lv.length k (b6 lv t) H) ke kr (cW n lv l) H)
end
variable {P:Program}{ext:Nat->Option Ext}{b7:Nat->Option Prim}{an:Nat->An}
theorem dp {cl:Nat}{first args cap:List AV}{H:Hp}{r:AV × Hp}(h:ka P JN GO b7 an (CK P (lV P) ext b7 an) cl (first++args++cap) H=some r):CK P (lV P) ext b7 an (.func (.func cl) first cap) args H=some r:=by
 refine Yd Nq ?_
 unfold ka at h
 unfold va
 simp only
 split at h
 ·cases h
 ·rename_i hp
  rw[hp]
  simp only
  split at h
  ·rename_i fn hf
   rw[hf]
   simp only
   split at h
   ·rename_i b hb
    rw[hb]
    simp only
    split at h
    ·rename_i hc
     rw[hc]
     unfold Ve at h
     rw[codeF_eq] at h
     exact h
    ·cases h
   ·cases h
  ·cases h
theorem ajQ (cf:CF)(n:Nat)(b:Code)(x:An)(lv:List Nat)(ke:Nat->KN)(kr:KN)(l:List AV)(hl:l.length=lv.length)(H:Hp) :
  app lv.length (Gb P JN GO cf n b x lv ke kr) l H=codeF P JN GO cf n b x (fun t H=>app lv.length (Gb P JN GO cf n b x lv ke kr) (b6 lv t) H) ke kr (cW n lv l) H:=by
 have h:Gb P JN GO cf n b x lv ke kr=Kg P (lV P) cf n b x lv ke kr:=by unfold Gb Kg;simp only[codeF_eq]
 rw[h,codeF_eq]
 exact ae4 Nq cf n b x lv ke kr l hl H
end
abbrev An.n (x:An):An := .sq none .nl x
abbrev An.q (x y:An):An := .sq none x y
abbrev An.s (l:List Nat)(x y:An):An := .sq (some l) x y
abbrev An.t (l:List Nat)(y:An):An := .sq (some l) .nl y
abbrev An.b (x:An):An := .bl none x
abbrev An.v (l:List Nat)(x:An):An := .bl (some l) x
def xI:An->List Nat->An
 | x,[]=>x
 | .sq _ a b,i::r=>match i with | 0=>xI a r | _=>xI b r
 | .cd a b,i::r=>match i with | 0=>xI a r | _=>xI b r
 | .bl _ a,_::r=>xI a r
 | .lp _ a,_::r=>xI a r
 | x,_::_=>x
noncomputable section
variable (P:Program)(an:Nat->An)
def jc (J:JT)(G:GT)(cf:CF)(f:Nat)(path lv:List Nat)(ke:Nat->KN):Fn lv.length:=Gb P J G cf (nT P f) (UR P f path) (xI (an f) path) lv ke (VA P f)
def qu (J:JT)(G:GT)(cf:CF)(f:Nat)(path lv:List Nat)(ke:Nat->KN)(k:Fn lv.length)(l:List AV)(H:Hp):R:=
 codeF P J G cf (nT P f) (UR P f path) (xI (an f) path) (fun t H=>app lv.length k (b6 lv t) H) ke (VA P f) (cW (nT P f) lv l) H
end
theorem jz {P:Program}{an:Nat->An}(cf:CF)(f:Nat)(path lv:List Nat)(ke:Nat->KN)(l:List AV)(hl:l.length=lv.length)(H:Hp) :
  app lv.length (jc P an JN GO cf f path lv ke) l H=qu P an JN GO cf f path lv ke (jc P an JN GO cf f path lv ke) l H:=ajQ cf _ _ _ lv ke _ l hl H
end K
end
section
variable {P:Program}{G:Nat}{F:Nat->Prop}{W:World}{e:Em}{H:Hp}{w:World}
end
namespace K
section
variable {P:Program}{F:Nat->Prop}{W:World}{e:Em}{H:Hp}{w:World}
end
end K
end Go.Proofs.YtbdlbhlhnpblpaaGreatDoor.Am
