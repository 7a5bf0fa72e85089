/- Laws that the proof uses. -/
import Derived.Test.YtodfajmihkagnaaGreatDoorAm11
import Derived.Laws.IdiomRangeMap
set_option linter.unusedVariables false
set_option linter.unusedSimpArgs false
set_option maxHeartbeats 1000000
namespace Go.Proofs.YtodfajmihkagnaaGreatDoor.Am
section
section
section
namespace K
section
variable (P:Program)
def yT (n:Nat)(dst:Option Tmp):Bool:=match dst with|none=>true|some d=>Nat.blt d n&&Nat.blt d 4294967296
def iO (dst:Option Tmp)(v:AV)(t:Tm):Tm:=match dst with|none=>t|some d=>t.put 34 d v
def gv (ops:Array Oper)(j:Nat)(t:Tm):AV:=match (ops[j]?).bind (·.dst) with|none=>bP|some d=>(t.get d).getD bP
def wv (want:Bool)(g:AV):Option Bool:=match g with|.bool b=>some (b==want)|.dG=>none|_=>some false
def GO (g:AV)(want:Bool)(f:(AV->Hp->R)->R)(k:AV->Hp->R)(H:Hp):R:=match wv want g with|some true=>f k|some false=>k bP H|none=>none
def SM (a b:AV)(x:R):R:=bif same a b then x else none
def zo (cf:CF)(n:Nat)(ops:Array Oper):List Oper->Tm->Hp->KN->R
 |[],t,H,k=>k t H|o::r,t,H,k=>bif yT n o.dst then (match o.guard with
   |none=>fu P cf o t H λv H=>zo cf n ops r (iO o.dst v t) H k
   |some (j,want)=>GO (gv ops j t) want (λk'=>fu P cf o t H k') (λv H=>zo cf n ops r (iO o.dst v t) H k) H) else none
def jO:CF:=λ_ _ _=>none
def qT (s:lX)(x:R):List lX->R
 |[]=>x|r::l=>match r.k with
  |.pure=>qT s x l|.read=>bif Nat.blt r.i s.i then (bif s.b.testBit r.i then qT s x l else fu P jO r.o r.t s.ha λv _=>SM r.v v (qT s x l))
    else (bif r.b.testBit s.i then qT s x l else fu P jO r.o r.t s.hb λv _=>SM r.v v (qT s x l))
  |_=>bif !(Nat.blt r.i s.i)||s.b.testBit r.i then qT s x l else none
def Bx (all:List lX)(x:R):List lX->R
 |[]=>x|s::l=>match s.k with
  |.dP=>qT P s (Bx all x l) all|_=>Bx all x l
def yg:List (Nat×AV)->Nat->Option AV
 |[],_=>none|(e,v)::r,d=>bif Nat.beq e d then some v else yg r d
def qz:List (Nat×AV)->Option Tmp->List (Nat×AV)
 |kn,none=>kn|[],some _=>[]|(e,v)::r,some d=>bif Nat.beq e d then qz r (some d) else (e,v)::qz r (some d)
def NB (kn:List (Nat×AV)):Option Tmp->List (Nat×AV)
 |none=>kn|some d=>(d,bP)::qz kn (some d)
def jD (g:AV)(want:Bool)(x y:R):R:=match g with|.bool b=>bif b==want then x else y|_=>none
def mD (cf:CF)(n:Nat)(ops:Array Oper):Nat->List Oper->List Nat->List (Nat×AV)->Tm->Tm->Hp->Hp->List lX->KN->R
 |_,[],_,_,_,te,_,h,acc,k=>Bx P acc (k te h) acc|_,_::_,[],_,_,_,_,_,_,_=>none|i,o::r,b::bs,kn,tp,te,hb,h,acc,k=>bif yT n o.dst then
   let go:List (Nat×AV)->Tm->R:=λkn tp=>match kd P o with
    |.late=>fu P jO o te h λv h'=>mD cf n ops (i+1) r bs (qz kn o.dst) (iO o.dst .dG tp) (iO o.dst v te) hb h' (acc++[⟨i,o,b,true,.late,v,tp,hb,hb⟩]) k
    |.dP=>fu P cf o te h λv h'=>mD cf n ops (i+1) r bs (qz kn o.dst) (iO o.dst v tp) (iO o.dst v te) h' h' (acc++[⟨i,o,b,true,.dP,v,tp,hb,h'⟩]) k
    |.pure=>fu P jO o tp hb λv _=>mD cf n ops (i+1) r bs (qz kn o.dst) (iO o.dst v tp) (iO o.dst v te) hb h (acc++[⟨i,o,b,true,.pure,v,tp,hb,hb⟩]) k
    |.read=>fu P jO o tp hb λv _=>mD cf n ops (i+1) r bs (qz kn o.dst) (iO o.dst v tp) (iO o.dst v te) hb h (acc++[⟨i,o,b,true,.read,v,tp,hb,hb⟩]) k
   let skip:List (Nat×AV)->Tm->R:=λkn tp=>mD cf n ops (i+1) r bs (NB kn o.dst) (iO o.dst bP tp) (iO o.dst bP te) hb h (acc++[⟨i,o,b,false,.pure,bP,tp,hb,hb⟩]) k
   match o.guard with
   |none=>go kn tp|some (j,want)=>match (ops[j]?).bind (·.dst) with
    |none=>skip kn tp|some d=>match yg kn d with
     |some c=>(match wv want c with|some true=>go kn tp|some false=>skip kn tp|none=>none)|none=>jD ((tp.get d).getD bP) want (go ((d,.bool want)::kn) (iO (some d) (.bool want) tp)) (skip ((d,.bool !want)::kn) (iO (some d) (.bool !want) tp))
  else none
def vX:vg:=λcf n ops d t H k=>bif d then (bif AD ops then mD P cf n ops 0 ops.toList (before ops.toList []) [] t t H H [] k else none) else zo P cf n ops ops.toList t H k
end
section
variable {P:Program}
section
variable {H:Hp}{args:List AV}{cf:CF}{dst:Option Tmp}{k:AV->Hp->R}{kn:List (Nat×AV)}{o:Oper}{ops:Array Oper}{r:AV×Hp}{x:AV}{α:Type}
theorem FU {n:Nat}{v:AV}{t:Tm}(h:yT n dst=true):jk n dst v t=some (iO dst v t):=by
 unfold jk iO;cases dst with
 |none=>rfl|some d=>
  have h':(Nat.blt d n&&Nat.blt d 4294967296)=true:=h;simp only[h',cond_true]
theorem ah6 {t:Tm}{j:Nat}{want:Bool}(h:o.guard=some (j,want)):sQ ops o t=wv want (gv ops j t):=by
 unfold sQ gv;rw[h];simp only;cases (ops[j]?).bind (·.dst) with
 |none=>rfl|some d=>
  simp only;cases t.get d with
  |none=>rfl|some a=>cases a<;>rfl
theorem aad {cf:CF}{n:Nat}{ops:Array Oper}:∀(l:List Oper) (t:Tm) (H:Hp) (k:KN) (r:AV×Hp),zo P cf n ops l t H k=some r->∃t' H',wg P cf n ops l t H=some (t',H')/\k t' H'=some r
 |[],t,H,k,r,h=>⟨t,H,rfl,h⟩|o::l,t,H,k,r,h=>by
  unfold zo at h;cases hd:yT n o.dst with
  |false=>rw[hd] at h;cases h
  |true=>
   rw[hd] at h;simp only[cond_true] at h;have run:∀(v:AV) (H':Hp),si P cf t o H=some (v,H')->sQ ops o t=some true->zo P cf n ops l (iO o.dst v t) H' k=some r->∃t' H',wg P cf n ops (o::l) t H=some (t',H')/\k t' H'=some r:=by intro v H' h1 h2 h3;obtain⟨t2,H2,q1,q2⟩:=aad l _ _ k r h3;refine⟨t2,H2,?_,q2⟩;unfold wg;rw[h2];simp only[h1,FU hd];exact q1
   cases hg:o.guard with
   |none=>
    rw[hg] at h;obtain⟨v,H',h1,h2⟩:=Pf h;exact run v H' h1 (by unfold sQ;rw[hg]) h2
   |some p=>
    obtain⟨j,want⟩:=p;rw[hg] at h;simp only at h;unfold GO at h;rw[<-ah6 (o:=o) hg] at h;cases hw:sQ ops o t with
    |none=>rw[hw] at h;cases h
    |some b=>
     rw[hw] at h;cases b with
     |true=>
      simp only at h;obtain⟨v,H',h1,h2⟩:=Pf h;exact run v H' h1 hw h2
     |false=>
      simp only at h;obtain⟨t2,H2,q1,q2⟩:=aad l _ _ k r h;refine⟨t2,H2,?_,q2⟩;unfold wg;rw[hw];simp only[FU hd];exact q1
theorem TD {t:Tm}(h:fu P jO o t H k=some r):∃v H',jQ P (ev P.globals.size t) o H=some (v,H')/\k v H'=some r:=by
 obtain⟨v,H',h1,h2⟩:=Pf h;refine⟨v,H',?_,h2⟩;unfold si at h1;split at h1;·cases h1
 ·exact h1
theorem DG {s:lX}{x:R}{r:AV×Hp}:∀(l:List lX),qT P s x l=some r->(l.all λq=>match q.k with
   |.dP|.late=>!(Nat.blt q.i s.i)||s.b.testBit q.i|.read=>bif Nat.blt q.i s.i then s.b.testBit q.i||xR P q s.ha else q.b.testBit s.i||xR P q s.hb
   |.pure=>true)=true/\x=some r
 |[],h=>⟨rfl,h⟩|q::l,h=>by
  unfold qT at h;rw[alq,aam];have rd:∀(Hx:Hp),(fu P jO q.o q.t Hx λv _=>SM q.v v (qT P s x l))=some r->xR P q Hx=true/\qT P s x l=some r:=by
   intro Hx hx;obtain⟨v,H',h1,h2⟩:=TD hx;unfold SM at h2;cases hs:same q.v v with
   |false=>rw[hs] at h2;cases h2
   |true=>
    rw[hs] at h2;refine⟨?_,h2⟩;unfold xR;rw[h1];exact hs
  cases hk:q.k with
  |pure=>
   rw[hk] at h;obtain⟨a,b⟩:=DG l h;exact⟨⟨rfl,a⟩,b⟩
  |read=>
   rw[hk] at h;simp only at h⊢;cases hb:Nat.blt q.i s.i with
   |true=>
    rw[hb] at h;simp only[cond_true] at h⊢;cases ht:s.b.testBit q.i with
    |true=>
     rw[ht] at h;obtain⟨a,b⟩:=DG l h;exact⟨⟨rfl,a⟩,b⟩
    |false=>
     rw[ht] at h;obtain⟨c,d⟩:=rd _ h;obtain⟨a,b⟩:=DG l d;exact⟨⟨by rw[c];rfl,a⟩,b⟩
   |false=>
    rw[hb] at h;simp only[cond_false] at h⊢;cases ht:q.b.testBit s.i with
    |true=>
     rw[ht] at h;obtain⟨a,b⟩:=DG l h;exact⟨⟨rfl,a⟩,b⟩
    |false=>
     rw[ht] at h;obtain⟨c,d⟩:=rd _ h;obtain⟨a,b⟩:=DG l d;exact⟨⟨by rw[c];rfl,a⟩,b⟩
  |late=>
   rw[hk] at h;simp only at h⊢;cases hb:(!(Nat.blt q.i s.i)||s.b.testBit q.i) with
   |false=>rw[hb] at h;cases h
   |true=>
    rw[hb] at h;obtain⟨a,b⟩:=DG l h;exact⟨⟨rfl,a⟩,b⟩
  |dP=>
   rw[hk] at h;simp only at h⊢;cases hb:(!(Nat.blt q.i s.i)||s.b.testBit q.i) with
   |false=>rw[hb] at h;cases h
   |true=>
    rw[hb] at h;obtain⟨a,b⟩:=DG l h;exact⟨⟨rfl,a⟩,b⟩
theorem OQ {all:List lX}{x:R}{r:AV×Hp}:∀(l:List lX),Bx P all x l=some r->(l.all λs=>match s.k with
  |.dP=>all.all λq=>match q.k with
   |.dP|.late=>!(Nat.blt q.i s.i)||s.b.testBit q.i|.read=>bif Nat.blt q.i s.i then s.b.testBit q.i||xR P q s.ha else q.b.testBit s.i||xR P q s.hb
   |.pure=>true
  |_=>true)=true/\x=some r
 |[],h=>⟨rfl,h⟩|s::l,h=>by
  unfold Bx at h;rw[alq,aam];cases hk:s.k with
  |dP=>
   rw[hk] at h;obtain⟨a,b⟩:=DG all h;obtain⟨c,d⟩:=OQ l b;exact⟨⟨a,c⟩,d⟩
  |pure=>rw[hk] at h;obtain⟨c,d⟩:=OQ l h;exact⟨⟨rfl,c⟩,d⟩|read=>rw[hk] at h;obtain⟨c,d⟩:=OQ l h;exact⟨⟨rfl,c⟩,d⟩|late=>rw[hk] at h;obtain⟨c,d⟩:=OQ l h;exact⟨⟨rfl,c⟩,d⟩
def yc (kn:List (Nat×AV))(t:Tm):Prop:=∀d v,yg kn d=some v->t.get d=some v
theorem Vm:∀(kn:List (Nat×AV)) (x d:Nat) (v:AV),yg (qz kn (some x)) d=some v->d≠x/\yg kn d=some v
 |[],x,d,v,h=>by cases h
 |(e,u)::r,x,d,v,h=>by
  unfold qz at h;by_cases he:e=x;·subst he;rw[zW,cond_true] at h;obtain⟨a,b⟩:=Vm r e d v h;refine⟨a,?_⟩;unfold yg;rw[rq (Ne.symm a)];exact b
  ·rw[rq he,cond_false] at h;unfold yg at h⊢;by_cases hd:e=d;·subst hd;rw[zW] at h⊢;exact⟨he,h⟩
   ·rw[rq hd] at h⊢;exact Vm r x d v h
theorem yc.put {t:Tm}(h:yc kn t)(dst:Option Tmp)(v:AV):yc (qz kn dst) (iO dst v t):=by
 cases dst with
 |none=>intro d u hd;cases kn<;>exact h d u hd|some x=>
  intro d u hd;obtain⟨a,b⟩:=Vm kn x d u hd;show (t.put 34 x v).get d=some u;rw[Tr.put,Tr.gE,zz1 a];exact h d u b
theorem yc.aHq {t:Tm}(h:yc kn t)(dst:Option Tmp):yc (NB kn dst) (iO dst bP t):=by
 cases dst with
 |none=>exact h|some x=>
  intro d u hd;unfold NB yg at hd;by_cases hx:x=d;·subst hx;rw[zW] at hd;cases hd;show (t.put 34 x bP).get x=some bP;rw[Tr.put,Tr.gE,zz2 rfl]
  ·rw[rq hx] at hd;exact (h.put (some x) bP) d u hd
theorem yc.cons {kn:List (Nat×AV)}{t:Tm}(h:yc kn t){d:Nat}{v:AV}(hv:t.get d=some v):yc ((d,v)::kn) t:=by
 intro e u he;unfold yg at he;by_cases hx:d=e;·subst hx;rw[zW] at he;cases he;exact hv
 ·rw[rq hx] at he;exact h e u he
theorem Nc {α:Type}{x:α}:∀(p:Pa) (t:Tr α),Tr.vJ p t=some x->Tr.mI p (some x) t=t
 |.e,.nil,h=>by cases h
 |.e,.node v k0 k1 k2 k3,h=>by cases h;rfl
 |.a p,.nil,h=>by rw[Tr.Bn] at h;cases h
 |.b p,.nil,h=>by rw[Tr.Bn] at h;cases h
 |.c p,.nil,h=>by rw[Tr.Bn] at h;cases h
 |.d p,.nil,h=>by rw[Tr.Bn] at h;cases h
 |.a p,.node v k0 k1 k2 k3,h=>congrArg (λk=>Tr.node v k k1 k2 k3) (Nc p k0 h)|.b p,.node v k0 k1 k2 k3,h=>congrArg (λk=>Tr.node v k0 k k2 k3) (Nc p k1 h)|.c p,.node v k0 k1 k2 k3,h=>congrArg (λk=>Tr.node v k0 k1 k k3) (Nc p k2 h)|.d p,.node v k0 k1 k2 k3,h=>congrArg (λk=>Tr.node v k0 k1 k2 k) (Nc p k3 h)
theorem ab7 {t:Tm}{d:Nat}{v:AV}(h:t.get d=some v):iO (some d) v t=t:=Nc (pathOf d) t h
theorem IE {cf:CF}{n:Nat}{ops:Array Oper}:∀(l:List Oper) (i:Nat) (bs:List Nat) (kn:List (Nat×AV)) (tp te:Tm) (hb h:Hp) (acc:List lX) (k:KN) (r:AV×Hp),yc kn tp->mD P cf n ops i l bs kn tp te hb h acc k=some r->
  ∃s t' H',nf P cf n ops i l bs tp te hb h=some (s,t',H')/\FZ P (acc++s)=true/\k t' H'=some r
 |[],i,bs,kn,tp,te,hb,h,acc,k,r,ie,hr=>by unfold mD at hr;obtain⟨a,b⟩:=OQ acc hr;refine⟨[],te,h,by unfold nf;rfl,?_,b⟩;rw[ac4];exact a
 |o::l,i,[],kn,tp,te,hb,h,acc,k,r,ie,hr=>by unfold mD at hr;cases hr
 |o::l,i,b::bs,kn,tp,te,hb,h,acc,k,r,ie,hr=>by
  unfold mD at hr;cases hd:yT n o.dst with
  |false=>rw[hd] at hr;cases hr
  |true=>
   rw[hd] at hr;simp only[cond_true] at hr;have go:∀kn,yc kn tp->sQ ops o tp=some true->(match kd P o with
    |.late=>fu P jO o te h λv h'=>mD P cf n ops (i+1) l bs (qz kn o.dst) (iO o.dst .dG tp) (iO o.dst v te) hb h' (acc++[⟨i,o,b,true,.late,v,tp,hb,hb⟩]) k
    |.dP=>fu P cf o te h λv h'=>mD P cf n ops (i+1) l bs (qz kn o.dst) (iO o.dst v tp) (iO o.dst v te) h' h' (acc++[⟨i,o,b,true,.dP,v,tp,hb,h'⟩]) k
    |.pure=>fu P jO o tp hb λv _=>mD P cf n ops (i+1) l bs (qz kn o.dst) (iO o.dst v tp) (iO o.dst v te) hb h (acc++[⟨i,o,b,true,.pure,v,tp,hb,hb⟩]) k
    |.read=>fu P jO o tp hb λv _=>mD P cf n ops (i+1) l bs (qz kn o.dst) (iO o.dst v tp) (iO o.dst v te) hb h (acc++[⟨i,o,b,true,.read,v,tp,hb,hb⟩]) k)=some r->
     ∃s t' H',nf P cf n ops i (o::l) (b::bs) tp te hb h=some (s,t',H')/\FZ P (acc++s)=true/\k t' H'=some r:=by
    intro kn ie hw hr;cases hk:kd P o with
    |late=>
     rw[hk] at hr;obtain⟨v,h',h1,h2⟩:=TD hr;obtain⟨s,t',H',q1,q2,q3⟩:=IE l _ _ _ _ _ _ _ _ k r (ie.put _ _) h2;refine⟨_,t',H',?_,by rw[abC] at q2;exact q2,q3⟩;unfold nf;simp only[hw,hk,h1,FU hd,q1];rfl
    |dP=>
     rw[hk] at hr;obtain⟨v,h',h1,h2⟩:=Pf hr;obtain⟨s,t',H',q1,q2,q3⟩:=IE l _ _ _ _ _ _ _ _ k r (ie.put _ _) h2;refine⟨_,t',H',?_,by rw[abC] at q2;exact q2,q3⟩;unfold nf;simp only[hw,hk,h1,FU hd,q1];rfl
    |pure=>
     rw[hk] at hr;obtain⟨v,h',h1,h2⟩:=TD hr;obtain⟨s,t',H',q1,q2,q3⟩:=IE l _ _ _ _ _ _ _ _ k r (ie.put _ _) h2;refine⟨_,t',H',?_,by rw[abC] at q2;exact q2,q3⟩;unfold nf;simp only[hw,hk,h1,FU hd,q1];rfl
    |read=>
     rw[hk] at hr;obtain⟨v,h',h1,h2⟩:=TD hr;obtain⟨s,t',H',q1,q2,q3⟩:=IE l _ _ _ _ _ _ _ _ k r (ie.put _ _) h2;refine⟨_,t',H',?_,by rw[abC] at q2;exact q2,q3⟩;unfold nf;simp only[hw,hk,h1,FU hd,q1];rfl
   have skip:∀kn,yc kn tp->sQ ops o tp=some false->mD P cf n ops (i+1) l bs (NB kn o.dst) (iO o.dst bP tp) (iO o.dst bP te) hb h (acc++[⟨i,o,b,false,.pure,bP,tp,hb,hb⟩]) k=some r->
     ∃s t' H',nf P cf n ops i (o::l) (b::bs) tp te hb h=some (s,t',H')/\FZ P (acc++s)=true/\k t' H'=some r:=by
    intro kn ie hw hr;obtain⟨s,t',H',q1,q2,q3⟩:=IE l _ _ _ _ _ _ _ _ k r (ie.aHq _) hr;refine⟨_,t',H',?_,by rw[abC] at q2;exact q2,q3⟩;unfold nf;simp only[hw,FU hd,q1];rfl
   cases hg:o.guard with
   |none=>
    rw[hg] at hr;exact go kn ie (by unfold sQ;rw[hg]) hr
   |some p=>
    obtain⟨j,want⟩:=p;rw[hg] at hr;simp only at hr;have zV:=ah6 (ops:=ops) (o:=o) (t:=tp) hg;unfold gv at zV;cases hj:(ops[j]?).bind (·.dst) with
    |none=>
     rw[hj] at hr zV;exact skip kn ie zV hr
    |some d=>
     rw[hj] at hr zV;simp only at hr zV;cases hl:yg kn d with
     |some c=>
      rw[hl] at hr;simp only at hr;rw[ie d c hl,afK] at zV;cases hw:wv want c with
      |none=>rw[hw] at hr;cases hr
      |some q=>
       rw[hw] at hr zV;cases q with
       |true=>exact go kn ie zV hr|false=>exact skip kn ie zV hr
     |none=>
      rw[hl] at hr;simp only at hr;unfold jD at hr;cases ht:tp.get d with
      |none=>rw[ht] at hr;cases hr
      |some v=>
       rw[ht,afK] at hr zV;cases v<;>first|(cases hr;done)|skip
       rename_i q;simp only at hr;have O0:sQ ops o tp=some (q==want):=zV;cases hq:(q==want) with
       |true=>
        rw[hq] at hr O0;have:q=want:=by simpa using hq
        subst this;rw[ab7 ht] at hr;exact go _ (ie.cons ht) O0 hr
       |false=>
        rw[hq] at hr O0;have:q = !want:=by cases q<;>cases want<;>simp_all
        subst this;rw[ab7 ht] at hr;exact skip _ (ie.cons ht) O0 hr
theorem asr:JP P (vX P):=by
 intro cf n ops d t H k r h;unfold vX at h;cases d with
 |false=>
  simp only[cond_false] at h⊢;exact aad _ _ _ _ _ h
 |true=>
  simp only[cond_true] at h⊢;cases hr:AD ops with
  |false=>rw[hr] at h;cases h
  |true=>
   rw[hr] at h;simp only[cond_true] at h;obtain⟨s,t',H',q1,q2,q3⟩:=IE _ _ _ _ _ _ _ _ _ _ _ (λd v hd=>by cases hd) h;refine⟨t',H',?_,q3⟩;unfold FQ;rw[hr];simp only[cond_true,q1];rw[afV] at q2;rw[q2];rfl
def U4:AV->Hp->R:=λv H=>some (v,H)
theorem lU (o:Option α)(f:α->R)(g:AV×Hp->R):(B1 o f).bind g=B1 o λv=>(f v).bind g:=by cases o<;>rfl
theorem zx (o:Option (AV×Hp))(f:AV->Hp->R)(g:AV×Hp->R):(B2 o f).bind g=B2 o λv H=>(f v H).bind g:=by cases o<;>rfl
theorem TU (o:Option (Nat×Hp))(f:Nat->Hp->R)(g:AV×Hp->R):(BN o f).bind g=BN o λi H=>(f i H).bind g:=by cases o<;>rfl
theorem asS {op:BinOp}{t:TypeId}{X Y:Operand}{y:AV}(f:AV->R)(g:AV×Hp->R):(Jt P op t X Y x y H f).bind g=Jt P op t X Y x y H λv=>(f v).bind g:=by
 unfold Jt;split<;>first|exact lU _ _ _|skip
 cases gA P op t (zq X||zq Y) x y with
 |false=>rfl|true=>exact lU _ _ _
theorem ari {a b:TypeId}(f:AV->Hp->R)(g:AV×Hp->R):(Kw P a b x H f).bind g=Kw P a b x H λv H=>(f v H).bind g:=by unfold Kw;split<;>first|exact lU _ _ _|exact zx _ _ _|(split<;>first|exact lU _ _ _|exact zx _ _ _|rfl)
theorem ayF {t:TypeId}{lo hi mx:Option AV}(f:AV->R)(g:AV×Hp->R):(Ip P t x lo hi mx H f).bind g=Ip P t x lo hi mx H λv=>(f v).bind g:=by unfold Ip;split<;>first|exact lU _ _ _|(split<;>first|exact lU _ _ _|rfl)
theorem ayC {b:Builtin}{ty:Array TypeId}(f:AV->Hp->R)(g:AV×Hp->R):(Il P b ty args H f).bind g=Il P b ty args H λv H=>(f v H).bind g:=by
 unfold Il;split;·split<;>first|exact lU _ _ _|exact zx _ _ _
 ·split<;>first|rfl|skip
  split<;>first|rfl|skip
  rename_i z _ _;cases (Nat.ble (P.bytesOf _) 4096&&Nat.beq _ _) with
  |false=>rfl|true=>exact zx _ _ _
 ·split<;>first|rfl|skip
  split<;>first|exact zx _ _ _|rfl
 ·split<;>first|rfl|skip
  split<;>first|exact lU _ _ _|exact zx _ _ _
 ·exact zx _ _ _
theorem awl {t:Tm}(f:AV->Hp->R)(g:AV×Hp->R):(fu P cf o t H f).bind g=fu P cf o t H λv H=>(f v H).bind g:=by
 obtain⟨dst,op,ty0,pos,after,guard⟩:=o;cases op<;>unfold fu<;>simp only
 case pick=>exact lU _ _ _
 case alloc=>split<;>first|exact TU _ _ _|rfl
 case box=>exact TU _ _ _
 case build=>
  split
  ·split<;>first|rfl|skip
   split<;>first|exact lU _ _ _|rfl
  ·split<;>first|exact lU _ _ _|rfl
  ·rfl
 case buildSlice=>
  split<;>first|rfl|skip
  split<;>first|rfl|skip
  cases Nat.ble _ 65536 with
  |false=>rfl|true=>
   simp only[cond_true];split<;>first|rfl|skip
   rw[lU];congr 1;funext l;exact TU _ _ _
 case insert=>split<;>first|rfl|(split<;>exact lU _ _ _)
 case mapUpdate=>split<;>first|rfl|(split<;>exact lU _ _ _)
 case load=>split<;>first|exact lU _ _ _|rfl
 case store=>split<;>first|exact lU _ _ _|rfl
 case nilCheck=>exact lU _ _ _
 case binOp=>exact asS _ _
 case unOp=>exact lU _ _ _
 case convert=>exact ari _ _
 case makeInterface=>split<;>rfl
 case makeFunc=>split<;>rfl
 case makeMap ty x=>cases x<;>first|exact TU _ _ _|rfl
 case makeSlice=>
  split<;>first|rfl|skip
  split<;>first|rfl|skip
  cases (Nat.ble (P.bytesOf _) 4096&&Nat.beq _ _) with
  |false=>rfl|true=>exact zx _ _ _
 case slice=>exact ayF _ _
 case fieldAddr=>split<;>first|exact lU _ _ _|rfl
 case field=>
  split<;>first|rfl|skip
  split<;>first|rfl|skip
  split<;>first|exact lU _ _ _|rfl
 case indexAddr=>
  split<;>first|rfl|skip
  ·split<;>first|exact lU _ _ _|rfl
  ·split<;>first|exact lU _ _ _|rfl
 case index=>split<;>exact lU _ _ _
 case lookup=>
  split<;>first|rfl|skip
  split<;>exact lU _ _ _
 case range=>exact zx _ _ _
 case next=>exact zx _ _ _
 case entry=>rfl
 case extract=>exact lU _ _ _
 case typeAssert=>split<;>first|exact lU _ _ _|rfl
 case call c=>
  obtain⟨callee,args,u9⟩:=c;cases callee with
  |value f=>exact zx _ _ _|invoke r m=>rfl|builtin b=>exact ayC _ _
 all_goals rfl
theorem acD {t:Tm}(k:AV->Hp->R):fu P cf o t H k=(fu P cf o t H U4).bind λp=>k p.1 p.2:=by rw[awl];rfl
theorem aCw {t:Tm}(h:fu P cf o t H k=some r):
    ∃v H',k v H'=some r /\ ∀du:Nat -> CF,wZ du cf -> Ev λj=>∀k',fu P (du j) o t H k'=k' v H':=by
  rw[acD,aaC] at h;obtain⟨⟨v,H'⟩,h1,h2⟩:=h;refine⟨v,H',h2,λdu jb=>?_⟩;have key:Ev λj=>fu P (du j) o t H U4=some (v,H'):=by
    obtain⟨dst,op,ty0,pos,after,guard⟩:=o;cases op
    case makeMap ty x=>cases x<;>exact Ev.of λ_=>h1
    case call c =>
     obtain⟨callee,args,u9⟩:=c;cases callee with
     |invoke r m=>exact Ev.of λ_=>h1
     |builtin b=>exact Ev.of λ_=>h1
     |value f =>
      obtain⟨v2,H2,q1,q2⟩:=xA h1;obtain⟨k0,hk⟩:=jb _ _ _ _ q1;refine⟨k0,λj hj=>?_⟩;show B2 (du j _ _ H) U4=_;rw[hk j hj];exact q2
    all_goals exact Ev.of λ_=>h1
  obtain⟨k0,hk⟩:=key;refine⟨k0,λj hj k' =>?_⟩;rw[acD,hk j hj];rfl
theorem AI:wZ (λ_=>jO) jO:=λx l H r h=>by cases h
theorem ug {du:Nat->CF}(jb:wZ du cf){t:Tm}{ks:Nat->AV->Hp->R}(hk:∀v H,k v H=some r->Ev λj=>ks j v H=some r)(h:fu P cf o t H k=some r):Ev λj=>fu P (du j) o t H (ks j)=some r:=by obtain⟨v,H',h1,h2⟩:=aCw h;obtain⟨a,ha⟩:=h2 du jb;obtain⟨b,hb⟩:=hk v H' h1;refine⟨max a b,λj hj=>?_⟩;exact (ha j (afi (Nat.le_max_left a b) hj) (ks j)).trans (hb j (afi (Nat.le_max_right a b) hj))
theorem Tw {du:Nat->CF}{cf:CF}(jb:wZ du cf){ks:Nat->KN}{k:KN}(hk:Bk ks k){n:Nat}{ops:Array Oper}:∀(l:List Oper) (t:Tm) (H:Hp) (r:AV×Hp),zo P cf n ops l t H k=some r->Ev λj=>zo P (du j) n ops l t H (ks j)=some r
 |[],t,H,r,h=>hk t H r h|o::l,t,H,r,h=>by
  unfold zo at h⊢;cases hd:yT n o.dst with
  |false=>rw[hd] at h;cases h
  |true=>
   rw[hd] at h;simp only[cond_true] at h⊢;cases hg:o.guard with
   |none=>
    rw[hg] at h;exact ug jb (λv H h=>Tw jb hk l _ _ r h) h
   |some p=>
    obtain⟨q,want⟩:=p;rw[hg] at h;simp only at h⊢;unfold GO at h⊢;cases hw:wv want (gv ops q t) with
    |none=>rw[hw] at h;cases h
    |some b=>
     rw[hw] at h;cases b with
     |true=>exact ug jb (λv H h=>Tw jb hk l _ _ r h) h|false=>exact Tw jb hk l _ _ r h
theorem HC {s:lX}{xs:Nat->R}{x:R}{r:AV×Hp}(hx:x=some r->Ev λj=>xs j=some r):∀(l:List lX),qT P s x l=some r->Ev λj=>qT P s (xs j) l=some r
 |[],h=>hx h|q::l,h=>by
  unfold qT at h⊢;have rd:∀Hx:Hp,(fu P jO q.o q.t Hx λv _=>SM q.v v (qT P s x l))=some r->Ev λj=>(fu P jO q.o q.t Hx λv _=>SM q.v v (qT P s (xs j) l))=some r:=by
   intro Hx h;refine ug (du:=λ_=>jO) AI (ks:=λj v _=>SM q.v v (qT P s (xs j) l)) (λv H h=>?_) h;unfold SM at h⊢;cases hs:same q.v v with
   |false=>rw[hs] at h;cases h
   |true=>rw[hs] at h;exact HC hx l h
  cases hk:q.k with
  |pure=>rw[hk] at h;exact HC hx l h|read=>
   rw[hk] at h;simp only at h⊢;cases hb:Nat.blt q.i s.i with
   |true=>
    rw[hb] at h;simp only[cond_true] at h⊢;cases ht:s.b.testBit q.i with
    |true=>rw[ht] at h;exact HC hx l h|false=>rw[ht] at h;exact rd _ h
   |false=>
    rw[hb] at h;simp only[cond_false] at h⊢;cases ht:q.b.testBit s.i with
    |true=>rw[ht] at h;exact HC hx l h|false=>rw[ht] at h;exact rd _ h
  |late=>
   rw[hk] at h;simp only at h⊢;cases hb:(!(Nat.blt q.i s.i)||s.b.testBit q.i) with
   |false=>rw[hb] at h;cases h
   |true=>rw[hb] at h;exact HC hx l h
  |dP=>
   rw[hk] at h;simp only at h⊢;cases hb:(!(Nat.blt q.i s.i)||s.b.testBit q.i) with
   |false=>rw[hb] at h;cases h
   |true=>rw[hb] at h;exact HC hx l h
theorem K4 {all:List lX}{xs:Nat->R}{x:R}{r:AV×Hp}(hx:x=some r->Ev λj=>xs j=some r):∀(l:List lX),Bx P all x l=some r->Ev λj=>Bx P all (xs j) l=some r
 |[],h=>hx h|s::l,h=>by
  unfold Bx at h⊢;cases hk:s.k with
  |dP=>rw[hk] at h;exact HC (xs:=λj=>Bx P all (xs j) l) (λh=>K4 hx l h) all h|pure=>rw[hk] at h;exact K4 hx l h|read=>rw[hk] at h;exact K4 hx l h|late=>rw[hk] at h;exact K4 hx l h
theorem ae7 {du:Nat->CF}{cf:CF}(jb:wZ du cf){ks:Nat->KN}{k:KN}(hk:Bk ks k){n:Nat}{ops:Array Oper}:∀(l:List Oper) (i:Nat) (bs:List Nat) (kn:List (Nat×AV)) (tp te:Tm) (hb h:Hp) (acc:List lX) (r:AV×Hp),mD P cf n ops i l bs kn tp te hb h acc k=some r->
  Ev λj=>mD P (du j) n ops i l bs kn tp te hb h acc (ks j)=some r
 |[],i,bs,kn,tp,te,hb,h,acc,r,hr=>by unfold mD at hr⊢;exact K4 (xs:=λj=>ks j te h) (λq=>hk te h r q) acc hr
 |o::l,i,[],kn,tp,te,hb,h,acc,r,hr=>by unfold mD at hr;cases hr
 |o::l,i,b::bs,kn,tp,te,hb,h,acc,r,hr=>by
  unfold mD at hr⊢;cases hd:yT n o.dst with
  |false=>rw[hd] at hr;cases hr
  |true=>
   rw[hd] at hr;simp only[cond_true] at hr⊢;have tU:=λi bs kn tp te hb h acc hr=>ae7 (n:=n) (ops:=ops) jb hk l i bs kn tp te hb h acc r hr;cases hg:o.guard with
   |none=>
    rw[hg] at hr;simp only at hr⊢;cases cF:kd P o<;>rw[cF] at hr<;>simp only at hr⊢;·exact ug (du:=λ_=>jO) AI (λv H h=>tU _ _ _ _ _ _ _ _ h) hr
    ·exact ug (du:=λ_=>jO) AI (λv H h=>tU _ _ _ _ _ _ _ _ h) hr
    ·exact ug (du:=λ_=>jO) AI (λv H h=>tU _ _ _ _ _ _ _ _ h) hr
    ·exact ug jb (λv H h=>tU _ _ _ _ _ _ _ _ h) hr
   |some p=>
    obtain⟨q,want⟩:=p;rw[hg] at hr;simp only at hr⊢;cases hj:(ops[q]?).bind (·.dst) with
    |none=>
     rw[hj] at hr;exact tU _ _ _ _ _ _ _ _ hr
    |some d=>
     rw[hj] at hr;simp only at hr⊢;cases hl:yg kn d with
     |some c=>
      rw[hl] at hr;simp only at hr⊢;cases hw:wv want c with
      |none=>rw[hw] at hr;cases hr
      |some w=>
       rw[hw] at hr;cases w with
       |true=>
        simp only at hr⊢;cases cF:kd P o<;>rw[cF] at hr<;>simp only at hr⊢;·exact ug (du:=λ_=>jO) AI (λv H h=>tU _ _ _ _ _ _ _ _ h) hr
        ·exact ug (du:=λ_=>jO) AI (λv H h=>tU _ _ _ _ _ _ _ _ h) hr
        ·exact ug (du:=λ_=>jO) AI (λv H h=>tU _ _ _ _ _ _ _ _ h) hr
        ·exact ug jb (λv H h=>tU _ _ _ _ _ _ _ _ h) hr
       |false=>exact tU _ _ _ _ _ _ _ _ hr
     |none=>
      rw[hl] at hr;simp only at hr⊢;unfold jD at hr⊢;split at hr
      ·rename_i w hv;cases hw:(w==want) with
       |true=>
        rw[hw] at hr;simp only[cond_true] at hr⊢;cases cF:kd P o<;>rw[cF] at hr<;>simp only at hr⊢;·exact ug (du:=λ_=>jO) AI (λv H h=>tU _ _ _ _ _ _ _ _ h) hr
        ·exact ug (du:=λ_=>jO) AI (λv H h=>tU _ _ _ _ _ _ _ _ h) hr
        ·exact ug (du:=λ_=>jO) AI (λv H h=>tU _ _ _ _ _ _ _ _ h) hr
        ·exact ug jb (λv H h=>tU _ _ _ _ _ _ _ _ h) hr
       |false=>
        rw[hw] at hr;exact tU _ _ _ _ _ _ _ _ hr
      ·cases hr
theorem Qf:AN (vX P):=by
 intro du cf na kn n ops d t H r h1 h2 h;unfold vX at h⊢;cases d with
 |false=>
  simp only[cond_false] at h⊢;exact Tw h1 h2 _ _ _ _ h
 |true=>
  simp only[cond_true] at h⊢;cases hr:AD ops with
  |false=>rw[hr] at h;cases h
  |true=>
   rw[hr] at h;simp only[cond_true] at h⊢;exact ae7 h1 h2 _ _ _ _ _ _ _ _ _ _ h
end
end
end K
end
namespace K
def sub:Code->List Nat->Code
 |c,[]=>c|.seq a b,i::r=>match i with|0=>sub a r|_=>sub b r
 |.cond _ a b,i::r=>match i with|0=>sub a r|_=>sub b r
 |.block _ b,_::r=>sub b r|.loop b,_::r=>sub b r|c,_::_=>c
def atC (P:Program)(f:Nat)(path:List Nat):Code:=match P.funcs[f]? with
 |some fn=>(match fn.body with|some b=>sub b path|none=>.skip)|none=>.skip
def nT (P:Program)(f:Nat):Nat:=match P.funcs[f]? with|some fn=>fn.ntmps|none=>0
def aej (P:Program)(f:Nat):KN:=λt H=>match P.funcs[f]? with|some fn=>Fu P t H fn.results.toList|none=>none
noncomputable section
def R3 (P:Program)(reg:vg)(cf:CF)(n:Nat)(b:Code)(x:An)(lv:List Nat)(ke:Nat->KN)(kr:KN):Fn lv.length:=
 LP lv.length (λk=>abs lv.length λl H=>bD P reg cf n b x (λt H=>app lv.length k (aH lv t) H) ke kr (cJ n lv l) H)
theorem avo {P:Program}{reg:vg}(je:AN reg)(cf:CF)(n:Nat)(b:Code)(x:An)(lv:List Nat)(ke:Nat->KN)(kr:KN)(l:List AV)(hl:l.length=lv.length)(H:Hp):
  app lv.length (R3 P reg cf n b x lv ke kr) l H=bD P reg cf n b x (λt H=>app lv.length (R3 P reg cf n b x lv ke kr) (aH lv t) H) ke kr (cJ n lv l) H:=
 ao6 je cf n b x lv ke kr l hl H
end
def LF (k:Nat)(x:AV)(H:Hp)(f:AV->R):R:=B1 (fa k x) λv=>B1 (ld v H) f
def NF (k:Nat)(x:AV)(H:Hp)(f:AV->R):R:=B1 (aI x) λv=>B1 (fa k v) λu=>B1 (ld u H) f
def NA (k:Nat)(x:AV)(f:AV->R):R:=B1 (aI x) λv=>B1 (fa k v) f
theorem acE (k i o:Nat)(H:Hp)(f:AV->R):LF k (.ptr i o) H f=B1 (ld (.ptr i (o+k)) H) f:=abk rfl (id rfl)
theorem aeL (k i o:Nat)(H:Hp)(f:AV->R):NF k (.ptr i o) H f=B1 (ld (.ptr i (o+k)) H) f:=abk rfl (id rfl)
theorem an6 (k i o:Nat)(f:AV->R):NA k (.ptr i o) f=f (.ptr i (o+k)):=abk rfl (id rfl)
end K
end
namespace K
section
def vf:Pa->AV->Tm->(Tm->R)->R
 |.e,x,t,k=>match t with|.nil=>k (.node (some x) .nil .nil .nil .nil)|.node _ a b c d=>k (.node (some x) a b c d)
 |.a p,x,t,k=>match t with|.nil=>vf p x .nil λq=>k (.node none q .nil .nil .nil)|.node v a b c d=>vf p x a λq=>k (.node v q b c d)
 |.b p,x,t,k=>match t with|.nil=>vf p x .nil λq=>k (.node none .nil q .nil .nil)|.node v a b c d=>vf p x b λq=>k (.node v a q c d)
 |.c p,x,t,k=>match t with|.nil=>vf p x .nil λq=>k (.node none .nil .nil q .nil)|.node v a b c d=>vf p x c λq=>k (.node v a b q d)
 |.d p,x,t,k=>match t with|.nil=>vf p x .nil λq=>k (.node none .nil .nil .nil q)|.node v a b c d=>vf p x d λq=>k (.node v a b c q)
theorem NX:∀(p:Pa) (x:AV) (t:Tm) (k:Tm->R),vf p x t k=k (Tr.mI p (some x) t)
 |.e,x,t,k=>by cases t<;>rfl
 |.a p,x,t,k=>by cases t<;>(unfold vf;simp only[NX p];rfl)
 |.b p,x,t,k=>by cases t<;>(unfold vf;simp only[NX p];rfl)
 |.c p,x,t,k=>by cases t<;>(unfold vf;simp only[NX p];rfl)
 |.d p,x,t,k=>by cases t<;>(unfold vf;simp only[NX p];rfl)
def tV (dst:Option Tmp)(v:AV)(t:Tm)(k:Tm->R):R:=match dst with|none=>k t|some d=>vf (pathOf d) v t k
theorem aec (dst:Option Tmp)(v:AV)(t:Tm)(k:Tm->R):tV dst v t k=k (iO dst v t):=by
 cases dst with
 |none=>rfl|some d=>exact NX _ _ _ _
def FO (o:Option AV)(k:Option AV->R):R:=match o with|none=>k none|some v=>k (some v)
theorem awJ (o:Option AV)(k:Option AV->R):FO o k=k o:=by cases o<;>rfl
def FT:Tm->(Tm->R)->R
 |.nil,k=>k .nil|.node v a b c d,k=>FO v λv=>FT a λa=>FT b λb=>FT c λc=>FT d λd=>k (.node v a b c d)
theorem Ik:∀(t:Tm) (k:Tm->R),FT t k=k t
 |.nil,k=>rfl|.node v a b c d,k=>by unfold FT;rw[awJ,Ik a,Ik b,Ik c,Ik d]
def OE (o:Option AV)(k:AV->R):R:=match o with|some v=>k v|none=>k bP
theorem apZ (o:Option AV)(k:AV->R):OE o k=k (o.getD bP):=by cases o<;>rfl
noncomputable section
variable (P:Program)
def aS (t:Tm)(x:Operand)(k:AV->R):R:=match x with
 |.tmp d=>OE (t.get d) k|x=>k (ev P.globals.size t x)
theorem afo (t:Tm)(x:Operand)(k:AV->R):aS P t x k=k (ev P.globals.size t x):=by cases x<;>first|rfl|exact apZ _ _
def Dk (cf:CF)(o:Oper)(t:Tm)(H:Hp)(k:AV->Hp->R):R:=match o.op with
 |.move x=>aS P t x λv=>k v H
 |.assign x=>aS P t x λv=>k v H
 |_=>fu P cf o t H k
theorem aiF (cf:CF)(o:Oper)(t:Tm)(H:Hp)(k:AV->Hp->R):Dk P cf o t H k=fu P cf o t H k:=by
 unfold Dk;split;·rename_i x h;rw[afo];unfold fu;rw[h]
 ·rename_i x h;rw[afo];unfold fu;rw[h]
 ·rfl
abbrev JT:=(m:Nat)->(Fn m->R)->Fn m->R
abbrev GT:=AV->Bool->((AV->Hp->R)->R)->(AV->Hp->R)->Hp->R
def KV (G:GT)(cf:CF)(n:Nat)(ops:Array Oper):List Oper->Tm->Hp->KN->R
 |[],t,H,k=>k t H|o::r,t,H,k=>match yT n o.dst with
  |true=>(match o.guard with
   |none=>Dk P cf o t H λv H=>tV o.dst v t λt=>KV G cf n ops r t H k
   |some (j,want)=>G (gv ops j t) want (λk'=>Dk P cf o t H k') (λv H=>tV o.dst v t λt=>KV G cf n ops r t H k) H)
  |false=>none
theorem anu (cf:CF)(n:Nat)(ops:Array Oper):∀(l:List Oper) (t:Tm) (H:Hp) (k:KN),KV P GO cf n ops l t H k=zo P cf n ops l t H k
 |[],t,H,k=>rfl|o::r,t,H,k=>by unfold KV zo;simp only[aiF,aec,anu cf n ops r];cases yT n o.dst<;>rfl
def AP (cf:CF)(n:Nat)(ops:Array Oper):Nat->List Oper->List Nat->List (Nat×AV)->Tm->Tm->Hp->Hp->List lX->KN->R
 |_,[],_,_,_,te,_,h,acc,k=>Bx P acc (k te h) acc|_,_::_,[],_,_,_,_,_,_,_=>none|i,o::r,b::bs,kn,tp,te,hb,h,acc,k=>match yT n o.dst with
  |true=>
   let go:List (Nat×AV)->Tm->R:=λkn tp=>match kd P o with
    |.late=>Dk P jO o te h λv h'=>tV o.dst .dG tp λtq=>tV o.dst v te λte=>AP cf n ops (i+1) r bs (qz kn o.dst) tq te hb h' (acc++[⟨i,o,b,true,.late,v,tp,hb,hb⟩]) k
    |.dP=>Dk P cf o te h λv h'=>tV o.dst v tp λtq=>tV o.dst v te λte=>AP cf n ops (i+1) r bs (qz kn o.dst) tq te h' h' (acc++[⟨i,o,b,true,.dP,v,tp,hb,h'⟩]) k
    |.pure=>Dk P jO o tp hb λv _=>tV o.dst v tp λtq=>tV o.dst v te λte=>AP cf n ops (i+1) r bs (qz kn o.dst) tq te hb h (acc++[⟨i,o,b,true,.pure,v,tp,hb,hb⟩]) k
    |.read=>Dk P jO o tp hb λv _=>tV o.dst v tp λtq=>tV o.dst v te λte=>AP cf n ops (i+1) r bs (qz kn o.dst) tq te hb h (acc++[⟨i,o,b,true,.read,v,tp,hb,hb⟩]) k
   let skip:List (Nat×AV)->Tm->R:=λkn tp=>tV o.dst bP tp λtq=>tV o.dst bP te λte=>AP cf n ops (i+1) r bs (NB kn o.dst) tq te hb h (acc++[⟨i,o,b,false,.pure,bP,tp,hb,hb⟩]) k
   match o.guard with
   |none=>go kn tp|some (j,want)=>match (ops[j]?).bind (·.dst) with
    |none=>skip kn tp|some d=>match yg kn d with
     |some c=>(match wv want c with|some true=>go kn tp|some false=>skip kn tp|none=>none)|none=>jD ((tp.get d).getD bP) want (tV (some d) (.bool want) tp λtp=>go ((d,.bool want)::kn) tp) (tV (some d) (.bool !want) tp λtp=>skip ((d,.bool !want)::kn) tp)
  |false=>none
theorem alm (cf:CF)(n:Nat)(ops:Array Oper):∀(l:List Oper) (i:Nat) (bs:List Nat) (kn:List (Nat×AV)) (tp te:Tm) (hb h:Hp) (acc:List lX) (k:KN),
  AP P cf n ops i l bs kn tp te hb h acc k=mD P cf n ops i l bs kn tp te hb h acc k
 |[],i,bs,kn,tp,te,hb,h,acc,k=>by unfold AP mD;rfl
 |o::l,i,[],kn,tp,te,hb,h,acc,k=>by unfold AP mD;rfl
 |o::l,i,b::bs,kn,tp,te,hb,h,acc,k=>by unfold AP mD;simp only[aiF,aec,alm cf n ops l];cases yT n o.dst<;>rfl
def ZD (G:GT):vg:=λcf n ops d t H k=>match d with
 |true=>(match AD ops with|true=>FT t λt=>AP P cf n ops 0 ops.toList (before ops.toList []) [] t t H H [] k|false=>none)|false=>FT t λt=>KV P G cf n ops ops.toList t H k
theorem aG7:ZD P GO=vX P:=by
 funext cf n ops d t H k;unfold ZD vX;cases d with
 |false=>simp only[cond_false,Ik,anu]|true=>
  simp only[cond_true];cases AD ops<;>simp only[cond_true,cond_false,Ik,alm]
def codeF (J:JT)(G:GT)(cf:CF)(n:Nat):Code->An->KN->(Nat->KN)->KN->KN
 |.skip,_,kn,_,_=>kn|.label _,_,kn,_,_=>kn|.seq a b,an,kn,ke,kr=>match an with
  |.sq none x y=>codeF J G cf n a x (codeF J G cf n b y kn ke kr) ke kr|.sq (some lv) x y=>λt H=>J lv.length (λk=>codeF J G cf n a x (λt H=>app lv.length k (aH lv t) H) ke kr t H) (abs lv.length λl H=>codeF J G cf n b y kn ke kr (cJ n lv l) H)
  |.pr lv p=>λt H=>B1 (p t H) λH=>kn (cJ n lv (aH lv t)) H
  |_=>λ_ _=>none
 |.cond c a b,an,kn,ke,kr=>match an with
  |.cd x y=>λt H=>CD (ev P.globals.size t c) (codeF J G cf n a x kn ke kr t H) (codeF J G cf n b y kn ke kr t H)
  |_=>λ_ _=>none
 |.block i b,an,kn,ke,kr=>match an with
  |.bl none x=>codeF J G cf n b x kn (λj t H=>match Nat.beq j i with|true=>kn t H|false=>ke j t H) kr|.bl (some lv) x=>λt H=>J lv.length (λk=>codeF J G cf n b x (λt H=>app lv.length k (aH lv t) H) (λj t H=>match Nat.beq j i with|true=>app lv.length k (aH lv t) H|false=>ke j t H) kr t H) (abs lv.length λl H=>kn (cJ n lv l) H)
  |_=>λ_ _=>none
 |.loop b,an,kn,ke,kr=>match an with
  |.lp lv x=>λt H=>app lv.length (LP lv.length (λk=>abs lv.length λl H=>codeF J G cf n b x (λt H=>app lv.length k (aH lv t) H) ke kr (cJ n lv l) H)) (aH lv t) H
  |_=>λ_ _=>none
 |.exit i,_,_,ke,_=>ke i|.ret,_,_,_,kr=>kr|.region _ ops d,_,kn,_,_=>λt H=>ZD P G cf n ops d t H kn
 |_,_,_,_,_=>λ_ _=>none
theorem arQ {α:Type}(b:Bool)(x y:α):(match b with|true=>x|false=>y)=bif b then x else y:=by cases b<;>rfl
theorem codeF_eq (cf:CF)(n:Nat):∀(c:Code) (an:An) (kn:KN) (ke:Nat->KN) (kr:KN),codeF P JN GO cf n c an kn ke kr=bD P (vX P) cf n c an kn ke kr:=by
 intro c;induction c with
 |seq a b ia ib=>
  intro an kn ke kr;unfold codeF bD;cases an with
  |sq j x y=>cases j<;>simp only[ia,ib]|_=>rfl
 |cond q a b ia ib=>
  intro an kn ke kr;unfold codeF bD;cases an with
  |cd x y=>simp only[ia,ib]|_=>rfl
 |block i b ib=>
  intro an kn ke kr;unfold codeF bD;cases an with
  |bl j x=>cases j<;>simp only[ib,arQ]|_=>rfl
 |loop b ib=>
  intro an kn ke kr;unfold codeF bD;cases an with
  |lp lv x=>simp only[ib]|_=>rfl
 |region id ops d=>
  intro an kn ke kr;unfold codeF bD;rw[aG7]
 |_=>intro an kn ke kr;unfold codeF bD;rfl
def adF (J:JT)(G:GT)(cf:CF)(fn:Func)(an:An)(b:Code)(args:List AV)(H:Hp):R:=
 codeF P J G cf fn.ntmps b an (λt H=>Fu P t H fn.results.toList) (λ_ _ _=>none) (λt H=>Fu P t H fn.results.toList) (NS fn.ntmps args) H
def F3 (J:JT)(G:GT)(bH:Nat->Option Prim)(an:Nat->An)(cf:CF)(aV:Nat)(args:List AV)(H:Hp):R:=
 match bH aV with
 |some _=>none|none=>match P.funcs[aV]? with
  |some fn=>match fn.body with
   |some b=>match Nat.ble args.length fn.ntmps&&Nat.blt fn.ntmps 4294967296&&(an aV).ok fn.ntmps with
    |true=>adF P J G cf fn (an aV) b args H|false=>none
   |none=>none
  |none=>none
def MY (J:JT)(G:GT)(cf:CF)(n:Nat)(b:Code)(x:An)(lv:List Nat)(ke:Nat->KN)(kr:KN):Fn lv.length:=
 LP lv.length (λk=>abs lv.length λl H=>codeF P J G cf n b x (λt H=>app lv.length k (aH lv t) H) ke kr (cJ n lv l) H)
end
variable {P:Program}{ext:Nat->Option Ext}{bH:Nat->Option Prim}{an:Nat->An}
theorem xP {aV:Nat}{first args cap:List AV}{H:Hp}{r:AV×Hp}(h:F3 P JN GO bH an (CK P (vX P) ext bH an) aV (first++args++cap) H=some r):CK P (vX P) ext bH an (.func (.func aV) first cap) args H=some r:=by
 refine Yg Qf ?_;unfold F3 at h;unfold Au;simp only;split at h;·cases h
 ·rename_i hp;rw[hp];simp only;split at h
  ·rename_i fn hf;rw[hf];simp only;split at h
   ·rename_i b hb;rw[hb];simp only;split at h;·rename_i hc;rw[hc];unfold adF at h;rw[codeF_eq] at h;exact h
    ·cases h
   ·cases h
  ·cases h
theorem aC2 (cf:CF)(n:Nat)(b:Code)(x:An)(lv:List Nat)(ke:Nat->KN)(kr:KN)(l:List AV)(hl:l.length=lv.length)(H:Hp):
  app lv.length (MY P JN GO cf n b x lv ke kr) l H=codeF P JN GO cf n b x (λt H=>app lv.length (MY P JN GO cf n b x lv ke kr) (aH lv t) H) ke kr (cJ n lv l) H:=by
 have h:MY P JN GO cf n b x lv ke kr=R3 P (vX P) cf n b x lv ke kr:=by unfold MY R3;simp only[codeF_eq]
 rw[h,codeF_eq];exact avo Qf cf n b x lv ke kr l hl H
end
abbrev An.n (x:An):An:=.sq none .nl x
abbrev An.q (x y:An):An:=.sq none x y
abbrev An.s (l:List Nat)(x y:An):An:=.sq (some l) x y
abbrev An.t (l:List Nat)(y:An):An:=.sq (some l) .nl y
abbrev An.b (x:An):An:=.bl none x
abbrev An.v (l:List Nat)(x:An):An:=.bl (some l) x
def DY:An->List Nat->An
 |x,[]=>x|.sq _ a b,i::r=>match i with|0=>DY a r|_=>DY b r
 |.cd a b,i::r=>match i with|0=>DY a r|_=>DY b r
 |.bl _ a,_::r=>DY a r|.lp _ a,_::r=>DY a r|x,_::_=>x
noncomputable section
variable (P:Program)(an:Nat->An)
def CV (J:JT)(G:GT)(cf:CF)(f:Nat)(path lv:List Nat)(ke:Nat->KN):Fn lv.length:=MY P J G cf (nT P f) (atC P f path) (DY (an f) path) lv ke (aej P f)
def xg (J:JT)(G:GT)(cf:CF)(f:Nat)(path lv:List Nat)(ke:Nat->KN)(k:Fn lv.length)(l:List AV)(H:Hp):R:=
 codeF P J G cf (nT P f) (atC P f path) (DY (an f) path) (λt H=>app lv.length k (aH lv t) H) ke (aej P f) (cJ (nT P f) lv l) H
end
theorem xq {P:Program}{an:Nat->An}(cf:CF)(f:Nat)(path lv:List Nat)(ke:Nat->KN)(l:List AV)(hl:l.length=lv.length)(H:Hp):
  app lv.length (CV P an JN GO cf f path lv ke) l H=xg P an JN GO cf f path lv ke (CV P an JN GO cf f path lv ke) l H:=aC2 cf _ _ _ lv ke _ l hl H
end K
end
section
variable {P:Program}{G:Nat}{F:Nat->Prop}{W:World}{e:Em}{H:Hp}{w:World}
theorem ay5 (w:World)(ty:TypeId)(r bm since:Nat)(seen:Array Nat)(es:Array MapEntry)(hr:w.heap[r]?=some (.mapIter (some bm) since seen since))(hb:w.heap[bm]?=some (.map es since))(hold:∀x∈es.toList,x.born<since):
  ((leftOf es seen).size=0/\(Instr.next (.pointer (some ⟨r,0,none⟩)) false ty).run P w=.ok (.tuple #[.bool false]) w)\/
  ∃x∈(leftOf es seen).toList,∃n,(Instr.next (.pointer (some ⟨r,0,none⟩)) false ty).run P w=.ok (.tuple #[.bool true,x.key,x.val]) {w with drawn:=n,heap:=w.heap.setIfInBounds r (.mapIter (some bm) since (seen.push x.born) since)}:=by
 simp only[Instr.next,Go.getObj,Sem.run_bind,Sem.run,hr,hb,Result.andThen,next_test_false seen es since since hold (aaq _),aa4,if_false];unfold leftOf;have rR:∀x∈(Array.filter (λe=>!seen.contains e.born) es).toList,x.born<since:=λx hx=>hold x (by simp at hx⊢;exact hx.1);generalize Array.filter (λe=>!seen.contains e.born) es=L at rR⊢;have e1:L.filter (λx=>decide (x.born<since))=L:=Array.filter_eq_self.2 (λx hx=>by simpa using rR x (by simpa using hx));have e2:L.filter (λx=>decide (x.born ≥ since))=#[]:=by rw[Array.filter_eq_empty_iff];intro x hx;have:=rR x (by simpa using hx);simp;omega
 simp only[e1,e2,Array.append_empty];by_cases h0:L.size=0;·left;have:L=#[]:=Array.eq_empty_of_size_eq_zero h0;subst this;refine⟨rfl,?_⟩;simp[choose,Sem.run,Question.forced]
 ·right;have aE:L.isEmpty=false:=by simp[Array.isEmpty,h0]
  simp only[aE,aa4,if_false,Array.empty_append,Array.size_map];have hch:∃(j:Nat) (n:Nat),j<L.size/\(choose (Question.mapNext L.size)).run P w=.ok j {w with drawn:=n}:=by
   by_cases hf:L.size<=1;·exact⟨0,w.drawn,zzz,by simp[choose,Sem.run,Question.forced,hf]⟩
   ·exact⟨_,_,ama _ zzz,by simp only[choose,Sem.run,Question.forced,zz5,hf,if_false,Question.cut];rfl⟩
  obtain⟨j,n,hj,kF⟩:=hch;refine⟨L[j],zzy,n,?_⟩;have fY:∀(o':Obj),(Go.setObj r o').run P {w with drawn:=n}=Result.ok () {w with drawn:=n,heap:=w.heap.setIfInBounds r o'}:=λo'=>by simp only[Go.setObj,Sem.run,hr]
  simp only[kF,Array.getElem?_map,agw hj,ael,Sem.run_bind,fY,Result.andThen];rfl
theorem apf (w:World)(r bm since:Nat)(seen:Array Nat)(es:Array MapEntry)(x:MapEntry)(hr:w.heap[r]?=some (.mapIter (some bm) since (seen.push x.born) since))(hb:w.heap[bm]?=some (.map es since))(he:x∈es.toList)(hn:(es.toList.map (·.born)).Nodup):
  (Instr.entry (.pointer (some ⟨r,0,none⟩))).run P w=.ok (.tuple #[x.key,x.val]) w:=by
 have hf:es.find? (·.born==x.born)=some x:=by rw[<-Array.find?_toList];exact find_born x es.toList hn he
 simp only[Instr.entry,Go.getObj,Sem.run_bind,Sem.run,hr,hb,Result.andThen,Array.back?_push,bne_self_eq_false,aa4,if_false,hf];rfl
theorem RH.axs (h:RH G F W e H w){r:Nat}(o:Obj)(hF:¬F r)(hr:∀i a,H.h.get i=some a->e.b i≠r)(n:Nat):RH G F W e H {w with drawn:=n,heap:=w.heap.setIfInBounds r o}:=by
 refine⟨h.N,λi a hi=>?_,h.inj,h.tI,λk hk=>?_,h.os,h.tape,h.output,by simp only[Array.size_setIfInBounds];exact h.size,by simp only[Array.size_setIfInBounds];exact h.nK⟩;·obtain⟨h1,ob,h2,h3,h4⟩:=h.obj i a hi;exact⟨h1,ob,by simp only;rw[aeT (λq=>hr i a hi q.symm)];exact h2,h3,h4⟩
 ·obtain⟨h1,h2⟩:=h.frame k hk;exact⟨by simp only[Array.size_setIfInBounds];exact h1,by simp only;rw[aeT (λq=>by subst q;exact hF hk)];exact h2⟩
theorem jm.perm {e:Em}{a b:List ME}(hp:a.Perm b):∀{fs:List MapEntry},jm e a fs->∃TH,TH.Perm fs/\jm e b TH:=by
 induction hp with
 |nil=>intro fs h;exact⟨fs,List.Perm.refl _,h⟩|@cons x l l' hp ih=>
  intro fs h;cases fs with
  |nil=>have:=h.1;simp at this|cons y fs=>
   obtain⟨TH,h1,h2⟩:=ih (fs:=fs) ⟨by simpa using h.1,λi m m' hm nZ=>h.2 (i+1) m m' (by simpa using hm) (by simpa using nZ)⟩;refine⟨y::TH,h1.cons y,by simp[h2.1],λi m m' hm nZ=>?_⟩;cases i with
   |zero=>simp at hm nZ;subst hm;subst nZ;exact h.2 0 x y rfl rfl|succ i=>exact h2.2 i m m' (by simpa using hm) (by simpa using nZ)
 |swap x y l=>
  intro fs h
  match fs,h with
  |[],h=>have:=h.1;simp at this|[_],h=>have:=h.1;simp at this|u::v::fs,h=>
   refine⟨v::u::fs,List.Perm.swap _ _ _,by have:=h.1;simpa using this,λi m m' hm nZ=>?_⟩
   match i with
   |0=>simp at hm nZ;subst hm;subst nZ;exact h.2 1 x v rfl rfl|1=>simp at hm nZ;subst hm;subst nZ;exact h.2 0 y u rfl rfl|i+2=>exact h.2 (i+2) m m' (by simpa using hm) (by simpa using nZ)
 |trans _ _ i1 i2=>
  intro fs h;obtain⟨f1,a1,b1⟩:=i1 h;obtain⟨f2,a2,b2⟩:=i2 b1;exact⟨f2,a2.trans a1,b2⟩
end
namespace K
def tg (t:Tm)(d:Nat):AV:=(t.get d).getD bP
def BH:List ME->Bool
 |[]=>true|m::r=>(match m.key with|.str k=>r.all (λx=>match x.key with|.str q=>!(q==k)|_=>false)|_=>false)&&BH r
def mo:Nat->List ME->List ME
 |_,[]=>[]|c,m::r=>⟨m.key,m.val,c⟩::mo (c+1) r
theorem ab8:∀(l:List ME) (c:Nat) (m:ME),mo c (l++[m])=mo c l++[⟨m.key,m.val,c+l.length⟩]
 |[],c,m=>rfl|x::l,c,m=>by show _::mo (c+1) (l++[m])=_;rw[ab8 l (c+1) m,aau,show c+1+l.length=c+(l.length+1) by omega];rfl
theorem ajb:∀(l:List ME) (c:Nat) (x:ME),x∈mo c l->∃m∈l,x.key=m.key
 |[],c,x,h=>by cases h
 |m::l,c,x,h=>by
  rcases aal.1 h with rfl|h;·exact⟨m,.head _,rfl⟩
  ·obtain⟨y,h1,h2⟩:=ajb l (c+1) x h;exact⟨y,.tail _ h1,h2⟩
theorem PD:∀(l:List ME) (c:Nat),(mo c l).length=l.length
 |[],_=>rfl|m::l,c=>by show (mo (c+1) l).length+1=_;rw[PD l (c+1)];rfl
theorem abl:∀(l:List ME) (c i:Nat) (x:ME),(mo c l)[i]?=some x->∃m,l[i]?=some m/\x.key=m.key/\x.val=m.val
 |[],c,i,x,h=>by simp[mo] at h
 |m::l,c,0,x,h=>by have:some (⟨m.key,m.val,c⟩:ME)=some x:=h;cases this;exact⟨m,rfl,rfl,rfl⟩
 |m::l,c,i+1,x,h=>abl l (c+1) i x h
theorem aob {e:Em}{l:List ME}{fs:List MapEntry}(c:Nat):jm e (mo c l) fs↔jm e l fs:=by
 constructor
 ·intro h;refine⟨by rw[h.1,PD],λi m m' hm nZ=>?_⟩;have hi:i<(mo c l).length:=by rw[PD];exact (aac.1 hm).1
  obtain⟨y,h1,h2,h3⟩:=abl l c i _ (aai hi);rw[hm] at h1;cases h1;have:=h.2 i _ m' (aai hi) nZ;rw[h2,h3] at this;exact this
 ·intro h;refine⟨by rw[h.1,PD],λi m m' hm nZ=>?_⟩;obtain⟨y,h1,h2,h3⟩:=abl l c i _ hm;have:=h.2 i y m' h1 nZ;rw[h2,h3];exact this
def HN (a b:ME):Prop:=∃k q,a.key=.str k/\b.key=.str q/\q≠k
theorem HN.symm {a b:ME}(h:HN a b):HN b a:=by obtain⟨k,q,h1,h2,h3⟩:=h;exact⟨q,k,h2,h1,λe=>h3 e.symm⟩
theorem ada:∀{l:List ME},BH l=true->l.Pairwise HN/\∀m∈l,∃k,m.key=.str k
 |[],_=>⟨.nil,λm h=>by cases h⟩|m::l,h=>by
  unfold BH at h;rw[aam] at h;obtain⟨h1,h2⟩:=h;obtain⟨a,b⟩:=ada h2;split at h1
  ·rename_i k hk;refine⟨List.pairwise_cons.2 ⟨λx hx=>?_,a⟩,λx hx=>?_⟩
   ·have:=adP.1 h1 x hx;split at this;·rename_i q hq;exact⟨k,q,hk,hq,by simpa using this⟩
    ·cases this
   ·rcases aal.1 hx with rfl|hx;·exact⟨k,hk⟩
    ·exact b x hx
  ·cases h1
def Ir (k:Nat)(c f:AV)(H:Hp):Option Hp:=
 match c,f with
 |.ptr ci co,.ptr fi fo=>
  match cellAt H ci (co+k),cellAt H fi (fo+k) with
  |some (.map cm),some (.map fm)=>
   match H.h.get cm,H.h.get fm with
   |some (.map [] q),some (.map es _)=>bif BH es&&!(Nat.beq cm fm) then some ⟨H.h.bW cm (.map (mo q es) (q+es.length)),H.next+1⟩ else none
   |_,_=>none
  |_,_=>none
 |_,_=>none
def ZS (k c f:Nat):Tm->Hp->Option Hp:=λt H=>Ir k (tg t c) (tg t f) H
theorem aFF {k:Nat}{c f:AV}{H H2:Hp}(h:Ir k c f H=some H2):∃ci co fi fo cm fm q es z,c=.ptr ci co/\f=.ptr fi fo/\cellAt H ci (co+k)=some (.map cm)/\cellAt H fi (fo+k)=some (.map fm)/\H.h.get cm=some (.map [] q)/\H.h.get fm=some (.map es z)/\BH es=true/\cm≠fm/\
  H2=⟨H.h.bW cm (.map (mo q es) (q+es.length)),H.next+1⟩:=by
 unfold Ir at h;split at h
 ·rename_i ci co fi fo;split at h
  ·rename_i cm fm h1 h2;split at h
   ·rename_i q es z h3 h4;cases hb:(BH es&&!(Nat.beq cm fm)) with
    |false=>rw[hb] at h;cases h
    |true=>
     rw[hb] at h;rw[aam] at hb;refine⟨ci,co,fi,fo,cm,fm,q,es,z,rfl,rfl,h1,h2,h3,h4,hb.1,λe=>?_,(ab0 h).symm⟩;subst e;have:=hb.2;rw[aiw] at this;cases this
   ·cases h
  ·cases h
 ·cases h
section
variable {P:Program}{F:Nat->Prop}{W:World}{e:Em}{H:Hp}{w:World}
section
variable {Q:Exit->Act->World->Prop}{a:Act}{cf:CF}{dst:Option Tmp}{i:Nat}{it:Operand}{o:Oper}{ops:Array Oper}{rest:List Nat}{t':Tm}{v':Value}{w':World}{σ:Operand->Value}
theorem oM.put {n:Nat}{t:Tm}(h:oM e n t a){v:AV}(hp:jk n dst v t=some t')(hv:VR e v v'):oM e n t' (a.put dst v'):=by
 refine⟨h.1.put hp hv,λd hd=>?_⟩;unfold jk at hp;split at hp;·cases hp;exact h.2 d hd
 ·rename_i x;cases hb:(Nat.blt x n&&Nat.blt x 4294967296) with
  |false=>rw[hb] at hp;cases hp
  |true=>
   rw[hb] at hp;cases hp;simp only[aam,aeg] at hb;rw[Tr.Om _ _ _ _ _ zzz,zz1 zzz];exact h.2 d hd
theorem oM.mono {e':Em}(h:e.le e'){n:Nat}{t:Tm}(k:oM e n t a):oM e' n t a:=⟨k.1.mono h,k.2⟩
theorem rz (jb:wz P cf)(hi:ops[i]?=some o)(hg:o.guard=none){n:Nat}{t:Tm}{H':Hp}{v:AV}(ho:si P cf t o H=some (v,H'))(hp:jk n o.dst v t=some t')
  (hR:RH P.globals.size F W e H w) (hT:oM e n t a) (hn:∀e' a' w',e.le e'->RH P.globals.size F W e' H' w'->oM e' n t' a'->a'.defers=a.defers->wpOps P ops Q rest a' w'):wpOps P ops Q (i::rest) a w:=by
 have hw:sQ ops o t=some true:=by unfold sQ;rw[hg]
 simp only[wpOps,hi,Qr (e:=e) (a:=a) hw (λd _=>hT.1.val d),if_true];left;exact MV jb hR ho (λx _=>VR.ev hR hT.1 x) λe' v' w' he bp hv=>hn e' _ w' he bp ((hT.mono he).put hp hv) (by cases o.dst<;>rfl)
theorem Q1 (hi:ops[i]?=some o)(hg:o.guard=none)
  (hx:(execOp a.eval o).run P w=.ok (.value v') w') (hn:wpOps P ops Q rest (a.put o.dst v') w'):wpOps P ops Q (i::rest) a w:=by
 have hw:Region.wanted o (yielded ops a.tmps)=true:=by unfold Region.wanted;simp[hg]
 simp only[wpOps,hi,hw,if_true];left;unfold Oper.wp;rw[hx];exact hn
theorem aeV (ho:o.op=.next it false)(h:(Instr.next (σ it) false o.type).run P w=.ok v' w'):(execOp σ o).run P w=.ok (.value v') w':=by unfold execOp;rw[ho];simp[h]
theorem aEa (ho:o.op=.entry it)(h:(Instr.entry (σ it)).run P w=.ok v' w'):(execOp σ o).run P w=.ok (.value v') w':=by unfold execOp;rw[ho];simp[h]
theorem aCk {ty:TypeId}{x:Operand}(ho:o.op=.range ty x)(h:(Instr.range ty (σ x)).run P w=.ok v' w'):(execOp σ o).run P w=.ok (.value v') w':=by unfold execOp;rw[ho];simp[h]
end
end
end K
end Go.Proofs.YtodfajmihkagnaaGreatDoor.Am
