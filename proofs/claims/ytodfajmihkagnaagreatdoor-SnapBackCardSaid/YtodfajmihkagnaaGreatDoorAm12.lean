/- Laws that the proof uses. -/
import Derived.Test.YtodfajmihkagnaaGreatDoorAm11
import Derived.Laws.IdiomRangeMap
set_option linter.unusedVariables false
set_option linter.unusedSimpArgs false
set_option maxHeartbeats 1000000
namespace Go.Proofs.YtodfajmihkagnaaGreatDoor.Am
section
section
section
namespace K
section
variable (P:Program)
def yR (n:Nat)(dst:Option Tmp):Bool:=match dst with|none=>true|some d=>Nat.blt d n&&Nat.blt d 4294967296
def iY (dst:Option Tmp)(v:AV)(t:Tm):Tm:=match dst with|none=>t|some d=>t.put 34 d v
def gv (ops:Array Oper)(j:Nat)(t:Tm):AV:=match (ops[j]?).bind (·.dst) with|none=>bS|some d=>(t.get d).getD bS
def wv (want:Bool)(g:AV):Option Bool:=match g with|.bool b=>some (b==want)|.dG=>none|_=>some false
def GO (g:AV)(want:Bool)(f:(AV->Hp->R)->R)(k:AV->Hp->R)(H:Hp):R:=match wv want g with|some true=>f k|some false=>k bS H|none=>none
def SM (a b:AV)(x:R):R:=bif same a b then x else none
def zo (cf:CF)(n:Nat)(ops:Array Oper):List Oper->Tm->Hp->KN->R
 |[],t,H,k=>k t H|o::r,t,H,k=>bif yR n o.dst then (match o.guard with
   |none=>fu P cf o t H λv H=>zo cf n ops r (iY o.dst v t) H k
   |some (j,want)=>GO (gv ops j t) want (λk'=>fu P cf o t H k') (λv H=>zo cf n ops r (iY o.dst v t) H k) H) else none
def lM:CF:=λ_ _ _=>none
def qU (s:me)(x:R):List me->R
 |[]=>x|r::l=>match r.k with
  |.pure=>qU s x l|.read=>bif Nat.blt r.i s.i then (bif s.b.testBit r.i then qU s x l else fu P lM r.o r.t s.ha λv _=>SM r.v v (qU s x l))
    else (bif r.b.testBit s.i then qU s x l else fu P lM r.o r.t s.hb λv _=>SM r.v v (qU s x l))
  |_=>bif !(Nat.blt r.i s.i)||s.b.testBit r.i then qU s x l else none
def BD (all:List me)(x:R):List me->R
 |[]=>x|s::l=>match s.k with
  |.dS=>qU P s (BD all x l) all|_=>BD all x l
def yb:List (Nat×AV)->Nat->Option AV
 |[],_=>none|(e,v)::r,d=>bif Nat.beq e d then some v else yb r d
def qB:List (Nat×AV)->Option Tmp->List (Nat×AV)
 |kn,none=>kn|[],some _=>[]|(e,v)::r,some d=>bif Nat.beq e d then qB r (some d) else (e,v)::qB r (some d)
def NM (kn:List (Nat×AV)):Option Tmp->List (Nat×AV)
 |none=>kn|some d=>(d,bS)::qB kn (some d)
def jj (g:AV)(want:Bool)(x y:R):R:=match g with|.bool b=>bif b==want then x else y|_=>none
def mD (cf:CF)(n:Nat)(ops:Array Oper):Nat->List Oper->List Nat->List (Nat×AV)->Tm->Tm->Hp->Hp->List me->KN->R
 |_,[],_,_,_,te,_,h,acc,k=>BD P acc (k te h) acc|_,_::_,[],_,_,_,_,_,_,_=>none|i,o::r,b::bs,kn,tp,te,hb,h,acc,k=>bif yR n o.dst then
   let go:List (Nat×AV)->Tm->R:=λkn tp=>match kd P o with
    |.late=>fu P lM o te h λv h'=>mD cf n ops (i+1) r bs (qB kn o.dst) (iY o.dst .dG tp) (iY o.dst v te) hb h' (acc++[⟨i,o,b,true,.late,v,tp,hb,hb⟩]) k
    |.dS=>fu P cf o te h λv h'=>mD cf n ops (i+1) r bs (qB kn o.dst) (iY o.dst v tp) (iY o.dst v te) h' h' (acc++[⟨i,o,b,true,.dS,v,tp,hb,h'⟩]) k
    |.pure=>fu P lM o tp hb λv _=>mD cf n ops (i+1) r bs (qB kn o.dst) (iY o.dst v tp) (iY o.dst v te) hb h (acc++[⟨i,o,b,true,.pure,v,tp,hb,hb⟩]) k
    |.read=>fu P lM o tp hb λv _=>mD cf n ops (i+1) r bs (qB kn o.dst) (iY o.dst v tp) (iY o.dst v te) hb h (acc++[⟨i,o,b,true,.read,v,tp,hb,hb⟩]) k
   let skip:List (Nat×AV)->Tm->R:=λkn tp=>mD cf n ops (i+1) r bs (NM kn o.dst) (iY o.dst bS tp) (iY o.dst bS te) hb h (acc++[⟨i,o,b,false,.pure,bS,tp,hb,hb⟩]) k
   match o.guard with
   |none=>go kn tp|some (j,want)=>match (ops[j]?).bind (·.dst) with
    |none=>skip kn tp|some d=>match yb kn d with
     |some c=>(match wv want c with|some true=>go kn tp|some false=>skip kn tp|none=>none)|none=>jj ((tp.get d).getD bS) want (go ((d,.bool want)::kn) (iY (some d) (.bool want) tp)) (skip ((d,.bool !want)::kn) (iY (some d) (.bool !want) tp))
  else none
def vU:u6:=λcf n ops d t H k=>bif d then (bif AL ops then mD P cf n ops 0 ops.toList (before ops.toList []) [] t t H H [] k else none) else zo P cf n ops ops.toList t H k
end
section
variable {P:Program}
section
variable {H:Hp}{args:List AV}{cf:CF}{dst:Option Tmp}{k:AV->Hp->R}{kn:List (Nat×AV)}{o:Oper}{ops:Array Oper}{r:AV×Hp}{x:AV}{α:Type}
theorem F9 {n:Nat}{v:AV}{t:Tm}(h:yR n dst=true):je n dst v t=some (iY dst v t):=by
 unfold je iY;cases dst with
 |none=>rfl|some d=>
  have h':(Nat.blt d n&&Nat.blt d 4294967296)=true:=h;simp only[h',cond_true]
theorem aiZ {t:Tm}{j:Nat}{want:Bool}(h:o.guard=some (j,want)):sO ops o t=wv want (gv ops j t):=by
 unfold sO gv;rw[h];simp only;cases (ops[j]?).bind (·.dst) with
 |none=>rfl|some d=>
  simp only;cases t.get d with
  |none=>rfl|some a=>cases a<;>rfl
theorem aa3 {cf:CF}{n:Nat}{ops:Array Oper}:∀(l:List Oper) (t:Tm) (H:Hp) (k:KN) (r:AV×Hp),zo P cf n ops l t H k=some r->∃t' H',vV P cf n ops l t H=some (t',H')/\k t' H'=some r
 |[],t,H,k,r,h=>⟨t,H,rfl,h⟩|o::l,t,H,k,r,h=>by
  unfold zo at h;cases hd:yR n o.dst with
  |false=>rw[hd] at h;cases h
  |true=>
   rw[hd] at h;simp only[cond_true] at h;have run:∀(v:AV) (H':Hp),vL P cf t o H=some (v,H')->sO ops o t=some true->zo P cf n ops l (iY o.dst v t) H' k=some r->∃t' H',vV P cf n ops (o::l) t H=some (t',H')/\k t' H'=some r:=by intro v H' h1 h2 h3;obtain⟨t2,H2,q1,q2⟩:=aa3 l _ _ k r h3;refine⟨t2,H2,?_,q2⟩;unfold vV;rw[h2];simp only[h1,F9 hd];exact q1
   cases hg:o.guard with
   |none=>
    rw[hg] at h;obtain⟨v,H',h1,h2⟩:=Py h;exact run v H' h1 (by unfold sO;rw[hg]) h2
   |some p=>
    obtain⟨j,want⟩:=p;rw[hg] at h;simp only at h;unfold GO at h;rw[<-aiZ (o:=o) hg] at h;cases hw:sO ops o t with
    |none=>rw[hw] at h;cases h
    |some b=>
     rw[hw] at h;cases b with
     |true=>
      simp only at h;obtain⟨v,H',h1,h2⟩:=Py h;exact run v H' h1 hw h2
     |false=>
      simp only at h;obtain⟨t2,H2,q1,q2⟩:=aa3 l _ _ k r h;refine⟨t2,H2,?_,q2⟩;unfold vV;rw[hw];simp only[F9 hd];exact q1
theorem Um {t:Tm}(h:fu P lM o t H k=some r):∃v H',jJ P (ev P.globals.size t) o H=some (v,H')/\k v H'=some r:=by
 obtain⟨v,H',h1,h2⟩:=Py h;refine⟨v,H',?_,h2⟩;unfold vL at h1;split at h1;·cases h1
 ·exact h1
theorem DG {s:me}{x:R}{r:AV×Hp}:∀(l:List me),qU P s x l=some r->(l.all λq=>match q.k with
   |.dS|.late=>!(Nat.blt q.i s.i)||s.b.testBit q.i|.read=>bif Nat.blt q.i s.i then s.b.testBit q.i||xK P q s.ha else q.b.testBit s.i||xK P q s.hb
   |.pure=>true)=true/\x=some r
 |[],h=>⟨rfl,h⟩|q::l,h=>by
  unfold qU at h;rw[alZ,aaM];have rd:∀(Hx:Hp),(fu P lM q.o q.t Hx λv _=>SM q.v v (qU P s x l))=some r->xK P q Hx=true/\qU P s x l=some r:=by
   intro Hx hx;obtain⟨v,H',h1,h2⟩:=Um hx;unfold SM at h2;cases hs:same q.v v with
   |false=>rw[hs] at h2;cases h2
   |true=>
    rw[hs] at h2;refine⟨?_,h2⟩;unfold xK;rw[h1];exact hs
  cases hk:q.k with
  |pure=>
   rw[hk] at h;obtain⟨a,b⟩:=DG l h;exact⟨⟨rfl,a⟩,b⟩
  |read=>
   rw[hk] at h;simp only at h⊢;cases hb:Nat.blt q.i s.i with
   |true=>
    rw[hb] at h;simp only[cond_true] at h⊢;cases ht:s.b.testBit q.i with
    |true=>
     rw[ht] at h;obtain⟨a,b⟩:=DG l h;exact⟨⟨rfl,a⟩,b⟩
    |false=>
     rw[ht] at h;obtain⟨c,d⟩:=rd _ h;obtain⟨a,b⟩:=DG l d;exact⟨⟨by rw[c];rfl,a⟩,b⟩
   |false=>
    rw[hb] at h;simp only[cond_false] at h⊢;cases ht:q.b.testBit s.i with
    |true=>
     rw[ht] at h;obtain⟨a,b⟩:=DG l h;exact⟨⟨rfl,a⟩,b⟩
    |false=>
     rw[ht] at h;obtain⟨c,d⟩:=rd _ h;obtain⟨a,b⟩:=DG l d;exact⟨⟨by rw[c];rfl,a⟩,b⟩
  |late=>
   rw[hk] at h;simp only at h⊢;cases hb:(!(Nat.blt q.i s.i)||s.b.testBit q.i) with
   |false=>rw[hb] at h;cases h
   |true=>
    rw[hb] at h;obtain⟨a,b⟩:=DG l h;exact⟨⟨rfl,a⟩,b⟩
  |dS=>
   rw[hk] at h;simp only at h⊢;cases hb:(!(Nat.blt q.i s.i)||s.b.testBit q.i) with
   |false=>rw[hb] at h;cases h
   |true=>
    rw[hb] at h;obtain⟨a,b⟩:=DG l h;exact⟨⟨rfl,a⟩,b⟩
theorem Pj {all:List me}{x:R}{r:AV×Hp}:∀(l:List me),BD P all x l=some r->(l.all λs=>match s.k with
  |.dS=>all.all λq=>match q.k with
   |.dS|.late=>!(Nat.blt q.i s.i)||s.b.testBit q.i|.read=>bif Nat.blt q.i s.i then s.b.testBit q.i||xK P q s.ha else q.b.testBit s.i||xK P q s.hb
   |.pure=>true
  |_=>true)=true/\x=some r
 |[],h=>⟨rfl,h⟩|s::l,h=>by
  unfold BD at h;rw[alZ,aaM];cases hk:s.k with
  |dS=>
   rw[hk] at h;obtain⟨a,b⟩:=DG all h;obtain⟨c,d⟩:=Pj l b;exact⟨⟨a,c⟩,d⟩
  |pure=>rw[hk] at h;obtain⟨c,d⟩:=Pj l h;exact⟨⟨rfl,c⟩,d⟩|read=>rw[hk] at h;obtain⟨c,d⟩:=Pj l h;exact⟨⟨rfl,c⟩,d⟩|late=>rw[hk] at h;obtain⟨c,d⟩:=Pj l h;exact⟨⟨rfl,c⟩,d⟩
def xY (kn:List (Nat×AV))(t:Tm):Prop:=∀d v,yb kn d=some v->t.get d=some v
theorem VV:∀(kn:List (Nat×AV)) (x d:Nat) (v:AV),yb (qB kn (some x)) d=some v->d≠x/\yb kn d=some v
 |[],x,d,v,h=>by cases h
 |(e,u)::r,x,d,v,h=>by
  unfold qB at h;by_cases he:e=x;·subst he;rw[Ab,cond_true] at h;obtain⟨a,b⟩:=VV r e d v h;refine⟨a,?_⟩;unfold yb;rw[rm (Ne.symm a)];exact b
  ·rw[rm he,cond_false] at h;unfold yb at h⊢;by_cases hd:e=d;·subst hd;rw[Ab] at h⊢;exact⟨he,h⟩
   ·rw[rm hd] at h⊢;exact VV r x d v h
theorem xY.put {t:Tm}(h:xY kn t)(dst:Option Tmp)(v:AV):xY (qB kn dst) (iY dst v t):=by
 cases dst with
 |none=>intro d u hd;cases kn<;>exact h d u hd|some x=>
  intro d u hd;obtain⟨a,b⟩:=VV kn x d u hd;show (t.put 34 x v).get d=some u;rw[Tr.put,Tr.gL,zz1 a];exact h d u b
theorem xY.aH4 {t:Tm}(h:xY kn t)(dst:Option Tmp):xY (NM kn dst) (iY dst bS t):=by
 cases dst with
 |none=>exact h|some x=>
  intro d u hd;unfold NM yb at hd;by_cases hx:x=d;·subst hx;rw[Ab] at hd;cases hd;show (t.put 34 x bS).get x=some bS;rw[Tr.put,Tr.gL,zz2 rfl]
  ·rw[rm hx] at hd;exact (h.put (some x) bS) d u hd
theorem xY.cons {kn:List (Nat×AV)}{t:Tm}(h:xY kn t){d:Nat}{v:AV}(hv:t.get d=some v):xY ((d,v)::kn) t:=by
 intro e u he;unfold yb at he;by_cases hx:d=e;·subst hx;rw[Ab] at he;cases he;exact hv
 ·rw[rm hx] at he;exact h e u he
theorem Nk {α:Type}{x:α}:∀(p:Pa) (t:Tr α),Tr.vw p t=some x->Tr.mJ p (some x) t=t
 |.e,.nil,h=>by cases h
 |.e,.node v k0 k1 k2 k3,h=>by cases h;rfl
 |.a p,.nil,h=>by rw[Tr.Bv] at h;cases h
 |.b p,.nil,h=>by rw[Tr.Bv] at h;cases h
 |.c p,.nil,h=>by rw[Tr.Bv] at h;cases h
 |.d p,.nil,h=>by rw[Tr.Bv] at h;cases h
 |.a p,.node v k0 k1 k2 k3,h=>congrArg (λk=>Tr.node v k k1 k2 k3) (Nk p k0 h)|.b p,.node v k0 k1 k2 k3,h=>congrArg (λk=>Tr.node v k0 k k2 k3) (Nk p k1 h)|.c p,.node v k0 k1 k2 k3,h=>congrArg (λk=>Tr.node v k0 k1 k k3) (Nk p k2 h)|.d p,.node v k0 k1 k2 k3,h=>congrArg (λk=>Tr.node v k0 k1 k2 k) (Nk p k3 h)
theorem ac6 {t:Tm}{d:Nat}{v:AV}(h:t.get d=some v):iY (some d) v t=t:=Nk (pathOf d) t h
theorem IP {cf:CF}{n:Nat}{ops:Array Oper}:∀(l:List Oper) (i:Nat) (bs:List Nat) (kn:List (Nat×AV)) (tp te:Tm) (hb h:Hp) (acc:List me) (k:KN) (r:AV×Hp),xY kn tp->mD P cf n ops i l bs kn tp te hb h acc k=some r->
  ∃s t' H',nh P cf n ops i l bs tp te hb h=some (s,t',H')/\Gd P (acc++s)=true/\k t' H'=some r
 |[],i,bs,kn,tp,te,hb,h,acc,k,r,hU,hr=>by unfold mD at hr;obtain⟨a,b⟩:=Pj acc hr;refine⟨[],te,h,by unfold nh;rfl,?_,b⟩;rw[acQ];exact a
 |o::l,i,[],kn,tp,te,hb,h,acc,k,r,hU,hr=>by unfold mD at hr;cases hr
 |o::l,i,b::bs,kn,tp,te,hb,h,acc,k,r,hU,hr=>by
  unfold mD at hr;cases hd:yR n o.dst with
  |false=>rw[hd] at hr;cases hr
  |true=>
   rw[hd] at hr;simp only[cond_true] at hr;have go:∀kn,xY kn tp->sO ops o tp=some true->(match kd P o with
    |.late=>fu P lM o te h λv h'=>mD P cf n ops (i+1) l bs (qB kn o.dst) (iY o.dst .dG tp) (iY o.dst v te) hb h' (acc++[⟨i,o,b,true,.late,v,tp,hb,hb⟩]) k
    |.dS=>fu P cf o te h λv h'=>mD P cf n ops (i+1) l bs (qB kn o.dst) (iY o.dst v tp) (iY o.dst v te) h' h' (acc++[⟨i,o,b,true,.dS,v,tp,hb,h'⟩]) k
    |.pure=>fu P lM o tp hb λv _=>mD P cf n ops (i+1) l bs (qB kn o.dst) (iY o.dst v tp) (iY o.dst v te) hb h (acc++[⟨i,o,b,true,.pure,v,tp,hb,hb⟩]) k
    |.read=>fu P lM o tp hb λv _=>mD P cf n ops (i+1) l bs (qB kn o.dst) (iY o.dst v tp) (iY o.dst v te) hb h (acc++[⟨i,o,b,true,.read,v,tp,hb,hb⟩]) k)=some r->
     ∃s t' H',nh P cf n ops i (o::l) (b::bs) tp te hb h=some (s,t',H')/\Gd P (acc++s)=true/\k t' H'=some r:=by
    intro kn hU hw hr;cases hk:kd P o with
    |late=>
     rw[hk] at hr;obtain⟨v,h',h1,h2⟩:=Um hr;obtain⟨s,t',H',q1,q2,q3⟩:=IP l _ _ _ _ _ _ _ _ k r (hU.put _ _) h2;refine⟨_,t',H',?_,by rw[abr] at q2;exact q2,q3⟩;unfold nh;simp only[hw,hk,h1,F9 hd,q1];rfl
    |dS=>
     rw[hk] at hr;obtain⟨v,h',h1,h2⟩:=Py hr;obtain⟨s,t',H',q1,q2,q3⟩:=IP l _ _ _ _ _ _ _ _ k r (hU.put _ _) h2;refine⟨_,t',H',?_,by rw[abr] at q2;exact q2,q3⟩;unfold nh;simp only[hw,hk,h1,F9 hd,q1];rfl
    |pure=>
     rw[hk] at hr;obtain⟨v,h',h1,h2⟩:=Um hr;obtain⟨s,t',H',q1,q2,q3⟩:=IP l _ _ _ _ _ _ _ _ k r (hU.put _ _) h2;refine⟨_,t',H',?_,by rw[abr] at q2;exact q2,q3⟩;unfold nh;simp only[hw,hk,h1,F9 hd,q1];rfl
    |read=>
     rw[hk] at hr;obtain⟨v,h',h1,h2⟩:=Um hr;obtain⟨s,t',H',q1,q2,q3⟩:=IP l _ _ _ _ _ _ _ _ k r (hU.put _ _) h2;refine⟨_,t',H',?_,by rw[abr] at q2;exact q2,q3⟩;unfold nh;simp only[hw,hk,h1,F9 hd,q1];rfl
   have skip:∀kn,xY kn tp->sO ops o tp=some false->mD P cf n ops (i+1) l bs (NM kn o.dst) (iY o.dst bS tp) (iY o.dst bS te) hb h (acc++[⟨i,o,b,false,.pure,bS,tp,hb,hb⟩]) k=some r->
     ∃s t' H',nh P cf n ops i (o::l) (b::bs) tp te hb h=some (s,t',H')/\Gd P (acc++s)=true/\k t' H'=some r:=by
    intro kn hU hw hr;obtain⟨s,t',H',q1,q2,q3⟩:=IP l _ _ _ _ _ _ _ _ k r (hU.aH4 _) hr;refine⟨_,t',H',?_,by rw[abr] at q2;exact q2,q3⟩;unfold nh;simp only[hw,F9 hd,q1];rfl
   cases hg:o.guard with
   |none=>
    rw[hg] at hr;exact go kn hU (by unfold sO;rw[hg]) hr
   |some p=>
    obtain⟨j,want⟩:=p;rw[hg] at hr;simp only at hr;have Aa:=aiZ (ops:=ops) (o:=o) (t:=tp) hg;unfold gv at Aa;cases hj:(ops[j]?).bind (·.dst) with
    |none=>
     rw[hj] at hr Aa;exact skip kn hU Aa hr
    |some d=>
     rw[hj] at hr Aa;simp only at hr Aa;cases hl:yb kn d with
     |some c=>
      rw[hl] at hr;simp only at hr;rw[hU d c hl,af7] at Aa;cases hw:wv want c with
      |none=>rw[hw] at hr;cases hr
      |some q=>
       rw[hw] at hr Aa;cases q with
       |true=>exact go kn hU Aa hr|false=>exact skip kn hU Aa hr
     |none=>
      rw[hl] at hr;simp only at hr;unfold jj at hr;cases ht:tp.get d with
      |none=>rw[ht] at hr;cases hr
      |some v=>
       rw[ht,af7] at hr Aa;cases v<;>first|(cases hr;done)|skip
       rename_i q;simp only at hr;have Pt:sO ops o tp=some (q==want):=Aa;cases hq:(q==want) with
       |true=>
        rw[hq] at hr Pt;have:q=want:=by simpa using hq
        subst this;rw[ac6 ht] at hr;exact go _ (hU.cons ht) Pt hr
       |false=>
        rw[hq] at hr Pt;have:q = !want:=by cases q<;>cases want<;>simp_all
        subst this;rw[ac6 ht] at hr;exact skip _ (hU.cons ht) Pt hr
theorem atg:J0 P (vU P):=by
 intro cf n ops d t H k r h;unfold vU at h;cases d with
 |false=>
  simp only[cond_false] at h⊢;exact aa3 _ _ _ _ _ h
 |true=>
  simp only[cond_true] at h⊢;cases hr:AL ops with
  |false=>rw[hr] at h;cases h
  |true=>
   rw[hr] at h;simp only[cond_true] at h;obtain⟨s,t',H',q1,q2,q3⟩:=IP _ _ _ _ _ _ _ _ _ _ _ (λd v hd=>by cases hd) h;refine⟨t',H',?_,q3⟩;unfold F7;rw[hr];simp only[cond_true,q1];rw[afP] at q2;rw[q2];rfl
def Vz:AV->Hp->R:=λv H=>some (v,H)
theorem lZ (o:Option α)(f:α->R)(g:AV×Hp->R):(B1 o f).bind g=B1 o λv=>(f v).bind g:=by cases o<;>rfl
theorem zA (o:Option (AV×Hp))(f:AV->Hp->R)(g:AV×Hp->R):(B2 o f).bind g=B2 o λv H=>(f v H).bind g:=by cases o<;>rfl
theorem Uy (o:Option (Nat×Hp))(f:Nat->Hp->R)(g:AV×Hp->R):(BN o f).bind g=BN o λi H=>(f i H).bind g:=by cases o<;>rfl
theorem atH {op:BinOp}{t:TypeId}{X Y:Operand}{y:AV}(f:AV->R)(g:AV×Hp->R):(JF P op t X Y x y H f).bind g=JF P op t X Y x y H λv=>(f v).bind g:=by
 unfold JF;split<;>first|exact lZ _ _ _|skip
 cases gA P op t (zt X||zt Y) x y with
 |false=>rfl|true=>exact lZ _ _ _
theorem arZ {a b:TypeId}(f:AV->Hp->R)(g:AV×Hp->R):(KB P a b x H f).bind g=KB P a b x H λv H=>(f v H).bind g:=by unfold KB;split<;>first|exact lZ _ _ _|exact zA _ _ _|(split<;>first|exact lZ _ _ _|exact zA _ _ _|rfl)
theorem azn {t:TypeId}{lo hi mx:Option AV}(f:AV->R)(g:AV×Hp->R):(IC P t x lo hi mx H f).bind g=IC P t x lo hi mx H λv=>(f v).bind g:=by unfold IC;split<;>first|exact lZ _ _ _|(split<;>first|exact lZ _ _ _|rfl)
theorem azk {b:Builtin}{ty:Array TypeId}(f:AV->Hp->R)(g:AV×Hp->R):(Iy P b ty args H f).bind g=Iy P b ty args H λv H=>(f v H).bind g:=by
 unfold Iy;split;·split<;>first|exact lZ _ _ _|exact zA _ _ _
 ·split<;>first|rfl|skip
  split<;>first|rfl|skip
  rename_i z _ _;cases (Nat.ble (P.bytesOf _) 4096&&Nat.beq _ _) with
  |false=>rfl|true=>exact zA _ _ _
 ·split<;>first|rfl|skip
  split<;>first|exact zA _ _ _|rfl
 ·split<;>first|rfl|skip
  split<;>first|exact lZ _ _ _|exact zA _ _ _
 ·exact zA _ _ _
theorem aw9 {t:Tm}(f:AV->Hp->R)(g:AV×Hp->R):(fu P cf o t H f).bind g=fu P cf o t H λv H=>(f v H).bind g:=by
 obtain⟨dst,op,ty0,pos,after,guard⟩:=o;cases op<;>unfold fu<;>simp only
 case pick=>exact lZ _ _ _
 case alloc=>split<;>first|exact Uy _ _ _|rfl
 case box=>exact Uy _ _ _
 case build=>
  split
  ·split<;>first|rfl|skip
   split<;>first|exact lZ _ _ _|rfl
  ·split<;>first|exact lZ _ _ _|rfl
  ·rfl
 case buildSlice=>
  split<;>first|rfl|skip
  split<;>first|rfl|skip
  cases Nat.ble _ 65536 with
  |false=>rfl|true=>
   simp only[cond_true];split<;>first|rfl|skip
   rw[lZ];congr 1;funext l;exact Uy _ _ _
 case insert=>split<;>first|rfl|(split<;>exact lZ _ _ _)
 case mapUpdate=>split<;>first|rfl|(split<;>exact lZ _ _ _)
 case load=>split<;>first|exact lZ _ _ _|rfl
 case store=>split<;>first|exact lZ _ _ _|rfl
 case nilCheck=>exact lZ _ _ _
 case binOp=>exact atH _ _
 case unOp=>exact lZ _ _ _
 case convert=>exact arZ _ _
 case makeInterface=>split<;>rfl
 case makeFunc=>split<;>rfl
 case makeMap ty x=>cases x<;>first|exact Uy _ _ _|rfl
 case makeSlice=>
  split<;>first|rfl|skip
  split<;>first|rfl|skip
  cases (Nat.ble (P.bytesOf _) 4096&&Nat.beq _ _) with
  |false=>rfl|true=>exact zA _ _ _
 case slice=>exact azn _ _
 case fieldAddr=>split<;>first|exact lZ _ _ _|rfl
 case field=>
  split<;>first|rfl|skip
  split<;>first|rfl|skip
  split<;>first|exact lZ _ _ _|rfl
 case indexAddr=>
  split<;>first|rfl|skip
  ·split<;>first|exact lZ _ _ _|rfl
  ·split<;>first|exact lZ _ _ _|rfl
 case index=>split<;>exact lZ _ _ _
 case lookup=>
  split<;>first|rfl|skip
  split<;>exact lZ _ _ _
 case range=>exact zA _ _ _
 case next=>exact zA _ _ _
 case entry=>rfl
 case extract=>exact lZ _ _ _
 case typeAssert=>split<;>first|exact lZ _ _ _|rfl
 case call c=>
  obtain⟨callee,args,uT⟩:=c;cases callee with
  |value f=>exact zA _ _ _|invoke r m=>rfl|builtin b=>exact azk _ _
 all_goals rfl
theorem ady {t:Tm}(k:AV->Hp->R):fu P cf o t H k=(fu P cf o t H Vz).bind λp=>k p.1 p.2:=by rw[aw9];rfl
theorem aDh {t:Tm}(h:fu P cf o t H k=some r):
    ∃v H',k v H'=some r /\ ∀dq:Nat -> CF,wU dq cf -> Ev λj=>∀k',fu P (dq j) o t H k'=k' v H':=by
  rw[ady,aaV] at h;obtain⟨⟨v,H'⟩,h1,h2⟩:=h;refine⟨v,H',h2,λdq iZ=>?_⟩;have key:Ev λj=>fu P (dq j) o t H Vz=some (v,H'):=by
    obtain⟨dst,op,ty0,pos,after,guard⟩:=o;cases op
    case makeMap ty x=>cases x<;>exact Ev.of λ_=>h1
    case call c =>
     obtain⟨callee,args,uT⟩:=c;cases callee with
     |invoke r m=>exact Ev.of λ_=>h1
     |builtin b=>exact Ev.of λ_=>h1
     |value f =>
      obtain⟨v2,H2,q1,q2⟩:=xv h1;obtain⟨k0,hk⟩:=iZ _ _ _ _ q1;refine⟨k0,λj hj=>?_⟩;show B2 (dq j _ _ H) Vz=_;rw[hk j hj];exact q2
    all_goals exact Ev.of λ_=>h1
  obtain⟨k0,hk⟩:=key;refine⟨k0,λj hj k' =>?_⟩;rw[ady,hk j hj];rfl
theorem AQ:wU (λ_=>lM) lM:=λx l H r h=>by cases h
theorem tU {dq:Nat->CF}(iZ:wU dq cf){t:Tm}{ks:Nat->AV->Hp->R}(hk:∀v H,k v H=some r->Ev λj=>ks j v H=some r)(h:fu P cf o t H k=some r):Ev λj=>fu P (dq j) o t H (ks j)=some r:=by obtain⟨v,H',h1,h2⟩:=aDh h;obtain⟨a,ha⟩:=h2 dq iZ;obtain⟨b,hb⟩:=hk v H' h1;refine⟨max a b,λj hj=>?_⟩;exact (ha j (afz (Nat.le_max_left a b) hj) (ks j)).trans (hb j (afz (Nat.le_max_right a b) hj))
theorem Uc {dq:Nat->CF}{cf:CF}(iZ:wU dq cf){ks:Nat->KN}{k:KN}(hk:Bs ks k){n:Nat}{ops:Array Oper}:∀(l:List Oper) (t:Tm) (H:Hp) (r:AV×Hp),zo P cf n ops l t H k=some r->Ev λj=>zo P (dq j) n ops l t H (ks j)=some r
 |[],t,H,r,h=>hk t H r h|o::l,t,H,r,h=>by
  unfold zo at h⊢;cases hd:yR n o.dst with
  |false=>rw[hd] at h;cases h
  |true=>
   rw[hd] at h;simp only[cond_true] at h⊢;cases hg:o.guard with
   |none=>
    rw[hg] at h;exact tU iZ (λv H h=>Uc iZ hk l _ _ r h) h
   |some p=>
    obtain⟨q,want⟩:=p;rw[hg] at h;simp only at h⊢;unfold GO at h⊢;cases hw:wv want (gv ops q t) with
    |none=>rw[hw] at h;cases h
    |some b=>
     rw[hw] at h;cases b with
     |true=>exact tU iZ (λv H h=>Uc iZ hk l _ _ r h) h|false=>exact Uc iZ hk l _ _ r h
theorem HP {s:me}{xs:Nat->R}{x:R}{r:AV×Hp}(hx:x=some r->Ev λj=>xs j=some r):∀(l:List me),qU P s x l=some r->Ev λj=>qU P s (xs j) l=some r
 |[],h=>hx h|q::l,h=>by
  unfold qU at h⊢;have rd:∀Hx:Hp,(fu P lM q.o q.t Hx λv _=>SM q.v v (qU P s x l))=some r->Ev λj=>(fu P lM q.o q.t Hx λv _=>SM q.v v (qU P s (xs j) l))=some r:=by
   intro Hx h;refine tU (dq:=λ_=>lM) AQ (ks:=λj v _=>SM q.v v (qU P s (xs j) l)) (λv H h=>?_) h;unfold SM at h⊢;cases hs:same q.v v with
   |false=>rw[hs] at h;cases h
   |true=>rw[hs] at h;exact HP hx l h
  cases hk:q.k with
  |pure=>rw[hk] at h;exact HP hx l h|read=>
   rw[hk] at h;simp only at h⊢;cases hb:Nat.blt q.i s.i with
   |true=>
    rw[hb] at h;simp only[cond_true] at h⊢;cases ht:s.b.testBit q.i with
    |true=>rw[ht] at h;exact HP hx l h|false=>rw[ht] at h;exact rd _ h
   |false=>
    rw[hb] at h;simp only[cond_false] at h⊢;cases ht:q.b.testBit s.i with
    |true=>rw[ht] at h;exact HP hx l h|false=>rw[ht] at h;exact rd _ h
  |late=>
   rw[hk] at h;simp only at h⊢;cases hb:(!(Nat.blt q.i s.i)||s.b.testBit q.i) with
   |false=>rw[hb] at h;cases h
   |true=>rw[hb] at h;exact HP hx l h
  |dS=>
   rw[hk] at h;simp only at h⊢;cases hb:(!(Nat.blt q.i s.i)||s.b.testBit q.i) with
   |false=>rw[hb] at h;cases h
   |true=>rw[hb] at h;exact HP hx l h
theorem Ld {all:List me}{xs:Nat->R}{x:R}{r:AV×Hp}(hx:x=some r->Ev λj=>xs j=some r):∀(l:List me),BD P all x l=some r->Ev λj=>BD P all (xs j) l=some r
 |[],h=>hx h|s::l,h=>by
  unfold BD at h⊢;cases hk:s.k with
  |dS=>rw[hk] at h;exact HP (xs:=λj=>BD P all (xs j) l) (λh=>Ld hx l h) all h|pure=>rw[hk] at h;exact Ld hx l h|read=>rw[hk] at h;exact Ld hx l h|late=>rw[hk] at h;exact Ld hx l h
theorem afU {dq:Nat->CF}{cf:CF}(iZ:wU dq cf){ks:Nat->KN}{k:KN}(hk:Bs ks k){n:Nat}{ops:Array Oper}:∀(l:List Oper) (i:Nat) (bs:List Nat) (kn:List (Nat×AV)) (tp te:Tm) (hb h:Hp) (acc:List me) (r:AV×Hp),mD P cf n ops i l bs kn tp te hb h acc k=some r->
  Ev λj=>mD P (dq j) n ops i l bs kn tp te hb h acc (ks j)=some r
 |[],i,bs,kn,tp,te,hb,h,acc,r,hr=>by unfold mD at hr⊢;exact Ld (xs:=λj=>ks j te h) (λq=>hk te h r q) acc hr
 |o::l,i,[],kn,tp,te,hb,h,acc,r,hr=>by unfold mD at hr;cases hr
 |o::l,i,b::bs,kn,tp,te,hb,h,acc,r,hr=>by
  unfold mD at hr⊢;cases hd:yR n o.dst with
  |false=>rw[hd] at hr;cases hr
  |true=>
   rw[hd] at hr;simp only[cond_true] at hr⊢;have tK:=λi bs kn tp te hb h acc hr=>afU (n:=n) (ops:=ops) iZ hk l i bs kn tp te hb h acc r hr;cases hg:o.guard with
   |none=>
    rw[hg] at hr;simp only at hr⊢;cases cG:kd P o<;>rw[cG] at hr<;>simp only at hr⊢;·exact tU (dq:=λ_=>lM) AQ (λv H h=>tK _ _ _ _ _ _ _ _ h) hr
    ·exact tU (dq:=λ_=>lM) AQ (λv H h=>tK _ _ _ _ _ _ _ _ h) hr
    ·exact tU (dq:=λ_=>lM) AQ (λv H h=>tK _ _ _ _ _ _ _ _ h) hr
    ·exact tU iZ (λv H h=>tK _ _ _ _ _ _ _ _ h) hr
   |some p=>
    obtain⟨q,want⟩:=p;rw[hg] at hr;simp only at hr⊢;cases hj:(ops[q]?).bind (·.dst) with
    |none=>
     rw[hj] at hr;exact tK _ _ _ _ _ _ _ _ hr
    |some d=>
     rw[hj] at hr;simp only at hr⊢;cases hl:yb kn d with
     |some c=>
      rw[hl] at hr;simp only at hr⊢;cases hw:wv want c with
      |none=>rw[hw] at hr;cases hr
      |some w=>
       rw[hw] at hr;cases w with
       |true=>
        simp only at hr⊢;cases cG:kd P o<;>rw[cG] at hr<;>simp only at hr⊢;·exact tU (dq:=λ_=>lM) AQ (λv H h=>tK _ _ _ _ _ _ _ _ h) hr
        ·exact tU (dq:=λ_=>lM) AQ (λv H h=>tK _ _ _ _ _ _ _ _ h) hr
        ·exact tU (dq:=λ_=>lM) AQ (λv H h=>tK _ _ _ _ _ _ _ _ h) hr
        ·exact tU iZ (λv H h=>tK _ _ _ _ _ _ _ _ h) hr
       |false=>exact tK _ _ _ _ _ _ _ _ hr
     |none=>
      rw[hl] at hr;simp only at hr⊢;unfold jj at hr⊢;split at hr
      ·rename_i w hv;cases hw:(w==want) with
       |true=>
        rw[hw] at hr;simp only[cond_true] at hr⊢;cases cG:kd P o<;>rw[cG] at hr<;>simp only at hr⊢;·exact tU (dq:=λ_=>lM) AQ (λv H h=>tK _ _ _ _ _ _ _ _ h) hr
        ·exact tU (dq:=λ_=>lM) AQ (λv H h=>tK _ _ _ _ _ _ _ _ h) hr
        ·exact tU (dq:=λ_=>lM) AQ (λv H h=>tK _ _ _ _ _ _ _ _ h) hr
        ·exact tU iZ (λv H h=>tK _ _ _ _ _ _ _ _ h) hr
       |false=>
        rw[hw] at hr;exact tK _ _ _ _ _ _ _ _ hr
      ·cases hr
theorem Qx:AW (vU P):=by
 intro dq cf ng kn n ops d t H r h1 h2 h;unfold vU at h⊢;cases d with
 |false=>
  simp only[cond_false] at h⊢;exact Uc h1 h2 _ _ _ _ h
 |true=>
  simp only[cond_true] at h⊢;cases hr:AL ops with
  |false=>rw[hr] at h;cases h
  |true=>
   rw[hr] at h;simp only[cond_true] at h⊢;exact afU h1 h2 _ _ _ _ _ _ _ _ _ _ h
end
end
end K
end
namespace K
def sub:Code->List Nat->Code
 |c,[]=>c|.seq a b,i::r=>match i with|0=>sub a r|_=>sub b r
 |.cond _ a b,i::r=>match i with|0=>sub a r|_=>sub b r
 |.block _ b,_::r=>sub b r|.loop b,_::r=>sub b r|c,_::_=>c
def atC (P:Program)(f:Nat)(path:List Nat):Code:=match P.funcs[f]? with
 |some fn=>(match fn.body with|some b=>sub b path|none=>.skip)|none=>.skip
def nT (P:Program)(f:Nat):Nat:=match P.funcs[f]? with|some fn=>fn.ntmps|none=>0
def ae5 (P:Program)(f:Nat):KN:=λt H=>match P.funcs[f]? with|some fn=>FD P t H fn.results.toList|none=>none
noncomputable section
def Sv (P:Program)(reg:u6)(cf:CF)(n:Nat)(b:Code)(x:An)(lv:List Nat)(ke:Nat->KN)(kr:KN):Fn lv.length:=
 LP lv.length (λk=>abs lv.length λl H=>bE P reg cf n b x (λt H=>app lv.length k (aI lv t) H) ke kr (cU n lv l) H)
theorem av6 {P:Program}{reg:u6}(ja:AW reg)(cf:CF)(n:Nat)(b:Code)(x:An)(lv:List Nat)(ke:Nat->KN)(kr:KN)(l:List AV)(hl:l.length=lv.length)(H:Hp):
  app lv.length (Sv P reg cf n b x lv ke kr) l H=bE P reg cf n b x (λt H=>app lv.length (Sv P reg cf n b x lv ke kr) (aI lv t) H) ke kr (cU n lv l) H:=
 apT ja cf n b x lv ke kr l hl H
end
def LF (k:Nat)(x:AV)(H:Hp)(f:AV->R):R:=B1 (fa k x) λv=>B1 (ld v H) f
def NF (k:Nat)(x:AV)(H:Hp)(f:AV->R):R:=B1 (aJ x) λv=>B1 (fa k v) λu=>B1 (ld u H) f
def NA (k:Nat)(x:AV)(f:AV->R):R:=B1 (aJ x) λv=>B1 (fa k v) f
theorem adz (k i o:Nat)(H:Hp)(f:AV->R):LF k (.ptr i o) H f=B1 (ld (.ptr i (o+k)) H) f:=abg rfl (id rfl)
theorem afA (k i o:Nat)(H:Hp)(f:AV->R):NF k (.ptr i o) H f=B1 (ld (.ptr i (o+k)) H) f:=abg rfl (id rfl)
theorem aoS (k i o:Nat)(f:AV->R):NA k (.ptr i o) f=f (.ptr i (o+k)):=abg rfl (id rfl)
end K
end
namespace K
section
def uZ:Pa->AV->Tm->(Tm->R)->R
 |.e,x,t,k=>match t with|.nil=>k (.node (some x) .nil .nil .nil .nil)|.node _ a b c d=>k (.node (some x) a b c d)
 |.a p,x,t,k=>match t with|.nil=>uZ p x .nil λq=>k (.node none q .nil .nil .nil)|.node v a b c d=>uZ p x a λq=>k (.node v q b c d)
 |.b p,x,t,k=>match t with|.nil=>uZ p x .nil λq=>k (.node none .nil q .nil .nil)|.node v a b c d=>uZ p x b λq=>k (.node v a q c d)
 |.c p,x,t,k=>match t with|.nil=>uZ p x .nil λq=>k (.node none .nil .nil q .nil)|.node v a b c d=>uZ p x c λq=>k (.node v a b q d)
 |.d p,x,t,k=>match t with|.nil=>uZ p x .nil λq=>k (.node none .nil .nil .nil q)|.node v a b c d=>uZ p x d λq=>k (.node v a b c q)
theorem Oc:∀(p:Pa) (x:AV) (t:Tm) (k:Tm->R),uZ p x t k=k (Tr.mJ p (some x) t)
 |.e,x,t,k=>by cases t<;>rfl
 |.a p,x,t,k=>by cases t<;>(unfold uZ;simp only[Oc p];rfl)
 |.b p,x,t,k=>by cases t<;>(unfold uZ;simp only[Oc p];rfl)
 |.c p,x,t,k=>by cases t<;>(unfold uZ;simp only[Oc p];rfl)
 |.d p,x,t,k=>by cases t<;>(unfold uZ;simp only[Oc p];rfl)
def tM (dst:Option Tmp)(v:AV)(t:Tm)(k:Tm->R):R:=match dst with|none=>k t|some d=>uZ (pathOf d) v t k
theorem aeY (dst:Option Tmp)(v:AV)(t:Tm)(k:Tm->R):tM dst v t k=k (iY dst v t):=by
 cases dst with
 |none=>rfl|some d=>exact Oc _ _ _ _
def FO (o:Option AV)(k:Option AV->R):R:=match o with|none=>k none|some v=>k (some v)
theorem axv (o:Option AV)(k:Option AV->R):FO o k=k o:=by cases o<;>rfl
def FT:Tm->(Tm->R)->R
 |.nil,k=>k .nil|.node v a b c d,k=>FO v λv=>FT a λa=>FT b λb=>FT c λc=>FT d λd=>k (.node v a b c d)
theorem Ix:∀(t:Tm) (k:Tm->R),FT t k=k t
 |.nil,k=>rfl|.node v a b c d,k=>by unfold FT;rw[axv,Ix a,Ix b,Ix c,Ix d]
def OE (o:Option AV)(k:AV->R):R:=match o with|some v=>k v|none=>k bS
theorem aqG (o:Option AV)(k:AV->R):OE o k=k (o.getD bS):=by cases o<;>rfl
noncomputable section
variable (P:Program)
def aQ (t:Tm)(x:Operand)(k:AV->R):R:=match x with
 |.tmp d=>OE (t.get d) k|x=>k (ev P.globals.size t x)
theorem agc (t:Tm)(x:Operand)(k:AV->R):aQ P t x k=k (ev P.globals.size t x):=by cases x<;>first|rfl|exact aqG _ _
def Dg (cf:CF)(o:Oper)(t:Tm)(H:Hp)(k:AV->Hp->R):R:=match o.op with
 |.move x=>aQ P t x λv=>k v H
 |.assign x=>aQ P t x λv=>k v H
 |_=>fu P cf o t H k
theorem ajs (cf:CF)(o:Oper)(t:Tm)(H:Hp)(k:AV->Hp->R):Dg P cf o t H k=fu P cf o t H k:=by
 unfold Dg;split;·rename_i x h;rw[agc];unfold fu;rw[h]
 ·rename_i x h;rw[agc];unfold fu;rw[h]
 ·rfl
abbrev JT:=(m:Nat)->(Fn m->R)->Fn m->R
abbrev GT:=AV->Bool->((AV->Hp->R)->R)->(AV->Hp->R)->Hp->R
def K1 (G:GT)(cf:CF)(n:Nat)(ops:Array Oper):List Oper->Tm->Hp->KN->R
 |[],t,H,k=>k t H|o::r,t,H,k=>match yR n o.dst with
  |true=>(match o.guard with
   |none=>Dg P cf o t H λv H=>tM o.dst v t λt=>K1 G cf n ops r t H k
   |some (j,want)=>G (gv ops j t) want (λk'=>Dg P cf o t H k') (λv H=>tM o.dst v t λt=>K1 G cf n ops r t H k) H)
  |false=>none
theorem aom (cf:CF)(n:Nat)(ops:Array Oper):∀(l:List Oper) (t:Tm) (H:Hp) (k:KN),K1 P GO cf n ops l t H k=zo P cf n ops l t H k
 |[],t,H,k=>rfl|o::r,t,H,k=>by unfold K1 zo;simp only[ajs,aeY,aom cf n ops r];cases yR n o.dst<;>rfl
def AX (cf:CF)(n:Nat)(ops:Array Oper):Nat->List Oper->List Nat->List (Nat×AV)->Tm->Tm->Hp->Hp->List me->KN->R
 |_,[],_,_,_,te,_,h,acc,k=>BD P acc (k te h) acc|_,_::_,[],_,_,_,_,_,_,_=>none|i,o::r,b::bs,kn,tp,te,hb,h,acc,k=>match yR n o.dst with
  |true=>
   let go:List (Nat×AV)->Tm->R:=λkn tp=>match kd P o with
    |.late=>Dg P lM o te h λv h'=>tM o.dst .dG tp λtq=>tM o.dst v te λte=>AX cf n ops (i+1) r bs (qB kn o.dst) tq te hb h' (acc++[⟨i,o,b,true,.late,v,tp,hb,hb⟩]) k
    |.dS=>Dg P cf o te h λv h'=>tM o.dst v tp λtq=>tM o.dst v te λte=>AX cf n ops (i+1) r bs (qB kn o.dst) tq te h' h' (acc++[⟨i,o,b,true,.dS,v,tp,hb,h'⟩]) k
    |.pure=>Dg P lM o tp hb λv _=>tM o.dst v tp λtq=>tM o.dst v te λte=>AX cf n ops (i+1) r bs (qB kn o.dst) tq te hb h (acc++[⟨i,o,b,true,.pure,v,tp,hb,hb⟩]) k
    |.read=>Dg P lM o tp hb λv _=>tM o.dst v tp λtq=>tM o.dst v te λte=>AX cf n ops (i+1) r bs (qB kn o.dst) tq te hb h (acc++[⟨i,o,b,true,.read,v,tp,hb,hb⟩]) k
   let skip:List (Nat×AV)->Tm->R:=λkn tp=>tM o.dst bS tp λtq=>tM o.dst bS te λte=>AX cf n ops (i+1) r bs (NM kn o.dst) tq te hb h (acc++[⟨i,o,b,false,.pure,bS,tp,hb,hb⟩]) k
   match o.guard with
   |none=>go kn tp|some (j,want)=>match (ops[j]?).bind (·.dst) with
    |none=>skip kn tp|some d=>match yb kn d with
     |some c=>(match wv want c with|some true=>go kn tp|some false=>skip kn tp|none=>none)|none=>jj ((tp.get d).getD bS) want (tM (some d) (.bool want) tp λtp=>go ((d,.bool want)::kn) tp) (tM (some d) (.bool !want) tp λtp=>skip ((d,.bool !want)::kn) tp)
  |false=>none
theorem ama (cf:CF)(n:Nat)(ops:Array Oper):∀(l:List Oper) (i:Nat) (bs:List Nat) (kn:List (Nat×AV)) (tp te:Tm) (hb h:Hp) (acc:List me) (k:KN),
  AX P cf n ops i l bs kn tp te hb h acc k=mD P cf n ops i l bs kn tp te hb h acc k
 |[],i,bs,kn,tp,te,hb,h,acc,k=>by unfold AX mD;rfl
 |o::l,i,[],kn,tp,te,hb,h,acc,k=>by unfold AX mD;rfl
 |o::l,i,b::bs,kn,tp,te,hb,h,acc,k=>by unfold AX mD;simp only[ajs,aeY,ama cf n ops l];cases yR n o.dst<;>rfl
def aas (G:GT):u6:=λcf n ops d t H k=>match d with
 |true=>(match AL ops with|true=>FT t λt=>AX P cf n ops 0 ops.toList (before ops.toList []) [] t t H H [] k|false=>none)|false=>FT t λt=>K1 P G cf n ops ops.toList t H k
theorem aHG:aas P GO=vU P:=by
 funext cf n ops d t H k;unfold aas vU;cases d with
 |false=>simp only[cond_false,Ix,aom]|true=>
  simp only[cond_true];cases AL ops<;>simp only[cond_true,cond_false,Ix,ama]
def codeF (J:JT)(G:GT)(cf:CF)(n:Nat):Code->An->KN->(Nat->KN)->KN->KN
 |.skip,_,kn,_,_=>kn|.label _,_,kn,_,_=>kn|.seq a b,an,kn,ke,kr=>match an with
  |.sq none x y=>codeF J G cf n a x (codeF J G cf n b y kn ke kr) ke kr|.sq (some lv) x y=>λt H=>J lv.length (λk=>codeF J G cf n a x (λt H=>app lv.length k (aI lv t) H) ke kr t H) (abs lv.length λl H=>codeF J G cf n b y kn ke kr (cU n lv l) H)
  |.pr lv p=>λt H=>B1 (p t H) λH=>kn (cU n lv (aI lv t)) H
  |_=>λ_ _=>none
 |.cond c a b,an,kn,ke,kr=>match an with
  |.cd x y=>λt H=>CD (ev P.globals.size t c) (codeF J G cf n a x kn ke kr t H) (codeF J G cf n b y kn ke kr t H)
  |_=>λ_ _=>none
 |.block i b,an,kn,ke,kr=>match an with
  |.bl none x=>codeF J G cf n b x kn (λj t H=>match Nat.beq j i with|true=>kn t H|false=>ke j t H) kr|.bl (some lv) x=>λt H=>J lv.length (λk=>codeF J G cf n b x (λt H=>app lv.length k (aI lv t) H) (λj t H=>match Nat.beq j i with|true=>app lv.length k (aI lv t) H|false=>ke j t H) kr t H) (abs lv.length λl H=>kn (cU n lv l) H)
  |_=>λ_ _=>none
 |.loop b,an,kn,ke,kr=>match an with
  |.lp lv x=>λt H=>app lv.length (LP lv.length (λk=>abs lv.length λl H=>codeF J G cf n b x (λt H=>app lv.length k (aI lv t) H) ke kr (cU n lv l) H)) (aI lv t) H
  |_=>λ_ _=>none
 |.exit i,_,_,ke,_=>ke i|.ret,_,_,_,kr=>kr|.region _ ops d,_,kn,_,_=>λt H=>aas P G cf n ops d t H kn
 |_,_,_,_,_=>λ_ _=>none
theorem asB {α:Type}(b:Bool)(x y:α):(match b with|true=>x|false=>y)=bif b then x else y:=by cases b<;>rfl
theorem codeF_eq (cf:CF)(n:Nat):∀(c:Code) (an:An) (kn:KN) (ke:Nat->KN) (kr:KN),codeF P JN GO cf n c an kn ke kr=bE P (vU P) cf n c an kn ke kr:=by
 intro c;induction c with
 |seq a b ia ib=>
  intro an kn ke kr;unfold codeF bE;cases an with
  |sq j x y=>cases j<;>simp only[ia,ib]|_=>rfl
 |cond q a b ia ib=>
  intro an kn ke kr;unfold codeF bE;cases an with
  |cd x y=>simp only[ia,ib]|_=>rfl
 |block i b ib=>
  intro an kn ke kr;unfold codeF bE;cases an with
  |bl j x=>cases j<;>simp only[ib,asB]|_=>rfl
 |loop b ib=>
  intro an kn ke kr;unfold codeF bE;cases an with
  |lp lv x=>simp only[ib]|_=>rfl
 |region id ops d=>
  intro an kn ke kr;unfold codeF bE;rw[aHG]
 |_=>intro an kn ke kr;unfold codeF bE;rfl
def aet (J:JT)(G:GT)(cf:CF)(fn:Func)(an:An)(b:Code)(args:List AV)(H:Hp):R:=
 codeF P J G cf fn.ntmps b an (λt H=>FD P t H fn.results.toList) (λ_ _ _=>none) (λt H=>FD P t H fn.results.toList) (N7 fn.ntmps args) H
def DV (J:JT)(G:GT)(bH:Nat->Option Prim)(an:Nat->An)(cf:CF)(aU:Nat)(args:List AV)(H:Hp):R:=
 match bH aU with
 |some _=>none|none=>match P.funcs[aU]? with
  |some fn=>match fn.body with
   |some b=>match Nat.ble args.length fn.ntmps&&Nat.blt fn.ntmps 4294967296&&(an aU).ok fn.ntmps with
    |true=>aet P J G cf fn (an aU) b args H|false=>none
   |none=>none
  |none=>none
def M7 (J:JT)(G:GT)(cf:CF)(n:Nat)(b:Code)(x:An)(lv:List Nat)(ke:Nat->KN)(kr:KN):Fn lv.length:=
 LP lv.length (λk=>abs lv.length λl H=>codeF P J G cf n b x (λt H=>app lv.length k (aI lv t) H) ke kr (cU n lv l) H)
end
variable {P:Program}{ext:Nat->Option Ext}{bH:Nat->Option Prim}{an:Nat->An}
theorem vY {aU:Nat}{first args cap:List AV}{H:Hp}{r:AV×Hp}(h:DV P JN GO bH an (CK P (vU P) ext bH an) aU (first++args++cap) H=some r):CK P (vU P) ext bH an (.func (.func aU) first cap) args H=some r:=by
 refine Y3 Qx ?_;unfold DV at h;unfold AB;simp only;split at h;·cases h
 ·rename_i hp;rw[hp];simp only;split at h
  ·rename_i fn hf;rw[hf];simp only;split at h
   ·rename_i b hb;rw[hb];simp only;split at h;·rename_i hc;rw[hc];unfold aet at h;rw[codeF_eq] at h;exact h
    ·cases h
   ·cases h
  ·cases h
theorem aDK (cf:CF)(n:Nat)(b:Code)(x:An)(lv:List Nat)(ke:Nat->KN)(kr:KN)(l:List AV)(hl:l.length=lv.length)(H:Hp):
  app lv.length (M7 P JN GO cf n b x lv ke kr) l H=codeF P JN GO cf n b x (λt H=>app lv.length (M7 P JN GO cf n b x lv ke kr) (aI lv t) H) ke kr (cU n lv l) H:=by
 have h:M7 P JN GO cf n b x lv ke kr=Sv P (vU P) cf n b x lv ke kr:=by unfold M7 Sv;simp only[codeF_eq]
 rw[h,codeF_eq];exact av6 Qx cf n b x lv ke kr l hl H
end
abbrev An.n (x:An):An:=.sq none .nl x
abbrev An.q (x y:An):An:=.sq none x y
abbrev An.s (l:List Nat)(x y:An):An:=.sq (some l) x y
abbrev An.t (l:List Nat)(y:An):An:=.sq (some l) .nl y
abbrev An.b (x:An):An:=.bl none x
abbrev An.v (l:List Nat)(x:An):An:=.bl (some l) x
def DZ:An->List Nat->An
 |x,[]=>x|.sq _ a b,i::r=>match i with|0=>DZ a r|_=>DZ b r
 |.cd a b,i::r=>match i with|0=>DZ a r|_=>DZ b r
 |.bl _ a,_::r=>DZ a r|.lp _ a,_::r=>DZ a r|x,_::_=>x
noncomputable section
variable (P:Program)(an:Nat->An)
def CW (J:JT)(G:GT)(cf:CF)(f:Nat)(path lv:List Nat)(ke:Nat->KN):Fn lv.length:=M7 P J G cf (nT P f) (atC P f path) (DZ (an f) path) lv ke (ae5 P f)
def xa (J:JT)(G:GT)(cf:CF)(f:Nat)(path lv:List Nat)(ke:Nat->KN)(k:Fn lv.length)(l:List AV)(H:Hp):R:=
 codeF P J G cf (nT P f) (atC P f path) (DZ (an f) path) (λt H=>app lv.length k (aI lv t) H) ke (ae5 P f) (cU (nT P f) lv l) H
end
theorem xj {P:Program}{an:Nat->An}(cf:CF)(f:Nat)(path lv:List Nat)(ke:Nat->KN)(l:List AV)(hl:l.length=lv.length)(H:Hp):
  app lv.length (CW P an JN GO cf f path lv ke) l H=xa P an JN GO cf f path lv ke (CW P an JN GO cf f path lv ke) l H:=aDK cf _ _ _ lv ke _ l hl H
end K
end
section
variable {P:Program}{G:Nat}{F:Nat->Prop}{W:World}{e:Em}{H:Hp}{w:World}
theorem aJj (w:World)(ty:TypeId)(r bm since:Nat)(seen:Array Nat)(es:Array MapEntry)(hr:w.heap[r]?=some (.mapIter (some bm) since seen since))(hb:w.heap[bm]?=some (.map es since))(hold:∀x∈es.toList,x.born<since):
  ((leftOf es seen).size=0/\(Instr.next (.pointer (some ⟨r,0,none⟩)) false ty).run P w=.ok (.tuple #[.bool false]) w)\/
  ∃x∈(leftOf es seen).toList,∃n,(Instr.next (.pointer (some ⟨r,0,none⟩)) false ty).run P w=.ok (.tuple #[.bool true,x.key,x.val]) {w with drawn:=n,heap:=w.heap.setIfInBounds r (.mapIter (some bm) since (seen.push x.born) since)}:=by
 simp only[Instr.next,Go.getObj,Sem.run_bind,Sem.run,hr,hb,Result.andThen,next_test_false seen es since since hold (aaO _),aa8,if_false];unfold leftOf;have rP:∀x∈(Array.filter (λe=>!seen.contains e.born) es).toList,x.born<since:=λx hx=>hold x (by simp at hx⊢;exact hx.1);generalize Array.filter (λe=>!seen.contains e.born) es=L at rP⊢;have e1:L.filter (λx=>decide (x.born<since))=L:=Array.filter_eq_self.2 (λx hx=>by simpa using rP x (by simpa using hx));have e2:L.filter (λx=>decide (x.born ≥ since))=#[]:=by rw[Array.filter_eq_empty_iff];intro x hx;have:=rP x (by simpa using hx);simp;omega
 simp only[e1,e2,Array.append_empty];by_cases h0:L.size=0;·left;have:L=#[]:=Array.eq_empty_of_size_eq_zero h0;subst this;refine⟨rfl,?_⟩;simp[choose,Sem.run,Question.forced]
 ·right;have aF:L.isEmpty=false:=by simp[Array.isEmpty,h0]
  simp only[aF,aa8,if_false,Array.empty_append,Array.size_map];have hch:∃(j:Nat) (n:Nat),j<L.size/\(choose (Question.mapNext L.size)).run P w=.ok j {w with drawn:=n}:=by
   by_cases hf:L.size<=1;·exact⟨0,w.drawn,zzz,by simp[choose,Sem.run,Question.forced,hf]⟩
   ·exact⟨_,_,amP _ zzz,by simp only[choose,Sem.run,Question.forced,zz5,hf,if_false,Question.cut];rfl⟩
  obtain⟨j,n,hj,mK⟩:=hch;refine⟨L[j],zzy,n,?_⟩;have fY:∀(o':Obj),(Go.setObj r o').run P {w with drawn:=n}=Result.ok () {w with drawn:=n,heap:=w.heap.setIfInBounds r o'}:=λo'=>by simp only[Go.setObj,Sem.run,hr]
  simp only[mK,Array.getElem?_map,ahi hj,adX,Sem.run_bind,fY,Result.andThen];rfl
theorem aIJ (w:World)(r bm since:Nat)(seen:Array Nat)(es:Array MapEntry)(x:MapEntry)(hr:w.heap[r]?=some (.mapIter (some bm) since (seen.push x.born) since))(hb:w.heap[bm]?=some (.map es since))(he:x∈es.toList)(hn:(es.toList.map (·.born)).Nodup):
  (Instr.entry (.pointer (some ⟨r,0,none⟩))).run P w=.ok (.tuple #[x.key,x.val]) w:=by
 have hf:es.find? (·.born==x.born)=some x:=by rw[<-Array.find?_toList];exact find_born x es.toList hn he
 simp only[Instr.entry,Go.getObj,Sem.run_bind,Sem.run,hr,hb,Result.andThen,Array.back?_push,bne_self_eq_false,aa8,if_false,hf];rfl
theorem RH.aJb (h:RH G F W e H w){r:Nat}(o:Obj)(hF:¬F r)(hr:∀i a,H.h.get i=some a->e.b i≠r)(n:Nat):RH G F W e H {w with drawn:=n,heap:=w.heap.setIfInBounds r o}:=by
 refine⟨h.N,λi a hi=>?_,h.inj,h.uH,λk hk=>?_,h.os,h.tape,h.output,by simp only[Array.size_setIfInBounds];exact h.size,by simp only[Array.size_setIfInBounds];exact h.ou⟩;·obtain⟨h1,ob,h2,h3,h4⟩:=h.obj i a hi;exact⟨h1,ob,by simp only;rw[afv (λq=>hr i a hi q.symm)];exact h2,h3,h4⟩
 ·obtain⟨h1,h2⟩:=h.frame k hk;exact⟨by simp only[Array.size_setIfInBounds];exact h1,by simp only;rw[afv (λq=>by subst q;exact hF hk)];exact h2⟩
theorem jG.perm {e:Em}{a b:List ME}(hp:a.Perm b):∀{fs:List MapEntry},jG e a fs->∃Up,Up.Perm fs/\jG e b Up:=by
 induction hp with
 |nil=>intro fs h;exact⟨fs,List.Perm.refl _,h⟩|@cons x l l' hp ih=>
  intro fs h;cases fs with
  |nil=>have:=h.1;simp at this|cons y fs=>
   obtain⟨Up,h1,h2⟩:=ih (fs:=fs) ⟨by simpa using h.1,λi m m' hm oa=>h.2 (i+1) m m' (by simpa using hm) (by simpa using oa)⟩;refine⟨y::Up,h1.cons y,by simp[h2.1],λi m m' hm oa=>?_⟩;cases i with
   |zero=>simp at hm oa;subst hm;subst oa;exact h.2 0 x y rfl rfl|succ i=>exact h2.2 i m m' (by simpa using hm) (by simpa using oa)
 |swap x y l=>
  intro fs h
  match fs,h with
  |[],h=>have:=h.1;simp at this|[_],h=>have:=h.1;simp at this|u::v::fs,h=>
   refine⟨v::u::fs,List.Perm.swap _ _ _,by have:=h.1;simpa using this,λi m m' hm oa=>?_⟩
   match i with
   |0=>simp at hm oa;subst hm;subst oa;exact h.2 1 x v rfl rfl|1=>simp at hm oa;subst hm;subst oa;exact h.2 0 y u rfl rfl|i+2=>exact h.2 (i+2) m m' (by simpa using hm) (by simpa using oa)
 |trans _ _ i1 i2=>
  intro fs h;obtain⟨f1,a1,b1⟩:=i1 h;obtain⟨f2,a2,b2⟩:=i2 b1;exact⟨f2,a2.trans a1,b2⟩
end
namespace K
def tg (t:Tm)(d:Nat):AV:=(t.get d).getD bS
def Ig:List ME->Bool
 |[]=>true|m::r=>(match m.key with|.str k=>r.all (λx=>match x.key with|.str q=>!(q==k)|_=>false)|_=>false)&&Ig r
def wm:Nat->List ME->List ME
 |_,[]=>[]|c,m::r=>⟨m.key,m.val,c⟩::wm (c+1) r
theorem apM:∀(l:List ME) (c:Nat) (m:ME),wm c (l++[m])=wm c l++[⟨m.key,m.val,c+l.length⟩]
 |[],c,m=>rfl|x::l,c,m=>by show _::wm (c+1) (l++[m])=_;rw[apM l (c+1) m,aaP,show c+1+l.length=c+(l.length+1) by omega];rfl
theorem aAx:∀(l:List ME) (c:Nat) (x:ME),x∈wm c l->∃m∈l,x.key=m.key
 |[],c,x,h=>by cases h
 |m::l,c,x,h=>by
  rcases aaD.1 h with rfl|h;·exact⟨m,.head _,rfl⟩
  ·obtain⟨y,h1,h2⟩:=aAx l (c+1) x h;exact⟨y,.tail _ h1,h2⟩
theorem P1:∀(l:List ME) (c:Nat),(wm c l).length=l.length
 |[],_=>rfl|m::l,c=>by show (wm (c+1) l).length+1=_;rw[P1 l (c+1)];rfl
theorem ace:∀(l:List ME) (c i:Nat) (x:ME),(wm c l)[i]?=some x->∃m,l[i]?=some m/\x.key=m.key/\x.val=m.val
 |[],c,i,x,h=>by simp[wm] at h
 |m::l,c,0,x,h=>by have:some (⟨m.key,m.val,c⟩:ME)=some x:=h;cases this;exact⟨m,rfl,rfl,rfl⟩
 |m::l,c,i+1,x,h=>ace l (c+1) i x h
theorem aKb {e:Em}{l:List ME}{fs:List MapEntry}(c:Nat):jG e (wm c l) fs↔jG e l fs:=by
 constructor
 ·intro h;refine⟨by rw[h.1,P1],λi m m' hm oa=>?_⟩;have hi:i<(wm c l).length:=by rw[P1];exact (aag.1 hm).1
  obtain⟨y,h1,h2,h3⟩:=ace l c i _ (aaC hi);rw[hm] at h1;cases h1;have:=h.2 i _ m' (aaC hi) oa;rw[h2,h3] at this;exact this
 ·intro h;refine⟨by rw[h.1,P1],λi m m' hm oa=>?_⟩;obtain⟨y,h1,h2,h3⟩:=ace l c i _ hm;have:=h.2 i y m' h1 oa;rw[h2,h3];exact this
def Rq (a b:ME):Prop:=∃k q,a.key=.str k/\b.key=.str q/\q≠k
theorem Rq.symm {a b:ME}(h:Rq a b):Rq b a:=by obtain⟨k,q,h1,h2,h3⟩:=h;exact⟨q,k,h2,h1,λe=>h3 e.symm⟩
theorem art:∀{l:List ME},Ig l=true->l.Pairwise Rq/\∀m∈l,∃k,m.key=.str k
 |[],_=>⟨.nil,λm h=>by cases h⟩|m::l,h=>by
  unfold Ig at h;rw[aaM] at h;obtain⟨h1,h2⟩:=h;obtain⟨a,b⟩:=art h2;split at h1
  ·rename_i k hk;refine⟨List.pairwise_cons.2 ⟨λx hx=>?_,a⟩,λx hx=>?_⟩
   ·have:=acT.1 h1 x hx;split at this;·rename_i q hq;exact⟨k,q,hk,hq,by simpa using this⟩
    ·cases this
   ·rcases aaD.1 hx with rfl|hx;·exact⟨k,hk⟩
    ·exact b x hx
  ·cases h1
def Wv (k:Nat)(c f:AV)(H:Hp):Option Hp:=
 match c,f with
 |.ptr ci co,.ptr fi fo=>
  match cellAt H ci (co+k),cellAt H fi (fo+k) with
  |some (.map cm),some (.map fm)=>
   match H.h.get cm,H.h.get fm with
   |some (.map [] q),some (.map es _)=>bif Ig es&&!(Nat.beq cm fm) then some ⟨H.h.cW cm (.map (wm q es) (q+es.length)),H.next+1⟩ else none
   |_,_=>none
  |_,_=>none
 |_,_=>none
def aJF (k c f:Nat):Tm->Hp->Option Hp:=λt H=>Wv k (tg t c) (tg t f) H
theorem aJZ {k:Nat}{c f:AV}{H H2:Hp}(h:Wv k c f H=some H2):∃ci co fi fo cm fm q es z,c=.ptr ci co/\f=.ptr fi fo/\cellAt H ci (co+k)=some (.map cm)/\cellAt H fi (fo+k)=some (.map fm)/\H.h.get cm=some (.map [] q)/\H.h.get fm=some (.map es z)/\Ig es=true/\cm≠fm/\
  H2=⟨H.h.cW cm (.map (wm q es) (q+es.length)),H.next+1⟩:=by
 unfold Wv at h;split at h
 ·rename_i ci co fi fo;split at h
  ·rename_i cm fm h1 h2;split at h
   ·rename_i q es z h3 h4;cases hb:(Ig es&&!(Nat.beq cm fm)) with
    |false=>rw[hb] at h;cases h
    |true=>
     rw[hb] at h;rw[aaM] at hb;refine⟨ci,co,fi,fo,cm,fm,q,es,z,rfl,rfl,h1,h2,h3,h4,hb.1,λe=>?_,(acd h).symm⟩;subst e;have:=hb.2;rw[ait] at this;cases this
   ·cases h
  ·cases h
 ·cases h
section
variable {P:Program}{F:Nat->Prop}{W:World}{e:Em}{H:Hp}{w:World}
section
variable {Q:Exit->Act->World->Prop}{a:Act}{cf:CF}{dst:Option Tmp}{i:Nat}{it:Operand}{o:Oper}{ops:Array Oper}{rest:List Nat}{t':Tm}{v':Value}{w':World}{σ:Operand->Value}
theorem pJ.put {n:Nat}{t:Tm}(h:pJ e n t a){v:AV}(hp:je n dst v t=some t')(hv:VR e v v'):pJ e n t' (a.put dst v'):=by
 refine⟨h.1.put hp hv,λd hd=>?_⟩;unfold je at hp;split at hp;·cases hp;exact h.2 d hd
 ·rename_i x;cases hb:(Nat.blt x n&&Nat.blt x 4294967296) with
  |false=>rw[hb] at hp;cases hp
  |true=>
   rw[hb] at hp;cases hp;simp only[aaM,adW] at hb;rw[Tr.OI _ _ _ _ _ zzz,zz1 zzz];exact h.2 d hd
theorem pJ.mono {e':Em}(h:e.le e'){n:Nat}{t:Tm}(k:pJ e n t a):pJ e' n t a:=⟨k.1.mono h,k.2⟩
theorem aJl (iZ:xN P cf)(hi:ops[i]?=some o)(hg:o.guard=none){n:Nat}{t:Tm}{H':Hp}{v:AV}(ho:vL P cf t o H=some (v,H'))(hp:je n o.dst v t=some t')
  (hR:RH P.globals.size F W e H w) (hT:pJ e n t a) (hn:∀e' a' w',e.le e'->RH P.globals.size F W e' H' w'->pJ e' n t' a'->a'.defers=a.defers->wpOps P ops Q rest a' w'):wpOps P ops Q (i::rest) a w:=by
 have hw:sO ops o t=some true:=by unfold sO;rw[hg]
 simp only[wpOps,hi,QK (e:=e) (a:=a) hw (λd _=>hT.1.val d),if_true];left;exact M4 iZ hR ho (λx _=>VR.ev hR hT.1 x) λe' v' w' he bp hv=>hn e' _ w' he bp ((hT.mono he).put hp hv) (by cases o.dst<;>rfl)
theorem aJd (hi:ops[i]?=some o)(hg:o.guard=none)
  (hx:(execOp a.eval o).run P w=.ok (.value v') w') (hn:wpOps P ops Q rest (a.put o.dst v') w'):wpOps P ops Q (i::rest) a w:=by
 have hw:Region.wanted o (yielded ops a.tmps)=true:=by unfold Region.wanted;simp[hg]
 simp only[wpOps,hi,hw,if_true];left;unfold Oper.wp;rw[hx];exact hn
theorem aI1 (ho:o.op=.next it false)(h:(Instr.next (σ it) false o.type).run P w=.ok v' w'):(execOp σ o).run P w=.ok (.value v') w':=by unfold execOp;rw[ho];simp[h]
theorem aJP (ho:o.op=.entry it)(h:(Instr.entry (σ it)).run P w=.ok v' w'):(execOp σ o).run P w=.ok (.value v') w':=by unfold execOp;rw[ho];simp[h]
theorem aJC {ty:TypeId}{x:Operand}(ho:o.op=.range ty x)(h:(Instr.range ty (σ x)).run P w=.ok v' w'):(execOp σ o).run P w=.ok (.value v') w':=by unfold execOp;rw[ho];simp[h]
end
end
end K
end Go.Proofs.YtodfajmihkagnaaGreatDoor.Am
