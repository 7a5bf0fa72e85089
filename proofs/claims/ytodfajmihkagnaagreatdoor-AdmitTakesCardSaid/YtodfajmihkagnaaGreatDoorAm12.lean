/- Regions with continuations, and loops (of no program). -/
import Derived.Test.YtodfajmihkagnaaGreatDoorAm11
import Derived.Laws.IdiomRangeMap
set_option linter.unusedVariables false
set_option linter.unusedSimpArgs false
namespace Go.Proofs.YtodfajmihkagnaaGreatDoor.Am
section
section
section
set_option linter.unusedVariables false
set_option linter.unusedSimpArgs false
namespace K
section
variable (P:Program)
def uu (n:Nat)(dst:Option Tmp):Bool:=match dst with | none=>true | some d=>Nat.blt d n&&Nat.blt d 4294967296
def gE (dst:Option Tmp)(v:AV)(t:Tm):Tm:=match dst with | none=>t | some d=>t.put 34 d v
def gv (ops:Array Oper)(j:Nat)(t:Tm):AV:=match (ops[j]?).bind (·.dst) with | none=>bK | some d=>(t.get d).getD bK
def wv (want:Bool)(g:AV):Option Bool:=match g with | .bool b=>some (b==want) | .cU=>none | _=>some false
def GO (g:AV)(want:Bool)(f:(AV->Hp->R)->R)(k:AV->Hp->R)(H:Hp):R:=match wv want g with | some true=>f k | some false=>k bK H | none=>none
def SM (a b:AV)(x:R):R:=bif same a b then x else none
def uG (cf:CF)(n:Nat)(ops:Array Oper):List Oper->Tm->Hp->KN->R
 | [],t,H,k=>k t H
 | o::r,t,H,k=>bif uu n o.dst then (match o.guard with
   | none=>eh P cf o t H fun v H=>uG cf n ops r (gE o.dst v t) H k
   | some (j,want)=>GO (gv ops j t) want (fun k'=>eh P cf o t H k') (fun v H=>uG cf n ops r (gE o.dst v t) H k) H) else none
def hU:CF:=fun _ _ _=>none
def nQ (s:jB)(x:R):List jB->R
 | []=>x
 | r::l=>match r.k with
  | .pure=>nQ s x l
  | .read=>bif Nat.blt r.i s.i then (bif s.b.testBit r.i then nQ s x l else eh P hU r.o r.t s.ha fun v _=>SM r.v v (nQ s x l))
    else (bif r.b.testBit s.i then nQ s x l else eh P hU r.o r.t s.hb fun v _=>SM r.v v (nQ s x l))
  | _=>bif !(Nat.blt r.i s.i)||s.b.testBit r.i then nQ s x l else none
def vn (all:List jB)(x:R):List jB->R
 | []=>x
 | s::l=>match s.k with
  | .db=>nQ P s (vn all x l) all
  | _=>vn all x l
def tH:List (Nat × AV)->Nat->Option AV
 | [],_=>none
 | (e,v)::r,d=>bif Nat.beq e d then some v else tH r d
def ns:List (Nat × AV)->Option Tmp->List (Nat × AV)
 | kn,none=>kn
 | [],some _=>[]
 | (e,v)::r,some d=>bif Nat.beq e d then ns r (some d) else (e,v)::ns r (some d)
def GJ (kn:List (Nat × AV)):Option Tmp->List (Nat × AV)
 | none=>kn
 | some d=>(d,bK)::ns kn (some d)
def rF (g:AV)(want:Bool)(x y:R):R:=match g with | .bool b=>bif b==want then x else y | _=>none
def ko (cf:CF)(n:Nat)(ops:Array Oper):Nat->List Oper->List Nat->List (Nat × AV)->Tm->Tm->Hp->Hp->List jB->KN->R
 | _,[],_,_,_,te,_,h,acc,k=>vn P acc (k te h) acc
 | _,_::_,[],_,_,_,_,_,_,_=>none
 | i,o::r,b::bs,kn,tp,te,hb,h,acc,k=>bif uu n o.dst then
   let go:List (Nat × AV)->Tm->R:=fun kn tp=>match kd P o with
    | .late=>eh P hU o te h fun v h'=>ko cf n ops (i+1) r bs (ns kn o.dst) (gE o.dst .cU tp) (gE o.dst v te) hb h' (acc++[⟨i,o,b,true,.late,v,tp,hb,hb⟩]) k
    | .db=>eh P cf o te h fun v h'=>ko cf n ops (i+1) r bs (ns kn o.dst) (gE o.dst v tp) (gE o.dst v te) h' h' (acc++[⟨i,o,b,true,.db,v,tp,hb,h'⟩]) k
    | .pure=>eh P hU o tp hb fun v _=>ko cf n ops (i+1) r bs (ns kn o.dst) (gE o.dst v tp) (gE o.dst v te) hb h (acc++[⟨i,o,b,true,.pure,v,tp,hb,hb⟩]) k
    | .read=>eh P hU o tp hb fun v _=>ko cf n ops (i+1) r bs (ns kn o.dst) (gE o.dst v tp) (gE o.dst v te) hb h (acc++[⟨i,o,b,true,.read,v,tp,hb,hb⟩]) k
   let skip:List (Nat × AV)->Tm->R:=fun kn tp=>ko cf n ops (i+1) r bs (GJ kn o.dst) (gE o.dst bK tp) (gE o.dst bK te) hb h (acc++[⟨i,o,b,false,.pure,bK,tp,hb,hb⟩]) k
   match o.guard with
   | none=>go kn tp
   | some (j,want)=>match (ops[j]?).bind (·.dst) with
    | none=>skip kn tp
    | some d=>match tH kn d with
     | some c=>(match wv want c with | some true=>go kn tp | some false=>skip kn tp | none=>none)
     | none=>rF ((tp.get d).getD bK) want (go ((d,.bool want)::kn) (gE (some d) (.bool want) tp)) (skip ((d,.bool !want)::kn) (gE (some d) (.bool !want) tp))
  else none
def rZ:qS:=fun cf n ops d t H k=>bif d then (bif u9 ops then ko P cf n ops 0 ops.toList (before ops.toList []) [] t t H H [] k else none) else uG P cf n ops ops.toList t H k
end
section
variable {P:Program}
theorem Bb {n:Nat}{dst:Option Tmp}{v:AV}{t:Tm}(h:uu n dst=true):gI n dst v t=some (gE dst v t):=by
 unfold gI gE
 cases dst with
 | none=>rfl
 | some d=>
  have h':(Nat.blt d n&&Nat.blt d 4294967296)=true:=h
  simp only[h',cond_true]
theorem YG {ops:Array Oper}{o:Oper}{t:Tm}{j:Nat}{want:Bool}(h:o.guard=some (j,want)):oQ ops o t=wv want (gv ops j t):=by
 unfold oQ gv
 rw[h]
 simp only
 cases (ops[j]?).bind (·.dst) with
 | none=>rfl
 | some d=>
  simp only
  cases t.get d with
  | none=>rfl
  | some a=>cases a<;>rfl
theorem Rl {cf:CF}{n:Nat}{ops:Array Oper}:∀ (l:List Oper) (t:Tm) (H:Hp) (k:KN) (r:AV × Hp),uG P cf n ops l t H k=some r->∃ t' H',rS P cf n ops l t H=some (t',H')/\k t' H'=some r
 | [],t,H,k,r,h=>⟨t,H,rfl,h⟩
 | o::l,t,H,k,r,h=>by
  unfold uG at h
  cases hd:uu n o.dst with
  | false=>rw[hd] at h;cases h
  | true=>
   rw[hd] at h
   simp only[cond_true] at h
   have run:∀ (v:AV) (H':Hp),pB P cf t o H=some (v,H')->oQ ops o t=some true->uG P cf n ops l (gE o.dst v t) H' k=some r->∃ t' H',rS P cf n ops (o::l) t H=some (t',H')/\k t' H'=some r:=by
    intro v H' h1 h2 h3
    obtain⟨t2,H2,q1,q2⟩:=Rl l _ _ k r h3
    refine⟨t2,H2,?_,q2⟩
    unfold rS
    rw[h2]
    simp only[h1,Bb hd]
    exact q1
   cases hg:o.guard with
   | none=>
    rw[hg] at h
    obtain⟨v,H',h1,h2⟩:=Jp h
    exact run v H' h1 (by unfold oQ;rw[hg]) h2
   | some p=>
    obtain⟨j,want⟩:=p
    rw[hg] at h
    simp only at h
    unfold GO at h
    rw[<-YG (o:=o) hg] at h
    cases hw:oQ ops o t with
    | none=>rw[hw] at h;cases h
    | some b=>
     rw[hw] at h
     cases b with
     | true=>
      simp only at h
      obtain⟨v,H',h1,h2⟩:=Jp h
      exact run v H' h1 hw h2
     | false=>
      simp only at h
      obtain⟨t2,H2,q1,q2⟩:=Rl l _ _ k r h
      refine⟨t2,H2,?_,q2⟩
      unfold rS
      rw[hw]
      simp only[Bb hd]
      exact q1
theorem K7 {o:Oper}{t:Tm}{H:Hp}{k:AV->Hp->R}{r:AV × Hp}(h:eh P hU o t H k=some r):∃ v H',il P (ev P.globals.size t) o H=some (v,H')/\k v H'=some r:=by
 obtain⟨v,H',h1,h2⟩:=Jp h
 refine⟨v,H',?_,h2⟩
 unfold pB at h1
 split at h1
 ·cases h1
 ·exact h1
theorem yB {s:jB}{x:R}{r:AV × Hp}:∀ (l:List jB),nQ P s x l=some r->(l.all fun q=>match q.k with
   | .db | .late => !(Nat.blt q.i s.i)||s.b.testBit q.i
   | .read=>bif Nat.blt q.i s.i then s.b.testBit q.i||sQ P q s.ha else q.b.testBit s.i||sQ P q s.hb
   | .pure=>true)=true/\x=some r
 | [],h=>⟨rfl,h⟩
 | q::l,h=>by
  unfold nQ at h
  rw[List.all_cons,aaG]
  have rd:∀ (Hx:Hp),(eh P hU q.o q.t Hx fun v _=>SM q.v v (nQ P s x l))=some r->sQ P q Hx=true/\nQ P s x l=some r:=by
   intro Hx hx
   obtain⟨v,H',h1,h2⟩:=K7 hx
   unfold SM at h2
   cases hs:same q.v v with
   | false=>rw[hs] at h2;cases h2
   | true=>
    rw[hs] at h2
    refine⟨?_,h2⟩
    unfold sQ
    rw[h1]
    exact hs
  cases hk:q.k with
  | pure=>
   rw[hk] at h
   obtain⟨a,b⟩:=yB l h
   exact⟨⟨rfl,a⟩,b⟩
  | read=>
   rw[hk] at h
   simp only at h ⊢
   cases hb:Nat.blt q.i s.i with
   | true=>
    rw[hb] at h
    simp only[cond_true] at h ⊢
    cases ht:s.b.testBit q.i with
    | true=>
     rw[ht] at h
     obtain⟨a,b⟩:=yB l h
     exact⟨⟨rfl,a⟩,b⟩
    | false=>
     rw[ht] at h
     obtain⟨c,d⟩:=rd _ h
     obtain⟨a,b⟩:=yB l d
     exact⟨⟨by rw[c];rfl,a⟩,b⟩
   | false=>
    rw[hb] at h
    simp only[cond_false] at h ⊢
    cases ht:q.b.testBit s.i with
    | true=>
     rw[ht] at h
     obtain⟨a,b⟩:=yB l h
     exact⟨⟨rfl,a⟩,b⟩
    | false=>
     rw[ht] at h
     obtain⟨c,d⟩:=rd _ h
     obtain⟨a,b⟩:=yB l d
     exact⟨⟨by rw[c];rfl,a⟩,b⟩
  | late=>
   rw[hk] at h
   simp only at h ⊢
   cases hb:(!(Nat.blt q.i s.i)||s.b.testBit q.i) with
   | false=>rw[hb] at h;cases h
   | true=>
    rw[hb] at h
    obtain⟨a,b⟩:=yB l h
    exact⟨⟨rfl,a⟩,b⟩
  | db=>
   rw[hk] at h
   simp only at h ⊢
   cases hb:(!(Nat.blt q.i s.i)||s.b.testBit q.i) with
   | false=>rw[hb] at h;cases h
   | true=>
    rw[hb] at h
    obtain⟨a,b⟩:=yB l h
    exact⟨⟨rfl,a⟩,b⟩
theorem HC {all:List jB}{x:R}{r:AV × Hp}:∀ (l:List jB),vn P all x l=some r->(l.all fun s=>match s.k with
  | .db=>all.all fun q=>match q.k with
   | .db | .late => !(Nat.blt q.i s.i)||s.b.testBit q.i
   | .read=>bif Nat.blt q.i s.i then s.b.testBit q.i||sQ P q s.ha else q.b.testBit s.i||sQ P q s.hb
   | .pure=>true
  | _=>true)=true/\x=some r
 | [],h=>⟨rfl,h⟩
 | s::l,h=>by
  unfold vn at h
  rw[List.all_cons,aaG]
  cases hk:s.k with
  | db=>
   rw[hk] at h
   obtain⟨a,b⟩:=yB all h
   obtain⟨c,d⟩:=HC l b
   exact⟨⟨a,c⟩,d⟩
  | pure=>rw[hk] at h;obtain⟨c,d⟩:=HC l h;exact⟨⟨rfl,c⟩,d⟩
  | read=>rw[hk] at h;obtain⟨c,d⟩:=HC l h;exact⟨⟨rfl,c⟩,d⟩
  | late=>rw[hk] at h;obtain⟨c,d⟩:=HC l h;exact⟨⟨rfl,c⟩,d⟩
def tU (kn:List (Nat × AV))(t:Tm):Prop:=∀ d v,tH kn d=some v->t.get d=some v
theorem Mw:∀ (kn:List (Nat × AV)) (x d:Nat) (v:AV),tH (ns kn (some x)) d=some v->d≠x/\tH kn d=some v
 | [],x,d,v,h=>by cases h
 | (e,u)::r,x,d,v,h=>by
  unfold ns at h
  by_cases he:e=x
  ·subst he
   rw[ui,cond_true] at h
   obtain⟨a,b⟩:=Mw r e d v h
   refine⟨a,?_⟩
   unfold tH
   rw[nW (Ne.symm a)];exact b
  ·rw[nW he,cond_false] at h
   unfold tH at h ⊢
   by_cases hd:e=d
   ·subst hd
    rw[ui] at h ⊢
    exact⟨he,h⟩
   ·rw[nW hd] at h ⊢
    exact Mw r x d v h
theorem tU.put {kn:List (Nat × AV)}{t:Tm}(h:tU kn t)(dst:Option Tmp)(v:AV):tU (ns kn dst) (gE dst v t):=by
 cases dst with
 | none=>intro d u hd;cases kn<;>exact h d u hd
 | some x=>
  intro d u hd
  obtain⟨a,b⟩:=Mw kn x d u hd
  show (t.put 34 x v).get d=some u
  rw[Tr.put,Tr.fj,if_neg a]
  exact h d u b
theorem tU.alo {kn:List (Nat × AV)}{t:Tm}(h:tU kn t)(dst:Option Tmp):tU (GJ kn dst) (gE dst bK t):=by
 cases dst with
 | none=>exact h
 | some x=>
  intro d u hd
  unfold GJ tH at hd
  by_cases hx:x=d
  ·subst hx
   rw[ui] at hd
   cases hd
   show (t.put 34 x bK).get x=some bK
   rw[Tr.put,Tr.fj,if_pos rfl]
  ·rw[nW hx] at hd
   exact (h.put (some x) bK) d u hd
theorem tU.cons {kn:List (Nat × AV)}{t:Tm}(h:tU kn t){d:Nat}{v:AV}(hv:t.get d=some v):tU ((d,v)::kn) t:=by
 intro e u he
 unfold tH at he
 by_cases hx:d=e
 ·subst hx
  rw[ui] at he
  cases he;exact hv
 ·rw[nW hx] at he
  exact h e u he
theorem G7 {α:Type}{x:α}:∀ (p:Pa) (t:Tr α),Tr.rf p t=some x->Tr.jV p (some x) t=t
 | .e,.nil,h=>by cases h
 | .e,.node v k0 k1 k2 k3,h=>by cases h;rfl
 | .a p,.nil,h=>by rw[Tr.vh] at h;cases h
 | .b p,.nil,h=>by rw[Tr.vh] at h;cases h
 | .c p,.nil,h=>by rw[Tr.vh] at h;cases h
 | .d p,.nil,h=>by rw[Tr.vh] at h;cases h
 | .a p,.node v k0 k1 k2 k3,h=>congrArg (fun k=>Tr.node v k k1 k2 k3) (G7 p k0 h)
 | .b p,.node v k0 k1 k2 k3,h=>congrArg (fun k=>Tr.node v k0 k k2 k3) (G7 p k1 h)
 | .c p,.node v k0 k1 k2 k3,h=>congrArg (fun k=>Tr.node v k0 k1 k k3) (G7 p k2 h)
 | .d p,.node v k0 k1 k2 k3,h=>congrArg (fun k=>Tr.node v k0 k1 k2 k) (G7 p k3 h)
theorem aaZ {t:Tm}{d:Nat}{v:AV}(h:t.get d=some v):gE (some d) v t=t:=G7 (pathOf d) t h
theorem Dw {cf:CF}{n:Nat}{ops:Array Oper}:∀ (l:List Oper) (i:Nat) (bs:List Nat) (kn:List (Nat × AV)) (tp te:Tm) (hb h:Hp) (acc:List jB) (k:KN) (r:AV × Hp),tU kn tp->ko P cf n ops i l bs kn tp te hb h acc k=some r->
  ∃ s t' H',ku P cf n ops i l bs tp te hb h=some (s,t',H')/\Br P (acc++s)=true/\k t' H'=some r
 | [],i,bs,kn,tp,te,hb,h,acc,k,r,fP,hr=>by
  unfold ko at hr
  obtain⟨a,b⟩:=HC acc hr
  refine⟨[],te,h,by unfold ku;rfl,?_,b⟩
  rw[ahD]
  exact a
 | o::l,i,[],kn,tp,te,hb,h,acc,k,r,fP,hr=>by unfold ko at hr;cases hr
 | o::l,i,b::bs,kn,tp,te,hb,h,acc,k,r,fP,hr=>by
  unfold ko at hr
  cases hd:uu n o.dst with
  | false=>rw[hd] at hr;cases hr
  | true=>
   rw[hd] at hr
   simp only[cond_true] at hr
   have go:∀ kn,tU kn tp->oQ ops o tp=some true->(match kd P o with
    | .late=>eh P hU o te h fun v h'=>ko P cf n ops (i+1) l bs (ns kn o.dst) (gE o.dst .cU tp) (gE o.dst v te) hb h' (acc++[⟨i,o,b,true,.late,v,tp,hb,hb⟩]) k
    | .db=>eh P cf o te h fun v h'=>ko P cf n ops (i+1) l bs (ns kn o.dst) (gE o.dst v tp) (gE o.dst v te) h' h' (acc++[⟨i,o,b,true,.db,v,tp,hb,h'⟩]) k
    | .pure=>eh P hU o tp hb fun v _=>ko P cf n ops (i+1) l bs (ns kn o.dst) (gE o.dst v tp) (gE o.dst v te) hb h (acc++[⟨i,o,b,true,.pure,v,tp,hb,hb⟩]) k
    | .read=>eh P hU o tp hb fun v _=>ko P cf n ops (i+1) l bs (ns kn o.dst) (gE o.dst v tp) (gE o.dst v te) hb h (acc++[⟨i,o,b,true,.read,v,tp,hb,hb⟩]) k)=some r->
     ∃ s t' H',ku P cf n ops i (o::l) (b::bs) tp te hb h=some (s,t',H')/\Br P (acc++s)=true/\k t' H'=some r:=by
    intro kn fP hw hr
    cases hk:kd P o with
    | late=>
     rw[hk] at hr
     obtain⟨v,h',h1,h2⟩:=K7 hr
     obtain⟨s,t',H',q1,q2,q3⟩:=Dw l _ _ _ _ _ _ _ _ k r (fP.put _ _) h2
     refine⟨_,t',H',?_,by rw[ae9] at q2;exact q2,q3⟩
     unfold ku
     simp only[hw,hk,h1,Bb hd,q1]
     rfl
    | db=>
     rw[hk] at hr
     obtain⟨v,h',h1,h2⟩:=Jp hr
     obtain⟨s,t',H',q1,q2,q3⟩:=Dw l _ _ _ _ _ _ _ _ k r (fP.put _ _) h2
     refine⟨_,t',H',?_,by rw[ae9] at q2;exact q2,q3⟩
     unfold ku
     simp only[hw,hk,h1,Bb hd,q1]
     rfl
    | pure=>
     rw[hk] at hr
     obtain⟨v,h',h1,h2⟩:=K7 hr
     obtain⟨s,t',H',q1,q2,q3⟩:=Dw l _ _ _ _ _ _ _ _ k r (fP.put _ _) h2
     refine⟨_,t',H',?_,by rw[ae9] at q2;exact q2,q3⟩
     unfold ku
     simp only[hw,hk,h1,Bb hd,q1]
     rfl
    | read=>
     rw[hk] at hr
     obtain⟨v,h',h1,h2⟩:=K7 hr
     obtain⟨s,t',H',q1,q2,q3⟩:=Dw l _ _ _ _ _ _ _ _ k r (fP.put _ _) h2
     refine⟨_,t',H',?_,by rw[ae9] at q2;exact q2,q3⟩
     unfold ku
     simp only[hw,hk,h1,Bb hd,q1]
     rfl
   have skip:∀ kn,tU kn tp->oQ ops o tp=some false->ko P cf n ops (i+1) l bs (GJ kn o.dst) (gE o.dst bK tp) (gE o.dst bK te) hb h (acc++[⟨i,o,b,false,.pure,bK,tp,hb,hb⟩]) k=some r->
     ∃ s t' H',ku P cf n ops i (o::l) (b::bs) tp te hb h=some (s,t',H')/\Br P (acc++s)=true/\k t' H'=some r:=by
    intro kn fP hw hr
    obtain⟨s,t',H',q1,q2,q3⟩:=Dw l _ _ _ _ _ _ _ _ k r (fP.alo _) hr
    refine⟨_,t',H',?_,by rw[ae9] at q2;exact q2,q3⟩
    unfold ku
    simp only[hw,Bb hd,q1]
    rfl
   cases hg:o.guard with
   | none=>
    rw[hg] at hr
    exact go kn fP (by unfold oQ;rw[hg]) hr
   | some p=>
    obtain⟨j,want⟩:=p
    rw[hg] at hr
    simp only at hr
    have uM:=YG (ops:=ops) (o:=o) (t:=tp) hg
    unfold gv at uM
    cases hj:(ops[j]?).bind (·.dst) with
    | none=>
     rw[hj] at hr uM
     exact skip kn fP uM hr
    | some d=>
     rw[hj] at hr uM
     simp only at hr uM
     cases hl:tH kn d with
     | some c=>
      rw[hl] at hr
      simp only at hr
      rw[fP d c hl,afI] at uM
      cases hw:wv want c with
      | none=>rw[hw] at hr;cases hr
      | some q=>
       rw[hw] at hr uM
       cases q with
       | true=>exact go kn fP uM hr
       | false=>exact skip kn fP uM hr
     | none=>
      rw[hl] at hr
      simp only at hr
      unfold rF at hr
      cases ht:tp.get d with
      | none=>rw[ht] at hr;cases hr
      | some v=>
       rw[ht,afI] at hr uM
       cases v<;>first | (cases hr;done) | skip
       rename_i q
       simp only at hr
       have KC:oQ ops o tp=some (q==want):=uM
       cases hq:(q==want) with
       | true=>
        rw[hq] at hr KC
        have:q=want:=by simpa using hq
        subst this
        rw[aaZ ht] at hr
        exact go _ (fP.cons ht) KC hr
       | false=>
        rw[hq] at hr KC
        have:q = !want:=by cases q<;>cases want<;>simp_all
        subst this
        rw[aaZ ht] at hr
        exact skip _ (fP.cons ht) KC hr
theorem aox:Ci P (rZ P):=by
 intro cf n ops d t H k r h
 unfold rZ at h
 cases d with
 | false=>
  simp only[cond_false] at h ⊢
  exact Rl _ _ _ _ _ h
 | true=>
  simp only[cond_true] at h ⊢
  cases hr:u9 ops with
  | false=>rw[hr] at h;cases h
  | true=>
   rw[hr] at h
   simp only[cond_true] at h
   obtain⟨s,t',H',q1,q2,q3⟩:=Dw _ _ _ _ _ _ _ _ _ _ _ (fun d v hd=>by cases hd) h
   refine⟨t',H',?_,q3⟩
   unfold zV
   rw[hr]
   simp only[cond_true,q1]
   rw[aiT] at q2
   rw[q2];rfl
def Pt:AV->Hp->R:=fun v H=>some (v,H)
theorem jt {α:Type}(o:Option α)(f:α->R)(g:AV × Hp->R):(B1 o f).bind g=B1 o fun v=>(f v).bind g:=by cases o<;>rfl
theorem um (o:Option (AV × Hp))(f:AV->Hp->R)(g:AV × Hp->R):(B2 o f).bind g=B2 o fun v H=>(f v H).bind g:=by cases o<;>rfl
theorem Ka (o:Option (Nat × Hp))(f:Nat->Hp->R)(g:AV × Hp->R):(BN o f).bind g=BN o fun i H=>(f i H).bind g:=by cases o<;>rfl
theorem al2 {op:BinOp}{t:TypeId}{X Y:Operand}{x y:AV}{H:Hp}(f:AV->R)(g:AV × Hp->R):(DO P op t X Y x y H f).bind g=DO P op t X Y x y H fun v=>(f v).bind g:=by
 unfold DO
 split<;>first | exact jt _ _ _ | skip
 cases gA P op t (uY X||uY Y) x y with
 | false=>rfl
 | true=>exact jt _ _ _
theorem aeR {a b:TypeId}{x:AV}{H:Hp}(f:AV->Hp->R)(g:AV × Hp->R):(BE P a b x H f).bind g=BE P a b x H fun v H=>(f v H).bind g:=by
 unfold BE
 split<;>first | exact jt _ _ _ | exact um _ _ _ | (split<;>first | exact jt _ _ _ | exact um _ _ _ | rfl)
theorem apf {t:TypeId}{x:AV}{lo hi mx:Option AV}{H:Hp}(f:AV->R)(g:AV × Hp->R):(Dq P t x lo hi mx H f).bind g=Dq P t x lo hi mx H fun v=>(f v).bind g:=by
 unfold Dq
 split<;>first | exact jt _ _ _ | (split<;>first | exact jt _ _ _ | rfl)
theorem afZ {b:Builtin}{ty:Array TypeId}{args:List AV}{H:Hp}(f:AV->Hp->R)(g:AV × Hp->R):(Dm P b ty args H f).bind g=Dm P b ty args H fun v H=>(f v H).bind g:=by
 unfold Dm
 split
 ·split<;>first | exact jt _ _ _ | exact um _ _ _
 ·split<;>first | rfl | skip
  split<;>first | rfl | skip
  rename_i z _ _
  cases (Nat.ble (P.bytesOf _) 4096&&Nat.beq _ _) with
  | false=>rfl
  | true=>exact um _ _ _
 ·split<;>first | rfl | skip
  split<;>first | exact um _ _ _ | rfl
 ·split<;>first | rfl | skip
  split<;>first | exact jt _ _ _ | exact um _ _ _
 ·exact um _ _ _
theorem apA {cf:CF}{o:Oper}{t:Tm}{H:Hp}(f:AV->Hp->R)(g:AV × Hp->R):(eh P cf o t H f).bind g=eh P cf o t H fun v H=>(f v H).bind g:=by
 obtain⟨dst,op,SP,pos,after,guard⟩:=o
 cases op<;>unfold eh<;>simp only
 case pick=>exact jt _ _ _
 case alloc=>split<;>first | exact Ka _ _ _ | rfl
 case box=>exact Ka _ _ _
 case build=>
  split
  ·split<;>first | rfl | skip
   split<;>first | exact jt _ _ _ | rfl
  ·split<;>first | exact jt _ _ _ | rfl
  ·rfl
 case buildSlice=>
  split<;>first | rfl | skip
  split<;>first | rfl | skip
  cases Nat.ble _ 65536 with
  | false=>rfl
  | true=>
   simp only[cond_true]
   split<;>first | rfl | skip
   rw[jt]
   congr 1
   funext l
   exact Ka _ _ _
 case insert=>split<;>first | rfl | (split<;>exact jt _ _ _)
 case mapUpdate=>split<;>first | rfl | (split<;>exact jt _ _ _)
 case load=>split<;>first | exact jt _ _ _ | rfl
 case store=>split<;>first | exact jt _ _ _ | rfl
 case nilCheck=>exact jt _ _ _
 case binOp=>exact al2 _ _
 case unOp=>exact jt _ _ _
 case convert=>exact aeR _ _
 case makeInterface=>split<;>rfl
 case makeFunc=>split<;>rfl
 case makeMap ty x=>cases x<;>first | exact Ka _ _ _ | rfl
 case makeSlice=>
  split<;>first | rfl | skip
  split<;>first | rfl | skip
  cases (Nat.ble (P.bytesOf _) 4096&&Nat.beq _ _) with
  | false=>rfl
  | true=>exact um _ _ _
 case slice=>exact apf _ _
 case fieldAddr=>split<;>first | exact jt _ _ _ | rfl
 case field=>
  split<;>first | rfl | skip
  split<;>first | rfl | skip
  split<;>first | exact jt _ _ _ | rfl
 case indexAddr=>
  split<;>first | rfl | skip
  ·split<;>first | exact jt _ _ _ | rfl
  ·split<;>first | exact jt _ _ _ | rfl
 case index=>split<;>exact jt _ _ _
 case lookup=>
  split<;>first | rfl | skip
  split<;>exact jt _ _ _
 case range=>exact um _ _ _
 case next=>exact um _ _ _
 case entry=>rfl
 case extract=>exact jt _ _ _
 case typeAssert=>split<;>first | exact jt _ _ _ | rfl
 case call c=>
  obtain⟨callee,args,qP⟩:=c
  cases callee with
  | value f=>exact um _ _ _
  | invoke r m=>rfl
  | builtin b=>exact afZ _ _
 all_goals rfl
theorem WV {cf:CF}{o:Oper}{t:Tm}{H:Hp}(k:AV->Hp->R):eh P cf o t H k=(eh P cf o t H Pt).bind fun p=>k p.1 p.2:=by
 rw[apA];rfl
theorem aiL {cf : CF}{o : Oper}{t : Tm}{H : Hp}{k : AV -> Hp -> R}{r : AV × Hp}(h : eh P cf o t H k = some r) :
    ∃ v H', k v H' = some r /\ ∀ cP : Nat -> CF, sE cP cf -> Ev fun j => ∀ k', eh P (cP j) o t H k' = k' v H' := by
  rw[WV, aa3] at h
  obtain⟨⟨v, H'⟩, h1, h2⟩ := h
  refine⟨v, H', h2, fun cP gr => ?_⟩
  have key : Ev fun j => eh P (cP j) o t H Pt = some (v, H') := by
    obtain⟨dst, op, SP, pos, after, guard⟩ := o
    cases op
    case makeMap ty x => cases x<;>exact Ev.of fun _ => h1
    case call c =>
     obtain⟨callee, args, qP⟩ := c
     cases callee with
     | invoke r m => exact Ev.of fun _ => h1
     | builtin b => exact Ev.of fun _ => h1
     | value f =>
      obtain⟨v2, H2, q1, q2⟩ := tE h1
      obtain⟨k0, hk⟩ := gr _ _ _ _ q1
      refine⟨k0, fun j hj => ?_⟩
      show B2 (cP j _ _ H) Pt = _
      rw[hk j hj]
      exact q2
    all_goals exact Ev.of fun _ => h1
  obtain⟨k0, hk⟩ := key
  refine⟨k0, fun j hj k' => ?_⟩
  rw[WV, hk j hj];rfl
theorem vz:sE (fun _=>hU) hU:=fun x l H r h=>by cases h
theorem pE {cP:Nat->CF}{cf:CF}(gr:sE cP cf){o:Oper}{t:Tm}{H:Hp}{ks:Nat->AV->Hp->R}{k:AV->Hp->R}{r:AV × Hp}(hk:∀ v H,k v H=some r->Ev fun j=>ks j v H=some r)(h:eh P cf o t H k=some r):Ev fun j=>eh P (cP j) o t H (ks j)=some r:=by
 obtain⟨v,H',h1,h2⟩:=aiL h
 obtain⟨a,ha⟩:=h2 cP gr
 obtain⟨b,hb⟩:=hk v H' h1
 refine⟨max a b,fun j hj => ?_⟩
 exact (ha j (agr (Nat.le_max_left a b) hj) (ks j)).trans (hb j (agr (Nat.le_max_right a b) hj))
theorem J0 {cP:Nat->CF}{cf:CF}(gr:sE cP cf){ks:Nat->KN}{k:KN}(hk:wk ks k){n:Nat}{ops:Array Oper}:∀ (l:List Oper) (t:Tm) (H:Hp) (r:AV × Hp),uG P cf n ops l t H k=some r->Ev fun j=>uG P (cP j) n ops l t H (ks j)=some r
 | [],t,H,r,h=>hk t H r h
 | o::l,t,H,r,h=>by
  unfold uG at h ⊢
  cases hd:uu n o.dst with
  | false=>rw[hd] at h;cases h
  | true=>
   rw[hd] at h
   simp only[cond_true] at h ⊢
   cases hg:o.guard with
   | none=>
    rw[hg] at h
    exact pE gr (fun v H h=>J0 gr hk l _ _ r h) h
   | some p=>
    obtain⟨q,want⟩:=p
    rw[hg] at h
    simp only at h ⊢
    unfold GO at h ⊢
    cases hw:wv want (gv ops q t) with
    | none=>rw[hw] at h;cases h
    | some b=>
     rw[hw] at h
     cases b with
     | true=>exact pE gr (fun v H h=>J0 gr hk l _ _ r h) h
     | false=>exact J0 gr hk l _ _ r h
theorem A9 {s:jB}{xs:Nat->R}{x:R}{r:AV × Hp}(hx:x=some r->Ev fun j=>xs j=some r):∀ (l:List jB),nQ P s x l=some r->Ev fun j=>nQ P s (xs j) l=some r
 | [],h=>hx h
 | q::l,h=>by
  unfold nQ at h ⊢
  have rd:∀ Hx:Hp,(eh P hU q.o q.t Hx fun v _=>SM q.v v (nQ P s x l))=some r->Ev fun j=>(eh P hU q.o q.t Hx fun v _=>SM q.v v (nQ P s (xs j) l))=some r:=by
   intro Hx h
   refine pE (cP:=fun _=>hU) vz (ks:=fun j v _=>SM q.v v (nQ P s (xs j) l)) (fun v H h => ?_) h
   unfold SM at h ⊢
   cases hs:same q.v v with
   | false=>rw[hs] at h;cases h
   | true=>rw[hs] at h;exact A9 hx l h
  cases hk:q.k with
  | pure=>rw[hk] at h;exact A9 hx l h
  | read=>
   rw[hk] at h
   simp only at h ⊢
   cases hb:Nat.blt q.i s.i with
   | true=>
    rw[hb] at h
    simp only[cond_true] at h ⊢
    cases ht:s.b.testBit q.i with
    | true=>rw[ht] at h;exact A9 hx l h
    | false=>rw[ht] at h;exact rd _ h
   | false=>
    rw[hb] at h
    simp only[cond_false] at h ⊢
    cases ht:q.b.testBit s.i with
    | true=>rw[ht] at h;exact A9 hx l h
    | false=>rw[ht] at h;exact rd _ h
  | late=>
   rw[hk] at h
   simp only at h ⊢
   cases hb:(!(Nat.blt q.i s.i)||s.b.testBit q.i) with
   | false=>rw[hb] at h;cases h
   | true=>rw[hb] at h;exact A9 hx l h
  | db=>
   rw[hk] at h
   simp only at h ⊢
   cases hb:(!(Nat.blt q.i s.i)||s.b.testBit q.i) with
   | false=>rw[hb] at h;cases h
   | true=>rw[hb] at h;exact A9 hx l h
theorem Gx {all:List jB}{xs:Nat->R}{x:R}{r:AV × Hp}(hx:x=some r->Ev fun j=>xs j=some r):∀ (l:List jB),vn P all x l=some r->Ev fun j=>vn P all (xs j) l=some r
 | [],h=>hx h
 | s::l,h=>by
  unfold vn at h ⊢
  cases hk:s.k with
  | db=>rw[hk] at h;exact A9 (xs:=fun j=>vn P all (xs j) l) (fun h=>Gx hx l h) all h
  | pure=>rw[hk] at h;exact Gx hx l h
  | read=>rw[hk] at h;exact Gx hx l h
  | late=>rw[hk] at h;exact Gx hx l h
theorem XM {cP:Nat->CF}{cf:CF}(gr:sE cP cf){ks:Nat->KN}{k:KN}(hk:wk ks k){n:Nat}{ops:Array Oper}:∀ (l:List Oper) (i:Nat) (bs:List Nat) (kn:List (Nat × AV)) (tp te:Tm) (hb h:Hp) (acc:List jB) (r:AV × Hp),ko P cf n ops i l bs kn tp te hb h acc k=some r->
  Ev fun j=>ko P (cP j) n ops i l bs kn tp te hb h acc (ks j)=some r
 | [],i,bs,kn,tp,te,hb,h,acc,r,hr=>by
  unfold ko at hr ⊢
  exact Gx (xs:=fun j=>ks j te h) (fun q=>hk te h r q) acc hr
 | o::l,i,[],kn,tp,te,hb,h,acc,r,hr=>by unfold ko at hr;cases hr
 | o::l,i,b::bs,kn,tp,te,hb,h,acc,r,hr=>by
  unfold ko at hr ⊢
  cases hd:uu n o.dst with
  | false=>rw[hd] at hr;cases hr
  | true=>
   rw[hd] at hr
   simp only[cond_true] at hr ⊢
   have qb:=fun i bs kn tp te hb h acc hr=>XM (n:=n) (ops:=ops) gr hk l i bs kn tp te hb h acc r hr
   cases hg:o.guard with
   | none=>
    rw[hg] at hr
    simp only at hr ⊢
    cases cq:kd P o<;>rw[cq] at hr<;>simp only at hr ⊢
    ·exact pE (cP:=fun _=>hU) vz (fun v H h=>qb _ _ _ _ _ _ _ _ h) hr
    ·exact pE (cP:=fun _=>hU) vz (fun v H h=>qb _ _ _ _ _ _ _ _ h) hr
    ·exact pE (cP:=fun _=>hU) vz (fun v H h=>qb _ _ _ _ _ _ _ _ h) hr
    ·exact pE gr (fun v H h=>qb _ _ _ _ _ _ _ _ h) hr
   | some p=>
    obtain⟨q,want⟩:=p
    rw[hg] at hr
    simp only at hr ⊢
    cases hj:(ops[q]?).bind (·.dst) with
    | none=>
     rw[hj] at hr
     exact qb _ _ _ _ _ _ _ _ hr
    | some d=>
     rw[hj] at hr
     simp only at hr ⊢
     cases hl:tH kn d with
     | some c=>
      rw[hl] at hr
      simp only at hr ⊢
      cases hw:wv want c with
      | none=>rw[hw] at hr;cases hr
      | some w=>
       rw[hw] at hr
       cases w with
       | true=>
        simp only at hr ⊢
        cases cq:kd P o<;>rw[cq] at hr<;>simp only at hr ⊢
        ·exact pE (cP:=fun _=>hU) vz (fun v H h=>qb _ _ _ _ _ _ _ _ h) hr
        ·exact pE (cP:=fun _=>hU) vz (fun v H h=>qb _ _ _ _ _ _ _ _ h) hr
        ·exact pE (cP:=fun _=>hU) vz (fun v H h=>qb _ _ _ _ _ _ _ _ h) hr
        ·exact pE gr (fun v H h=>qb _ _ _ _ _ _ _ _ h) hr
       | false=>exact qb _ _ _ _ _ _ _ _ hr
     | none=>
      rw[hl] at hr
      simp only at hr ⊢
      unfold rF at hr ⊢
      split at hr
      ·rename_i w hv
       cases hw:(w==want) with
       | true=>
        rw[hw] at hr
        simp only[cond_true] at hr ⊢
        cases cq:kd P o<;>rw[cq] at hr<;>simp only at hr ⊢
        ·exact pE (cP:=fun _=>hU) vz (fun v H h=>qb _ _ _ _ _ _ _ _ h) hr
        ·exact pE (cP:=fun _=>hU) vz (fun v H h=>qb _ _ _ _ _ _ _ _ h) hr
        ·exact pE (cP:=fun _=>hU) vz (fun v H h=>qb _ _ _ _ _ _ _ _ h) hr
        ·exact pE gr (fun v H h=>qb _ _ _ _ _ _ _ _ h) hr
       | false=>
        rw[hw] at hr
        exact qb _ _ _ _ _ _ _ _ hr
      ·cases hr
theorem Lo:u7 (rZ P):=by
 intro cP cf kK kn n ops d t H r h1 h2 h
 unfold rZ at h ⊢
 cases d with
 | false=>
  simp only[cond_false] at h ⊢
  exact J0 h1 h2 _ _ _ _ h
 | true=>
  simp only[cond_true] at h ⊢
  cases hr:u9 ops with
  | false=>rw[hr] at h;cases h
  | true=>
   rw[hr] at h
   simp only[cond_true] at h ⊢
   exact XM h1 h2 _ _ _ _ _ _ _ _ _ _ h
end
end K
end
set_option linter.unusedVariables false
namespace K
def sub:Code->List Nat->Code
 | c,[]=>c
 | .seq a b,i::r=>match i with | 0=>sub a r | _=>sub b r
 | .cond _ a b,i::r=>match i with | 0=>sub a r | _=>sub b r
 | .block _ b,_::r=>sub b r
 | .loop b,_::r=>sub b r
 | c,_::_=>c
def ZM (P:Program)(f:Nat)(path:List Nat):Code:=match P.funcs[f]? with
 | some fn=>(match fn.body with | some b=>sub b path | none => .skip)
 | none => .skip
def nT (P:Program)(f:Nat):Nat:=match P.funcs[f]? with | some fn=>fn.ntmps | none=>0
def aca (P:Program)(f:Nat):KN:=fun t H=>match P.funcs[f]? with | some fn=>Ax P t H fn.results.toList | none=>none
noncomputable section
def I2 (P:Program)(bc:qS)(cf:CF)(n:Nat)(b:Code)(x:An)(lv:List Nat)(ke:Nat->KN)(kr:KN):Fn lv.length:=
 LP lv.length (fun k=>abs lv.length fun l H=>bD P bc cf n b x (fun t H=>app lv.length k (ax lv t) H) ke kr (cw n lv l) H)
theorem amu {P:Program}{bc:qS}(gk:u7 bc)(cf:CF)(n:Nat)(b:Code)(x:An)(lv:List Nat)(ke:Nat->KN)(kr:KN)(l:List AV)(hl:l.length=lv.length)(H:Hp) :
  app lv.length (I2 P bc cf n b x lv ke kr) l H=bD P bc cf n b x (fun t H=>app lv.length (I2 P bc cf n b x lv ke kr) (ax lv t) H) ke kr (cw n lv l) H:=
 ahb gk cf n b x lv ke kr l hl H
end
def LF (k:Nat)(x:AV)(H:Hp)(f:AV->R):R:=B1 (fa k x) fun v=>B1 (ld v H) f
def NF (k:Nat)(x:AV)(H:Hp)(f:AV->R):R:=B1 (aV x) fun v=>B1 (fa k v) fun u=>B1 (ld u H) f
def NA (k:Nat)(x:AV)(f:AV->R):R:=B1 (aV x) fun v=>B1 (fa k v) f
theorem Tl (k i o:Nat)(H:Hp)(f:AV->R):LF k (.ptr i o) H f=B1 (ld (.ptr i (o+k)) H) f:=aaw rfl (id rfl)
theorem Wo (k i o:Nat)(H:Hp)(f:AV->R):NF k (.ptr i o) H f=B1 (ld (.ptr i (o+k)) H) f:=aaw rfl (id rfl)
theorem aab (k i o:Nat)(f:AV->R):NA k (.ptr i o) f=f (.ptr i (o+k)):=aaw rfl (id rfl)
end K
end
set_option linter.unusedVariables false
set_option linter.unusedSimpArgs false
namespace K
section
def rm:Pa->AV->Tm->(Tm->R)->R
 | .e,x,t,k=>match t with | .nil=>k (.node (some x) .nil .nil .nil .nil) | .node _ a b c d=>k (.node (some x) a b c d)
 | .a p,x,t,k=>match t with | .nil=>rm p x .nil fun q=>k (.node none q .nil .nil .nil) | .node v a b c d=>rm p x a fun q=>k (.node v q b c d)
 | .b p,x,t,k=>match t with | .nil=>rm p x .nil fun q=>k (.node none .nil q .nil .nil) | .node v a b c d=>rm p x b fun q=>k (.node v a q c d)
 | .c p,x,t,k=>match t with | .nil=>rm p x .nil fun q=>k (.node none .nil .nil q .nil) | .node v a b c d=>rm p x c fun q=>k (.node v a b q d)
 | .d p,x,t,k=>match t with | .nil=>rm p x .nil fun q=>k (.node none .nil .nil .nil q) | .node v a b c d=>rm p x d fun q=>k (.node v a b c q)
theorem EW:∀ (p:Pa) (x:AV) (t:Tm) (k:Tm->R),rm p x t k=k (Tr.jV p (some x) t)
 | .e,x,t,k=>by cases t<;>rfl
 | .a p,x,t,k=>by cases t<;>(unfold rm;simp only[EW p];rfl)
 | .b p,x,t,k=>by cases t<;>(unfold rm;simp only[EW p];rfl)
 | .c p,x,t,k=>by cases t<;>(unfold rm;simp only[EW p];rfl)
 | .d p,x,t,k=>by cases t<;>(unfold rm;simp only[EW p];rfl)
def p8 (dst:Option Tmp)(v:AV)(t:Tm)(k:Tm->R):R:=match dst with | none=>k t | some d=>rm (pathOf d) v t k
theorem abB (dst:Option Tmp)(v:AV)(t:Tm)(k:Tm->R):p8 dst v t k=k (gE dst v t):=by
 cases dst with
 | none=>rfl
 | some d=>exact EW _ _ _ _
def FO (o:Option AV)(k:Option AV->R):R:=match o with | none=>k none | some v=>k (some v)
theorem ag0 (o:Option AV)(k:Option AV->R):FO o k=k o:=by cases o<;>rfl
def FT:Tm->(Tm->R)->R
 | .nil,k=>k .nil
 | .node v a b c d,k=>FO v fun v=>FT a fun a=>FT b fun b=>FT c fun c=>FT d fun d=>k (.node v a b c d)
theorem Cg:∀ (t:Tm) (k:Tm->R),FT t k=k t
 | .nil,k=>rfl
 | .node v a b c d,k=>by unfold FT;rw[ag0,Cg a,Cg b,Cg c,Cg d]
def OE (o:Option AV)(k:AV->R):R:=match o with | some v=>k v | none=>k bK
theorem ad9 (o:Option AV)(k:AV->R):OE o k=k (o.getD bK):=by cases o<;>rfl
noncomputable section
variable (P:Program)
def aG (t:Tm)(x:Operand)(k:AV->R):R:=match x with
 | .tmp d=>OE (t.get d) k
 | x=>k (ev P.globals.size t x)
theorem U3 (t:Tm)(x:Operand)(k:AV->R):aG P t x k=k (ev P.globals.size t x):=by
 cases x<;>first | rfl | exact ad9 _ _
def yK (cf:CF)(o:Oper)(t:Tm)(H:Hp)(k:AV->Hp->R):R:=match o.op with
 | .move x=>aG P t x fun v=>k v H
 | .assign x=>aG P t x fun v=>k v H
 | _=>eh P cf o t H k
theorem abc (cf:CF)(o:Oper)(t:Tm)(H:Hp)(k:AV->Hp->R):yK P cf o t H k=eh P cf o t H k:=by
 unfold yK
 split
 ·rename_i x h
  rw[U3];unfold eh;rw[h]
 ·rename_i x h
  rw[U3];unfold eh;rw[h]
 ·rfl
abbrev JT:=(m:Nat)->(Fn m->R)->Fn m->R
abbrev GT:=AV->Bool->((AV->Hp->R)->R)->(AV->Hp->R)->Hp->R
def Ep (G:GT)(cf:CF)(n:Nat)(ops:Array Oper):List Oper->Tm->Hp->KN->R
 | [],t,H,k=>k t H
 | o::r,t,H,k=>match uu n o.dst with
  | true=>(match o.guard with
   | none=>yK P cf o t H fun v H=>p8 o.dst v t fun t=>Ep G cf n ops r t H k
   | some (j,want)=>G (gv ops j t) want (fun k'=>yK P cf o t H k') (fun v H=>p8 o.dst v t fun t=>Ep G cf n ops r t H k) H)
  | false=>none
theorem W6 (cf:CF)(n:Nat)(ops:Array Oper):∀ (l:List Oper) (t:Tm) (H:Hp) (k:KN),Ep P GO cf n ops l t H k=uG P cf n ops l t H k
 | [],t,H,k=>rfl
 | o::r,t,H,k=>by
  unfold Ep uG
  simp only[abc,abB,W6 cf n ops r]
  cases uu n o.dst<;>rfl
def vS (cf:CF)(n:Nat)(ops:Array Oper):Nat->List Oper->List Nat->List (Nat × AV)->Tm->Tm->Hp->Hp->List jB->KN->R
 | _,[],_,_,_,te,_,h,acc,k=>vn P acc (k te h) acc
 | _,_::_,[],_,_,_,_,_,_,_=>none
 | i,o::r,b::bs,kn,tp,te,hb,h,acc,k=>match uu n o.dst with
  | true=>
   let go:List (Nat × AV)->Tm->R:=fun kn tp=>match kd P o with
    | .late=>yK P hU o te h fun v h'=>p8 o.dst .cU tp fun tq=>p8 o.dst v te fun te=>vS cf n ops (i+1) r bs (ns kn o.dst) tq te hb h' (acc++[⟨i,o,b,true,.late,v,tp,hb,hb⟩]) k
    | .db=>yK P cf o te h fun v h'=>p8 o.dst v tp fun tq=>p8 o.dst v te fun te=>vS cf n ops (i+1) r bs (ns kn o.dst) tq te h' h' (acc++[⟨i,o,b,true,.db,v,tp,hb,h'⟩]) k
    | .pure=>yK P hU o tp hb fun v _=>p8 o.dst v tp fun tq=>p8 o.dst v te fun te=>vS cf n ops (i+1) r bs (ns kn o.dst) tq te hb h (acc++[⟨i,o,b,true,.pure,v,tp,hb,hb⟩]) k
    | .read=>yK P hU o tp hb fun v _=>p8 o.dst v tp fun tq=>p8 o.dst v te fun te=>vS cf n ops (i+1) r bs (ns kn o.dst) tq te hb h (acc++[⟨i,o,b,true,.read,v,tp,hb,hb⟩]) k
   let skip:List (Nat × AV)->Tm->R:=fun kn tp=>p8 o.dst bK tp fun tq=>p8 o.dst bK te fun te=>vS cf n ops (i+1) r bs (GJ kn o.dst) tq te hb h (acc++[⟨i,o,b,false,.pure,bK,tp,hb,hb⟩]) k
   match o.guard with
   | none=>go kn tp
   | some (j,want)=>match (ops[j]?).bind (·.dst) with
    | none=>skip kn tp
    | some d=>match tH kn d with
     | some c=>(match wv want c with | some true=>go kn tp | some false=>skip kn tp | none=>none)
     | none=>rF ((tp.get d).getD bK) want (p8 (some d) (.bool want) tp fun tp=>go ((d,.bool want)::kn) tp) (p8 (some d) (.bool !want) tp fun tp=>skip ((d,.bool !want)::kn) tp)
  | false=>none
theorem W2 (cf:CF)(n:Nat)(ops:Array Oper):∀ (l:List Oper) (i:Nat) (bs:List Nat) (kn:List (Nat × AV)) (tp te:Tm) (hb h:Hp) (acc:List jB) (k:KN),
  vS P cf n ops i l bs kn tp te hb h acc k=ko P cf n ops i l bs kn tp te hb h acc k
 | [],i,bs,kn,tp,te,hb,h,acc,k=>by unfold vS ko;rfl
 | o::l,i,[],kn,tp,te,hb,h,acc,k=>by unfold vS ko;rfl
 | o::l,i,b::bs,kn,tp,te,hb,h,acc,k=>by
  unfold vS ko
  simp only[abc,abB,W2 cf n ops l]
  cases uu n o.dst<;>rfl
def LM (G:GT):qS:=fun cf n ops d t H k=>match d with
 | true=>(match u9 ops with | true=>FT t fun t=>vS P cf n ops 0 ops.toList (before ops.toList []) [] t t H H [] k | false=>none)
 | false=>FT t fun t=>Ep P G cf n ops ops.toList t H k
theorem aiy:LM P GO=rZ P:=by
 funext cf n ops d t H k
 unfold LM rZ
 cases d with
 | false=>simp only[cond_false,Cg,W6]
 | true=>
  simp only[cond_true]
  cases u9 ops<;>simp only[cond_true,cond_false,Cg,W2]
def codeF (J:JT)(G:GT)(cf:CF)(n:Nat):Code->An->KN->(Nat->KN)->KN->KN
 | .skip,_,kn,_,_=>kn
 | .label _,_,kn,_,_=>kn
 | .seq a b,an,kn,ke,kr=>match an with
  | .sq none x y=>codeF J G cf n a x (codeF J G cf n b y kn ke kr) ke kr
  | .sq (some lv) x y=>fun t H=>J lv.length (fun k=>codeF J G cf n a x (fun t H=>app lv.length k (ax lv t) H) ke kr t H) (abs lv.length fun l H=>codeF J G cf n b y kn ke kr (cw n lv l) H)
  | .pr lv p=>fun t H=>B1 (p t H) fun H=>kn (cw n lv (ax lv t)) H
  | _=>fun _ _=>none
 | .cond c a b,an,kn,ke,kr=>match an with
  | .cd x y=>fun t H=>CD (ev P.globals.size t c) (codeF J G cf n a x kn ke kr t H) (codeF J G cf n b y kn ke kr t H)
  | _=>fun _ _=>none
 | .block i b,an,kn,ke,kr=>match an with
  | .bl none x=>codeF J G cf n b x kn (fun j t H=>match Nat.beq j i with | true=>kn t H | false=>ke j t H) kr
  | .bl (some lv) x=>fun t H=>J lv.length (fun k=>codeF J G cf n b x (fun t H=>app lv.length k (ax lv t) H) (fun j t H=>match Nat.beq j i with | true=>app lv.length k (ax lv t) H | false=>ke j t H) kr t H) (abs lv.length fun l H=>kn (cw n lv l) H)
  | _=>fun _ _=>none
 | .loop b,an,kn,ke,kr=>match an with
  | .lp lv x=>fun t H=>app lv.length (LP lv.length (fun k=>abs lv.length fun l H=>codeF J G cf n b x (fun t H=>app lv.length k (ax lv t) H) ke kr (cw n lv l) H)) (ax lv t) H
  | _=>fun _ _=>none
 | .exit i,_,_,ke,_=>ke i
 | .ret,_,_,_,kr=>kr
 | .region _ ops d,_,kn,_,_=>fun t H=>LM P G cf n ops d t H kn
 | _,_,_,_,_=>fun _ _=>none
theorem adH {α:Type}(b:Bool)(x y:α):(match b with | true=>x | false=>y)=bif b then x else y:=by cases b<;>rfl
theorem codeF_eq (cf:CF)(n:Nat):∀ (c:Code) (an:An) (kn:KN) (ke:Nat->KN) (kr:KN),codeF P JN GO cf n c an kn ke kr=bD P (rZ P) cf n c an kn ke kr:=by
 intro c
 induction c with
 | seq a b ia ib=>
  intro an kn ke kr
  unfold codeF bD
  cases an with
  | sq j x y=>cases j<;>simp only[ia,ib]
  | _=>rfl
 | cond q a b ia ib=>
  intro an kn ke kr
  unfold codeF bD
  cases an with
  | cd x y=>simp only[ia,ib]
  | _=>rfl
 | block i b ib=>
  intro an kn ke kr
  unfold codeF bD
  cases an with
  | bl j x=>cases j<;>simp only[ib,adH]
  | _=>rfl
 | loop b ib=>
  intro an kn ke kr
  unfold codeF bD
  cases an with
  | lp lv x=>simp only[ib]
  | _=>rfl
 | region id ops d=>
  intro an kn ke kr
  unfold codeF bD
  rw[aiy]
 | _=>intro an kn ke kr;unfold codeF bD;rfl
def V3 (J:JT)(G:GT)(cf:CF)(fn:Func)(an:An)(b:Code)(args:List AV)(H:Hp):R:=
 codeF P J G cf fn.ntmps b an (fun t H=>Ax P t H fn.results.toList) (fun _ _ _=>none) (fun t H=>Ax P t H fn.results.toList) (HE fn.ntmps args) H
def fQ (J:JT)(G:GT)(aR:Nat->Option Prim)(an:Nat->An)(cf:CF)(aY:Nat)(args:List AV)(H:Hp):R:=
 match aR aY with
 | some _=>none
 | none=>match P.funcs[aY]? with
  | some fn=>match fn.body with
   | some b=>match Nat.ble args.length fn.ntmps&&Nat.blt fn.ntmps 4294967296&&(an aY).ok fn.ntmps with
    | true=>V3 P J G cf fn (an aY) b args H
    | false=>none
   | none=>none
  | none=>none
def FH (J:JT)(G:GT)(cf:CF)(n:Nat)(b:Code)(x:An)(lv:List Nat)(ke:Nat->KN)(kr:KN):Fn lv.length:=
 LP lv.length (fun k=>abs lv.length fun l H=>codeF P J G cf n b x (fun t H=>app lv.length k (ax lv t) H) ke kr (cw n lv l) H)
end
variable {P:Program}{ext:Nat->Option Ext}{aR:Nat->Option Prim}{an:Nat->An}
theorem aT {aY:Nat}{first args cap:List AV}{H:Hp}{r:AV × Hp}(h:fQ P JN GO aR an (CK P (rZ P) ext aR an) aY (first++args++cap) H=some r):CK P (rZ P) ext aR an (.func (.func aY) first cap) args H=some r:=by
 refine Rm Lo ?_
 unfold fQ at h
 unfold vu
 simp only
 split at h
 ·cases h
 ·rename_i hp
  rw[hp]
  simp only
  split at h
  ·rename_i fn hf
   rw[hf]
   simp only
   split at h
   ·rename_i b hb
    rw[hb]
    simp only
    split at h
    ·rename_i hc
     rw[hc]
     unfold V3 at h
     rw[codeF_eq] at h
     exact h
    ·cases h
   ·cases h
  ·cases h
theorem amX (cf:CF)(n:Nat)(b:Code)(x:An)(lv:List Nat)(ke:Nat->KN)(kr:KN)(l:List AV)(hl:l.length=lv.length)(H:Hp) :
  app lv.length (FH P JN GO cf n b x lv ke kr) l H=codeF P JN GO cf n b x (fun t H=>app lv.length (FH P JN GO cf n b x lv ke kr) (ax lv t) H) ke kr (cw n lv l) H:=by
 have h:FH P JN GO cf n b x lv ke kr=I2 P (rZ P) cf n b x lv ke kr:=by unfold FH I2;simp only[codeF_eq]
 rw[h,codeF_eq]
 exact amu Lo cf n b x lv ke kr l hl H
end
abbrev An.n (x:An):An := .sq none .nl x
abbrev An.q (x y:An):An := .sq none x y
abbrev An.s (l:List Nat)(x y:An):An := .sq (some l) x y
abbrev An.t (l:List Nat)(y:An):An := .sq (some l) .nl y
abbrev An.b (x:An):An := .bl none x
abbrev An.v (l:List Nat)(x:An):An := .bl (some l) x
def yf:An->List Nat->An
 | x,[]=>x
 | .sq _ a b,i::r=>match i with | 0=>yf a r | _=>yf b r
 | .cd a b,i::r=>match i with | 0=>yf a r | _=>yf b r
 | .bl _ a,_::r=>yf a r
 | .lp _ a,_::r=>yf a r
 | x,_::_=>x
noncomputable section
variable (P:Program)(an:Nat->An)
def eu (J:JT)(G:GT)(cf:CF)(f:Nat)(path lv:List Nat)(ke:Nat->KN):Fn lv.length:=FH P J G cf (nT P f) (ZM P f path) (yf (an f) path) lv ke (aca P f)
def lh (J:JT)(G:GT)(cf:CF)(f:Nat)(path lv:List Nat)(ke:Nat->KN)(k:Fn lv.length)(l:List AV)(H:Hp):R:=
 codeF P J G cf (nT P f) (ZM P f path) (yf (an f) path) (fun t H=>app lv.length k (ax lv t) H) ke (aca P f) (cw (nT P f) lv l) H
end
theorem eS {P:Program}{an:Nat->An}(cf:CF)(f:Nat)(path lv:List Nat)(ke:Nat->KN)(l:List AV)(hl:l.length=lv.length)(H:Hp) :
  app lv.length (eu P an JN GO cf f path lv ke) l H=lh P an JN GO cf f path lv ke (eu P an JN GO cf f path lv ke) l H:=amX cf _ _ _ lv ke _ l hl H
end K
end
set_option linter.unusedVariables false
set_option linter.unusedSimpArgs false
set_option maxHeartbeats 1000000
section
variable {P:Program}{G:Nat}{F:Nat->Prop}{W:World}{e:Em}{H:Hp}{w:World}
theorem ae7 (w:World)(ty:TypeId)(r bm since:Nat)(seen:Array Nat)(es:Array MapEntry)(hr:w.heap[r]? = some (.mapIter (some bm) since seen since))(hb:w.heap[bm]? = some (.map es since))(hold:∀ x∈es.toList,x.born<since) :
  ((leftOf es seen).size=0/\(Instr.next (.pointer (some ⟨r,0,none⟩)) false ty).run P w = .ok (.tuple #[.bool false]) w)\/
  ∃ x∈(leftOf es seen).toList,∃ n,(Instr.next (.pointer (some ⟨r,0,none⟩)) false ty).run P w = .ok (.tuple #[.bool true,x.key,x.val]) { w with drawn:=n,heap:=w.heap.setIfInBounds r (.mapIter (some bm) since (seen.push x.born) since) }:=by
 simp only[Instr.next,Go.getObj,Sem.run_bind,Sem.run,hr,hb,Result.andThen,next_test_false seen es since since hold (aaH _),abz,if_false]
 unfold leftOf
 have vQ:∀ x∈(Array.filter (fun e => !seen.contains e.born) es).toList,x.born<since:=fun x hx=>hold x (by simp at hx ⊢;exact hx.1)
 generalize Array.filter (fun e => !seen.contains e.born) es=L at vQ ⊢
 have e1:L.filter (fun x=>decide (x.born<since))=L:=Array.filter_eq_self.2 (fun x hx=>by simpa using vQ x (by simpa using hx))
 have e2:L.filter (fun x=>decide (x.born ≥ since)) = #[]:=by
  rw[Array.filter_eq_empty_iff]
  intro x hx
  have:=vQ x (by simpa using hx)
  simp
  omega
 simp only[e1,e2,Array.append_empty]
 by_cases h0:L.size=0
 ·left
  have:L = #[]:=Array.eq_empty_of_size_eq_zero h0
  subst this
  refine⟨rfl,?_⟩
  simp[choose,Sem.run,Question.forced]
 ·right
  have aO:L.isEmpty=false:=by simp[Array.isEmpty,h0]
  simp only[aO,abz,if_false,Array.empty_append,Array.size_map]
  have hch:∃ (j:Nat) (n:Nat),j<L.size/\(choose (Question.mapNext L.size)).run P w = .ok j { w with drawn:=n }:=by
   by_cases hf:L.size<=1
   ·exact⟨0,w.drawn,by omega,by simp[choose,Sem.run,Question.forced,hf]⟩
   ·exact⟨_,_,Nat.mod_lt _ (by omega),by
     simp only[choose,Sem.run,Question.forced,decide_eq_true_eq,hf,if_false,Question.cut]
     rfl⟩
  obtain⟨j,n,hj,iR⟩:=hch
  refine⟨L[j],by simp,n,?_⟩
  have fh:∀ (o':Obj),(Go.setObj r o').run P { w with drawn:=n }=Result.ok () { w with drawn:=n,heap:=w.heap.setIfInBounds r o' }:=fun o'=>by
   simp only[Go.setObj,Sem.run,hr]
  simp only[iR,Array.getElem?_map,afn hj,aek,Sem.run_bind,fh,Result.andThen]
  rfl
theorem ahQ (w:World)(r bm since:Nat)(seen:Array Nat)(es:Array MapEntry)(x:MapEntry)(hr:w.heap[r]? = some (.mapIter (some bm) since (seen.push x.born) since))(hb:w.heap[bm]? = some (.map es since))(he:x∈es.toList)(hn:(es.toList.map (·.born)).Nodup) :
  (Instr.entry (.pointer (some ⟨r,0,none⟩))).run P w = .ok (.tuple #[x.key,x.val]) w:=by
 have hf:es.find? (·.born==x.born)=some x:=by rw[<-Array.find?_toList];exact find_born x es.toList hn he
 simp only[Instr.entry,Go.getObj,Sem.run_bind,Sem.run,hr,hb,Result.andThen,Array.back?_push,bne_self_eq_false,abz,if_false,hf]
 rfl
theorem RH.apJ (h:RH G F W e H w){r:Nat}(o:Obj)(hF:¬ F r)(hr:∀ i a,H.h.get i=some a->e.b i≠r)(n:Nat):RH G F W e H { w with drawn:=n,heap:=w.heap.setIfInBounds r o }:=by
 refine⟨h.N,fun i a hi => ?_,h.inj,h.pY,fun k hk => ?_,h.os,h.tape,h.output,by simp only[Array.size_setIfInBounds];exact h.size,by simp only[Array.size_setIfInBounds];exact h.lA⟩
 ·obtain⟨h1,ob,h2,h3,h4⟩:=h.obj i a hi
  exact⟨h1,ob,by simp only;rw[aeE (fun q=>hr i a hi q.symm)];exact h2,h3,h4⟩
 ·obtain⟨h1,h2⟩:=h.frame k hk
  exact⟨by simp only[Array.size_setIfInBounds];exact h1,by simp only;rw[aeE (fun q=>by subst q;exact hF hk)];exact h2⟩
theorem gH.perm {e:Em}{a b:List ME}(hp:a.Perm b):∀ {fs:List MapEntry},gH e a fs->∃ JP,JP.Perm fs/\gH e b JP:=by
 induction hp with
 | nil=>intro fs h;exact⟨fs,List.Perm.refl _,h⟩
 | @cons x l l' hp ih=>
  intro fs h
  cases fs with
  | nil=>have:=h.1;simp at this
  | cons y fs=>
   obtain⟨JP,h1,h2⟩:=ih (fs:=fs) ⟨by simpa using h.1,fun i m m' hm lN=>h.2 (i+1) m m' (by simpa using hm) (by simpa using lN)⟩
   refine⟨y::JP,h1.cons y,by simp[h2.1],fun i m m' hm lN => ?_⟩
   cases i with
   | zero=>simp at hm lN;subst hm;subst lN;exact h.2 0 x y rfl rfl
   | succ i=>exact h2.2 i m m' (by simpa using hm) (by simpa using lN)
 | swap x y l=>
  intro fs h
  match fs,h with
  | [],h=>have:=h.1;simp at this
  | [_],h=>have:=h.1;simp at this
  | u::v::fs,h=>
   refine⟨v::u::fs,List.Perm.swap _ _ _,by have:=h.1;simpa using this,fun i m m' hm lN => ?_⟩
   match i with
   | 0=>simp at hm lN;subst hm;subst lN;exact h.2 1 x v rfl rfl
   | 1=>simp at hm lN;subst hm;subst lN;exact h.2 0 y u rfl rfl
   | i+2=>exact h.2 (i+2) m m' (by simpa using hm) (by simpa using lN)
 | trans _ _ i1 i2=>
  intro fs h
  obtain⟨f1,a1,b1⟩:=i1 h
  obtain⟨f2,a2,b2⟩:=i2 b1
  exact⟨f2,a2.trans a1,b2⟩
end
namespace K
def tg (t:Tm)(d:Nat):AV:=(t.get d).getD bK
def xG:List ME->Bool
 | []=>true
 | m::r=>(match m.key with | .str k=>r.all (fun x=>match x.key with | .str q => !(q==k) | _=>false) | _=>false)&&xG r
def jI:Nat->List ME->List ME
 | _,[]=>[]
 | c,m::r=>⟨m.key,m.val,c⟩::jI (c+1) r
theorem Vh:∀ (l:List ME) (c:Nat) (m:ME),jI c (l++[m])=jI c l++[⟨m.key,m.val,c+l.length⟩]
 | [],c,m=>rfl
 | x::l,c,m=>by
  show _::jI (c+1) (l++[m])=_
  rw[Vh l (c+1) m,aaN,show c+1+l.length=c+(l.length+1) by omega];rfl
theorem Wn:∀ (l:List ME) (c:Nat) (x:ME),x∈jI c l->∃ m∈l,x.key=m.key
 | [],c,x,h=>by cases h
 | m::l,c,x,h=>by
  rcases aaY.1 h with rfl | h
  ·exact⟨m,.head _,rfl⟩
  ·obtain⟨y,h1,h2⟩:=Wn l (c+1) x h
   exact⟨y,.tail _ h1,h2⟩
theorem KD:∀ (l:List ME) (c:Nat),(jI c l).length=l.length
 | [],_=>rfl
 | m::l,c=>by show (jI (c+1) l).length+1=_;rw[KD l (c+1)];rfl
theorem NK:∀ (l:List ME) (c i:Nat) (x:ME),(jI c l)[i]? = some x->∃ m,l[i]? = some m/\x.key=m.key/\x.val=m.val
 | [],c,i,x,h=>by simp[jI] at h
 | m::l,c,0,x,h=>by
  have:some (⟨m.key,m.val,c⟩:ME)=some x:=h
  cases this;exact⟨m,rfl,rfl,rfl⟩
 | m::l,c,i+1,x,h=>NK l (c+1) i x h
theorem WY {e:Em}{l:List ME}{fs:List MapEntry}(c:Nat):gH e (jI c l) fs↔gH e l fs:=by
 constructor
 ·intro h
  refine⟨by rw[h.1,KD],fun i m m' hm lN => ?_⟩
  have hi:i<(jI c l).length:=by rw[KD];exact (aas.1 hm).1
  obtain⟨y,h1,h2,h3⟩:=NK l c i _ (aau hi)
  rw[hm] at h1;cases h1
  have:=h.2 i _ m' (aau hi) lN
  rw[h2,h3] at this;exact this
 ·intro h
  refine⟨by rw[h.1,KD],fun i m m' hm lN => ?_⟩
  obtain⟨y,h1,h2,h3⟩:=NK l c i _ hm
  have:=h.2 i y m' h1 lN
  rw[h2,h3];exact this
def Dt (a b:ME):Prop:=∃ k q,a.key = .str k/\b.key = .str q/\q≠k
theorem Dt.symm {a b:ME}(h:Dt a b):Dt b a:=by obtain⟨k,q,h1,h2,h3⟩:=h;exact⟨q,k,h2,h1,fun e=>h3 e.symm⟩
theorem abm:∀ {l:List ME},xG l=true->l.Pairwise Dt/\∀ m∈l,∃ k,m.key = .str k
 | [],_=>⟨.nil,fun m h=>by cases h⟩
 | m::l,h=>by
  unfold xG at h
  rw[aaG] at h
  obtain⟨h1,h2⟩:=h
  obtain⟨a,b⟩:=abm h2
  split at h1
  ·rename_i k hk
   refine⟨List.pairwise_cons.2 ⟨fun x hx => ?_,a⟩,fun x hx => ?_⟩
   ·have:=adY.1 h1 x hx
    split at this
    ·rename_i q hq
     exact⟨k,q,hk,hq,by simpa using this⟩
    ·cases this
   ·rcases aaY.1 hx with rfl | hx
    ·exact⟨k,hk⟩
    ·exact b x hx
  ·cases h1
def Cb (k:Nat)(c f:AV)(H:Hp):Option Hp:=
 match c,f with
 | .ptr ci co,.ptr fi fo=>
  match cellAt H ci (co+k),cellAt H fi (fo+k) with
  | some (.map cm),some (.map fm)=>
   match H.h.get cm,H.h.get fm with
   | some (.map [] q),some (.map es _)=>bif xG es&&!(Nat.beq cm fm) then some ⟨H.h.bO cm (.map (jI q es) (q+es.length)),H.next+1⟩ else none
   | _,_=>none
  | _,_=>none
 | _,_=>none
def Qf (k c f:Nat):Tm->Hp->Option Hp:=fun t H=>Cb k (tg t c) (tg t f) H
theorem af5 {k:Nat}{c f:AV}{H H2:Hp}(h:Cb k c f H=some H2):∃ ci co fi fo cm fm q es z,c = .ptr ci co/\f = .ptr fi fo/\cellAt H ci (co+k)=some (.map cm)/\cellAt H fi (fo+k)=some (.map fm)/\H.h.get cm=some (.map [] q)/\H.h.get fm=some (.map es z)/\xG es=true/\cm≠fm/\
  H2=⟨H.h.bO cm (.map (jI q es) (q+es.length)),H.next+1⟩:=by
 unfold Cb at h
 split at h
 ·rename_i ci co fi fo
  split at h
  ·rename_i cm fm h1 h2
   split at h
   ·rename_i q es z h3 h4
    cases hb:(xG es&&!(Nat.beq cm fm)) with
    | false=>rw[hb] at h;cases h
    | true=>
     rw[hb] at h
     rw[aaG] at hb
     refine⟨ci,co,fi,fo,cm,fm,q,es,z,rfl,rfl,h1,h2,h3,h4,hb.1,fun e => ?_,(adw h).symm⟩
     subst e
     have:=hb.2
     rw[ahj] at this
     cases this
   ·cases h
  ·cases h
 ·cases h
section
variable {P:Program}{F:Nat->Prop}{W:World}{e:Em}{H:Hp}{w:World}
theorem lR.put {n:Nat}{t t':Tm}{a:Act}(h:lR e n t a){dst:Option Tmp}{v:AV}{v':Value}(hp:gI n dst v t=some t')(hv:VR e v v'):lR e n t' (a.put dst v'):=by
 refine⟨h.1.put hp hv,fun d hd => ?_⟩
 unfold gI at hp
 split at hp
 ·cases hp;exact h.2 d hd
 ·rename_i x
  cases hb:(Nat.blt x n&&Nat.blt x 4294967296) with
  | false=>rw[hb] at hp;cases hp
  | true=>
   rw[hb] at hp
   cases hp
   simp only[aaG,ad5] at hb
   rw[Tr.GB _ _ _ _ _ (by omega),if_neg (by omega)]
   exact h.2 d hd
theorem lR.mono {e':Em}(h:e.le e'){n:Nat}{t:Tm}{a:Act}(k:lR e n t a):lR e' n t a:=⟨k.1.mono h,k.2⟩
theorem om {cf:CF}(gr:rX P cf){ops:Array Oper}{i:Nat}{o:Oper}(hi:ops[i]? = some o)(hg:o.guard=none){n:Nat}{t t':Tm}{H':Hp}{v:AV}(ho:pB P cf t o H=some (v,H'))(hp:gI n o.dst v t=some t'){a:Act}{rest:List Nat}{Q:Exit->Act->World->Prop}
  (hR:RH P.globals.size F W e H w) (hT:lR e n t a) (hn:∀ e' a' w',e.le e'->RH P.globals.size F W e' H' w'->lR e' n t' a'->a'.defers=a.defers->wpOps P ops Q rest a' w'):wpOps P ops Q (i::rest) a w:=by
 have hw:oQ ops o t=some true:=by unfold oQ;rw[hg]
 simp only[wpOps,hi,Lc (e:=e) (a:=a) hw (fun d _=>hT.1.val d),if_true]
 left
 exact FJ gr hR ho (fun x _=>VR.ev hR hT.1 x) fun e' v' w' he bA hv=>hn e' _ w' he bA ((hT.mono he).put hp hv) (by cases o.dst<;>rfl)
theorem Kr {ops:Array Oper}{i:Nat}{o:Oper}(hi:ops[i]? = some o)(hg:o.guard=none){a:Act}{rest:List Nat}{Q:Exit->Act->World->Prop}{v':Value}{w':World}
  (hx:(execOp a.eval o).run P w = .ok (.value v') w') (hn:wpOps P ops Q rest (a.put o.dst v') w'):wpOps P ops Q (i::rest) a w:=by
 have hw:Region.wanted o (yielded ops a.tmps)=true:=by unfold Region.wanted;simp[hg]
 simp only[wpOps,hi,hw,if_true]
 left
 unfold Oper.wp
 rw[hx]
 exact hn
theorem ZO {σ:Operand->Value}{o:Oper}{it:Operand}(ho:o.op = .next it false){v':Value}{w':World}(h:(Instr.next (σ it) false o.type).run P w = .ok v' w'):(execOp σ o).run P w = .ok (.value v') w':=by
 unfold execOp;rw[ho];simp[h]
theorem amO {σ:Operand->Value}{o:Oper}{it:Operand}(ho:o.op = .entry it){v':Value}{w':World}(h:(Instr.entry (σ it)).run P w = .ok v' w'):(execOp σ o).run P w = .ok (.value v') w':=by
 unfold execOp;rw[ho];simp[h]
theorem apQ {σ:Operand->Value}{o:Oper}{ty:TypeId}{x:Operand}(ho:o.op = .range ty x){v':Value}{w':World}(h:(Instr.range ty (σ x)).run P w = .ok v' w'):(execOp σ o).run P w = .ok (.value v') w':=by
 unfold execOp;rw[ho];simp[h]
end
end K
end Go.Proofs.YtodfajmihkagnaaGreatDoor.Am
