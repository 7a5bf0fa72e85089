/- Regions with continuations, and loops (of no program). -/
import Derived.Test.YtodfajmihkagnaaGreatDoorAm11
import Derived.Laws.IdiomRangeMap
set_option linter.unusedVariables false
set_option linter.unusedSimpArgs false
namespace Go.Proofs.YtodfajmihkagnaaGreatDoor.Am
set_option linter.unusedVariables false
set_option linter.unusedSimpArgs false
namespace K
section
variable (P:Program)
def uJ (n:Nat) (dst:Option Tmp):Bool:=match dst with | none=>true | some d=>Nat.blt d n&&Nat.blt d 4294967296
def gq (dst:Option Tmp) (v:AV) (t:Tm):Tm:=match dst with | none=>t | some d=>t.put 34 d v
def gv (ops:Array Oper) (j:Nat) (t:Tm):AV:=match (ops[j]?).bind (·.dst) with | none=>bS | some d=>(t.get d).getD bS
def wv (want:Bool) (g:AV):Option Bool:=match g with | .bool b=>some (b==want) | .du=>none | _=>some false
def GO (g:AV) (want:Bool) (f:(AV->Hp->R)->R) (k:AV->Hp->R) (H:Hp):R:=match wv want g with | some true=>f k | some false=>k bS H | none=>none
def SM (a b:AV) (x:R):R:=bif same a b then x else none
def uK (cf:CF) (n:Nat) (ops:Array Oper):List Oper->Tm->Hp->KN->R
 | [],t,H,k=>k t H
 | o::r,t,H,k=>bif uJ n o.dst then (match o.guard with
   | none=>et P cf o t H fun v H=>uK cf n ops r (gq o.dst v t) H k
   | some (j,want)=>GO (gv ops j t) want (fun k'=>et P cf o t H k') (fun v H=>uK cf n ops r (gq o.dst v t) H k) H) else none
def ig:CF:=fun _ _ _=>none
def nU (s:jH) (x:R):List jH->R
 | []=>x
 | r::l=>match r.k with
  | .pure=>nU s x l
  | .read=>bif Nat.blt r.i s.i then (bif s.b.testBit r.i then nU s x l else et P ig r.o r.t s.ha fun v _=>SM r.v v (nU s x l))
    else (bif r.b.testBit s.i then nU s x l else et P ig r.o r.t s.hb fun v _=>SM r.v v (nU s x l))
  | _=>bif !(Nat.blt r.i s.i)||s.b.testBit r.i then nU s x l else none
def vG (all:List jH) (x:R):List jH->R
 | []=>x
 | s::l=>match s.k with
  | .dE=>nU P s (vG all x l) all
  | _=>vG all x l
def sY:List (Nat × AV)->Nat->Option AV
 | [],_=>none
 | (e,v)::r,d=>bif Nat.beq e d then some v else sY r d
def nb:List (Nat × AV)->Option Tmp->List (Nat × AV)
 | kn,none=>kn
 | [],some _=>[]
 | (e,v)::r,some d=>bif Nat.beq e d then nb r (some d) else (e,v)::nb r (some d)
def E8 (kn:List (Nat × AV)):Option Tmp->List (Nat × AV)
 | none=>kn
 | some d=>(d,bS)::nb kn (some d)
def n0 (g:AV) (want:Bool) (x y:R):R:=match g with | .bool b=>bif b==want then x else y | _=>none
def kj (cf:CF) (n:Nat) (ops:Array Oper):Nat->List Oper->List Nat->List (Nat × AV)->Tm->Tm->Hp->Hp->List jH->KN->R
 | _,[],_,_,_,te,_,h,acc,k=>vG P acc (k te h) acc
 | _,_::_,[],_,_,_,_,_,_,_=>none
 | i,o::r,b::bs,kn,tp,te,hb,h,acc,k=>bif uJ n o.dst then
   let go:List (Nat × AV)->Tm->R:=fun kn tp=>match kd P o with
    | .late=>et P ig o te h fun v h'=>kj cf n ops (i+1) r bs (nb kn o.dst) (gq o.dst .du tp) (gq o.dst v te) hb h' (acc++[⟨i,o,b,true,.late,v,tp,hb,hb⟩]) k
    | .dE=>et P cf o te h fun v h'=>kj cf n ops (i+1) r bs (nb kn o.dst) (gq o.dst v tp) (gq o.dst v te) h' h' (acc++[⟨i,o,b,true,.dE,v,tp,hb,h'⟩]) k
    | .pure=>et P ig o tp hb fun v _=>kj cf n ops (i+1) r bs (nb kn o.dst) (gq o.dst v tp) (gq o.dst v te) hb h (acc++[⟨i,o,b,true,.pure,v,tp,hb,hb⟩]) k
    | .read=>et P ig o tp hb fun v _=>kj cf n ops (i+1) r bs (nb kn o.dst) (gq o.dst v tp) (gq o.dst v te) hb h (acc++[⟨i,o,b,true,.read,v,tp,hb,hb⟩]) k
   let skip:List (Nat × AV)->Tm->R:=fun kn tp=>kj cf n ops (i+1) r bs (E8 kn o.dst) (gq o.dst bS tp) (gq o.dst bS te) hb h (acc++[⟨i,o,b,false,.pure,bS,tp,hb,hb⟩]) k
   match o.guard with
   | none=>go kn tp
   | some (j,want)=>match (ops[j]?).bind (·.dst) with
    | none=>skip kn tp
    | some d=>match sY kn d with
     | some c=>(match wv want c with | some true=>go kn tp | some false=>skip kn tp | none=>none)
     | none=>n0 ((tp.get d).getD bS) want (go ((d,.bool want)::kn) (gq (some d) (.bool want) tp)) (skip ((d,.bool !want)::kn) (gq (some d) (.bool !want) tp))
  else none
def qQ:qZ:=fun cf n ops d t H k=>bif d then (bif wj ops then kj P cf n ops 0 ops.toList (before ops.toList []) [] t t H H [] k else none) else uK P cf n ops ops.toList t H k
end
section
variable {P:Program}
theorem zX {n:Nat} {dst:Option Tmp} {v:AV} {t:Tm} (h:uJ n dst=true):gG n dst v t=some (gq dst v t):=by
 unfold gG gq
 cases dst with
 | none=>rfl
 | some d=>
  have h':(Nat.blt d n&&Nat.blt d 4294967296)=true:=h
  simp only[h',cond_true]
theorem YW {ops:Array Oper} {o:Oper} {t:Tm} {j:Nat} {want:Bool} (h:o.guard=some (j,want)):pz ops o t=wv want (gv ops j t):=by
 unfold pz gv
 rw[h]
 simp only
 cases (ops[j]?).bind (·.dst) with
 | none=>rfl
 | some d=>
  simp only
  cases t.get d with
  | none=>rfl
  | some a=>cases a<;>rfl
theorem QK {cf:CF} {n:Nat} {ops:Array Oper}:∀ (l:List Oper) (t:Tm) (H:Hp) (k:KN) (r:AV × Hp),uK P cf n ops l t H k=some r->∃ t' H',rI P cf n ops l t H=some (t',H')/\k t' H'=some r
 | [],t,H,k,r,h=>⟨t,H,rfl,h⟩
 | o::l,t,H,k,r,h=>by
  unfold uK at h
  cases hd:uJ n o.dst with
  | false=>rw[hd] at h;cases h
  | true=>
   rw[hd] at h
   simp only[cond_true] at h
   have run:∀ (v:AV) (H':Hp),oU P cf t o H=some (v,H')->pz ops o t=some true->uK P cf n ops l (gq o.dst v t) H' k=some r->∃ t' H',rI P cf n ops (o::l) t H=some (t',H')/\k t' H'=some r:=by
    intro v H' h1 h2 h3
    obtain⟨t2,H2,q1,q2⟩:=QK l _ _ k r h3
    refine⟨t2,H2,?_,q2⟩
    unfold rI
    rw[h2]
    simp only[h1,zX hd]
    exact q1
   cases hg:o.guard with
   | none=>
    rw[hg] at h
    obtain⟨v,H',h1,h2⟩:=IB h
    exact run v H' h1 (by unfold pz;rw[hg]) h2
   | some p=>
    obtain⟨j,want⟩:=p
    rw[hg] at h
    simp only at h
    unfold GO at h
    rw[<-YW (o:=o) hg] at h
    cases hw:pz ops o t with
    | none=>rw[hw] at h;cases h
    | some b=>
     rw[hw] at h
     cases b with
     | true=>
      simp only at h
      obtain⟨v,H',h1,h2⟩:=IB h
      exact run v H' h1 hw h2
     | false=>
      simp only at h
      obtain⟨t2,H2,q1,q2⟩:=QK l _ _ k r h
      refine⟨t2,H2,?_,q2⟩
      unfold rI
      rw[hw]
      simp only[zX hd]
      exact q1
theorem IG {o:Oper} {t:Tm} {H:Hp} {k:AV->Hp->R} {r:AV × Hp} (h:et P ig o t H k=some r):∃ v H',iJ P (ev P.globals.size t) o H=some (v,H')/\k v H'=some r:=by
 obtain⟨v,H',h1,h2⟩:=IB h
 refine⟨v,H',?_,h2⟩
 unfold oU at h1
 split at h1
 ·cases h1
 ·exact h1
theorem yS {s:jH} {x:R} {r:AV × Hp}:∀ (l:List jH),nU P s x l=some r->(l.all fun q=>match q.k with
   | .dE | .late => !(Nat.blt q.i s.i)||s.b.testBit q.i
   | .read=>bif Nat.blt q.i s.i then s.b.testBit q.i||tQ P q s.ha else q.b.testBit s.i||tQ P q s.hb
   | .pure=>true)=true/\x=some r
 | [],h=>⟨rfl,h⟩
 | q::l,h=>by
  unfold nU at h
  rw[List.all_cons,aa9]
  have rd:∀ (Hx:Hp),(et P ig q.o q.t Hx fun v _=>SM q.v v (nU P s x l))=some r->tQ P q Hx=true/\nU P s x l=some r:=by
   intro Hx hx
   obtain⟨v,H',h1,h2⟩:=IG hx
   unfold SM at h2
   cases hs:same q.v v with
   | false=>rw[hs] at h2;cases h2
   | true=>
    rw[hs] at h2
    refine⟨?_,h2⟩
    unfold tQ
    rw[h1]
    exact hs
  cases hk:q.k with
  | pure=>
   rw[hk] at h
   obtain⟨a,b⟩:=yS l h
   exact⟨⟨rfl,a⟩,b⟩
  | read=>
   rw[hk] at h
   simp only at h ⊢
   cases hb:Nat.blt q.i s.i with
   | true=>
    rw[hb] at h
    simp only[cond_true] at h ⊢
    cases ht:s.b.testBit q.i with
    | true=>
     rw[ht] at h
     obtain⟨a,b⟩:=yS l h
     exact⟨⟨rfl,a⟩,b⟩
    | false=>
     rw[ht] at h
     obtain⟨c,d⟩:=rd _ h
     obtain⟨a,b⟩:=yS l d
     exact⟨⟨by rw[c];rfl,a⟩,b⟩
   | false=>
    rw[hb] at h
    simp only[cond_false] at h ⊢
    cases ht:q.b.testBit s.i with
    | true=>
     rw[ht] at h
     obtain⟨a,b⟩:=yS l h
     exact⟨⟨rfl,a⟩,b⟩
    | false=>
     rw[ht] at h
     obtain⟨c,d⟩:=rd _ h
     obtain⟨a,b⟩:=yS l d
     exact⟨⟨by rw[c];rfl,a⟩,b⟩
  | late=>
   rw[hk] at h
   simp only at h ⊢
   cases hb:(!(Nat.blt q.i s.i)||s.b.testBit q.i) with
   | false=>rw[hb] at h;cases h
   | true=>
    rw[hb] at h
    obtain⟨a,b⟩:=yS l h
    exact⟨⟨rfl,a⟩,b⟩
  | dE=>
   rw[hk] at h
   simp only at h ⊢
   cases hb:(!(Nat.blt q.i s.i)||s.b.testBit q.i) with
   | false=>rw[hb] at h;cases h
   | true=>
    rw[hb] at h
    obtain⟨a,b⟩:=yS l h
    exact⟨⟨rfl,a⟩,b⟩
theorem GI {all:List jH} {x:R} {r:AV × Hp}:∀ (l:List jH),vG P all x l=some r->(l.all fun s=>match s.k with
  | .dE=>all.all fun q=>match q.k with
   | .dE | .late => !(Nat.blt q.i s.i)||s.b.testBit q.i
   | .read=>bif Nat.blt q.i s.i then s.b.testBit q.i||tQ P q s.ha else q.b.testBit s.i||tQ P q s.hb
   | .pure=>true
  | _=>true)=true/\x=some r
 | [],h=>⟨rfl,h⟩
 | s::l,h=>by
  unfold vG at h
  rw[List.all_cons,aa9]
  cases hk:s.k with
  | dE=>
   rw[hk] at h
   obtain⟨a,b⟩:=yS all h
   obtain⟨c,d⟩:=GI l b
   exact⟨⟨a,c⟩,d⟩
  | pure=>rw[hk] at h;obtain⟨c,d⟩:=GI l h;exact⟨⟨rfl,c⟩,d⟩
  | read=>rw[hk] at h;obtain⟨c,d⟩:=GI l h;exact⟨⟨rfl,c⟩,d⟩
  | late=>rw[hk] at h;obtain⟨c,d⟩:=GI l h;exact⟨⟨rfl,c⟩,d⟩
def sZ (kn:List (Nat × AV)) (t:Tm):Prop:=∀ d v,sY kn d=some v->t.get d=some v
theorem N7:∀ (kn:List (Nat × AV)) (x d:Nat) (v:AV),sY (nb kn (some x)) d=some v->d≠x/\sY kn d=some v
 | [],x,d,v,h=>by cases h
 | (e,u)::r,x,d,v,h=>by
  unfold nb at h
  by_cases he:e=x
  ·subst he
   rw[uV,cond_true] at h
   obtain⟨a,b⟩:=N7 r e d v h
   refine⟨a,?_⟩
   unfold sY
   rw[nY (Ne.symm a)];exact b
  ·rw[nY he,cond_false] at h
   unfold sY at h ⊢
   by_cases hd:e=d
   ·subst hd
    rw[uV] at h ⊢
    exact⟨he,h⟩
   ·rw[nY hd] at h ⊢
    exact N7 r x d v h
theorem sZ.put {kn:List (Nat × AV)} {t:Tm} (h:sZ kn t) (dst:Option Tmp) (v:AV):sZ (nb kn dst) (gq dst v t):=by
 cases dst with
 | none=>intro d u hd;cases kn<;>exact h d u hd
 | some x=>
  intro d u hd
  obtain⟨a,b⟩:=N7 kn x d u hd
  show (t.put 34 x v).get d=some u
  rw[Tr.put,Tr.fj,if_neg a]
  exact h d u b
theorem sZ.aiv {kn:List (Nat × AV)} {t:Tm} (h:sZ kn t) (dst:Option Tmp):sZ (E8 kn dst) (gq dst bS t):=by
 cases dst with
 | none=>exact h
 | some x=>
  intro d u hd
  unfold E8 sY at hd
  by_cases hx:x=d
  ·subst hx
   rw[uV] at hd
   cases hd
   show (t.put 34 x bS).get x=some bS
   rw[Tr.put,Tr.fj,if_pos rfl]
  ·rw[nY hx] at hd
   exact (h.put (some x) bS) d u hd
theorem sZ.cons {kn:List (Nat × AV)} {t:Tm} (h:sZ kn t) {d:Nat} {v:AV} (hv:t.get d=some v):sZ ((d,v)::kn) t:=by
 intro e u he
 unfold sY at he
 by_cases hx:d=e
 ·subst hx
  rw[uV] at he
  cases he;exact hv
 ·rw[nY hx] at he
  exact h e u he
theorem Gp {α:Type} {x:α}:∀ (p:Pa) (t:Tr α),Tr.qU p t=some x->Tr.ko p (some x) t=t
 | .e,.nil,h=>by cases h
 | .e,.node v k0 k1 k2 k3,h=>by cases h;rfl
 | .a p,.nil,h=>by rw[Tr.wg] at h;cases h
 | .b p,.nil,h=>by rw[Tr.wg] at h;cases h
 | .c p,.nil,h=>by rw[Tr.wg] at h;cases h
 | .d p,.nil,h=>by rw[Tr.wg] at h;cases h
 | .a p,.node v k0 k1 k2 k3,h=>congrArg (fun k=>Tr.node v k k1 k2 k3) (Gp p k0 h)
 | .b p,.node v k0 k1 k2 k3,h=>congrArg (fun k=>Tr.node v k0 k k2 k3) (Gp p k1 h)
 | .c p,.node v k0 k1 k2 k3,h=>congrArg (fun k=>Tr.node v k0 k1 k k3) (Gp p k2 h)
 | .d p,.node v k0 k1 k2 k3,h=>congrArg (fun k=>Tr.node v k0 k1 k2 k) (Gp p k3 h)
theorem Zx {t:Tm} {d:Nat} {v:AV} (h:t.get d=some v):gq (some d) v t=t:=Gp (pathOf d) t h
theorem Du {cf:CF} {n:Nat} {ops:Array Oper}:∀ (l:List Oper) (i:Nat) (bs:List Nat) (kn:List (Nat × AV)) (tp te:Tm) (hb h:Hp) (acc:List jH) (k:KN) (r:AV × Hp),sZ kn tp->kj P cf n ops i l bs kn tp te hb h acc k=some r->
  ∃ s t' H',kX P cf n ops i l bs tp te hb h=some (s,t',H')/\zD P (acc++s)=true/\k t' H'=some r
 | [],i,bs,kn,tp,te,hb,h,acc,k,r,fT,hr=>by
  unfold kj at hr
  obtain⟨a,b⟩:=GI acc hr
  refine⟨[],te,h,by unfold kX;rfl,?_,b⟩
  rw[agh]
  exact a
 | o::l,i,[],kn,tp,te,hb,h,acc,k,r,fT,hr=>by unfold kj at hr;cases hr
 | o::l,i,b::bs,kn,tp,te,hb,h,acc,k,r,fT,hr=>by
  unfold kj at hr
  cases hd:uJ n o.dst with
  | false=>rw[hd] at hr;cases hr
  | true=>
   rw[hd] at hr
   simp only[cond_true] at hr
   have go:∀ kn,sZ kn tp->pz ops o tp=some true->(match kd P o with
    | .late=>et P ig o te h fun v h'=>kj P cf n ops (i+1) l bs (nb kn o.dst) (gq o.dst .du tp) (gq o.dst v te) hb h' (acc++[⟨i,o,b,true,.late,v,tp,hb,hb⟩]) k
    | .dE=>et P cf o te h fun v h'=>kj P cf n ops (i+1) l bs (nb kn o.dst) (gq o.dst v tp) (gq o.dst v te) h' h' (acc++[⟨i,o,b,true,.dE,v,tp,hb,h'⟩]) k
    | .pure=>et P ig o tp hb fun v _=>kj P cf n ops (i+1) l bs (nb kn o.dst) (gq o.dst v tp) (gq o.dst v te) hb h (acc++[⟨i,o,b,true,.pure,v,tp,hb,hb⟩]) k
    | .read=>et P ig o tp hb fun v _=>kj P cf n ops (i+1) l bs (nb kn o.dst) (gq o.dst v tp) (gq o.dst v te) hb h (acc++[⟨i,o,b,true,.read,v,tp,hb,hb⟩]) k)=some r->
     ∃ s t' H',kX P cf n ops i (o::l) (b::bs) tp te hb h=some (s,t',H')/\zD P (acc++s)=true/\k t' H'=some r:=by
    intro kn fT hw hr
    cases hk:kd P o with
    | late=>
     rw[hk] at hr
     obtain⟨v,h',h1,h2⟩:=IG hr
     obtain⟨s,t',H',q1,q2,q3⟩:=Du l _ _ _ _ _ _ _ _ k r (fT.put _ _) h2
     refine⟨_,t',H',?_,by rw[aea] at q2;exact q2,q3⟩
     unfold kX
     simp only[hw,hk,h1,zX hd,q1]
     rfl
    | dE=>
     rw[hk] at hr
     obtain⟨v,h',h1,h2⟩:=IB hr
     obtain⟨s,t',H',q1,q2,q3⟩:=Du l _ _ _ _ _ _ _ _ k r (fT.put _ _) h2
     refine⟨_,t',H',?_,by rw[aea] at q2;exact q2,q3⟩
     unfold kX
     simp only[hw,hk,h1,zX hd,q1]
     rfl
    | pure=>
     rw[hk] at hr
     obtain⟨v,h',h1,h2⟩:=IG hr
     obtain⟨s,t',H',q1,q2,q3⟩:=Du l _ _ _ _ _ _ _ _ k r (fT.put _ _) h2
     refine⟨_,t',H',?_,by rw[aea] at q2;exact q2,q3⟩
     unfold kX
     simp only[hw,hk,h1,zX hd,q1]
     rfl
    | read=>
     rw[hk] at hr
     obtain⟨v,h',h1,h2⟩:=IG hr
     obtain⟨s,t',H',q1,q2,q3⟩:=Du l _ _ _ _ _ _ _ _ k r (fT.put _ _) h2
     refine⟨_,t',H',?_,by rw[aea] at q2;exact q2,q3⟩
     unfold kX
     simp only[hw,hk,h1,zX hd,q1]
     rfl
   have skip:∀ kn,sZ kn tp->pz ops o tp=some false->kj P cf n ops (i+1) l bs (E8 kn o.dst) (gq o.dst bS tp) (gq o.dst bS te) hb h (acc++[⟨i,o,b,false,.pure,bS,tp,hb,hb⟩]) k=some r->
     ∃ s t' H',kX P cf n ops i (o::l) (b::bs) tp te hb h=some (s,t',H')/\zD P (acc++s)=true/\k t' H'=some r:=by
    intro kn fT hw hr
    obtain⟨s,t',H',q1,q2,q3⟩:=Du l _ _ _ _ _ _ _ _ k r (fT.aiv _) hr
    refine⟨_,t',H',?_,by rw[aea] at q2;exact q2,q3⟩
    unfold kX
    simp only[hw,zX hd,q1]
    rfl
   cases hg:o.guard with
   | none=>
    rw[hg] at hr
    exact go kn fT (by unfold pz;rw[hg]) hr
   | some p=>
    obtain⟨j,want⟩:=p
    rw[hg] at hr
    simp only at hr
    have ux:=YW (ops:=ops) (o:=o) (t:=tp) hg
    unfold gv at ux
    cases hj:(ops[j]?).bind (·.dst) with
    | none=>
     rw[hj] at hr ux
     exact skip kn fT ux hr
    | some d=>
     rw[hj] at hr ux
     simp only at hr ux
     cases hl:sY kn d with
     | some c=>
      rw[hl] at hr
      simp only at hr
      rw[fT d c hl,ae0] at ux
      cases hw:wv want c with
      | none=>rw[hw] at hr;cases hr
      | some q=>
       rw[hw] at hr ux
       cases q with
       | true=>exact go kn fT ux hr
       | false=>exact skip kn fT ux hr
     | none=>
      rw[hl] at hr
      simp only at hr
      unfold n0 at hr
      cases ht:tp.get d with
      | none=>rw[ht] at hr;cases hr
      | some v=>
       rw[ht,ae0] at hr ux
       cases v<;>first | (cases hr;done) | skip
       rename_i q
       simp only at hr
       have Jr:pz ops o tp=some (q==want):=ux
       cases hq:(q==want) with
       | true=>
        rw[hq] at hr Jr
        have:q=want:=by simpa using hq
        subst this
        rw[Zx ht] at hr
        exact go _ (fT.cons ht) Jr hr
       | false=>
        rw[hq] at hr Jr
        have:q = !want:=by cases q<;>cases want<;>simp_all
        subst this
        rw[Zx ht] at hr
        exact skip _ (fT.cons ht) Jr hr
theorem adC:B8 P (qQ P):=by
 intro cf n ops d t H k r h
 unfold qQ at h
 cases d with
 | false=>
  simp only[cond_false] at h ⊢
  exact QK _ _ _ _ _ h
 | true=>
  simp only[cond_true] at h ⊢
  cases hr:wj ops with
  | false=>rw[hr] at h;cases h
  | true=>
   rw[hr] at h
   simp only[cond_true] at h
   obtain⟨s,t',H',q1,q2,q3⟩:=Du _ _ _ _ _ _ _ _ _ _ _ (fun d v hd=>by cases hd) h
   refine⟨t',H',?_,q3⟩
   unfold Bh
   rw[hr]
   simp only[cond_true,q1]
   rw[ahr] at q2
   rw[q2];rfl
def Ra:AV->Hp->R:=fun v H=>some (v,H)
theorem jE {α:Type} (o:Option α) (f:α->R) (g:AV × Hp->R):(B1 o f).bind g=B1 o fun v=>(f v).bind g:=by cases o<;>rfl
theorem uo (o:Option (AV × Hp)) (f:AV->Hp->R) (g:AV × Hp->R):(B2 o f).bind g=B2 o fun v H=>(f v H).bind g:=by cases o<;>rfl
theorem Lg (o:Option (Nat × Hp)) (f:Nat->Hp->R) (g:AV × Hp->R):(BN o f).bind g=BN o fun i H=>(f i H).bind g:=by cases o<;>rfl
theorem afv {op:BinOp} {t:TypeId} {X Y:Operand} {x y:AV} {H:Hp} (f:AV->R) (g:AV × Hp->R):(Di P op t X Y x y H f).bind g=Di P op t X Y x y H fun v=>(f v).bind g:=by
 unfold Di
 split<;>first | exact jE _ _ _ | skip
 cases gA P op t (uv X||uv Y) x y with
 | false=>rfl
 | true=>exact jE _ _ _
theorem akE {a b:TypeId} {x:AV} {H:Hp} (f:AV->Hp->R) (g:AV × Hp->R):(Dw P a b x H f).bind g=Dw P a b x H fun v H=>(f v H).bind g:=by
 unfold Dw
 split<;>first | exact jE _ _ _ | exact uo _ _ _ | (split<;>first | exact jE _ _ _ | exact uo _ _ _ | rfl)
theorem adT {t:TypeId} {x:AV} {lo hi mx:Option AV} {H:Hp} (f:AV->R) (g:AV × Hp->R):(Ck P t x lo hi mx H f).bind g=Ck P t x lo hi mx H fun v=>(f v).bind g:=by
 unfold Ck
 split<;>first | exact jE _ _ _ | (split<;>first | exact jE _ _ _ | rfl)
theorem agS {b:Builtin} {ty:Array TypeId} {args:List AV} {H:Hp} (f:AV->Hp->R) (g:AV × Hp->R):(CU P b ty args H f).bind g=CU P b ty args H fun v H=>(f v H).bind g:=by
 unfold CU
 split
 ·split<;>first | exact jE _ _ _ | exact uo _ _ _
 ·split<;>first | rfl | skip
  split<;>first | rfl | skip
  rename_i z _ _
  cases (Nat.ble (P.bytesOf _) 4096&&Nat.beq _ _) with
  | false=>rfl
  | true=>exact uo _ _ _
 ·split<;>first | rfl | skip
  split<;>first | exact uo _ _ _ | rfl
 ·split<;>first | rfl | skip
  split<;>first | exact jE _ _ _ | exact uo _ _ _
 ·exact uo _ _ _
theorem an7 {cf:CF} {o:Oper} {t:Tm} {H:Hp} (f:AV->Hp->R) (g:AV × Hp->R):(et P cf o t H f).bind g=et P cf o t H fun v H=>(f v H).bind g:=by
 obtain⟨dst,op,SQ,pos,after,guard⟩:=o
 cases op<;>unfold et<;>simp only
 case pick=>exact jE _ _ _
 case alloc=>split<;>first | exact Lg _ _ _ | rfl
 case box=>exact Lg _ _ _
 case build=>
  split
  ·split<;>first | rfl | skip
   split<;>first | exact jE _ _ _ | rfl
  ·split<;>first | exact jE _ _ _ | rfl
  ·rfl
 case buildSlice=>
  split<;>first | rfl | skip
  split<;>first | rfl | skip
  cases Nat.ble _ 65536 with
  | false=>rfl
  | true=>
   simp only[cond_true]
   split<;>first | rfl | skip
   rw[jE]
   congr 1
   funext l
   exact Lg _ _ _
 case insert=>split<;>first | rfl | (split<;>exact jE _ _ _)
 case mapUpdate=>split<;>first | rfl | (split<;>exact jE _ _ _)
 case load=>split<;>first | exact jE _ _ _ | rfl
 case store=>split<;>first | exact jE _ _ _ | rfl
 case nilCheck=>exact jE _ _ _
 case binOp=>exact afv _ _
 case unOp=>exact jE _ _ _
 case convert=>exact akE _ _
 case makeInterface=>split<;>rfl
 case makeFunc=>split<;>rfl
 case makeMap ty x=>cases x<;>first | exact Lg _ _ _ | rfl
 case makeSlice=>
  split<;>first | rfl | skip
  split<;>first | rfl | skip
  cases (Nat.ble (P.bytesOf _) 4096&&Nat.beq _ _) with
  | false=>rfl
  | true=>exact uo _ _ _
 case slice=>exact adT _ _
 case fieldAddr=>split<;>first | exact jE _ _ _ | rfl
 case field=>
  split<;>first | rfl | skip
  split<;>first | rfl | skip
  split<;>first | exact jE _ _ _ | rfl
 case indexAddr=>
  split<;>first | rfl | skip
  ·split<;>first | exact jE _ _ _ | rfl
  ·split<;>first | exact jE _ _ _ | rfl
 case index=>split<;>exact jE _ _ _
 case lookup=>
  split<;>first | rfl | skip
  split<;>exact jE _ _ _
 case range=>exact uo _ _ _
 case next=>exact uo _ _ _
 case entry=>rfl
 case extract=>exact jE _ _ _
 case typeAssert=>split<;>first | exact jE _ _ _ | rfl
 case call c=>
  obtain⟨callee,args,qM⟩:=c
  cases callee with
  | value f=>exact uo _ _ _
  | invoke r m=>rfl
  | builtin b=>exact agS _ _
 all_goals rfl
theorem YV {cf:CF} {o:Oper} {t:Tm} {H:Hp} (k:AV->Hp->R):et P cf o t H k=(et P cf o t H Ra).bind fun p=>k p.1 p.2:=by
 rw[an7];rfl
theorem aeV {cf : CF} {o : Oper} {t : Tm} {H : Hp} {k : AV -> Hp -> R} {r : AV × Hp} (h : et P cf o t H k = some r) :
    ∃ v H', k v H' = some r /\ ∀ di : Nat -> CF, rQ di cf -> Ev fun j => ∀ k', et P (di j) o t H k' = k' v H' := by
  rw[YV, abz] at h
  obtain⟨⟨v, H'⟩, h1, h2⟩ := h
  refine⟨v, H', h2, fun di gj => ?_⟩
  have key : Ev fun j => et P (di j) o t H Ra = some (v, H') := by
    obtain⟨dst, op, SQ, pos, after, guard⟩ := o
    cases op
    case makeMap ty x => cases x<;>exact Ev.of fun _ => h1
    case call c =>
     obtain⟨callee, args, qM⟩ := c
     cases callee with
     | invoke r m => exact Ev.of fun _ => h1
     | builtin b => exact Ev.of fun _ => h1
     | value f =>
      obtain⟨v2, H2, q1, q2⟩ := tC h1
      obtain⟨k0, hk⟩ := gj _ _ _ _ q1
      refine⟨k0, fun j hj => ?_⟩
      show B2 (di j _ _ H) Ra = _
      rw[hk j hj]
      exact q2
    all_goals exact Ev.of fun _ => h1
  obtain⟨k0, hk⟩ := key
  refine⟨k0, fun j hj k' => ?_⟩
  rw[YV, hk j hj];rfl
theorem vT:rQ (fun _=>ig) ig:=fun x l H r h=>by cases h
theorem pV {di:Nat->CF} {cf:CF} (gj:rQ di cf) {o:Oper} {t:Tm} {H:Hp} {ks:Nat->AV->Hp->R} {k:AV->Hp->R} {r:AV × Hp} (hk:∀ v H,k v H=some r->Ev fun j=>ks j v H=some r) (h:et P cf o t H k=some r):Ev fun j=>et P (di j) o t H (ks j)=some r:=by
 obtain⟨v,H',h1,h2⟩:=aeV h
 obtain⟨a,ha⟩:=h2 di gj
 obtain⟨b,hb⟩:=hk v H' h1
 refine⟨max a b,fun j hj => ?_⟩
 exact (ha j (afo (Nat.le_max_left a b) hj) (ks j)).trans (hb j (afo (Nat.le_max_right a b) hj))
theorem IS {di:Nat->CF} {cf:CF} (gj:rQ di cf) {ks:Nat->KN} {k:KN} (hk:vu ks k) {n:Nat} {ops:Array Oper}:∀ (l:List Oper) (t:Tm) (H:Hp) (r:AV × Hp),uK P cf n ops l t H k=some r->Ev fun j=>uK P (di j) n ops l t H (ks j)=some r
 | [],t,H,r,h=>hk t H r h
 | o::l,t,H,r,h=>by
  unfold uK at h ⊢
  cases hd:uJ n o.dst with
  | false=>rw[hd] at h;cases h
  | true=>
   rw[hd] at h
   simp only[cond_true] at h ⊢
   cases hg:o.guard with
   | none=>
    rw[hg] at h
    exact pV gj (fun v H h=>IS gj hk l _ _ r h) h
   | some p=>
    obtain⟨q,want⟩:=p
    rw[hg] at h
    simp only at h ⊢
    unfold GO at h ⊢
    cases hw:wv want (gv ops q t) with
    | none=>rw[hw] at h;cases h
    | some b=>
     rw[hw] at h
     cases b with
     | true=>exact pV gj (fun v H h=>IS gj hk l _ _ r h) h
     | false=>exact IS gj hk l _ _ r h
theorem Ag {s:jH} {xs:Nat->R} {x:R} {r:AV × Hp} (hx:x=some r->Ev fun j=>xs j=some r):∀ (l:List jH),nU P s x l=some r->Ev fun j=>nU P s (xs j) l=some r
 | [],h=>hx h
 | q::l,h=>by
  unfold nU at h ⊢
  have rd:∀ Hx:Hp,(et P ig q.o q.t Hx fun v _=>SM q.v v (nU P s x l))=some r->Ev fun j=>(et P ig q.o q.t Hx fun v _=>SM q.v v (nU P s (xs j) l))=some r:=by
   intro Hx h
   refine pV (di:=fun _=>ig) vT (ks:=fun j v _=>SM q.v v (nU P s (xs j) l)) (fun v H h => ?_) h
   unfold SM at h ⊢
   cases hs:same q.v v with
   | false=>rw[hs] at h;cases h
   | true=>rw[hs] at h;exact Ag hx l h
  cases hk:q.k with
  | pure=>rw[hk] at h;exact Ag hx l h
  | read=>
   rw[hk] at h
   simp only at h ⊢
   cases hb:Nat.blt q.i s.i with
   | true=>
    rw[hb] at h
    simp only[cond_true] at h ⊢
    cases ht:s.b.testBit q.i with
    | true=>rw[ht] at h;exact Ag hx l h
    | false=>rw[ht] at h;exact rd _ h
   | false=>
    rw[hb] at h
    simp only[cond_false] at h ⊢
    cases ht:q.b.testBit s.i with
    | true=>rw[ht] at h;exact Ag hx l h
    | false=>rw[ht] at h;exact rd _ h
  | late=>
   rw[hk] at h
   simp only at h ⊢
   cases hb:(!(Nat.blt q.i s.i)||s.b.testBit q.i) with
   | false=>rw[hb] at h;cases h
   | true=>rw[hb] at h;exact Ag hx l h
  | dE=>
   rw[hk] at h
   simp only at h ⊢
   cases hb:(!(Nat.blt q.i s.i)||s.b.testBit q.i) with
   | false=>rw[hb] at h;cases h
   | true=>rw[hb] at h;exact Ag hx l h
theorem Er {all:List jH} {xs:Nat->R} {x:R} {r:AV × Hp} (hx:x=some r->Ev fun j=>xs j=some r):∀ (l:List jH),vG P all x l=some r->Ev fun j=>vG P all (xs j) l=some r
 | [],h=>hx h
 | s::l,h=>by
  unfold vG at h ⊢
  cases hk:s.k with
  | dE=>rw[hk] at h;exact Ag (xs:=fun j=>vG P all (xs j) l) (fun h=>Er hx l h) all h
  | pure=>rw[hk] at h;exact Er hx l h
  | read=>rw[hk] at h;exact Er hx l h
  | late=>rw[hk] at h;exact Er hx l h
theorem Ug {di:Nat->CF} {cf:CF} (gj:rQ di cf) {ks:Nat->KN} {k:KN} (hk:vu ks k) {n:Nat} {ops:Array Oper}:∀ (l:List Oper) (i:Nat) (bs:List Nat) (kn:List (Nat × AV)) (tp te:Tm) (hb h:Hp) (acc:List jH) (r:AV × Hp),kj P cf n ops i l bs kn tp te hb h acc k=some r->
  Ev fun j=>kj P (di j) n ops i l bs kn tp te hb h acc (ks j)=some r
 | [],i,bs,kn,tp,te,hb,h,acc,r,hr=>by
  unfold kj at hr ⊢
  exact Er (xs:=fun j=>ks j te h) (fun q=>hk te h r q) acc hr
 | o::l,i,[],kn,tp,te,hb,h,acc,r,hr=>by unfold kj at hr;cases hr
 | o::l,i,b::bs,kn,tp,te,hb,h,acc,r,hr=>by
  unfold kj at hr ⊢
  cases hd:uJ n o.dst with
  | false=>rw[hd] at hr;cases hr
  | true=>
   rw[hd] at hr
   simp only[cond_true] at hr ⊢
   have qh:=fun i bs kn tp te hb h acc hr=>Ug (n:=n) (ops:=ops) gj hk l i bs kn tp te hb h acc r hr
   cases hg:o.guard with
   | none=>
    rw[hg] at hr
    simp only at hr ⊢
    cases cF:kd P o<;>rw[cF] at hr<;>simp only at hr ⊢
    ·exact pV (di:=fun _=>ig) vT (fun v H h=>qh _ _ _ _ _ _ _ _ h) hr
    ·exact pV (di:=fun _=>ig) vT (fun v H h=>qh _ _ _ _ _ _ _ _ h) hr
    ·exact pV (di:=fun _=>ig) vT (fun v H h=>qh _ _ _ _ _ _ _ _ h) hr
    ·exact pV gj (fun v H h=>qh _ _ _ _ _ _ _ _ h) hr
   | some p=>
    obtain⟨q,want⟩:=p
    rw[hg] at hr
    simp only at hr ⊢
    cases hj:(ops[q]?).bind (·.dst) with
    | none=>
     rw[hj] at hr
     exact qh _ _ _ _ _ _ _ _ hr
    | some d=>
     rw[hj] at hr
     simp only at hr ⊢
     cases hl:sY kn d with
     | some c=>
      rw[hl] at hr
      simp only at hr ⊢
      cases hw:wv want c with
      | none=>rw[hw] at hr;cases hr
      | some w=>
       rw[hw] at hr
       cases w with
       | true=>
        simp only at hr ⊢
        cases cF:kd P o<;>rw[cF] at hr<;>simp only at hr ⊢
        ·exact pV (di:=fun _=>ig) vT (fun v H h=>qh _ _ _ _ _ _ _ _ h) hr
        ·exact pV (di:=fun _=>ig) vT (fun v H h=>qh _ _ _ _ _ _ _ _ h) hr
        ·exact pV (di:=fun _=>ig) vT (fun v H h=>qh _ _ _ _ _ _ _ _ h) hr
        ·exact pV gj (fun v H h=>qh _ _ _ _ _ _ _ _ h) hr
       | false=>exact qh _ _ _ _ _ _ _ _ hr
     | none=>
      rw[hl] at hr
      simp only at hr ⊢
      unfold n0 at hr ⊢
      split at hr
      ·rename_i w hv
       cases hw:(w==want) with
       | true=>
        rw[hw] at hr
        simp only[cond_true] at hr ⊢
        cases cF:kd P o<;>rw[cF] at hr<;>simp only at hr ⊢
        ·exact pV (di:=fun _=>ig) vT (fun v H h=>qh _ _ _ _ _ _ _ _ h) hr
        ·exact pV (di:=fun _=>ig) vT (fun v H h=>qh _ _ _ _ _ _ _ _ h) hr
        ·exact pV (di:=fun _=>ig) vT (fun v H h=>qh _ _ _ _ _ _ _ _ h) hr
        ·exact pV gj (fun v H h=>qh _ _ _ _ _ _ _ _ h) hr
       | false=>
        rw[hw] at hr
        exact qh _ _ _ _ _ _ _ _ hr
      ·cases hr
theorem JG:vX (qQ P):=by
 intro di cf kF kn n ops d t H r h1 h2 h
 unfold qQ at h ⊢
 cases d with
 | false=>
  simp only[cond_false] at h ⊢
  exact IS h1 h2 _ _ _ _ h
 | true=>
  simp only[cond_true] at h ⊢
  cases hr:wj ops with
  | false=>rw[hr] at h;cases h
  | true=>
   rw[hr] at h
   simp only[cond_true] at h ⊢
   exact Ug h1 h2 _ _ _ _ _ _ _ _ _ _ h
end
end K
end Go.Proofs.YtodfajmihkagnaaGreatDoor.Am
namespace Go.Proofs.YtodfajmihkagnaaGreatDoor.Am
set_option linter.unusedVariables false
namespace K
def sub:Code->List Nat->Code
 | c,[]=>c
 | .seq a b,i::r=>match i with | 0=>sub a r | _=>sub b r
 | .cond _ a b,i::r=>match i with | 0=>sub a r | _=>sub b r
 | .block _ b,_::r=>sub b r
 | .loop b,_::r=>sub b r
 | c,_::_=>c
def SE (P:Program) (f:Nat) (path:List Nat):Code:=match P.funcs[f]? with
 | some fn=>(match fn.body with | some b=>sub b path | none => .skip)
 | none => .skip
def nT (P:Program) (f:Nat):Nat:=match P.funcs[f]? with | some fn=>fn.ntmps | none=>0
def YX (P:Program) (f:Nat):KN:=fun t H=>match P.funcs[f]? with | some fn=>zA P t H fn.results.toList | none=>none
noncomputable section
def I4 (P:Program) (bo:qZ) (cf:CF) (n:Nat) (b:Code) (x:An) (lv:List Nat) (ke:Nat->KN) (kr:KN):Fn lv.length:=
 LP lv.length (fun k=>abs lv.length fun l H=>bK P bo cf n b x (fun t H=>app lv.length k (ax lv t) H) ke kr (cY n lv l) H)
theorem afR {P:Program} {bo:qZ} (gu:vX bo) (cf:CF) (n:Nat) (b:Code) (x:An) (lv:List Nat) (ke:Nat->KN) (kr:KN) (l:List AV) (hl:l.length=lv.length) (H:Hp) :
  app lv.length (I4 P bo cf n b x lv ke kr) l H=bK P bo cf n b x (fun t H=>app lv.length (I4 P bo cf n b x lv ke kr) (ax lv t) H) ke kr (cY n lv l) H:=
 ang gu cf n b x lv ke kr l hl H
end
abbrev fn (f:Nat):AV := .func (.func f) [] []
def LF (k:Nat) (x:AV) (H:Hp) (f:AV->R):R:=B1 (fa k x) fun v=>B1 (ld v H) f
def NF (k:Nat) (x:AV) (H:Hp) (f:AV->R):R:=B1 (aW x) fun v=>B1 (fa k v) fun u=>B1 (ld u H) f
def NA (k:Nat) (x:AV) (f:AV->R):R:=B1 (aW x) fun v=>B1 (fa k v) f
theorem Xm (k i o:Nat) (H:Hp) (f:AV->R):LF k (.ptr i o) H f=B1 (ld (.ptr i (o+k)) H) f:=aa0 rfl (id rfl)
theorem Ti (k i o:Nat) (H:Hp) (f:AV->R):NF k (.ptr i o) H f=B1 (ld (.ptr i (o+k)) H) f:=aa0 rfl (id rfl)
theorem Yx (k i o:Nat) (f:AV->R):NA k (.ptr i o) f=f (.ptr i (o+k)):=aa0 rfl (id rfl)
end K
set_option linter.unusedVariables false
set_option linter.unusedSimpArgs false
namespace K
section
def qV:Pa->AV->Tm->(Tm->R)->R
 | .e,x,t,k=>match t with | .nil=>k (.node (some x) .nil .nil .nil .nil) | .node _ a b c d=>k (.node (some x) a b c d)
 | .a p,x,t,k=>match t with | .nil=>qV p x .nil fun q=>k (.node none q .nil .nil .nil) | .node v a b c d=>qV p x a fun q=>k (.node v q b c d)
 | .b p,x,t,k=>match t with | .nil=>qV p x .nil fun q=>k (.node none .nil q .nil .nil) | .node v a b c d=>qV p x b fun q=>k (.node v a q c d)
 | .c p,x,t,k=>match t with | .nil=>qV p x .nil fun q=>k (.node none .nil .nil q .nil) | .node v a b c d=>qV p x c fun q=>k (.node v a b q d)
 | .d p,x,t,k=>match t with | .nil=>qV p x .nil fun q=>k (.node none .nil .nil .nil q) | .node v a b c d=>qV p x d fun q=>k (.node v a b c q)
theorem Hh:∀ (p:Pa) (x:AV) (t:Tm) (k:Tm->R),qV p x t k=k (Tr.ko p (some x) t)
 | .e,x,t,k=>by cases t<;>rfl
 | .a p,x,t,k=>by cases t<;>(unfold qV;simp only[Hh p];rfl)
 | .b p,x,t,k=>by cases t<;>(unfold qV;simp only[Hh p];rfl)
 | .c p,x,t,k=>by cases t<;>(unfold qV;simp only[Hh p];rfl)
 | .d p,x,t,k=>by cases t<;>(unfold qV;simp only[Hh p];rfl)
def pS (dst:Option Tmp) (v:AV) (t:Tm) (k:Tm->R):R:=match dst with | none=>k t | some d=>qV (pathOf d) v t k
theorem Wz (dst:Option Tmp) (v:AV) (t:Tm) (k:Tm->R):pS dst v t k=k (gq dst v t):=by
 cases dst with
 | none=>rfl
 | some d=>exact Hh _ _ _ _
def FO (o:Option AV) (k:Option AV->R):R:=match o with | none=>k none | some v=>k (some v)
theorem akN (o:Option AV) (k:Option AV->R):FO o k=k o:=by cases o<;>rfl
def FT:Tm->(Tm->R)->R
 | .nil,k=>k .nil
 | .node v a b c d,k=>FO v fun v=>FT a fun a=>FT b fun b=>FT c fun c=>FT d fun d=>k (.node v a b c d)
theorem Dt:∀ (t:Tm) (k:Tm->R),FT t k=k t
 | .nil,k=>rfl
 | .node v a b c d,k=>by unfold FT;rw[akN,Dt a,Dt b,Dt c,Dt d]
def OE (o:Option AV) (k:AV->R):R:=match o with | some v=>k v | none=>k bS
theorem afS (o:Option AV) (k:AV->R):OE o k=k (o.getD bS):=by cases o<;>rfl
noncomputable section
variable (P:Program)
def bc (t:Tm) (x:Operand) (k:AV->R):R:=match x with
 | .tmp d=>OE (t.get d) k
 | x=>k (ev P.globals.size t x)
theorem R0 (t:Tm) (x:Operand) (k:AV->R):bc P t x k=k (ev P.globals.size t x):=by
 cases x<;>first | rfl | exact afS _ _
def yl (cf:CF) (o:Oper) (t:Tm) (H:Hp) (k:AV->Hp->R):R:=match o.op with
 | .move x=>bc P t x fun v=>k v H
 | .assign x=>bc P t x fun v=>k v H
 | _=>et P cf o t H k
theorem YK (cf:CF) (o:Oper) (t:Tm) (H:Hp) (k:AV->Hp->R):yl P cf o t H k=et P cf o t H k:=by
 unfold yl
 split
 ·rename_i x h
  rw[R0];unfold et;rw[h]
 ·rename_i x h
  rw[R0];unfold et;rw[h]
 ·rfl
abbrev JT:=(m:Nat)->(Fn m->R)->Fn m->R
abbrev GT:=AV->Bool->((AV->Hp->R)->R)->(AV->Hp->R)->Hp->R
def HC (G:GT) (cf:CF) (n:Nat) (ops:Array Oper):List Oper->Tm->Hp->KN->R
 | [],t,H,k=>k t H
 | o::r,t,H,k=>match uJ n o.dst with
  | true=>(match o.guard with
   | none=>yl P cf o t H fun v H=>pS o.dst v t fun t=>HC G cf n ops r t H k
   | some (j,want)=>G (gv ops j t) want (fun k'=>yl P cf o t H k') (fun v H=>pS o.dst v t fun t=>HC G cf n ops r t H k) H)
  | false=>none
theorem VJ (cf:CF) (n:Nat) (ops:Array Oper):∀ (l:List Oper) (t:Tm) (H:Hp) (k:KN),HC P GO cf n ops l t H k=uK P cf n ops l t H k
 | [],t,H,k=>rfl
 | o::r,t,H,k=>by
  unfold HC uK
  simp only[YK,Wz,VJ cf n ops r]
  cases uJ n o.dst<;>rfl
def vZ (cf:CF) (n:Nat) (ops:Array Oper):Nat->List Oper->List Nat->List (Nat × AV)->Tm->Tm->Hp->Hp->List jH->KN->R
 | _,[],_,_,_,te,_,h,acc,k=>vG P acc (k te h) acc
 | _,_::_,[],_,_,_,_,_,_,_=>none
 | i,o::r,b::bs,kn,tp,te,hb,h,acc,k=>match uJ n o.dst with
  | true=>
   let go:List (Nat × AV)->Tm->R:=fun kn tp=>match kd P o with
    | .late=>yl P ig o te h fun v h'=>pS o.dst .du tp fun tq=>pS o.dst v te fun te=>vZ cf n ops (i+1) r bs (nb kn o.dst) tq te hb h' (acc++[⟨i,o,b,true,.late,v,tp,hb,hb⟩]) k
    | .dE=>yl P cf o te h fun v h'=>pS o.dst v tp fun tq=>pS o.dst v te fun te=>vZ cf n ops (i+1) r bs (nb kn o.dst) tq te h' h' (acc++[⟨i,o,b,true,.dE,v,tp,hb,h'⟩]) k
    | .pure=>yl P ig o tp hb fun v _=>pS o.dst v tp fun tq=>pS o.dst v te fun te=>vZ cf n ops (i+1) r bs (nb kn o.dst) tq te hb h (acc++[⟨i,o,b,true,.pure,v,tp,hb,hb⟩]) k
    | .read=>yl P ig o tp hb fun v _=>pS o.dst v tp fun tq=>pS o.dst v te fun te=>vZ cf n ops (i+1) r bs (nb kn o.dst) tq te hb h (acc++[⟨i,o,b,true,.read,v,tp,hb,hb⟩]) k
   let skip:List (Nat × AV)->Tm->R:=fun kn tp=>pS o.dst bS tp fun tq=>pS o.dst bS te fun te=>vZ cf n ops (i+1) r bs (E8 kn o.dst) tq te hb h (acc++[⟨i,o,b,false,.pure,bS,tp,hb,hb⟩]) k
   match o.guard with
   | none=>go kn tp
   | some (j,want)=>match (ops[j]?).bind (·.dst) with
    | none=>skip kn tp
    | some d=>match sY kn d with
     | some c=>(match wv want c with | some true=>go kn tp | some false=>skip kn tp | none=>none)
     | none=>n0 ((tp.get d).getD bS) want (pS (some d) (.bool want) tp fun tp=>go ((d,.bool want)::kn) tp) (pS (some d) (.bool !want) tp fun tp=>skip ((d,.bool !want)::kn) tp)
  | false=>none
theorem aaS (cf:CF) (n:Nat) (ops:Array Oper):∀ (l:List Oper) (i:Nat) (bs:List Nat) (kn:List (Nat × AV)) (tp te:Tm) (hb h:Hp) (acc:List jH) (k:KN),
  vZ P cf n ops i l bs kn tp te hb h acc k=kj P cf n ops i l bs kn tp te hb h acc k
 | [],i,bs,kn,tp,te,hb,h,acc,k=>by unfold vZ kj;rfl
 | o::l,i,[],kn,tp,te,hb,h,acc,k=>by unfold vZ kj;rfl
 | o::l,i,b::bs,kn,tp,te,hb,h,acc,k=>by
  unfold vZ kj
  simp only[YK,Wz,aaS cf n ops l]
  cases uJ n o.dst<;>rfl
def Mz (G:GT):qZ:=fun cf n ops d t H k=>match d with
 | true=>(match wj ops with | true=>FT t fun t=>vZ P cf n ops 0 ops.toList (before ops.toList []) [] t t H H [] k | false=>none)
 | false=>FT t fun t=>HC P G cf n ops ops.toList t H k
theorem agp:Mz P GO=qQ P:=by
 funext cf n ops d t H k
 unfold Mz qQ
 cases d with
 | false=>simp only[cond_false,Dt,VJ]
 | true=>
  simp only[cond_true]
  cases wj ops<;>simp only[cond_true,cond_false,Dt,aaS]
def codeF (J:JT) (G:GT) (cf:CF) (n:Nat):Code->An->KN->(Nat->KN)->KN->KN
 | .skip,_,kn,_,_=>kn
 | .label _,_,kn,_,_=>kn
 | .seq a b,an,kn,ke,kr=>match an with
  | .sq none x y=>codeF J G cf n a x (codeF J G cf n b y kn ke kr) ke kr
  | .sq (some lv) x y=>fun t H=>J lv.length (fun k=>codeF J G cf n a x (fun t H=>app lv.length k (ax lv t) H) ke kr t H) (abs lv.length fun l H=>codeF J G cf n b y kn ke kr (cY n lv l) H)
  | .pr lv p=>fun t H=>B1 (p t H) fun H=>kn (cY n lv (ax lv t)) H
  | _=>fun _ _=>none
 | .cond c a b,an,kn,ke,kr=>match an with
  | .cd x y=>fun t H=>CD (ev P.globals.size t c) (codeF J G cf n a x kn ke kr t H) (codeF J G cf n b y kn ke kr t H)
  | _=>fun _ _=>none
 | .block i b,an,kn,ke,kr=>match an with
  | .bl none x=>codeF J G cf n b x kn (fun j t H=>match Nat.beq j i with | true=>kn t H | false=>ke j t H) kr
  | .bl (some lv) x=>fun t H=>J lv.length (fun k=>codeF J G cf n b x (fun t H=>app lv.length k (ax lv t) H) (fun j t H=>match Nat.beq j i with | true=>app lv.length k (ax lv t) H | false=>ke j t H) kr t H) (abs lv.length fun l H=>kn (cY n lv l) H)
  | _=>fun _ _=>none
 | .loop b,an,kn,ke,kr=>match an with
  | .lp lv x=>fun t H=>app lv.length (LP lv.length (fun k=>abs lv.length fun l H=>codeF J G cf n b x (fun t H=>app lv.length k (ax lv t) H) ke kr (cY n lv l) H)) (ax lv t) H
  | _=>fun _ _=>none
 | .exit i,_,_,ke,_=>ke i
 | .ret,_,_,_,kr=>kr
 | .region _ ops d,_,kn,_,_=>fun t H=>Mz P G cf n ops d t H kn
 | _,_,_,_,_=>fun _ _=>none
theorem agD {α:Type} (b:Bool) (x y:α):(match b with | true=>x | false=>y)=bif b then x else y:=by cases b<;>rfl
theorem codeF_eq (cf:CF) (n:Nat):∀ (c:Code) (an:An) (kn:KN) (ke:Nat->KN) (kr:KN),codeF P JN GO cf n c an kn ke kr=bK P (qQ P) cf n c an kn ke kr:=by
 intro c
 induction c with
 | seq a b ia ib=>
  intro an kn ke kr
  unfold codeF bK
  cases an with
  | sq j x y=>cases j<;>simp only[ia,ib]
  | _=>rfl
 | cond q a b ia ib=>
  intro an kn ke kr
  unfold codeF bK
  cases an with
  | cd x y=>simp only[ia,ib]
  | _=>rfl
 | block i b ib=>
  intro an kn ke kr
  unfold codeF bK
  cases an with
  | bl j x=>cases j<;>simp only[ib,agD]
  | _=>rfl
 | loop b ib=>
  intro an kn ke kr
  unfold codeF bK
  cases an with
  | lp lv x=>simp only[ib]
  | _=>rfl
 | region id ops d=>
  intro an kn ke kr
  unfold codeF bK
  rw[agp]
 | _=>intro an kn ke kr;unfold codeF bK;rfl
def Yj (J:JT) (G:GT) (cf:CF) (fn:Func) (an:An) (b:Code) (args:List AV) (H:Hp):R:=
 codeF P J G cf fn.ntmps b an (fun t H=>zA P t H fn.results.toList) (fun _ _ _=>none) (fun t H=>zA P t H fn.results.toList) (HQ fn.ntmps args) H
def fG (J:JT) (G:GT) (aU:Nat->Option Prim) (an:Nat->An) (cf:CF) (bf:Nat) (args:List AV) (H:Hp):R:=
 match aU bf with
 | some _=>none
 | none=>match P.funcs[bf]? with
  | some fn=>match fn.body with
   | some b=>match Nat.ble args.length fn.ntmps&&Nat.blt fn.ntmps 4294967296&&(an bf).ok fn.ntmps with
    | true=>Yj P J G cf fn (an bf) b args H
    | false=>none
   | none=>none
  | none=>none
def D7 (J:JT) (G:GT) (cf:CF) (n:Nat) (b:Code) (x:An) (lv:List Nat) (ke:Nat->KN) (kr:KN):Fn lv.length:=
 LP lv.length (fun k=>abs lv.length fun l H=>codeF P J G cf n b x (fun t H=>app lv.length k (ax lv t) H) ke kr (cY n lv l) H)
end
variable {P:Program} {ext:Nat->Option Ext} {aU:Nat->Option Prim} {an:Nat->An}
theorem aT {bf:Nat} {first args cap:List AV} {H:Hp} {r:AV × Hp} (h:fG P JN GO aU an (CK P (qQ P) ext aU an) bf (first++args++cap) H=some r):CK P (qQ P) ext aU an (.func (.func bf) first cap) args H=some r:=by
 refine Qs JG ?_
 unfold fG at h
 unfold vw
 simp only
 split at h
 ·cases h
 ·rename_i hp
  rw[hp]
  simp only
  split at h
  ·rename_i fn hf
   rw[hf]
   simp only
   split at h
   ·rename_i b hb
    rw[hb]
    simp only
    split at h
    ·rename_i hc
     rw[hc]
     unfold Yj at h
     rw[codeF_eq] at h
     exact h
    ·cases h
   ·cases h
  ·cases h
theorem aiW (cf:CF) (n:Nat) (b:Code) (x:An) (lv:List Nat) (ke:Nat->KN) (kr:KN) (l:List AV) (hl:l.length=lv.length) (H:Hp) :
  app lv.length (D7 P JN GO cf n b x lv ke kr) l H=codeF P JN GO cf n b x (fun t H=>app lv.length (D7 P JN GO cf n b x lv ke kr) (ax lv t) H) ke kr (cY n lv l) H:=by
 have h:D7 P JN GO cf n b x lv ke kr=I4 P (qQ P) cf n b x lv ke kr:=by unfold D7 I4;simp only[codeF_eq]
 rw[h,codeF_eq]
 exact afR JG cf n b x lv ke kr l hl H
end
abbrev An.n (x:An):An := .sq none .nl x
abbrev An.q (x y:An):An := .sq none x y
abbrev An.s (l:List Nat) (x y:An):An := .sq (some l) x y
abbrev An.t (l:List Nat) (y:An):An := .sq (some l) .nl y
abbrev An.b (x:An):An := .bl none x
abbrev An.v (l:List Nat) (x:An):An := .bl (some l) x
def yF:An->List Nat->An
 | x,[]=>x
 | .sq _ a b,i::r=>match i with | 0=>yF a r | _=>yF b r
 | .cd a b,i::r=>match i with | 0=>yF a r | _=>yF b r
 | .bl _ a,_::r=>yF a r
 | .lp _ a,_::r=>yF a r
 | x,_::_=>x
noncomputable section
variable (P:Program) (an:Nat->An)
def dT (J:JT) (G:GT) (cf:CF) (f:Nat) (path lv:List Nat) (ke:Nat->KN):Fn lv.length:=D7 P J G cf (nT P f) (SE P f path) (yF (an f) path) lv ke (YX P f)
def kT (J:JT) (G:GT) (cf:CF) (f:Nat) (path lv:List Nat) (ke:Nat->KN) (k:Fn lv.length) (l:List AV) (H:Hp):R:=
 codeF P J G cf (nT P f) (SE P f path) (yF (an f) path) (fun t H=>app lv.length k (ax lv t) H) ke (YX P f) (cY (nT P f) lv l) H
end
theorem ey {P:Program} {an:Nat->An} (cf:CF) (f:Nat) (path lv:List Nat) (ke:Nat->KN) (l:List AV) (hl:l.length=lv.length) (H:Hp) :
  app lv.length (dT P an JN GO cf f path lv ke) l H=kT P an JN GO cf f path lv ke (dT P an JN GO cf f path lv ke) l H:=aiW cf _ _ _ lv ke _ l hl H
end K
end Go.Proofs.YtodfajmihkagnaaGreatDoor.Am
namespace Go.Proofs.YtodfajmihkagnaaGreatDoor.Am
set_option linter.unusedVariables false
set_option linter.unusedSimpArgs false
set_option maxHeartbeats 1000000
section
variable {P:Program} {G:Nat} {F:Nat->Prop} {W:World} {e:Em} {H:Hp} {w:World}
theorem ahQ (w:World) (ty:TypeId) (r bm since:Nat) (seen:Array Nat) (es:Array MapEntry) (hr:w.heap[r]? = some (.mapIter (some bm) since seen since)) (hb:w.heap[bm]? = some (.map es since)) (hold:∀ x∈es.toList,x.born<since) :
  ((leftOf es seen).size=0/\(Instr.next (.pointer (some ⟨r,0,none⟩)) false ty).run P w = .ok (.tuple #[.bool false]) w)\/
  ∃ x∈(leftOf es seen).toList,∃ n,(Instr.next (.pointer (some ⟨r,0,none⟩)) false ty).run P w = .ok (.tuple #[.bool true,x.key,x.val]) { w with drawn:=n,heap:=w.heap.setIfInBounds r (.mapIter (some bm) since (seen.push x.born) since) }:=by
 simp only[Instr.next,Go.getObj,Sem.run_bind,Sem.run,hr,hb,Result.andThen,next_test_false seen es since since hold (abe _),abD,if_false]
 unfold leftOf
 have vI:∀ x∈(Array.filter (fun e => !seen.contains e.born) es).toList,x.born<since:=fun x hx=>hold x (by simp at hx ⊢;exact hx.1)
 generalize Array.filter (fun e => !seen.contains e.born) es=L at vI ⊢
 have e1:L.filter (fun x=>decide (x.born<since))=L:=Array.filter_eq_self.2 (fun x hx=>by simpa using vI x (by simpa using hx))
 have e2:L.filter (fun x=>decide (x.born ≥ since)) = #[]:=by
  rw[Array.filter_eq_empty_iff]
  intro x hx
  have:=vI x (by simpa using hx)
  simp
  omega
 simp only[e1,e2,Array.append_empty]
 by_cases h0:L.size=0
 ·left
  have:L = #[]:=Array.eq_empty_of_size_eq_zero h0
  subst this
  refine⟨rfl,?_⟩
  simp[choose,Sem.run,Question.forced]
 ·right
  have aH:L.isEmpty=false:=by simp[Array.isEmpty,h0]
  simp only[aH,abD,if_false,Array.empty_append,Array.size_map]
  have hch:∃ (j:Nat) (n:Nat),j<L.size/\(choose (Question.mapNext L.size)).run P w = .ok j { w with drawn:=n }:=by
   by_cases hf:L.size<=1
   ·exact⟨0,w.drawn,by omega,by simp[choose,Sem.run,Question.forced,hf]⟩
   ·exact⟨_,_,Nat.mod_lt _ (by omega),by
     simp only[choose,Sem.run,Question.forced,decide_eq_true_eq,hf,if_false,Question.cut]
     rfl⟩
  obtain⟨j,n,hj,iV⟩:=hch
  refine⟨L[j],by simp,n,?_⟩
  have fg:∀ (o':Obj),(Go.setObj r o').run P { w with drawn:=n }=Result.ok () { w with drawn:=n,heap:=w.heap.setIfInBounds r o' }:=fun o'=>by
   simp only[Go.setObj,Sem.run,hr]
  simp only[iV,Array.getElem?_map,aeC hj,ady,Sem.run_bind,fg,Result.andThen]
  rfl
theorem acO (w:World) (r bm since:Nat) (seen:Array Nat) (es:Array MapEntry) (x:MapEntry) (hr:w.heap[r]? = some (.mapIter (some bm) since (seen.push x.born) since)) (hb:w.heap[bm]? = some (.map es since)) (he:x∈es.toList) (hn:(es.toList.map (·.born)).Nodup) :
  (Instr.entry (.pointer (some ⟨r,0,none⟩))).run P w = .ok (.tuple #[x.key,x.val]) w:=by
 have hf:es.find? (·.born==x.born)=some x:=by rw[<-Array.find?_toList];exact find_born x es.toList hn he
 simp only[Instr.entry,Go.getObj,Sem.run_bind,Sem.run,hr,hb,Result.andThen,Array.back?_push,bne_self_eq_false,abD,if_false,hf]
 rfl
theorem RH.agd (h:RH G F W e H w) {r:Nat} (o:Obj) (hF:¬ F r) (hr:∀ i a,H.h.get i=some a->e.b i≠r) (n:Nat):RH G F W e H { w with drawn:=n,heap:=w.heap.setIfInBounds r o }:=by
 refine⟨h.N,fun i a hi => ?_,h.inj,h.pf,fun k hk => ?_,h.os,h.tape,h.output,by simp only[Array.size_setIfInBounds];exact h.size,by simp only[Array.size_setIfInBounds];exact h.kE⟩
 ·obtain⟨h1,ob,h2,h3,h4⟩:=h.obj i a hi
  exact⟨h1,ob,by simp only;rw[adP (fun q=>hr i a hi q.symm)];exact h2,h3,h4⟩
 ·obtain⟨h1,h2⟩:=h.frame k hk
  exact⟨by simp only[Array.size_setIfInBounds];exact h1,by simp only;rw[adP (fun q=>by subst q;exact hF hk)];exact h2⟩
theorem RH.congr {H':Hp} (h:RH G F W e H w) (hn:H'.next=H.next) (hg:∀ i o,H'.h.get i=some o->H.h.get i=some o):RH G F W e H' w:=
 ⟨h.N.trans hn.symm,fun i o hi=>h.obj i o (hg i o hi),fun i j oi oj hi hj=>h.inj i j oi oj (hg i oi hi) (hg j oj hj),h.pf,h.frame,h.os,h.tape,h.output,h.size,h.kE⟩
theorem gK.perm {e:Em} {a b:List ME} (hp:a.Perm b):∀ {fs:List MapEntry},gK e a fs->∃ J5,J5.Perm fs/\gK e b J5:=by
 induction hp with
 | nil=>intro fs h;exact⟨fs,List.Perm.refl _,h⟩
 | @cons x l l' hp ih=>
  intro fs h
  cases fs with
  | nil=>have:=h.1;simp at this
  | cons y fs=>
   obtain⟨J5,h1,h2⟩:=ih (fs:=fs) ⟨by simpa using h.1,fun i m m' hm lV=>h.2 (i+1) m m' (by simpa using hm) (by simpa using lV)⟩
   refine⟨y::J5,h1.cons y,by simp[h2.1],fun i m m' hm lV => ?_⟩
   cases i with
   | zero=>simp at hm lV;subst hm;subst lV;exact h.2 0 x y rfl rfl
   | succ i=>exact h2.2 i m m' (by simpa using hm) (by simpa using lV)
 | swap x y l=>
  intro fs h
  match fs,h with
  | [],h=>have:=h.1;simp at this
  | [_],h=>have:=h.1;simp at this
  | u::v::fs,h=>
   refine⟨v::u::fs,List.Perm.swap _ _ _,by have:=h.1;simpa using this,fun i m m' hm lV => ?_⟩
   match i with
   | 0=>simp at hm lV;subst hm;subst lV;exact h.2 1 x v rfl rfl
   | 1=>simp at hm lV;subst hm;subst lV;exact h.2 0 y u rfl rfl
   | i+2=>exact h.2 (i+2) m m' (by simpa using hm) (by simpa using lV)
 | trans _ _ i1 i2=>
  intro fs h
  obtain⟨f1,a1,b1⟩:=i1 h
  obtain⟨f2,a2,b2⟩:=i2 b1
  exact⟨f2,a2.trans a1,b2⟩
end
namespace K
def tg (t:Tm) (d:Nat):AV:=(t.get d).getD bS
def xm:List ME->Bool
 | []=>true
 | m::r=>(match m.key with | .str k=>r.all (fun x=>match x.key with | .str q => !(q==k) | _=>false) | _=>false)&&xm r
def jR:Nat->List ME->List ME
 | _,[]=>[]
 | c,m::r=>⟨m.key,m.val,c⟩::jR (c+1) r
theorem Xh:∀ (l:List ME) (c:Nat) (m:ME),jR c (l++[m])=jR c l++[⟨m.key,m.val,c+l.length⟩]
 | [],c,m=>rfl
 | x::l,c,m=>by
  show _::jR (c+1) (l++[m])=_
  rw[Xh l (c+1) m,abx,show c+1+l.length=c+(l.length+1) by omega];rfl
theorem Ua:∀ (l:List ME) (c:Nat) (x:ME),x∈jR c l->∃ m∈l,x.key=m.key
 | [],c,x,h=>by cases h
 | m::l,c,x,h=>by
  rcases abn.1 h with rfl | h
  ·exact⟨m,.head _,rfl⟩
  ·obtain⟨y,h1,h2⟩:=Ua l (c+1) x h
   exact⟨y,.tail _ h1,h2⟩
theorem Lk:∀ (l:List ME) (c:Nat),(jR c l).length=l.length
 | [],_=>rfl
 | m::l,c=>by show (jR (c+1) l).length+1=_;rw[Lk l (c+1)];rfl
theorem O2:∀ (l:List ME) (c i:Nat) (x:ME),(jR c l)[i]? = some x->∃ m,l[i]? = some m/\x.key=m.key/\x.val=m.val
 | [],c,i,x,h=>by simp[jR] at h
 | m::l,c,0,x,h=>by
  have:some (⟨m.key,m.val,c⟩:ME)=some x:=h
  cases this;exact⟨m,rfl,rfl,rfl⟩
 | m::l,c,i+1,x,h=>O2 l (c+1) i x h
theorem RN {e:Em} {l:List ME} {fs:List MapEntry} (c:Nat):gK e (jR c l) fs↔gK e l fs:=by
 constructor
 ·intro h
  refine⟨by rw[h.1,Lk],fun i m m' hm lV => ?_⟩
  have hi:i<(jR c l).length:=by rw[Lk];exact (aaK.1 hm).1
  obtain⟨y,h1,h2,h3⟩:=O2 l c i _ (aaM hi)
  rw[hm] at h1;cases h1
  have:=h.2 i _ m' (aaM hi) lV
  rw[h2,h3] at this;exact this
 ·intro h
  refine⟨by rw[h.1,Lk],fun i m m' hm lV => ?_⟩
  obtain⟨y,h1,h2,h3⟩:=O2 l c i _ hm
  have:=h.2 i y m' h1 lV
  rw[h2,h3];exact this
def BC (a b:ME):Prop:=∃ k q,a.key = .str k/\b.key = .str q/\q≠k
theorem BC.symm {a b:ME} (h:BC a b):BC b a:=by obtain⟨k,q,h1,h2,h3⟩:=h;exact⟨q,k,h2,h1,fun e=>h3 e.symm⟩
theorem ZP:∀ {l:List ME},xm l=true->l.Pairwise BC/\∀ m∈l,∃ k,m.key = .str k
 | [],_=>⟨.nil,fun m h=>by cases h⟩
 | m::l,h=>by
  unfold xm at h
  rw[aa9] at h
  obtain⟨h1,h2⟩:=h
  obtain⟨a,b⟩:=ZP h2
  split at h1
  ·rename_i k hk
   refine⟨List.pairwise_cons.2 ⟨fun x hx => ?_,a⟩,fun x hx => ?_⟩
   ·have:=adn.1 h1 x hx
    split at this
    ·rename_i q hq
     exact⟨k,q,hk,hq,by simpa using this⟩
    ·cases this
   ·rcases abn.1 hx with rfl | hx
    ·exact⟨k,hk⟩
    ·exact b x hx
  ·cases h1
def C7 (k:Nat) (c f:AV) (H:Hp):Option Hp:=
 match c,f with
 | .ptr ci co,.ptr fi fo=>
  match cellAt H ci (co+k),cellAt H fi (fo+k) with
  | some (.map cm),some (.map fm)=>
   match H.h.get cm,H.h.get fm with
   | some (.map [] q),some (.map es _)=>bif xm es&&!(Nat.beq cm fm) then some ⟨H.h.bX cm (.map (jR q es) (q+es.length)),H.next+1⟩ else none
   | _,_=>none
  | _,_=>none
 | _,_=>none
def MD (k c f:Nat):Tm->Hp->Option Hp:=fun t H=>C7 k (tg t c) (tg t f) H
theorem ad8 {k:Nat} {c f:AV} {H H2:Hp} (h:C7 k c f H=some H2):∃ ci co fi fo cm fm q es z,c = .ptr ci co/\f = .ptr fi fo/\cellAt H ci (co+k)=some (.map cm)/\cellAt H fi (fo+k)=some (.map fm)/\H.h.get cm=some (.map [] q)/\H.h.get fm=some (.map es z)/\xm es=true/\cm≠fm/\
  H2=⟨H.h.bX cm (.map (jR q es) (q+es.length)),H.next+1⟩:=by
 unfold C7 at h
 split at h
 ·rename_i ci co fi fo
  split at h
  ·rename_i cm fm h1 h2
   split at h
   ·rename_i q es z h3 h4
    cases hb:(xm es&&!(Nat.beq cm fm)) with
    | false=>rw[hb] at h;cases h
    | true=>
     rw[hb] at h
     rw[aa9] at hb
     refine⟨ci,co,fi,fo,cm,fm,q,es,z,rfl,rfl,h1,h2,h3,h4,hb.1,fun e => ?_,(acy h).symm⟩
     subst e
     have:=hb.2
     rw[afB] at this
     cases this
   ·cases h
  ·cases h
 ·cases h
section
variable {P:Program} {F:Nat->Prop} {W:World} {e:Em} {H:Hp} {w:World}
theorem lZ.put {n:Nat} {t t':Tm} {a:Act} (h:lZ e n t a) {dst:Option Tmp} {v:AV} {v':Value} (hp:gG n dst v t=some t') (hv:VR e v v'):lZ e n t' (a.put dst v'):=by
 refine⟨h.1.put hp hv,fun d hd => ?_⟩
 unfold gG at hp
 split at hp
 ·cases hp;exact h.2 d hd
 ·rename_i x
  cases hb:(Nat.blt x n&&Nat.blt x 4294967296) with
  | false=>rw[hb] at hp;cases hp
  | true=>
   rw[hb] at hp
   cases hp
   simp only[aa9,adq] at hb
   rw[Tr.FJ _ _ _ _ _ (by omega),if_neg (by omega)]
   exact h.2 d hd
theorem lZ.mono {e':Em} (h:e.le e') {n:Nat} {t:Tm} {a:Act} (k:lZ e n t a):lZ e' n t a:=⟨k.1.mono h,k.2⟩
theorem ot {cf:CF} (gj:rC P cf) {ops:Array Oper} {i:Nat} {o:Oper} (hi:ops[i]? = some o) (hg:o.guard=none) {n:Nat} {t t':Tm} {H':Hp} {v:AV} (ho:oU P cf t o H=some (v,H')) (hp:gG n o.dst v t=some t') {a:Act} {rest:List Nat} {Q:Exit->Act->World->Prop}
  (hR:RH P.globals.size F W e H w) (hT:lZ e n t a) (hn:∀ e' a' w',e.le e'->RH P.globals.size F W e' H' w'->lZ e' n t' a'->a'.defers=a.defers->wpOps P ops Q rest a' w'):wpOps P ops Q (i::rest) a w:=by
 have hw:pz ops o t=some true:=by unfold pz;rw[hg]
 simp only[wpOps,hi,IL (e:=e) (a:=a) hw (fun d _=>hT.1.val d),if_true]
 left
 exact E9 gj hR ho (fun x _=>VR.ev hR hT.1 x) fun e' v' w' he bJ hv=>hn e' _ w' he bJ ((hT.mono he).put hp hv) (by cases o.dst<;>rfl)
theorem KY {ops:Array Oper} {i:Nat} {o:Oper} (hi:ops[i]? = some o) (hg:o.guard=none) {a:Act} {rest:List Nat} {Q:Exit->Act->World->Prop} {v':Value} {w':World}
  (hx:(execOp a.eval o).run P w = .ok (.value v') w') (hn:wpOps P ops Q rest (a.put o.dst v') w'):wpOps P ops Q (i::rest) a w:=by
 have hw:Region.wanted o (yielded ops a.tmps)=true:=by unfold Region.wanted;simp[hg]
 simp only[wpOps,hi,hw,if_true]
 left
 unfold Oper.wp
 rw[hx]
 exact hn
theorem Z0 {σ:Operand->Value} {o:Oper} {it:Operand} (ho:o.op = .next it false) {v':Value} {w':World} (h:(Instr.next (σ it) false o.type).run P w = .ok v' w'):(execOp σ o).run P w = .ok (.value v') w':=by
 unfold execOp;rw[ho];simp[h]
theorem aia {σ:Operand->Value} {o:Oper} {it:Operand} (ho:o.op = .entry it) {v':Value} {w':World} (h:(Instr.entry (σ it)).run P w = .ok v' w'):(execOp σ o).run P w = .ok (.value v') w':=by
 unfold execOp;rw[ho];simp[h]
theorem adk {σ:Operand->Value} {o:Oper} {ty:TypeId} {x:Operand} (ho:o.op = .range ty x) {v':Value} {w':World} (h:(Instr.range ty (σ x)).run P w = .ok v' w'):(execOp σ o).run P w = .ok (.value v') w':=by
 unfold execOp;rw[ho];simp[h]
end
end K
end Go.Proofs.YtodfajmihkagnaaGreatDoor.Am
