/- Regions with continuations, and loops (of no program). -/
import Derived.Test.YtodfajmihkagnaaGreatDoorAm11
import Derived.Laws.IdiomRangeMap
set_option linter.unusedVariables false
set_option linter.unusedSimpArgs false
namespace Go.Proofs.YtodfajmihkagnaaGreatDoor.Am
section
section
section
set_option linter.unusedVariables false
set_option linter.unusedSimpArgs false
namespace K
section
variable (P:Program)
def uk (n:Nat)(dst:Option Tmp):Bool:=match dst with | none=>true | some d=>Nat.blt d n&&Nat.blt d 4294967296
def gx (dst:Option Tmp)(v:AV)(t:Tm):Tm:=match dst with | none=>t | some d=>t.put 34 d v
def gv (ops:Array Oper)(j:Nat)(t:Tm):AV:=match (ops[j]?).bind (·.dst) with | none=>bJ | some d=>(t.get d).getD bJ
def wv (want:Bool)(g:AV):Option Bool:=match g with | .bool b=>some (b==want) | .cP=>none | _=>some false
def GO (g:AV)(want:Bool)(f:(AV->Hp->R)->R)(k:AV->Hp->R)(H:Hp):R:=match wv want g with | some true=>f k | some false=>k bJ H | none=>none
def SM (a b:AV)(x:R):R:=bif same a b then x else none
def uu (cf:CF)(n:Nat)(ops:Array Oper):List Oper->Tm->Hp->KN->R
 | [],t,H,k=>k t H
 | o::r,t,H,k=>bif uk n o.dst then (match o.guard with
   | none=>dX P cf o t H fun v H=>uu cf n ops r (gx o.dst v t) H k
   | some (j,want)=>GO (gv ops j t) want (fun k'=>dX P cf o t H k') (fun v H=>uu cf n ops r (gx o.dst v t) H k) H) else none
def ig:CF:=fun _ _ _=>none
def om (s:jA)(x:R):List jA->R
 | []=>x
 | r::l=>match r.k with
  | .pure=>om s x l
  | .read=>bif Nat.blt r.i s.i then (bif s.b.testBit r.i then om s x l else dX P ig r.o r.t s.ha fun v _=>SM r.v v (om s x l))
    else (bif r.b.testBit s.i then om s x l else dX P ig r.o r.t s.hb fun v _=>SM r.v v (om s x l))
  | _=>bif !(Nat.blt r.i s.i)||s.b.testBit r.i then om s x l else none
def vF (all:List jA)(x:R):List jA->R
 | []=>x
 | s::l=>match s.k with
  | .cW=>om P s (vF all x l) all
  | _=>vF all x l
def tG:List (Nat × AV)->Nat->Option AV
 | [],_=>none
 | (e,v)::r,d=>bif Nat.beq e d then some v else tG r d
def nu:List (Nat × AV)->Option Tmp->List (Nat × AV)
 | kn,none=>kn
 | [],some _=>[]
 | (e,v)::r,some d=>bif Nat.beq e d then nu r (some d) else (e,v)::nu r (some d)
def Fy (kn:List (Nat × AV)):Option Tmp->List (Nat × AV)
 | none=>kn
 | some d=>(d,bJ)::nu kn (some d)
def sG (g:AV)(want:Bool)(x y:R):R:=match g with | .bool b=>bif b==want then x else y | _=>none
def kg (cf:CF)(n:Nat)(ops:Array Oper):Nat->List Oper->List Nat->List (Nat × AV)->Tm->Tm->Hp->Hp->List jA->KN->R
 | _,[],_,_,_,te,_,h,acc,k=>vF P acc (k te h) acc
 | _,_::_,[],_,_,_,_,_,_,_=>none
 | i,o::r,b::bs,kn,tp,te,hb,h,acc,k=>bif uk n o.dst then
   let go:List (Nat × AV)->Tm->R:=fun kn tp=>match kd P o with
    | .late=>dX P ig o te h fun v h'=>kg cf n ops (i+1) r bs (nu kn o.dst) (gx o.dst .cP tp) (gx o.dst v te) hb h' (acc++[⟨i,o,b,true,.late,v,tp,hb,hb⟩]) k
    | .cW=>dX P cf o te h fun v h'=>kg cf n ops (i+1) r bs (nu kn o.dst) (gx o.dst v tp) (gx o.dst v te) h' h' (acc++[⟨i,o,b,true,.cW,v,tp,hb,h'⟩]) k
    | .pure=>dX P ig o tp hb fun v _=>kg cf n ops (i+1) r bs (nu kn o.dst) (gx o.dst v tp) (gx o.dst v te) hb h (acc++[⟨i,o,b,true,.pure,v,tp,hb,hb⟩]) k
    | .read=>dX P ig o tp hb fun v _=>kg cf n ops (i+1) r bs (nu kn o.dst) (gx o.dst v tp) (gx o.dst v te) hb h (acc++[⟨i,o,b,true,.read,v,tp,hb,hb⟩]) k
   let skip:List (Nat × AV)->Tm->R:=fun kn tp=>kg cf n ops (i+1) r bs (Fy kn o.dst) (gx o.dst bJ tp) (gx o.dst bJ te) hb h (acc++[⟨i,o,b,false,.pure,bJ,tp,hb,hb⟩]) k
   match o.guard with
   | none=>go kn tp
   | some (j,want)=>match (ops[j]?).bind (·.dst) with
    | none=>skip kn tp
    | some d=>match tG kn d with
     | some c=>(match wv want c with | some true=>go kn tp | some false=>skip kn tp | none=>none)
     | none=>sG ((tp.get d).getD bJ) want (go ((d,.bool want)::kn) (gx (some d) (.bool want) tp)) (skip ((d,.bool !want)::kn) (gx (some d) (.bool !want) tp))
  else none
def rH:qO:=fun cf n ops d t H k=>bif d then (bif wg ops then kg P cf n ops 0 ops.toList (before ops.toList []) [] t t H H [] k else none) else uu P cf n ops ops.toList t H k
end
section
variable {P:Program}
theorem Bf {n:Nat}{dst:Option Tmp}{v:AV}{t:Tm}(h:uk n dst=true):gF n dst v t=some (gx dst v t):=by
 unfold gF gx
 cases dst with
 | none=>rfl
 | some d=>
  have h':(Nat.blt d n&&Nat.blt d 4294967296)=true:=h
  simp only[h',cond_true]
theorem Tw {ops:Array Oper}{o:Oper}{t:Tm}{j:Nat}{want:Bool}(h:o.guard=some (j,want)):pJ ops o t=wv want (gv ops j t):=by
 unfold pJ gv
 rw[h]
 simp only
 cases (ops[j]?).bind (·.dst) with
 | none=>rfl
 | some d=>
  simp only
  cases t.get d with
  | none=>rfl
  | some a=>cases a<;>rfl
theorem PY {cf:CF}{n:Nat}{ops:Array Oper}:∀ (l:List Oper) (t:Tm) (H:Hp) (k:KN) (r:AV × Hp),uu P cf n ops l t H k=some r->∃ t' H',sj P cf n ops l t H=some (t',H')/\k t' H'=some r
 | [],t,H,k,r,h=>⟨t,H,rfl,h⟩
 | o::l,t,H,k,r,h=>by
  unfold uu at h
  cases hd:uk n o.dst with
  | false=>rw[hd] at h;cases h
  | true=>
   rw[hd] at h
   simp only[cond_true] at h
   have run:∀ (v:AV) (H':Hp),oR P cf t o H=some (v,H')->pJ ops o t=some true->uu P cf n ops l (gx o.dst v t) H' k=some r->∃ t' H',sj P cf n ops (o::l) t H=some (t',H')/\k t' H'=some r:=by
    intro v H' h1 h2 h3
    obtain⟨t2,H2,q1,q2⟩:=PY l _ _ k r h3
    refine⟨t2,H2,?_,q2⟩
    unfold sj
    rw[h2]
    simp only[h1,Bf hd]
    exact q1
   cases hg:o.guard with
   | none=>
    rw[hg] at h
    obtain⟨v,H',h1,h2⟩:=I7 h
    exact run v H' h1 (by unfold pJ;rw[hg]) h2
   | some p=>
    obtain⟨j,want⟩:=p
    rw[hg] at h
    simp only at h
    unfold GO at h
    rw[<-Tw (o:=o) hg] at h
    cases hw:pJ ops o t with
    | none=>rw[hw] at h;cases h
    | some b=>
     rw[hw] at h
     cases b with
     | true=>
      simp only at h
      obtain⟨v,H',h1,h2⟩:=I7 h
      exact run v H' h1 hw h2
     | false=>
      simp only at h
      obtain⟨t2,H2,q1,q2⟩:=PY l _ _ k r h
      refine⟨t2,H2,?_,q2⟩
      unfold sj
      rw[hw]
      simp only[Bf hd]
      exact q1
theorem Jl {o:Oper}{t:Tm}{H:Hp}{k:AV->Hp->R}{r:AV × Hp}(h:dX P ig o t H k=some r):∃ v H',iC P (ev P.globals.size t) o H=some (v,H')/\k v H'=some r:=by
 obtain⟨v,H',h1,h2⟩:=I7 h
 refine⟨v,H',?_,h2⟩
 unfold oR at h1
 split at h1
 ·cases h1
 ·exact h1
theorem y8 {s:jA}{x:R}{r:AV × Hp}:∀ (l:List jA),om P s x l=some r->(l.all fun q=>match q.k with
   | .cW | .late => !(Nat.blt q.i s.i)||s.b.testBit q.i
   | .read=>bif Nat.blt q.i s.i then s.b.testBit q.i||th P q s.ha else q.b.testBit s.i||th P q s.hb
   | .pure=>true)=true/\x=some r
 | [],h=>⟨rfl,h⟩
 | q::l,h=>by
  unfold om at h
  rw[List.all_cons,aau]
  have rd:∀ (Hx:Hp),(dX P ig q.o q.t Hx fun v _=>SM q.v v (om P s x l))=some r->th P q Hx=true/\om P s x l=some r:=by
   intro Hx hx
   obtain⟨v,H',h1,h2⟩:=Jl hx
   unfold SM at h2
   cases hs:same q.v v with
   | false=>rw[hs] at h2;cases h2
   | true=>
    rw[hs] at h2
    refine⟨?_,h2⟩
    unfold th
    rw[h1]
    exact hs
  cases hk:q.k with
  | pure=>
   rw[hk] at h
   obtain⟨a,b⟩:=y8 l h
   exact⟨⟨rfl,a⟩,b⟩
  | read=>
   rw[hk] at h
   simp only at h ⊢
   cases hb:Nat.blt q.i s.i with
   | true=>
    rw[hb] at h
    simp only[cond_true] at h ⊢
    cases ht:s.b.testBit q.i with
    | true=>
     rw[ht] at h
     obtain⟨a,b⟩:=y8 l h
     exact⟨⟨rfl,a⟩,b⟩
    | false=>
     rw[ht] at h
     obtain⟨c,d⟩:=rd _ h
     obtain⟨a,b⟩:=y8 l d
     exact⟨⟨by rw[c];rfl,a⟩,b⟩
   | false=>
    rw[hb] at h
    simp only[cond_false] at h ⊢
    cases ht:q.b.testBit s.i with
    | true=>
     rw[ht] at h
     obtain⟨a,b⟩:=y8 l h
     exact⟨⟨rfl,a⟩,b⟩
    | false=>
     rw[ht] at h
     obtain⟨c,d⟩:=rd _ h
     obtain⟨a,b⟩:=y8 l d
     exact⟨⟨by rw[c];rfl,a⟩,b⟩
  | late=>
   rw[hk] at h
   simp only at h ⊢
   cases hb:(!(Nat.blt q.i s.i)||s.b.testBit q.i) with
   | false=>rw[hb] at h;cases h
   | true=>
    rw[hb] at h
    obtain⟨a,b⟩:=y8 l h
    exact⟨⟨rfl,a⟩,b⟩
  | cW=>
   rw[hk] at h
   simp only at h ⊢
   cases hb:(!(Nat.blt q.i s.i)||s.b.testBit q.i) with
   | false=>rw[hb] at h;cases h
   | true=>
    rw[hb] at h
    obtain⟨a,b⟩:=y8 l h
    exact⟨⟨rfl,a⟩,b⟩
theorem EF {all:List jA}{x:R}{r:AV × Hp}:∀ (l:List jA),vF P all x l=some r->(l.all fun s=>match s.k with
  | .cW=>all.all fun q=>match q.k with
   | .cW | .late => !(Nat.blt q.i s.i)||s.b.testBit q.i
   | .read=>bif Nat.blt q.i s.i then s.b.testBit q.i||th P q s.ha else q.b.testBit s.i||th P q s.hb
   | .pure=>true
  | _=>true)=true/\x=some r
 | [],h=>⟨rfl,h⟩
 | s::l,h=>by
  unfold vF at h
  rw[List.all_cons,aau]
  cases hk:s.k with
  | cW=>
   rw[hk] at h
   obtain⟨a,b⟩:=y8 all h
   obtain⟨c,d⟩:=EF l b
   exact⟨⟨a,c⟩,d⟩
  | pure=>rw[hk] at h;obtain⟨c,d⟩:=EF l h;exact⟨⟨rfl,c⟩,d⟩
  | read=>rw[hk] at h;obtain⟨c,d⟩:=EF l h;exact⟨⟨rfl,c⟩,d⟩
  | late=>rw[hk] at h;obtain⟨c,d⟩:=EF l h;exact⟨⟨rfl,c⟩,d⟩
def sY (kn:List (Nat × AV))(t:Tm):Prop:=∀ d v,tG kn d=some v->t.get d=some v
theorem Nj:∀ (kn:List (Nat × AV)) (x d:Nat) (v:AV),tG (nu kn (some x)) d=some v->d≠x/\tG kn d=some v
 | [],x,d,v,h=>by cases h
 | (e,u)::r,x,d,v,h=>by
  unfold nu at h
  by_cases he:e=x
  ·subst he
   rw[uz,cond_true] at h
   obtain⟨a,b⟩:=Nj r e d v h
   refine⟨a,?_⟩
   unfold tG
   rw[oC (Ne.symm a)];exact b
  ·rw[oC he,cond_false] at h
   unfold tG at h ⊢
   by_cases hd:e=d
   ·subst hd
    rw[uz] at h ⊢
    exact⟨he,h⟩
   ·rw[oC hd] at h ⊢
    exact Nj r x d v h
theorem sY.put {kn:List (Nat × AV)}{t:Tm}(h:sY kn t)(dst:Option Tmp)(v:AV):sY (nu kn dst) (gx dst v t):=by
 cases dst with
 | none=>intro d u hd;cases kn<;>exact h d u hd
 | some x=>
  intro d u hd
  obtain⟨a,b⟩:=Nj kn x d u hd
  show (t.put 34 x v).get d=some u
  rw[Tr.put,Tr.fj,if_neg a]
  exact h d u b
theorem sY.ael {kn:List (Nat × AV)}{t:Tm}(h:sY kn t)(dst:Option Tmp):sY (Fy kn dst) (gx dst bJ t):=by
 cases dst with
 | none=>exact h
 | some x=>
  intro d u hd
  unfold Fy tG at hd
  by_cases hx:x=d
  ·subst hx
   rw[uz] at hd
   cases hd
   show (t.put 34 x bJ).get x=some bJ
   rw[Tr.put,Tr.fj,if_pos rfl]
  ·rw[oC hx] at hd
   exact (h.put (some x) bJ) d u hd
theorem sY.cons {kn:List (Nat × AV)}{t:Tm}(h:sY kn t){d:Nat}{v:AV}(hv:t.get d=some v):sY ((d,v)::kn) t:=by
 intro e u he
 unfold tG at he
 by_cases hx:d=e
 ·subst hx
  rw[uz] at he
  cases he;exact hv
 ·rw[oC hx] at he
  exact h e u he
theorem FX {α:Type}{x:α}:∀ (p:Pa) (t:Tr α),Tr.qA p t=some x->Tr.ko p (some x) t=t
 | .e,.nil,h=>by cases h
 | .e,.node v k0 k1 k2 k3,h=>by cases h;rfl
 | .a p,.nil,h=>by rw[Tr.vY] at h;cases h
 | .b p,.nil,h=>by rw[Tr.vY] at h;cases h
 | .c p,.nil,h=>by rw[Tr.vY] at h;cases h
 | .d p,.nil,h=>by rw[Tr.vY] at h;cases h
 | .a p,.node v k0 k1 k2 k3,h=>congrArg (fun k=>Tr.node v k k1 k2 k3) (FX p k0 h)
 | .b p,.node v k0 k1 k2 k3,h=>congrArg (fun k=>Tr.node v k0 k k2 k3) (FX p k1 h)
 | .c p,.node v k0 k1 k2 k3,h=>congrArg (fun k=>Tr.node v k0 k1 k k3) (FX p k2 h)
 | .d p,.node v k0 k1 k2 k3,h=>congrArg (fun k=>Tr.node v k0 k1 k2 k) (FX p k3 h)
theorem Uw {t:Tm}{d:Nat}{v:AV}(h:t.get d=some v):gx (some d) v t=t:=FX (pathOf d) t h
theorem CR {cf:CF}{n:Nat}{ops:Array Oper}:∀ (l:List Oper) (i:Nat) (bs:List Nat) (kn:List (Nat × AV)) (tp te:Tm) (hb h:Hp) (acc:List jA) (k:KN) (r:AV × Hp),sY kn tp->kg P cf n ops i l bs kn tp te hb h acc k=some r->
  ∃ s t' H',kA P cf n ops i l bs tp te hb h=some (s,t',H')/\zv P (acc++s)=true/\k t' H'=some r
 | [],i,bs,kn,tp,te,hb,h,acc,k,r,fP,hr=>by
  unfold kg at hr
  obtain⟨a,b⟩:=EF acc hr
  refine⟨[],te,h,by unfold kA;rfl,?_,b⟩
  rw[ag8]
  exact a
 | o::l,i,[],kn,tp,te,hb,h,acc,k,r,fP,hr=>by unfold kg at hr;cases hr
 | o::l,i,b::bs,kn,tp,te,hb,h,acc,k,r,fP,hr=>by
  unfold kg at hr
  cases hd:uk n o.dst with
  | false=>rw[hd] at hr;cases hr
  | true=>
   rw[hd] at hr
   simp only[cond_true] at hr
   have go:∀ kn,sY kn tp->pJ ops o tp=some true->(match kd P o with
    | .late=>dX P ig o te h fun v h'=>kg P cf n ops (i+1) l bs (nu kn o.dst) (gx o.dst .cP tp) (gx o.dst v te) hb h' (acc++[⟨i,o,b,true,.late,v,tp,hb,hb⟩]) k
    | .cW=>dX P cf o te h fun v h'=>kg P cf n ops (i+1) l bs (nu kn o.dst) (gx o.dst v tp) (gx o.dst v te) h' h' (acc++[⟨i,o,b,true,.cW,v,tp,hb,h'⟩]) k
    | .pure=>dX P ig o tp hb fun v _=>kg P cf n ops (i+1) l bs (nu kn o.dst) (gx o.dst v tp) (gx o.dst v te) hb h (acc++[⟨i,o,b,true,.pure,v,tp,hb,hb⟩]) k
    | .read=>dX P ig o tp hb fun v _=>kg P cf n ops (i+1) l bs (nu kn o.dst) (gx o.dst v tp) (gx o.dst v te) hb h (acc++[⟨i,o,b,true,.read,v,tp,hb,hb⟩]) k)=some r->
     ∃ s t' H',kA P cf n ops i (o::l) (b::bs) tp te hb h=some (s,t',H')/\zv P (acc++s)=true/\k t' H'=some r:=by
    intro kn fP hw hr
    cases hk:kd P o with
    | late=>
     rw[hk] at hr
     obtain⟨v,h',h1,h2⟩:=Jl hr
     obtain⟨s,t',H',q1,q2,q3⟩:=CR l _ _ _ _ _ _ _ _ k r (fP.put _ _) h2
     refine⟨_,t',H',?_,by rw[aeR] at q2;exact q2,q3⟩
     unfold kA
     simp only[hw,hk,h1,Bf hd,q1]
     rfl
    | cW=>
     rw[hk] at hr
     obtain⟨v,h',h1,h2⟩:=I7 hr
     obtain⟨s,t',H',q1,q2,q3⟩:=CR l _ _ _ _ _ _ _ _ k r (fP.put _ _) h2
     refine⟨_,t',H',?_,by rw[aeR] at q2;exact q2,q3⟩
     unfold kA
     simp only[hw,hk,h1,Bf hd,q1]
     rfl
    | pure=>
     rw[hk] at hr
     obtain⟨v,h',h1,h2⟩:=Jl hr
     obtain⟨s,t',H',q1,q2,q3⟩:=CR l _ _ _ _ _ _ _ _ k r (fP.put _ _) h2
     refine⟨_,t',H',?_,by rw[aeR] at q2;exact q2,q3⟩
     unfold kA
     simp only[hw,hk,h1,Bf hd,q1]
     rfl
    | read=>
     rw[hk] at hr
     obtain⟨v,h',h1,h2⟩:=Jl hr
     obtain⟨s,t',H',q1,q2,q3⟩:=CR l _ _ _ _ _ _ _ _ k r (fP.put _ _) h2
     refine⟨_,t',H',?_,by rw[aeR] at q2;exact q2,q3⟩
     unfold kA
     simp only[hw,hk,h1,Bf hd,q1]
     rfl
   have skip:∀ kn,sY kn tp->pJ ops o tp=some false->kg P cf n ops (i+1) l bs (Fy kn o.dst) (gx o.dst bJ tp) (gx o.dst bJ te) hb h (acc++[⟨i,o,b,false,.pure,bJ,tp,hb,hb⟩]) k=some r->
     ∃ s t' H',kA P cf n ops i (o::l) (b::bs) tp te hb h=some (s,t',H')/\zv P (acc++s)=true/\k t' H'=some r:=by
    intro kn fP hw hr
    obtain⟨s,t',H',q1,q2,q3⟩:=CR l _ _ _ _ _ _ _ _ k r (fP.ael _) hr
    refine⟨_,t',H',?_,by rw[aeR] at q2;exact q2,q3⟩
    unfold kA
    simp only[hw,Bf hd,q1]
    rfl
   cases hg:o.guard with
   | none=>
    rw[hg] at hr
    exact go kn fP (by unfold pJ;rw[hg]) hr
   | some p=>
    obtain⟨j,want⟩:=p
    rw[hg] at hr
    simp only at hr
    have uW:=Tw (ops:=ops) (o:=o) (t:=tp) hg
    unfold gv at uW
    cases hj:(ops[j]?).bind (·.dst) with
    | none=>
     rw[hj] at hr uW
     exact skip kn fP uW hr
    | some d=>
     rw[hj] at hr uW
     simp only at hr uW
     cases hl:tG kn d with
     | some c=>
      rw[hl] at hr
      simp only at hr
      rw[fP d c hl,afG] at uW
      cases hw:wv want c with
      | none=>rw[hw] at hr;cases hr
      | some q=>
       rw[hw] at hr uW
       cases q with
       | true=>exact go kn fP uW hr
       | false=>exact skip kn fP uW hr
     | none=>
      rw[hl] at hr
      simp only at hr
      unfold sG at hr
      cases ht:tp.get d with
      | none=>rw[ht] at hr;cases hr
      | some v=>
       rw[ht,afG] at hr uW
       cases v<;>first | (cases hr;done) | skip
       rename_i q
       simp only at hr
       have LB:pJ ops o tp=some (q==want):=uW
       cases hq:(q==want) with
       | true=>
        rw[hq] at hr LB
        have:q=want:=by simpa using hq
        subst this
        rw[Uw ht] at hr
        exact go _ (fP.cons ht) LB hr
       | false=>
        rw[hq] at hr LB
        have:q = !want:=by cases q<;>cases want<;>simp_all
        subst this
        rw[Uw ht] at hr
        exact skip _ (fP.cons ht) LB hr
theorem acy:BG P (rH P):=by
 intro cf n ops d t H k r h
 unfold rH at h
 cases d with
 | false=>
  simp only[cond_false] at h ⊢
  exact PY _ _ _ _ _ h
 | true=>
  simp only[cond_true] at h ⊢
  cases hr:wg ops with
  | false=>rw[hr] at h;cases h
  | true=>
   rw[hr] at h
   simp only[cond_true] at h
   obtain⟨s,t',H',q1,q2,q3⟩:=CR _ _ _ _ _ _ _ _ _ _ _ (fun d v hd=>by cases hd) h
   refine⟨t',H',?_,q3⟩
   unfold zY
   rw[hr]
   simp only[cond_true,q1]
   rw[ahO] at q2
   rw[q2];rfl
def NT:AV->Hp->R:=fun v H=>some (v,H)
theorem jt {α:Type}(o:Option α)(f:α->R)(g:AV × Hp->R):(B1 o f).bind g=B1 o fun v=>(f v).bind g:=by cases o<;>rfl
theorem ui (o:Option (AV × Hp))(f:AV->Hp->R)(g:AV × Hp->R):(B2 o f).bind g=B2 o fun v H=>(f v H).bind g:=by cases o<;>rfl
theorem J4 (o:Option (Nat × Hp))(f:Nat->Hp->R)(g:AV × Hp->R):(BN o f).bind g=BN o fun i H=>(f i H).bind g:=by cases o<;>rfl
theorem aoZ {op:BinOp}{t:TypeId}{X Y:Operand}{x y:AV}{H:Hp}(f:AV->R)(g:AV × Hp->R):(Cc P op t X Y x y H f).bind g=Cc P op t X Y x y H fun v=>(f v).bind g:=by
 unfold Cc
 split<;>first | exact jt _ _ _ | skip
 cases gA P op t (uq X||uq Y) x y with
 | false=>rfl
 | true=>exact jt _ _ _
theorem ap7 {a b:TypeId}{x:AV}{H:Hp}(f:AV->Hp->R)(g:AV × Hp->R):(BC P a b x H f).bind g=BC P a b x H fun v H=>(f v H).bind g:=by
 unfold BC
 split<;>first | exact jt _ _ _ | exact ui _ _ _ | (split<;>first | exact jt _ _ _ | exact ui _ _ _ | rfl)
theorem aiG {t:TypeId}{x:AV}{lo hi mx:Option AV}{H:Hp}(f:AV->R)(g:AV × Hp->R):(DJ P t x lo hi mx H f).bind g=DJ P t x lo hi mx H fun v=>(f v).bind g:=by
 unfold DJ
 split<;>first | exact jt _ _ _ | (split<;>first | exact jt _ _ _ | rfl)
theorem alr {b:Builtin}{ty:Array TypeId}{args:List AV}{H:Hp}(f:AV->Hp->R)(g:AV × Hp->R):(Cr P b ty args H f).bind g=Cr P b ty args H fun v H=>(f v H).bind g:=by
 unfold Cr
 split
 ·split<;>first | exact jt _ _ _ | exact ui _ _ _
 ·split<;>first | rfl | skip
  split<;>first | rfl | skip
  rename_i z _ _
  cases (Nat.ble (P.bytesOf _) 4096&&Nat.beq _ _) with
  | false=>rfl
  | true=>exact ui _ _ _
 ·split<;>first | rfl | skip
  split<;>first | exact ui _ _ _ | rfl
 ·split<;>first | rfl | skip
  split<;>first | exact jt _ _ _ | exact ui _ _ _
 ·exact ui _ _ _
theorem aj1 {cf:CF}{o:Oper}{t:Tm}{H:Hp}(f:AV->Hp->R)(g:AV × Hp->R):(dX P cf o t H f).bind g=dX P cf o t H fun v H=>(f v H).bind g:=by
 obtain⟨dst,op,ty0,pos,after,guard⟩:=o
 cases op<;>unfold dX<;>simp only
 case pick=>exact jt _ _ _
 case alloc=>split<;>first | exact J4 _ _ _ | rfl
 case box=>exact J4 _ _ _
 case build=>
  split
  ·split<;>first | rfl | skip
   split<;>first | exact jt _ _ _ | rfl
  ·split<;>first | exact jt _ _ _ | rfl
  ·rfl
 case buildSlice=>
  split<;>first | rfl | skip
  split<;>first | rfl | skip
  cases Nat.ble _ 65536 with
  | false=>rfl
  | true=>
   simp only[cond_true]
   split<;>first | rfl | skip
   rw[jt]
   congr 1
   funext l
   exact J4 _ _ _
 case insert=>split<;>first | rfl | (split<;>exact jt _ _ _)
 case mapUpdate=>split<;>first | rfl | (split<;>exact jt _ _ _)
 case load=>split<;>first | exact jt _ _ _ | rfl
 case store=>split<;>first | exact jt _ _ _ | rfl
 case nilCheck=>exact jt _ _ _
 case binOp=>exact aoZ _ _
 case unOp=>exact jt _ _ _
 case convert=>exact ap7 _ _
 case makeInterface=>split<;>rfl
 case makeFunc=>split<;>rfl
 case makeMap ty x=>cases x<;>first | exact J4 _ _ _ | rfl
 case makeSlice=>
  split<;>first | rfl | skip
  split<;>first | rfl | skip
  cases (Nat.ble (P.bytesOf _) 4096&&Nat.beq _ _) with
  | false=>rfl
  | true=>exact ui _ _ _
 case slice=>exact aiG _ _
 case fieldAddr=>split<;>first | exact jt _ _ _ | rfl
 case field=>
  split<;>first | rfl | skip
  split<;>first | rfl | skip
  split<;>first | exact jt _ _ _ | rfl
 case indexAddr=>
  split<;>first | rfl | skip
  ·split<;>first | exact jt _ _ _ | rfl
  ·split<;>first | exact jt _ _ _ | rfl
 case index=>split<;>exact jt _ _ _
 case lookup=>
  split<;>first | rfl | skip
  split<;>exact jt _ _ _
 case range=>exact ui _ _ _
 case next=>exact ui _ _ _
 case entry=>rfl
 case extract=>exact jt _ _ _
 case typeAssert=>split<;>first | exact jt _ _ _ | rfl
 case call c=>
  obtain⟨callee,args,rm⟩:=c
  cases callee with
  | value f=>exact ui _ _ _
  | invoke r m=>rfl
  | builtin b=>exact alr _ _
 all_goals rfl
theorem VH {cf:CF}{o:Oper}{t:Tm}{H:Hp}(k:AV->Hp->R):dX P cf o t H k=(dX P cf o t H NT).bind fun p=>k p.1 p.2:=by
 rw[aj1];rfl
theorem amV {cf : CF}{o : Oper}{t : Tm}{H : Hp}{k : AV -> Hp -> R}{r : AV × Hp}(h : dX P cf o t H k = some r) :
    ∃ v H', k v H' = some r /\ ∀ cO : Nat -> CF, rz cO cf -> Ev fun j => ∀ k', dX P (cO j) o t H k' = k' v H' := by
  rw[VH, aa6] at h
  obtain⟨⟨v, H'⟩, h1, h2⟩ := h
  refine⟨v, H', h2, fun cO gr => ?_⟩
  have key : Ev fun j => dX P (cO j) o t H NT = some (v, H') := by
    obtain⟨dst, op, ty0, pos, after, guard⟩ := o
    cases op
    case makeMap ty x => cases x<;>exact Ev.of fun _ => h1
    case call c =>
     obtain⟨callee, args, rm⟩ := c
     cases callee with
     | invoke r m => exact Ev.of fun _ => h1
     | builtin b => exact Ev.of fun _ => h1
     | value f =>
      obtain⟨v2, H2, q1, q2⟩ := tV h1
      obtain⟨k0, hk⟩ := gr _ _ _ _ q1
      refine⟨k0, fun j hj => ?_⟩
      show B2 (cO j _ _ H) NT = _
      rw[hk j hj]
      exact q2
    all_goals exact Ev.of fun _ => h1
  obtain⟨k0, hk⟩ := key
  refine⟨k0, fun j hj k' => ?_⟩
  rw[VH, hk j hj];rfl
theorem vC:rz (fun _=>ig) ig:=fun x l H r h=>by cases h
theorem qb {cO:Nat->CF}{cf:CF}(gr:rz cO cf){o:Oper}{t:Tm}{H:Hp}{ks:Nat->AV->Hp->R}{k:AV->Hp->R}{r:AV × Hp}(hk:∀ v H,k v H=some r->Ev fun j=>ks j v H=some r)(h:dX P cf o t H k=some r):Ev fun j=>dX P (cO j) o t H (ks j)=some r:=by
 obtain⟨v,H',h1,h2⟩:=amV h
 obtain⟨a,ha⟩:=h2 cO gr
 obtain⟨b,hb⟩:=hk v H' h1
 refine⟨max a b,fun j hj => ?_⟩
 exact (ha j (af2 (Nat.le_max_left a b) hj) (ks j)).trans (hb j (af2 (Nat.le_max_right a b) hj))
theorem I5 {cO:Nat->CF}{cf:CF}(gr:rz cO cf){ks:Nat->KN}{k:KN}(hk:vR ks k){n:Nat}{ops:Array Oper}:∀ (l:List Oper) (t:Tm) (H:Hp) (r:AV × Hp),uu P cf n ops l t H k=some r->Ev fun j=>uu P (cO j) n ops l t H (ks j)=some r
 | [],t,H,r,h=>hk t H r h
 | o::l,t,H,r,h=>by
  unfold uu at h ⊢
  cases hd:uk n o.dst with
  | false=>rw[hd] at h;cases h
  | true=>
   rw[hd] at h
   simp only[cond_true] at h ⊢
   cases hg:o.guard with
   | none=>
    rw[hg] at h
    exact qb gr (fun v H h=>I5 gr hk l _ _ r h) h
   | some p=>
    obtain⟨q,want⟩:=p
    rw[hg] at h
    simp only at h ⊢
    unfold GO at h ⊢
    cases hw:wv want (gv ops q t) with
    | none=>rw[hw] at h;cases h
    | some b=>
     rw[hw] at h
     cases b with
     | true=>exact qb gr (fun v H h=>I5 gr hk l _ _ r h) h
     | false=>exact I5 gr hk l _ _ r h
theorem zG {s:jA}{xs:Nat->R}{x:R}{r:AV × Hp}(hx:x=some r->Ev fun j=>xs j=some r):∀ (l:List jA),om P s x l=some r->Ev fun j=>om P s (xs j) l=some r
 | [],h=>hx h
 | q::l,h=>by
  unfold om at h ⊢
  have rd:∀ Hx:Hp,(dX P ig q.o q.t Hx fun v _=>SM q.v v (om P s x l))=some r->Ev fun j=>(dX P ig q.o q.t Hx fun v _=>SM q.v v (om P s (xs j) l))=some r:=by
   intro Hx h
   refine qb (cO:=fun _=>ig) vC (ks:=fun j v _=>SM q.v v (om P s (xs j) l)) (fun v H h => ?_) h
   unfold SM at h ⊢
   cases hs:same q.v v with
   | false=>rw[hs] at h;cases h
   | true=>rw[hs] at h;exact zG hx l h
  cases hk:q.k with
  | pure=>rw[hk] at h;exact zG hx l h
  | read=>
   rw[hk] at h
   simp only at h ⊢
   cases hb:Nat.blt q.i s.i with
   | true=>
    rw[hb] at h
    simp only[cond_true] at h ⊢
    cases ht:s.b.testBit q.i with
    | true=>rw[ht] at h;exact zG hx l h
    | false=>rw[ht] at h;exact rd _ h
   | false=>
    rw[hb] at h
    simp only[cond_false] at h ⊢
    cases ht:q.b.testBit s.i with
    | true=>rw[ht] at h;exact zG hx l h
    | false=>rw[ht] at h;exact rd _ h
  | late=>
   rw[hk] at h
   simp only at h ⊢
   cases hb:(!(Nat.blt q.i s.i)||s.b.testBit q.i) with
   | false=>rw[hb] at h;cases h
   | true=>rw[hb] at h;exact zG hx l h
  | cW=>
   rw[hk] at h
   simp only at h ⊢
   cases hb:(!(Nat.blt q.i s.i)||s.b.testBit q.i) with
   | false=>rw[hb] at h;cases h
   | true=>rw[hb] at h;exact zG hx l h
theorem Hu {all:List jA}{xs:Nat->R}{x:R}{r:AV × Hp}(hx:x=some r->Ev fun j=>xs j=some r):∀ (l:List jA),vF P all x l=some r->Ev fun j=>vF P all (xs j) l=some r
 | [],h=>hx h
 | s::l,h=>by
  unfold vF at h ⊢
  cases hk:s.k with
  | cW=>rw[hk] at h;exact zG (xs:=fun j=>vF P all (xs j) l) (fun h=>Hu hx l h) all h
  | pure=>rw[hk] at h;exact Hu hx l h
  | read=>rw[hk] at h;exact Hu hx l h
  | late=>rw[hk] at h;exact Hu hx l h
theorem Yv {cO:Nat->CF}{cf:CF}(gr:rz cO cf){ks:Nat->KN}{k:KN}(hk:vR ks k){n:Nat}{ops:Array Oper}:∀ (l:List Oper) (i:Nat) (bs:List Nat) (kn:List (Nat × AV)) (tp te:Tm) (hb h:Hp) (acc:List jA) (r:AV × Hp),kg P cf n ops i l bs kn tp te hb h acc k=some r->
  Ev fun j=>kg P (cO j) n ops i l bs kn tp te hb h acc (ks j)=some r
 | [],i,bs,kn,tp,te,hb,h,acc,r,hr=>by
  unfold kg at hr ⊢
  exact Hu (xs:=fun j=>ks j te h) (fun q=>hk te h r q) acc hr
 | o::l,i,[],kn,tp,te,hb,h,acc,r,hr=>by unfold kg at hr;cases hr
 | o::l,i,b::bs,kn,tp,te,hb,h,acc,r,hr=>by
  unfold kg at hr ⊢
  cases hd:uk n o.dst with
  | false=>rw[hd] at hr;cases hr
  | true=>
   rw[hd] at hr
   simp only[cond_true] at hr ⊢
   have qq:=fun i bs kn tp te hb h acc hr=>Yv (n:=n) (ops:=ops) gr hk l i bs kn tp te hb h acc r hr
   cases hg:o.guard with
   | none=>
    rw[hg] at hr
    simp only at hr ⊢
    cases cl:kd P o<;>rw[cl] at hr<;>simp only at hr ⊢
    ·exact qb (cO:=fun _=>ig) vC (fun v H h=>qq _ _ _ _ _ _ _ _ h) hr
    ·exact qb (cO:=fun _=>ig) vC (fun v H h=>qq _ _ _ _ _ _ _ _ h) hr
    ·exact qb (cO:=fun _=>ig) vC (fun v H h=>qq _ _ _ _ _ _ _ _ h) hr
    ·exact qb gr (fun v H h=>qq _ _ _ _ _ _ _ _ h) hr
   | some p=>
    obtain⟨q,want⟩:=p
    rw[hg] at hr
    simp only at hr ⊢
    cases hj:(ops[q]?).bind (·.dst) with
    | none=>
     rw[hj] at hr
     exact qq _ _ _ _ _ _ _ _ hr
    | some d=>
     rw[hj] at hr
     simp only at hr ⊢
     cases hl:tG kn d with
     | some c=>
      rw[hl] at hr
      simp only at hr ⊢
      cases hw:wv want c with
      | none=>rw[hw] at hr;cases hr
      | some w=>
       rw[hw] at hr
       cases w with
       | true=>
        simp only at hr ⊢
        cases cl:kd P o<;>rw[cl] at hr<;>simp only at hr ⊢
        ·exact qb (cO:=fun _=>ig) vC (fun v H h=>qq _ _ _ _ _ _ _ _ h) hr
        ·exact qb (cO:=fun _=>ig) vC (fun v H h=>qq _ _ _ _ _ _ _ _ h) hr
        ·exact qb (cO:=fun _=>ig) vC (fun v H h=>qq _ _ _ _ _ _ _ _ h) hr
        ·exact qb gr (fun v H h=>qq _ _ _ _ _ _ _ _ h) hr
       | false=>exact qq _ _ _ _ _ _ _ _ hr
     | none=>
      rw[hl] at hr
      simp only at hr ⊢
      unfold sG at hr ⊢
      split at hr
      ·rename_i w hv
       cases hw:(w==want) with
       | true=>
        rw[hw] at hr
        simp only[cond_true] at hr ⊢
        cases cl:kd P o<;>rw[cl] at hr<;>simp only at hr ⊢
        ·exact qb (cO:=fun _=>ig) vC (fun v H h=>qq _ _ _ _ _ _ _ _ h) hr
        ·exact qb (cO:=fun _=>ig) vC (fun v H h=>qq _ _ _ _ _ _ _ _ h) hr
        ·exact qb (cO:=fun _=>ig) vC (fun v H h=>qq _ _ _ _ _ _ _ _ h) hr
        ·exact qb gr (fun v H h=>qq _ _ _ _ _ _ _ _ h) hr
       | false=>
        rw[hw] at hr
        exact qq _ _ _ _ _ _ _ _ hr
      ·cases hr
theorem JH:vL (rH P):=by
 intro cO cf kJ kn n ops d t H r h1 h2 h
 unfold rH at h ⊢
 cases d with
 | false=>
  simp only[cond_false] at h ⊢
  exact I5 h1 h2 _ _ _ _ h
 | true=>
  simp only[cond_true] at h ⊢
  cases hr:wg ops with
  | false=>rw[hr] at h;cases h
  | true=>
   rw[hr] at h
   simp only[cond_true] at h ⊢
   exact Yv h1 h2 _ _ _ _ _ _ _ _ _ _ h
end
end K
end
set_option linter.unusedVariables false
namespace K
def sub:Code->List Nat->Code
 | c,[]=>c
 | .seq a b,i::r=>match i with | 0=>sub a r | _=>sub b r
 | .cond _ a b,i::r=>match i with | 0=>sub a r | _=>sub b r
 | .block _ b,_::r=>sub b r
 | .loop b,_::r=>sub b r
 | c,_::_=>c
def Xg (P:Program)(f:Nat)(path:List Nat):Code:=match P.funcs[f]? with
 | some fn=>(match fn.body with | some b=>sub b path | none => .skip)
 | none => .skip
def nT (P:Program)(f:Nat):Nat:=match P.funcs[f]? with | some fn=>fn.ntmps | none=>0
def ZQ (P:Program)(f:Nat):KN:=fun t H=>match P.funcs[f]? with | some fn=>Bt P t H fn.results.toList | none=>none
noncomputable section
def Ko (P:Program)(aZ:qO)(cf:CF)(n:Nat)(b:Code)(x:An)(lv:List Nat)(ke:Nat->KN)(kr:KN):Fn lv.length:=
 LP lv.length (fun k=>abs lv.length fun l H=>bA P aZ cf n b x (fun t H=>app lv.length k (ax lv t) H) ke kr (cz n lv l) H)
theorem ao7 {P:Program}{aZ:qO}(gw:vL aZ)(cf:CF)(n:Nat)(b:Code)(x:An)(lv:List Nat)(ke:Nat->KN)(kr:KN)(l:List AV)(hl:l.length=lv.length)(H:Hp) :
  app lv.length (Ko P aZ cf n b x lv ke kr) l H=bA P aZ cf n b x (fun t H=>app lv.length (Ko P aZ cf n b x lv ke kr) (ax lv t) H) ke kr (cz n lv l) H:=
 anh gw cf n b x lv ke kr l hl H
end
def LF (k:Nat)(x:AV)(H:Hp)(f:AV->R):R:=B1 (fa k x) fun v=>B1 (ld v H) f
def NF (k:Nat)(x:AV)(H:Hp)(f:AV->R):R:=B1 (aV x) fun v=>B1 (fa k v) fun u=>B1 (ld u H) f
def NA (k:Nat)(x:AV)(f:AV->R):R:=B1 (aV x) fun v=>B1 (fa k v) f
theorem W8 (k i o:Nat)(H:Hp)(f:AV->R):LF k (.ptr i o) H f=B1 (ld (.ptr i (o+k)) H) f:=aal rfl (id rfl)
theorem XH (k i o:Nat)(H:Hp)(f:AV->R):NF k (.ptr i o) H f=B1 (ld (.ptr i (o+k)) H) f:=aal rfl (id rfl)
theorem Zc (k i o:Nat)(f:AV->R):NA k (.ptr i o) f=f (.ptr i (o+k)):=aal rfl (id rfl)
end K
end
set_option linter.unusedVariables false
set_option linter.unusedSimpArgs false
namespace K
section
def qC:Pa->AV->Tm->(Tm->R)->R
 | .e,x,t,k=>match t with | .nil=>k (.node (some x) .nil .nil .nil .nil) | .node _ a b c d=>k (.node (some x) a b c d)
 | .a p,x,t,k=>match t with | .nil=>qC p x .nil fun q=>k (.node none q .nil .nil .nil) | .node v a b c d=>qC p x a fun q=>k (.node v q b c d)
 | .b p,x,t,k=>match t with | .nil=>qC p x .nil fun q=>k (.node none .nil q .nil .nil) | .node v a b c d=>qC p x b fun q=>k (.node v a q c d)
 | .c p,x,t,k=>match t with | .nil=>qC p x .nil fun q=>k (.node none .nil .nil q .nil) | .node v a b c d=>qC p x c fun q=>k (.node v a b q d)
 | .d p,x,t,k=>match t with | .nil=>qC p x .nil fun q=>k (.node none .nil .nil .nil q) | .node v a b c d=>qC p x d fun q=>k (.node v a b c q)
theorem Hk:∀ (p:Pa) (x:AV) (t:Tm) (k:Tm->R),qC p x t k=k (Tr.ko p (some x) t)
 | .e,x,t,k=>by cases t<;>rfl
 | .a p,x,t,k=>by cases t<;>(unfold qC;simp only[Hk p];rfl)
 | .b p,x,t,k=>by cases t<;>(unfold qC;simp only[Hk p];rfl)
 | .c p,x,t,k=>by cases t<;>(unfold qC;simp only[Hk p];rfl)
 | .d p,x,t,k=>by cases t<;>(unfold qC;simp only[Hk p];rfl)
def p7 (dst:Option Tmp)(v:AV)(t:Tm)(k:Tm->R):R:=match dst with | none=>k t | some d=>qC (pathOf d) v t k
theorem YN (dst:Option Tmp)(v:AV)(t:Tm)(k:Tm->R):p7 dst v t k=k (gx dst v t):=by
 cases dst with
 | none=>rfl
 | some d=>exact Hk _ _ _ _
def FO (o:Option AV)(k:Option AV->R):R:=match o with | none=>k none | some v=>k (some v)
theorem afb (o:Option AV)(k:Option AV->R):FO o k=k o:=by cases o<;>rfl
def FT:Tm->(Tm->R)->R
 | .nil,k=>k .nil
 | .node v a b c d,k=>FO v fun v=>FT a fun a=>FT b fun b=>FT c fun c=>FT d fun d=>k (.node v a b c d)
theorem Cb:∀ (t:Tm) (k:Tm->R),FT t k=k t
 | .nil,k=>rfl
 | .node v a b c d,k=>by unfold FT;rw[afb,Cb a,Cb b,Cb c,Cb d]
def OE (o:Option AV)(k:AV->R):R:=match o with | some v=>k v | none=>k bJ
theorem akS (o:Option AV)(k:AV->R):OE o k=k (o.getD bJ):=by cases o<;>rfl
noncomputable section
variable (P:Program)
def aG (t:Tm)(x:Operand)(k:AV->R):R:=match x with
 | .tmp d=>OE (t.get d) k
 | x=>k (ev P.globals.size t x)
theorem XT (t:Tm)(x:Operand)(k:AV->R):aG P t x k=k (ev P.globals.size t x):=by
 cases x<;>first | rfl | exact akS _ _
def za (cf:CF)(o:Oper)(t:Tm)(H:Hp)(k:AV->Hp->R):R:=match o.op with
 | .move x=>aG P t x fun v=>k v H
 | .assign x=>aG P t x fun v=>k v H
 | _=>dX P cf o t H k
theorem W2 (cf:CF)(o:Oper)(t:Tm)(H:Hp)(k:AV->Hp->R):za P cf o t H k=dX P cf o t H k:=by
 unfold za
 split
 ·rename_i x h
  rw[XT];unfold dX;rw[h]
 ·rename_i x h
  rw[XT];unfold dX;rw[h]
 ·rfl
abbrev JT:=(m:Nat)->(Fn m->R)->Fn m->R
abbrev GT:=AV->Bool->((AV->Hp->R)->R)->(AV->Hp->R)->Hp->R
def DY (G:GT)(cf:CF)(n:Nat)(ops:Array Oper):List Oper->Tm->Hp->KN->R
 | [],t,H,k=>k t H
 | o::r,t,H,k=>match uk n o.dst with
  | true=>(match o.guard with
   | none=>za P cf o t H fun v H=>p7 o.dst v t fun t=>DY G cf n ops r t H k
   | some (j,want)=>G (gv ops j t) want (fun k'=>za P cf o t H k') (fun v H=>p7 o.dst v t fun t=>DY G cf n ops r t H k) H)
  | false=>none
theorem aaQ (cf:CF)(n:Nat)(ops:Array Oper):∀ (l:List Oper) (t:Tm) (H:Hp) (k:KN),DY P GO cf n ops l t H k=uu P cf n ops l t H k
 | [],t,H,k=>rfl
 | o::r,t,H,k=>by
  unfold DY uu
  simp only[W2,YN,aaQ cf n ops r]
  cases uk n o.dst<;>rfl
def vh (cf:CF)(n:Nat)(ops:Array Oper):Nat->List Oper->List Nat->List (Nat × AV)->Tm->Tm->Hp->Hp->List jA->KN->R
 | _,[],_,_,_,te,_,h,acc,k=>vF P acc (k te h) acc
 | _,_::_,[],_,_,_,_,_,_,_=>none
 | i,o::r,b::bs,kn,tp,te,hb,h,acc,k=>match uk n o.dst with
  | true=>
   let go:List (Nat × AV)->Tm->R:=fun kn tp=>match kd P o with
    | .late=>za P ig o te h fun v h'=>p7 o.dst .cP tp fun tq=>p7 o.dst v te fun te=>vh cf n ops (i+1) r bs (nu kn o.dst) tq te hb h' (acc++[⟨i,o,b,true,.late,v,tp,hb,hb⟩]) k
    | .cW=>za P cf o te h fun v h'=>p7 o.dst v tp fun tq=>p7 o.dst v te fun te=>vh cf n ops (i+1) r bs (nu kn o.dst) tq te h' h' (acc++[⟨i,o,b,true,.cW,v,tp,hb,h'⟩]) k
    | .pure=>za P ig o tp hb fun v _=>p7 o.dst v tp fun tq=>p7 o.dst v te fun te=>vh cf n ops (i+1) r bs (nu kn o.dst) tq te hb h (acc++[⟨i,o,b,true,.pure,v,tp,hb,hb⟩]) k
    | .read=>za P ig o tp hb fun v _=>p7 o.dst v tp fun tq=>p7 o.dst v te fun te=>vh cf n ops (i+1) r bs (nu kn o.dst) tq te hb h (acc++[⟨i,o,b,true,.read,v,tp,hb,hb⟩]) k
   let skip:List (Nat × AV)->Tm->R:=fun kn tp=>p7 o.dst bJ tp fun tq=>p7 o.dst bJ te fun te=>vh cf n ops (i+1) r bs (Fy kn o.dst) tq te hb h (acc++[⟨i,o,b,false,.pure,bJ,tp,hb,hb⟩]) k
   match o.guard with
   | none=>go kn tp
   | some (j,want)=>match (ops[j]?).bind (·.dst) with
    | none=>skip kn tp
    | some d=>match tG kn d with
     | some c=>(match wv want c with | some true=>go kn tp | some false=>skip kn tp | none=>none)
     | none=>sG ((tp.get d).getD bJ) want (p7 (some d) (.bool want) tp fun tp=>go ((d,.bool want)::kn) tp) (p7 (some d) (.bool !want) tp fun tp=>skip ((d,.bool !want)::kn) tp)
  | false=>none
theorem Y9 (cf:CF)(n:Nat)(ops:Array Oper):∀ (l:List Oper) (i:Nat) (bs:List Nat) (kn:List (Nat × AV)) (tp te:Tm) (hb h:Hp) (acc:List jA) (k:KN),
  vh P cf n ops i l bs kn tp te hb h acc k=kg P cf n ops i l bs kn tp te hb h acc k
 | [],i,bs,kn,tp,te,hb,h,acc,k=>by unfold vh kg;rfl
 | o::l,i,[],kn,tp,te,hb,h,acc,k=>by unfold vh kg;rfl
 | o::l,i,b::bs,kn,tp,te,hb,h,acc,k=>by
  unfold vh kg
  simp only[W2,YN,Y9 cf n ops l]
  cases uk n o.dst<;>rfl
def QB (G:GT):qO:=fun cf n ops d t H k=>match d with
 | true=>(match wg ops with | true=>FT t fun t=>vh P cf n ops 0 ops.toList (before ops.toList []) [] t t H H [] k | false=>none)
 | false=>FT t fun t=>DY P G cf n ops ops.toList t H k
theorem ag3:QB P GO=rH P:=by
 funext cf n ops d t H k
 unfold QB rH
 cases d with
 | false=>simp only[cond_false,Cb,aaQ]
 | true=>
  simp only[cond_true]
  cases wg ops<;>simp only[cond_true,cond_false,Cb,Y9]
def codeF (J:JT)(G:GT)(cf:CF)(n:Nat):Code->An->KN->(Nat->KN)->KN->KN
 | .skip,_,kn,_,_=>kn
 | .label _,_,kn,_,_=>kn
 | .seq a b,an,kn,ke,kr=>match an with
  | .sq none x y=>codeF J G cf n a x (codeF J G cf n b y kn ke kr) ke kr
  | .sq (some lv) x y=>fun t H=>J lv.length (fun k=>codeF J G cf n a x (fun t H=>app lv.length k (ax lv t) H) ke kr t H) (abs lv.length fun l H=>codeF J G cf n b y kn ke kr (cz n lv l) H)
  | .pr lv p=>fun t H=>B1 (p t H) fun H=>kn (cz n lv (ax lv t)) H
  | _=>fun _ _=>none
 | .cond c a b,an,kn,ke,kr=>match an with
  | .cd x y=>fun t H=>CD (ev P.globals.size t c) (codeF J G cf n a x kn ke kr t H) (codeF J G cf n b y kn ke kr t H)
  | _=>fun _ _=>none
 | .block i b,an,kn,ke,kr=>match an with
  | .bl none x=>codeF J G cf n b x kn (fun j t H=>match Nat.beq j i with | true=>kn t H | false=>ke j t H) kr
  | .bl (some lv) x=>fun t H=>J lv.length (fun k=>codeF J G cf n b x (fun t H=>app lv.length k (ax lv t) H) (fun j t H=>match Nat.beq j i with | true=>app lv.length k (ax lv t) H | false=>ke j t H) kr t H) (abs lv.length fun l H=>kn (cz n lv l) H)
  | _=>fun _ _=>none
 | .loop b,an,kn,ke,kr=>match an with
  | .lp lv x=>fun t H=>app lv.length (LP lv.length (fun k=>abs lv.length fun l H=>codeF J G cf n b x (fun t H=>app lv.length k (ax lv t) H) ke kr (cz n lv l) H)) (ax lv t) H
  | _=>fun _ _=>none
 | .exit i,_,_,ke,_=>ke i
 | .ret,_,_,_,kr=>kr
 | .region _ ops d,_,kn,_,_=>fun t H=>QB P G cf n ops d t H kn
 | _,_,_,_,_=>fun _ _=>none
theorem aog {α:Type}(b:Bool)(x y:α):(match b with | true=>x | false=>y)=bif b then x else y:=by cases b<;>rfl
theorem codeF_eq (cf:CF)(n:Nat):∀ (c:Code) (an:An) (kn:KN) (ke:Nat->KN) (kr:KN),codeF P JN GO cf n c an kn ke kr=bA P (rH P) cf n c an kn ke kr:=by
 intro c
 induction c with
 | seq a b ia ib=>
  intro an kn ke kr
  unfold codeF bA
  cases an with
  | sq j x y=>cases j<;>simp only[ia,ib]
  | _=>rfl
 | cond q a b ia ib=>
  intro an kn ke kr
  unfold codeF bA
  cases an with
  | cd x y=>simp only[ia,ib]
  | _=>rfl
 | block i b ib=>
  intro an kn ke kr
  unfold codeF bA
  cases an with
  | bl j x=>cases j<;>simp only[ib,aog]
  | _=>rfl
 | loop b ib=>
  intro an kn ke kr
  unfold codeF bA
  cases an with
  | lp lv x=>simp only[ib]
  | _=>rfl
 | region id ops d=>
  intro an kn ke kr
  unfold codeF bA
  rw[ag3]
 | _=>intro an kn ke kr;unfold codeF bA;rfl
def TH (J:JT)(G:GT)(cf:CF)(fn:Func)(an:An)(b:Code)(args:List AV)(H:Hp):R:=
 codeF P J G cf fn.ntmps b an (fun t H=>Bt P t H fn.results.toList) (fun _ _ _=>none) (fun t H=>Bt P t H fn.results.toList) (Gk fn.ntmps args) H
def fK (J:JT)(G:GT)(aQ:Nat->Option Prim)(an:Nat->An)(cf:CF)(aX:Nat)(args:List AV)(H:Hp):R:=
 match aQ aX with
 | some _=>none
 | none=>match P.funcs[aX]? with
  | some fn=>match fn.body with
   | some b=>match Nat.ble args.length fn.ntmps&&Nat.blt fn.ntmps 4294967296&&(an aX).ok fn.ntmps with
    | true=>TH P J G cf fn (an aX) b args H
    | false=>none
   | none=>none
  | none=>none
def EE (J:JT)(G:GT)(cf:CF)(n:Nat)(b:Code)(x:An)(lv:List Nat)(ke:Nat->KN)(kr:KN):Fn lv.length:=
 LP lv.length (fun k=>abs lv.length fun l H=>codeF P J G cf n b x (fun t H=>app lv.length k (ax lv t) H) ke kr (cz n lv l) H)
end
variable {P:Program}{ext:Nat->Option Ext}{aQ:Nat->Option Prim}{an:Nat->An}
theorem aS {aX:Nat}{first args cap:List AV}{H:Hp}{r:AV × Hp}(h:fK P JN GO aQ an (CK P (rH P) ext aQ an) aX (first++args++cap) H=some r):CK P (rH P) ext aQ an (.func (.func aX) first cap) args H=some r:=by
 refine MQ JH ?_
 unfold fK at h
 unfold vD
 simp only
 split at h
 ·cases h
 ·rename_i hp
  rw[hp]
  simp only
  split at h
  ·rename_i fn hf
   rw[hf]
   simp only
   split at h
   ·rename_i b hb
    rw[hb]
    simp only
    split at h
    ·rename_i hc
     rw[hc]
     unfold TH at h
     rw[codeF_eq] at h
     exact h
    ·cases h
   ·cases h
  ·cases h
theorem ajG (cf:CF)(n:Nat)(b:Code)(x:An)(lv:List Nat)(ke:Nat->KN)(kr:KN)(l:List AV)(hl:l.length=lv.length)(H:Hp) :
  app lv.length (EE P JN GO cf n b x lv ke kr) l H=codeF P JN GO cf n b x (fun t H=>app lv.length (EE P JN GO cf n b x lv ke kr) (ax lv t) H) ke kr (cz n lv l) H:=by
 have h:EE P JN GO cf n b x lv ke kr=Ko P (rH P) cf n b x lv ke kr:=by unfold EE Ko;simp only[codeF_eq]
 rw[h,codeF_eq]
 exact ao7 JH cf n b x lv ke kr l hl H
end
abbrev An.n (x:An):An := .sq none .nl x
abbrev An.q (x y:An):An := .sq none x y
abbrev An.s (l:List Nat)(x y:An):An := .sq (some l) x y
abbrev An.t (l:List Nat)(y:An):An := .sq (some l) .nl y
abbrev An.b (x:An):An := .bl none x
abbrev An.v (l:List Nat)(x:An):An := .bl (some l) x
def yI:An->List Nat->An
 | x,[]=>x
 | .sq _ a b,i::r=>match i with | 0=>yI a r | _=>yI b r
 | .cd a b,i::r=>match i with | 0=>yI a r | _=>yI b r
 | .bl _ a,_::r=>yI a r
 | .lp _ a,_::r=>yI a r
 | x,_::_=>x
noncomputable section
variable (P:Program)(an:Nat->An)
def dZ (J:JT)(G:GT)(cf:CF)(f:Nat)(path lv:List Nat)(ke:Nat->KN):Fn lv.length:=EE P J G cf (nT P f) (Xg P f path) (yI (an f) path) lv ke (ZQ P f)
def lB (J:JT)(G:GT)(cf:CF)(f:Nat)(path lv:List Nat)(ke:Nat->KN)(k:Fn lv.length)(l:List AV)(H:Hp):R:=
 codeF P J G cf (nT P f) (Xg P f path) (yI (an f) path) (fun t H=>app lv.length k (ax lv t) H) ke (ZQ P f) (cz (nT P f) lv l) H
end
theorem eU {P:Program}{an:Nat->An}(cf:CF)(f:Nat)(path lv:List Nat)(ke:Nat->KN)(l:List AV)(hl:l.length=lv.length)(H:Hp) :
  app lv.length (dZ P an JN GO cf f path lv ke) l H=lB P an JN GO cf f path lv ke (dZ P an JN GO cf f path lv ke) l H:=ajG cf _ _ _ lv ke _ l hl H
end K
end
set_option linter.unusedVariables false
set_option linter.unusedSimpArgs false
set_option maxHeartbeats 1000000
section
variable {P:Program}{G:Nat}{F:Nat->Prop}{W:World}{e:Em}{H:Hp}{w:World}
theorem ak0 (w:World)(ty:TypeId)(r bm since:Nat)(seen:Array Nat)(es:Array MapEntry)(hr:w.heap[r]? = some (.mapIter (some bm) since seen since))(hb:w.heap[bm]? = some (.map es since))(hold:∀ x∈es.toList,x.born<since) :
  ((leftOf es seen).size=0/\(Instr.next (.pointer (some ⟨r,0,none⟩)) false ty).run P w = .ok (.tuple #[.bool false]) w)\/
  ∃ x∈(leftOf es seen).toList,∃ n,(Instr.next (.pointer (some ⟨r,0,none⟩)) false ty).run P w = .ok (.tuple #[.bool true,x.key,x.val]) { w with drawn:=n,heap:=w.heap.setIfInBounds r (.mapIter (some bm) since (seen.push x.born) since) }:=by
 simp only[Instr.next,Go.getObj,Sem.run_bind,Sem.run,hr,hb,Result.andThen,next_test_false seen es since since hold (aaC _),aby,if_false]
 unfold leftOf
 have vN:∀ x∈(Array.filter (fun e => !seen.contains e.born) es).toList,x.born<since:=fun x hx=>hold x (by simp at hx ⊢;exact hx.1)
 generalize Array.filter (fun e => !seen.contains e.born) es=L at vN ⊢
 have e1:L.filter (fun x=>decide (x.born<since))=L:=Array.filter_eq_self.2 (fun x hx=>by simpa using vN x (by simpa using hx))
 have e2:L.filter (fun x=>decide (x.born ≥ since)) = #[]:=by
  rw[Array.filter_eq_empty_iff]
  intro x hx
  have:=vN x (by simpa using hx)
  simp
  omega
 simp only[e1,e2,Array.append_empty]
 by_cases h0:L.size=0
 ·left
  have:L = #[]:=Array.eq_empty_of_size_eq_zero h0
  subst this
  refine⟨rfl,?_⟩
  simp[choose,Sem.run,Question.forced]
 ·right
  have aO:L.isEmpty=false:=by simp[Array.isEmpty,h0]
  simp only[aO,aby,if_false,Array.empty_append,Array.size_map]
  have hch:∃ (j:Nat) (n:Nat),j<L.size/\(choose (Question.mapNext L.size)).run P w = .ok j { w with drawn:=n }:=by
   by_cases hf:L.size<=1
   ·exact⟨0,w.drawn,by omega,by simp[choose,Sem.run,Question.forced,hf]⟩
   ·exact⟨_,_,Nat.mod_lt _ (by omega),by
     simp only[choose,Sem.run,Question.forced,decide_eq_true_eq,hf,if_false,Question.cut]
     rfl⟩
  obtain⟨j,n,hj,iW⟩:=hch
  refine⟨L[j],by simp,n,?_⟩
  have fh:∀ (o':Obj),(Go.setObj r o').run P { w with drawn:=n }=Result.ok () { w with drawn:=n,heap:=w.heap.setIfInBounds r o' }:=fun o'=>by
   simp only[Go.setObj,Sem.run,hr]
  simp only[iW,Array.getElem?_map,afd hj,aee,Sem.run_bind,fh,Result.andThen]
  rfl
theorem alZ (w:World)(r bm since:Nat)(seen:Array Nat)(es:Array MapEntry)(x:MapEntry)(hr:w.heap[r]? = some (.mapIter (some bm) since (seen.push x.born) since))(hb:w.heap[bm]? = some (.map es since))(he:x∈es.toList)(hn:(es.toList.map (·.born)).Nodup) :
  (Instr.entry (.pointer (some ⟨r,0,none⟩))).run P w = .ok (.tuple #[x.key,x.val]) w:=by
 have hf:es.find? (·.born==x.born)=some x:=by rw[<-Array.find?_toList];exact find_born x es.toList hn he
 simp only[Instr.entry,Go.getObj,Sem.run_bind,Sem.run,hr,hb,Result.andThen,Array.back?_push,bne_self_eq_false,aby,if_false,hf]
 rfl
theorem RH.aeU (h:RH G F W e H w){r:Nat}(o:Obj)(hF:¬ F r)(hr:∀ i a,H.h.get i=some a->e.b i≠r)(n:Nat):RH G F W e H { w with drawn:=n,heap:=w.heap.setIfInBounds r o }:=by
 refine⟨h.N,fun i a hi => ?_,h.inj,h.pK,fun k hk => ?_,h.os,h.tape,h.output,by simp only[Array.size_setIfInBounds];exact h.size,by simp only[Array.size_setIfInBounds];exact h.lC⟩
 ·obtain⟨h1,ob,h2,h3,h4⟩:=h.obj i a hi
  exact⟨h1,ob,by simp only;rw[aex (fun q=>hr i a hi q.symm)];exact h2,h3,h4⟩
 ·obtain⟨h1,h2⟩:=h.frame k hk
  exact⟨by simp only[Array.size_setIfInBounds];exact h1,by simp only;rw[aex (fun q=>by subst q;exact hF hk)];exact h2⟩
theorem gz.perm {e:Em}{a b:List ME}(hp:a.Perm b):∀ {fs:List MapEntry},gz e a fs->∃ IP,IP.Perm fs/\gz e b IP:=by
 induction hp with
 | nil=>intro fs h;exact⟨fs,List.Perm.refl _,h⟩
 | @cons x l l' hp ih=>
  intro fs h
  cases fs with
  | nil=>have:=h.1;simp at this
  | cons y fs=>
   obtain⟨IP,h1,h2⟩:=ih (fs:=fs) ⟨by simpa using h.1,fun i m m' hm lI=>h.2 (i+1) m m' (by simpa using hm) (by simpa using lI)⟩
   refine⟨y::IP,h1.cons y,by simp[h2.1],fun i m m' hm lI => ?_⟩
   cases i with
   | zero=>simp at hm lI;subst hm;subst lI;exact h.2 0 x y rfl rfl
   | succ i=>exact h2.2 i m m' (by simpa using hm) (by simpa using lI)
 | swap x y l=>
  intro fs h
  match fs,h with
  | [],h=>have:=h.1;simp at this
  | [_],h=>have:=h.1;simp at this
  | u::v::fs,h=>
   refine⟨v::u::fs,List.Perm.swap _ _ _,by have:=h.1;simpa using this,fun i m m' hm lI => ?_⟩
   match i with
   | 0=>simp at hm lI;subst hm;subst lI;exact h.2 1 x v rfl rfl
   | 1=>simp at hm lI;subst hm;subst lI;exact h.2 0 y u rfl rfl
   | i+2=>exact h.2 (i+2) m m' (by simpa using hm) (by simpa using lI)
 | trans _ _ i1 i2=>
  intro fs h
  obtain⟨f1,a1,b1⟩:=i1 h
  obtain⟨f2,a2,b2⟩:=i2 b1
  exact⟨f2,a2.trans a1,b2⟩
end
namespace K
def tg (t:Tm)(d:Nat):AV:=(t.get d).getD bJ
def xb:List ME->Bool
 | []=>true
 | m::r=>(match m.key with | .str k=>r.all (fun x=>match x.key with | .str q => !(q==k) | _=>false) | _=>false)&&xb r
def jV:Nat->List ME->List ME
 | _,[]=>[]
 | c,m::r=>⟨m.key,m.val,c⟩::jV (c+1) r
theorem YF:∀ (l:List ME) (c:Nat) (m:ME),jV c (l++[m])=jV c l++[⟨m.key,m.val,c+l.length⟩]
 | [],c,m=>rfl
 | x::l,c,m=>by
  show _::jV (c+1) (l++[m])=_
  rw[YF l (c+1) m,aaL,show c+1+l.length=c+(l.length+1) by omega];rfl
theorem aaE:∀ (l:List ME) (c:Nat) (x:ME),x∈jV c l->∃ m∈l,x.key=m.key
 | [],c,x,h=>by cases h
 | m::l,c,x,h=>by
  rcases aaD.1 h with rfl | h
  ·exact⟨m,.head _,rfl⟩
  ·obtain⟨y,h1,h2⟩:=aaE l (c+1) x h
   exact⟨y,.tail _ h1,h2⟩
theorem KF:∀ (l:List ME) (c:Nat),(jV c l).length=l.length
 | [],_=>rfl
 | m::l,c=>by show (jV (c+1) l).length+1=_;rw[KF l (c+1)];rfl
theorem QA:∀ (l:List ME) (c i:Nat) (x:ME),(jV c l)[i]? = some x->∃ m,l[i]? = some m/\x.key=m.key/\x.val=m.val
 | [],c,i,x,h=>by simp[jV] at h
 | m::l,c,0,x,h=>by
  have:some (⟨m.key,m.val,c⟩:ME)=some x:=h
  cases this;exact⟨m,rfl,rfl,rfl⟩
 | m::l,c,i+1,x,h=>QA l (c+1) i x h
theorem aaB {e:Em}{l:List ME}{fs:List MapEntry}(c:Nat):gz e (jV c l) fs↔gz e l fs:=by
 constructor
 ·intro h
  refine⟨by rw[h.1,KF],fun i m m' hm lI => ?_⟩
  have hi:i<(jV c l).length:=by rw[KF];exact (aah.1 hm).1
  obtain⟨y,h1,h2,h3⟩:=QA l c i _ (aai hi)
  rw[hm] at h1;cases h1
  have:=h.2 i _ m' (aai hi) lI
  rw[h2,h3] at this;exact this
 ·intro h
  refine⟨by rw[h.1,KF],fun i m m' hm lI => ?_⟩
  obtain⟨y,h1,h2,h3⟩:=QA l c i _ hm
  have:=h.2 i y m' h1 lI
  rw[h2,h3];exact this
def Co (a b:ME):Prop:=∃ k q,a.key = .str k/\b.key = .str q/\q≠k
theorem Co.symm {a b:ME}(h:Co a b):Co b a:=by obtain⟨k,q,h1,h2,h3⟩:=h;exact⟨q,k,h2,h1,fun e=>h3 e.symm⟩
theorem YD:∀ {l:List ME},xb l=true->l.Pairwise Co/\∀ m∈l,∃ k,m.key = .str k
 | [],_=>⟨.nil,fun m h=>by cases h⟩
 | m::l,h=>by
  unfold xb at h
  rw[aau] at h
  obtain⟨h1,h2⟩:=h
  obtain⟨a,b⟩:=YD h2
  split at h1
  ·rename_i k hk
   refine⟨List.pairwise_cons.2 ⟨fun x hx => ?_,a⟩,fun x hx => ?_⟩
   ·have:=adA.1 h1 x hx
    split at this
    ·rename_i q hq
     exact⟨k,q,hk,hq,by simpa using this⟩
    ·cases this
   ·rcases aaD.1 hx with rfl | hx
    ·exact⟨k,hk⟩
    ·exact b x hx
  ·cases h1
def CT (k:Nat)(c f:AV)(H:Hp):Option Hp:=
 match c,f with
 | .ptr ci co,.ptr fi fo=>
  match cellAt H ci (co+k),cellAt H fi (fo+k) with
  | some (.map cm),some (.map fm)=>
   match H.h.get cm,H.h.get fm with
   | some (.map [] q),some (.map es _)=>bif xb es&&!(Nat.beq cm fm) then some ⟨H.h.bP cm (.map (jV q es) (q+es.length)),H.next+1⟩ else none
   | _,_=>none
  | _,_=>none
 | _,_=>none
def Q5 (k c f:Nat):Tm->Hp->Option Hp:=fun t H=>CT k (tg t c) (tg t f) H
theorem amf {k:Nat}{c f:AV}{H H2:Hp}(h:CT k c f H=some H2):∃ ci co fi fo cm fm q es z,c = .ptr ci co/\f = .ptr fi fo/\cellAt H ci (co+k)=some (.map cm)/\cellAt H fi (fo+k)=some (.map fm)/\H.h.get cm=some (.map [] q)/\H.h.get fm=some (.map es z)/\xb es=true/\cm≠fm/\
  H2=⟨H.h.bP cm (.map (jV q es) (q+es.length)),H.next+1⟩:=by
 unfold CT at h
 split at h
 ·rename_i ci co fi fo
  split at h
  ·rename_i cm fm h1 h2
   split at h
   ·rename_i q es z h3 h4
    cases hb:(xb es&&!(Nat.beq cm fm)) with
    | false=>rw[hb] at h;cases h
    | true=>
     rw[hb] at h
     rw[aau] at hb
     refine⟨ci,co,fi,fo,cm,fm,q,es,z,rfl,rfl,h1,h2,h3,h4,hb.1,fun e => ?_,(acN h).symm⟩
     subst e
     have:=hb.2
     rw[agQ] at this
     cases this
   ·cases h
  ·cases h
 ·cases h
section
variable {P:Program}{F:Nat->Prop}{W:World}{e:Em}{H:Hp}{w:World}
theorem lJ.put {n:Nat}{t t':Tm}{a:Act}(h:lJ e n t a){dst:Option Tmp}{v:AV}{v':Value}(hp:gF n dst v t=some t')(hv:VR e v v'):lJ e n t' (a.put dst v'):=by
 refine⟨h.1.put hp hv,fun d hd => ?_⟩
 unfold gF at hp
 split at hp
 ·cases hp;exact h.2 d hd
 ·rename_i x
  cases hb:(Nat.blt x n&&Nat.blt x 4294967296) with
  | false=>rw[hb] at hp;cases hp
  | true=>
   rw[hb] at hp
   cases hp
   simp only[aau,adE] at hb
   rw[Tr.Gi _ _ _ _ _ (by omega),if_neg (by omega)]
   exact h.2 d hd
theorem lJ.mono {e':Em}(h:e.le e'){n:Nat}{t:Tm}{a:Act}(k:lJ e n t a):lJ e' n t a:=⟨k.1.mono h,k.2⟩
theorem oO {cf:CF}(gr:sy P cf){ops:Array Oper}{i:Nat}{o:Oper}(hi:ops[i]? = some o)(hg:o.guard=none){n:Nat}{t t':Tm}{H':Hp}{v:AV}(ho:oR P cf t o H=some (v,H'))(hp:gF n o.dst v t=some t'){a:Act}{rest:List Nat}{Q:Exit->Act->World->Prop}
  (hR:RH P.globals.size F W e H w) (hT:lJ e n t a) (hn:∀ e' a' w',e.le e'->RH P.globals.size F W e' H' w'->lJ e' n t' a'->a'.defers=a.defers->wpOps P ops Q rest a' w'):wpOps P ops Q (i::rest) a w:=by
 have hw:pJ ops o t=some true:=by unfold pJ;rw[hg]
 simp only[wpOps,hi,It (e:=e) (a:=a) hw (fun d _=>hT.1.val d),if_true]
 left
 exact Gn gr hR ho (fun x _=>VR.ev hR hT.1 x) fun e' v' w' he bw hv=>hn e' _ w' he bw ((hT.mono he).put hp hv) (by cases o.dst<;>rfl)
theorem K8 {ops:Array Oper}{i:Nat}{o:Oper}(hi:ops[i]? = some o)(hg:o.guard=none){a:Act}{rest:List Nat}{Q:Exit->Act->World->Prop}{v':Value}{w':World}
  (hx:(execOp a.eval o).run P w = .ok (.value v') w') (hn:wpOps P ops Q rest (a.put o.dst v') w'):wpOps P ops Q (i::rest) a w:=by
 have hw:Region.wanted o (yielded ops a.tmps)=true:=by unfold Region.wanted;simp[hg]
 simp only[wpOps,hi,hw,if_true]
 left
 unfold Oper.wp
 rw[hx]
 exact hn
theorem aaG {σ:Operand->Value}{o:Oper}{it:Operand}(ho:o.op = .next it false){v':Value}{w':World}(h:(Instr.next (σ it) false o.type).run P w = .ok v' w'):(execOp σ o).run P w = .ok (.value v') w':=by
 unfold execOp;rw[ho];simp[h]
theorem anr {σ:Operand->Value}{o:Oper}{it:Operand}(ho:o.op = .entry it){v':Value}{w':World}(h:(Instr.entry (σ it)).run P w = .ok v' w'):(execOp σ o).run P w = .ok (.value v') w':=by
 unfold execOp;rw[ho];simp[h]
theorem amN {σ:Operand->Value}{o:Oper}{ty:TypeId}{x:Operand}(ho:o.op = .range ty x){v':Value}{w':World}(h:(Instr.range ty (σ x)).run P w = .ok v' w'):(execOp σ o).run P w = .ok (.value v') w':=by
 unfold execOp;rw[ho];simp[h]
end
end K
end Go.Proofs.YtodfajmihkagnaaGreatDoor.Am
