/- Laws that the proof uses. -/
import Derived.Test.YtodfajmihkagnaaGreatDoorAm4
set_option linter.unusedVariables false
set_option linter.unusedSimpArgs false
namespace Go.Proofs.YtodfajmihkagnaaGreatDoor.Am
section
section
section
section
section
theorem Xw {n:Nat}{dst:Option Tmp}{v:AV}{t t':Tm}(h:gP n dst v t=some t')(d:Tmp):t'.get d=if dst=some d then some v else t.get d:=by
 unfold gP at h
 split at h
 ·cases h;simp
 ·rename_i x
  cases hb:(Nat.blt x n&&Nat.blt x 4294967296) with
  | false=>rw[hb] at h;cases h
  | true=>
   rw[hb] at h
   cases h
   simp only[aaT,ae2] at hb
   rw[Tr.GK _ _ _ _ _ (by omega)]
   by_cases hx:d=x
   ·subst hx;simp
   ·rw[if_neg hx,if_neg (fun q=>hx (ac8 q).symm)]
theorem al3 {n:Nat}{dst:Option Tmp}{v:AV}{t t':Tm}(h:gP n dst v t=some t'){d:Tmp}(hd:dst=some d):d<n:=by
 subst hd
 unfold gP at h
 simp only at h
 cases hb:(Nat.blt d n&&Nat.blt d 4294967296) with
 | false=>rw[hb] at h;cases h
 | true=>simp only[aaT,ae2] at hb;exact hb.1
theorem RH.weaken {G:Nat}{F F':Nat->Prop}{W:World}{e:Em}{H:Hp}{w:World}(h:RH G F W e H w)(hF:∀ k,F' k->F k):RH G F' W e H w:=
 h.U8 (fun k hk=>h.frame k (hF k hk)) (fun i o ho hw hk=>(h.obj i o ho).2.choose_spec.2.2 hw (hF _ hk)) h.os h.tape h.output h.size
theorem RH.Lx {G:Nat}{F:Nat->Prop}{W:World}{e:Em}{H:Hp}{w:World}(h:RH G F W e H w):RH G F w e H w:=
 h.U8 (fun k hk=>⟨(h.frame k hk).1,rfl⟩) (fun i o ho hw hk=>(h.obj i o ho).2.choose_spec.2.2 hw hk) rfl rfl rfl (aaU _)
theorem RH.Mu {G:Nat}{F F':Nat->Prop}{W:World}{e:Em}{H:Hp}{w:World}(h:RH G F W e H w){o:AO}{i:Nat}{H':Hp}(ha:Am.alloc H o=some (i,H')){b n:Nat}{ob:Obj}
  (hb:w.heap[b]? = some ob) (NS:∀ j oj,H.h.get j=some oj->e.b j≠b) (eB:OR (e.ext b 0 n) i o ob) (hF:∀ k,F' k->F k/\k≠b):i=e.N/\RH G F' W (e.ext b 0 n) H' w:=by
 obtain⟨rfl,ba,rfl⟩:=xH ha
 have hN:=h.N
 have ff:∀ j,(H.h.put 34 H.next o).get j=if j=H.next then some o else H.h.get j:=fun j=>Tr.fH _ _ _ _
 have hle:=Em.qj e b 0 n
 have hU:∀ j oj,H.h.get j=some oj->(e.ext b 0 n).b j=e.b j:=fun j oj hj=>(hle.2 j (h.obj j oj hj).1).1
 refine⟨hN.symm,?_,?_,?_,?_,?_,h.os,h.tape,h.output,h.size,by obtain⟨g1,g2,g3⟩:=h.mL;rw[(hle.2 G g2).2.2];simp[Em.ext];omega⟩
 ·simp[Em.ext,hN]
 ·intro j oj hj
  simp only at hj
  rw[ff] at hj
  by_cases ej:j=H.next
  ·subst ej
   rw[if_pos rfl] at hj
   cases hj
   refine⟨by simp[Em.ext,hN],ob,?_,eB,?_⟩
   ·rw[<-hN,Em.n0];exact hb
   ·intro _ hk
    rw[<-hN,Em.n0] at hk
    exact (hF _ hk).2 rfl
  ·rw[if_neg ej] at hj
   obtain⟨a,qA,b2,c2,d2⟩:=h.obj j oj hj
   refine⟨by simp[Em.ext];omega,qA,?_,c2.mono hle a,?_⟩
   ·rw[hU j oj hj];exact b2
   ·intro hw hk;rw[hU j oj hj,(hle.2 G h.mL.2.1).2.2] at hw;rw[hU j oj hj] at hk;exact d2 hw (hF _ hk).1
 ·intro j k oj ok hj hk hq he
  simp only at hj hk
  rw[ff] at hj hk
  by_cases ej:j=H.next<;>by_cases ek:k=H.next
  ·omega
  ·rw[if_neg ek] at hk
   rw[hU k ok hk,ej,<-hN,Em.n0] at he
   exact absurd he.symm (NS k ok hk)
  ·rw[if_neg ej] at hj
   rw[hU j oj hj,ek,<-hN,Em.n0] at he
   exact absurd he (NS j oj hj)
  ·rw[if_neg ej] at hj
   rw[if_neg ek] at hk
   rw[hU j oj hj,(hle.2 G h.mL.2.1).2.2] at hq
   rw[hU j oj hj,hU k ok hk] at he
   exact h.inj j k oj ok hj hk hq he
 ·intro g hg
  obtain⟨a,b',c⟩:=h.si g hg
  obtain⟨x,y,_⟩:=hle.2 g a
  exact⟨by simp[Em.ext];omega,x.trans b',y.trans c⟩
 ·intro k hk
  exact h.frame k (hF k hk).1
theorem Wi {e:Em}{l:List AV}{cs:Array Value}{el b:Nat}(hl:bh e l cs.toList)(hlen:l.length<=16777216):OR (e.ext b 0 cs.size) e.N (.cells (Tr.cJ .nil 0 l) 0 l.length el 0) (.cells cs el (0,0)):=by
 refine .cells _ _ _ _ _ _ _ (by rw[Em.yw]) ?_ (fun _=>rfl) (by simp) (fun _=>Em.oc ..)
 intro k v _ hk hg
 rw[Tr.Ee .nil _ _ _ _ (by omega)] at hg
 rw[if_pos ⟨by omega,by omega⟩,aih] at hg
 obtain⟨v',cw,hr⟩:=hl.get hg
 exact⟨k,by rw[Em.oc];omega,v',by rw[<-afj];exact cw,hr.mono (Em.qj ..)⟩
structure qF (P:Program)(cf:CF)(n:Nat)(ops:Array Oper)(B:List Nat)(t0:Tm)(H0:Hp)(TP TE:Nat->Tm)(HB HH:Nat->Hp)(V:Nat->AV)(X:Nat->Bool):Prop where
 form:Form ops B
 t1:TP 0=t0
 t2:TE 0=t0
 h1:HB 0=H0
 h2:HH 0=H0
 step:∀ j o,ops[j]? = some o->Oe P cf n ops o (X j) (V j) (TP j) (TE j) (TP (j+1)) (TE (j+1)) (HB j) (HH j) (HB (j+1)) (HH (j+1))
 d1:∀ i oi,ops[i]? = some oi->X i=true->kd P oi = .dE->∀ j oj,ops[j]? = some oj->X j=true->(kd P oj = .dE\/kd P oj = .late)->j<i->(B.getD i 0).testBit j=true
 d2:∀ i oi,ops[i]? = some oi->X i=true->kd P oi = .dE->∀ j oj,ops[j]? = some oj->X j=true->kd P oj = .read->j<i->(B.getD i 0).testBit j=true\/
  ∃ h',iV P (ev P.globals.size (TP j)) oj (HB (i+1))=some (V j,h')
 d3:∀ i oi,ops[i]? = some oi->X i=true->kd P oi = .dE->∀ j oj,ops[j]? = some oj->X j=true->kd P oj = .read->i<j->(B.getD j 0).testBit i=true\/
  ∃ h',iV P (ev P.globals.size (TP j)) oj (HB i)=some (V j,h')
def pv (P:Program)(V:Nat->AV)(X:Nat->Bool)(j:Nat)(o:Oper):AV:=if X j=true/\kd P o = .late then .dD else V j
section
variable {P:Program}{cf:CF}{n:Nat}{ops:Array Oper}{B:List Nat}{t0:Tm}{H0:Hp}{TP TE:Nat->Tm}{HB HH:Nat->Hp}{V:Nat->AV}{X:Nat->Bool}
theorem qF.cJ (R:qF P cf n ops B t0 H0 TP TE HB HH V X){j:Nat}{o:Oper}(ho:ops[j]? = some o) :
  gP n o.dst (pv P V X j o) (TP j)=some (TP (j+1))/\gP n o.dst (V j) (TE j)=some (TE (j+1)):=by
 obtain⟨_,h⟩:=R.step j o ho
 cases hx:X j with
 | false=>
  rw[hx] at h
  obtain⟨h1,h2,h3,_⟩:=h
  simp only[pv,hx,abH,false_and,if_false]
  rw[h1];exact⟨h2,h3⟩
 | true=>
  rw[hx] at h
  cases hk:kd P o<;>rw[hk] at h<;>simp only[pv,hx,hk,true_and,if_true,reduceCtorEq,if_false,and_false]
  ·exact⟨h.2.1,h.2.2.1⟩
  ·exact⟨h.2.1,h.2.2.1⟩
  ·exact⟨h.2.1,h.2.2.1⟩
  ·exact⟨h.2.1,h.2.2.1⟩
theorem qF.aw (R:qF P cf n ops B t0 H0 TP TE HB HH V X):∀ i,i<=ops.size->∀ d,
  (∀ j o,j<i->ops[j]? = some o->o.dst=some d->(TP i).get d=some (pv P V X j o)/\(TE i).get d=some (V j))/\
  ((∀ j o,j<i->ops[j]? = some o->o.dst≠some d)->(TP i).get d=t0.get d/\(TE i).get d=t0.get d):=by
 intro i
 induction i with
 | zero=>intro _ d;exact⟨fun j o hj=>by omega,fun _=>⟨by rw[R.t1],by rw[R.t2]⟩⟩
 | succ i ih=>
  intro hi d
  obtain⟨i1,i2⟩:=ih (by omega) d
  have ho:ops[i]? = some ops[i]:=ahY (by omega)
  obtain⟨p1,p2⟩:=R.cJ ho
  have g1:=Xw p1 d
  have g2:=Xw p2 d
  constructor
  ·intro j o hj xC hd
   by_cases vW:j=i
   ·subst vW
    rw[ho] at xC;cases xC
    rw[g1,g2,if_pos hd,if_pos hd];exact⟨rfl,rfl⟩
   ·have aH:ops[i].dst≠some d:=fun q=>vW (R.form.one j i o _ d xC ho hd q)
    rw[g1,g2,if_neg aH,if_neg aH]
    exact i1 j o (by omega) xC hd
  ·intro lI
   have aH:=lI i _ (by omega) ho
   rw[g1,g2,if_neg aH,if_neg aH]
   exact i2 fun j o hj xC=>lI j o (by omega) xC
theorem qF.YD (R:qF P cf n ops B t0 H0 TP TE HB HH V X)(p:Nat):∀ k,p+k<=ops.size->(∀ j o,p<=j->j<p+k->ops[j]? = some o->X j=true->kd P o ≠ .dE)->HB (p+k)=HB p:=by
 intro k
 induction k with
 | zero=>intro _ _;rfl
 | succ k ih=>
  intro hk aH
  have ho:ops[p+k]? = some ops[p+k]:=ahY (by omega)
  obtain⟨_,h⟩:=R.step (p+k) _ ho
  have:HB (p+k+1)=HB (p+k):=by
   cases hx:X (p+k) with
   | false=>rw[hx] at h;exact h.2.2.2.1
   | true=>
    rw[hx] at h
    have hn:=aH (p+k) _ (by omega) (by omega) ho hx
    cases c8:kd P ops[p+k]<;>rw[c8] at h
    ·exact h.2.2.2.1
    ·exact h.2.2.2.1
    ·exact h.2.2.2
    ·exact absurd c8 hn
  rw[<-ajG,this]
  exact ih (by omega) fun j o h1 h2=>aH j o h1 (by omega)
end
end
variable {P:Program}
theorem Se:∀ {a b:AV},pL a b=true->a=b:=by
 intro a b h
 unfold pL at h
 split at h<;>first
  | rfl
  | (cases h;done)
  | (simp only[beq_iff_eq] at h;subst h;rfl)
  | (simp only[aaT,beq_iff_eq] at h;obtain⟨h1,h2⟩:=h;subst h1;subst h2;rfl)
  | (simp only[aaT] at h;obtain⟨h1,h2⟩:=h;rw[abI h1,abI h2])
  | (simp only[aaT,beq_iff_eq] at h;obtain⟨⟨⟨⟨⟨h1,h2⟩,h3⟩,h4⟩,h5⟩,h6⟩:=h;rw[abI h1,abI h2,abI h3,abI h4,h5,abI h6])
  | (rw[abI h])
theorem Ri:∀ {a b:List AV},w6 a b=true->a=b
 | [],[],_=>rfl
 | [],_::_,h=>by simp[w6] at h
 | _::_,[],h=>by simp[w6] at h
 | a::x,b::y,h=>by
  simp only[w6,aaT] at h
  rw[Se h.1,Ri h.2]
theorem akp {a b:AV}(h:same a b=true):a=b:=by
 unfold same at h
 split at h
 ·rw[Ri h]
 ·rw[Ri h]
 ·simp only[aaT] at h
  rw[abI h.1,Se h.2]
 ·exact Se h
theorem iT {x:Option AV}{H:Hp}{v:AV}{H':Hp}(h:x.map (fun v=>(v,H))=some (v,H')):x=some v/\H'=H:=by
 simp only[aam,acv] at h
 obtain⟨a,ha,rfl,rfl⟩:=h
 exact⟨ha,rfl⟩
theorem tU {x:Option AV}{H:Hp}{v:AV}(h:x=some v):x.map (fun v=>(v,H))=some (v,H):=by rw[h];rfl
theorem auq {o:Oper}(h:kd P o = .late):(∃ t,o.op = .alloc t)\/(∃ t a b,o.op = .makeSlice t (.const a) (.const b))\/∃ a b v el,o.op = .convert a b (.const v)/\P.underlying a=some .string/\P.underlying b=some (.slice el):=by
 unfold kd at h
 cases aY:o.op<;>rw[aY] at h<;>simp only[reduceCtorEq] at h
 case alloc t=>exact .inl ⟨t,rfl⟩
 case binOp=>split at h<;>first | (cases h;done) | (split at h<;>cases h)
 case convert a b x=>
  split at h<;>first | (cases h;done) | skip
  rename_i el ha hb
  split at h
  ·rename_i v;exact .inr (.inr ⟨a,b,v,el,rfl,ha,hb⟩)
  ·cases h
 case makeSlice t l c=>
  split at h
  ·rename_i a b;exact .inr (.inl ⟨t,a,b,rfl⟩)
  ·cases h
 case call c=>split at h<;>cases h
theorem aaf {a b:TypeId}{x v:AV}{H H':Hp}{i j:IntKind}(ha:P.underlying a=some (.int i))(hb:P.underlying b=some (.int j))(h:jU P a b x H=some (v,H')) :
  H'=H/\∀ H2,jU P a b x H2=some (v,H2):=by
 unfold jU at h ⊢
 rw[ha,hb] at h ⊢
 cases x<;>simp only at h ⊢ <;> first | (cases h;exact⟨rfl,fun _=>rfl⟩) | (cases h;done) | (simp at h;done) | skip
theorem adN {a b : TypeId}{x v : AV}{H H' : Hp}(ha : P.underlying a = some .string)(hb : P.underlying b = some .string)(h : jU P a b x H = some (v, H')) :
    H' = H /\ ∀ H2, jU P a b x H2 = some (v, H2) := by
  unfold jU at h ⊢
  rw[ha, hb] at h ⊢
  cases x<;>simp only at h ⊢ <;> first
    | (cases h;exact⟨rfl, fun _ => rfl⟩) | (cases h;done) | (simp at h;done)
    | (split at h
       · rename_i q;cases h;exact⟨rfl, fun _ => by rw[if_pos q]⟩
       · cases h)
    | skip
theorem alY {a b e:TypeId}{x v:AV}{H H':Hp}(ha:P.underlying a=some (.slice e))(hb:P.underlying b=some .string)(h:jU P a b x H=some (v,H')):H'=H:=by
 unfold jU at h
 rw[ha,hb] at h
 cases x<;>simp only at h<;>first
  | (cases h;rfl) | (cases h;done) | (simp at h;done)
  | (split at h<;>first | (cases h;rfl) | (cases h;done) | skip)
  | skip
 rename_i q
 cases hz:Nat.beq _ 0 with
 | true=>rw[hz] at h;cases h;rfl
 | false=>
  rw[hz] at h
  simp only[cond_false,abA,aam,acv] at h
  obtain⟨_,_,_,_,_,rfl⟩:=h
  rfl
theorem WG {ρ:Operand->AV}{o:Oper}{H H':Hp}{v:AV}(hk:kd P o = .pure\/kd P o = .read)(h:iV P ρ o H=some (v,H')):H'=H:=by
 unfold iV at h
 unfold kd at hk
 cases aY:o.op<;>rw[aY] at h hk<;>simp only[reduceCtorEq,or_self] at h hk
 case move x=>cases h;rfl
 case assign x=>cases h;rfl
 case pick c a b=>
  split at h
  ·cases h;rfl
  ·cases h
 case build t ps=>exact (iT h).2
 case load t a=>exact (iT h).2
 case nilCheck x=>exact (iT h).2
 case binOp op t x y ty=>
  cases hg:uf P op t x y (ρ x) (ρ y) with
  | false=>rw[hg] at h;cases h
  | true=>rw[hg] at h;exact (iT h).2
 case unOp op t x=>exact (iT h).2
 case convert a b x=>
  split at hk
  ·rename_i i j ha hb;exact (aaf ha hb h).1
  ·rename_i ha hb;exact (adN ha hb h).1
  ·rename_i e ha hb;exact alY ha hb h
  ·split at hk<;>simp at hk
  ·simp at hk
 case makeSlice t l c=>split at hk<;>simp at hk
 case makeInterface t x=>exact (iT h).2
 case makeFunc fn a b=>exact (iT h).2
 case slice t x lo hi mx=>exact (iT h).2
 case fieldAddr t x f=>exact (iT h).2
 case field t x f=>exact (iT h).2
 case indexAddr t x ix=>exact (iT h).2
 case index t x ix=>exact (iT h).2
 case lookup t x k ok=>exact (iT h).2
 case entry it=>exact (iT h).2
 case extract t ix=>
  split at h
  ·exact (iT h).2
  ·cases h
 case typeAssert x t wH ok=>exact (iT h).2
 case call c=>
  cases hc:c.callee with
  | builtin b=>
   rw[hc] at h hk
   simp only at h hk
   cases b<;>simp only[reduceCtorEq,or_self] at hk<;>(unfold gS at h;split at h<;>first | (cases h;done) | exact (iT h).2 | simp_all)
  | value f=>rw[hc] at h;cases h
  | invoke r m=>rw[hc] at h;cases h
theorem asa {op:BinOp}{t:TypeId}{x y:AV}(hk:(match op with
   | .eql | .neq=>match P.underlying t with | some (.int _) | some .string | some .bool=>Kd.pure | _ => .read
   | _ => .pure) = .pure) (H H2:Hp):fe P op t x y H=fe P op t x y H2:=by
 have heq:(op = .eql\/op = .neq)->∀ H H2:Hp,dX P 50 t x y H=dX P 50 t x y H2:=by
  intro ho H H2
  have hu:P.underlying t=some .string\/P.underlying t=some .bool\/∃ k,P.underlying t=some (.int k):=by
   rcases ho with rfl | rfl<;>(simp only at hk;split at hk<;>first | (exact .inl (by assumption)) | (exact .inr (.inl (by assumption))) | (exact .inr (.inr ⟨_,by assumption⟩)) | cases hk)
  unfold dX
  rcases hu with hu | hu | ⟨k,hu⟩<;>(rw[hu];cases x<;>cases y<;>rfl)
 cases op
 case eql=>
  have:=heq (.inl rfl) H H2
  cases x<;>cases y<;>simp only[fe,this]
 case neq=>
  have:=heq (.inr rfl) H H2
  cases x<;>cases y<;>simp only[fe,this]
 all_goals (cases x<;>cases y<;>rfl)
theorem ajb {ρ:Operand->AV}{o:Oper}{H H':Hp}{v:AV}(hk:kd P o = .pure)(h:iV P ρ o H=some (v,H'))(H2:Hp):iV P ρ o H2=some (v,H2):=by
 have hs:=WG (.inl hk) h
 subst hs
 unfold iV at h ⊢
 unfold kd at hk
 cases aY:o.op<;>rw[aY] at h hk<;>simp only[reduceCtorEq] at h hk ⊢
 case move x=>cases h;rfl
 case assign x=>cases h;rfl
 case pick c a b=>
  split at h
  ·cases h;simp[*]
  ·cases h
 case build t ps=>exact tU (iT h).1
 case nilCheck x=>exact tU (iT h).1
 case binOp op t x y ty=>
  cases hg:uf P op t x y (ρ x) (ρ y) with
  | false=>rw[hg] at h;cases h
  | true=>
   rw[hg] at h
   rw[asa hk H2 H']
   exact tU (iT h).1
 case unOp op t x=>exact tU (iT h).1
 case convert a b x=>
  split at hk
  ·rename_i i j ha hb;exact (aaf ha hb h).2 H2
  ·rename_i ha hb;exact (adN ha hb h).2 H2
  ·cases hk
  ·split at hk<;>cases hk
  ·cases hk
 case makeSlice t l c=>split at hk<;>cases hk
 case makeInterface t x=>exact tU (iT h).1
 case makeFunc fn a b=>exact tU (iT h).1
 case fieldAddr t x f=>exact tU (iT h).1
 case field t x f=>exact tU (iT h).1
 case indexAddr t x ix=>exact tU (iT h).1
 case index t x ix=>exact tU (iT h).1
 case extract t ix=>
  split at h
  ·rename_i l hl;exact tU (iT h).1
  ·cases h
 case typeAssert x t wH ok=>exact tU (iT h).1
 case call c=>
  cases hc:c.callee with
  | builtin b=>
   rw[hc] at h hk
   simp only at h hk ⊢
   cases b<;>simp only[reduceCtorEq] at hk<;>(unfold gS at h ⊢;split at h<;>first | (cases h;done) | exact tU (iT h).1 | simp_all)
  | value f=>rw[hc] at h;cases h
  | invoke r m=>rw[hc] at h;cases h
end
section
variable {P:Program}{cf:CF}{n:Nat}{ops:Array Oper}{B:List Nat}{t0:Tm}{H0:Hp}{TP TE:Nat->Tm}{HB HH:Nat->Hp}{V:Nat->AV}{X:Nat->Bool}
def ll (P:Program)(ops:Array Oper)(X:Nat->Bool)(S:Nat->Prop)(p j:Nat):Prop:=S j/\p<=j/\X j=true/\∃ o,ops[j]? = some o/\kd P o = .late
def Ru (P:Program)(o:Oper)(b:Nat)(ob:Obj)(val:Value):Prop:=
 ∀ (t:Tm) (H H':Hp) (v:AV) (e:Em),iV P (ev P.globals.size t) o H=some (v,H')->e.N=H.next->∃ ao n,Am.alloc H ao=some (e.N,H')/\OR (e.ext b 0 n) e.N ao ob/\VR (e.ext b 0 n) v val
structure Inv (P:Program)(n:Nat)(ops:Array Oper)(B:List Nat)(t0:Tm)(HB HH:Nat->Hp)(V:Nat->AV)(X:Nat->Bool)(F:Nat->Prop)(W:World)(e0:Em)(ds:List Deferred)
  (S:Nat->Prop) (p:Nat) (e:Em) (a:Act) (w:World) (cI:Nat->Nat):Prop where
 pN:p<=ops.size
 ph:HH p=HB p
 pe:p=0\/∃ j oj,p=j+1/\ops[j]? = some oj/\X j=true/\kd P oj = .dE
 down:∀ i j,S i->(B.getD i 0).testBit j=true->S j
 dE:∀ i o,ops[i]? = some o->X i=true->kd P o = .dE->(S i↔i<p)
 rh:RH P.globals.size (fun k=>F k\/∃ j,ll P ops X S p j/\cI j=k) w e (HB p) w
 frame:∀ k,F k->w.heap[k]? = W.heap[k]?
 os:w.os=W.os
 tape:w.tape=W.tape
 output:w.output=W.output
 size:W.heap.size<=w.heap.size
 KY:∀ j,ll P ops X S p j->e.n P.globals.size<=cI j/\¬ F (cI j)/\∀ o,ops[j]? = some o->∃ ob val,w.heap[cI j]? = some ob/\Ru P o (cI j) ob val/\∀ d,o.dst=some d->a.tmps.getD d undef=val
 KW:∀ i j,ll P ops X S p i->ll P ops X S p j->cI i=cI j->i=j
 val:∀ j o d,ops[j]? = some o->S j->o.dst=some d->¬ ll P ops X S p j->VR e (V j) (a.tmps.getD d undef)
 EB:∀ d,(∀ j o,ops[j]? = some o->S j->o.dst≠some d)->VR e ((t0.get d).getD cq) (a.tmps.getD d undef)
 Cf:n<=a.tmps.size
 le:e0.le e
 defers:a.defers=ds
theorem Inv.read (R:qF P cf n ops B t0 H0 TP TE HB HH V X){F:Nat->Prop}{W:World}{e0:Em}{ds:List Deferred}{S:Nat->Prop}{p:Nat}{e:Em}{a:Act}{w:World}{cI:Nat->Nat}
  (I:Inv P n ops B t0 HB HH V X F W e0 ds S p e a w cI) {i:Nat} {o:Oper} (ho:ops[i]? = some o) (hS:¬ S i) (hr:∀ j,(B.getD i 0).testBit j=true->S j) {d:Tmp} (hd:DO ops o d=true) :
  VR e (((TP i).get d).getD cq) (a.tmps.getD d undef):=by
 have hi:i<ops.size:=(adt.1 ho).1
 obtain⟨v1,v2⟩:=R.aw i (Nat.le_of_lt hi) d
 by_cases hex:∃ j o',j<i/\ops[j]? = some o'/\o'.dst=some d
 ·obtain⟨j,o',hj,gI,fh⟩:=hex
  rw[(v1 j o' hj gI fh).1]
  have uz:S j:=by
   have:=R.form.rd j i o' o d gI ho fh (by omega) hd
   rw[if_pos hj] at this
   exact hr j this
  simp only[ahb,pv]
  split
  ·exact .dD _
  ·rename_i hn
   refine I.val j o' d gI uz fh (fun q=>hn ?_)
   obtain⟨_,_,hx,o2,oU,hk⟩:=q
   rw[gI] at oU;cases oU
   exact⟨hx,hk⟩
 ·rw[(v2 fun j o' hj gI fh=>hex ⟨j,o',hj,gI,fh⟩).1]
  refine I.EB d fun j o' gI uz fh => ?_
  by_cases vW:j<i
  ·exact hex ⟨j,o',vW,gI,fh⟩
  ·by_cases zB:j=i
   ·subst zB;exact hS uz
   ·have:=R.form.rd j i o' o d gI ho fh zB hd
    rw[if_neg (by omega)] at this
    exact hS (I.down j i uz this)
theorem ahv {o:Oper}{d:Tmp}(h:Operand.tmp d∈o.op.operands.toList):d∈tmpsOf o:=by
 unfold tmpsOf
 rw[List.mem_filterMap]
 exact⟨.tmp d,h,rfl⟩
theorem afT {o:Oper}{d:Tmp}(h:Operand.tmp d∈o.op.operands.toList):DO ops o d=true:=by
 unfold DO
 rw[aiy]
 left
 simpa using ahv h
theorem Y2 {F:Nat->Prop}{W:World}{e:Em}{H:Hp}{w:World}(h:RH P.globals.size F W e H w){t:Tm}{a:Act}{x:Operand}(ht:∀ d,x = .tmp d->VR e ((t.get d).getD cq) (a.tmps.getD d undef)) :
  VR e (ev P.globals.size t x) (a.eval x):=by
 cases x with
 | tmp d=>exact ht d rfl
 | const v=>
  simp only[Am.ev,Act.eval]
  cases hc:Am.jL v with
  | none=>exact .dD v
  | some c=>exact .jL hc
 | global g=>
  simp only[Am.ev,Act.eval]
  cases hb:Nat.blt g P.globals.size with
  | false=>exact .dD _
  | true=>
   rw[ae2] at hb
   obtain⟨h1,h2,h3⟩:=h.si g hb
   have:=VR.ptr (e:=e) g 0 0 h1 (by rw[h3];simp)
   rw[h2] at this
   exact this
 | func f=>exact .func _ (by simp) [] [] #[] #[] rfl rfl (by simp) (by simp)
theorem Inv.Mu (R:qF P cf n ops B t0 H0 TP TE HB HH V X){F:Nat->Prop}{W:World}{e0:Em}{ds:List Deferred}{S:Nat->Prop}{p:Nat}{e:Em}{a:Act}{w:World}{cI:Nat->Nat}
  (I:Inv P n ops B t0 HB HH V X F W e0 ds S p e a w cI):∀ k,p+k<=ops.size->(∀ j o,p<=j->j<p+k->ops[j]? = some o->X j=true->kd P o ≠ .dE/\(kd P o = .late->S j))->
  ∃ e',e.le e'/\RH P.globals.size (fun q=>F q\/∃ j,ll P ops X S (p+k) j/\cI j=q) w e' (HH (p+k)) w/\
   ∀ j o d,p<=j->j<p+k->ops[j]? = some o->X j=true->kd P o = .late->o.dst=some d->VR e' (V j) (a.tmps.getD d undef):=by
 intro k
 induction k with
 | zero=>
  intro _ _
  refine⟨e,e.le_refl,?_,fun j o d h1 h2=>by omega⟩
  rw[afF,I.ph]
  exact I.rh
 | succ k ih=>
  intro hk aH
  obtain⟨e1,sD,ja,mN⟩:=ih (by omega) fun j o h1 h2=>aH j o h1 (by omega)
  have ho:ops[p+k]? = some ops[p+k]:=ahY (by omega)
  obtain⟨_,aA⟩:=R.step (p+k) _ ho
  have same:HH (p+k+1)=HH (p+k)->¬ (X (p+k)=true/\kd P ops[p+k] = .late)->∃ e',e.le e'/\RH P.globals.size (fun q=>F q\/∃ j,ll P ops X S (p+(k+1)) j/\cI j=q) w e' (HH (p+(k+1))) w/\
   ∀ j o d,p<=j->j<p+(k+1)->ops[j]? = some o->X j=true->kd P o = .late->o.dst=some d->VR e' (V j) (a.tmps.getD d undef):=by
   intro hh iJ
   refine⟨e1,sD,?_,?_⟩
   ·rw[<-ajG,hh]
    refine ja.weaken fun q hq => ?_
    rcases hq with hq | ⟨j,⟨q1,q2,q3⟩,q4⟩
    ·exact .inl hq
    ·exact .inr ⟨j,⟨q1,by omega,q3⟩,q4⟩
   ·intro j o d h1 h2 hj hx c8 hd
    by_cases Tv:j=p+k
    ·subst Tv
     rw[ho] at hj;cases hj
     exact absurd ⟨hx,c8⟩ iJ
    ·exact mN j o d h1 (by omega) hj hx c8 hd
  cases hx:X (p+k) with
  | false=>
   rw[hx] at aA
   exact same aA.2.2.2.2 (by simp[hx])
  | true=>
   rw[hx] at aA
   have hn:=aH (p+k) _ (by omega) (by omega) ho hx
   cases c8:kd P ops[p+k]<;>rw[c8] at aA
   ·exact same aA.2.2.2.2 (by simp[c8])
   ·exact same aA.2.2.2.2 (by simp[c8])
   · -- a new variable
    obtain⟨hA,_,_,_⟩:=aA
    have hS:=hn.2 c8
    have hpd:ll P ops X S (p+k) (p+k):=⟨hS,aaU _,hx,_,ho,c8⟩
    have aei:ll P ops X S p (p+k):=⟨hS,by omega,hx,_,ho,c8⟩
    obtain⟨g1,g2,g3⟩:=I.KY _ aei
    obtain⟨ob,val,KE,Jc,arJ⟩:=g3 _ ho
    obtain⟨ao,nn,dh,eB,iL⟩:=Jc _ _ _ _ e1 hA ja.N
    have NS:∀ j oj,(HH (p+k)).h.get j=some oj->e1.b j≠cI (p+k):=by
     intro j oj hj hq
     obtain⟨a1,ob,b1,c1,d1⟩:=ja.obj j oj hj
     by_cases hjG:e1.n P.globals.size<=e1.b j
     ·exact d1 (.inr hjG) (.inr ⟨p+k,hpd,hq.symm⟩)
     ·have:=(sD.2 _ I.rh.mL.2.1).2.2
      omega
    obtain⟨_,pH⟩:=ja.Mu (F':=fun q=>F q\/∃ j,ll P ops X S (p+(k+1)) j/\cI j=q) dh KE NS eB (by
     intro q hq
     rcases hq with hq | ⟨j,⟨q1,q2,q3⟩,q4⟩
     ·exact⟨.inl hq,fun r=>g2 (r▸hq)⟩
     ·refine⟨.inr ⟨j,⟨q1,by omega,q3⟩,q4⟩,fun r => ?_⟩
      have:=I.KW j (p+k) ⟨q1,by omega,q3⟩ aei (q4.trans r)
      omega)
    refine⟨_,Em.le_trans sD (Em.qj ..),by rw[<-ajG];exact pH,?_⟩
    intro j o d h1 h2 hj vK rX hd
    by_cases Tv:j=p+k
    ·subst Tv
     rw[ho] at hj;cases hj
     rw[arJ d hd]
     exact iL
    ·exact (mN j o d h1 (by omega) hj vK rX hd).mono (Em.qj ..)
   ·exact absurd c8 hn.1
end
end
theorem RH.push {G:Nat}{F:Nat->Prop}{W:World}{e:Em}{H:Hp}{w:World}(h:RH G F W e H w)(ob:Obj) :
  RH G (fun k=>F k\/k=w.heap.size) { w with heap:=w.heap.push ob } e H { w with heap:=w.heap.push ob }:=by
 refine⟨h.N,?_,h.inj,h.si,?_,rfl,rfl,rfl,aaU _,by obtain⟨g1,g2,g3⟩:=h.mL;simp;omega⟩
 ·intro i o ho
  obtain⟨a,qA,b,c,d⟩:=h.obj i o ho
  have ba:=(adt.1 b).1
  refine⟨a,qA,?_,c,fun hw hk => ?_⟩
  ·simp only;rw[ajQ,if_neg (by omega)];exact b
  ·rcases hk with hk | hk
   ·exact d hw hk
   ·omega
 ·intro k hk
  refine⟨?_,rfl⟩
  rcases hk with hk | hk
  ·have:=(h.frame k hk).1;simp;omega
  ·simp;omega
theorem SE {a:Act}{dst:Option Tmp}{v:Value}{n:Nat}(hn:n<=a.tmps.size)(hd:∀ d,dst=some d->d<n)(d:Tmp):(a.put dst v).tmps.getD d undef=if dst=some d then v else a.tmps.getD d undef:=by
 cases dst with
 | none=>simp[Act.put]
 | some x=>
  simp only[Act.put]
  have hx0:x<a.tmps.size:=aew (hd x rfl) hn
  rw[Zd hx0]
  by_cases hx:d=x
  ·subst hx;simp
  ·rw[if_neg hx,if_neg (fun q=>hx (ac8 q).symm)]
theorem TX {a:Act}{dst:Option Tmp}{v:Value}:(a.put dst v).tmps.size=a.tmps.size:=by cases dst<;>simp[Act.put]
theorem Vm {a:Act}{dst:Option Tmp}{v:Value}:(a.put dst v).defers=a.defers:=by cases dst<;>rfl
section
variable {P:Program}{cf:CF}{n:Nat}{ops:Array Oper}{B:List Nat}{t0:Tm}{H0:Hp}{TP TE:Nat->Tm}{HB HH:Nat->Hp}{V:Nat->AV}{X:Nat->Bool}
 {F:Nat->Prop} {W:World} {e0:Em} {ds:List Deferred} {S:Nat->Prop} {p:Nat} {e:Em} {a:Act} {w:World} {cI:Nat->Nat}
theorem qF.lt (R:qF P cf n ops B t0 H0 TP TE HB HH V X){i:Nat}{o:Oper}(ho:ops[i]? = some o):∀ d,o.dst=some d->d<n:=fun d hd=>al3 (R.cJ ho).2 hd
theorem Inv.quiet (R:qF P cf n ops B t0 H0 TP TE HB HH V X)(I:Inv P n ops B t0 HB HH V X F W e0 ds S p e a w cI){i:Nat}{o:Oper}(ho:ops[i]? = some o)(hS:¬ S i)
  (hr:∀ j,(B.getD i 0).testBit j=true->S j) (hk:X i=true->kd P o ≠ .late/\kd P o ≠ .dE) {e':Em} {w':World} {v':Value}
  (he:e.le e') (hR:RH P.globals.size (fun k=>F k\/∃ j,ll P ops X S p j/\cI j=k) w e' (HB p) w') (hv:VR e' (V i) v') :
  Inv P n ops B t0 HB HH V X F W e0 ds (fun j=>S j\/j=i) p e' (a.put o.dst v') w' cI:=by
 have pC:∀ j,ll P ops X (fun j=>S j\/j=i) p j↔ll P ops X S p j:=by
  intro j
  constructor
  ·rintro⟨q1 | q1,q2,q3,o2,q4,q5⟩
   ·exact⟨q1,q2,q3,o2,q4,q5⟩
   ·subst q1
    rw[ho] at q4;cases q4
    exact absurd q5 (hk q3).1
  ·rintro⟨q1,q2⟩
   exact⟨.inl q1,q2⟩
 have aH:∀ j o2 d,ops[j]? = some o2->o2.dst=some d->j≠i->o.dst≠some d:=fun j o2 d h1 h2 h3 h4=>h3 (R.form.one j i o2 o d h1 ho h2 h4)
 have ff:=fun d=>SE (a:=a) (dst:=o.dst) (v:=v') I.Cf (R.lt ho) d
 refine⟨I.pN,I.ph,I.pe,?_,?_,?_,?_,hR.os.trans I.os,hR.tape.trans I.tape,hR.output.trans I.output,ahS I.size hR.size,?_,?_,?_,?_,by rw[TX];exact I.Cf,Em.le_trans I.le he,by rw[Vm];exact I.defers⟩
 ·intro i' j h1 h2
  rcases h1 with h1 | h1
  ·exact .inl (I.down i' j h1 h2)
  ·subst h1;exact .inl (hr j h2)
 ·intro i' o' h1 h2 h3
  rw[<-I.dE i' o' h1 h2 h3]
  constructor
  ·rintro (q | q)
   ·exact q
   ·subst q;rw[ho] at h1;cases h1;exact absurd h3 (hk h2).2
  ·exact .inl
 ·refine (hR.weaken fun k hk => ?_).Lx
  rcases hk with hk | ⟨j,h1,h2⟩
  ·exact .inl hk
  ·exact .inr ⟨j,(pC j).1 h1,h2⟩
 ·intro k hk
  exact (hR.frame k (.inl hk)).2.trans (I.frame k hk)
 ·intro j hj
  have jP:=(pC j).1 hj
  obtain⟨g1,g2,g3⟩:=I.KY j jP
  refine⟨by rw[(he.2 _ I.rh.mL.2.1).2.2];exact g1,g2,fun o2 h1 => ?_⟩
  obtain⟨ob,val,q3,q2,q4⟩:=g3 o2 h1
  refine⟨ob,val,?_,q2,fun d hd => ?_⟩
  ·rw[(hR.frame (cI j) (.inr ⟨j,jP,rfl⟩)).2];exact q3
  ·rw[ff,if_neg (aH j o2 d h1 hd (fun q=>hS (q▸jP.1)))];exact q4 d hd
 ·intro x y hx hy
  exact I.KW x y ((pC x).1 hx) ((pC y).1 hy)
 ·intro j o2 d h1 h2 h3 h4
  rw[ff]
  rcases h2 with h2 | h2
  ·rw[if_neg (aH j o2 d h1 h3 (fun q=>hS (q▸h2)))]
   exact (I.val j o2 d h1 h2 h3 (fun q=>h4 ((pC j).2 q))).mono he
  ·subst h2
   rw[ho] at h1;cases h1
   rw[if_pos h3];exact hv
 ·intro d hd
  rw[ff,if_neg (hd i o ho (.inr rfl))]
  exact (I.EB d fun j o2 h1 h2=>hd j o2 h1 (.inl h2)).mono he
theorem Inv.late (R:qF P cf n ops B t0 H0 TP TE HB HH V X)(I:Inv P n ops B t0 HB HH V X F W e0 ds S p e a w cI){i:Nat}{o:Oper}(ho:ops[i]? = some o)(hS:¬ S i)
  (hr:∀ j,(B.getD i 0).testBit j=true->S j) (hX:X i=true) (c8:kd P o = .late) (qZ:p<=i) {ob:Obj} {val:Value} {dr:Nat} (Jc:Ru P o w.heap.size ob val) :
  Inv P n ops B t0 HB HH V X F W e0 ds (fun j=>S j\/j=i) p e (a.put o.dst val) { w with drawn:=dr,heap:=w.heap.push ob } (fun j=>if j=i then w.heap.size else cI j):=by
 have pC:∀ j,ll P ops X (fun j=>S j\/j=i) p j↔(ll P ops X S p j\/j=i):=by
  intro j
  constructor
  ·rintro⟨q1 | q1,q2⟩
   ·exact .inl ⟨q1,q2⟩
   ·exact .inr q1
  ·rintro (⟨q1,q2⟩ | q)
   ·exact⟨.inl q1,q2⟩
   ·subst q;exact⟨.inr rfl,qZ,hX,o,ho,c8⟩
 have aH:∀ j o2 d,ops[j]? = some o2->o2.dst=some d->j≠i->o.dst≠some d:=fun j o2 d h1 h2 h3 h4=>h3 (R.form.one j i o2 o d h1 ho h2 h4)
 have ff:=fun d=>SE (a:=a) (dst:=o.dst) (v:=val) I.Cf (R.lt ho) d
 have ba:∀ j,ll P ops X S p j->cI j<w.heap.size:=fun j hj=>(I.rh.frame (cI j) (.inr ⟨j,hj,rfl⟩)).1
 have vX:∀ j,ll P ops X S p j->j≠i:=fun j hj q=>hS (q▸hj.1)
 refine⟨I.pN,I.ph,I.pe,?_,?_,?_,?_,I.os,I.tape,I.output,by simp;have:=I.size;omega,?_,?_,?_,?_,by rw[TX];exact I.Cf,I.le,by rw[Vm];exact I.defers⟩
 ·intro i' j h1 h2
  rcases h1 with h1 | h1
  ·exact .inl (I.down i' j h1 h2)
  ·subst h1;exact .inl (hr j h2)
 ·intro i' o' h1 h2 h3
  rw[<-I.dE i' o' h1 h2 h3]
  constructor
  ·rintro (q | q)
   ·exact q
   ·subst q;rw[ho] at h1;cases h1;rw[c8] at h3;cases h3
  ·exact .inl
 ·refine ((I.rh.push ob).drawn dr).Lx.weaken fun k hk => ?_
  rcases hk with hk | ⟨j,h1,h2⟩
  ·exact .inl (.inl hk)
  ·rcases (pC j).1 h1 with q | q
   ·rw[if_neg (vX j q)] at h2
    exact .inl (.inr ⟨j,q,h2⟩)
   ·rw[if_pos q] at h2
    exact .inr h2.symm
 ·intro k hk
  have:=(I.rh.frame k (.inl hk)).1
  simp only
  rw[ajQ,if_neg (by omega)]
  exact I.frame k hk
 ·intro j hj
  rcases (pC j).1 hj with q | q
  ·obtain⟨g1,g2,g3⟩:=I.KY j q
   rw[if_neg (vX j q)]
   refine⟨g1,g2,fun o2 h1 => ?_⟩
   obtain⟨qA,ap6,q3,q2,q4⟩:=g3 o2 h1
   refine⟨qA,ap6,?_,q2,fun d hd => ?_⟩
   ·simp only
    rw[ajQ,if_neg (by have:=ba j q;omega)];exact q3
   ·rw[ff,if_neg (aH j o2 d h1 hd (vX j q))];exact q4 d hd
  ·rw[if_pos q]
   subst q
   refine⟨I.rh.mL.2.2,fun hF => ?_,fun o2 h1 => ?_⟩
   ·have:=(I.rh.frame _ (.inl hF)).1
    omega
   ·rw[ho] at h1;cases h1
    refine⟨ob,val,by simp,Jc,fun d hd => ?_⟩
    rw[ff,if_pos hd]
 ·intro x y hx hy L1
  rcases (pC x).1 hx with qx | qx<;>rcases (pC y).1 hy with qy | qy
  ·rw[if_neg (vX x qx),if_neg (vX y qy)] at L1;exact I.KW x y qx qy L1
  ·rw[if_neg (vX x qx),if_pos qy] at L1
   have:=ba x qx;omega
  ·rw[if_pos qx,if_neg (vX y qy)] at L1
   have:=ba y qy;omega
  ·rw[qx,qy]
 ·intro j o2 d h1 h2 h3 h4
  rw[ff]
  rcases h2 with h2 | h2
  ·rw[if_neg (aH j o2 d h1 h3 (fun q=>hS (q▸h2)))]
   exact I.val j o2 d h1 h2 h3 (fun q=>h4 ((pC j).2 (.inl q)))
  ·exact absurd ((pC j).2 (.inr h2)) h4
 ·intro d hd
  rw[ff,if_neg (hd i o ho (.inr rfl))]
  exact I.EB d fun j o2 h1 h2=>hd j o2 h1 (.inl h2)
theorem Inv.effect (R:qF P cf n ops B t0 H0 TP TE HB HH V X)(I:Inv P n ops B t0 HB HH V X F W e0 ds S p e a w cI){i:Nat}{o:Oper}(ho:ops[i]? = some o)(hS:¬ S i)
  (hr:∀ j,(B.getD i 0).testBit j=true->S j) (hX:X i=true) (c8:kd P o = .dE) (qZ:p<=i) {e1 e':Em} {w':World} {v':Value}
  (sD:e.le e1) (Pu:∀ j o d,p<=j->j<i->ops[j]? = some o->X j=true->kd P o = .late->o.dst=some d->VR e1 (V j) (a.tmps.getD d undef))
  (he:e1.le e') (hR:RH P.globals.size (fun k=>F k\/∃ j,ll P ops X S i j/\cI j=k) w e' (HH (i+1)) w') (hv:VR e' (V i) v') :
  Inv P n ops B t0 HB HH V X F W e0 ds (fun j=>S j\/j=i) (i+1) e' (a.put o.dst v') w' cI:=by
 have hi:i<ops.size:=(adt.1 ho).1
 have pC:∀ j,ll P ops X (fun j=>S j\/j=i) (i+1) j->ll P ops X S i j/\ll P ops X S p j/\j≠i:=by
  rintro j ⟨q1,q2,q3⟩
  rcases q1 with q1 | q1
  ·exact⟨⟨q1,by omega,q3⟩,⟨q1,by omega,q3⟩,by omega⟩
  ·omega
 have aH:∀ j o2 d,ops[j]? = some o2->o2.dst=some d->j≠i->o.dst≠some d:=fun j o2 d h1 h2 h3 h4=>h3 (R.form.one j i o2 o d h1 ho h2 h4)
 have ff:=fun d=>SE (a:=a) (dst:=o.dst) (v:=v') I.Cf (R.lt ho) d
 have Vc:HB (i+1)=HH (i+1):=by
  obtain⟨_,h⟩:=R.step i o ho
  rw[hX,c8] at h
  exact h.2.2.2
 refine⟨by omega,Vc.symm,.inr ⟨i,o,rfl,ho,hX,c8⟩,?_,?_,?_,?_,hR.os.trans I.os,hR.tape.trans I.tape,hR.output.trans I.output,ahS I.size hR.size,?_,?_,?_,?_,by rw[TX];exact I.Cf,Em.le_trans I.le (Em.le_trans sD he),by rw[Vm];exact I.defers⟩
 ·intro i' j h1 h2
  rcases h1 with h1 | h1
  ·exact .inl (I.down i' j h1 h2)
  ·subst h1;exact .inl (hr j h2)
 ·intro i' o' h1 h2 h3
  constructor
  ·rintro (q | q)
   ·have:=(I.dE i' o' h1 h2 h3).1 q;omega
   ·omega
  ·intro q
   by_cases BP:i'=i
   ·exact .inr BP
   ·exact .inl (hr i' (R.d1 i o ho hX c8 i' o' h1 h2 (.inl h3) (by omega)))
 ·rw[Vc]
  refine (hR.weaken fun k hk => ?_).Lx
  rcases hk with hk | ⟨j,h1,h2⟩
  ·exact .inl hk
  ·exact .inr ⟨j,(pC j h1).1,h2⟩
 ·intro k hk
  exact (hR.frame k (.inl hk)).2.trans (I.frame k hk)
 ·intro j hj
  obtain⟨TF,Q5,hj3⟩:=pC j hj
  obtain⟨g1,g2,g3⟩:=I.KY j Q5
  refine⟨by rw[((Em.le_trans sD he).2 _ I.rh.mL.2.1).2.2];exact g1,g2,fun o2 h1 => ?_⟩
  obtain⟨ob,val,q3,q2,q4⟩:=g3 o2 h1
  refine⟨ob,val,?_,q2,fun d hd => ?_⟩
  ·rw[(hR.frame (cI j) (.inr ⟨j,TF,rfl⟩)).2];exact q3
  ·rw[ff,if_neg (aH j o2 d h1 hd hj3)];exact q4 d hd
 ·intro x y hx hy
  exact I.KW x y (pC x hx).2.1 (pC y hy).2.1
 ·intro j o2 d h1 h2 h3 h4
  rw[ff]
  rcases h2 with h2 | h2
  ·have vW:j≠i:=fun q=>hS (q▸h2)
   rw[if_neg (aH j o2 d h1 h3 vW)]
   by_cases hp:ll P ops X S p j
   ·obtain⟨q1,q2,q3,o3,q4,q5⟩:=hp
    rw[h1] at q4;cases q4
    by_cases ba:j<i
    ·exact (Pu j o2 d q2 ba h1 q3 q5 h3).mono he
    ·exact absurd ⟨.inl q1,by omega,q3,o2,h1,q5⟩ h4
   ·exact ((I.val j o2 d h1 h2 h3 hp).mono sD).mono he
  ·subst h2
   rw[ho] at h1;cases h1
   rw[if_pos h3];exact hv
 ·intro d hd
  rw[ff,if_neg (hd i o ho (.inr rfl))]
  exact ((I.EB d fun j o2 h1 h2=>hd j o2 h1 (.inl h2)).mono sD).mono he
end
end
theorem aaa {α:Type}{p q:α->Bool}(h:∀ x,p x=true->q x=true){a:α}(hq:q a=true)(hp:p a=false):∀ l:List α,a∈l->l.countP p<l.countP q
 | b::l,hm=>by
  have hle:∀ l:List α,l.countP p<=l.countP q:=fun l=>List.countP_mono_left fun x _=>h x
  rcases aa7.1 hm with rfl | hm
  ·rw[List.countP_cons_of_neg (by simp[hp]),List.countP_cons_of_pos hq]
   have:=hle l;omega
  ·have:=aaa h hq hp l hm
   rw[akO,akO]
   by_cases hb:p b=true
   ·rw[if_pos hb,if_pos (h b hb)];omega
   ·rw[if_neg hb];omega
theorem ahq {P:Program}{o:Oper}{a:Act}{w:World}{t:Tm}{H H':Hp}{v:AV}(c8:kd P o = .late)(hA:iV P (ev P.globals.size t) o H=some (v,H')) :
  ∃ ob val dr,(execOp a.eval o).run P w = .ok (.value val) { w with drawn:=dr,heap:=w.heap.push ob }/\Ru P o w.heap.size ob val:=by
 rcases auq c8 with⟨ty,aY⟩ | ⟨ty,ca,cb,aY⟩ | ⟨x,y,cv,el,aY,hx,hy⟩
 ·unfold iV at hA
  rw[aY] at hA
  simp only at hA
  split at hA
  ·rename_i l hl
   obtain⟨inf,z,jd,hz,_⟩:=zd (e:=⟨id,fun _=>0,id,0⟩) hl
   refine⟨.cells z.cells ty (0,0),.pointer (some ⟨w.heap.size,0,none⟩),w.drawn,?_,?_⟩
   ·unfold execOp
    rw[aY]
    simp[Instr.alloc,rQ jd hz,newVar,newRow]
   ·intro t2 H2 uN v2 e bV hN
    unfold iV at bV
    rw[aY] at bV
    simp only[hl,aam,acv] at bV
    obtain⟨⟨id,H3⟩,dJ,rfl,rfl⟩:=bV
    obtain⟨hlen,dh⟩:=LW dJ
    obtain⟨WI,z2,BW,CS,hlr⟩:=zd (e:=e) hl
    rw[jd] at BW;cases BW
    rw[hz] at CS;cases CS
    have zU:id=e.N:=(xH dh).1.trans hN.symm
    subst zU
    exact⟨_,_,dh,Wi hlr hlen,.aba (Em.n0 ..) (by simp[Em.ext]) (Em.oc ..)⟩
  ·cases hA
 ·have AB:∀ (t2:Tm) (H2 uN:Hp) (v2:AV),iV P (ev P.globals.size t2) o H2=some (v2,uN)->wY P ty ((jL ca).getD .dD) ((jL cb).getD .dD) H2=some (v2,uN):=by
   intro t2 H2 uN v2 h
   unfold iV at h
   rw[aY] at h
   exact h
  have bW:=AB t H H' v hA
  have yV:∃ k1 n,(jL ca).getD .dD = .int k1 n:=by
   unfold wY at bW
   split at bW
   ·rename_i q _;exact⟨_,_,q⟩
   ·cases bW
  have hcb:∃ k2 m,(jL cb).getD .dD = .int k2 m:=by
   unfold wY at bW
   split at bW
   ·rename_i _ q;exact⟨_,_,q⟩
   ·cases bW
  obtain⟨k1,n,ha⟩:=yV
  obtain⟨k2,m,hb⟩:=hcb
  have vA:ca = .int k1 n:=by
   cases h:jL ca with
   | none=>rw[h] at ha;cases ha
   | some u=>rw[h] at ha;have q:u = .int k1 n:=ha;subst q;exact (VR.jL (e:=⟨id,fun _=>0,id,0⟩) h).fZ
  have vB:cb = .int k2 m:=by
   cases h:jL cb with
   | none=>rw[h] at hb;cases hb
   | some u=>rw[h] at hb;have q:u = .int k2 m:=hb;subst q;exact (VR.jL (e:=⟨id,fun _=>0,id,0⟩) h).fZ
  rw[ha,hb] at bW
  obtain⟨el,s,z,row,hu,hs,hz,EY,hle,hlen,lr⟩:=run_makeSlice bW w
  refine⟨.cells row.toArray el (0,0),.slice (some ⟨w.heap.size,0,none⟩) n.toNat m.toNat,w.drawn,?_,?_⟩
  ·unfold execOp
   rw[aY,vA,vB]
   have h2:(do Pure.pure (Next.value (<-Instr.makeSlice ty (.int k1 n) (.int k2 m))):Sem Next).run P w = .ok (.value (.slice (some ⟨w.heap.size,0,none⟩) n.toNat m.toNat)) { w with heap:=w.heap.push (.cells row.toArray el (0,0)) }:=by
    rw[Sem.run_bind,lr]
    rfl
   exact h2
  ·intro t2 H2 uN v2 e bV hN
   have jm:=AB t2 H2 uN v2 bV
   rw[ha,hb] at jm
   unfold wY at jm
   simp only[hu,hs] at jm
   split at jm
   ·rw[hz] at jm
    simp only[aam,acv] at jm
    obtain⟨⟨id,H3⟩,dJ,rfl,rfl⟩:=jm
    obtain⟨oG,dh⟩:=LW dJ
    have zU:id=e.N:=(xH dh).1.trans hN.symm
    subst zU
    have eB:=Wi (cs:=row.toArray) (b:=w.heap.size) (el:=el) (by simpa using EY e) oG
    refine⟨_,_,dh,eB,?_⟩
    have pI:(e.ext w.heap.size 0 row.toArray.size).b e.N=w.heap.size:=Em.n0 ..
    have hv:=VR.slice (e:=e.ext w.heap.size 0 row.toArray.size) e.N 0 n.toNat m.toNat true s 0 m.toNat (ah3 e.N) (by rw[Em.oc];rfl) hle (aaU _) (fun _=>rfl) (by rw[Em.yw];simp[hlen])
    rw[pI] at hv
    exact hv
   ·cases jm
 ·have YX:∀ (t2:Tm) (H2 uN:Hp) (v2:AV),iV P (ev P.globals.size t2) o H2=some (v2,uN)->jU P x y ((jL cv).getD .dD) H2=some (v2,uN):=by
   intro t2 H2 uN v2 h
   unfold iV at h
   rw[aY] at h
   exact h
  have bW:=YX t H H' v hA
  unfold jU at bW
  rw[hx,hy] at bW
  cases hc:(jL cv).getD .dD with
  | str s=>
   rw[hc] at bW
   simp only at bW
   have hof:jL cv=some (.str s):=by
    cases h:jL cv with
    | none=>rw[h] at hc;cases hc
    | some u=>rw[h] at hc;exact congrArg some hc
   obtain⟨s',wk,OY⟩:=(VR.jL (e:=⟨id,fun _=>0,id,0⟩) hof).mO
   split at bW
   ·rename_i pz
    refine⟨.cells (uS w el s').toArray el (oC w el s',oC w el s'+1),.slice (some ⟨w.heap.size,0,none⟩) s'.size (oC w el s'),w.drawn+1,?_,?_⟩
    ·unfold execOp
     rw[aY]
     have h1:(convert x y cv).run P w=(Conv.stringToBytes el s').run P w:=by rw[OY];simp[convert,aI hx,aI hy,aI pz]
     have h2:(do Pure.pure (Next.value (<-convert x y cv)):Sem Next).run P w = .ok (.value (.slice (some ⟨w.heap.size,0,none⟩) s'.size (oC w el s'))) { w with drawn:=w.drawn+1,heap:=w.heap.push (.cells (uS w el s').toArray el (oC w el s',oC w el s'+1)) }:=by
      rw[Sem.run_bind,h1,abg]
      rfl
     exact h2
    ·intro t2 H2 uN v2 e bV hN
     have jm:=YX t2 H2 uN v2 bV
     unfold jU at jm
     rw[hx,hy,hc] at jm
     simp only[pz] at jm
     split at jm
     ·rename_i i H3 dJ
      cases jm
      obtain⟨hlen,dh⟩:=LW dJ
      have zU:i=e.N:=(xH dh).1.trans hN.symm
      subst zU
      have fA:=Rv w el s'
      have hle:=NX w el s'
      rw[wk] at dh dJ hlen ⊢
      refine⟨_,(uS w el s').length,dh,?_,?_⟩
      ·refine .cells _ _ _ _ _ _ (oC w el s',oC w el s'+1) (by rw[Em.yw];simp) ?_ (by simp) ?_ (fun _=>Em.oc ..)
       ·intro k u _ hk hg
        rw[Tr.Ee .nil _ _ _ _ (by omega)] at hg
        rw[if_pos ⟨by omega,by omega⟩,aih] at hg
        obtain⟨v',cw,hr⟩:=(Z2 e s').get hg
        refine⟨k,by rw[Em.oc];omega,v',?_,hr.mono (Em.qj ..)⟩
        have kO:k<(s'.data.toList.map fun b=>Value.int .u8 b.toNat).length:=(aaw.1 cw).1
        simp only[afW,uS]
        rw[abX kO]
        exact cw
       ·intro _ k hk
        have qe:k<(uS w el s').length:=by simpa using hk
        rw[fA] at qe
        simp;omega
      ·have pI:(e.ext w.heap.size 0 (uS w el s').length).b e.N=w.heap.size:=Em.n0 ..
       have hv:=VR.slice (e:=e.ext w.heap.size 0 (uS w el s').length) e.N 0 s'.size s'.size false 1 0 (oC w el s') (ah3 e.N) (by rw[Em.oc];rfl) hle hle (by simp) (by rw[Em.yw,fA];omega)
       rw[pI] at hv
       rw[xp]
       exact hv
     ·cases jm
   ·cases bW
  | _=>rw[hc] at bW;first | (simp only at bW;cases bW;done) | (cases bW;done) | (simp at bW;done)
section
variable {P:Program}{cf:CF}{n:Nat}{ops:Array Oper}{B:List Nat}{t0:Tm}{H0:Hp}{TP TE:Nat->Tm}{HB HH:Nat->Hp}{V:Nat->AV}{X:Nat->Bool}
 {F:Nat->Prop} {W:World} {e0:Em} {ds:List Deferred} {S:Nat->Prop} {p:Nat} {e:Em} {a:Act} {w:World} {cI:Nat->Nat}
theorem Inv.congr {S':Nat->Prop}(I:Inv P n ops B t0 HB HH V X F W e0 ds S p e a w cI)(h:∀ j,S j↔S' j):Inv P n ops B t0 HB HH V X F W e0 ds S' p e a w cI:=by
 have:S=S':=funext fun j=>propext (h j)
 rw[<-this];exact I
theorem Inv.final (R:qF P cf n ops B t0 H0 TP TE HB HH V X)(I:Inv P n ops B t0 HB HH V X F W e0 ds S p e a w cI)(lI:∀ j,j<ops.size->S j)(hS:∀ j,S j->j<ops.size) :
  ∃ e',e0.le e'/\RH P.globals.size F W e' (HH ops.size) w/\TR e' n (TE ops.size) a/\a.defers=ds:=by
 obtain⟨k,hk⟩:∃ k,ops.size=p+k:=⟨ops.size-p,by have:=I.pN;omega⟩
 obtain⟨e',he,hr,hv⟩:=I.Mu R k (by omega) fun j o h1 h2 h3 h4=>⟨fun h5=>by
  have:=(I.dE j o h3 h4 h5).1 (lI j (by omega));omega,fun _=>lI j (by omega)⟩
 rw[<-hk] at hr hv
 refine⟨e',Em.le_trans I.le he,?_,⟨I.Cf,fun d => ?_⟩,I.defers⟩
 ·have hw:=hr.weaken (F':=F) fun q hq => .inl hq
  exact hw.U8 (fun q hq=>⟨(hw.frame q hq).1,I.frame q hq⟩) (fun i o ho Tp hq=>(hw.obj i o ho).2.choose_spec.2.2 Tp hq) I.os I.tape I.output I.size
 ·obtain⟨v1,v2⟩:=R.aw ops.size (aaU _) d
  by_cases hex:∃ j o',j<ops.size/\ops[j]? = some o'/\o'.dst=some d
  ·obtain⟨j,o',hj,gI,fh⟩:=hex
   rw[(v1 j o' hj gI fh).2,ahb]
   by_cases hp:ll P ops X S p j
   ·obtain⟨q1,q2,q3,o3,q4,q5⟩:=hp
    rw[gI] at q4;cases q4
    exact hv j o' d q2 hj gI q3 q5 fh
   ·exact (I.val j o' d gI (lI j hj) fh hp).mono he
  ·rw[(v2 fun j o' hj gI fh=>hex ⟨j,o',hj,gI,fh⟩).2]
   exact (I.EB d fun j o' gI uz fh=>hex ⟨j,o',hS j uz,gI,fh⟩).mono he
theorem aky (gK:vO P cf)(R:qF P cf n ops B t0 H0 TP TE HB HH V X){Q:Exit->Act->World->Prop}
  (hQ:∀ e' a' w',e0.le e'->RH P.globals.size F W e' (HH ops.size) w'->TR e' n (TE ops.size) a'->a'.defers=ds->Q .normal a' w') :
  ∀ (fuel:Nat) (listed:Array Bool) (p:Nat) (e:Em) (a:Act) (w:World) (cI:Nat->Nat),listed.size=ops.size->
   Inv P n ops B t0 HB HH V X F W e0 ds (fun j=>listed.getD j false=true) p e a w cI->(List.range ops.size).countP (fun j => !(listed.getD j false))<=fuel->
   wpAny P .any ops Q fuel listed a w:=by
 have fw:∀ (listed:Array Bool) (j:Nat),listed.size=ops.size->(listed.getD j true=false↔j<ops.size/\¬ listed.getD j false=true):=by
  intro listed j hs
  simp only[ag3]
  by_cases hj:j<listed.size
  ·rw[ahY hj];simp;omega
  ·rw[Array.getElem?_eq_none (by omega)];simp;omega
 have Af:∀ (listed:Array Bool),listed.size=ops.size->∀ j,listed.getD j false=true->j<ops.size:=by
  intro listed hs j hj
  rcases akN j listed.size with q | q
  ·omega
  ·rw[ag3,Array.getElem?_eq_none q] at hj;cases hj
 have finish:∀ (listed:Array Bool) (p:Nat) (e:Em) (a:Act) (w:World) (cI:Nat->Nat),listed.size=ops.size->Inv P n ops B t0 HB HH V X F W e0 ds (fun j=>listed.getD j false=true) p e a w cI->
   Region.ready .any ops listed=[]->Q .normal a w:=by
  intro listed p e a w cI hs I u6
  have lI:∀ j,j<ops.size->listed.getD j false=true:=by
   intro j
   induction j using Nat.strongRecOn with
   | _ j ih=>
    intro hj
    by_cases hl:listed.getD j false=true
    ·exact hl
    ·exfalso
     have:j∈Region.ready .any ops listed:=by
      rw[mem_ready]
      refine⟨(fw listed j hs).2 ⟨hj,hl⟩,_,ahY hj,fun e he hb => ?_⟩
      have:=R.form.back j _ (ahY hj) e he hb
      exact ih e.on this (by omega)
     rw[u6] at this
     cases this
  obtain⟨e',h1,h2,h3,h4⟩:=I.final R lI (Af listed hs)
  exact hQ e' a w h1 h2 h3 h4
 intro fuel
 induction fuel with
 | zero=>
  intro listed p e a w cI hs I hc
  have u6:Region.ready .any ops listed=[]:=by
   cases hq:Region.ready .any ops listed with
   | nil=>rfl
   | cons j l=>
    exfalso
    have hm:j∈Region.ready .any ops listed:=by rw[hq];exact List.mem_cons_self ..
    rw[mem_ready] at hm
    obtain⟨h1,h2⟩:=(fw listed j hs).1 hm.1
    have:0<(List.range ops.size).countP (fun j => !(listed.getD j false)):=List.countP_pos_iff.2 ⟨j,by simpa using h1,by simpa using h2⟩
    omega
  exact⟨u6,finish listed p e a w cI hs I u6⟩
 | succ fuel ih=>
  intro listed p e a w cI hs I hc
  refine⟨finish listed p e a w cI hs I,fun i hi => ?_⟩
  rw[mem_ready] at hi
  obtain⟨h0,o,ho,PR⟩:=hi
  obtain⟨ba,hS⟩:=(fw listed i hs).1 h0
  have hr:∀ j,(B.getD i 0).testBit j=true->listed.getD j false=true:=by
   intro j hj
   obtain⟨ed,h1,h2,h3⟩:=R.form.bit i o ho j hj
   have h4:=PR ed h1 h2
   rcases h3 with h3 | h3
   ·rw[h3];exact h4
   ·exact I.down ed.on j h4 h3
  have e9:∀ j,(listed.setIfInBounds i true).getD j false=true↔(listed.getD j false=true\/j=i):=by
   intro j
   by_cases hj:j=i
   ·subst hj
    simp[ag3,aiz (show j<listed.size by omega)]
   ·rw[getD_set_ne false (fun q=>hj q.symm)];simp[hj]
  have awf:(List.range ops.size).countP (fun j => !((listed.setIfInBounds i true).getD j false))<=fuel:=by
   have:=aaa (p:=fun j => !((listed.setIfInBounds i true).getD j false)) (q:=fun j => !(listed.getD j false)) (a:=i) (by
    intro x hx
    cases hq:listed.getD x false with
    | false=>rfl
    | true=>have:=(e9 x).2 (.inl hq);rw[this] at hx;cases hx) (by
    cases hq:listed.getD i false with
    | false=>rfl
    | true=>exact absurd hq hS) (by rw[(e9 i).2 (.inr rfl)];rfl) (List.range ops.size) (by simpa using ba)
   omega
  have next:∀ p' e' a' w' Pj,Inv P n ops B t0 HB HH V X F W e0 ds (fun j=>listed.getD j false=true\/j=i) p' e' a' w' Pj->wpAny P .any ops Q fuel (listed.setIfInBounds i true) a' w':=
   fun p' e' a' w' Pj I'=>ih _ p' e' a' w' Pj (by simpa using hs) (I'.congr fun j=>(e9 j).symm) awf
  obtain⟨hw,aA⟩:=R.step i o ho
  have hgd:∀ d,HK ops o=some d->VR e (((TP i).get d).getD cq) (a.tmps.getD d undef):=fun d hd=>I.read R ho hS hr (by unfold DO;rw[hd];simp)
  have L0:=MD (e:=e) (a:=a) hw hgd
  have aeC:∀ x∈o.op.operands.toList,VR e (ev P.globals.size (TP i) x) (a.eval x):=fun x hx=>Y2 I.rh fun d hd=>I.read R ho hS hr (afT (hd▸hx))
  unfold wpOp
  simp only[ho]
  cases hX:X i with
  | false=>
   rw[hX] at aA L0
   rw[L0]
   simp only[abH,if_false]
   refine next p e _ w cI (I.quiet R ho hS hr (by rw[hX];simp) e.le_refl I.rh ?_)
   rw[aA.1];exact VR.undef
  | true=>
   rw[hX] at aA L0
   rw[L0]
   simp only[if_true]
   left
   have auK:∀ j oj,ops[j]? = some oj->X j=true->kd P oj = .dE->p<=j->j<i->kd P o = .dE->False:=by
    intro j oj h1 h2 h3 h4 h5 h6
    have:=hr j (R.d1 i o ho hX h6 j oj h1 h2 (.inl h3) h5)
    have:=(I.dE j oj h1 h2 h3).1 this
    omega
   cases c8:kd P o<;>rw[c8] at aA
   · -- pure
    obtain⟨⟨h',aY⟩,_⟩:=aA
    have L3:=ajb c8 aY (HB p)
    have Q6:tQ P cf (TP i) o (HB p)=some (V i,HB p):=by
     unfold tQ
     split
     ·rename_i f args cB hq
      unfold kd at c8;rw[hq] at c8;cases c8
     ·exact L3
    refine IV gK I.rh Q6 aeC ?_
    intro e' v' w' he hR hv
    exact next p e' _ w' cI (I.quiet R ho hS hr (fun _=>by rw[c8];simp) he hR hv)
   · -- read
    obtain⟨⟨h',aY⟩,_⟩:=aA
    have Dd:∃ Yw,iV P (ev P.globals.size (TP i)) o (HB p)=some (V i,Yw):=by
     by_cases qZ:p<=i
     · -- the first effect from p on,ahead of i,if there is one
      by_cases hex:∃ j oj,p<=j/\j<i/\ops[j]? = some oj/\X j=true/\kd P oj = .dE
      · -- take the least
       have ark:∃ j oj,p<=j/\j<i/\ops[j]? = some oj/\X j=true/\kd P oj = .dE/\∀ j' qS,p<=j'->j'<j->ops[j']? = some qS->X j'=true->kd P qS ≠ .dE:=by
        obtain⟨j,hj⟩:=hex
        induction j using Nat.strongRecOn with
        | _ j ihj=>
         obtain⟨oj,h1,h2,h3,h4,h5⟩:=hj
         by_cases hm:∃ j' qS,p<=j'/\j'<j/\ops[j']? = some qS/\X j'=true/\kd P qS = .dE
         ·obtain⟨j',qS,g1,g2,g3,g4,g5⟩:=hm
          exact ihj j' g2 ⟨qS,g1,by omega,g3,g4,g5⟩
         ·exact⟨j,oj,h1,h2,h3,h4,h5,fun j' qS g1 g2 g3 g4 g5=>hm ⟨j',qS,g1,g2,g3,g4,g5⟩⟩
       obtain⟨j,oj,h1,h2,h3,h4,h5,h6⟩:=ark
       have Qf:HB j=HB p:=by
        obtain⟨k,rfl⟩:∃ k,j=p+k:=⟨j-p,by omega⟩
        exact R.YD p k (by omega) fun j' qS g1 g2 g3 g4=>h6 j' qS g1 g2 g3 g4
       rcases R.d3 j oj h3 h4 h5 i o ho hX c8 h2 with q | q
       ·exfalso
        have:=(I.dE j oj h3 h4 h5).1 (hr j q)
        omega
       ·rw[<-Qf];exact q
      ·have Qf:HB i=HB p:=by
        obtain⟨k,rfl⟩:∃ k,i=p+k:=⟨i-p,by omega⟩
        exact R.YD p k (by omega) fun j' qS g1 g2 g3 g4 g5=>hex ⟨j',qS,g1,g2,g3,g4,g5⟩
       rw[<-Qf];exact⟨h',aY⟩
     · -- p lies behind i: some effect behind i is done
      have hex:∃ j oj,i<j/\j<p/\ops[j]? = some oj/\X j=true/\kd P oj = .dE/\HB (j+1)=HB p:=by
       rcases I.pe with q | ⟨j,oj,q1,q2,q3,q4⟩
       ·omega
       ·refine⟨j,oj,?_,by omega,q2,q3,q4,by rw[q1]⟩
        rcases akN i j with q | q
        ·exact q
        ·have:i=j:=by omega
         subst this
         rw[ho] at q2;cases q2
         rw[c8] at q4;cases q4
      obtain⟨j,oj,h1,h2,h3,h4,h5,h6⟩:=hex
      rcases R.d2 j oj h3 h4 h5 i o ho hX c8 h1 with q | q
      ·exfalso
       exact hS (I.down j i ((I.dE j oj h3 h4 h5).2 h2) q)
      ·rw[<-h6];exact q
    obtain⟨Yw,L3⟩:=Dd
    have pU:=WG (.inr c8) L3
    subst pU
    have Q6:tQ P cf (TP i) o (HB p)=some (V i,HB p):=by
     unfold tQ
     split
     ·rename_i f args cB hq
      unfold kd at c8;rw[hq] at c8;cases c8
     ·exact L3
    refine IV gK I.rh Q6 aeC ?_
    intro e' v' w' he hR hv
    exact next p e' _ w' cI (I.quiet R ho hS hr (fun _=>by rw[c8];simp) he hR hv)
   · -- a new variable
    obtain⟨hA,_⟩:=aA
    have qZ:p<=i:=by
     rcases akN i p with q | q
     ·exfalso
      rcases I.pe with r | ⟨j,oj,q1,q2,q3,q4⟩
      ·omega
      ·have mE:i<j:=by
        rcases akN i j with q' | q'
        ·exact q'
        ·have:i=j:=by omega
         subst this
         rw[ho] at q2;cases q2
         rw[c8] at q4;cases q4
       have uz:=(I.dE j oj q2 q3 q4).2 (by omega)
       exact hS (I.down j i uz (R.d1 j oj q2 q3 q4 i o ho hX (.inr c8) mE))
     ·exact q
    obtain⟨ob,val,dr,lr,Jc⟩:=ahq (a:=a) (w:=w) c8 hA
    have hI:=I.late R ho hS hr hX c8 qZ (dr:=dr) Jc
    unfold Oper.wp
    rw[lr]
    exact next p e _ _ _ hI
   · -- an effect
    obtain⟨aY,_,_,Vc⟩:=aA
    have qZ:p<=i:=by
     rcases akN i p with q | q
     ·exact absurd ((I.dE i o ho hX c8).2 q) hS
     ·exact q
    obtain⟨k,hk⟩:∃ k,i=p+k:=⟨i-p,by omega⟩
    have Pu:∀ j oj,p<=j->j<i->ops[j]? = some oj->X j=true->kd P oj ≠ .dE/\(kd P oj = .late->listed.getD j false=true):=
     fun j oj h1 h2 h3 h4=>⟨fun h5=>auK j oj h3 h4 h5 h1 h2 c8,fun h5=>hr j (R.d1 i o ho hX c8 j oj h3 h4 (.inr h5) h2)⟩
    obtain⟨e1,sD,ja,mN⟩:=I.Mu R k (by omega) (by rw[<-hk];exact Pu)
    rw[<-hk] at ja mN
    have aqa:∀ x∈o.op.operands.toList,VR e1 (ev P.globals.size (TE i) x) (a.eval x):=by
     intro x hx
     refine Y2 ja fun d hd => ?_
     subst hd
     have u6:=afT (ops:=ops) hx
     obtain⟨v1,v2⟩:=R.aw i (Nat.le_of_lt ba) d
     by_cases hex:∃ j o',j<i/\ops[j]? = some o'/\o'.dst=some d
     ·obtain⟨j,o',hj,gI,fh⟩:=hex
      rw[(v1 j o' hj gI fh).2,ahb]
      have uz:listed.getD j false=true:=by
       have:=R.form.rd j i o' o d gI ho fh (by omega) u6
       rw[if_pos hj] at this
       exact hr j this
      by_cases hp:ll P ops X (fun j=>listed.getD j false=true) p j
      ·obtain⟨q1,q2,q3,o3,q4,q5⟩:=hp
       rw[gI] at q4;cases q4
       exact mN j o' d q2 hj gI q3 q5 fh
      ·exact (I.val j o' d gI uz fh hp).mono sD
     ·rw[(v2 fun j o' hj gI fh=>hex ⟨j,o',hj,gI,fh⟩).2]
      refine (I.EB d fun j o' gI uz fh => ?_).mono sD
      by_cases vW:j<i
      ·exact hex ⟨j,o',vW,gI,fh⟩
      ·by_cases zB:j=i
       ·subst zB;exact hS uz
       ·have:=R.form.rd j i o' o d gI ho fh zB u6
        rw[if_neg (by omega)] at this
        exact hS (I.down j i uz this)
    refine IV gK ja aY aqa ?_
    intro e' v' w' he hR hv
    exact next (i+1) e' _ w' cI (I.effect R ho hS hr hX c8 qZ sD mN he hR hv)
end
end
section
variable {P:Program}{cf:CF}{F:Nat->Prop}{W:World}{e:Em}{H:Hp}{w:World}
theorem abV {s:kH}{H:Hp}(h:vp P s H=true):∃ h',iV P (ev P.globals.size s.t) s.o H=some (s.v,h'):=by
 unfold vp at h
 split at h
 ·rename_i v' h' hv
  rw[akp h]
  exact⟨h',hv⟩
 ·cases h
theorem Xc (hm:P.follows .mixedOrders=true)(gK:vO P cf){ops:Array Oper}{n id:Nat}{t t':Tm}{H':Hp}{a:Act}{Q:Exit->Act->World->Prop}(hd:Da P cf n ops t H=some (t',H'))(hR:RH P.globals.size F W e H w)(hT:TR e n t a)
  (hQ:∀ e' a' w',e.le e'->RH P.globals.size F W e' H' w'->TR e' n t' a'->a'.defers=a.defers->Q .normal a' w'):(Code.region id ops true).wp P Q a w:=by
 unfold Da at hd
 cases Cc:yk ops with
 | false=>rw[Cc] at hd;cases hd
 | true=>
 rw[Cc] at hd
 simp only[cond_true] at hd
 split at hd
 ·rename_i l tF HF lr
  cases Ip:BG P l with
  | false=>rw[Ip] at hd;cases hd
  | true=>
  rw[Ip] at hd
  cases hd
  have aqr:=aib Cc
  obtain⟨TP,TE,HB,HH,V,X,q1,q2,q3,q4,q5,q6,q7⟩:=aqh (B:=before ops.toList []) ops.toList (before ops.toList []) 0 t t H H l (by simp) (by simp) lr
  rw[aeJ,ajS] at q5 q6
  unfold BG at Ip
  rw[aeO] at Ip
  have pair:∀ i oi,ops[i]? = some oi->X i=true->kd P oi = .dE->∀ j oj,ops[j]? = some oj->X j=true->
    ((kd P oj = .dE\/kd P oj = .late)->(!(Nat.blt j i)||((before ops.toList []).getD i 0).testBit j)=true)/\
    (kd P oj = .read->(bif Nat.blt j i then ((before ops.toList []).getD i 0).testBit j||vp P ⟨j,oj,(before ops.toList []).getD j 0,X j,kk P (X j) oj,V j,TP j,HB j,HB (j+1)⟩ (HB (i+1)) else
     ((before ops.toList []).getD j 0).testBit i||vp P ⟨j,oj,(before ops.toList []).getD j 0,X j,kk P (X j) oj,V j,TP j,HB j,HB (j+1)⟩ (HB i))=true):=by
   intro i oi hi hx hk j oj hj vK
   have h1:=Ip _ (q7 i oi (ace _) hi).2
   simp only[kk,hx,if_true,hk,aeO] at h1
   have h2:=h1 _ (q7 j oj (ace _) hj).2
   simp only[kk,vK,if_true] at h2 ⊢
   constructor
   ·intro rX
    rcases rX with rX | rX<;>(rw[rX] at h2;exact h2)
   ·intro rX
    rw[rX] at h2 ⊢
    exact h2
  have akS:qF P cf n ops (before ops.toList []) t H TP TE HB HH V X:=by
   refine⟨aqr,q1,q2,q3,q4,fun j o ho=>(q7 j o (ace _) ho).1,?_,?_,?_⟩
   ·intro i oi hi hx hk j oj hj vK rX ba
    have:=(pair i oi hi hx hk j oj hj vK).1 rX
    have hb:Nat.blt j i=true:=by rw[ae2];exact ba
    rw[hb] at this
    simpa using this
   ·intro i oi hi hx hk j oj hj vK rX ba
    have:=(pair i oi hi hx hk j oj hj vK).2 rX
    have hb:Nat.blt j i=true:=by rw[ae2];exact ba
    rw[hb] at this
    simp only[cond_true,aiy] at this
    exact this.imp (fun q=>q) abV
   ·intro i oi hi hx hk j oj hj vK rX ba
    have:=(pair i oi hi hx hk j oj hj vK).2 rX
    have hb:Nat.blt j i=false:=by
     cases hb:Nat.blt j i
     ·rfl
     ·rw[ae2] at hb;omega
    rw[hb] at this
    simp only[cond_false,aiy] at this
    exact this.imp (fun q=>q) abV
  refine wp_region_any hm ?_
  have E8:∀ j,(Array.replicate ops.size false).getD j false=true->False:=by
   intro j hj
   rw[ag3,Array.getElem?_replicate] at hj
   split at hj<;>simp at hj
  have yr:=(hR.drawn (w.drawn+1))
  refine aky (F:=F) (W:=W) (e0:=e) (ds:=a.defers) gK akS (by rw[q5,q6];exact hQ) ops.size (Array.replicate ops.size false) 0 e a { w with drawn:=w.drawn+1 } (fun _=>0) (by simp) ?_ (by
   have:=List.countP_le_length (p:=fun j => !((Array.replicate ops.size false).getD j false)) (l:=List.range ops.size)
   simpa using this)
  refine⟨ace _,by rw[q3,q4],.inl rfl,fun i j h=>(E8 i h).elim,fun i o _ _ _=>⟨fun h=>(E8 i h).elim,fun h=>by omega⟩,?_,fun k hk=>(yr.frame k hk).2,hR.os,hR.tape,hR.output,hR.size,
   fun j hj=>(E8 j hj.1).elim,fun i j hi=>(E8 i hi.1).elim,fun j o d _ h=>(E8 j h).elim,fun d _=>hT.val d,hT.size,e.le_refl,rfl⟩
  rw[q3]
  refine (yr.weaken fun k hk => ?_).Lx
  rcases hk with hk | ⟨j,hj,_⟩
  ·exact hk
  ·exact (E8 j hj.1).elim
 ·cases hd
def Cp (P:Program)(c:Code)(Q:Exit->Act->World->Prop)(a:Act)(w:World):Prop:=
 ∀ (b:Frame) (k:List Item) (cs:List Frame),∃ e a' w',Q e a' w'/\Arrives P (lone (b.at a (.code c :: .inLoop c::k)) cs w) b k cs e a' w'
theorem WL {c:Code}{Q:Exit->Act->World->Prop}{a:Act}{w:World}(h:Cp P c Q a w):(Code.loop c).wp P Q a w:=
 fun b k cs=>let ⟨e,a',w',q,r⟩:=h b k cs;⟨e,a',w',q,.of_steps (.one step_loop) r⟩
theorem ad3 {c:Code}{Q:Exit->Act->World->Prop}{a:Act}{w:World}(h:c.wp P (Exit.then (Cp P c Q) Q) a w):Cp P c Q a w:=by
 intro b k cs
 obtain⟨e,a₁,w₁,hq,Gf⟩:=h b (.inLoop c::k) cs
 cases e with
 | normal=>
  obtain⟨e₂,a₂,w₂,hq₂,auA⟩:=hq b k cs
  exact⟨e₂,a₂,w₂,hq₂,.of_steps (Steps.trans Gf (.one step_inLoop)) auA⟩
 | exit id=>exact⟨_,a₁,w₁,hq,.pass (x := .inLoop c) rfl (fun _ _ => .inl (by simp)) Gf⟩
 | goto l=>exact⟨_,a₁,w₁,hq,.pass (x := .inLoop c) rfl (fun _ _ => .inl (by simp)) Gf⟩
 | ret=>exact⟨_,a₁,w₁,hq,.pass (x := .inLoop c) rfl (fun _ _ => .inl (by simp)) Gf⟩
 | panic ch=>exact⟨_,a₁,w₁,hq,.pass (x := .inLoop c) rfl (fun _ _ => .inl (by simp)) Gf⟩
 | outgrown=>exact⟨_,a₁,w₁,hq,.pass (x := .inLoop c) rfl (fun _ _ => .inl (by simp)) Gf⟩
def xit:X->Exit
 | .normal => .normal
 | .exit i => .exit i
 | .ret => .ret
def COK (P:Program)(run:Nat->Code->Tm->Hp->Option (X × Tm × Hp)):Prop:=
 ∀ (n:Nat) (c:Code) (t:Tm) (H:Hp) (x:X) (t':Tm) (H':Hp),run n c t H=some (x,t',H')->
  ∀ (F:Nat->Prop) (W:World) (e:Em) (a:Act) (w:World) (Q:Exit->Act->World->Prop),RH P.globals.size F W e H w->TR e n t a->
   (∀ e' a' w',e.le e'->RH P.globals.size F W e' H' w'->TR e' n t' a'->a'.defers=a.defers->Q (xit x) a' w')->
   c.wp P Q a w/\∀ b,c = .loop b->Cp P b Q a w
theorem arl (h:RH P.globals.size F W e H w){t:TypeId}{a v:AV}{a':Value}(ha:VR e a a')(hl:th P H t a=some v) :
  ∃ ad v',a' = .pointer (some ad)/\(loadVar t ad).run P w = .ok v' w/\VR e v v':=by
 obtain⟨v',h1,h2⟩:=Xl h ha hl
 unfold th at hl
 split at hl
 ·obtain⟨o,hi,ho,rfl⟩:=ha.um
  refine⟨_,v',rfl,?_,h2⟩
  simpa[Instr.loadAt,Instr.sureAddr] using h1
 ·cases hl
theorem TB (h:RH P.globals.size F W e H w){n:Nat}{t:Tm}{a:Act}(ht:TR e n t a):∀ (l:List ResultVar) (vs:List AV),uC P t H l=some vs->
  ∃ ws,(l.mapM (fun (r:ResultVar)=>match r with | .tmp t=>(Pure.pure (a.tmps.getD t undef):Sem Value) | .cell ad ty=>do loadVar ty (<-asAddr (a.tmps.getD ad undef)))).run P w = .ok ws w/\bh e vs ws
 | [],vs,hr=>by cases hr;exact⟨[],by simp,.nil e⟩
 | .tmp x::l,vs,hr=>by
  unfold uC at hr
  split at hr
  ·rename_i l' rW
   cases hr
   obtain⟨ws,h1,h2⟩:=TB h ht l l' rW
   exact⟨a.tmps.getD x undef::ws,by rw[List.mapM_cons,Sem.run_bind,Sem.run_pure,Result.andThen_ok,Sem.run_bind,h1];rfl,.cons (ht.val x) h2⟩
  ·cases hr
 | .cell ad ty::l,vs,hr=>by
  unfold uC at hr
  split at hr
  ·rename_i v l' hv rW
   cases hr
   obtain⟨ws,h1,h2⟩:=TB h ht l l' rW
   obtain⟨p,v',h3,h4,h5⟩:=arl h (ht.val ad) hv
   refine⟨v'::ws,?_,.cons h5 h2⟩
   rw[List.mapM_cons,Sem.run_bind]
   have:(do loadVar ty (<-asAddr (a.tmps.getD ad undef)):Sem Value).run P w = .ok v' w:=by
    rw[h3];simp[asAddr,h4]
   rw[this,Result.andThen_ok,Sem.run_bind,h1]
   rfl
  ·cases hr
theorem OS (h:RH P.globals.size F W e H w){n:Nat}{t:Tm}{a:Act}(ht:TR e n t a){fn:Func}{vs:List AV}(hr:uC P t H fn.results.toList=some vs) :
  ∃ v,(results fn a.tmps).run P w = .ok v w/\VR e (LL vs) v:=by
 obtain⟨ws,h1,h2⟩:=TB h ht _ _ hr
 have hm:(fn.results.mapM (fun (r:ResultVar)=>match r with | .tmp t=>(Pure.pure (a.tmps.getD t undef):Sem Value) | .cell ad ty=>do loadVar ty (<-asAddr (a.tmps.getD ad undef)))).run P w = .ok ws.toArray w:=by
  rw[<-Array.toArray_toList (xs:=fn.results),List.mapM_toArray,Sem.run_map,h1];rfl
 unfold results
 have na:(fn.results.mapM fun
  | .tmp t=>Pure.pure (a.tmps.getD t undef)
  | .cell ad t=>do loadVar t (<-asAddr (a.tmps.getD ad undef)):Sem (Array Value)).run P w = .ok ws.toArray w:=hm
 refine⟨(if h:ws.toArray.size=1 then ws.toArray[0] else .tuple ws.toArray),?_,?_⟩
 ·rw[Sem.run_bind]
  exact aaK (congrArg (fun r:Result (Array Value)=>r.andThen (fun vs w'=>(Pure.pure (if h:vs.size=1 then vs[0] else .tuple vs):Sem Value).run P w')) na) rfl
 ·cases vs with
  | nil=>rw[h2.kX];exact .tuple' (.nil e)
  | cons v r=>
   obtain⟨v',ws',rfl,hv,ea⟩:=h2.cons_inv
   cases r with
   | nil=>rw[ea.kX];exact hv
   | cons v2 r2=>
    obtain⟨Gg,ws2,rfl,yB,pH⟩:=ea.cons_inv
    have:¬ (v'::Gg::ws2).toArray.size=1:=by simp
    rw[dif_neg this]
    exact .tuple' h2
def Kq:Ext->Array Value->Sem Value
 | .same=>Extern.AbiNoEscape.same
 | .Il t=>Extern.BytealgMakeNoZero.makeNoZero #[] #[t]
 | .Lo=>Extern.BytealgIndexByte.indexByte
 | .count=>Extern.BytealgCount.count
def yD (P:Program)(ext:Nat->Option Ext):Prop:=
 ∀ bg k,ext bg=some k->∀ (aW:Array Value) (w:World),(callFunc bg aW).run P w=(do Pure.pure (Next.value (<-Kq k aW)):Sem Next).run P w
def vF (P:Program)(aR:Nat->Option Prim):Prop:=
 ∀ bg p,aR bg=some p->∀ (args:List AV) (H:Hp) (v:AV) (H':Hp),p args H=some (v,H')->
  ∀ (F:Nat->Prop) (W:World) (e:Em) (w:World) (aW:Array Value),RH P.globals.size F W e H w->bh e args aW.toList->
   (callFunc bg aW).run P w = .ok (.enter bg aW) w/\Calls P bg aW w (Fv P.globals.size F W e v H')
def pD (P : Program) : Prop := (P.funcs.toList.all fun fn => fn.body.isNone||fn.name != "runtime.NumGoroutine") = true
theorem yc (hN:pD P){bg:Nat}{fn:Func}{b:Code}(hf:P.funcs[bg]? = some fn)(hb:fn.body=some b)(aW:Array Value)(w:World):(callFunc bg aW).run P w = .ok (.enter bg aW) w:=by
 have hn : (fn.name == "runtime.NumGoroutine") = false := by
  unfold pD at hN
  rw[aeO] at hN
  have:=hN fn (by have:=Array.mem_of_getElem? hf;simpa using this)
  rw[hb] at this
  simp at this
  simp[this]
 unfold callFunc
 rw[Sem.run_bind,run_program,Result.andThen_ok]
 simp only[hf,hn,abH,if_false,hb,Option.isNone_some]
 rfl
theorem V2:∀ (n t:Nat) (acc:Array Value),(Extern.BytealgMakeNoZero.digits n t acc).size=acc.size+n
 | 0,t,acc=>rfl
 | n+1,t,acc=>by rw[Extern.BytealgMakeNoZero.digits,V2 n];simp;omega
theorem Yh (c:UInt8):∀ (l:List UInt8) (k:Nat) (q:Nat->Bool),(∀ (j:Nat) (h:j<l.length),q (k+j)=(l[j]==c))->(List.range' k l.length).find? q=kg c.toNat (l.map (·.toNat)) k
 | [],k,q,_=>rfl
 | b::l,k,q,h=>by
  have h0:=h 0 (by simp)
  simp only[afF,List.getElem_cons_zero] at h0
  have e:(b==c)=Nat.beq b.toNat c.toNat:=by
   rw[aku,Nat.beq_eq]
   simp[UInt8.toNat_inj]
  rw[aa1,List.range'_succ,List.find?_cons,h0,ac4,kg,e]
  cases Nat.beq b.toNat c.toNat with
  | true=>rfl
  | false=>
   simp only[cond_false]
   refine Yh c l (k+1) q (fun j hj => ?_)
   have:=h (j+1) (by simp;omega)
   rw[show k+1+j=k+(j+1) by omega,this,List.getElem_cons_succ]
theorem ad2 (c:UInt8):∀ l:List UInt8,Lib.countByte l c=gy c.toNat (l.map (·.toNat))
 | []=>rfl
 | b::l=>by
  have e:(b==c)=Nat.beq b.toNat c.toNat:=by
   rw[aku,Nat.beq_eq]
   simp[UInt8.toNat_inj]
  have ih:=ad2 c l
  unfold Lib.countByte at ih ⊢
  rw[List.count_cons,ac4,gy,e,ih]
  cases Nat.beq b.toNat c.toNat<;>rfl
theorem firstIdx_eq (s:ByteArray)(c:UInt8):firstIdx s c=(match kg c.toNat (bytes s) 0 with | some i=>(i:Int) | none => -1):=by
 have hs:s.size=s.data.toList.length:=(ajS).symm
 have h:=Yh c s.data.toList 0 (fun i=>s[i]! == c) (fun j hj=>by
  have jP:j<s.size:=by rw[hs];exact hj
  simp only[aeJ]
  rw[getElem!_pos s j jP]
  have e:s[j]=s.data.toList[j]:=by rw[Array.getElem_toList];rfl
  rw[e])
 unfold firstIdx
 rw[List.range_eq_range',hs,h]
 rfl
theorem acr (h:RH P.globals.size F W e H w){k:Ext}{args:List AV}{aW:Array Value}{v:AV}{H':Hp}(ha:bh e args aW.toList)(hx:Fq P k args H=some (v,H')) :
  ∃ v' w' e',(Kq k aW).run P w = .ok v' w'/\e.le e'/\RH P.globals.size F W e' H' w'/\VR e' v v':=by
 unfold Fq at hx
 split at hx
 ·cases hx
  obtain⟨x',r,h1,h2,h3⟩:=ha.cons_inv
  rw[h3.kX] at h1
  obtain rfl:aW = #[x']:=aeU.1 h1
  exact⟨x',w,e,rfl,e.le_refl,h,h2⟩
 ·rename_i t n
  obtain⟨x',r,h1,h2,h3⟩:=ha.cons_inv
  rw[h3.kX] at h1
  obtain rfl:aW = #[x']:=aeU.1 h1
  cases h2.fZ
  split at hx
  ·rename_i el hu
   split at hx
   ·rename_i hn
    simp only[aam,acv] at hx
    obtain⟨⟨i,H2⟩,dJ,rfl,rfl⟩:=hx
    let w1:World:={ w with drawn:=w.drawn+1 }
    let cap:=(Question.appendCap n.toNat 0 el).cut (w.tape w.drawn (.appendCap n.toNat 0 el))
    have iA:n.toNat<=cap:=Nat.le_add_right _ _
    let bs := (Question.extern "internal/bytealg.MakeNoZero.bytes" 0).cut (w1.tape w1.drawn (.extern "internal/bytealg.MakeNoZero.bytes" 0))
    let row:=(Extern.BytealgMakeNoZero.digits cap bs #[])
    have EY:row.size=cap:=by rw[V2];simp
    have hl:bh e (List.replicate n.toNat AV.dD) (row.toList.take n.toNat):=by
     refine⟨by simp[EY];omega,fun j a b hj hb => ?_⟩
     rw[akc] at hj
     split at hj
     ·cases hj;exact .dD _
     ·cases hj
    obtain⟨e',he,g1,g2,g3,g4,pK⟩:=((h.drawn (w.drawn+1)).drawn (w.drawn+1+1)).newRow (rest:=row.toList.drop n.toNat) (fz:=(0,0)) dJ hl (fun _=>rfl) (by simp)
    have aq8:(row.toList.take n.toNat++row.toList.drop n.toNat).toArray=row:=by rw[ai3]
    have hlen:(row.toList.take n.toNat++row.toList.drop n.toNat).length=cap:=by rw[ai3];simp[EY]
    refine⟨.slice (some ⟨w.heap.size,0,none⟩) n.toNat cap,_,e',?_,he,pK,VR.B3 g2 g1 (by rw[g3];simp) iA iA (by simp) (by rw[g4,hlen];omega)⟩
    rw[aq8]
    have abr:¬ (n<0\/n>2 ^ 48):=by omega
    have atO:(decide (n<0)||decide (n>2 ^ 48))=false:=by simp;omega
    have f1:(Question.appendCap n.toNat 0 el).forced=false:=rfl
    have f2 : (Question.extern "internal/bytealg.MakeNoZero.bytes" 0).forced = false := rfl
    have z8:Kq (.Il t) #[.int .i64 n]=(do
      let some t := (#[t] : Array TypeId)[0]? | stuck "bytealg.MakeNoZero: no result type"
      let .slice elem <-underlying t | stuck "bytealg.MakeNoZero: slice type expected"
      if n<0||n>2 ^ 48 then runtimePanic (.error "makeslice: len out of range")
      let cap <-choose (.appendCap n.toNat 0 elem)
      askRoom cap
      let bytes <-choose (.extern "internal/bytealg.MakeNoZero.bytes" 0)
      let a <-newRow elem (Extern.BytealgMakeNoZero.digits cap bytes #[])
      Pure.pure (.slice (some a) n.toNat cap):Sem Value):=rfl
    rw[z8]
    simp only[afW,aek,Sem.run_bind,aI hu,Result.andThen_ok,atO,abH,if_false,run_choose,f1,f2,run_askRoom,newRow,run_newObj,Sem.run_pure]
    rfl
   ·cases hx
  ·cases hx
 ·rename_i s n
  cases hx
  obtain⟨x',r,h1,h2,h3⟩:=ha.cons_inv
  obtain⟨y',r2,h4,h5,h6⟩:=h3.cons_inv
  rw[h4,h6.kX] at h1
  obtain rfl:aW = #[x',y']:=aeU.1 h1
  cases h5.fZ
  obtain⟨s',rfl,rfl⟩:=h2.mO
  refine⟨_,w,e,run_indexByte_string s' n w,e.le_refl,h,?_⟩
  rw[firstIdx_eq]
  have:(n.toNat.toUInt8).toNat=n.toNat % 256:=by simp
  rw[this]
  exact .int .i64 _
 ·rename_i s n
  cases hx
  obtain⟨x',r,h1,h2,h3⟩:=ha.cons_inv
  obtain⟨y',r2,h4,h5,h6⟩:=h3.cons_inv
  rw[h4,h6.kX] at h1
  obtain rfl:aW = #[x',y']:=aeU.1 h1
  cases h5.fZ
  obtain⟨s',rfl,rfl⟩:=h2.mO
  refine⟨_,w,e,Lib.run_countString s' n w,e.le_refl,h,?_⟩
  have:(n.toNat.toUInt8).toNat=n.toNat % 256:=by simp
  rw[ad2,this]
  exact .int .i64 _
 ·cases hx
theorem aap {ext:Nat->Option Ext}{aR:Nat->Option Prim}(hN:pD P)(hE:yD P ext)(hP:vF P aR){run:Nat->Code->Tm->Hp->Option (X × Tm × Hp)}(lr:COK P run) :
  vO P (DZ P ext aR run):=by
 intro g args H v H' hc
 unfold DZ at hc
 split at hc
 ·rename_i bg first cap
  refine⟨bg,first,cap,rfl,?_⟩
  intro F W e w aW hR mw
  split at hc
  ·rename_i p hp
   exact .inr (hP bg p hp _ H v H' hc F W e w aW hR mw)
  ·split at hc
   ·rename_i fn hf
    split at hc
    ·rename_i b hb
     cases hle:(Nat.ble (first++args++cap).length fn.ntmps&&Nat.blt fn.ntmps 4294967296) with
     | false=>rw[hle] at hc;cases hc
     | true=>
     rw[hle] at hc
     simp only[cond_true] at hc
     rw[aaT,afV,ae2] at hle
     refine .inr ⟨yc hN hf hb aW w,?_⟩
     have hlen:aW.size=(first++args++cap).length:=by have:=mw.1;simpa using this
     have hT:TR e fn.ntmps (Tr.cJ .nil 0 (first++args++cap)) { tmps:=aW++Array.replicate (fn.ntmps-aW.size) undef,defers:=[] }:=by
      refine⟨by simp;omega,fun x => ?_⟩
      rw[Tr.Ee .nil _ _ _ _ (by omega)]
      simp only[aeJ,ace,true_and,aih]
      by_cases hx:x<(first++args++cap).length
      ·rw[if_pos hx]
       have h1:(first++args++cap)[x]? = some (first++args++cap)[x]:=aaC hx
       obtain⟨v',h2,h3⟩:=mw.get h1
       rw[h1,ahb,ag3,Array.getElem?_append_left (by omega),<-afj,h2]
       exact h3
      ·rw[if_neg hx]
       have:(aW++Array.replicate (fn.ntmps-aW.size) undef).getD x undef=undef:=by
        rw[ag3,Array.getElem?_append_right (by omega),Array.getElem?_replicate]
        split<;>rfl
       simp only[this,Tr.get_nil]
       exact VR.undef
     have fin:∀ (x:X) (t2:Tm) (H2:Hp),run fn.ntmps b (Tr.cJ .nil 0 (first++args++cap)) H=some (x,t2,H2)->(x = .normal\/x = .ret)->(uC P t2 H2 fn.results.toList).map (fun l=>(LL l,H2))=some (v,H')->
       Calls P bg aW w (Fv P.globals.size F W e v H'):=by
      intro x t2 H2 hr je Db
      simp only[aam,acv] at Db
      obtain⟨vs,tf,rfl,rfl⟩:=Db
      refine calls_of_wp hf hb (lr _ _ _ _ _ _ _ hr F W e _ w _ hR hT ?_).1
      intro e' a' w' he bE cU hd
      obtain⟨u,hu,iL⟩:=OS bE cU tf
      rcases je with rfl | rfl
      ·exact⟨hd,u,hu,e',u,rfl,he,bE,iL⟩
      ·exact⟨hd,u,hu,e',u,rfl,he,bE,iL⟩
     split at hc
     ·cases hc
     ·rename_i x t2 H2 aH hr
      cases x with
      | normal=>exact fin _ t2 H2 hr (.inl rfl) hc
      | ret=>exact fin _ t2 H2 hr (.inr rfl) hc
      | exit i=>exact (aH i rfl).elim
     ·cases hc
    ·rename_i hb
     split at hc
     ·rename_i k hk
      obtain⟨v',w',e',h1,h2,h3,h4⟩:=acr hR mw hc
      refine .inl ⟨v',w',e',?_,h2,h3,h4⟩
      rw[hE bg k hk,Sem.run_bind,h1]
      rfl
     ·cases hc
   ·cases hc
 ·cases hc
theorem ahG {ext:Nat->Option Ext}{aR:Nat->Option Prim}(hm:P.follows .mixedOrders=true)(hN:pD P)(hE:yD P ext)(hP:vF P aR):∀ f,COK P (code P ext aR f):=by
 intro f
 induction f with
 | zero=>intro n c t H x t' H' h;cases h
 | succ f ih=>
  have gK:vO P (DZ P ext aR (code P ext aR f)):=aap hN hE hP ih
  intro n c t H x t' H' hc F W e a w Q hR hT hQ
  unfold code at hc
  split at hc
  ·cases hc
   exact⟨wp_skip (hQ e a w e.le_refl hR hT rfl),by intro b q;cases q⟩
  ·cases hc
   exact⟨wp_label (hQ e a w e.le_refl hR hT rfl),by intro b q;cases q⟩
  ·rename_i c1 c2
   refine⟨wp_seq ?_,by intro b q;cases q⟩
   split at hc
   ·rename_i t1 H1 h1
    refine (ih _ _ _ _ _ _ _ h1 F W e a w _ hR hT ?_).1
    intro e' a' w' he bE cU hd
    refine (ih _ _ _ _ _ _ _ hc F W e' a' w' _ bE cU ?_).1
    intro e2 a2 w2 CY kK wo yJ
    exact hQ e2 a2 w2 (Em.le_trans he CY) kK wo (yJ.trans hd)
   ·rename_i aH
    refine (ih _ _ _ _ _ _ _ hc F W e a w _ hR hT ?_).1
    intro e' a' w' he bE cU hd
    have:=hQ e' a' w' he bE cU hd
    cases x with
    | normal=>exact absurd hc (aH t' H')
    | exit i=>exact this
    | ret=>exact this
  ·rename_i cc c1 c2
   split at hc
   ·rename_i b hb
    have hv:=VR.ev hR hT cc
    rw[hb] at hv
    have cw:=hv.xj
    refine⟨wp_cond cw ?_,by intro b q;cases q⟩
    cases b with
    | true=>exact (ih _ _ _ _ _ _ _ hc F W e a w Q hR hT hQ).1
    | false=>exact (ih _ _ _ _ _ _ _ hc F W e a w Q hR hT hQ).1
   ·cases hc
  ·rename_i i b
   refine⟨wp_block ?_,by intro b q;cases q⟩
   split at hc
   ·rename_i j t1 H1 h1
    refine (ih _ _ _ _ _ _ _ h1 F W e a w _ hR hT ?_).1
    intro e' a' w' he bE cU hd
    show Exit.inBlock i Q (.exit j) a' w'
    cases hj:Nat.beq j i with
    | true=>
     rw[hj] at hc
     cases hc
     simp only[Exit.inBlock,abI hj,if_true]
     exact hQ e' a' w' he bE cU hd
    | false=>
     rw[hj] at hc
     cases hc
     have aH:¬ j=i:=fun q=>by rw[q,aie] at hj;cases hj
     simp only[Exit.inBlock,if_neg aH]
     exact hQ e' a' w' he bE cU hd
   ·rename_i aH
    refine (ih _ _ _ _ _ _ _ hc F W e a w _ hR hT ?_).1
    intro e' a' w' he bE cU hd
    have:=hQ e' a' w' he bE cU hd
    cases x with
    | normal=>exact this
    | exit j=>exact absurd hc (aH j t' H')
    | ret=>exact this
  ·rename_i b
   have hl:Cp P b Q a w:=by
    refine ad3 ?_
    split at hc
    ·rename_i t1 H1 h1
     refine (ih _ _ _ _ _ _ _ h1 F W e a w _ hR hT ?_).1
     intro e' a' w' he bE cU hd
     show Exit.then (Cp P b Q) Q .normal a' w'
     refine (ih _ _ _ _ _ _ _ hc F W e' a' w' Q bE cU ?_).2 b rfl
     intro e2 a2 w2 CY kK wo yJ
     exact hQ e2 a2 w2 (Em.le_trans he CY) kK wo (yJ.trans hd)
    ·rename_i aH
     refine (ih _ _ _ _ _ _ _ hc F W e a w _ hR hT ?_).1
     intro e' a' w' he bE cU hd
     have:=hQ e' a' w' he bE cU hd
     cases x with
     | normal=>exact absurd hc (aH t' H')
     | exit i=>exact this
     | ret=>exact this
   exact⟨WL hl,by intro b' q;cases q;exact hl⟩
  ·cases hc
   exact⟨wp_exit (hQ e a w e.le_refl hR hT rfl),by intro b q;cases q⟩
  ·cases hc
   exact⟨wp_ret (hQ e a w e.le_refl hR hT rfl),by intro b q;cases q⟩
  ·rename_i id ops d
   refine⟨?_,by intro b q;cases q⟩
   split at hc
   ·rename_i t1 H1 h1
    cases hc
    cases d with
    | true=>exact Xc hm gK h1 hR hT hQ
    | false=>
     refine wp_region ?_
     have:=aeA (Q:=Q) gK ops.toList 0 t H e a w (by simp) h1 hR hT hQ
     rw[List.range_eq_range']
     simpa using this
   ·cases hc
  ·cases hc
theorem avs {ext:Nat->Option Ext}{aR:Nat->Option Prim}(hm:P.follows .mixedOrders=true)(hN:pD P)(hE:yD P ext)(hP:vF P aR){fuel g:Nat}{args:List AV}{v:AV}{H':Hp}
  (h:M9 P ext aR fuel g args H=some (v,H')) {fn:Func} {b:Code} (hf:P.funcs[g]? = some fn) (hb:fn.body=some b) {aW:Array Value} (hR:RH P.globals.size F W e H w) (ha:bh e args aW.toList) :
  Calls P g aW w (Fv P.globals.size F W e v H'):=by
 obtain⟨bg,first,cap,hg,hs⟩:=aap hN hE hP (ahG hm hN hE hP fuel) _ _ _ _ _ h
 cases hg
 rcases hs F W e w aW hR (by simpa using ha) with⟨v',w',e',h1,_⟩ | ⟨_,h2⟩
 ·rw[yc hN hf hb] at h1
  cases h1
 ·exact h2
end
end Go.Proofs.YtodfajmihkagnaaGreatDoor.Am
