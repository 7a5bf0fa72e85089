/- Laws that the proof uses. -/
import Derived.Test.YtodfajmihkagnaaGreatDoorAm4
set_option linter.unusedVariables false
set_option linter.unusedSimpArgs false
namespace Go.Proofs.YtodfajmihkagnaaGreatDoor.Am
section
section
section
section
section
section
variable {F F':Nat->Prop}{G i:Nat}{H H':Hp}{W w:World}{d:Tmp}{dst:Option Tmp}{e:Em}{ob:Obj}{t':Tm}
theorem ahQ {n:Nat}{v:AV}{t:Tm}(h:iU n dst v t=some t')(d:Tmp):t'.get d=if dst=some d then some v else t.get d:=by
 unfold iU at h;split at h;·cases h;simp
 ·rename_i x;cases hb:(Nat.blt x n&&Nat.blt x 4294967296) with
  |false=>rw[hb] at h;cases h
  |true=>
   rw[hb] at h;cases h;simp only[aaA,aeI] at hb;rw[Tr.M9 _ _ _ _ _ zzz];by_cases hx:d=x;·subst hx;simp
   ·rw[zz1 hx,zz1 (λq=>hx (ac0 q).symm)]
theorem am4 {n:Nat}{v:AV}{t:Tm}(h:iU n dst v t=some t')(hd:dst=some d):d<n:=by
 subst hd;unfold iU at h;simp only at h;cases hb:(Nat.blt d n&&Nat.blt d 4294967296) with
 |false=>rw[hb] at h;cases h
 |true=>simp only[aaA,aeI] at hb;exact hb.1
theorem RH.weaken (h:RH G F W e H w)(hF:∀k,F' k->F k):RH G F' W e H w:=
 h.WS (λk hk=>h.frame k (hF k hk)) (λi o ho hw hk=>(h.obj i o ho).2.choose_spec.2.2 hw (hF _ hk)) h.os h.tape h.output h.size
theorem RH.N4 (h:RH G F W e H w):RH G F w e H w:=
 h.WS (λk hk=>⟨(h.frame k hk).1,rfl⟩) (λi o ho hw hk=>(h.obj i o ho).2.choose_spec.2.2 hw hk) rfl rfl rfl (aaC _)
theorem RH.OK (h:RH G F W e H w){o:AO}(ha:Am.alloc H o=some (i,H')){b n:Nat}
  (hb:w.heap[b]?=some ob) (Q8:∀j oj,H.h.get j=some oj->e.b j≠b) (eT:OR (e.ext b 0 n) i o ob) (hF:∀k,F' k->F k/\k≠b):i=e.N/\RH G F' W (e.ext b 0 n) H' w:=by
 obtain⟨rfl,aQ,rfl⟩:=Al ha;have hN:=h.N;have gj:∀j,(H.h.put 34 H.next o).get j=if j=H.next then some o else H.h.get j:=λj=>Tr.gw _ _ _ _
 have hle:=Em.rp e b 0 n;have je:∀j oj,H.h.get j=some oj->(e.ext b 0 n).b j=e.b j:=λj oj hj=>(hle.2 j (h.obj j oj hj).1).1;refine⟨hN.symm,?_,?_,?_,?_,?_,h.os,h.tape,h.output,h.size,by obtain⟨g1,g2,g3⟩:=h.nL;rw[(hle.2 G g2).2.2];simp[Em.ext];omega⟩;·simp[Em.ext,hN]
 ·intro j oj hj;simp only at hj;rw[gj] at hj;by_cases ej:j=H.next
  ·subst ej;rw[zz2 rfl] at hj;cases hj;refine⟨by simp[Em.ext,hN],ob,?_,eT,?_⟩;·rw[<-hN,Em.pj];exact hb
   ·intro _ hk;rw[<-hN,Em.pj] at hk;exact (hF _ hk).2 rfl
  ·rw[zz1 ej] at hj;obtain⟨a,rM,b2,c2,d2⟩:=h.obj j oj hj;refine⟨by simp[Em.ext];omega,rM,?_,c2.mono hle a,?_⟩;·rw[je j oj hj];exact b2
   ·intro hw hk;rw[je j oj hj,(hle.2 G h.nL.2.1).2.2] at hw;rw[je j oj hj] at hk;exact d2 hw (hF _ hk).1
 ·intro j k oj ok hj hk hq he;simp only at hj hk;rw[gj] at hj hk;by_cases ej:j=H.next<;>by_cases ek:k=H.next;·omega
  ·rw[zz1 ek] at hk;rw[je k ok hk,ej,<-hN,Em.pj] at he;exact absurd he.symm (Q8 k ok hk)
  ·rw[zz1 ej] at hj;rw[je j oj hj,ek,<-hN,Em.pj] at he;exact absurd he (Q8 j oj hj)
  ·rw[zz1 ej] at hj;rw[zz1 ek] at hk;rw[je j oj hj,(hle.2 G h.nL.2.1).2.2] at hq;rw[je j oj hj,je k ok hk] at he;exact h.inj j k oj ok hj hk hq he
 ·intro g hg;obtain⟨a,b',c⟩:=h.ub g hg;obtain⟨x,y,_⟩:=hle.2 g a;exact⟨by simp[Em.ext];omega,x.trans b',y.trans c⟩
 ·intro k hk;exact h.frame k (hF k hk).1
theorem akj {l:List AV}{cs:Array Value}{el b:Nat}(hl:aV e l cs.toList)(hlen:l.length<=16777216):OR (e.ext b 0 cs.size) e.N (.cells (Tr.bZ .nil 0 l) 0 l.length el 0) (.cells cs el (0,0)):=by refine .cells _ _ _ _ _ _ _ (by rw[Em.Ag]) ?_ (λ_=>rfl) zzy (λ_=>Em.po ..);intro k v _ hk hg;rw[Tr.IB .nil _ _ _ _ zzz] at hg;rw[zz2 ⟨zzz,zzz⟩,aij] at hg;obtain⟨v',bS,hr⟩:=hl.get hg;exact⟨k,by rw[Em.po];omega,v',by rw[<-aeW];exact bS,hr.mono (Em.rp ..)⟩
structure rL (P:Program)(cf:CF)(n:Nat)(ops:Array Oper)(B:List Nat)(t0:Tm)(H0:Hp)(TP TE:Nat->Tm)(HB HH:Nat->Hp)(V:Nat->AV)(X:Nat->Bool):Prop where
 form:Form ops B
 t1:TP 0=t0
 t2:TE 0=t0
 h1:HB 0=H0
 h2:HH 0=H0
 step:∀j o,ops[j]?=some o->PE P cf n ops o (X j) (V j) (TP j) (TE j) (TP (j+1)) (TE (j+1)) (HB j) (HH j) (HB (j+1)) (HH (j+1))
 d1:∀i oi,ops[i]?=some oi->X i=true->kd P oi=.dG->∀j oj,ops[j]?=some oj->X j=true->(kd P oj=.dG\/kd P oj=.late)->j<i->(B.getD i 0).testBit j=true
 d2:∀i oi,ops[i]?=some oi->X i=true->kd P oi=.dG->∀j oj,ops[j]?=some oj->X j=true->kd P oj=.read->j<i->(B.getD i 0).testBit j=true\/
  ∃h',jx P (ev P.globals.size (TP j)) oj (HB (i+1))=some (V j,h')
 d3:∀i oi,ops[i]?=some oi->X i=true->kd P oi=.dG->∀j oj,ops[j]?=some oj->X j=true->kd P oj=.read->i<j->(B.getD j 0).testBit i=true\/
  ∃h',jx P (ev P.globals.size (TP j)) oj (HB i)=some (V j,h')
def pv (P:Program)(V:Nat->AV)(X:Nat->Bool)(j:Nat)(o:Oper):AV:=if X j=true/\kd P o=.late then .du else V j
end
section
variable {P:Program}{cf:CF}{n:Nat}{ops:Array Oper}{B:List Nat}{t0:Tm}{H0:Hp}{TP TE:Nat->Tm}{HB HH:Nat->Hp}{V:Nat->AV}{X:Nat->Bool}
theorem rL.bZ (R:rL P cf n ops B t0 H0 TP TE HB HH V X){j:Nat}{o:Oper}(ho:ops[j]?=some o):
  iU n o.dst (pv P V X j o) (TP j)=some (TP (j+1))/\iU n o.dst (V j) (TE j)=some (TE (j+1)):=by
 obtain⟨_,h⟩:=R.step j o ho;cases hx:X j with
 |false=>
  rw[hx] at h;obtain⟨h1,h2,h3,_⟩:=h;simp only[pv,hx,abu,false_and,if_false];rw[h1];exact⟨h2,h3⟩
 |true=>
  rw[hx] at h;cases hk:kd P o<;>rw[hk] at h<;>simp only[pv,hx,hk,true_and,if_true,reduceCtorEq,if_false,and_false];·exact⟨h.2.1,h.2.2.1⟩
  ·exact⟨h.2.1,h.2.2.1⟩
  ·exact⟨h.2.1,h.2.2.1⟩
  ·exact⟨h.2.1,h.2.2.1⟩
theorem rL.aI (R:rL P cf n ops B t0 H0 TP TE HB HH V X):∀i,i<=ops.size->∀d,
  (∀j o,j<i->ops[j]?=some o->o.dst=some d->(TP i).get d=some (pv P V X j o)/\(TE i).get d=some (V j))/\
  ((∀j o,j<i->ops[j]?=some o->o.dst≠some d)->(TP i).get d=t0.get d/\(TE i).get d=t0.get d):=by
 intro i;induction i with
 |zero=>intro _ d;exact⟨λj o hj=>zzz,λ_=>⟨by rw[R.t1],by rw[R.t2]⟩⟩|succ i ih=>
  intro hi d;obtain⟨i1,i2⟩:=ih zzz d;have ho:ops[i]?=some ops[i]:=aip zzz;obtain⟨p1,p2⟩:=R.bZ ho;have g1:=ahQ p1 d;have g2:=ahQ p2 d;constructor
  ·intro j o hj zC hd;by_cases ya:j=i;·subst ya;rw[ho] at zC;cases zC;rw[g1,g2,zz2 hd,zz2 hd];exact⟨rfl,rfl⟩
   ·have aF:ops[i].dst≠some d:=λq=>ya (R.form.one j i o _ d zC ho hd q);rw[g1,g2,zz1 aF,zz1 aF];exact i1 j o zzz zC hd
  ·intro mn;have aF:=mn i _ zzz ho;rw[g1,g2,zz1 aF,zz1 aF];exact i2 λj o hj zC=>mn j o zzz zC
theorem rL.ab1 (R:rL P cf n ops B t0 H0 TP TE HB HH V X)(p:Nat):∀k,p+k<=ops.size->(∀j o,p<=j->j<p+k->ops[j]?=some o->X j=true->kd P o ≠ .dG)->HB (p+k)=HB p:=by
 intro k;induction k with
 |zero=>intro _ _;rfl|succ k ih=>
  intro hk aF;have ho:ops[p+k]?=some ops[p+k]:=aip zzz;obtain⟨_,h⟩:=R.step (p+k) _ ho;have:HB (p+k+1)=HB (p+k):=by
   cases hx:X (p+k) with
   |false=>rw[hx] at h;exact h.2.2.2.1|true=>
    rw[hx] at h;have hn:=aF (p+k) _ zzz zzz ho hx;cases cw:kd P ops[p+k]<;>rw[cw] at h;·exact h.2.2.2.1
    ·exact h.2.2.2.1
    ·exact h.2.2.2
    ·exact absurd cw hn
  rw[<-ame,this];exact ih zzz λj o h1 h2=>aF j o h1 zzz
end
end
variable {P:Program}
theorem Th:∀{a b:AV},rR a b=true->a=b:=by
 intro a b h;unfold rR at h;split at h<;>first
  |rfl
  |(cases h;done)
  |(simp only[zz6] at h;subst h;rfl)
  |(simp only[aaA,zz6] at h;obtain⟨h1,h2⟩:=h;subst h1;subst h2;rfl)
  |(simp only[aaA] at h;obtain⟨h1,h2⟩:=h;rw[abx h1,abx h2])
  |(simp only[aaA,zz6] at h;obtain⟨⟨⟨⟨⟨h1,h2⟩,h3⟩,h4⟩,h5⟩,h6⟩:=h;rw[abx h1,abx h2,abx h3,abx h4,h5,abx h6])
  |(rw[abx h])
theorem Us:∀{a b:List AV},xB a b=true->a=b
 |[],[],_=>rfl|[],_::_,h=>by simp[xB] at h
 |_::_,[],h=>by simp[xB] at h
 |a::x,b::y,h=>by simp only[xB,aaA] at h;rw[Th h.1,Us h.2]
theorem aud {a b:AV}(h:same a b=true):a=b:=by
 unfold same at h;split at h;·rw[Us h]
 ·rw[Us h]
 ·simp only[aaA] at h;rw[abx h.1,Th h.2]
 ·exact Th h
section
variable {H H':Hp}{o:Oper}{x:AV}{ρ:Operand->AV}
theorem jD {x:Option AV}{v:AV}(h:x.map (λv=>(v,H))=some (v,H')):x=some v/\H'=H:=by simp only[aal,acC] at h;obtain⟨a,ha,rfl,rfl⟩:=h;exact⟨ha,rfl⟩
theorem vp {x:Option AV}{v:AV}(h:x=some v):x.map (λv=>(v,H))=some (v,H):=by rw[h];rfl
theorem ana (h:kd P o=.late):(∃t,o.op=.alloc t)\/(∃t a b,o.op=.makeSlice t (.const a) (.const b))\/∃a b v el,o.op=.convert a b (.const v)/\P.underlying a=some .string/\P.underlying b=some (.slice el):=by
 unfold kd at h;cases aR:o.op<;>rw[aR] at h<;>simp only[reduceCtorEq] at h
 case alloc t=>exact .inl ⟨t,rfl⟩
 case binOp=>split at h<;>first|(cases h;done)|(split at h<;>cases h)
 case convert a b x=>
  split at h<;>first|(cases h;done)|skip
  rename_i el ha hb;split at h;·rename_i v;exact .inr (.inr ⟨a,b,v,el,rfl,ha,hb⟩)
  ·cases h
 case makeSlice t l c=>
  split at h;·rename_i a b;exact .inr (.inl ⟨t,a,b,rfl⟩)
  ·cases h
 case call c=>split at h<;>cases h
theorem alb {a b:TypeId}{v:AV}{i j:IntKind}(ha:P.underlying a=some (.int i))(hb:P.underlying b=some (.int j))(h:kD P a b x H=some (v,H')):
  H'=H/\∀H2,kD P a b x H2=some (v,H2):=by
 unfold kD at h⊢;rw[ha,hb] at h⊢;cases x<;>simp only at h⊢ <;> first|(cases h;exact⟨rfl,λ_=>rfl⟩)|(cases h;done)|(simp at h;done)|skip
theorem afo {a b:TypeId}{v:AV}(ha:P.underlying a=some .string)(hb:P.underlying b=some .string)(h:kD P a b x H=some (v,H')):
    H'=H /\ ∀H2,kD P a b x H2=some (v,H2):=by
  unfold kD at h⊢;rw[ha,hb] at h⊢;cases x<;>simp only at h⊢ <;> first
    |(cases h;exact⟨rfl,λ_=>rfl⟩)|(cases h;done)|(simp at h;done)
    | (split at h
       · rename_i q;cases h;exact⟨rfl,λ_=>by rw[zz2 q]⟩
       · cases h)
    |skip
theorem ayt {a b e:TypeId}{v:AV}(ha:P.underlying a=some (.slice e))(hb:P.underlying b=some .string)(h:kD P a b x H=some (v,H')):H'=H:=by
 unfold kD at h;rw[ha,hb] at h;cases x<;>simp only at h<;>first
  |(cases h;rfl)|(cases h;done)|(simp at h;done)
  |(split at h<;>first|(cases h;rfl)|(cases h;done)|skip)
  |skip
 rename_i q;cases hz:Nat.beq _ 0 with
 |true=>rw[hz] at h;cases h;rfl|false=>
  rw[hz] at h;simp only[cond_false,aba,aal,acC] at h;obtain⟨_,_,_,_,_,rfl⟩:=h;rfl
theorem ajl {v:AV}(hk:kd P o=.pure\/kd P o=.read)(h:jx P ρ o H=some (v,H')):H'=H:=by
 unfold jx at h;unfold kd at hk;cases aR:o.op<;>rw[aR] at h hk<;>simp only[reduceCtorEq,or_self] at h hk
 case move x=>cases h;rfl
 case assign x=>cases h;rfl
 case pick c a b=>
  split at h;·cases h;rfl
  ·cases h
 case build t ps=>exact (jD h).2
 case load t a=>exact (jD h).2
 case nilCheck x=>exact (jD h).2
 case binOp op t x y ty=>
  cases hg:vR P op t x y (ρ x) (ρ y) with
  |false=>rw[hg] at h;cases h
  |true=>rw[hg] at h;exact (jD h).2
 case unOp op t x=>exact (jD h).2
 case convert a b x=>
  split at hk;·rename_i i j ha hb;exact (alb ha hb h).1
  ·rename_i ha hb;exact (afo ha hb h).1
  ·rename_i e ha hb;exact ayt ha hb h
  ·split at hk<;>simp at hk
  ·simp at hk
 case makeSlice t l c=>split at hk<;>simp at hk
 case makeInterface t x=>exact (jD h).2
 case makeFunc fn a b=>exact (jD h).2
 case slice t x lo hi mx=>exact (jD h).2
 case fieldAddr t x f=>exact (jD h).2
 case field t x f=>exact (jD h).2
 case indexAddr t x ix=>exact (jD h).2
 case index t x ix=>exact (jD h).2
 case lookup t x k ok=>exact (jD h).2
 case entry it=>exact (jD h).2
 case extract t ix=>
  split at h;·exact (jD h).2
  ·cases h
 case typeAssert x t xW ok=>exact (jD h).2
 case call c=>
  cases hc:c.callee with
  |builtin b=>
   rw[hc] at h hk;simp only at h hk;cases b<;>simp only[reduceCtorEq,or_self] at hk<;>(unfold iW at h;split at h<;>first|(cases h;done)|exact (jD h).2|simp_all)
  |value f=>rw[hc] at h;cases h
  |invoke r m=>rw[hc] at h;cases h
theorem asL {op:BinOp}{t:TypeId}{y:AV}(hk:(match op with
   |.eql|.neq=>match P.underlying t with|some (.int _)|some .string|some .bool=>Kd.pure|_=>.read
   |_=>.pure)=.pure) (H H2:Hp):fT P op t x y H=fT P op t x y H2:=by
 have heq:(op=.eql\/op=.neq)->∀H H2:Hp,eE P 50 t x y H=eE P 50 t x y H2:=by
  intro ho H H2;have hu:P.underlying t=some .string\/P.underlying t=some .bool\/∃k,P.underlying t=some (.int k):=by rcases ho with rfl|rfl<;>(simp only at hk;split at hk<;>first|(exact .inl (by assumption))|(exact .inr (.inl (by assumption)))|(exact .inr (.inr ⟨_,by assumption⟩))|cases hk)
  unfold eE;rcases hu with hu|hu|⟨k,hu⟩<;>(rw[hu];cases x<;>cases y<;>rfl)
 cases op
 case eql=>
  have:=heq (.inl rfl) H H2;cases x<;>cases y<;>simp only[fT,this]
 case neq=>
  have:=heq (.inr rfl) H H2;cases x<;>cases y<;>simp only[fT,this]
 all_goals (cases x<;>cases y<;>rfl)
theorem aCJ {v:AV}(hk:kd P o=.pure)(h:jx P ρ o H=some (v,H'))(H2:Hp):jx P ρ o H2=some (v,H2):=by
 have hs:=ajl (.inl hk) h;subst hs;unfold jx at h⊢;unfold kd at hk;cases aR:o.op<;>rw[aR] at h hk<;>simp only[reduceCtorEq] at h hk⊢
 case move x=>cases h;rfl
 case assign x=>cases h;rfl
 case pick c a b=>
  split at h;·cases h;simp[*]
  ·cases h
 case build t ps=>exact vp (jD h).1
 case nilCheck x=>exact vp (jD h).1
 case binOp op t x y ty=>
  cases hg:vR P op t x y (ρ x) (ρ y) with
  |false=>rw[hg] at h;cases h
  |true=>
   rw[hg] at h;rw[asL hk H2 H'];exact vp (jD h).1
 case unOp op t x=>exact vp (jD h).1
 case convert a b x=>
  split at hk;·rename_i i j ha hb;exact (alb ha hb h).2 H2
  ·rename_i ha hb;exact (afo ha hb h).2 H2
  ·cases hk
  ·split at hk<;>cases hk
  ·cases hk
 case makeSlice t l c=>split at hk<;>cases hk
 case makeInterface t x=>exact vp (jD h).1
 case makeFunc fn a b=>exact vp (jD h).1
 case fieldAddr t x f=>exact vp (jD h).1
 case field t x f=>exact vp (jD h).1
 case indexAddr t x ix=>exact vp (jD h).1
 case index t x ix=>exact vp (jD h).1
 case extract t ix=>
  split at h;·rename_i l hl;exact vp (jD h).1
  ·cases h
 case typeAssert x t xW ok=>exact vp (jD h).1
 case call c=>
  cases hc:c.callee with
  |builtin b=>
   rw[hc] at h hk;simp only at h hk⊢;cases b<;>simp only[reduceCtorEq] at hk<;>(unfold iW at h⊢;split at h<;>first|(cases h;done)|exact vp (jD h).1|simp_all)
  |value f=>rw[hc] at h;cases h
  |invoke r m=>rw[hc] at h;cases h
end
end
section
variable {P:Program}{cf:CF}{n:Nat}{ops:Array Oper}{B:List Nat}{t0:Tm}{H0:Hp}{TP TE:Nat->Tm}{HB HH:Nat->Hp}{V:Nat->AV}{X:Nat->Bool}
def my (P:Program)(ops:Array Oper)(X:Nat->Bool)(S:Nat->Prop)(p j:Nat):Prop:=S j/\p<=j/\X j=true/\∃o,ops[j]?=some o/\kd P o=.late
def Xo (P:Program)(o:Oper)(b:Nat)(ob:Obj)(val:Value):Prop:=
 ∀(t:Tm) (H H':Hp) (v:AV) (e:Em),jx P (ev P.globals.size t) o H=some (v,H')->e.N=H.next->∃ao n,Am.alloc H ao=some (e.N,H')/\OR (e.ext b 0 n) e.N ao ob/\VR (e.ext b 0 n) v val
structure Inv (P:Program)(n:Nat)(ops:Array Oper)(B:List Nat)(t0:Tm)(HB HH:Nat->Hp)(V:Nat->AV)(X:Nat->Bool)(F:Nat->Prop)(W:World)(e0:Em)(ds:List Deferred)
  (S:Nat->Prop) (p:Nat) (e:Em) (a:Act) (w:World) (cj:Nat->Nat):Prop where
 pN:p<=ops.size
 ph:HH p=HB p
 pe:p=0\/∃j oj,p=j+1/\ops[j]?=some oj/\X j=true/\kd P oj=.dG
 down:∀i j,S i->(B.getD i 0).testBit j=true->S j
 dG:∀i o,ops[i]?=some o->X i=true->kd P o=.dG->(S i↔i<p)
 rh:RH P.globals.size (λk=>F k\/∃j,my P ops X S p j/\cj j=k) w e (HB p) w
 frame:∀k,F k->w.heap[k]?=W.heap[k]?
 os:w.os=W.os
 tape:w.tape=W.tape
 output:w.output=W.output
 size:W.heap.size<=w.heap.size
 Rp:∀j,my P ops X S p j->e.n P.globals.size<=cj j/\¬F (cj j)/\∀o,ops[j]?=some o->∃ob val,w.heap[cj j]?=some ob/\Xo P o (cj j) ob val/\∀d,o.dst=some d->a.tmps.getD d undef=val
 OW:∀i j,my P ops X S p i->my P ops X S p j->cj i=cj j->i=j
 val:∀j o d,ops[j]?=some o->S j->o.dst=some d->¬my P ops X S p j->VR e (V j) (a.tmps.getD d undef)
 Jj:∀d,(∀j o,ops[j]?=some o->S j->o.dst≠some d)->VR e ((t0.get d).getD bP) (a.tmps.getD d undef)
 Gb:n<=a.tmps.size
 le:e0.le e
 defers:a.defers=ds
section
variable {F S:Nat->Prop}{H:Hp}{W w:World}{a:Act}{d:Tmp}{ds:List Deferred}{e e0:Em}{i:Nat}{o:Oper}
theorem Inv.read (R:rL P cf n ops B t0 H0 TP TE HB HH V X){p:Nat}{cj:Nat->Nat}
  (I:Inv P n ops B t0 HB HH V X F W e0 ds S p e a w cj) (ho:ops[i]?=some o) (hS:¬S i) (hr:∀j,(B.getD i 0).testBit j=true->S j) (hd:IK ops o d=true):
  VR e (((TP i).get d).getD bP) (a.tmps.getD d undef):=by
 have hi:i<ops.size:=(adh.1 ho).1;obtain⟨v1,v2⟩:=R.aI i (anW hi) d;by_cases hex:∃j o',j<i/\ops[j]?=some o'/\o'.dst=some d
 ·obtain⟨j,o',hj,iJ,gh⟩:=hex;rw[(v1 j o' hj iJ gh).1];have vU:S j:=by have:=R.form.rd j i o' o d iJ ho gh zzz hd;rw[zz2 hj] at this;exact hr j this
  simp only[ahr,pv];split;·exact .du _
  ·rename_i hn;refine I.val j o' d iJ vU gh (λq=>hn ?_);obtain⟨_,_,hx,o2,qa,hk⟩:=q;rw[iJ] at qa;cases qa;exact⟨hx,hk⟩
 ·rw[(v2 λj o' hj iJ gh=>hex ⟨j,o',hj,iJ,gh⟩).1];refine I.Jj d λj o' iJ vU gh=>?_;by_cases ya:j<i;·exact hex ⟨j,o',ya,iJ,gh⟩
  ·by_cases Cr:j=i;·subst Cr;exact hS vU
   ·have:=R.form.rd j i o' o d iJ ho gh Cr hd;rw[zz1 zzz] at this;exact hS (I.down j i vU this)
theorem awA (h:Operand.tmp d∈o.op.operands.toList):d∈tmpsOf o:=by unfold tmpsOf;rw[List.mem_filterMap];exact⟨.tmp d,h,rfl⟩
theorem aeO (h:Operand.tmp d∈o.op.operands.toList):IK ops o d=true:=by unfold IK;rw[ajI];left;simpa using awA h
theorem acn (h:RH P.globals.size F W e H w){t:Tm}{x:Operand}(ht:∀d,x=.tmp d->VR e ((t.get d).getD bP) (a.tmps.getD d undef)):
  VR e (ev P.globals.size t x) (a.eval x):=by
 cases x with
 |tmp d=>exact ht d rfl|const v=>
  simp only[Am.ev,Act.eval];cases hc:Am.kK v with
  |none=>exact .du v|some c=>exact .kK hc
 |global g=>
  simp only[Am.ev,Act.eval];cases hb:Nat.blt g P.globals.size with
  |false=>exact .du _|true=>
   rw[aeI] at hb;obtain⟨h1,h2,h3⟩:=h.ub g hb;have:=VR.ptr (e:=e) g 0 0 h1 (by rw[h3];simp);rw[h2] at this;exact this
 |func f=>exact .func _ zzy [] [] #[] #[] rfl rfl zzy zzy
theorem Inv.OK (R:rL P cf n ops B t0 H0 TP TE HB HH V X){p:Nat}{cj:Nat->Nat}
  (I:Inv P n ops B t0 HB HH V X F W e0 ds S p e a w cj):∀k,p+k<=ops.size->(∀j o,p<=j->j<p+k->ops[j]?=some o->X j=true->kd P o ≠ .dG/\(kd P o=.late->S j))->
  ∃e',e.le e'/\RH P.globals.size (λq=>F q\/∃j,my P ops X S (p+k) j/\cj j=q) w e' (HH (p+k)) w/\
   ∀j o d,p<=j->j<p+k->ops[j]?=some o->X j=true->kd P o=.late->o.dst=some d->VR e' (V j) (a.tmps.getD d undef):=by
 intro k;induction k with
 |zero=>
  intro _ _;refine⟨e,e.le_refl,?_,λj o d h1 h2=>zzz⟩;rw[ae9,I.ph];exact I.rh
 |succ k ih=>
  intro hk aF;obtain⟨e1,uz,jC,nZ⟩:=ih zzz λj o h1 h2=>aF j o h1 zzz;have ho:ops[p+k]?=some ops[p+k]:=aip zzz;obtain⟨_,aC⟩:=R.step (p+k) _ ho;have same:HH (p+k+1)=HH (p+k)->¬(X (p+k)=true/\kd P ops[p+k]=.late)->∃e',e.le e'/\RH P.globals.size (λq=>F q\/∃j,my P ops X S (p+(k+1)) j/\cj j=q) w e' (HH (p+(k+1))) w/\
   ∀j o d,p<=j->j<p+(k+1)->ops[j]?=some o->X j=true->kd P o=.late->o.dst=some d->VR e' (V j) (a.tmps.getD d undef):=by
   intro hh jk;refine⟨e1,uz,?_,?_⟩
   ·rw[<-ame,hh];refine jC.weaken λq hq=>?_;rcases hq with hq|⟨j,⟨q1,q2,q3⟩,q4⟩;·exact .inl hq
    ·exact .inr ⟨j,⟨q1,zzz,q3⟩,q4⟩
   ·intro j o d h1 h2 hj hx cw hd;by_cases V2:j=p+k;·subst V2;rw[ho] at hj;cases hj;exact absurd ⟨hx,cw⟩ jk
    ·exact nZ j o d h1 zzz hj hx cw hd
  cases hx:X (p+k) with
  |false=>
   rw[hx] at aC;exact same aC.2.2.2.2 (by simp[hx])
  |true=>
   rw[hx] at aC;have hn:=aF (p+k) _ zzz zzz ho hx;cases cw:kd P ops[p+k]<;>rw[cw] at aC;·exact same aC.2.2.2.2 (by simp[cw])
   ·exact same aC.2.2.2.2 (by simp[cw])
   ·obtain⟨hA,_,_,_⟩:=aC;have hS:=hn.2 cw;have hpd:my P ops X S (p+k) (p+k):=⟨hS,aaC _,hx,_,ho,cw⟩;have ahO:my P ops X S p (p+k):=⟨hS,zzz,hx,_,ho,cw⟩;obtain⟨g1,g2,g3⟩:=I.Rp _ ahO;obtain⟨ob,val,MR,ML,apt⟩:=g3 _ ho;obtain⟨ao,nn,cO,eT,jh⟩:=ML _ _ _ _ e1 hA jC.N;have Q8:∀j oj,(HH (p+k)).h.get j=some oj->e1.b j≠cj (p+k):=by
     intro j oj hj hq;obtain⟨a1,ob,b1,c1,d1⟩:=jC.obj j oj hj;by_cases hjG:e1.n P.globals.size<=e1.b j;·exact d1 (.inr hjG) (.inr ⟨p+k,hpd,hq.symm⟩)
     ·have:=(uz.2 _ I.rh.nL.2.1).2.2;omega
    obtain⟨_,qK⟩:=jC.OK (F':=λq=>F q\/∃j,my P ops X S (p+(k+1)) j/\cj j=q) cO MR Q8 eT (by
     intro q hq;rcases hq with hq|⟨j,⟨q1,q2,q3⟩,q4⟩;·exact⟨.inl hq,λr=>g2 (r▸hq)⟩
     ·refine⟨.inr ⟨j,⟨q1,zzz,q3⟩,q4⟩,λr=>?_⟩;have:=I.OW j (p+k) ⟨q1,zzz,q3⟩ ahO (q4.trans r);omega)
    refine⟨_,Em.le_trans uz (Em.rp ..),by rw[<-ame];exact qK,?_⟩;intro j o d h1 h2 hj xI tU hd;by_cases V2:j=p+k;·subst V2;rw[ho] at hj;cases hj;rw[apt d hd];exact jh
    ·exact (nZ j o d h1 zzz hj xI tU hd).mono (Em.rp ..)
   ·exact absurd cw hn.1
end
end
end
section
variable {F:Nat->Prop}{G:Nat}{H:Hp}{W w:World}{a:Act}{dst:Option Tmp}{e:Em}
theorem RH.push (h:RH G F W e H w)(ob:Obj):
  RH G (λk=>F k\/k=w.heap.size) {w with heap:=w.heap.push ob} e H {w with heap:=w.heap.push ob}:=by
 refine⟨h.N,?_,h.inj,h.ub,?_,rfl,rfl,rfl,aaC _,by obtain⟨g1,g2,g3⟩:=h.nL;simp;omega⟩
 ·intro i o ho;obtain⟨a,rM,b,c,d⟩:=h.obj i o ho;have aQ:=(adh.1 b).1;refine⟨a,rM,?_,c,λhw hk=>?_⟩;·simp only;rw[amr,zz1 zzz];exact b
  ·rcases hk with hk|hk;·exact d hw hk
   ·omega
 ·intro k hk;refine⟨?_,rfl⟩;rcases hk with hk|hk;·have:=(h.frame k hk).1;simp;omega
  ·simp;omega
theorem Vz {v:Value}{n:Nat}(hn:n<=a.tmps.size)(hd:∀d,dst=some d->d<n)(d:Tmp):(a.put dst v).tmps.getD d undef=if dst=some d then v else a.tmps.getD d undef:=by
 cases dst with
 |none=>simp[Act.put]|some x=>
  simp only[Act.put];have hx0:x<a.tmps.size:=aec (hd x rfl) hn;rw[afs hx0];by_cases hx:d=x;·subst hx;simp
  ·rw[zz1 hx,zz1 (λq=>hx (ac0 q).symm)]
theorem Um {v:Value}:(a.put dst v).tmps.size=a.tmps.size:=by cases dst<;>simp[Act.put]
theorem Ya {v:Value}:(a.put dst v).defers=a.defers:=by cases dst<;>rfl
end
section
variable {P:Program}{cf:CF}{n:Nat}{ops:Array Oper}{B:List Nat}{t0:Tm}{H0:Hp}{TP TE:Nat->Tm}{HB HH:Nat->Hp}{V:Nat->AV}{X:Nat->Bool}
 {F:Nat->Prop} {W:World} {e0:Em} {ds:List Deferred} {S:Nat->Prop} {p:Nat} {e:Em} {a:Act} {w:World} {cj:Nat->Nat}
section
variable {e':Em}{i:Nat}{o:Oper}{ob:Obj}{v':Value}{w':World}
theorem rL.lt (R:rL P cf n ops B t0 H0 TP TE HB HH V X)(ho:ops[i]?=some o):∀d,o.dst=some d->d<n:=λd hd=>am4 (R.bZ ho).2 hd
theorem Inv.quiet (R:rL P cf n ops B t0 H0 TP TE HB HH V X)(I:Inv P n ops B t0 HB HH V X F W e0 ds S p e a w cj)(ho:ops[i]?=some o)(hS:¬S i)
  (hr:∀j,(B.getD i 0).testBit j=true->S j) (hk:X i=true->kd P o ≠ .late/\kd P o ≠ .dG)
  (he:e.le e') (hR:RH P.globals.size (λk=>F k\/∃j,my P ops X S p j/\cj j=k) w e' (HB p) w') (hv:VR e' (V i) v'):
  Inv P n ops B t0 HB HH V X F W e0 ds (λj=>S j\/j=i) p e' (a.put o.dst v') w' cj:=by
 have qu:∀j,my P ops X (λj=>S j\/j=i) p j↔my P ops X S p j:=by
  intro j;constructor
  ·rintro⟨q1|q1,q2,q3,o2,q4,q5⟩;·exact⟨q1,q2,q3,o2,q4,q5⟩
   ·subst q1;rw[ho] at q4;cases q4;exact absurd q5 (hk q3).1
  ·rintro⟨q1,q2⟩;exact⟨.inl q1,q2⟩
 have aF:∀j o2 d,ops[j]?=some o2->o2.dst=some d->j≠i->o.dst≠some d:=λj o2 d h1 h2 h3 h4=>h3 (R.form.one j i o2 o d h1 ho h2 h4);have gj:=λd=>Vz (a:=a) (dst:=o.dst) (v:=v') I.Gb (R.lt ho) d;refine⟨I.pN,I.ph,I.pe,?_,?_,?_,?_,hR.os.trans I.os,hR.tape.trans I.tape,hR.output.trans I.output,ahc I.size hR.size,?_,?_,?_,?_,by rw[Um];exact I.Gb,Em.le_trans I.le he,by rw[Ya];exact I.defers⟩
 ·intro i' j h1 h2;rcases h1 with h1|h1;·exact .inl (I.down i' j h1 h2)
  ·subst h1;exact .inl (hr j h2)
 ·intro i' o' h1 h2 h3;rw[<-I.dG i' o' h1 h2 h3];constructor
  ·rintro (q|q);·exact q
   ·subst q;rw[ho] at h1;cases h1;exact absurd h3 (hk h2).2
  ·exact .inl
 ·refine (hR.weaken λk hk=>?_).N4;rcases hk with hk|⟨j,h1,h2⟩;·exact .inl hk
  ·exact .inr ⟨j,(qu j).1 h1,h2⟩
 ·intro k hk;exact (hR.frame k (.inl hk)).2.trans (I.frame k hk)
 ·intro j hj;have kX:=(qu j).1 hj;obtain⟨g1,g2,g3⟩:=I.Rp j kX;refine⟨by rw[(he.2 _ I.rh.nL.2.1).2.2];exact g1,g2,λo2 h1=>?_⟩;obtain⟨ob,val,q3,q2,q4⟩:=g3 o2 h1;refine⟨ob,val,?_,q2,λd hd=>?_⟩;·rw[(hR.frame (cj j) (.inr ⟨j,kX,rfl⟩)).2];exact q3
  ·rw[gj,zz1 (aF j o2 d h1 hd (λq=>hS (q▸kX.1)))];exact q4 d hd
 ·intro x y hx hy;exact I.OW x y ((qu x).1 hx) ((qu y).1 hy)
 ·intro j o2 d h1 h2 h3 h4;rw[gj];rcases h2 with h2|h2;·rw[zz1 (aF j o2 d h1 h3 (λq=>hS (q▸h2)))];exact (I.val j o2 d h1 h2 h3 (λq=>h4 ((qu j).2 q))).mono he
  ·subst h2;rw[ho] at h1;cases h1;rw[zz2 h3];exact hv
 ·intro d hd;rw[gj,zz1 (hd i o ho (.inr rfl))];exact (I.Jj d λj o2 h1 h2=>hd j o2 h1 (.inl h2)).mono he
theorem Inv.late (R:rL P cf n ops B t0 H0 TP TE HB HH V X)(I:Inv P n ops B t0 HB HH V X F W e0 ds S p e a w cj)(ho:ops[i]?=some o)(hS:¬S i)
  (hr:∀j,(B.getD i 0).testBit j=true->S j) (hX:X i=true) (cw:kd P o=.late) (vE:p<=i) {val:Value} {dr:Nat} (ML:Xo P o w.heap.size ob val):
  Inv P n ops B t0 HB HH V X F W e0 ds (λj=>S j\/j=i) p e (a.put o.dst val) {w with drawn:=dr,heap:=w.heap.push ob} (λj=>if j=i then w.heap.size else cj j):=by
 have qu:∀j,my P ops X (λj=>S j\/j=i) p j↔(my P ops X S p j\/j=i):=by
  intro j;constructor
  ·rintro⟨q1|q1,q2⟩;·exact .inl ⟨q1,q2⟩
   ·exact .inr q1
  ·rintro (⟨q1,q2⟩|q);·exact⟨.inl q1,q2⟩
   ·subst q;exact⟨.inr rfl,vE,hX,o,ho,cw⟩
 have aF:∀j o2 d,ops[j]?=some o2->o2.dst=some d->j≠i->o.dst≠some d:=λj o2 d h1 h2 h3 h4=>h3 (R.form.one j i o2 o d h1 ho h2 h4);have gj:=λd=>Vz (a:=a) (dst:=o.dst) (v:=val) I.Gb (R.lt ho) d;have aQ:∀j,my P ops X S p j->cj j<w.heap.size:=λj hj=>(I.rh.frame (cj j) (.inr ⟨j,hj,rfl⟩)).1;have yg:∀j,my P ops X S p j->j≠i:=λj hj q=>hS (q▸hj.1);refine⟨I.pN,I.ph,I.pe,?_,?_,?_,?_,I.os,I.tape,I.output,by simp;have:=I.size;omega,?_,?_,?_,?_,by rw[Um];exact I.Gb,I.le,by rw[Ya];exact I.defers⟩
 ·intro i' j h1 h2;rcases h1 with h1|h1;·exact .inl (I.down i' j h1 h2)
  ·subst h1;exact .inl (hr j h2)
 ·intro i' o' h1 h2 h3;rw[<-I.dG i' o' h1 h2 h3];constructor
  ·rintro (q|q);·exact q
   ·subst q;rw[ho] at h1;cases h1;rw[cw] at h3;cases h3
  ·exact .inl
 ·refine ((I.rh.push ob).drawn dr).N4.weaken λk hk=>?_;rcases hk with hk|⟨j,h1,h2⟩;·exact .inl (.inl hk)
  ·rcases (qu j).1 h1 with q|q;·rw[zz1 (yg j q)] at h2;exact .inl (.inr ⟨j,q,h2⟩)
   ·rw[zz2 q] at h2;exact .inr h2.symm
 ·intro k hk;have:=(I.rh.frame k (.inl hk)).1;simp only;rw[amr,zz1 zzz];exact I.frame k hk
 ·intro j hj;rcases (qu j).1 hj with q|q
  ·obtain⟨g1,g2,g3⟩:=I.Rp j q;rw[zz1 (yg j q)];refine⟨g1,g2,λo2 h1=>?_⟩;obtain⟨rM,awp,q3,q2,q4⟩:=g3 o2 h1;refine⟨rM,awp,?_,q2,λd hd=>?_⟩;·simp only;rw[amr,zz1 (by have:=aQ j q;omega)];exact q3
   ·rw[gj,zz1 (aF j o2 d h1 hd (yg j q))];exact q4 d hd
  ·rw[zz2 q];subst q;refine⟨I.rh.nL.2.2,λhF=>?_,λo2 h1=>?_⟩;·have:=(I.rh.frame _ (.inl hF)).1;omega
   ·rw[ho] at h1;cases h1;refine⟨ob,val,zzy,ML,λd hd=>?_⟩;rw[gj,zz2 hd]
 ·intro x y hx hy Qi;rcases (qu x).1 hx with qx|qx<;>rcases (qu y).1 hy with qy|qy;·rw[zz1 (yg x qx),zz1 (yg y qy)] at Qi;exact I.OW x y qx qy Qi
  ·rw[zz1 (yg x qx),zz2 qy] at Qi;have:=aQ x qx;omega
  ·rw[zz2 qx,zz1 (yg y qy)] at Qi;have:=aQ y qy;omega
  ·rw[qx,qy]
 ·intro j o2 d h1 h2 h3 h4;rw[gj];rcases h2 with h2|h2;·rw[zz1 (aF j o2 d h1 h3 (λq=>hS (q▸h2)))];exact I.val j o2 d h1 h2 h3 (λq=>h4 ((qu j).2 (.inl q)))
  ·exact absurd ((qu j).2 (.inr h2)) h4
 ·intro d hd;rw[gj,zz1 (hd i o ho (.inr rfl))];exact I.Jj d λj o2 h1 h2=>hd j o2 h1 (.inl h2)
theorem Inv.effect (R:rL P cf n ops B t0 H0 TP TE HB HH V X)(I:Inv P n ops B t0 HB HH V X F W e0 ds S p e a w cj)(ho:ops[i]?=some o)(hS:¬S i)
  (hr:∀j,(B.getD i 0).testBit j=true->S j) (hX:X i=true) (cw:kd P o=.dG) (vE:p<=i) {e1:Em}
  (uz:e.le e1) (XV:∀j o d,p<=j->j<i->ops[j]?=some o->X j=true->kd P o=.late->o.dst=some d->VR e1 (V j) (a.tmps.getD d undef))
  (he:e1.le e') (hR:RH P.globals.size (λk=>F k\/∃j,my P ops X S i j/\cj j=k) w e' (HH (i+1)) w') (hv:VR e' (V i) v'):
  Inv P n ops B t0 HB HH V X F W e0 ds (λj=>S j\/j=i) (i+1) e' (a.put o.dst v') w' cj:=by
 have hi:i<ops.size:=(adh.1 ho).1;have qu:∀j,my P ops X (λj=>S j\/j=i) (i+1) j->my P ops X S i j/\my P ops X S p j/\j≠i:=by
  rintro j ⟨q1,q2,q3⟩;rcases q1 with q1|q1;·exact⟨⟨q1,zzz,q3⟩,⟨q1,zzz,q3⟩,zzz⟩
  ·omega
 have aF:∀j o2 d,ops[j]?=some o2->o2.dst=some d->j≠i->o.dst≠some d:=λj o2 d h1 h2 h3 h4=>h3 (R.form.one j i o2 o d h1 ho h2 h4);have gj:=λd=>Vz (a:=a) (dst:=o.dst) (v:=v') I.Gb (R.lt ho) d;have Yn:HB (i+1)=HH (i+1):=by obtain⟨_,h⟩:=R.step i o ho;rw[hX,cw] at h;exact h.2.2.2
 refine⟨zzz,Yn.symm,.inr ⟨i,o,rfl,ho,hX,cw⟩,?_,?_,?_,?_,hR.os.trans I.os,hR.tape.trans I.tape,hR.output.trans I.output,ahc I.size hR.size,?_,?_,?_,?_,by rw[Um];exact I.Gb,Em.le_trans I.le (Em.le_trans uz he),by rw[Ya];exact I.defers⟩
 ·intro i' j h1 h2;rcases h1 with h1|h1;·exact .inl (I.down i' j h1 h2)
  ·subst h1;exact .inl (hr j h2)
 ·intro i' o' h1 h2 h3;constructor
  ·rintro (q|q);·have:=(I.dG i' o' h1 h2 h3).1 q;omega
   ·omega
  ·intro q;by_cases Gr:i'=i;·exact .inr Gr
   ·exact .inl (hr i' (R.d1 i o ho hX cw i' o' h1 h2 (.inl h3) zzz))
 ·rw[Yn];refine (hR.weaken λk hk=>?_).N4;rcases hk with hk|⟨j,h1,h2⟩;·exact .inl hk
  ·exact .inr ⟨j,(qu j h1).1,h2⟩
 ·intro k hk;exact (hR.frame k (.inl hk)).2.trans (I.frame k hk)
 ·intro j hj;obtain⟨SX,SH,hj3⟩:=qu j hj;obtain⟨g1,g2,g3⟩:=I.Rp j SH;refine⟨by rw[((Em.le_trans uz he).2 _ I.rh.nL.2.1).2.2];exact g1,g2,λo2 h1=>?_⟩;obtain⟨ob,val,q3,q2,q4⟩:=g3 o2 h1;refine⟨ob,val,?_,q2,λd hd=>?_⟩;·rw[(hR.frame (cj j) (.inr ⟨j,SX,rfl⟩)).2];exact q3
  ·rw[gj,zz1 (aF j o2 d h1 hd hj3)];exact q4 d hd
 ·intro x y hx hy;exact I.OW x y (qu x hx).2.1 (qu y hy).2.1
 ·intro j o2 d h1 h2 h3 h4;rw[gj];rcases h2 with h2|h2
  ·have ya:j≠i:=λq=>hS (q▸h2);rw[zz1 (aF j o2 d h1 h3 ya)];by_cases hp:my P ops X S p j
   ·obtain⟨q1,q2,q3,o3,q4,q5⟩:=hp;rw[h1] at q4;cases q4;by_cases aQ:j<i;·exact (XV j o2 d q2 aQ h1 q3 q5 h3).mono he
    ·exact absurd ⟨.inl q1,zzz,q3,o2,h1,q5⟩ h4
   ·exact ((I.val j o2 d h1 h2 h3 hp).mono uz).mono he
  ·subst h2;rw[ho] at h1;cases h1;rw[zz2 h3];exact hv
 ·intro d hd;rw[gj,zz1 (hd i o ho (.inr rfl))];exact ((I.Jj d λj o2 h1 h2=>hd j o2 h1 (.inl h2)).mono uz).mono he
end
end
end
theorem akJ {α:Type}{p q:α->Bool}(h:∀x,p x=true->q x=true){a:α}(hq:q a=true)(hp:p a=false):∀l:List α,a∈l->l.countP p<l.countP q
 |b::l,hm=>by
  have hle:∀l:List α,l.countP p<=l.countP q:=λl=>List.countP_mono_left λx _=>h x;rcases aar.1 hm with rfl|hm;·rw[List.countP_cons_of_neg (by simp[hp]),List.countP_cons_of_pos hq];have:=hle l;omega
  ·have:=akJ h hq hp l hm;rw[aoQ,aoQ];by_cases hb:p b=true;·rw[zz2 hb,zz2 (h b hb)];omega
   ·rw[zz1 hb];omega
theorem awe {P:Program}{o:Oper}{a:Act}{w:World}{t:Tm}{H H':Hp}{v:AV}(cw:kd P o=.late)(hA:jx P (ev P.globals.size t) o H=some (v,H')):
  ∃ob val dr,(execOp a.eval o).run P w=.ok (.value val) {w with drawn:=dr,heap:=w.heap.push ob}/\Xo P o w.heap.size ob val:=by
 rcases ana cw with⟨ty,aR⟩|⟨ty,ca,cb,aR⟩|⟨x,y,cv,el,aR,hx,hy⟩
 ·unfold jx at hA;rw[aR] at hA;simp only at hA;split at hA
  ·rename_i l hl;obtain⟨inf,z,jL,hz,_⟩:=BD (e:=⟨id,λ_=>0,id,0⟩) hl;refine⟨.cells z.cells ty (0,0),.pointer (some ⟨w.heap.size,0,none⟩),w.drawn,?_,?_⟩;·unfold execOp;rw[aR];simp[Instr.alloc,uQ jL hz,newVar,newRow]
   ·intro t2 H2 wM v2 e bA hN;unfold jx at bA;rw[aR] at bA;simp only[hl,aal,acC] at bA;obtain⟨⟨id,H3⟩,cu,rfl,rfl⟩:=bA;obtain⟨hlen,cO⟩:=QY cu;obtain⟨afx,z2,FJ,Aj,Ix⟩:=BD (e:=e) hl;rw[jL] at FJ;cases FJ;rw[hz] at Aj;cases Aj;have B8:id=e.N:=(Al cO).1.trans hN.symm;subst B8;exact⟨_,_,cO,akj Ix hlen,.alq (Em.pj ..) (by simp[Em.ext]) (Em.po ..)⟩
  ·cases hA
 ·have CX:∀(t2:Tm) (H2 wM:Hp) (v2:AV),jx P (ev P.globals.size t2) o H2=some (v2,wM)->zr P ty ((kK ca).getD .du) ((kK cb).getD .du) H2=some (v2,wM):=by intro t2 H2 wM v2 h;unfold jx at h;rw[aR] at h;exact h
  have br:=CX t H H' v hA;have Bv:∃k1 n,(kK ca).getD .du=.int k1 n:=by
   unfold zr at br;split at br;·rename_i q _;exact⟨_,_,q⟩
   ·cases br
  have Qo:∃k2 m,(kK cb).getD .du=.int k2 m:=by
   unfold zr at br;split at br;·rename_i _ q;exact⟨_,_,q⟩
   ·cases br
  obtain⟨k1,n,ha⟩:=Bv;obtain⟨k2,m,hb⟩:=Qo;have vA:ca=.int k1 n:=by
   cases h:kK ca with
   |none=>rw[h] at ha;cases ha
   |some u=>rw[h] at ha;have q:u=.int k1 n:=ha;subst q;exact (VR.kK (e:=⟨id,λ_=>0,id,0⟩) h).gV
  have vB:cb=.int k2 m:=by
   cases h:kK cb with
   |none=>rw[h] at hb;cases hb
   |some u=>rw[h] at hb;have q:u=.int k2 m:=hb;subst q;exact (VR.kK (e:=⟨id,λ_=>0,id,0⟩) h).gV
  rw[ha,hb] at br;obtain⟨el,s,z,row,hu,hs,hz,HK,hle,hlen,mg⟩:=run_makeSlice br w;refine⟨.cells row.toArray el (0,0),.slice (some ⟨w.heap.size,0,none⟩) n.toNat m.toNat,w.drawn,?_,?_⟩
  ·unfold execOp;rw[aR,vA,vB];have h2:(do Pure.pure (Next.value (<-Instr.makeSlice ty (.int k1 n) (.int k2 m))):Sem Next).run P w=.ok (.value (.slice (some ⟨w.heap.size,0,none⟩) n.toNat m.toNat)) {w with heap:=w.heap.push (.cells row.toArray el (0,0))}:=by rw[Sem.run_bind,mg];rfl
   exact h2
  ·intro t2 H2 wM v2 e bA hN;have iQ:=CX t2 H2 wM v2 bA;rw[ha,hb] at iQ;unfold zr at iQ;simp only[hu,hs] at iQ;split at iQ;·rw[hz] at iQ;simp only[aal,acC] at iQ;obtain⟨⟨id,H3⟩,cu,rfl,rfl⟩:=iQ;obtain⟨qb,cO⟩:=QY cu;have B8:id=e.N:=(Al cO).1.trans hN.symm;subst B8;have eT:=akj (cs:=row.toArray) (b:=w.heap.size) (el:=el) (by simpa using HK e) qb;refine⟨_,_,cO,eT,?_⟩;have jf:(e.ext w.heap.size 0 row.toArray.size).b e.N=w.heap.size:=Em.pj ..;have hv:=VR.slice (e:=e.ext w.heap.size 0 row.toArray.size) e.N 0 n.toNat m.toNat true s 0 m.toNat (ai9 e.N) (by rw[Em.po];rfl) hle (aaC _) (λ_=>rfl) (by rw[Em.Ag];simp[hlen]);rw[jf] at hv;exact hv
   ·cases iQ
 ·have aht:∀(t2:Tm) (H2 wM:Hp) (v2:AV),jx P (ev P.globals.size t2) o H2=some (v2,wM)->kD P x y ((kK cv).getD .du) H2=some (v2,wM):=by intro t2 H2 wM v2 h;unfold jx at h;rw[aR] at h;exact h
  have br:=aht t H H' v hA;unfold kD at br;rw[hx,hy] at br;cases hc:(kK cv).getD .du with
  |str s=>
   rw[hc] at br;simp only at br;have hof:kK cv=some (.str s):=by
    cases h:kK cv with
    |none=>rw[h] at hc;cases hc
    |some u=>rw[h] at hc;exact congrArg some hc
   obtain⟨s',za,Zg⟩:=(VR.kK (e:=⟨id,λ_=>0,id,0⟩) hof).nD;split at br
   ·rename_i qq;refine⟨.cells (xu w el s').toArray el (pC w el s',pC w el s'+1),.slice (some ⟨w.heap.size,0,none⟩) s'.size (pC w el s'),w.drawn+1,?_,?_⟩
    ·unfold execOp;rw[aR];have h1:(convert x y cv).run P w=(Conv.stringToBytes el s').run P w:=by rw[Zg];simp[convert,aL hx,aL hy,aL qq]
     have h2:(do Pure.pure (Next.value (<-convert x y cv)):Sem Next).run P w=.ok (.value (.slice (some ⟨w.heap.size,0,none⟩) s'.size (pC w el s'))) {w with drawn:=w.drawn+1,heap:=w.heap.push (.cells (xu w el s').toArray el (pC w el s',pC w el s'+1))}:=by rw[Sem.run_bind,h1,afA];rfl
     exact h2
    ·intro t2 H2 wM v2 e bA hN;have iQ:=aht t2 H2 wM v2 bA;unfold kD at iQ;rw[hx,hy,hc] at iQ;simp only[qq] at iQ;split at iQ
     ·rename_i i H3 cu;cases iQ;obtain⟨hlen,cO⟩:=QY cu;have B8:i=e.N:=(Al cO).1.trans hN.symm;subst B8;have fI:=Xg w el s';have hle:=Qx w el s';rw[za] at cO cu hlen⊢;refine⟨_,(xu w el s').length,cO,?_,?_⟩
      ·refine .cells _ _ _ _ _ _ (pC w el s',pC w el s'+1) (by rw[Em.Ag];simp) ?_ zzy ?_ (λ_=>Em.po ..);·intro k u _ hk hg;rw[Tr.IB .nil _ _ _ _ zzz] at hg;rw[zz2 ⟨zzz,zzz⟩,aij] at hg;obtain⟨v',bS,hr⟩:=(abX e s').get hg;refine⟨k,by rw[Em.po];omega,v',?_,hr.mono (Em.rp ..)⟩;have jZ:k<(s'.data.toList.map λb=>Value.int .u8 b.toNat).length:=(aak.1 bS).1;simp only[agm,xu];rw[abE jZ];exact bS
       ·intro _ k hk;have qV:k<(xu w el s').length:=by simpa using hk
        rw[fI] at qV;simp;omega
      ·have jf:(e.ext w.heap.size 0 (xu w el s').length).b e.N=w.heap.size:=Em.pj ..;have hv:=VR.slice (e:=e.ext w.heap.size 0 (xu w el s').length) e.N 0 s'.size s'.size false 1 0 (pC w el s') (ai9 e.N) (by rw[Em.po];rfl) hle hle zzy (by rw[Em.Ag,fI];omega);rw[jf] at hv;rw[Au];exact hv
     ·cases iQ
   ·cases br
  |_=>rw[hc] at br;first|(simp only at br;cases br;done)|(cases br;done)|(simp at br;done)
section
variable {P:Program}{cf:CF}{n:Nat}{ops:Array Oper}{B:List Nat}{t0:Tm}{H0:Hp}{TP TE:Nat->Tm}{HB HH:Nat->Hp}{V:Nat->AV}{X:Nat->Bool}
 {F:Nat->Prop} {W:World} {e0:Em} {ds:List Deferred} {S:Nat->Prop} {p:Nat} {e:Em} {a:Act} {w:World} {cj:Nat->Nat}
theorem Inv.congr {S':Nat->Prop}(I:Inv P n ops B t0 HB HH V X F W e0 ds S p e a w cj)(h:∀j,S j↔S' j):Inv P n ops B t0 HB HH V X F W e0 ds S' p e a w cj:=by have:S=S':=funext λj=>propext (h j);rw[<-this];exact I
theorem Inv.final (R:rL P cf n ops B t0 H0 TP TE HB HH V X)(I:Inv P n ops B t0 HB HH V X F W e0 ds S p e a w cj)(mn:∀j,j<ops.size->S j)(hS:∀j,S j->j<ops.size):
  ∃e',e0.le e'/\RH P.globals.size F W e' (HH ops.size) w/\TR e' n (TE ops.size) a/\a.defers=ds:=by
 obtain⟨k,hk⟩:∃k,ops.size=p+k:=⟨ops.size-p,by have:=I.pN;omega⟩;obtain⟨e',he,hr,hv⟩:=I.OK R k zzz λj o h1 h2 h3 h4=>⟨λh5=>by have:=(I.dG j o h3 h4 h5).1 (mn j zzz);omega,λ_=>mn j zzz⟩;rw[<-hk] at hr hv;refine⟨e',Em.le_trans I.le he,?_,⟨I.Gb,λd=>?_⟩,I.defers⟩;·have hw:=hr.weaken (F':=F) λq hq=>.inl hq;exact hw.WS (λq hq=>⟨(hw.frame q hq).1,I.frame q hq⟩) (λi o ho ZM hq=>(hw.obj i o ho).2.choose_spec.2.2 ZM hq) I.os I.tape I.output I.size
 ·obtain⟨v1,v2⟩:=R.aI ops.size (aaC _) d;by_cases hex:∃j o',j<ops.size/\ops[j]?=some o'/\o'.dst=some d
  ·obtain⟨j,o',hj,iJ,gh⟩:=hex;rw[(v1 j o' hj iJ gh).2,ahr];by_cases hp:my P ops X S p j;·obtain⟨q1,q2,q3,o3,q4,q5⟩:=hp;rw[iJ] at q4;cases q4;exact hv j o' d q2 hj iJ q3 q5 gh
   ·exact (I.val j o' d iJ (mn j hj) gh hp).mono he
  ·rw[(v2 λj o' hj iJ gh=>hex ⟨j,o',hj,iJ,gh⟩).2];exact (I.Jj d λj o' iJ vU gh=>hex ⟨j,o',hS j vU,iJ,gh⟩).mono he
theorem apK (iM:xm P cf)(R:rL P cf n ops B t0 H0 TP TE HB HH V X){Q:Exit->Act->World->Prop}
  (hQ:∀e' a' w',e0.le e'->RH P.globals.size F W e' (HH ops.size) w'->TR e' n (TE ops.size) a'->a'.defers=ds->Q .normal a' w'):
  ∀(fuel:Nat) (listed:Array Bool) (p:Nat) (e:Em) (a:Act) (w:World) (cj:Nat->Nat),listed.size=ops.size->
   Inv P n ops B t0 HB HH V X F W e0 ds (λj=>listed.getD j false=true) p e a w cj->(List.range ops.size).countP (λj=>!(listed.getD j false))<=fuel->
   wpAny P .any ops Q fuel listed a w:=by
 have ep:∀(listed:Array Bool) (j:Nat),listed.size=ops.size->(listed.getD j true=false↔j<ops.size/\¬listed.getD j false=true):=by
  intro listed j hs;simp only[ahi];by_cases hj:j<listed.size;·rw[aip hj];simp;omega
  ·rw[Array.getElem?_eq_none zzz];simp;omega
 have Ct:∀(listed:Array Bool),listed.size=ops.size->∀j,listed.getD j false=true->j<ops.size:=by
  intro listed hs j hj;rcases amY j listed.size with q|q;·omega
  ·rw[ahi,Array.getElem?_eq_none q] at hj;cases hj
 have finish:∀(listed:Array Bool) (p:Nat) (e:Em) (a:Act) (w:World) (cj:Nat->Nat),listed.size=ops.size->Inv P n ops B t0 HB HH V X F W e0 ds (λj=>listed.getD j false=true) p e a w cj->
   Region.ready .any ops listed=[]->Q .normal a w:=by
  intro listed p e a w cj hs I xU;have mn:∀j,j<ops.size->listed.getD j false=true:=by
   intro j;induction j using Nat.strongRecOn with
   |_ j ih=>
    intro hj;by_cases hl:listed.getD j false=true;·exact hl
    ·exfalso;have:j∈Region.ready .any ops listed:=by rw[mem_ready];refine⟨(ep listed j hs).2 ⟨hj,hl⟩,_,aip hj,λe he hb=>?_⟩;have:=R.form.back j _ (aip hj) e he hb;exact ih e.on this zzz
     rw[xU] at this;cases this
  obtain⟨e',h1,h2,h3,h4⟩:=I.final R mn (Ct listed hs);exact hQ e' a w h1 h2 h3 h4
 intro fuel;induction fuel with
 |zero=>
  intro listed p e a w cj hs I hc;have xU:Region.ready .any ops listed=[]:=by
   cases hq:Region.ready .any ops listed with
   |nil=>rfl|cons j l=>
    exfalso;have hm:j∈Region.ready .any ops listed:=by rw[hq];exact List.mem_cons_self ..
    rw[mem_ready] at hm;obtain⟨h1,h2⟩:=(ep listed j hs).1 hm.1;have:0<(List.range ops.size).countP (λj=>!(listed.getD j false)):=List.countP_pos_iff.2 ⟨j,by simpa using h1,by simpa using h2⟩;omega
  exact⟨xU,finish listed p e a w cj hs I xU⟩
 |succ fuel ih=>
  intro listed p e a w cj hs I hc;refine⟨finish listed p e a w cj hs I,λi hi=>?_⟩;rw[mem_ready] at hi;obtain⟨h0,o,ho,SQ⟩:=hi;obtain⟨aQ,hS⟩:=(ep listed i hs).1 h0;have hr:∀j,(B.getD i 0).testBit j=true->listed.getD j false=true:=by
   intro j hj;obtain⟨ed,h1,h2,h3⟩:=R.form.bit i o ho j hj;have h4:=SQ ed h1 h2;rcases h3 with h3|h3;·rw[h3];exact h4
   ·exact I.down ed.on j h4 h3
  have fO:∀j,(listed.setIfInBounds i true).getD j false=true↔(listed.getD j false=true\/j=i):=by
   intro j;by_cases hj:j=i;·subst hj;simp[ahi,ajQ (show j<listed.size by omega)]
   ·rw[getD_set_ne false (λq=>hj q.symm)];simp[hj]
  have awn:(List.range ops.size).countP (λj=>!((listed.setIfInBounds i true).getD j false))<=fuel:=by
   have:=akJ (p:=λj=>!((listed.setIfInBounds i true).getD j false)) (q:=λj=>!(listed.getD j false)) (a:=i) (by
    intro x hx;cases hq:listed.getD x false with
    |false=>rfl|true=>have:=(fO x).2 (.inl hq);rw[this] at hx;cases hx) (by
    cases hq:listed.getD i false with
    |false=>rfl|true=>exact absurd hq hS) (by rw[(fO i).2 (.inr rfl)];rfl) (List.range ops.size) (by simpa using aQ)
   omega
  have next:∀p' e' a' w' TJ,Inv P n ops B t0 HB HH V X F W e0 ds (λj=>listed.getD j false=true\/j=i) p' e' a' w' TJ->wpAny P .any ops Q fuel (listed.setIfInBounds i true) a' w':=
   λp' e' a' w' TJ I'=>ih _ p' e' a' w' TJ (by simpa using hs) (I'.congr λj=>(fO j).symm) awn
  obtain⟨hw,aC⟩:=R.step i o ho;have hgd:∀d,J8 ops o=some d->VR e (((TP i).get d).getD bP) (a.tmps.getD d undef):=λd hd=>I.read R ho hS hr (by unfold IK;rw[hd];simp);have PU:=O9 (e:=e) (a:=a) hw hgd;have akC:∀x∈o.op.operands.toList,VR e (ev P.globals.size (TP i) x) (a.eval x):=λx hx=>acn I.rh λd hd=>I.read R ho hS hr (aeO (hd▸hx));unfold wpOp;simp only[ho];cases hX:X i with
  |false=>
   rw[hX] at aC PU;rw[PU];simp only[abu,if_false];refine next p e _ w cj (I.quiet R ho hS hr (by rw[hX];simp) e.le_refl I.rh ?_)
   rw[aC.1];exact VR.undef
  |true=>
   rw[hX] at aC PU;rw[PU];simp only[if_true];left;have atw:∀j oj,ops[j]?=some oj->X j=true->kd P oj=.dG->p<=j->j<i->kd P o=.dG->False:=by intro j oj h1 h2 h3 h4 h5 h6;have:=hr j (R.d1 i o ho hX h6 j oj h1 h2 (.inl h3) h5);have:=(I.dG j oj h1 h2 h3).1 this;omega
   cases cw:kd P o<;>rw[cw] at aC
   ·obtain⟨⟨h',aR⟩,_⟩:=aC;have Qh:=aCJ cw aR (HB p);have Xv:u7 P cf (TP i) o (HB p)=some (V i,HB p):=by
     unfold u7;split;·rename_i f args cB hq;unfold kd at cw;rw[hq] at cw;cases cw
     ·exact Qh
    refine LB iM I.rh Xv akC ?_;intro e' v' w' he hR hv;exact next p e' _ w' cj (I.quiet R ho hS hr (λ_=>by rw[cw];simp) he hR hv)
   ·obtain⟨⟨h',aR⟩,_⟩:=aC;have Ik:∃h'',jx P (ev P.globals.size (TP i)) o (HB p)=some (V i,h''):=by
     by_cases vE:p<=i
     ·by_cases hex:∃j oj,p<=j/\j<i/\ops[j]?=some oj/\X j=true/\kd P oj=.dG
      ·have apN:∃j oj,p<=j/\j<i/\ops[j]?=some oj/\X j=true/\kd P oj=.dG/\∀j' se,p<=j'->j'<j->ops[j']?=some se->X j'=true->kd P se ≠ .dG:=by
        obtain⟨j,hj⟩:=hex;induction j using Nat.strongRecOn with
        |_ j ihj=>
         obtain⟨oj,h1,h2,h3,h4,h5⟩:=hj;by_cases hm:∃j' se,p<=j'/\j'<j/\ops[j']?=some se/\X j'=true/\kd P se=.dG;·obtain⟨j',se,g1,g2,g3,g4,g5⟩:=hm;exact ihj j' g2 ⟨se,g1,zzz,g3,g4,g5⟩
         ·exact⟨j,oj,h1,h2,h3,h4,h5,λj' se g1 g2 g3 g4 g5=>hm ⟨j',se,g1,g2,g3,g4,g5⟩⟩
       obtain⟨j,oj,h1,h2,h3,h4,h5,h6⟩:=apN;have XI:HB j=HB p:=by obtain⟨k,rfl⟩:∃k,j=p+k:=⟨j-p,zzz⟩;exact R.ab1 p k zzz λj' se g1 g2 g3 g4=>h6 j' se g1 g2 g3 g4
       rcases R.d3 j oj h3 h4 h5 i o ho hX cw h2 with q|q;·exfalso;have:=(I.dG j oj h3 h4 h5).1 (hr j q);omega
       ·rw[<-XI];exact q
      ·have XI:HB i=HB p:=by obtain⟨k,rfl⟩:∃k,i=p+k:=⟨i-p,zzz⟩;exact R.ab1 p k zzz λj' se g1 g2 g3 g4 g5=>hex ⟨j',se,g1,g2,g3,g4,g5⟩
       rw[<-XI];exact⟨h',aR⟩
     ·have hex:∃j oj,i<j/\j<p/\ops[j]?=some oj/\X j=true/\kd P oj=.dG/\HB (j+1)=HB p:=by
       rcases I.pe with q|⟨j,oj,q1,q2,q3,q4⟩;·omega
       ·refine⟨j,oj,?_,zzz,q2,q3,q4,by rw[q1]⟩;rcases amY i j with q|q;·exact q
        ·have:i=j:=zzz;subst this;rw[ho] at q2;cases q2;rw[cw] at q4;cases q4
      obtain⟨j,oj,h1,h2,h3,h4,h5,h6⟩:=hex;rcases R.d2 j oj h3 h4 h5 i o ho hX cw h1 with q|q;·exfalso;exact hS (I.down j i ((I.dG j oj h3 h4 h5).2 h2) q)
      ·rw[<-h6];exact q
    obtain⟨h'',Qh⟩:=Ik;have nJ:=ajl (.inr cw) Qh;subst nJ;have Xv:u7 P cf (TP i) o (HB p)=some (V i,HB p):=by
     unfold u7;split;·rename_i f args cB hq;unfold kd at cw;rw[hq] at cw;cases cw
     ·exact Qh
    refine LB iM I.rh Xv akC ?_;intro e' v' w' he hR hv;exact next p e' _ w' cj (I.quiet R ho hS hr (λ_=>by rw[cw];simp) he hR hv)
   ·obtain⟨hA,_⟩:=aC;have vE:p<=i:=by
     rcases amY i p with q|q
     ·exfalso;rcases I.pe with r|⟨j,oj,q1,q2,q3,q4⟩;·omega
      ·have ml:i<j:=by
        rcases amY i j with q'|q';·exact q'
        ·have:i=j:=zzz;subst this;rw[ho] at q2;cases q2;rw[cw] at q4;cases q4
       have vU:=(I.dG j oj q2 q3 q4).2 zzz;exact hS (I.down j i vU (R.d1 j oj q2 q3 q4 i o ho hX (.inr cw) ml))
     ·exact q
    obtain⟨ob,val,dr,mg,ML⟩:=awe (a:=a) (w:=w) cw hA;have hI:=I.late R ho hS hr hX cw vE (dr:=dr) ML;unfold Oper.wp;rw[mg];exact next p e _ _ _ hI
   ·obtain⟨aR,_,_,Yn⟩:=aC;have vE:p<=i:=by
     rcases amY i p with q|q;·exact absurd ((I.dG i o ho hX cw).2 q) hS
     ·exact q
    obtain⟨k,hk⟩:∃k,i=p+k:=⟨i-p,zzz⟩;have XV:∀j oj,p<=j->j<i->ops[j]?=some oj->X j=true->kd P oj ≠ .dG/\(kd P oj=.late->listed.getD j false=true):=
     λj oj h1 h2 h3 h4=>⟨λh5=>atw j oj h3 h4 h5 h1 h2 cw,λh5=>hr j (R.d1 i o ho hX cw j oj h3 h4 (.inr h5) h2)⟩
    obtain⟨e1,uz,jC,nZ⟩:=I.OK R k zzz (by rw[<-hk];exact XV);rw[<-hk] at jC nZ;have axB:∀x∈o.op.operands.toList,VR e1 (ev P.globals.size (TE i) x) (a.eval x):=by
     intro x hx;refine acn jC λd hd=>?_;subst hd;have xU:=aeO (ops:=ops) hx;obtain⟨v1,v2⟩:=R.aI i (anW aQ) d;by_cases hex:∃j o',j<i/\ops[j]?=some o'/\o'.dst=some d
     ·obtain⟨j,o',hj,iJ,gh⟩:=hex;rw[(v1 j o' hj iJ gh).2,ahr];have vU:listed.getD j false=true:=by have:=R.form.rd j i o' o d iJ ho gh zzz xU;rw[zz2 hj] at this;exact hr j this
      by_cases hp:my P ops X (λj=>listed.getD j false=true) p j;·obtain⟨q1,q2,q3,o3,q4,q5⟩:=hp;rw[iJ] at q4;cases q4;exact nZ j o' d q2 hj iJ q3 q5 gh
      ·exact (I.val j o' d iJ vU gh hp).mono uz
     ·rw[(v2 λj o' hj iJ gh=>hex ⟨j,o',hj,iJ,gh⟩).2];refine (I.Jj d λj o' iJ vU gh=>?_).mono uz;by_cases ya:j<i;·exact hex ⟨j,o',ya,iJ,gh⟩
      ·by_cases Cr:j=i;·subst Cr;exact hS vU
       ·have:=R.form.rd j i o' o d iJ ho gh Cr xU;rw[zz1 zzz] at this;exact hS (I.down j i vU this)
    refine LB iM jC aR axB ?_;intro e' v' w' he hR hv;exact next (i+1) e' _ w' cj (I.effect R ho hS hr hX cw vE uz nZ he hR hv)
end
end
section
variable {P:Program}{cf:CF}{F:Nat->Prop}{W:World}{e:Em}{H:Hp}{w:World}
section
variable {H H':Hp}{Q:Exit->Act->World->Prop}{a:Act}{args:List AV}{as':Array Value}{c:Code}{fn:Func}{t':Tm}{w:World}
theorem ab2 {s:lD}(h:xg P s H=true):∃h',jx P (ev P.globals.size s.t) s.o H=some (s.v,h'):=by
 unfold xg at h;split at h;·rename_i v' h' hv;rw[aud h];exact⟨h',hv⟩
 ·cases h
theorem ahY (hm:P.follows .mixedOrders=true)(iM:xm P cf){ops:Array Oper}{n id:Nat}{t:Tm}(hd:EP P cf n ops t H=some (t',H'))(hR:RH P.globals.size F W e H w)(hT:TR e n t a)
  (hQ:∀e' a' w',e.le e'->RH P.globals.size F W e' H' w'->TR e' n t' a'->a'.defers=a.defers->Q .normal a' w'):(Code.region id ops true).wp P Q a w:=by
 unfold EP at hd;cases FU:z6 ops with
 |false=>rw[FU] at hd;cases hd
 |true=>
 rw[FU] at hd;simp only[cond_true] at hd;split at hd
 ·rename_i l tF HF mg;cases Mh:E9 P l with
  |false=>rw[Mh] at hd;cases hd
  |true=>
  rw[Mh] at hd;cases hd;have aBW:=axH FU;obtain⟨TP,TE,HB,HH,V,X,q1,q2,q3,q4,q5,q6,q7⟩:=aEl (B:=before ops.toList []) ops.toList (before ops.toList []) 0 t t H H l zzy zzy mg;rw[ad0,amv] at q5 q6;unfold E9 at Mh;rw[aeh] at Mh;have pair:∀i oi,ops[i]?=some oi->X i=true->kd P oi=.dG->∀j oj,ops[j]?=some oj->X j=true->
    ((kd P oj=.dG\/kd P oj=.late)->(!(Nat.blt j i)||((before ops.toList []).getD i 0).testBit j)=true)/\
    (kd P oj = .read->(bif Nat.blt j i then ((before ops.toList []).getD i 0).testBit j||xg P ⟨j,oj,(before ops.toList []).getD j 0,X j,kk P (X j) oj,V j,TP j,HB j,HB (j+1)⟩ (HB (i+1)) else
     ((before ops.toList []).getD j 0).testBit i||xg P ⟨j,oj,(before ops.toList []).getD j 0,X j,kk P (X j) oj,V j,TP j,HB j,HB (j+1)⟩ (HB i))=true):=by
   intro i oi hi hx hk j oj hj xI;have h1:=Mh _ (q7 i oi (abz _) hi).2;simp only[kk,hx,if_true,hk,aeh] at h1;have h2:=h1 _ (q7 j oj (abz _) hj).2;simp only[kk,xI,if_true] at h2⊢;constructor;·intro tU;rcases tU with tU|tU<;>(rw[tU] at h2;exact h2)
   ·intro tU;rw[tU] at h2⊢;exact h2
  have aCj:rL P cf n ops (before ops.toList []) t H TP TE HB HH V X:=by
   refine⟨aBW,q1,q2,q3,q4,λj o ho=>(q7 j o (abz _) ho).1,?_,?_,?_⟩
   ·intro i oi hi hx hk j oj hj xI tU aQ;have:=(pair i oi hi hx hk j oj hj xI).1 tU;have hb:Nat.blt j i=true:=by rw[aeI];exact aQ
    rw[hb] at this;simpa using this
   ·intro i oi hi hx hk j oj hj xI tU aQ;have:=(pair i oi hi hx hk j oj hj xI).2 tU;have hb:Nat.blt j i=true:=by rw[aeI];exact aQ
    rw[hb] at this;simp only[cond_true,ajI] at this;exact this.imp (λq=>q) ab2
   ·intro i oi hi hx hk j oj hj xI tU aQ;have:=(pair i oi hi hx hk j oj hj xI).2 tU;have hb:Nat.blt j i=false:=by
     cases hb:Nat.blt j i;·rfl
     ·rw[aeI] at hb;omega
    rw[hb] at this;simp only[cond_false,ajI] at this;exact this.imp (λq=>q) ab2
  refine wp_region_any hm ?_;have I7:∀j,(Array.replicate ops.size false).getD j false=true->False:=by intro j hj;rw[ahi,Array.getElem?_replicate] at hj;split at hj<;>simp at hj
  have zX:=(hR.drawn (w.drawn+1));refine apK (F:=F) (W:=W) (e0:=e) (ds:=a.defers) iM aCj (by rw[q5,q6];exact hQ) ops.size (Array.replicate ops.size false) 0 e a {w with drawn:=w.drawn+1} (λ_=>0) zzy ?_ (by have:=List.countP_le_length (p:=λj=>!((Array.replicate ops.size false).getD j false)) (l:=List.range ops.size);simpa using this);refine⟨abz _,by rw[q3,q4],.inl rfl,λi j h=>(I7 i h).elim,λi o _ _ _=>⟨λh=>(I7 i h).elim,λh=>zzz⟩,?_,λk hk=>(zX.frame k hk).2,hR.os,hR.tape,hR.output,hR.size,
   λj hj=>(I7 j hj.1).elim,λi j hi=>(I7 i hi.1).elim,λj o d _ h=>(I7 j h).elim,λd _=>hT.val d,hT.size,e.le_refl,rfl⟩
  rw[q3];refine (zX.weaken λk hk=>?_).N4;rcases hk with hk|⟨j,hj,_⟩;·exact hk
  ·exact (I7 j hj.1).elim
 ·cases hd
def Ee (P:Program)(c:Code)(Q:Exit->Act->World->Prop)(a:Act)(w:World):Prop:=
 ∀(b:Frame) (k:List Item) (cs:List Frame),∃e a' w',Q e a' w'/\Arrives P (lone (b.at a (.code c :: .inLoop c::k)) cs w) b k cs e a' w'
theorem ai5 (h:Ee P c Q a w):(Code.loop c).wp P Q a w:=
 λb k cs=>let ⟨e,a',w',q,r⟩:=h b k cs;⟨e,a',w',q,.of_steps (.one step_loop) r⟩
theorem acK (h:c.wp P (Exit.then (Ee P c Q) Q) a w):Ee P c Q a w:=by
 intro b k cs;obtain⟨e,a₁,w₁,hq,HC⟩:=h b (.inLoop c::k) cs;cases e with
 |normal=>
  obtain⟨e₂,a₂,w₂,hq₂,aA2⟩:=hq b k cs;exact⟨e₂,a₂,w₂,hq₂,.of_steps (Steps.trans HC (.one step_inLoop)) aA2⟩
 |exit id=>exact⟨_,a₁,w₁,hq,.pass (x:=.inLoop c) rfl (λ_ _=>.inl zzy) HC⟩|goto l=>exact⟨_,a₁,w₁,hq,.pass (x:=.inLoop c) rfl (λ_ _=>.inl zzy) HC⟩|ret=>exact⟨_,a₁,w₁,hq,.pass (x:=.inLoop c) rfl (λ_ _=>.inl zzy) HC⟩|panic ch=>exact⟨_,a₁,w₁,hq,.pass (x:=.inLoop c) rfl (λ_ _=>.inl zzy) HC⟩|outgrown=>exact⟨_,a₁,w₁,hq,.pass (x:=.inLoop c) rfl (λ_ _=>.inl zzy) HC⟩
def xit:X->Exit
 |.normal=>.normal|.exit i=>.exit i|.ret=>.ret
def COK (P:Program)(run:Nat->Code->Tm->Hp->Option (X×Tm×Hp)):Prop:=
 ∀(n:Nat) (c:Code) (t:Tm) (H:Hp) (x:X) (t':Tm) (H':Hp),run n c t H=some (x,t',H')->
  ∀(F:Nat->Prop) (W:World) (e:Em) (a:Act) (w:World) (Q:Exit->Act->World->Prop),RH P.globals.size F W e H w->TR e n t a->
   (∀e' a' w',e.le e'->RH P.globals.size F W e' H' w'->TR e' n t' a'->a'.defers=a.defers->Q (xit x) a' w')->
   c.wp P Q a w/\∀b,c=.loop b->Ee P b Q a w
theorem aoj (h:RH P.globals.size F W e H w){t:TypeId}{a v:AV}{a':Value}(ha:VR e a a')(hl:vH P H t a=some v):
  ∃ad v',a'=.pointer (some ad)/\(loadVar t ad).run P w=.ok v' w/\VR e v v':=by
 obtain⟨v',h1,h2⟩:=abL h ha hl;unfold vH at hl;split at hl;·obtain⟨o,hi,ho,rfl⟩:=ha.vb;refine⟨_,v',rfl,?_,h2⟩;simpa[Instr.loadAt,Instr.sureAddr] using h1
 ·cases hl
theorem Zb (h:RH P.globals.size F W e H w){n:Nat}{t:Tm}{a:Act}(ht:TR e n t a):∀(l:List ResultVar) (vs:List AV),wY P t H l=some vs->
  ∃ws,(l.mapM (λ(r:ResultVar)=>match r with|.tmp t=>(Pure.pure (a.tmps.getD t undef):Sem Value)|.cell ad ty=>do loadVar ty (<-asAddr (a.tmps.getD ad undef)))).run P w=.ok ws w/\aV e vs ws
 |[],vs,hr=>by cases hr;exact⟨[],zzy,.nil e⟩
 |.tmp x::l,vs,hr=>by
  unfold wY at hr;split at hr;·rename_i l' qn;cases hr;obtain⟨ws,h1,h2⟩:=Zb h ht l l' qn;exact⟨a.tmps.getD x undef::ws,by rw[List.mapM_cons,Sem.run_bind,Sem.run_pure,Result.andThen_ok,Sem.run_bind,h1];rfl,.cons (ht.val x) h2⟩
  ·cases hr
 |.cell ad ty::l,vs,hr=>by
  unfold wY at hr;split at hr
  ·rename_i v l' hv qn;cases hr;obtain⟨ws,h1,h2⟩:=Zb h ht l l' qn;obtain⟨p,v',h3,h4,h5⟩:=aoj h (ht.val ad) hv;refine⟨v'::ws,?_,.cons h5 h2⟩;rw[List.mapM_cons,Sem.run_bind];have:(do loadVar ty (<-asAddr (a.tmps.getD ad undef)):Sem Value).run P w=.ok v' w:=by rw[h3];simp[asAddr,h4]
   rw[this,Result.andThen_ok,Sem.run_bind,h1];rfl
  ·cases hr
theorem Ze (h:RH P.globals.size F W e H w){n:Nat}{t:Tm}(ht:TR e n t a){vs:List AV}(hr:wY P t H fn.results.toList=some vs):
  ∃v,(results fn a.tmps).run P w=.ok v w/\VR e (PH vs) v:=by
 obtain⟨ws,h1,h2⟩:=Zb h ht _ _ hr;have hm:(fn.results.mapM (λ(r:ResultVar)=>match r with|.tmp t=>(Pure.pure (a.tmps.getD t undef):Sem Value)|.cell ad ty=>do loadVar ty (<-asAddr (a.tmps.getD ad undef)))).run P w=.ok ws.toArray w:=by rw[<-Array.toArray_toList (xs:=fn.results),List.mapM_toArray,Sem.run_map,h1];rfl
 unfold results;have nB:(fn.results.mapM fun
  |.tmp t=>Pure.pure (a.tmps.getD t undef)|.cell ad t=>do loadVar t (<-asAddr (a.tmps.getD ad undef)):Sem (Array Value)).run P w=.ok ws.toArray w:=hm
 refine⟨(if h:ws.toArray.size=1 then ws.toArray[0] else .tuple ws.toArray),?_,?_⟩;·rw[Sem.run_bind];exact abG (congrArg (λr:Result (Array Value)=>r.andThen (λvs w'=>(Pure.pure (if h:vs.size=1 then vs[0] else .tuple vs):Sem Value).run P w')) nB) rfl
 ·cases vs with
  |nil=>rw[h2.lH];exact .tuple' (.nil e)|cons v r=>
   obtain⟨v',ws',rfl,hv,dA⟩:=h2.cons_inv;cases r with
   |nil=>rw[dA.lH];exact hv|cons v2 r2=>
    obtain⟨HX,ws2,rfl,vi,qK⟩:=dA.cons_inv;have:¬(v'::HX::ws2).toArray.size=1:=zzy;rw[dif_neg this];exact .tuple' h2
def Lw:Ext->Array Value->Sem Value
 |.same=>Extern.AbiNoEscape.same|.Lm t=>Extern.BytealgMakeNoZero.makeNoZero #[] #[t]|.RJ=>Extern.BytealgIndexByte.indexByte|.count=>Extern.BytealgCount.count
def Aw (P:Program)(ext:Nat->Option Ext):Prop:=
 ∀aU k,ext aU=some k->∀(as':Array Value) (w:World),(callFunc aU as').run P w=(do Pure.pure (Next.value (<-Lw k as')):Sem Next).run P w
def wB (P:Program)(bE:Nat->Option Prim):Prop:=
 ∀aU p,bE aU=some p->∀(args:List AV) (H:Hp) (v:AV) (H':Hp),p args H=some (v,H')->
  ∀(F:Nat->Prop) (W:World) (e:Em) (w:World) (as':Array Value),RH P.globals.size F W e H w->aV e args as'.toList->
   (callFunc aU as').run P w=.ok (.enter aU as') w/\Calls P aU as' w (HP P.globals.size F W e v H')
def qg (P:Program):Prop:=(P.funcs.toList.all λfn=>fn.body.isNone||fn.name != "runtime.NumGoroutine")=true
theorem Aq (hN:qg P){aU:Nat}{b:Code}(hf:P.funcs[aU]?=some fn)(hb:fn.body=some b)(as':Array Value)(w:World):(callFunc aU as').run P w=.ok (.enter aU as') w:=by
 have hn:(fn.name == "runtime.NumGoroutine")=false:=by unfold qg at hN;rw[aeh] at hN;have:=hN fn (by have:=Array.mem_of_getElem? hf;simpa using this);rw[hb] at this;simp at this;simp[this]
 unfold callFunc;rw[Sem.run_bind,run_program,Result.andThen_ok];simp only[hf,hn,abu,if_false,hb,Option.isNone_some];rfl
theorem aet:∀(n t:Nat) (acc:Array Value),(Extern.BytealgMakeNoZero.digits n t acc).size=acc.size+n
 |0,t,acc=>rfl|n+1,t,acc=>by rw[Extern.BytealgMakeNoZero.digits,aet n];simp;omega
theorem ahj (c:UInt8):∀(l:List UInt8) (k:Nat) (q:Nat->Bool),(∀(j:Nat) (h:j<l.length),q (k+j)=(l[j]==c))->(List.range' k l.length).find? q=lg c.toNat (l.map (·.toNat)) k
 |[],k,q,_=>rfl|b::l,k,q,h=>by
  have h0:=h 0 zzy;simp only[ae9,List.getElem_cons_zero] at h0;have e:(b==c)=Nat.beq b.toNat c.toNat:=by rw[an3,Nat.beq_eq];simp[UInt8.toNat_inj]
  rw[aaG,List.range'_succ,List.find?_cons,h0,ab9,lg,e];cases Nat.beq b.toNat c.toNat with
  |true=>rfl|false=>
   simp only[cond_false];refine ahj c l (k+1) q (λj hj=>?_);have:=h (j+1) (by simp;omega);rw[show k+1+j=k+(j+1) by omega,this,List.getElem_cons_succ]
theorem akI (c:UInt8):∀l:List UInt8,Lib.countByte l c=ij c.toNat (l.map (·.toNat))
 |[]=>rfl|b::l=>by
  have e:(b==c)=Nat.beq b.toNat c.toNat:=by rw[an3,Nat.beq_eq];simp[UInt8.toNat_inj]
  have ih:=akI c l;unfold Lib.countByte at ih⊢;rw[List.count_cons,ab9,ij,e,ih];cases Nat.beq b.toNat c.toNat<;>rfl
theorem firstIdx_eq (s:ByteArray)(c:UInt8):firstIdx s c=(match lg c.toNat (bytes s) 0 with|some i=>(i:Int)|none=>-1):=by
 have hs:s.size=s.data.toList.length:=(amv).symm;have h:=ahj c s.data.toList 0 (λi=>s[i]! == c) (λj hj=>by
  have kX:j<s.size:=by rw[hs];exact hj
  simp only[ad0];rw[getElem!_pos s j kX];have e:s[j]=s.data.toList[j]:=by rw[Array.getElem_toList];rfl
  rw[e])
 unfold firstIdx;rw[List.range_eq_range',hs,h];rfl
theorem akF (h:RH P.globals.size F W e H w){k:Ext}{v:AV}(ha:aV e args as'.toList)(hx:Hj P k args H=some (v,H')):
  ∃v' w' e',(Lw k as').run P w=.ok v' w'/\e.le e'/\RH P.globals.size F W e' H' w'/\VR e' v v':=by
 unfold Hj at hx;split at hx;·cases hx;obtain⟨x',r,h1,h2,h3⟩:=ha.cons_inv;rw[h3.lH] at h1;obtain rfl:as'=#[x']:=aes.1 h1;exact⟨x',w,e,rfl,e.le_refl,h,h2⟩
 ·rename_i t n;obtain⟨x',r,h1,h2,h3⟩:=ha.cons_inv;rw[h3.lH] at h1;obtain rfl:as'=#[x']:=aes.1 h1;cases h2.gV;split at hx
  ·rename_i el hu;split at hx
   ·rename_i hn;simp only[aal,acC] at hx;obtain⟨⟨i,H2⟩,cu,rfl,rfl⟩:=hx;let w1:World:={w with drawn:=w.drawn+1};let cap:=(Question.appendCap n.toNat 0 el).cut (w.tape w.drawn (.appendCap n.toNat 0 el));have jr:n.toNat<=cap:=Nat.le_add_right _ _;let bs:=(Question.extern "internal/bytealg.MakeNoZero.bytes" 0).cut (w1.tape w1.drawn (.extern "internal/bytealg.MakeNoZero.bytes" 0));let row:=(Extern.BytealgMakeNoZero.digits cap bs #[]);have HK:row.size=cap:=by rw[aet];simp
    have hl:aV e (List.replicate n.toNat AV.du) (row.toList.take n.toNat):=by
     refine⟨by simp[HK];omega,λj a b hj hb=>?_⟩;rw[anf] at hj;split at hj;·cases hj;exact .du _
     ·cases hj
    obtain⟨e',he,g1,g2,g3,g4,ql⟩:=((h.drawn (w.drawn+1)).drawn (w.drawn+1+1)).newRow (rest:=row.toList.drop n.toNat) (fz:=(0,0)) cu hl (λ_=>rfl) zzy;have auY:(row.toList.take n.toNat++row.toList.drop n.toNat).toArray=row:=by rw[alo]
    have hlen:(row.toList.take n.toNat++row.toList.drop n.toNat).length=cap:=by rw[alo];simp[HK]
    refine⟨.slice (some ⟨w.heap.size,0,none⟩) n.toNat cap,_,e',?_,he,ql,VR.Ey g2 g1 (by rw[g3];simp) jr jr zzy (by rw[g4,hlen];omega)⟩;rw[auY];have ae5:¬(n<0\/n>2^48):=zzz;have aqn:(decide (n<0)||decide (n>2^48))=false:=by simp;omega
    have f1:(Question.appendCap n.toNat 0 el).forced=false:=rfl;have f2:(Question.extern "internal/bytealg.MakeNoZero.bytes" 0).forced=false:=rfl;have Bx:Lw (.Lm t) #[.int .i64 n]=(do
      let some t:=(#[t]:Array TypeId)[0]?|stuck "bytealg.MakeNoZero: no result type"
      let .slice elem <-underlying t|stuck "bytealg.MakeNoZero: slice type expected"
      if n<0||n>2^48 then runtimePanic (.error "makeslice: len out of range")
      let cap <-choose (.appendCap n.toNat 0 elem)
      askRoom cap
      let bytes <-choose (.extern "internal/bytealg.MakeNoZero.bytes" 0)
      let a <-newRow elem (Extern.BytealgMakeNoZero.digits cap bytes #[])
      Pure.pure (.slice (some a) n.toNat cap):Sem Value):=rfl
    rw[Bx];simp only[agm,adW,Sem.run_bind,aL hu,Result.andThen_ok,aqn,abu,if_false,run_choose,f1,f2,run_askRoom,newRow,run_newObj,Sem.run_pure];rfl
   ·cases hx
  ·cases hx
 ·rename_i s n;cases hx;obtain⟨x',r,h1,h2,h3⟩:=ha.cons_inv;obtain⟨y',r2,h4,h5,h6⟩:=h3.cons_inv;rw[h4,h6.lH] at h1;obtain rfl:as'=#[x',y']:=aes.1 h1;cases h5.gV;obtain⟨s',rfl,rfl⟩:=h2.nD;refine⟨_,w,e,run_indexByte_string s' n w,e.le_refl,h,?_⟩;rw[firstIdx_eq];have:(n.toNat.toUInt8).toNat=n.toNat%256:=zzy;rw[this];exact .int .i64 _
 ·rename_i s n;cases hx;obtain⟨x',r,h1,h2,h3⟩:=ha.cons_inv;obtain⟨y',r2,h4,h5,h6⟩:=h3.cons_inv;rw[h4,h6.lH] at h1;obtain rfl:as'=#[x',y']:=aes.1 h1;cases h5.gV;obtain⟨s',rfl,rfl⟩:=h2.nD;refine⟨_,w,e,Lib.run_countString s' n w,e.le_refl,h,?_⟩;have:(n.toNat.toUInt8).toNat=n.toNat%256:=zzy;rw[akI,this];exact .int .i64 _
 ·cases hx
theorem aaB {ext:Nat->Option Ext}{bE:Nat->Option Prim}(hN:qg P)(hE:Aw P ext)(hP:wB P bE){run:Nat->Code->Tm->Hp->Option (X×Tm×Hp)}(mg:COK P run):
  xm P (HN P ext bE run):=by
 intro g args H v H' hc;unfold HN at hc;split at hc
 ·rename_i aU first cap
  refine⟨aU,first,cap,rfl,?_⟩;intro F W e w as' hR nz;split at hc;·rename_i p hp;exact .inr (hP aU p hp _ H v H' hc F W e w as' hR nz)
  ·split at hc
   ·rename_i fn hf;split at hc
    ·rename_i b hb;cases hle:(Nat.ble (first++args++cap).length fn.ntmps&&Nat.blt fn.ntmps 4294967296) with
     |false=>rw[hle] at hc;cases hc
     |true=>
     rw[hle] at hc;simp only[cond_true] at hc;rw[aaA,af1,aeI] at hle;refine .inr ⟨Aq hN hf hb as' w,?_⟩;have hlen:as'.size=(first++args++cap).length:=by have:=nz.1;simpa using this
     have hT:TR e fn.ntmps (Tr.bZ .nil 0 (first++args++cap)) {tmps:=as'++Array.replicate (fn.ntmps-as'.size) undef,defers:=[]}:=by
      refine⟨by simp;omega,λx=>?_⟩;rw[Tr.IB .nil _ _ _ _ zzz];simp only[ad0,abz,true_and,aij];by_cases hx:x<(first++args++cap).length;·rw[zz2 hx];have h1:(first++args++cap)[x]?=some (first++args++cap)[x]:=aap hx;obtain⟨v',h2,h3⟩:=nz.get h1;rw[h1,ahr,ahi,Array.getElem?_append_left zzz,<-aeW,h2];exact h3
      ·rw[zz1 hx];have:(as'++Array.replicate (fn.ntmps-as'.size) undef).getD x undef=undef:=by rw[ahi,Array.getElem?_append_right zzz,Array.getElem?_replicate];split<;>rfl
       simp only[this,Tr.get_nil];exact VR.undef
     have fin:∀(x:X) (t2:Tm) (H2:Hp),run fn.ntmps b (Tr.bZ .nil 0 (first++args++cap)) H=some (x,t2,H2)->(x=.normal\/x=.ret)->(wY P t2 H2 fn.results.toList).map (λl=>(PH l,H2))=some (v,H')->
       Calls P aU as' w (HP P.globals.size F W e v H'):=by
      intro x t2 H2 hr jQ FN;simp only[aal,acC] at FN;obtain⟨vs,u9,rfl,rfl⟩:=FN;refine calls_of_wp hf hb (mg _ _ _ _ _ _ _ hr F W e _ w _ hR hT ?_).1;intro e' a' w' he bg cq hd;obtain⟨u,hu,jh⟩:=Ze bg cq u9;rcases jQ with rfl|rfl;·exact⟨hd,u,hu,e',u,rfl,he,bg,jh⟩
      ·exact⟨hd,u,hu,e',u,rfl,he,bg,jh⟩
     split at hc;·cases hc
     ·rename_i x t2 H2 aF hr;cases x with
      |normal=>exact fin _ t2 H2 hr (.inl rfl) hc|ret=>exact fin _ t2 H2 hr (.inr rfl) hc|exit i=>exact (aF i rfl).elim
     ·cases hc
    ·rename_i hb;split at hc;·rename_i k hk;obtain⟨v',w',e',h1,h2,h3,h4⟩:=akF hR nz hc;refine .inl ⟨v',w',e',?_,h2,h3,h4⟩;rw[hE aU k hk,Sem.run_bind,h1];rfl
     ·cases hc
   ·cases hc
 ·cases hc
theorem awW {ext:Nat->Option Ext}{bE:Nat->Option Prim}(hm:P.follows .mixedOrders=true)(hN:qg P)(hE:Aw P ext)(hP:wB P bE):∀f,COK P (code P ext bE f):=by
 intro f;induction f with
 |zero=>intro n c t H x t' H' h;cases h
 |succ f ih=>
  have iM:xm P (HN P ext bE (code P ext bE f)):=aaB hN hE hP ih;intro n c t H x t' H' hc F W e a w Q hR hT hQ;unfold code at hc;split at hc;·cases hc;exact⟨wp_skip (hQ e a w e.le_refl hR hT rfl),by intro b q;cases q⟩
  ·cases hc;exact⟨wp_label (hQ e a w e.le_refl hR hT rfl),by intro b q;cases q⟩
  ·rename_i c1 c2;refine⟨wp_seq ?_,by intro b q;cases q⟩;split at hc;·rename_i t1 H1 h1;refine (ih _ _ _ _ _ _ _ h1 F W e a w _ hR hT ?_).1;intro e' a' w' he bg cq hd;refine (ih _ _ _ _ _ _ _ hc F W e' a' w' _ bg cq ?_).1;intro e2 a2 w2 FW lT ze vV;exact hQ e2 a2 w2 (Em.le_trans he FW) lT ze (vV.trans hd)
   ·rename_i aF;refine (ih _ _ _ _ _ _ _ hc F W e a w _ hR hT ?_).1;intro e' a' w' he bg cq hd;have:=hQ e' a' w' he bg cq hd;cases x with
    |normal=>exact absurd hc (aF t' H')|exit i=>exact this|ret=>exact this
  ·rename_i cc c1 c2;split at hc
   ·rename_i b hb;have hv:=VR.ev hR hT cc;rw[hb] at hv;have bS:=hv.yu;refine⟨wp_cond bS ?_,by intro b q;cases q⟩;cases b with
    |true=>exact (ih _ _ _ _ _ _ _ hc F W e a w Q hR hT hQ).1|false=>exact (ih _ _ _ _ _ _ _ hc F W e a w Q hR hT hQ).1
   ·cases hc
  ·rename_i i b;refine⟨wp_block ?_,by intro b q;cases q⟩;split at hc
   ·rename_i j t1 H1 h1;refine (ih _ _ _ _ _ _ _ h1 F W e a w _ hR hT ?_).1;intro e' a' w' he bg cq hd;show Exit.inBlock i Q (.exit j) a' w';cases hj:Nat.beq j i with
    |true=>
     rw[hj] at hc;cases hc;simp only[Exit.inBlock,abx hj,if_true];exact hQ e' a' w' he bg cq hd
    |false=>
     rw[hj] at hc;cases hc;have aF:¬j=i:=λq=>by rw[q,aju] at hj;cases hj
     simp only[Exit.inBlock,zz1 aF];exact hQ e' a' w' he bg cq hd
   ·rename_i aF;refine (ih _ _ _ _ _ _ _ hc F W e a w _ hR hT ?_).1;intro e' a' w' he bg cq hd;have:=hQ e' a' w' he bg cq hd;cases x with
    |normal=>exact this|exit j=>exact absurd hc (aF j t' H')|ret=>exact this
  ·rename_i b;have hl:Ee P b Q a w:=by
    refine acK ?_;split at hc;·rename_i t1 H1 h1;refine (ih _ _ _ _ _ _ _ h1 F W e a w _ hR hT ?_).1;intro e' a' w' he bg cq hd;show Exit.then (Ee P b Q) Q .normal a' w';refine (ih _ _ _ _ _ _ _ hc F W e' a' w' Q bg cq ?_).2 b rfl;intro e2 a2 w2 FW lT ze vV;exact hQ e2 a2 w2 (Em.le_trans he FW) lT ze (vV.trans hd)
    ·rename_i aF;refine (ih _ _ _ _ _ _ _ hc F W e a w _ hR hT ?_).1;intro e' a' w' he bg cq hd;have:=hQ e' a' w' he bg cq hd;cases x with
     |normal=>exact absurd hc (aF t' H')|exit i=>exact this|ret=>exact this
   exact⟨ai5 hl,by intro b' q;cases q;exact hl⟩
  ·cases hc;exact⟨wp_exit (hQ e a w e.le_refl hR hT rfl),by intro b q;cases q⟩
  ·cases hc;exact⟨wp_ret (hQ e a w e.le_refl hR hT rfl),by intro b q;cases q⟩
  ·rename_i id ops d;refine⟨?_,by intro b q;cases q⟩;split at hc
   ·rename_i t1 H1 h1;cases hc;cases d with
    |true=>exact ahY hm iM h1 hR hT hQ|false=>
     refine wp_region ?_;have:=abD (Q:=Q) iM ops.toList 0 t H e a w zzy h1 hR hT hQ;rw[List.range_eq_range'];simpa using this
   ·cases hc
  ·cases hc
theorem aCR {ext:Nat->Option Ext}{bE:Nat->Option Prim}(hm:P.follows .mixedOrders=true)(hN:qg P)(hE:Aw P ext)(hP:wB P bE){fuel g:Nat}{v:AV}
  (h:PN P ext bE fuel g args H=some (v,H')) {b:Code} (hf:P.funcs[g]?=some fn) (hb:fn.body=some b) (hR:RH P.globals.size F W e H w) (ha:aV e args as'.toList):
  Calls P g as' w (HP P.globals.size F W e v H'):=by
 obtain⟨aU,first,cap,hg,hs⟩:=aaB hN hE hP (awW hm hN hE hP fuel) _ _ _ _ _ h;cases hg;rcases hs F W e w as' hR (by simpa using ha) with⟨v',w',e',h1,_⟩|⟨_,h2⟩;·rw[Aq hN hf hb] at h1;cases h1
 ·exact h2
end
end
end Go.Proofs.YtodfajmihkagnaaGreatDoor.Am
