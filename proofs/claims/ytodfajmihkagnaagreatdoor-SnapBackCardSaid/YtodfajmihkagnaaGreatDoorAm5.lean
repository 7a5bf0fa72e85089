/- Laws that the proof uses. -/
import Derived.Test.YtodfajmihkagnaaGreatDoorAm4
set_option linter.unusedVariables false
set_option linter.unusedSimpArgs false
namespace Go.Proofs.YtodfajmihkagnaaGreatDoor.Am
section
section
section
section
section
section
variable {F F':Nat->Prop}{G i:Nat}{H H':Hp}{W w:World}{d:Tmp}{dst:Option Tmp}{e:Em}{ob:Obj}{t':Tm}
theorem akx {n:Nat}{v:AV}{t:Tm}(h:je n dst v t=some t')(d:Tmp):t'.get d=if dst=some d then some v else t.get d:=by
 unfold je at h;split at h;·cases h;simp
 ·rename_i x;cases hb:(Nat.blt x n&&Nat.blt x 4294967296) with
  |false=>rw[hb] at h;cases h
  |true=>
   rw[hb] at h;cases h;simp only[aaM,adW] at hb;rw[Tr.OI _ _ _ _ _ zzz];by_cases hx:d=x;·subst hx;simp
   ·rw[zz1 hx,zz1 (λq=>hx (acd q).symm)]
theorem apV {n:Nat}{v:AV}{t:Tm}(h:je n dst v t=some t')(hd:dst=some d):d<n:=by
 subst hd;unfold je at h;simp only at h;cases hb:(Nat.blt d n&&Nat.blt d 4294967296) with
 |false=>rw[hb] at h;cases h
 |true=>simp only[aaM,adW] at hb;exact hb.1
theorem RH.weaken (h:RH G F W e H w)(hF:∀k,F' k->F k):RH G F' W e H w:=
 h.Zf (λk hk=>h.frame k (hF k hk)) (λi o ho hw hk=>(h.obj i o ho).2.choose_spec.2.2 hw (hF _ hk)) h.os h.tape h.output h.size
theorem RH.PN (h:RH G F W e H w):RH G F w e H w:=
 h.Zf (λk hk=>⟨(h.frame k hk).1,rfl⟩) (λi o ho hw hk=>(h.obj i o ho).2.choose_spec.2.2 hw hk) rfl rfl rfl (aaO _)
theorem RH.Qu (h:RH G F W e H w){o:AO}(ha:Am.alloc H o=some (i,H')){b n:Nat}
  (hb:w.heap[b]?=some ob) (To:∀j oj,H.h.get j=some oj->e.b j≠b) (fj:OR (e.ext b 0 n) i o ob) (hF:∀k,F' k->F k/\k≠b):i=e.N/\RH G F' W (e.ext b 0 n) H' w:=by
 obtain⟨rfl,aR,rfl⟩:=A6 ha;have hN:=h.N;have gE:∀j,(H.h.put 34 H.next o).get j=if j=H.next then some o else H.h.get j:=λj=>Tr.gL _ _ _ _
 have hle:=Em.sC e b 0 n;have jq:∀j oj,H.h.get j=some oj->(e.ext b 0 n).b j=e.b j:=λj oj hj=>(hle.2 j (h.obj j oj hj).1).1;refine⟨hN.symm,?_,?_,?_,?_,?_,h.os,h.tape,h.output,h.size,by obtain⟨g1,g2,g3⟩:=h.ou;rw[(hle.2 G g2).2.2];simp[Em.ext];omega⟩;·simp[Em.ext,hN]
 ·intro j oj hj;simp only at hj;rw[gE] at hj;by_cases ej:j=H.next
  ·subst ej;rw[zz2 rfl] at hj;cases hj;refine⟨by simp[Em.ext,hN],ob,?_,fj,?_⟩;·rw[<-hN,Em.pU];exact hb
   ·intro _ hk;rw[<-hN,Em.pU] at hk;exact (hF _ hk).2 rfl
  ·rw[zz1 ej] at hj;obtain⟨a,sR,b2,c2,d2⟩:=h.obj j oj hj;refine⟨by simp[Em.ext];omega,sR,?_,c2.mono hle a,?_⟩;·rw[jq j oj hj];exact b2
   ·intro hw hk;rw[jq j oj hj,(hle.2 G h.ou.2.1).2.2] at hw;rw[jq j oj hj] at hk;exact d2 hw (hF _ hk).1
 ·intro j k oj ok hj hk hq he;simp only at hj hk;rw[gE] at hj hk;by_cases ej:j=H.next<;>by_cases ek:k=H.next;·omega
  ·rw[zz1 ek] at hk;rw[jq k ok hk,ej,<-hN,Em.pU] at he;exact absurd he.symm (To k ok hk)
  ·rw[zz1 ej] at hj;rw[jq j oj hj,ek,<-hN,Em.pU] at he;exact absurd he (To j oj hj)
  ·rw[zz1 ej] at hj;rw[zz1 ek] at hk;rw[jq j oj hj,(hle.2 G h.ou.2.1).2.2] at hq;rw[jq j oj hj,jq k ok hk] at he;exact h.inj j k oj ok hj hk hq he
 ·intro g hg;obtain⟨a,b',c⟩:=h.uH g hg;obtain⟨x,y,_⟩:=hle.2 g a;exact⟨by simp[Em.ext];omega,x.trans b',y.trans c⟩
 ·intro k hk;exact h.frame k (hF k hk).1
theorem am5 {l:List AV}{cs:Array Value}{el b:Nat}(hl:aW e l cs.toList)(hlen:l.length<=16777216):OR (e.ext b 0 cs.size) e.N (.cells (Tr.cl .nil 0 l) 0 l.length el 0) (.cells cs el (0,0)):=by refine .cells _ _ _ _ _ _ _ (by rw[Em.AU]) ?_ (λ_=>rfl) zzy (λ_=>Em.pW ..);intro k v _ hk hg;rw[Tr.JH .nil _ _ _ _ zzz] at hg;rw[zz2 ⟨zzz,zzz⟩,agA] at hg;obtain⟨v',bQ,hr⟩:=hl.get hg;exact⟨k,by rw[Em.pW];omega,v',by rw[<-ad6];exact bQ,hr.mono (Em.sC ..)⟩
structure sQ (P:Program)(cf:CF)(n:Nat)(ops:Array Oper)(B:List Nat)(t0:Tm)(H0:Hp)(TP TE:Nat->Tm)(HB HH:Nat->Hp)(V:Nat->AV)(X:Nat->Bool):Prop where
 form:Form ops B
 t1:TP 0=t0
 t2:TE 0=t0
 h1:HB 0=H0
 h2:HH 0=H0
 step:∀j o,ops[j]?=some o->Rj P cf n ops o (X j) (V j) (TP j) (TE j) (TP (j+1)) (TE (j+1)) (HB j) (HH j) (HB (j+1)) (HH (j+1))
 d1:∀i oi,ops[i]?=some oi->X i=true->kd P oi=.dS->∀j oj,ops[j]?=some oj->X j=true->(kd P oj=.dS\/kd P oj=.late)->j<i->(B.getD i 0).testBit j=true
 d2:∀i oi,ops[i]?=some oi->X i=true->kd P oi=.dS->∀j oj,ops[j]?=some oj->X j=true->kd P oj=.read->j<i->(B.getD i 0).testBit j=true\/
  ∃h',jJ P (ev P.globals.size (TP j)) oj (HB (i+1))=some (V j,h')
 d3:∀i oi,ops[i]?=some oi->X i=true->kd P oi=.dS->∀j oj,ops[j]?=some oj->X j=true->kd P oj=.read->i<j->(B.getD j 0).testBit i=true\/
  ∃h',jJ P (ev P.globals.size (TP j)) oj (HB i)=some (V j,h')
def pv (P:Program)(V:Nat->AV)(X:Nat->Bool)(j:Nat)(o:Oper):AV:=if X j=true/\kd P o=.late then .dG else V j
end
section
variable {P:Program}{cf:CF}{n:Nat}{ops:Array Oper}{B:List Nat}{t0:Tm}{H0:Hp}{TP TE:Nat->Tm}{HB HH:Nat->Hp}{V:Nat->AV}{X:Nat->Bool}
theorem sQ.cl (R:sQ P cf n ops B t0 H0 TP TE HB HH V X){j:Nat}{o:Oper}(ho:ops[j]?=some o):
  je n o.dst (pv P V X j o) (TP j)=some (TP (j+1))/\je n o.dst (V j) (TE j)=some (TE (j+1)):=by
 obtain⟨_,h⟩:=R.step j o ho;cases hx:X j with
 |false=>
  rw[hx] at h;obtain⟨h1,h2,h3,_⟩:=h;simp only[pv,hx,aa8,false_and,if_false];rw[h1];exact⟨h2,h3⟩
 |true=>
  rw[hx] at h;cases hk:kd P o<;>rw[hk] at h<;>simp only[pv,hx,hk,true_and,if_true,reduceCtorEq,if_false,and_false];·exact⟨h.2.1,h.2.2.1⟩
  ·exact⟨h.2.1,h.2.2.1⟩
  ·exact⟨h.2.1,h.2.2.1⟩
  ·exact⟨h.2.1,h.2.2.1⟩
theorem sQ.aI (R:sQ P cf n ops B t0 H0 TP TE HB HH V X):∀i,i<=ops.size->∀d,
  (∀j o,j<i->ops[j]?=some o->o.dst=some d->(TP i).get d=some (pv P V X j o)/\(TE i).get d=some (V j))/\
  ((∀j o,j<i->ops[j]?=some o->o.dst≠some d)->(TP i).get d=t0.get d/\(TE i).get d=t0.get d):=by
 intro i;induction i with
 |zero=>intro _ d;exact⟨λj o hj=>zzz,λ_=>⟨by rw[R.t1],by rw[R.t2]⟩⟩|succ i ih=>
  intro hi d;obtain⟨i1,i2⟩:=ih zzz d;have ho:ops[i]?=some ops[i]:=ahi zzz;obtain⟨p1,p2⟩:=R.cl ho;have g1:=akx p1 d;have g2:=akx p2 d;constructor
  ·intro j o hj Ap hd;by_cases yz:j=i;·subst yz;rw[ho] at Ap;cases Ap;rw[g1,g2,zz2 hd,zz2 hd];exact⟨rfl,rfl⟩
   ·have aF:ops[i].dst≠some d:=λq=>yz (R.form.one j i o _ d Ap ho hd q);rw[g1,g2,zz1 aF,zz1 aF];exact i1 j o zzz Ap hd
  ·intro mP;have aF:=mP i _ zzz ho;rw[g1,g2,zz1 aF,zz1 aF];exact i2 λj o hj Ap=>mP j o zzz Ap
theorem sQ.aeA (R:sQ P cf n ops B t0 H0 TP TE HB HH V X)(p:Nat):∀k,p+k<=ops.size->(∀j o,p<=j->j<p+k->ops[j]?=some o->X j=true->kd P o ≠ .dS)->HB (p+k)=HB p:=by
 intro k;induction k with
 |zero=>intro _ _;rfl|succ k ih=>
  intro hk aF;have ho:ops[p+k]?=some ops[p+k]:=ahi zzz;obtain⟨_,h⟩:=R.step (p+k) _ ho;have:HB (p+k+1)=HB (p+k):=by
   cases hx:X (p+k) with
   |false=>rw[hx] at h;exact h.2.2.2.1|true=>
    rw[hx] at h;have hn:=aF (p+k) _ zzz zzz ho hx;cases cG:kd P ops[p+k]<;>rw[cG] at h;·exact h.2.2.2.1
    ·exact h.2.2.2.1
    ·exact h.2.2.2
    ·exact absurd cG hn
  rw[<-ak2,this];exact ih zzz λj o h1 h2=>aF j o h1 zzz
end
end
variable {P:Program}
theorem Vv:∀{a b:AV},qP a b=true->a=b:=by
 intro a b h;unfold qP at h;split at h<;>first
  |rfl
  |(cases h;done)
  |(simp only[zz6] at h;subst h;rfl)
  |(simp only[aaM,zz6] at h;obtain⟨h1,h2⟩:=h;subst h1;subst h2;rfl)
  |(simp only[aaM] at h;obtain⟨h1,h2⟩:=h;rw[aa9 h1,aa9 h2])
  |(simp only[aaM,zz6] at h;obtain⟨⟨⟨⟨⟨h1,h2⟩,h3⟩,h4⟩,h5⟩,h6⟩:=h;rw[aa9 h1,aa9 h2,aa9 h3,aa9 h4,h5,aa9 h6])
  |(rw[aa9 h])
theorem Wu:∀{a b:List AV},vi a b=true->a=b
 |[],[],_=>rfl|[],_::_,h=>by simp[vi] at h
 |_::_,[],h=>by simp[vi] at h
 |a::x,b::y,h=>by simp only[vi,aaM] at h;rw[Vv h.1,Wu h.2]
theorem axn {a b:AV}(h:same a b=true):a=b:=by
 unfold same at h;split at h;·rw[Wu h]
 ·rw[Wu h]
 ·simp only[aaM] at h;rw[aa9 h.1,Vv h.2]
 ·exact Vv h
section
variable {H H':Hp}{o:Oper}{x:AV}{ρ:Operand->AV}
theorem jM {x:Option AV}{v:AV}(h:x.map (λv=>(v,H))=some (v,H')):x=some v/\H'=H:=by simp only[aaq,abW] at h;obtain⟨a,ha,rfl,rfl⟩:=h;exact⟨ha,rfl⟩
theorem wg {x:Option AV}{v:AV}(h:x=some v):x.map (λv=>(v,H))=some (v,H):=by rw[h];rfl
theorem ap1 (h:kd P o=.late):(∃t,o.op=.alloc t)\/(∃t a b,o.op=.makeSlice t (.const a) (.const b))\/∃a b v el,o.op=.convert a b (.const v)/\P.underlying a=some .string/\P.underlying b=some (.slice el):=by
 unfold kd at h;cases aS:o.op<;>rw[aS] at h<;>simp only[reduceCtorEq] at h
 case alloc t=>exact .inl ⟨t,rfl⟩
 case binOp=>split at h<;>first|(cases h;done)|(split at h<;>cases h)
 case convert a b x=>
  split at h<;>first|(cases h;done)|skip
  rename_i el ha hb;split at h;·rename_i v;exact .inr (.inr ⟨a,b,v,el,rfl,ha,hb⟩)
  ·cases h
 case makeSlice t l c=>
  split at h;·rename_i a b;exact .inr (.inl ⟨t,a,b,rfl⟩)
  ·cases h
 case call c=>split at h<;>cases h
theorem an3 {a b:TypeId}{v:AV}{i j:IntKind}(ha:P.underlying a=some (.int i))(hb:P.underlying b=some (.int j))(h:lh P a b x H=some (v,H')):
  H'=H/\∀H2,lh P a b x H2=some (v,H2):=by
 unfold lh at h⊢;rw[ha,hb] at h⊢;cases x<;>simp only at h⊢ <;> first|(cases h;exact⟨rfl,λ_=>rfl⟩)|(cases h;done)|(simp at h;done)|skip
theorem ah3 {a b:TypeId}{v:AV}(ha:P.underlying a=some .string)(hb:P.underlying b=some .string)(h:lh P a b x H=some (v,H')):
    H'=H /\ ∀H2,lh P a b x H2=some (v,H2):=by
  unfold lh at h⊢;rw[ha,hb] at h⊢;cases x<;>simp only at h⊢ <;> first
    |(cases h;exact⟨rfl,λ_=>rfl⟩)|(cases h;done)|(simp at h;done)
    | (split at h
       · rename_i q;cases h;exact⟨rfl,λ_=>by rw[zz2 q]⟩
       · cases h)
    |skip
theorem aBO {a b e:TypeId}{v:AV}(ha:P.underlying a=some (.slice e))(hb:P.underlying b=some .string)(h:lh P a b x H=some (v,H')):H'=H:=by
 unfold lh at h;rw[ha,hb] at h;cases x<;>simp only at h<;>first
  |(cases h;rfl)|(cases h;done)|(simp at h;done)
  |(split at h<;>first|(cases h;rfl)|(cases h;done)|skip)
  |skip
 rename_i q;cases hz:Nat.beq _ 0 with
 |true=>rw[hz] at h;cases h;rfl|false=>
  rw[hz] at h;simp only[cond_false,aaV,aaq,abW] at h;obtain⟨_,_,_,_,_,rfl⟩:=h;rfl
theorem al4 {v:AV}(hk:kd P o=.pure\/kd P o=.read)(h:jJ P ρ o H=some (v,H')):H'=H:=by
 unfold jJ at h;unfold kd at hk;cases aS:o.op<;>rw[aS] at h hk<;>simp only[reduceCtorEq,or_self] at h hk
 case move x=>cases h;rfl
 case assign x=>cases h;rfl
 case pick c a b=>
  split at h;·cases h;rfl
  ·cases h
 case build t ps=>exact (jM h).2
 case load t a=>exact (jM h).2
 case nilCheck x=>exact (jM h).2
 case binOp op t x y ty=>
  cases hg:wK P op t x y (ρ x) (ρ y) with
  |false=>rw[hg] at h;cases h
  |true=>rw[hg] at h;exact (jM h).2
 case unOp op t x=>exact (jM h).2
 case convert a b x=>
  split at hk;·rename_i i j ha hb;exact (an3 ha hb h).1
  ·rename_i ha hb;exact (ah3 ha hb h).1
  ·rename_i e ha hb;exact aBO ha hb h
  ·split at hk<;>simp at hk
  ·simp at hk
 case makeSlice t l c=>split at hk<;>simp at hk
 case makeInterface t x=>exact (jM h).2
 case makeFunc fn a b=>exact (jM h).2
 case slice t x lo hi mx=>exact (jM h).2
 case fieldAddr t x f=>exact (jM h).2
 case field t x f=>exact (jM h).2
 case indexAddr t x ix=>exact (jM h).2
 case index t x ix=>exact (jM h).2
 case lookup t x k ok=>exact (jM h).2
 case entry it=>exact (jM h).2
 case extract t ix=>
  split at h;·exact (jM h).2
  ·cases h
 case typeAssert x t yv ok=>exact (jM h).2
 case call c=>
  cases hc:c.callee with
  |builtin b=>
   rw[hc] at h hk;simp only at h hk;cases b<;>simp only[reduceCtorEq,or_self] at hk<;>(unfold jh at h;split at h<;>first|(cases h;done)|exact (jM h).2|simp_all)
  |value f=>rw[hc] at h;cases h
  |invoke r m=>rw[hc] at h;cases h
theorem avZ {op:BinOp}{t:TypeId}{y:AV}(hk:(match op with
   |.eql|.neq=>match P.underlying t with|some (.int _)|some .string|some .bool=>Kd.pure|_=>.read
   |_=>.pure)=.pure) (H H2:Hp):gi P op t x y H=gi P op t x y H2:=by
 have heq:(op=.eql\/op=.neq)->∀H H2:Hp,eO P 50 t x y H=eO P 50 t x y H2:=by
  intro ho H H2;have hu:P.underlying t=some .string\/P.underlying t=some .bool\/∃k,P.underlying t=some (.int k):=by rcases ho with rfl|rfl<;>(simp only at hk;split at hk<;>first|(exact .inl (by assumption))|(exact .inr (.inl (by assumption)))|(exact .inr (.inr ⟨_,by assumption⟩))|cases hk)
  unfold eO;rcases hu with hu|hu|⟨k,hu⟩<;>(rw[hu];cases x<;>cases y<;>rfl)
 cases op
 case eql=>
  have:=heq (.inl rfl) H H2;cases x<;>cases y<;>simp only[gi,this]
 case neq=>
  have:=heq (.inr rfl) H H2;cases x<;>cases y<;>simp only[gi,this]
 all_goals (cases x<;>cases y<;>rfl)
theorem aF8 {v:AV}(hk:kd P o=.pure)(h:jJ P ρ o H=some (v,H'))(H2:Hp):jJ P ρ o H2=some (v,H2):=by
 have hs:=al4 (.inl hk) h;subst hs;unfold jJ at h⊢;unfold kd at hk;cases aS:o.op<;>rw[aS] at h hk<;>simp only[reduceCtorEq] at h hk⊢
 case move x=>cases h;rfl
 case assign x=>cases h;rfl
 case pick c a b=>
  split at h;·cases h;simp[*]
  ·cases h
 case build t ps=>exact wg (jM h).1
 case nilCheck x=>exact wg (jM h).1
 case binOp op t x y ty=>
  cases hg:wK P op t x y (ρ x) (ρ y) with
  |false=>rw[hg] at h;cases h
  |true=>
   rw[hg] at h;rw[avZ hk H2 H'];exact wg (jM h).1
 case unOp op t x=>exact wg (jM h).1
 case convert a b x=>
  split at hk;·rename_i i j ha hb;exact (an3 ha hb h).2 H2
  ·rename_i ha hb;exact (ah3 ha hb h).2 H2
  ·cases hk
  ·split at hk<;>cases hk
  ·cases hk
 case makeSlice t l c=>split at hk<;>cases hk
 case makeInterface t x=>exact wg (jM h).1
 case makeFunc fn a b=>exact wg (jM h).1
 case fieldAddr t x f=>exact wg (jM h).1
 case field t x f=>exact wg (jM h).1
 case indexAddr t x ix=>exact wg (jM h).1
 case index t x ix=>exact wg (jM h).1
 case extract t ix=>
  split at h;·rename_i l hl;exact wg (jM h).1
  ·cases h
 case typeAssert x t yv ok=>exact wg (jM h).1
 case call c=>
  cases hc:c.callee with
  |builtin b=>
   rw[hc] at h hk;simp only at h hk⊢;cases b<;>simp only[reduceCtorEq] at hk<;>(unfold jh at h⊢;split at h<;>first|(cases h;done)|exact wg (jM h).1|simp_all)
  |value f=>rw[hc] at h;cases h
  |invoke r m=>rw[hc] at h;cases h
end
end
section
variable {P:Program}{cf:CF}{n:Nat}{ops:Array Oper}{B:List Nat}{t0:Tm}{H0:Hp}{TP TE:Nat->Tm}{HB HH:Nat->Hp}{V:Nat->AV}{X:Nat->Bool}
def mW (P:Program)(ops:Array Oper)(X:Nat->Bool)(S:Nat->Prop)(p j:Nat):Prop:=S j/\p<=j/\X j=true/\∃o,ops[j]?=some o/\kd P o=.late
def ZE (P:Program)(o:Oper)(b:Nat)(ob:Obj)(val:Value):Prop:=
 ∀(t:Tm) (H H':Hp) (v:AV) (e:Em),jJ P (ev P.globals.size t) o H=some (v,H')->e.N=H.next->∃ao n,Am.alloc H ao=some (e.N,H')/\OR (e.ext b 0 n) e.N ao ob/\VR (e.ext b 0 n) v val
structure Inv (P:Program)(n:Nat)(ops:Array Oper)(B:List Nat)(t0:Tm)(HB HH:Nat->Hp)(V:Nat->AV)(X:Nat->Bool)(F:Nat->Prop)(W:World)(e0:Em)(ds:List Deferred)
  (S:Nat->Prop) (p:Nat) (e:Em) (a:Act) (w:World) (cn:Nat->Nat):Prop where
 pN:p<=ops.size
 ph:HH p=HB p
 pe:p=0\/∃j oj,p=j+1/\ops[j]?=some oj/\X j=true/\kd P oj=.dS
 down:∀i j,S i->(B.getD i 0).testBit j=true->S j
 dS:∀i o,ops[i]?=some o->X i=true->kd P o=.dS->(S i↔i<p)
 rh:RH P.globals.size (λk=>F k\/∃j,mW P ops X S p j/\cn j=k) w e (HB p) w
 frame:∀k,F k->w.heap[k]?=W.heap[k]?
 os:w.os=W.os
 tape:w.tape=W.tape
 output:w.output=W.output
 size:W.heap.size<=w.heap.size
 TH:∀j,mW P ops X S p j->e.n P.globals.size<=cn j/\¬F (cn j)/\∀o,ops[j]?=some o->∃ob val,w.heap[cn j]?=some ob/\ZE P o (cn j) ob val/\∀d,o.dst=some d->a.tmps.getD d undef=val
 QD:∀i j,mW P ops X S p i->mW P ops X S p j->cn i=cn j->i=j
 val:∀j o d,ops[j]?=some o->S j->o.dst=some d->¬mW P ops X S p j->VR e (V j) (a.tmps.getD d undef)
 Ko:∀d,(∀j o,ops[j]?=some o->S j->o.dst≠some d)->VR e ((t0.get d).getD bS) (a.tmps.getD d undef)
 G8:n<=a.tmps.size
 le:e0.le e
 defers:a.defers=ds
section
variable {F S:Nat->Prop}{H:Hp}{W w:World}{a:Act}{d:Tmp}{ds:List Deferred}{e e0:Em}{i:Nat}{o:Oper}
theorem Inv.read (R:sQ P cf n ops B t0 H0 TP TE HB HH V X){p:Nat}{cn:Nat->Nat}
  (I:Inv P n ops B t0 HB HH V X F W e0 ds S p e a w cn) (ho:ops[i]?=some o) (hS:¬S i) (hr:∀j,(B.getD i 0).testBit j=true->S j) (hd:JP ops o d=true):
  VR e (((TP i).get d).getD bS) (a.tmps.getD d undef):=by
 have hi:i<ops.size:=(acA.1 ho).1;obtain⟨v1,v2⟩:=R.aI i (amU hi) d;by_cases hex:∃j o',j<i/\ops[j]?=some o'/\o'.dst=some d
 ·obtain⟨j,o',hj,iW,gz⟩:=hex;rw[(v1 j o' hj iW gz).1];have wN:S j:=by have:=R.form.rd j i o' o d iW ho gz zzz hd;rw[zz2 hj] at this;exact hr j this
  simp only[af7,pv];split;·exact .dG _
  ·rename_i hn;refine I.val j o' d iW wN gz (λq=>hn ?_);obtain⟨_,_,hx,o2,qJ,hk⟩:=q;rw[iW] at qJ;cases qJ;exact⟨hx,hk⟩
 ·rw[(v2 λj o' hj iW gz=>hex ⟨j,o',hj,iW,gz⟩).1];refine I.Ko d λj o' iW wN gz=>?_;by_cases yz:j<i;·exact hex ⟨j,o',yz,iW,gz⟩
  ·by_cases Dc:j=i;·subst Dc;exact hS wN
   ·have:=R.form.rd j i o' o d iW ho gz Dc hd;rw[zz1 zzz] at this;exact hS (I.down j i wN this)
theorem azR (h:Operand.tmp d∈o.op.operands.toList):d∈tmpsOf o:=by unfold tmpsOf;rw[List.mem_filterMap];exact⟨.tmp d,h,rfl⟩
theorem ahp (h:Operand.tmp d∈o.op.operands.toList):JP ops o d=true:=by unfold JP;rw[aiK];left;simpa using azR h
theorem aeT (h:RH P.globals.size F W e H w){t:Tm}{x:Operand}(ht:∀d,x=.tmp d->VR e ((t.get d).getD bS) (a.tmps.getD d undef)):
  VR e (ev P.globals.size t x) (a.eval x):=by
 cases x with
 |tmp d=>exact ht d rfl|const v=>
  simp only[Am.ev,Act.eval];cases hc:Am.lA v with
  |none=>exact .dG v|some c=>exact .lA hc
 |global g=>
  simp only[Am.ev,Act.eval];cases hb:Nat.blt g P.globals.size with
  |false=>exact .dG _|true=>
   rw[adW] at hb;obtain⟨h1,h2,h3⟩:=h.uH g hb;have:=VR.ptr (e:=e) g 0 0 h1 (by rw[h3];simp);rw[h2] at this;exact this
 |func f=>exact .func _ zzy [] [] #[] #[] rfl rfl zzy zzy
theorem Inv.Qu (R:sQ P cf n ops B t0 H0 TP TE HB HH V X){p:Nat}{cn:Nat->Nat}
  (I:Inv P n ops B t0 HB HH V X F W e0 ds S p e a w cn):∀k,p+k<=ops.size->(∀j o,p<=j->j<p+k->ops[j]?=some o->X j=true->kd P o ≠ .dS/\(kd P o=.late->S j))->
  ∃e',e.le e'/\RH P.globals.size (λq=>F q\/∃j,mW P ops X S (p+k) j/\cn j=q) w e' (HH (p+k)) w/\
   ∀j o d,p<=j->j<p+k->ops[j]?=some o->X j=true->kd P o=.late->o.dst=some d->VR e' (V j) (a.tmps.getD d undef):=by
 intro k;induction k with
 |zero=>
  intro _ _;refine⟨e,e.le_refl,?_,λj o d h1 h2=>zzz⟩;rw[aed,I.ph];exact I.rh
 |succ k ih=>
  intro hk aF;obtain⟨e1,u7,jL,oV⟩:=ih zzz λj o h1 h2=>aF j o h1 zzz;have ho:ops[p+k]?=some ops[p+k]:=ahi zzz;obtain⟨_,aC⟩:=R.step (p+k) _ ho;have same:HH (p+k+1)=HH (p+k)->¬(X (p+k)=true/\kd P ops[p+k]=.late)->∃e',e.le e'/\RH P.globals.size (λq=>F q\/∃j,mW P ops X S (p+(k+1)) j/\cn j=q) w e' (HH (p+(k+1))) w/\
   ∀j o d,p<=j->j<p+(k+1)->ops[j]?=some o->X j=true->kd P o=.late->o.dst=some d->VR e' (V j) (a.tmps.getD d undef):=by
   intro hh jw;refine⟨e1,u7,?_,?_⟩
   ·rw[<-ak2,hh];refine jL.weaken λq hq=>?_;rcases hq with hq|⟨j,⟨q1,q2,q3⟩,q4⟩;·exact .inl hq
    ·exact .inr ⟨j,⟨q1,zzz,q3⟩,q4⟩
   ·intro j o d h1 h2 hj hx cG hd;by_cases Yr:j=p+k;·subst Yr;rw[ho] at hj;cases hj;exact absurd ⟨hx,cG⟩ jw
    ·exact oV j o d h1 zzz hj hx cG hd
  cases hx:X (p+k) with
  |false=>
   rw[hx] at aC;exact same aC.2.2.2.2 (by simp[hx])
  |true=>
   rw[hx] at aC;have hn:=aF (p+k) _ zzz zzz ho hx;cases cG:kd P ops[p+k]<;>rw[cG] at aC;·exact same aC.2.2.2.2 (by simp[cG])
   ·exact same aC.2.2.2.2 (by simp[cG])
   ·obtain⟨hA,_,_,_⟩:=aC;have hS:=hn.2 cG;have hpd:mW P ops X S (p+k) (p+k):=⟨hS,aaO _,hx,_,ho,cG⟩;have akv:mW P ops X S p (p+k):=⟨hS,zzz,hx,_,ho,cG⟩;obtain⟨g1,g2,g3⟩:=I.TH _ akv;obtain⟨ob,val,Oh,Ob,asp⟩:=g3 _ ho;obtain⟨ao,nn,cZ,fj,jt⟩:=Ob _ _ _ _ e1 hA jL.N;have To:∀j oj,(HH (p+k)).h.get j=some oj->e1.b j≠cn (p+k):=by
     intro j oj hj hq;obtain⟨a1,ob,b1,c1,d1⟩:=jL.obj j oj hj;by_cases hjG:e1.n P.globals.size<=e1.b j;·exact d1 (.inr hjG) (.inr ⟨p+k,hpd,hq.symm⟩)
     ·have:=(u7.2 _ I.rh.ou.2.1).2.2;omega
    obtain⟨_,rI⟩:=jL.Qu (F':=λq=>F q\/∃j,mW P ops X S (p+(k+1)) j/\cn j=q) cZ Oh To fj (by
     intro q hq;rcases hq with hq|⟨j,⟨q1,q2,q3⟩,q4⟩;·exact⟨.inl hq,λr=>g2 (r▸hq)⟩
     ·refine⟨.inr ⟨j,⟨q1,zzz,q3⟩,q4⟩,λr=>?_⟩;have:=I.QD j (p+k) ⟨q1,zzz,q3⟩ akv (q4.trans r);omega)
    refine⟨_,Em.le_trans u7 (Em.sC ..),by rw[<-ak2];exact rI,?_⟩;intro j o d h1 h2 hj yg uB hd;by_cases Yr:j=p+k;·subst Yr;rw[ho] at hj;cases hj;rw[asp d hd];exact jt
    ·exact (oV j o d h1 zzz hj yg uB hd).mono (Em.sC ..)
   ·exact absurd cG hn.1
end
end
end
section
variable {F:Nat->Prop}{G:Nat}{H:Hp}{W w:World}{a:Act}{dst:Option Tmp}{e:Em}
theorem RH.push (h:RH G F W e H w)(ob:Obj):
  RH G (λk=>F k\/k=w.heap.size) {w with heap:=w.heap.push ob} e H {w with heap:=w.heap.push ob}:=by
 refine⟨h.N,?_,h.inj,h.uH,?_,rfl,rfl,rfl,aaO _,by obtain⟨g1,g2,g3⟩:=h.ou;simp;omega⟩
 ·intro i o ho;obtain⟨a,sR,b,c,d⟩:=h.obj i o ho;have aR:=(acA.1 b).1;refine⟨a,sR,?_,c,λhw hk=>?_⟩;·simp only;rw[alT,zz1 zzz];exact b
  ·rcases hk with hk|hk;·exact d hw hk
   ·omega
 ·intro k hk;refine⟨?_,rfl⟩;rcases hk with hk|hk;·have:=(h.frame k hk).1;simp;omega
  ·simp;omega
theorem XV {v:Value}{n:Nat}(hn:n<=a.tmps.size)(hd:∀d,dst=some d->d<n)(d:Tmp):(a.put dst v).tmps.getD d undef=if dst=some d then v else a.tmps.getD d undef:=by
 cases dst with
 |none=>simp[Act.put]|some x=>
  simp only[Act.put];have hx0:x<a.tmps.size:=adi (hd x rfl) hn;rw[ah7 hx0];by_cases hx:d=x;·subst hx;simp
  ·rw[zz1 hx,zz1 (λq=>hx (acd q).symm)]
theorem Wn {v:Value}:(a.put dst v).tmps.size=a.tmps.size:=by cases dst<;>simp[Act.put]
theorem aav {v:Value}:(a.put dst v).defers=a.defers:=by cases dst<;>rfl
end
section
variable {P:Program}{cf:CF}{n:Nat}{ops:Array Oper}{B:List Nat}{t0:Tm}{H0:Hp}{TP TE:Nat->Tm}{HB HH:Nat->Hp}{V:Nat->AV}{X:Nat->Bool}
 {F:Nat->Prop} {W:World} {e0:Em} {ds:List Deferred} {S:Nat->Prop} {p:Nat} {e:Em} {a:Act} {w:World} {cn:Nat->Nat}
section
variable {e':Em}{i:Nat}{o:Oper}{ob:Obj}{v':Value}{w':World}
theorem sQ.lt (R:sQ P cf n ops B t0 H0 TP TE HB HH V X)(ho:ops[i]?=some o):∀d,o.dst=some d->d<n:=λd hd=>apV (R.cl ho).2 hd
theorem Inv.quiet (R:sQ P cf n ops B t0 H0 TP TE HB HH V X)(I:Inv P n ops B t0 HB HH V X F W e0 ds S p e a w cn)(ho:ops[i]?=some o)(hS:¬S i)
  (hr:∀j,(B.getD i 0).testBit j=true->S j) (hk:X i=true->kd P o ≠ .late/\kd P o ≠ .dS)
  (he:e.le e') (hR:RH P.globals.size (λk=>F k\/∃j,mW P ops X S p j/\cn j=k) w e' (HB p) w') (hv:VR e' (V i) v'):
  Inv P n ops B t0 HB HH V X F W e0 ds (λj=>S j\/j=i) p e' (a.put o.dst v') w' cn:=by
 have rj:∀j,mW P ops X (λj=>S j\/j=i) p j↔mW P ops X S p j:=by
  intro j;constructor
  ·rintro⟨q1|q1,q2,q3,o2,q4,q5⟩;·exact⟨q1,q2,q3,o2,q4,q5⟩
   ·subst q1;rw[ho] at q4;cases q4;exact absurd q5 (hk q3).1
  ·rintro⟨q1,q2⟩;exact⟨.inl q1,q2⟩
 have aF:∀j o2 d,ops[j]?=some o2->o2.dst=some d->j≠i->o.dst≠some d:=λj o2 d h1 h2 h3 h4=>h3 (R.form.one j i o2 o d h1 ho h2 h4);have gE:=λd=>XV (a:=a) (dst:=o.dst) (v:=v') I.G8 (R.lt ho) d;refine⟨I.pN,I.ph,I.pe,?_,?_,?_,?_,hR.os.trans I.os,hR.tape.trans I.tape,hR.output.trans I.output,afz I.size hR.size,?_,?_,?_,?_,by rw[Wn];exact I.G8,Em.le_trans I.le he,by rw[aav];exact I.defers⟩
 ·intro i' j h1 h2;rcases h1 with h1|h1;·exact .inl (I.down i' j h1 h2)
  ·subst h1;exact .inl (hr j h2)
 ·intro i' o' h1 h2 h3;rw[<-I.dS i' o' h1 h2 h3];constructor
  ·rintro (q|q);·exact q
   ·subst q;rw[ho] at h1;cases h1;exact absurd h3 (hk h2).2
  ·exact .inl
 ·refine (hR.weaken λk hk=>?_).PN;rcases hk with hk|⟨j,h1,h2⟩;·exact .inl hk
  ·exact .inr ⟨j,(rj j).1 h1,h2⟩
 ·intro k hk;exact (hR.frame k (.inl hk)).2.trans (I.frame k hk)
 ·intro j hj;have lL:=(rj j).1 hj;obtain⟨g1,g2,g3⟩:=I.TH j lL;refine⟨by rw[(he.2 _ I.rh.ou.2.1).2.2];exact g1,g2,λo2 h1=>?_⟩;obtain⟨ob,val,q3,q2,q4⟩:=g3 o2 h1;refine⟨ob,val,?_,q2,λd hd=>?_⟩;·rw[(hR.frame (cn j) (.inr ⟨j,lL,rfl⟩)).2];exact q3
  ·rw[gE,zz1 (aF j o2 d h1 hd (λq=>hS (q▸lL.1)))];exact q4 d hd
 ·intro x y hx hy;exact I.QD x y ((rj x).1 hx) ((rj y).1 hy)
 ·intro j o2 d h1 h2 h3 h4;rw[gE];rcases h2 with h2|h2;·rw[zz1 (aF j o2 d h1 h3 (λq=>hS (q▸h2)))];exact (I.val j o2 d h1 h2 h3 (λq=>h4 ((rj j).2 q))).mono he
  ·subst h2;rw[ho] at h1;cases h1;rw[zz2 h3];exact hv
 ·intro d hd;rw[gE,zz1 (hd i o ho (.inr rfl))];exact (I.Ko d λj o2 h1 h2=>hd j o2 h1 (.inl h2)).mono he
theorem Inv.late (R:sQ P cf n ops B t0 H0 TP TE HB HH V X)(I:Inv P n ops B t0 HB HH V X F W e0 ds S p e a w cn)(ho:ops[i]?=some o)(hS:¬S i)
  (hr:∀j,(B.getD i 0).testBit j=true->S j) (hX:X i=true) (cG:kd P o=.late) (rz:p<=i) {val:Value} {dr:Nat} (Ob:ZE P o w.heap.size ob val):
  Inv P n ops B t0 HB HH V X F W e0 ds (λj=>S j\/j=i) p e (a.put o.dst val) {w with drawn:=dr,heap:=w.heap.push ob} (λj=>if j=i then w.heap.size else cn j):=by
 have rj:∀j,mW P ops X (λj=>S j\/j=i) p j↔(mW P ops X S p j\/j=i):=by
  intro j;constructor
  ·rintro⟨q1|q1,q2⟩;·exact .inl ⟨q1,q2⟩
   ·exact .inr q1
  ·rintro (⟨q1,q2⟩|q);·exact⟨.inl q1,q2⟩
   ·subst q;exact⟨.inr rfl,rz,hX,o,ho,cG⟩
 have aF:∀j o2 d,ops[j]?=some o2->o2.dst=some d->j≠i->o.dst≠some d:=λj o2 d h1 h2 h3 h4=>h3 (R.form.one j i o2 o d h1 ho h2 h4);have gE:=λd=>XV (a:=a) (dst:=o.dst) (v:=val) I.G8 (R.lt ho) d;have aR:∀j,mW P ops X S p j->cn j<w.heap.size:=λj hj=>(I.rh.frame (cn j) (.inr ⟨j,hj,rfl⟩)).1;have yH:∀j,mW P ops X S p j->j≠i:=λj hj q=>hS (q▸hj.1);refine⟨I.pN,I.ph,I.pe,?_,?_,?_,?_,I.os,I.tape,I.output,by simp;have:=I.size;omega,?_,?_,?_,?_,by rw[Wn];exact I.G8,I.le,by rw[aav];exact I.defers⟩
 ·intro i' j h1 h2;rcases h1 with h1|h1;·exact .inl (I.down i' j h1 h2)
  ·subst h1;exact .inl (hr j h2)
 ·intro i' o' h1 h2 h3;rw[<-I.dS i' o' h1 h2 h3];constructor
  ·rintro (q|q);·exact q
   ·subst q;rw[ho] at h1;cases h1;rw[cG] at h3;cases h3
  ·exact .inl
 ·refine ((I.rh.push ob).drawn dr).PN.weaken λk hk=>?_;rcases hk with hk|⟨j,h1,h2⟩;·exact .inl (.inl hk)
  ·rcases (rj j).1 h1 with q|q;·rw[zz1 (yH j q)] at h2;exact .inl (.inr ⟨j,q,h2⟩)
   ·rw[zz2 q] at h2;exact .inr h2.symm
 ·intro k hk;have:=(I.rh.frame k (.inl hk)).1;simp only;rw[alT,zz1 zzz];exact I.frame k hk
 ·intro j hj;rcases (rj j).1 hj with q|q
  ·obtain⟨g1,g2,g3⟩:=I.TH j q;rw[zz1 (yH j q)];refine⟨g1,g2,λo2 h1=>?_⟩;obtain⟨sR,azD,q3,q2,q4⟩:=g3 o2 h1;refine⟨sR,azD,?_,q2,λd hd=>?_⟩;·simp only;rw[alT,zz1 (by have:=aR j q;omega)];exact q3
   ·rw[gE,zz1 (aF j o2 d h1 hd (yH j q))];exact q4 d hd
  ·rw[zz2 q];subst q;refine⟨I.rh.ou.2.2,λhF=>?_,λo2 h1=>?_⟩;·have:=(I.rh.frame _ (.inl hF)).1;omega
   ·rw[ho] at h1;cases h1;refine⟨ob,val,zzy,Ob,λd hd=>?_⟩;rw[gE,zz2 hd]
 ·intro x y hx hy Sg;rcases (rj x).1 hx with qx|qx<;>rcases (rj y).1 hy with qy|qy;·rw[zz1 (yH x qx),zz1 (yH y qy)] at Sg;exact I.QD x y qx qy Sg
  ·rw[zz1 (yH x qx),zz2 qy] at Sg;have:=aR x qx;omega
  ·rw[zz2 qx,zz1 (yH y qy)] at Sg;have:=aR y qy;omega
  ·rw[qx,qy]
 ·intro j o2 d h1 h2 h3 h4;rw[gE];rcases h2 with h2|h2;·rw[zz1 (aF j o2 d h1 h3 (λq=>hS (q▸h2)))];exact I.val j o2 d h1 h2 h3 (λq=>h4 ((rj j).2 (.inl q)))
  ·exact absurd ((rj j).2 (.inr h2)) h4
 ·intro d hd;rw[gE,zz1 (hd i o ho (.inr rfl))];exact I.Ko d λj o2 h1 h2=>hd j o2 h1 (.inl h2)
theorem Inv.effect (R:sQ P cf n ops B t0 H0 TP TE HB HH V X)(I:Inv P n ops B t0 HB HH V X F W e0 ds S p e a w cn)(ho:ops[i]?=some o)(hS:¬S i)
  (hr:∀j,(B.getD i 0).testBit j=true->S j) (hX:X i=true) (cG:kd P o=.dS) (rz:p<=i) {e1:Em}
  (u7:e.le e1) (aae:∀j o d,p<=j->j<i->ops[j]?=some o->X j=true->kd P o=.late->o.dst=some d->VR e1 (V j) (a.tmps.getD d undef))
  (he:e1.le e') (hR:RH P.globals.size (λk=>F k\/∃j,mW P ops X S i j/\cn j=k) w e' (HH (i+1)) w') (hv:VR e' (V i) v'):
  Inv P n ops B t0 HB HH V X F W e0 ds (λj=>S j\/j=i) (i+1) e' (a.put o.dst v') w' cn:=by
 have hi:i<ops.size:=(acA.1 ho).1;have rj:∀j,mW P ops X (λj=>S j\/j=i) (i+1) j->mW P ops X S i j/\mW P ops X S p j/\j≠i:=by
  rintro j ⟨q1,q2,q3⟩;rcases q1 with q1|q1;·exact⟨⟨q1,zzz,q3⟩,⟨q1,zzz,q3⟩,zzz⟩
  ·omega
 have aF:∀j o2 d,ops[j]?=some o2->o2.dst=some d->j≠i->o.dst≠some d:=λj o2 d h1 h2 h3 h4=>h3 (R.form.one j i o2 o d h1 ho h2 h4);have gE:=λd=>XV (a:=a) (dst:=o.dst) (v:=v') I.G8 (R.lt ho) d;have hhb:HB (i+1)=HH (i+1):=by obtain⟨_,h⟩:=R.step i o ho;rw[hX,cG] at h;exact h.2.2.2
 refine⟨zzz,hhb.symm,.inr ⟨i,o,rfl,ho,hX,cG⟩,?_,?_,?_,?_,hR.os.trans I.os,hR.tape.trans I.tape,hR.output.trans I.output,afz I.size hR.size,?_,?_,?_,?_,by rw[Wn];exact I.G8,Em.le_trans I.le (Em.le_trans u7 he),by rw[aav];exact I.defers⟩
 ·intro i' j h1 h2;rcases h1 with h1|h1;·exact .inl (I.down i' j h1 h2)
  ·subst h1;exact .inl (hr j h2)
 ·intro i' o' h1 h2 h3;constructor
  ·rintro (q|q);·have:=(I.dS i' o' h1 h2 h3).1 q;omega
   ·omega
  ·intro q;by_cases Ht:i'=i;·exact .inr Ht
   ·exact .inl (hr i' (R.d1 i o ho hX cG i' o' h1 h2 (.inl h3) zzz))
 ·rw[hhb];refine (hR.weaken λk hk=>?_).PN;rcases hk with hk|⟨j,h1,h2⟩;·exact .inl hk
  ·exact .inr ⟨j,(rj j h1).1,h2⟩
 ·intro k hk;exact (hR.frame k (.inl hk)).2.trans (I.frame k hk)
 ·intro j hj;obtain⟨Vd,U3,hj3⟩:=rj j hj;obtain⟨g1,g2,g3⟩:=I.TH j U3;refine⟨by rw[((Em.le_trans u7 he).2 _ I.rh.ou.2.1).2.2];exact g1,g2,λo2 h1=>?_⟩;obtain⟨ob,val,q3,q2,q4⟩:=g3 o2 h1;refine⟨ob,val,?_,q2,λd hd=>?_⟩;·rw[(hR.frame (cn j) (.inr ⟨j,Vd,rfl⟩)).2];exact q3
  ·rw[gE,zz1 (aF j o2 d h1 hd hj3)];exact q4 d hd
 ·intro x y hx hy;exact I.QD x y (rj x hx).2.1 (rj y hy).2.1
 ·intro j o2 d h1 h2 h3 h4;rw[gE];rcases h2 with h2|h2
  ·have yz:j≠i:=λq=>hS (q▸h2);rw[zz1 (aF j o2 d h1 h3 yz)];by_cases hp:mW P ops X S p j
   ·obtain⟨q1,q2,q3,o3,q4,q5⟩:=hp;rw[h1] at q4;cases q4;by_cases aR:j<i;·exact (aae j o2 d q2 aR h1 q3 q5 h3).mono he
    ·exact absurd ⟨.inl q1,zzz,q3,o2,h1,q5⟩ h4
   ·exact ((I.val j o2 d h1 h2 h3 hp).mono u7).mono he
  ·subst h2;rw[ho] at h1;cases h1;rw[zz2 h3];exact hv
 ·intro d hd;rw[gE,zz1 (hd i o ho (.inr rfl))];exact ((I.Ko d λj o2 h1 h2=>hd j o2 h1 (.inl h2)).mono u7).mono he
end
end
end
theorem anw {α:Type}{p q:α->Bool}(h:∀x,p x=true->q x=true){a:α}(hq:q a=true)(hp:p a=false):∀l:List α,a∈l->l.countP p<l.countP q
 |b::l,hm=>by
  have hle:∀l:List α,l.countP p<=l.countP q:=λl=>List.countP_mono_left λx _=>h x;rcases aaD.1 hm with rfl|hm;·rw[List.countP_cons_of_neg (by simp[hp]),List.countP_cons_of_pos hq];have:=hle l;omega
  ·have:=anw h hq hp l hm;rw[aob,aob];by_cases hb:p b=true;·rw[zz2 hb,zz2 (h b hb)];omega
   ·rw[zz1 hb];omega
theorem azp {P:Program}{o:Oper}{a:Act}{w:World}{t:Tm}{H H':Hp}{v:AV}(cG:kd P o=.late)(hA:jJ P (ev P.globals.size t) o H=some (v,H')):
  ∃ob val dr,(execOp a.eval o).run P w=.ok (.value val) {w with drawn:=dr,heap:=w.heap.push ob}/\ZE P o w.heap.size ob val:=by
 rcases ap1 cG with⟨ty,aS⟩|⟨ty,ca,cb,aS⟩|⟨x,y,cv,el,aS,hx,hy⟩
 ·unfold jJ at hA;rw[aS] at hA;simp only at hA;split at hA
  ·rename_i l hl;obtain⟨inf,z,jX,hz,_⟩:=Cj (e:=⟨id,λ_=>0,id,0⟩) hl;refine⟨.cells z.cells ty (0,0),.pointer (some ⟨w.heap.size,0,none⟩),w.drawn,?_,?_⟩;·unfold execOp;rw[aS];simp[Instr.alloc,vt jX hz,newVar,newRow]
   ·intro t2 H2 xr v2 e bq hN;unfold jJ at bq;rw[aS] at bq;simp only[hl,aaq,abW] at bq;obtain⟨⟨id,H3⟩,cF,rfl,rfl⟩:=bq;obtain⟨hlen,cZ⟩:=Tf cF;obtain⟨aib,z2,GJ,AY,JD⟩:=Cj (e:=e) hl;rw[jX] at GJ;cases GJ;rw[hz] at AY;cases AY;have CT:id=e.N:=(A6 cZ).1.trans hN.symm;subst CT;exact⟨_,_,cZ,am5 JD hlen,.aoj (Em.pU ..) (by simp[Em.ext]) (Em.pW ..)⟩
  ·cases hA
 ·have DI:∀(t2:Tm) (H2 xr:Hp) (v2:AV),jJ P (ev P.globals.size t2) o H2=some (v2,xr)->Ac P ty ((lA ca).getD .dG) ((lA cb).getD .dG) H2=some (v2,xr):=by intro t2 H2 xr v2 h;unfold jJ at h;rw[aS] at h;exact h
  have bw:=DI t H H' v hA;have B9:∃k1 n,(lA ca).getD .dG=.int k1 n:=by
   unfold Ac at bw;split at bw;·rename_i q _;exact⟨_,_,q⟩
   ·cases bw
  have Sn:∃k2 m,(lA cb).getD .dG=.int k2 m:=by
   unfold Ac at bw;split at bw;·rename_i _ q;exact⟨_,_,q⟩
   ·cases bw
  obtain⟨k1,n,ha⟩:=B9;obtain⟨k2,m,hb⟩:=Sn;have vA:ca=.int k1 n:=by
   cases h:lA ca with
   |none=>rw[h] at ha;cases ha
   |some u=>rw[h] at ha;have q:u=.int k1 n:=ha;subst q;exact (VR.lA (e:=⟨id,λ_=>0,id,0⟩) h).ij
  have vB:cb=.int k2 m:=by
   cases h:lA cb with
   |none=>rw[h] at hb;cases hb
   |some u=>rw[h] at hb;have q:u=.int k2 m:=hb;subst q;exact (VR.lA (e:=⟨id,λ_=>0,id,0⟩) h).ij
  rw[ha,hb] at bw;obtain⟨el,s,z,row,hu,hs,hz,I0,hle,hlen,mK⟩:=run_makeSlice bw w;refine⟨.cells row.toArray el (0,0),.slice (some ⟨w.heap.size,0,none⟩) n.toNat m.toNat,w.drawn,?_,?_⟩
  ·unfold execOp;rw[aS,vA,vB];have h2:(do Pure.pure (Next.value (<-Instr.makeSlice ty (.int k1 n) (.int k2 m))):Sem Next).run P w=.ok (.value (.slice (some ⟨w.heap.size,0,none⟩) n.toNat m.toNat)) {w with heap:=w.heap.push (.cells row.toArray el (0,0))}:=by rw[Sem.run_bind,mK];rfl
   exact h2
  ·intro t2 H2 xr v2 e bq hN;have iB:=DI t2 H2 xr v2 bq;rw[ha,hb] at iB;unfold Ac at iB;simp only[hu,hs] at iB;split at iB;·rw[hz] at iB;simp only[aaq,abW] at iB;obtain⟨⟨id,H3⟩,cF,rfl,rfl⟩:=iB;obtain⟨qK,cZ⟩:=Tf cF;have CT:id=e.N:=(A6 cZ).1.trans hN.symm;subst CT;have fj:=am5 (cs:=row.toArray) (b:=w.heap.size) (el:=el) (by simpa using I0 e) qK;refine⟨_,_,cZ,fj,?_⟩;have jr:(e.ext w.heap.size 0 row.toArray.size).b e.N=w.heap.size:=Em.pU ..;have hv:=VR.slice (e:=e.ext w.heap.size 0 row.toArray.size) e.N 0 n.toNat m.toNat true s 0 m.toNat (ahA e.N) (by rw[Em.pW];rfl) hle (aaO _) (λ_=>rfl) (by rw[Em.AU];simp[hlen]);rw[jr] at hv;exact hv
   ·cases iB
 ·have aj8:∀(t2:Tm) (H2 xr:Hp) (v2:AV),jJ P (ev P.globals.size t2) o H2=some (v2,xr)->lh P x y ((lA cv).getD .dG) H2=some (v2,xr):=by intro t2 H2 xr v2 h;unfold jJ at h;rw[aS] at h;exact h
  have bw:=aj8 t H H' v hA;unfold lh at bw;rw[hx,hy] at bw;cases hc:(lA cv).getD .dG with
  |str s=>
   rw[hc] at bw;simp only at bw;have hof:lA cv=some (.str s):=by
    cases h:lA cv with
    |none=>rw[h] at hc;cases hc
    |some u=>rw[h] at hc;exact congrArg some hc
   obtain⟨s',zN,hcv⟩:=(VR.lA (e:=⟨id,λ_=>0,id,0⟩) hof).og;split at bw
   ·rename_i ri;refine⟨.cells (xU w el s').toArray el (qa w el s',qa w el s'+1),.slice (some ⟨w.heap.size,0,none⟩) s'.size (qa w el s'),w.drawn+1,?_,?_⟩
    ·unfold execOp;rw[aS];have h1:(convert x y cv).run P w=(Conv.stringToBytes el s').run P w:=by rw[hcv];simp[convert,aL hx,aL hy,aL ri]
     have h2:(do Pure.pure (Next.value (<-convert x y cv)):Sem Next).run P w=.ok (.value (.slice (some ⟨w.heap.size,0,none⟩) s'.size (qa w el s'))) {w with drawn:=w.drawn+1,heap:=w.heap.push (.cells (xU w el s').toArray el (qa w el s',qa w el s'+1))}:=by rw[Sem.run_bind,h1,aid];rfl
     exact h2
    ·intro t2 H2 xr v2 e bq hN;have iB:=aj8 t2 H2 xr v2 bq;unfold lh at iB;rw[hx,hy,hc] at iB;simp only[ri] at iB;split at iB
     ·rename_i i H3 cF;cases iB;obtain⟨hlen,cZ⟩:=Tf cF;have CT:i=e.N:=(A6 cZ).1.trans hN.symm;subst CT;have fT:=Zv w el s';have hle:=Sy w el s';rw[zN] at cZ cF hlen⊢;refine⟨_,(xU w el s').length,cZ,?_,?_⟩
      ·refine .cells _ _ _ _ _ _ (qa w el s',qa w el s'+1) (by rw[Em.AU];simp) ?_ zzy ?_ (λ_=>Em.pW ..);·intro k u _ hk hg;rw[Tr.JH .nil _ _ _ _ zzz] at hg;rw[zz2 ⟨zzz,zzz⟩,agA] at hg;obtain⟨v',bQ,hr⟩:=(aew e s').get hg;refine⟨k,by rw[Em.pW];omega,v',?_,hr.mono (Em.sC ..)⟩;have kN:k<(s'.data.toList.map λb=>Value.int .u8 b.toNat).length:=(aag.1 bQ).1;simp only[ae8,xU];rw[abd kN];exact bQ
       ·intro _ k hk;have rZ:k<(xU w el s').length:=by simpa using hk
        rw[fT] at rZ;simp;omega
      ·have jr:(e.ext w.heap.size 0 (xU w el s').length).b e.N=w.heap.size:=Em.pU ..;have hv:=VR.slice (e:=e.ext w.heap.size 0 (xU w el s').length) e.N 0 s'.size s'.size false 1 0 (qa w el s') (ahA e.N) (by rw[Em.pW];rfl) hle hle zzy (by rw[Em.AU,fT];omega);rw[jr] at hv;rw[Be];exact hv
     ·cases iB
   ·cases bw
  |_=>rw[hc] at bw;first|(simp only at bw;cases bw;done)|(cases bw;done)|(simp at bw;done)
section
variable {P:Program}{cf:CF}{n:Nat}{ops:Array Oper}{B:List Nat}{t0:Tm}{H0:Hp}{TP TE:Nat->Tm}{HB HH:Nat->Hp}{V:Nat->AV}{X:Nat->Bool}
 {F:Nat->Prop} {W:World} {e0:Em} {ds:List Deferred} {S:Nat->Prop} {p:Nat} {e:Em} {a:Act} {w:World} {cn:Nat->Nat}
theorem Inv.congr {S':Nat->Prop}(I:Inv P n ops B t0 HB HH V X F W e0 ds S p e a w cn)(h:∀j,S j↔S' j):Inv P n ops B t0 HB HH V X F W e0 ds S' p e a w cn:=by have:S=S':=funext λj=>propext (h j);rw[<-this];exact I
theorem Inv.final (R:sQ P cf n ops B t0 H0 TP TE HB HH V X)(I:Inv P n ops B t0 HB HH V X F W e0 ds S p e a w cn)(mP:∀j,j<ops.size->S j)(hS:∀j,S j->j<ops.size):
  ∃e',e0.le e'/\RH P.globals.size F W e' (HH ops.size) w/\TR e' n (TE ops.size) a/\a.defers=ds:=by
 obtain⟨k,hk⟩:∃k,ops.size=p+k:=⟨ops.size-p,by have:=I.pN;omega⟩;obtain⟨e',he,hr,hv⟩:=I.Qu R k zzz λj o h1 h2 h3 h4=>⟨λh5=>by have:=(I.dS j o h3 h4 h5).1 (mP j zzz);omega,λ_=>mP j zzz⟩;rw[<-hk] at hr hv;refine⟨e',Em.le_trans I.le he,?_,⟨I.G8,λd=>?_⟩,I.defers⟩;·have hw:=hr.weaken (F':=F) λq hq=>.inl hq;exact hw.Zf (λq hq=>⟨(hw.frame q hq).1,I.frame q hq⟩) (λi o ho hwr hq=>(hw.obj i o ho).2.choose_spec.2.2 hwr hq) I.os I.tape I.output I.size
 ·obtain⟨v1,v2⟩:=R.aI ops.size (aaO _) d;by_cases hex:∃j o',j<ops.size/\ops[j]?=some o'/\o'.dst=some d
  ·obtain⟨j,o',hj,iW,gz⟩:=hex;rw[(v1 j o' hj iW gz).2,af7];by_cases hp:mW P ops X S p j;·obtain⟨q1,q2,q3,o3,q4,q5⟩:=hp;rw[iW] at q4;cases q4;exact hv j o' d q2 hj iW q3 q5 gz
   ·exact (I.val j o' d iW (mP j hj) gz hp).mono he
  ·rw[(v2 λj o' hj iW gz=>hex ⟨j,o',hj,iW,gz⟩).2];exact (I.Ko d λj o' iW wN gz=>hex ⟨j,o',hS j wN,iW,gz⟩).mono he
theorem asK (iZ:xN P cf)(R:sQ P cf n ops B t0 H0 TP TE HB HH V X){Q:Exit->Act->World->Prop}
  (hQ:∀e' a' w',e0.le e'->RH P.globals.size F W e' (HH ops.size) w'->TR e' n (TE ops.size) a'->a'.defers=ds->Q .normal a' w'):
  ∀(fuel:Nat) (listed:Array Bool) (p:Nat) (e:Em) (a:Act) (w:World) (cn:Nat->Nat),listed.size=ops.size->
   Inv P n ops B t0 HB HH V X F W e0 ds (λj=>listed.getD j false=true) p e a w cn->(List.range ops.size).countP (λj=>!(listed.getD j false))<=fuel->
   wpAny P .any ops Q fuel listed a w:=by
 have eE:∀(listed:Array Bool) (j:Nat),listed.size=ops.size->(listed.getD j true=false↔j<ops.size/\¬listed.getD j false=true):=by
  intro listed j hs;simp only[afI];by_cases hj:j<listed.size;·rw[ahi hj];simp;omega
  ·rw[Array.getElem?_eq_none zzz];simp;omega
 have De:∀(listed:Array Bool),listed.size=ops.size->∀j,listed.getD j false=true->j<ops.size:=by
  intro listed hs j hj;rcases alV j listed.size with q|q;·omega
  ·rw[afI,Array.getElem?_eq_none q] at hj;cases hj
 have finish:∀(listed:Array Bool) (p:Nat) (e:Em) (a:Act) (w:World) (cn:Nat->Nat),listed.size=ops.size->Inv P n ops B t0 HB HH V X F W e0 ds (λj=>listed.getD j false=true) p e a w cn->
   Region.ready .any ops listed=[]->Q .normal a w:=by
  intro listed p e a w cn hs I yt;have mP:∀j,j<ops.size->listed.getD j false=true:=by
   intro j;induction j using Nat.strongRecOn with
   |_ j ih=>
    intro hj;by_cases hl:listed.getD j false=true;·exact hl
    ·exfalso;have:j∈Region.ready .any ops listed:=by rw[mem_ready];refine⟨(eE listed j hs).2 ⟨hj,hl⟩,_,ahi hj,λe he hb=>?_⟩;have:=R.form.back j _ (ahi hj) e he hb;exact ih e.on this zzz
     rw[yt] at this;cases this
  obtain⟨e',h1,h2,h3,h4⟩:=I.final R mP (De listed hs);exact hQ e' a w h1 h2 h3 h4
 intro fuel;induction fuel with
 |zero=>
  intro listed p e a w cn hs I hc;have yt:Region.ready .any ops listed=[]:=by
   cases hq:Region.ready .any ops listed with
   |nil=>rfl|cons j l=>
    exfalso;have hm:j∈Region.ready .any ops listed:=by rw[hq];exact List.mem_cons_self ..
    rw[mem_ready] at hm;obtain⟨h1,h2⟩:=(eE listed j hs).1 hm.1;have:0<(List.range ops.size).countP (λj=>!(listed.getD j false)):=List.countP_pos_iff.2 ⟨j,by simpa using h1,by simpa using h2⟩;omega
  exact⟨yt,finish listed p e a w cn hs I yt⟩
 |succ fuel ih=>
  intro listed p e a w cn hs I hc;refine⟨finish listed p e a w cn hs I,λi hi=>?_⟩;rw[mem_ready] at hi;obtain⟨h0,o,ho,Vb⟩:=hi;obtain⟨aR,hS⟩:=(eE listed i hs).1 h0;have hr:∀j,(B.getD i 0).testBit j=true->listed.getD j false=true:=by
   intro j hj;obtain⟨ed,h1,h2,h3⟩:=R.form.bit i o ho j hj;have h4:=Vb ed h1 h2;rcases h3 with h3|h3;·rw[h3];exact h4
   ·exact I.down ed.on j h4 h3
  have fY:∀j,(listed.setIfInBounds i true).getD j false=true↔(listed.getD j false=true\/j=i):=by
   intro j;by_cases hj:j=i;·subst hj;simp[afI,ai0 (show j<listed.size by omega)]
   ·rw[getD_set_ne false (λq=>hj q.symm)];simp[hj]
  have azA:(List.range ops.size).countP (λj=>!((listed.setIfInBounds i true).getD j false))<=fuel:=by
   have:=anw (p:=λj=>!((listed.setIfInBounds i true).getD j false)) (q:=λj=>!(listed.getD j false)) (a:=i) (by
    intro x hx;cases hq:listed.getD x false with
    |false=>rfl|true=>have:=(fY x).2 (.inl hq);rw[this] at hx;cases hx) (by
    cases hq:listed.getD i false with
    |false=>rfl|true=>exact absurd hq hS) (by rw[(fY i).2 (.inr rfl)];rfl) (List.range ops.size) (by simpa using aR)
   omega
  have next:∀p' e' a' w' VU,Inv P n ops B t0 HB HH V X F W e0 ds (λj=>listed.getD j false=true\/j=i) p' e' a' w' VU->wpAny P .any ops Q fuel (listed.setIfInBounds i true) a' w':=
   λp' e' a' w' VU I'=>ih _ p' e' a' w' VU (by simpa using hs) (I'.congr λj=>(fY j).symm) azA
  obtain⟨hw,aC⟩:=R.step i o ho;have hgd:∀d,Ll ops o=some d->VR e (((TP i).get d).getD bS) (a.tmps.getD d undef):=λd hd=>I.read R ho hS hr (by unfold JP;rw[hd];simp);have RE:=QK (e:=e) (a:=a) hw hgd;have anp:∀x∈o.op.operands.toList,VR e (ev P.globals.size (TP i) x) (a.eval x):=λx hx=>aeT I.rh λd hd=>I.read R ho hS hr (ahp (hd▸hx));unfold wpOp;simp only[ho];cases hX:X i with
  |false=>
   rw[hX] at aC RE;rw[RE];simp only[aa8,if_false];refine next p e _ w cn (I.quiet R ho hS hr (by rw[hX];simp) e.le_refl I.rh ?_)
   rw[aC.1];exact VR.undef
  |true=>
   rw[hX] at aC RE;rw[RE];simp only[if_true];left;have awJ:∀j oj,ops[j]?=some oj->X j=true->kd P oj=.dS->p<=j->j<i->kd P o=.dS->False:=by intro j oj h1 h2 h3 h4 h5 h6;have:=hr j (R.d1 i o ho hX h6 j oj h1 h2 (.inl h3) h5);have:=(I.dS j oj h1 h2 h3).1 this;omega
   cases cG:kd P o<;>rw[cG] at aC
   ·obtain⟨⟨h',aS⟩,_⟩:=aC;have Sf:=aF8 cG aS (HB p);have ZM:vL P cf (TP i) o (HB p)=some (V i,HB p):=by
     unfold vL;split;·rename_i f args cI hq;unfold kd at cG;rw[hq] at cG;cases cG
     ·exact Sf
    refine M4 iZ I.rh ZM anp ?_;intro e' v' w' he hR hv;exact next p e' _ w' cn (I.quiet R ho hS hr (λ_=>by rw[cG];simp) he hR hv)
   ·obtain⟨⟨h',aS⟩,_⟩:=aC;have uX:∃h'',jJ P (ev P.globals.size (TP i)) o (HB p)=some (V i,h''):=by
     by_cases rz:p<=i
     ·by_cases hex:∃j oj,p<=j/\j<i/\ops[j]?=some oj/\X j=true/\kd P oj=.dS
      ·have asO:∃j oj,p<=j/\j<i/\ops[j]?=some oj/\X j=true/\kd P oj=.dS/\∀j' tf,p<=j'->j'<j->ops[j']?=some tf->X j'=true->kd P tf ≠ .dS:=by
        obtain⟨j,hj⟩:=hex;induction j using Nat.strongRecOn with
        |_ j ihj=>
         obtain⟨oj,h1,h2,h3,h4,h5⟩:=hj;by_cases hm:∃j' tf,p<=j'/\j'<j/\ops[j']?=some tf/\X j'=true/\kd P tf=.dS;·obtain⟨j',tf,g1,g2,g3,g4,g5⟩:=hm;exact ihj j' g2 ⟨tf,g1,zzz,g3,g4,g5⟩
         ·exact⟨j,oj,h1,h2,h3,h4,h5,λj' tf g1 g2 g3 g4 g5=>hm ⟨j',tf,g1,g2,g3,g4,g5⟩⟩
       obtain⟨j,oj,h1,h2,h3,h4,h5,h6⟩:=asO;have Z0:HB j=HB p:=by obtain⟨k,rfl⟩:∃k,j=p+k:=⟨j-p,zzz⟩;exact R.aeA p k zzz λj' tf g1 g2 g3 g4=>h6 j' tf g1 g2 g3 g4
       rcases R.d3 j oj h3 h4 h5 i o ho hX cG h2 with q|q;·exfalso;have:=(I.dS j oj h3 h4 h5).1 (hr j q);omega
       ·rw[<-Z0];exact q
      ·have Z0:HB i=HB p:=by obtain⟨k,rfl⟩:∃k,i=p+k:=⟨i-p,zzz⟩;exact R.aeA p k zzz λj' tf g1 g2 g3 g4 g5=>hex ⟨j',tf,g1,g2,g3,g4,g5⟩
       rw[<-Z0];exact⟨h',aS⟩
     ·have hex:∃j oj,i<j/\j<p/\ops[j]?=some oj/\X j=true/\kd P oj=.dS/\HB (j+1)=HB p:=by
       rcases I.pe with q|⟨j,oj,q1,q2,q3,q4⟩;·omega
       ·refine⟨j,oj,?_,zzz,q2,q3,q4,by rw[q1]⟩;rcases alV i j with q|q;·exact q
        ·have:i=j:=zzz;subst this;rw[ho] at q2;cases q2;rw[cG] at q4;cases q4
      obtain⟨j,oj,h1,h2,h3,h4,h5,h6⟩:=hex;rcases R.d2 j oj h3 h4 h5 i o ho hX cG h1 with q|q;·exfalso;exact hS (I.down j i ((I.dS j oj h3 h4 h5).2 h2) q)
      ·rw[<-h6];exact q
    obtain⟨h'',Sf⟩:=uX;have ot:=al4 (.inr cG) Sf;subst ot;have ZM:vL P cf (TP i) o (HB p)=some (V i,HB p):=by
     unfold vL;split;·rename_i f args cI hq;unfold kd at cG;rw[hq] at cG;cases cG
     ·exact Sf
    refine M4 iZ I.rh ZM anp ?_;intro e' v' w' he hR hv;exact next p e' _ w' cn (I.quiet R ho hS hr (λ_=>by rw[cG];simp) he hR hv)
   ·obtain⟨hA,_⟩:=aC;have rz:p<=i:=by
     rcases alV i p with q|q
     ·exfalso;rcases I.pe with r|⟨j,oj,q1,q2,q3,q4⟩;·omega
      ·have mO:i<j:=by
        rcases alV i j with q'|q';·exact q'
        ·have:i=j:=zzz;subst this;rw[ho] at q2;cases q2;rw[cG] at q4;cases q4
       have wN:=(I.dS j oj q2 q3 q4).2 zzz;exact hS (I.down j i wN (R.d1 j oj q2 q3 q4 i o ho hX (.inr cG) mO))
     ·exact q
    obtain⟨ob,val,dr,mK,Ob⟩:=azp (a:=a) (w:=w) cG hA;have hI:=I.late R ho hS hr hX cG rz (dr:=dr) Ob;unfold Oper.wp;rw[mK];exact next p e _ _ _ hI
   ·obtain⟨aS,_,_,hhb⟩:=aC;have rz:p<=i:=by
     rcases alV i p with q|q;·exact absurd ((I.dS i o ho hX cG).2 q) hS
     ·exact q
    obtain⟨k,hk⟩:∃k,i=p+k:=⟨i-p,zzz⟩;have aae:∀j oj,p<=j->j<i->ops[j]?=some oj->X j=true->kd P oj ≠ .dS/\(kd P oj=.late->listed.getD j false=true):=
     λj oj h1 h2 h3 h4=>⟨λh5=>awJ j oj h3 h4 h5 h1 h2 cG,λh5=>hr j (R.d1 i o ho hX cG j oj h3 h4 (.inr h5) h2)⟩
    obtain⟨e1,u7,jL,oV⟩:=I.Qu R k zzz (by rw[<-hk];exact aae);rw[<-hk] at jL oV;have aAX:∀x∈o.op.operands.toList,VR e1 (ev P.globals.size (TE i) x) (a.eval x):=by
     intro x hx;refine aeT jL λd hd=>?_;subst hd;have yt:=ahp (ops:=ops) hx;obtain⟨v1,v2⟩:=R.aI i (amU aR) d;by_cases hex:∃j o',j<i/\ops[j]?=some o'/\o'.dst=some d
     ·obtain⟨j,o',hj,iW,gz⟩:=hex;rw[(v1 j o' hj iW gz).2,af7];have wN:listed.getD j false=true:=by have:=R.form.rd j i o' o d iW ho gz zzz yt;rw[zz2 hj] at this;exact hr j this
      by_cases hp:mW P ops X (λj=>listed.getD j false=true) p j;·obtain⟨q1,q2,q3,o3,q4,q5⟩:=hp;rw[iW] at q4;cases q4;exact oV j o' d q2 hj iW q3 q5 gz
      ·exact (I.val j o' d iW wN gz hp).mono u7
     ·rw[(v2 λj o' hj iW gz=>hex ⟨j,o',hj,iW,gz⟩).2];refine (I.Ko d λj o' iW wN gz=>?_).mono u7;by_cases yz:j<i;·exact hex ⟨j,o',yz,iW,gz⟩
      ·by_cases Dc:j=i;·subst Dc;exact hS wN
       ·have:=R.form.rd j i o' o d iW ho gz Dc yt;rw[zz1 zzz] at this;exact hS (I.down j i wN this)
    refine M4 iZ jL aS aAX ?_;intro e' v' w' he hR hv;exact next (i+1) e' _ w' cn (I.effect R ho hS hr hX cG rz u7 oV he hR hv)
end
end
section
variable {P:Program}{cf:CF}{F:Nat->Prop}{W:World}{e:Em}{H:Hp}{w:World}
section
variable {H H':Hp}{Q:Exit->Act->World->Prop}{a:Act}{args:List AV}{as':Array Value}{c:Code}{fn:Func}{t':Tm}{w:World}
theorem aeB {s:me}(h:xK P s H=true):∃h',jJ P (ev P.globals.size s.t) s.o H=some (s.v,h'):=by
 unfold xK at h;split at h;·rename_i v' h' hv;rw[axn h];exact⟨h',hv⟩
 ·cases h
theorem akH (hm:P.follows .mixedOrders=true)(iZ:xN P cf){ops:Array Oper}{n id:Nat}{t:Tm}(hd:F7 P cf n ops t H=some (t',H'))(hR:RH P.globals.size F W e H w)(hT:TR e n t a)
  (hQ:∀e' a' w',e.le e'->RH P.globals.size F W e' H' w'->TR e' n t' a'->a'.defers=a.defers->Q .normal a' w'):(Code.region id ops true).wp P Q a w:=by
 unfold F7 at hd;cases GR:AL ops with
 |false=>rw[GR] at hd;cases hd
 |true=>
 rw[GR] at hd;simp only[cond_true] at hd;split at hd
 ·rename_i l tF HF mK;cases ND:Gd P l with
  |false=>rw[ND] at hd;cases hd
  |true=>
  rw[ND] at hd;cases hd;have aFn:=aA3 GR;obtain⟨TP,TE,HB,HH,V,X,q1,q2,q3,q4,q5,q6,q7⟩:=aHS (B:=before ops.toList []) ops.toList (before ops.toList []) 0 t t H H l zzy zzy mK;rw[ade,alU] at q5 q6;unfold Gd at ND;rw[acT] at ND;have pair:∀i oi,ops[i]?=some oi->X i=true->kd P oi=.dS->∀j oj,ops[j]?=some oj->X j=true->
    ((kd P oj=.dS\/kd P oj=.late)->(!(Nat.blt j i)||((before ops.toList []).getD i 0).testBit j)=true)/\
    (kd P oj = .read->(bif Nat.blt j i then ((before ops.toList []).getD i 0).testBit j||xK P ⟨j,oj,(before ops.toList []).getD j 0,X j,kk P (X j) oj,V j,TP j,HB j,HB (j+1)⟩ (HB (i+1)) else
     ((before ops.toList []).getD j 0).testBit i||xK P ⟨j,oj,(before ops.toList []).getD j 0,X j,kk P (X j) oj,V j,TP j,HB j,HB (j+1)⟩ (HB i))=true):=by
   intro i oi hi hx hk j oj hj yg;have h1:=ND _ (q7 i oi (aa7 _) hi).2;simp only[kk,hx,if_true,hk,acT] at h1;have h2:=h1 _ (q7 j oj (aa7 _) hj).2;simp only[kk,yg,if_true] at h2⊢;constructor;·intro uB;rcases uB with uB|uB<;>(rw[uB] at h2;exact h2)
   ·intro uB;rw[uB] at h2⊢;exact h2
  have aFI:sQ P cf n ops (before ops.toList []) t H TP TE HB HH V X:=by
   refine⟨aFn,q1,q2,q3,q4,λj o ho=>(q7 j o (aa7 _) ho).1,?_,?_,?_⟩
   ·intro i oi hi hx hk j oj hj yg uB aR;have:=(pair i oi hi hx hk j oj hj yg).1 uB;have hb:Nat.blt j i=true:=by rw[adW];exact aR
    rw[hb] at this;simpa using this
   ·intro i oi hi hx hk j oj hj yg uB aR;have:=(pair i oi hi hx hk j oj hj yg).2 uB;have hb:Nat.blt j i=true:=by rw[adW];exact aR
    rw[hb] at this;simp only[cond_true,aiK] at this;exact this.imp (λq=>q) aeB
   ·intro i oi hi hx hk j oj hj yg uB aR;have:=(pair i oi hi hx hk j oj hj yg).2 uB;have hb:Nat.blt j i=false:=by
     cases hb:Nat.blt j i;·rfl
     ·rw[adW] at hb;omega
    rw[hb] at this;simp only[cond_false,aiK] at this;exact this.imp (λq=>q) aeB
  refine wp_region_any hm ?_;have Kc:∀j,(Array.replicate ops.size false).getD j false=true->False:=by intro j hj;rw[afI,Array.getElem?_replicate] at hj;split at hj<;>simp at hj
  have AI:=(hR.drawn (w.drawn+1));refine asK (F:=F) (W:=W) (e0:=e) (ds:=a.defers) iZ aFI (by rw[q5,q6];exact hQ) ops.size (Array.replicate ops.size false) 0 e a {w with drawn:=w.drawn+1} (λ_=>0) zzy ?_ (by have:=List.countP_le_length (p:=λj=>!((Array.replicate ops.size false).getD j false)) (l:=List.range ops.size);simpa using this);refine⟨aa7 _,by rw[q3,q4],.inl rfl,λi j h=>(Kc i h).elim,λi o _ _ _=>⟨λh=>(Kc i h).elim,λh=>zzz⟩,?_,λk hk=>(AI.frame k hk).2,hR.os,hR.tape,hR.output,hR.size,
   λj hj=>(Kc j hj.1).elim,λi j hi=>(Kc i hi.1).elim,λj o d _ h=>(Kc j h).elim,λd _=>hT.val d,hT.size,e.le_refl,rfl⟩
  rw[q3];refine (AI.weaken λk hk=>?_).PN;rcases hk with hk|⟨j,hj,_⟩;·exact hk
  ·exact (Kc j hj.1).elim
 ·cases hd
def Fi (P:Program)(c:Code)(Q:Exit->Act->World->Prop)(a:Act)(w:World):Prop:=
 ∀(b:Frame) (k:List Item) (cs:List Frame),∃e a' w',Q e a' w'/\Arrives P (lone (b.at a (.code c :: .inLoop c::k)) cs w) b k cs e a' w'
theorem alQ (h:Fi P c Q a w):(Code.loop c).wp P Q a w:=
 λb k cs=>let ⟨e,a',w',q,r⟩:=h b k cs;⟨e,a',w',q,.of_steps (.one step_loop) r⟩
theorem afh (h:c.wp P (Exit.then (Fi P c Q) Q) a w):Fi P c Q a w:=by
 intro b k cs;obtain⟨e,a₁,w₁,hq,IU⟩:=h b (.inLoop c::k) cs;cases e with
 |normal=>
  obtain⟨e₂,a₂,w₂,hq₂,aEu⟩:=hq b k cs;exact⟨e₂,a₂,w₂,hq₂,.of_steps (Steps.trans IU (.one step_inLoop)) aEu⟩
 |exit id=>exact⟨_,a₁,w₁,hq,.pass (x:=.inLoop c) rfl (λ_ _=>.inl zzy) IU⟩|goto l=>exact⟨_,a₁,w₁,hq,.pass (x:=.inLoop c) rfl (λ_ _=>.inl zzy) IU⟩|ret=>exact⟨_,a₁,w₁,hq,.pass (x:=.inLoop c) rfl (λ_ _=>.inl zzy) IU⟩|panic ch=>exact⟨_,a₁,w₁,hq,.pass (x:=.inLoop c) rfl (λ_ _=>.inl zzy) IU⟩|outgrown=>exact⟨_,a₁,w₁,hq,.pass (x:=.inLoop c) rfl (λ_ _=>.inl zzy) IU⟩
def xit:X->Exit
 |.normal=>.normal|.exit i=>.exit i|.ret=>.ret
def COK (P:Program)(run:Nat->Code->Tm->Hp->Option (X×Tm×Hp)):Prop:=
 ∀(n:Nat) (c:Code) (t:Tm) (H:Hp) (x:X) (t':Tm) (H':Hp),run n c t H=some (x,t',H')->
  ∀(F:Nat->Prop) (W:World) (e:Em) (a:Act) (w:World) (Q:Exit->Act->World->Prop),RH P.globals.size F W e H w->TR e n t a->
   (∀e' a' w',e.le e'->RH P.globals.size F W e' H' w'->TR e' n t' a'->a'.defers=a.defers->Q (xit x) a' w')->
   c.wp P Q a w/\∀b,c=.loop b->Fi P b Q a w
theorem aq8 (h:RH P.globals.size F W e H w){t:TypeId}{a v:AV}{a':Value}(ha:VR e a a')(hl:wC P H t a=some v):
  ∃ad v',a'=.pointer (some ad)/\(loadVar t ad).run P w=.ok v' w/\VR e v v':=by
 obtain⟨v',h1,h2⟩:=aek h ha hl;unfold wC at hl;split at hl;·obtain⟨o,hi,ho,rfl⟩:=ha.vP;refine⟨_,v',rfl,?_,h2⟩;simpa[Instr.loadAt,Instr.sureAddr] using h1
 ·cases hl
theorem abC (h:RH P.globals.size F W e H w){n:Nat}{t:Tm}{a:Act}(ht:TR e n t a):∀(l:List ResultVar) (vs:List AV),xF P t H l=some vs->
  ∃ws,(l.mapM (λ(r:ResultVar)=>match r with|.tmp t=>(Pure.pure (a.tmps.getD t undef):Sem Value)|.cell ad ty=>do loadVar ty (<-asAddr (a.tmps.getD ad undef)))).run P w=.ok ws w/\aW e vs ws
 |[],vs,hr=>by cases hr;exact⟨[],zzy,.nil e⟩
 |.tmp x::l,vs,hr=>by
  unfold xF at hr;split at hr;·rename_i l' qZ;cases hr;obtain⟨ws,h1,h2⟩:=abC h ht l l' qZ;exact⟨a.tmps.getD x undef::ws,by rw[List.mapM_cons,Sem.run_bind,Sem.run_pure,Result.andThen_ok,Sem.run_bind,h1];rfl,.cons (ht.val x) h2⟩
  ·cases hr
 |.cell ad ty::l,vs,hr=>by
  unfold xF at hr;split at hr
  ·rename_i v l' hv qZ;cases hr;obtain⟨ws,h1,h2⟩:=abC h ht l l' qZ;obtain⟨p,v',h3,h4,h5⟩:=aq8 h (ht.val ad) hv;refine⟨v'::ws,?_,.cons h5 h2⟩;rw[List.mapM_cons,Sem.run_bind];have:(do loadVar ty (<-asAddr (a.tmps.getD ad undef)):Sem Value).run P w=.ok v' w:=by rw[h3];simp[asAddr,h4]
   rw[this,Result.andThen_ok,Sem.run_bind,h1];rfl
  ·cases hr
theorem abG (h:RH P.globals.size F W e H w){n:Nat}{t:Tm}(ht:TR e n t a){vs:List AV}(hr:xF P t H fn.results.toList=some vs):
  ∃v,(results fn a.tmps).run P w=.ok v w/\VR e (Rm vs) v:=by
 obtain⟨ws,h1,h2⟩:=abC h ht _ _ hr;have hm:(fn.results.mapM (λ(r:ResultVar)=>match r with|.tmp t=>(Pure.pure (a.tmps.getD t undef):Sem Value)|.cell ad ty=>do loadVar ty (<-asAddr (a.tmps.getD ad undef)))).run P w=.ok ws.toArray w:=by rw[<-Array.toArray_toList (xs:=fn.results),List.mapM_toArray,Sem.run_map,h1];rfl
 unfold results;have oa:(fn.results.mapM fun
  |.tmp t=>Pure.pure (a.tmps.getD t undef)|.cell ad t=>do loadVar t (<-asAddr (a.tmps.getD ad undef)):Sem (Array Value)).run P w=.ok ws.toArray w:=hm
 refine⟨(if h:ws.toArray.size=1 then ws.toArray[0] else .tuple ws.toArray),?_,?_⟩;·rw[Sem.run_bind];exact abg (congrArg (λr:Result (Array Value)=>r.andThen (λvs w'=>(Pure.pure (if h:vs.size=1 then vs[0] else .tuple vs):Sem Value).run P w')) oa) rfl
 ·cases vs with
  |nil=>rw[h2.mh];exact .tuple' (.nil e)|cons v r=>
   obtain⟨v',ws',rfl,hv,dH⟩:=h2.cons_inv;cases r with
   |nil=>rw[dH.mh];exact hv|cons v2 r2=>
    obtain⟨Jc,ws2,rfl,vD,rI⟩:=dH.cons_inv;have:¬(v'::Jc::ws2).toArray.size=1:=zzy;rw[dif_neg this];exact .tuple' h2
def MX:Ext->Array Value->Sem Value
 |.same=>Extern.AbiNoEscape.same|.MO t=>Extern.BytealgMakeNoZero.makeNoZero #[] #[t]|.T9=>Extern.BytealgIndexByte.indexByte|.count=>Extern.BytealgCount.count
def Bg (P:Program)(ext:Nat->Option Ext):Prop:=
 ∀aU k,ext aU=some k->∀(as':Array Value) (w:World),(callFunc aU as').run P w=(do Pure.pure (Next.value (<-MX k as')):Sem Next).run P w
def xe (P:Program)(bH:Nat->Option Prim):Prop:=
 ∀aU p,bH aU=some p->∀(args:List AV) (H:Hp) (v:AV) (H':Hp),p args H=some (v,H')->
  ∀(F:Nat->Prop) (W:World) (e:Em) (w:World) (as':Array Value),RH P.globals.size F W e H w->aW e args as'.toList->
   (callFunc aU as').run P w=.ok (.enter aU as') w/\Calls P aU as' w (I5 P.globals.size F W e v H')
def qR (P:Program):Prop:=(P.funcs.toList.all λfn=>fn.body.isNone||fn.name != "runtime.NumGoroutine")=true
theorem Ba (hN:qR P){aU:Nat}{b:Code}(hf:P.funcs[aU]?=some fn)(hb:fn.body=some b)(as':Array Value)(w:World):(callFunc aU as').run P w=.ok (.enter aU as') w:=by
 have hn:(fn.name == "runtime.NumGoroutine")=false:=by unfold qR at hN;rw[acT] at hN;have:=hN fn (by have:=Array.mem_of_getElem? hf;simpa using this);rw[hb] at this;simp at this;simp[this]
 unfold callFunc;rw[Sem.run_bind,run_program,Result.andThen_ok];simp only[hf,hn,aa8,if_false,hb,Option.isNone_some];rfl
theorem ag2:∀(n t:Nat) (acc:Array Value),(Extern.BytealgMakeNoZero.digits n t acc).size=acc.size+n
 |0,t,acc=>rfl|n+1,t,acc=>by rw[Extern.BytealgMakeNoZero.digits,ag2 n];simp;omega
theorem ajY (c:UInt8):∀(l:List UInt8) (k:Nat) (q:Nat->Bool),(∀(j:Nat) (h:j<l.length),q (k+j)=(l[j]==c))->(List.range' k l.length).find? q=lT c.toNat (l.map (·.toNat)) k
 |[],k,q,_=>rfl|b::l,k,q,h=>by
  have h0:=h 0 zzy;simp only[aed,List.getElem_cons_zero] at h0;have e:(b==c)=Nat.beq b.toNat c.toNat:=by rw[ank,Nat.beq_eq];simp[UInt8.toNat_inj]
  rw[aaP,List.range'_succ,List.find?_cons,h0,aby,lT,e];cases Nat.beq b.toNat c.toNat with
  |true=>rfl|false=>
   simp only[cond_false];refine ajY c l (k+1) q (λj hj=>?_);have:=h (j+1) (by simp;omega);rw[show k+1+j=k+(j+1) by omega,this,List.getElem_cons_succ]
theorem anv (c:UInt8):∀l:List UInt8,Lib.countByte l c=iE c.toNat (l.map (·.toNat))
 |[]=>rfl|b::l=>by
  have e:(b==c)=Nat.beq b.toNat c.toNat:=by rw[ank,Nat.beq_eq];simp[UInt8.toNat_inj]
  have ih:=anv c l;unfold Lib.countByte at ih⊢;rw[List.count_cons,aby,iE,e,ih];cases Nat.beq b.toNat c.toNat<;>rfl
theorem firstIdx_eq (s:ByteArray)(c:UInt8):firstIdx s c=(match lT c.toNat (bytes s) 0 with|some i=>(i:Int)|none=>-1):=by
 have hs:s.size=s.data.toList.length:=(alU).symm;have h:=ajY c s.data.toList 0 (λi=>s[i]! == c) (λj hj=>by
  have lL:j<s.size:=by rw[hs];exact hj
  simp only[ade];rw[getElem!_pos s j lL];have e:s[j]=s.data.toList[j]:=by rw[Array.getElem_toList];rfl
  rw[e])
 unfold firstIdx;rw[List.range_eq_range',hs,h];rfl
theorem ans (h:RH P.globals.size F W e H w){k:Ext}{v:AV}(ha:aW e args as'.toList)(hx:ID P k args H=some (v,H')):
  ∃v' w' e',(MX k as').run P w=.ok v' w'/\e.le e'/\RH P.globals.size F W e' H' w'/\VR e' v v':=by
 unfold ID at hx;split at hx;·cases hx;obtain⟨x',r,h1,h2,h3⟩:=ha.cons_inv;rw[h3.mh] at h1;obtain rfl:as'=#[x']:=adT.1 h1;exact⟨x',w,e,rfl,e.le_refl,h,h2⟩
 ·rename_i t n;obtain⟨x',r,h1,h2,h3⟩:=ha.cons_inv;rw[h3.mh] at h1;obtain rfl:as'=#[x']:=adT.1 h1;cases h2.ij;split at hx
  ·rename_i el hu;split at hx
   ·rename_i hn;simp only[aaq,abW] at hx;obtain⟨⟨i,H2⟩,cF,rfl,rfl⟩:=hx;let w1:World:={w with drawn:=w.drawn+1};let cap:=(Question.appendCap n.toNat 0 el).cut (w.tape w.drawn (.appendCap n.toNat 0 el));have jC:n.toNat<=cap:=Nat.le_add_right _ _;let bs:=(Question.extern "internal/bytealg.MakeNoZero.bytes" 0).cut (w1.tape w1.drawn (.extern "internal/bytealg.MakeNoZero.bytes" 0));let row:=(Extern.BytealgMakeNoZero.digits cap bs #[]);have I0:row.size=cap:=by rw[ag2];simp
    have hl:aW e (List.replicate n.toNat AV.dG) (row.toList.take n.toNat):=by
     refine⟨by simp[I0];omega,λj a b hj hb=>?_⟩;rw[amt] at hj;split at hj;·cases hj;exact .dG _
     ·cases hj
    obtain⟨e',he,g1,g2,g3,g4,qX⟩:=((h.drawn (w.drawn+1)).drawn (w.drawn+1+1)).newRow (rest:=row.toList.drop n.toNat) (fz:=(0,0)) cF hl (λ_=>rfl) zzy;have ax7:(row.toList.take n.toNat++row.toList.drop n.toNat).toArray=row:=by rw[ajx]
    have hlen:(row.toList.take n.toNat++row.toList.drop n.toNat).length=cap:=by rw[ajx];simp[I0]
    refine⟨.slice (some ⟨w.heap.size,0,none⟩) n.toNat cap,_,e',?_,he,qX,VR.FF g2 g1 (by rw[g3];simp) jC jC zzy (by rw[g4,hlen];omega)⟩;rw[ax7];have ahI:¬(n<0\/n>2^48):=zzz;have att:(decide (n<0)||decide (n>2^48))=false:=by simp;omega
    have f1:(Question.appendCap n.toNat 0 el).forced=false:=rfl;have f2:(Question.extern "internal/bytealg.MakeNoZero.bytes" 0).forced=false:=rfl;have Cb:MX (.MO t) #[.int .i64 n]=(do
      let some t:=(#[t]:Array TypeId)[0]?|stuck "bytealg.MakeNoZero: no result type"
      let .slice elem <-underlying t|stuck "bytealg.MakeNoZero: slice type expected"
      if n<0||n>2^48 then runtimePanic (.error "makeslice: len out of range")
      let cap <-choose (.appendCap n.toNat 0 elem)
      askRoom cap
      let bytes <-choose (.extern "internal/bytealg.MakeNoZero.bytes" 0)
      let a <-newRow elem (Extern.BytealgMakeNoZero.digits cap bytes #[])
      Pure.pure (.slice (some a) n.toNat cap):Sem Value):=rfl
    rw[Cb];simp only[ae8,ada,Sem.run_bind,aL hu,Result.andThen_ok,att,aa8,if_false,run_choose,f1,f2,run_askRoom,newRow,run_newObj,Sem.run_pure];rfl
   ·cases hx
  ·cases hx
 ·rename_i s n;cases hx;obtain⟨x',r,h1,h2,h3⟩:=ha.cons_inv;obtain⟨y',r2,h4,h5,h6⟩:=h3.cons_inv;rw[h4,h6.mh] at h1;obtain rfl:as'=#[x',y']:=adT.1 h1;cases h5.ij;obtain⟨s',rfl,rfl⟩:=h2.og;refine⟨_,w,e,run_indexByte_string s' n w,e.le_refl,h,?_⟩;rw[firstIdx_eq];have:(n.toNat.toUInt8).toNat=n.toNat%256:=zzy;rw[this];exact .int .i64 _
 ·rename_i s n;cases hx;obtain⟨x',r,h1,h2,h3⟩:=ha.cons_inv;obtain⟨y',r2,h4,h5,h6⟩:=h3.cons_inv;rw[h4,h6.mh] at h1;obtain rfl:as'=#[x',y']:=adT.1 h1;cases h5.ij;obtain⟨s',rfl,rfl⟩:=h2.og;refine⟨_,w,e,Lib.run_countString s' n w,e.le_refl,h,?_⟩;have:(n.toNat.toUInt8).toNat=n.toNat%256:=zzy;rw[anv,this];exact .int .i64 _
 ·cases hx
theorem adb {ext:Nat->Option Ext}{bH:Nat->Option Prim}(hN:qR P)(hE:Bg P ext)(hP:xe P bH){run:Nat->Code->Tm->Hp->Option (X×Tm×Hp)}(mK:COK P run):
  xN P (I4 P ext bH run):=by
 intro g args H v H' hc;unfold I4 at hc;split at hc
 ·rename_i aU first cap
  refine⟨aU,first,cap,rfl,?_⟩;intro F W e w as' hR nH;split at hc;·rename_i p hp;exact .inr (hP aU p hp _ H v H' hc F W e w as' hR nH)
  ·split at hc
   ·rename_i fn hf;split at hc
    ·rename_i b hb;cases hle:(Nat.ble (first++args++cap).length fn.ntmps&&Nat.blt fn.ntmps 4294967296) with
     |false=>rw[hle] at hc;cases hc
     |true=>
     rw[hle] at hc;simp only[cond_true] at hc;rw[aaM,ae2,adW] at hle;refine .inr ⟨Ba hN hf hb as' w,?_⟩;have hlen:as'.size=(first++args++cap).length:=by have:=nH.1;simpa using this
     have hT:TR e fn.ntmps (Tr.cl .nil 0 (first++args++cap)) {tmps:=as'++Array.replicate (fn.ntmps-as'.size) undef,defers:=[]}:=by
      refine⟨by simp;omega,λx=>?_⟩;rw[Tr.JH .nil _ _ _ _ zzz];simp only[ade,aa7,true_and,agA];by_cases hx:x<(first++args++cap).length;·rw[zz2 hx];have h1:(first++args++cap)[x]?=some (first++args++cap)[x]:=aaC hx;obtain⟨v',h2,h3⟩:=nH.get h1;rw[h1,af7,afI,Array.getElem?_append_left zzz,<-ad6,h2];exact h3
      ·rw[zz1 hx];have:(as'++Array.replicate (fn.ntmps-as'.size) undef).getD x undef=undef:=by rw[afI,Array.getElem?_append_right zzz,Array.getElem?_replicate];split<;>rfl
       simp only[this,Tr.get_nil];exact VR.undef
     have fin:∀(x:X) (t2:Tm) (H2:Hp),run fn.ntmps b (Tr.cl .nil 0 (first++args++cap)) H=some (x,t2,H2)->(x=.normal\/x=.ret)->(xF P t2 H2 fn.results.toList).map (λl=>(Rm l,H2))=some (v,H')->
       Calls P aU as' w (I5 P.globals.size F W e v H'):=by
      intro x t2 H2 hr ki GM;simp only[aaq,abW] at GM;obtain⟨vs,vN,rfl,rfl⟩:=GM;refine calls_of_wp hf hb (mK _ _ _ _ _ _ _ hr F W e _ w _ hR hT ?_).1;intro e' a' w' he bp cC hd;obtain⟨u,hu,jt⟩:=abG bp cC vN;rcases ki with rfl|rfl;·exact⟨hd,u,hu,e',u,rfl,he,bp,jt⟩
      ·exact⟨hd,u,hu,e',u,rfl,he,bp,jt⟩
     split at hc;·cases hc
     ·rename_i x t2 H2 aF hr;cases x with
      |normal=>exact fin _ t2 H2 hr (.inl rfl) hc|ret=>exact fin _ t2 H2 hr (.inr rfl) hc|exit i=>exact (aF i rfl).elim
     ·cases hc
    ·rename_i hb;split at hc;·rename_i k hk;obtain⟨v',w',e',h1,h2,h3,h4⟩:=ans hR nH hc;refine .inl ⟨v',w',e',?_,h2,h3,h4⟩;rw[hE aU k hk,Sem.run_bind,h1];rfl
     ·cases hc
   ·cases hc
 ·cases hc
theorem aAj {ext:Nat->Option Ext}{bH:Nat->Option Prim}(hm:P.follows .mixedOrders=true)(hN:qR P)(hE:Bg P ext)(hP:xe P bH):∀f,COK P (code P ext bH f):=by
 intro f;induction f with
 |zero=>intro n c t H x t' H' h;cases h
 |succ f ih=>
  have iZ:xN P (I4 P ext bH (code P ext bH f)):=adb hN hE hP ih;intro n c t H x t' H' hc F W e a w Q hR hT hQ;unfold code at hc;split at hc;·cases hc;exact⟨wp_skip (hQ e a w e.le_refl hR hT rfl),by intro b q;cases q⟩
  ·cases hc;exact⟨wp_label (hQ e a w e.le_refl hR hT rfl),by intro b q;cases q⟩
  ·rename_i c1 c2;refine⟨wp_seq ?_,by intro b q;cases q⟩;split at hc;·rename_i t1 H1 h1;refine (ih _ _ _ _ _ _ _ h1 F W e a w _ hR hT ?_).1;intro e' a' w' he bp cC hd;refine (ih _ _ _ _ _ _ _ hc F W e' a' w' _ bp cC ?_).1;intro e2 a2 w2 GU mA zU wO;exact hQ e2 a2 w2 (Em.le_trans he GU) mA zU (wO.trans hd)
   ·rename_i aF;refine (ih _ _ _ _ _ _ _ hc F W e a w _ hR hT ?_).1;intro e' a' w' he bp cC hd;have:=hQ e' a' w' he bp cC hd;cases x with
    |normal=>exact absurd hc (aF t' H')|exit i=>exact this|ret=>exact this
  ·rename_i cc c1 c2;split at hc
   ·rename_i b hb;have hv:=VR.ev hR hT cc;rw[hb] at hv;have bQ:=hv.y7;refine⟨wp_cond bQ ?_,by intro b q;cases q⟩;cases b with
    |true=>exact (ih _ _ _ _ _ _ _ hc F W e a w Q hR hT hQ).1|false=>exact (ih _ _ _ _ _ _ _ hc F W e a w Q hR hT hQ).1
   ·cases hc
  ·rename_i i b;refine⟨wp_block ?_,by intro b q;cases q⟩;split at hc
   ·rename_i j t1 H1 h1;refine (ih _ _ _ _ _ _ _ h1 F W e a w _ hR hT ?_).1;intro e' a' w' he bp cC hd;show Exit.inBlock i Q (.exit j) a' w';cases hj:Nat.beq j i with
    |true=>
     rw[hj] at hc;cases hc;simp only[Exit.inBlock,aa9 hj,if_true];exact hQ e' a' w' he bp cC hd
    |false=>
     rw[hj] at hc;cases hc;have aF:¬j=i:=λq=>by rw[q,ait] at hj;cases hj
     simp only[Exit.inBlock,zz1 aF];exact hQ e' a' w' he bp cC hd
   ·rename_i aF;refine (ih _ _ _ _ _ _ _ hc F W e a w _ hR hT ?_).1;intro e' a' w' he bp cC hd;have:=hQ e' a' w' he bp cC hd;cases x with
    |normal=>exact this|exit j=>exact absurd hc (aF j t' H')|ret=>exact this
  ·rename_i b;have hl:Fi P b Q a w:=by
    refine afh ?_;split at hc;·rename_i t1 H1 h1;refine (ih _ _ _ _ _ _ _ h1 F W e a w _ hR hT ?_).1;intro e' a' w' he bp cC hd;show Exit.then (Fi P b Q) Q .normal a' w';refine (ih _ _ _ _ _ _ _ hc F W e' a' w' Q bp cC ?_).2 b rfl;intro e2 a2 w2 GU mA zU wO;exact hQ e2 a2 w2 (Em.le_trans he GU) mA zU (wO.trans hd)
    ·rename_i aF;refine (ih _ _ _ _ _ _ _ hc F W e a w _ hR hT ?_).1;intro e' a' w' he bp cC hd;have:=hQ e' a' w' he bp cC hd;cases x with
     |normal=>exact absurd hc (aF t' H')|exit i=>exact this|ret=>exact this
   exact⟨alQ hl,by intro b' q;cases q;exact hl⟩
  ·cases hc;exact⟨wp_exit (hQ e a w e.le_refl hR hT rfl),by intro b q;cases q⟩
  ·cases hc;exact⟨wp_ret (hQ e a w e.le_refl hR hT rfl),by intro b q;cases q⟩
  ·rename_i id ops d;refine⟨?_,by intro b q;cases q⟩;split at hc
   ·rename_i t1 H1 h1;cases hc;cases d with
    |true=>exact akH hm iZ h1 hR hT hQ|false=>
     refine wp_region ?_;have:=aec (Q:=Q) iZ ops.toList 0 t H e a w zzy h1 hR hT hQ;rw[List.range_eq_range'];simpa using this
   ·cases hc
  ·cases hc
theorem aGg {ext:Nat->Option Ext}{bH:Nat->Option Prim}(hm:P.follows .mixedOrders=true)(hN:qR P)(hE:Bg P ext)(hP:xe P bH){fuel g:Nat}{v:AV}
  (h:Rx P ext bH fuel g args H=some (v,H')) {b:Code} (hf:P.funcs[g]?=some fn) (hb:fn.body=some b) (hR:RH P.globals.size F W e H w) (ha:aW e args as'.toList):
  Calls P g as' w (I5 P.globals.size F W e v H'):=by
 obtain⟨aU,first,cap,hg,hs⟩:=adb hN hE hP (aAj hm hN hE hP fuel) _ _ _ _ _ h;cases hg;rcases hs F W e w as' hR (by simpa using ha) with⟨v',w',e',h1,_⟩|⟨_,h2⟩;·rw[Ba hN hf hb] at h1;cases h1
 ·exact h2
end
end
end Go.Proofs.YtodfajmihkagnaaGreatDoor.Am
