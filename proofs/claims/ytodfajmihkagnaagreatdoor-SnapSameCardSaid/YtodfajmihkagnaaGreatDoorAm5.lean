/- Laws that the proof uses. -/
import Derived.Test.YtodfajmihkagnaaGreatDoorAm4
set_option linter.unusedVariables false
set_option linter.unusedSimpArgs false
namespace Go.Proofs.YtodfajmihkagnaaGreatDoor.Am
section
section
section
section
section
section
variable {F F':Nat->Prop}{G i:Nat}{H H':Hp}{W w:World}{d:Tmp}{dst:Option Tmp}{e:Em}{ob:Obj}{t':Tm}
theorem ajK {n:Nat}{v:AV}{t:Tm}(h:jk n dst v t=some t')(d:Tmp):t'.get d=if dst=some d then some v else t.get d:=by
 unfold jk at h;split at h;·cases h;simp
 ·rename_i x;cases hb:(Nat.blt x n&&Nat.blt x 4294967296) with
  |false=>rw[hb] at h;cases h
  |true=>
   rw[hb] at h;cases h;simp only[aam,aeg] at hb;rw[Tr.Om _ _ _ _ _ zzz];by_cases hx:d=x;·subst hx;simp
   ·rw[zz1 hx,zz1 (λq=>hx (ab0 q).symm)]
theorem ao8 {n:Nat}{v:AV}{t:Tm}(h:jk n dst v t=some t')(hd:dst=some d):d<n:=by
 subst hd;unfold jk at h;simp only at h;cases hb:(Nat.blt d n&&Nat.blt d 4294967296) with
 |false=>rw[hb] at h;cases h
 |true=>simp only[aam,aeg] at hb;exact hb.1
theorem RH.weaken (h:RH G F W e H w)(hF:∀k,F' k->F k):RH G F' W e H w:=
 h.MD (λk hk=>h.frame k (hF k hk)) (λi o ho hw hk=>(h.obj i o ho).2.choose_spec.2.2 hw (hF _ hk)) h.os h.tape h.output h.size
theorem RH.Pv (h:RH G F W e H w):RH G F w e H w:=
 h.MD (λk hk=>⟨(h.frame k hk).1,rfl⟩) (λi o ho hw hk=>(h.obj i o ho).2.choose_spec.2.2 hw hk) rfl rfl rfl (aaq _)
theorem RH.Qd (h:RH G F W e H w){o:AO}(ha:Am.alloc H o=some (i,H')){b n:Nat}
  (hb:w.heap[b]?=some ob) (SR:∀j oj,H.h.get j=some oj->e.b j≠b) (eN:OR (e.ext b 0 n) i o ob) (hF:∀k,F' k->F k/\k≠b):i=e.N/\RH G F' W (e.ext b 0 n) H' w:=by
 obtain⟨rfl,aN,rfl⟩:=AS ha;have hN:=h.N;have fP:∀j,(H.h.put 34 H.next o).get j=if j=H.next then some o else H.h.get j:=λj=>Tr.gE _ _ _ _
 have hle:=Em.sE e b 0 n;have gI:∀j oj,H.h.get j=some oj->(e.ext b 0 n).b j=e.b j:=λj oj hj=>(hle.2 j (h.obj j oj hj).1).1;refine⟨hN.symm,?_,?_,?_,?_,?_,h.os,h.tape,h.output,h.size,by obtain⟨g1,g2,g3⟩:=h.nK;rw[(hle.2 G g2).2.2];simp[Em.ext];omega⟩;·simp[Em.ext,hN]
 ·intro j oj hj;simp only at hj;rw[fP] at hj;by_cases ej:j=H.next
  ·subst ej;rw[zz2 rfl] at hj;cases hj;refine⟨by simp[Em.ext,hN],ob,?_,eN,?_⟩;·rw[<-hN,Em.pP];exact hb
   ·intro _ hk;rw[<-hN,Em.pP] at hk;exact (hF _ hk).2 rfl
  ·rw[zz1 ej] at hj;obtain⟨a,sW,b2,c2,d2⟩:=h.obj j oj hj;refine⟨by simp[Em.ext];omega,sW,?_,c2.mono hle a,?_⟩;·rw[gI j oj hj];exact b2
   ·intro hw hk;rw[gI j oj hj,(hle.2 G h.nK.2.1).2.2] at hw;rw[gI j oj hj] at hk;exact d2 hw (hF _ hk).1
 ·intro j k oj ok hj hk hq he;simp only at hj hk;rw[fP] at hj hk;by_cases ej:j=H.next<;>by_cases ek:k=H.next;·omega
  ·rw[zz1 ek] at hk;rw[gI k ok hk,ej,<-hN,Em.pP] at he;exact absurd he.symm (SR k ok hk)
  ·rw[zz1 ej] at hj;rw[gI j oj hj,ek,<-hN,Em.pP] at he;exact absurd he (SR j oj hj)
  ·rw[zz1 ej] at hj;rw[zz1 ek] at hk;rw[gI j oj hj,(hle.2 G h.nK.2.1).2.2] at hq;rw[gI j oj hj,gI k ok hk] at he;exact h.inj j k oj ok hj hk hq he
 ·intro g hg;obtain⟨a,b',c⟩:=h.tI g hg;obtain⟨x,y,_⟩:=hle.2 g a;exact⟨by simp[Em.ext];omega,x.trans b',y.trans c⟩
 ·intro k hk;exact h.frame k (hF k hk).1
theorem amj {l:List AV}{cs:Array Value}{el b:Nat}(hl:aR e l cs.toList)(hlen:l.length<=16777216):OR (e.ext b 0 cs.size) e.N (.cells (Tr.cz .nil 0 l) 0 l.length el 0) (.cells cs el (0,0)):=by refine .cells _ _ _ _ _ _ _ (by rw[Em.AM]) ?_ (λ_=>rfl) zzy (λ_=>Em.pQ ..);intro k v _ hk hg;rw[Tr.Jv .nil _ _ _ _ zzz] at hg;rw[zz2 ⟨zzz,zzz⟩,agN] at hg;obtain⟨v',bT,hr⟩:=hl.get hg;exact⟨k,by rw[Em.pQ];omega,v',by rw[<-aeq];exact bT,hr.mono (Em.sE ..)⟩
structure sV (P:Program)(cf:CF)(n:Nat)(ops:Array Oper)(B:List Nat)(t0:Tm)(H0:Hp)(TP TE:Nat->Tm)(HB HH:Nat->Hp)(V:Nat->AV)(X:Nat->Bool):Prop where
 form:Form ops B
 t1:TP 0=t0
 t2:TE 0=t0
 h1:HB 0=H0
 h2:HH 0=H0
 step:∀j o,ops[j]?=some o->QV P cf n ops o (X j) (V j) (TP j) (TE j) (TP (j+1)) (TE (j+1)) (HB j) (HH j) (HB (j+1)) (HH (j+1))
 d1:∀i oi,ops[i]?=some oi->X i=true->kd P oi=.dP->∀j oj,ops[j]?=some oj->X j=true->(kd P oj=.dP\/kd P oj=.late)->j<i->(B.getD i 0).testBit j=true
 d2:∀i oi,ops[i]?=some oi->X i=true->kd P oi=.dP->∀j oj,ops[j]?=some oj->X j=true->kd P oj=.read->j<i->(B.getD i 0).testBit j=true\/
  ∃h',jQ P (ev P.globals.size (TP j)) oj (HB (i+1))=some (V j,h')
 d3:∀i oi,ops[i]?=some oi->X i=true->kd P oi=.dP->∀j oj,ops[j]?=some oj->X j=true->kd P oj=.read->i<j->(B.getD j 0).testBit i=true\/
  ∃h',jQ P (ev P.globals.size (TP j)) oj (HB i)=some (V j,h')
def pv (P:Program)(V:Nat->AV)(X:Nat->Bool)(j:Nat)(o:Oper):AV:=if X j=true/\kd P o=.late then .dG else V j
end
section
variable {P:Program}{cf:CF}{n:Nat}{ops:Array Oper}{B:List Nat}{t0:Tm}{H0:Hp}{TP TE:Nat->Tm}{HB HH:Nat->Hp}{V:Nat->AV}{X:Nat->Bool}
theorem sV.cz (R:sV P cf n ops B t0 H0 TP TE HB HH V X){j:Nat}{o:Oper}(ho:ops[j]?=some o):
  jk n o.dst (pv P V X j o) (TP j)=some (TP (j+1))/\jk n o.dst (V j) (TE j)=some (TE (j+1)):=by
 obtain⟨_,h⟩:=R.step j o ho;cases hx:X j with
 |false=>
  rw[hx] at h;obtain⟨h1,h2,h3,_⟩:=h;simp only[pv,hx,aa4,false_and,if_false];rw[h1];exact⟨h2,h3⟩
 |true=>
  rw[hx] at h;cases hk:kd P o<;>rw[hk] at h<;>simp only[pv,hx,hk,true_and,if_true,reduceCtorEq,if_false,and_false];·exact⟨h.2.1,h.2.2.1⟩
  ·exact⟨h.2.1,h.2.2.1⟩
  ·exact⟨h.2.1,h.2.2.1⟩
  ·exact⟨h.2.1,h.2.2.1⟩
theorem sV.aH (R:sV P cf n ops B t0 H0 TP TE HB HH V X):∀i,i<=ops.size->∀d,
  (∀j o,j<i->ops[j]?=some o->o.dst=some d->(TP i).get d=some (pv P V X j o)/\(TE i).get d=some (V j))/\
  ((∀j o,j<i->ops[j]?=some o->o.dst≠some d)->(TP i).get d=t0.get d/\(TE i).get d=t0.get d):=by
 intro i;induction i with
 |zero=>intro _ d;exact⟨λj o hj=>zzz,λ_=>⟨by rw[R.t1],by rw[R.t2]⟩⟩|succ i ih=>
  intro hi d;obtain⟨i1,i2⟩:=ih zzz d;have ho:ops[i]?=some ops[i]:=agw zzz;obtain⟨p1,p2⟩:=R.cz ho;have g1:=ajK p1 d;have g2:=ajK p2 d;constructor
  ·intro j o hj Ae hd;by_cases yD:j=i;·subst yD;rw[ho] at Ae;cases Ae;rw[g1,g2,zz2 hd,zz2 hd];exact⟨rfl,rfl⟩
   ·have aE:ops[i].dst≠some d:=λq=>yD (R.form.one j i o _ d Ae ho hd q);rw[g1,g2,zz1 aE,zz1 aE];exact i1 j o zzz Ae hd
  ·intro mM;have aE:=mM i _ zzz ho;rw[g1,g2,zz1 aE,zz1 aE];exact i2 λj o hj Ae=>mM j o zzz Ae
theorem sV.adM (R:sV P cf n ops B t0 H0 TP TE HB HH V X)(p:Nat):∀k,p+k<=ops.size->(∀j o,p<=j->j<p+k->ops[j]?=some o->X j=true->kd P o ≠ .dP)->HB (p+k)=HB p:=by
 intro k;induction k with
 |zero=>intro _ _;rfl|succ k ih=>
  intro hk aE;have ho:ops[p+k]?=some ops[p+k]:=agw zzz;obtain⟨_,h⟩:=R.step (p+k) _ ho;have:HB (p+k+1)=HB (p+k):=by
   cases hx:X (p+k) with
   |false=>rw[hx] at h;exact h.2.2.2.1|true=>
    rw[hx] at h;have hn:=aE (p+k) _ zzz zzz ho hx;cases cF:kd P ops[p+k]<;>rw[cF] at h;·exact h.2.2.2.1
    ·exact h.2.2.2.1
    ·exact h.2.2.2
    ·exact absurd cF hn
  rw[<-ak3,this];exact ih zzz λj o h1 h2=>aE j o h1 zzz
end
end
variable {P:Program}
theorem UZ:∀{a b:AV},sY a b=true->a=b:=by
 intro a b h;unfold sY at h;split at h<;>first
  |rfl
  |(cases h;done)
  |(simp only[zz6] at h;subst h;rfl)
  |(simp only[aam,zz6] at h;obtain⟨h1,h2⟩:=h;subst h1;subst h2;rfl)
  |(simp only[aam] at h;obtain⟨h1,h2⟩:=h;rw[aaY h1,aaY h2])
  |(simp only[aam,zz6] at h;obtain⟨⟨⟨⟨⟨h1,h2⟩,h3⟩,h4⟩,h5⟩,h6⟩:=h;rw[aaY h1,aaY h2,aaY h3,aaY h4,h5,aaY h6])
  |(rw[aaY h])
theorem VY:∀{a b:List AV},yf a b=true->a=b
 |[],[],_=>rfl|[],_::_,h=>by simp[yf] at h
 |_::_,[],h=>by simp[yf] at h
 |a::x,b::y,h=>by simp only[yf,aam] at h;rw[UZ h.1,VY h.2]
theorem awA {a b:AV}(h:same a b=true):a=b:=by
 unfold same at h;split at h;·rw[VY h]
 ·rw[VY h]
 ·simp only[aam] at h;rw[aaY h.1,UZ h.2]
 ·exact UZ h
section
variable {H H':Hp}{o:Oper}{x:AV}{ρ:Operand->AV}
theorem jY {x:Option AV}{v:AV}(h:x.map (λv=>(v,H))=some (v,H')):x=some v/\H'=H:=by simp only[aag,abX] at h;obtain⟨a,ha,rfl,rfl⟩:=h;exact⟨ha,rfl⟩
theorem wm {x:Option AV}{v:AV}(h:x=some v):x.map (λv=>(v,H))=some (v,H):=by rw[h];rfl
theorem apg (h:kd P o=.late):(∃t,o.op=.alloc t)\/(∃t a b,o.op=.makeSlice t (.const a) (.const b))\/∃a b v el,o.op=.convert a b (.const v)/\P.underlying a=some .string/\P.underlying b=some (.slice el):=by
 unfold kd at h;cases aT:o.op<;>rw[aT] at h<;>simp only[reduceCtorEq] at h
 case alloc t=>exact .inl ⟨t,rfl⟩
 case binOp=>split at h<;>first|(cases h;done)|(split at h<;>cases h)
 case convert a b x=>
  split at h<;>first|(cases h;done)|skip
  rename_i el ha hb;split at h;·rename_i v;exact .inr (.inr ⟨a,b,v,el,rfl,ha,hb⟩)
  ·cases h
 case makeSlice t l c=>
  split at h;·rename_i a b;exact .inr (.inl ⟨t,a,b,rfl⟩)
  ·cases h
 case call c=>split at h<;>cases h
theorem anc {a b:TypeId}{v:AV}{i j:IntKind}(ha:P.underlying a=some (.int i))(hb:P.underlying b=some (.int j))(h:kY P a b x H=some (v,H')):
  H'=H/\∀H2,kY P a b x H2=some (v,H2):=by
 unfold kY at h⊢;rw[ha,hb] at h⊢;cases x<;>simp only at h⊢ <;> first|(cases h;exact⟨rfl,λ_=>rfl⟩)|(cases h;done)|(simp at h;done)|skip
theorem ahe {a b:TypeId}{v:AV}(ha:P.underlying a=some .string)(hb:P.underlying b=some .string)(h:kY P a b x H=some (v,H')):
    H'=H /\ ∀H2,kY P a b x H2=some (v,H2):=by
  unfold kY at h⊢;rw[ha,hb] at h⊢;cases x<;>simp only at h⊢ <;> first
    |(cases h;exact⟨rfl,λ_=>rfl⟩)|(cases h;done)|(simp at h;done)
    | (split at h
       · rename_i q;cases h;exact⟨rfl,λ_=>by rw[zz2 q]⟩
       · cases h)
    |skip
theorem aA3 {a b e:TypeId}{v:AV}(ha:P.underlying a=some (.slice e))(hb:P.underlying b=some .string)(h:kY P a b x H=some (v,H')):H'=H:=by
 unfold kY at h;rw[ha,hb] at h;cases x<;>simp only at h<;>first
  |(cases h;rfl)|(cases h;done)|(simp at h;done)
  |(split at h<;>first|(cases h;rfl)|(cases h;done)|skip)
  |skip
 rename_i q;cases hz:Nat.beq _ 0 with
 |true=>rw[hz] at h;cases h;rfl|false=>
  rw[hz] at h;simp only[cond_false,aaC,aag,abX] at h;obtain⟨_,_,_,_,_,rfl⟩:=h;rfl
theorem alg {v:AV}(hk:kd P o=.pure\/kd P o=.read)(h:jQ P ρ o H=some (v,H')):H'=H:=by
 unfold jQ at h;unfold kd at hk;cases aT:o.op<;>rw[aT] at h hk<;>simp only[reduceCtorEq,or_self] at h hk
 case move x=>cases h;rfl
 case assign x=>cases h;rfl
 case pick c a b=>
  split at h;·cases h;rfl
  ·cases h
 case build t ps=>exact (jY h).2
 case load t a=>exact (jY h).2
 case nilCheck x=>exact (jY h).2
 case binOp op t x y ty=>
  cases hg:wQ P op t x y (ρ x) (ρ y) with
  |false=>rw[hg] at h;cases h
  |true=>rw[hg] at h;exact (jY h).2
 case unOp op t x=>exact (jY h).2
 case convert a b x=>
  split at hk;·rename_i i j ha hb;exact (anc ha hb h).1
  ·rename_i ha hb;exact (ahe ha hb h).1
  ·rename_i e ha hb;exact aA3 ha hb h
  ·split at hk<;>simp at hk
  ·simp at hk
 case makeSlice t l c=>split at hk<;>simp at hk
 case makeInterface t x=>exact (jY h).2
 case makeFunc fn a b=>exact (jY h).2
 case slice t x lo hi mx=>exact (jY h).2
 case fieldAddr t x f=>exact (jY h).2
 case field t x f=>exact (jY h).2
 case indexAddr t x ix=>exact (jY h).2
 case index t x ix=>exact (jY h).2
 case lookup t x k ok=>exact (jY h).2
 case entry it=>exact (jY h).2
 case extract t ix=>
  split at h;·exact (jY h).2
  ·cases h
 case typeAssert x t yy ok=>exact (jY h).2
 case call c=>
  cases hc:c.callee with
  |builtin b=>
   rw[hc] at h hk;simp only at h hk;cases b<;>simp only[reduceCtorEq,or_self] at hk<;>(unfold jn at h;split at h<;>first|(cases h;done)|exact (jY h).2|simp_all)
  |value f=>rw[hc] at h;cases h
  |invoke r m=>rw[hc] at h;cases h
theorem avg {op:BinOp}{t:TypeId}{y:AV}(hk:(match op with
   |.eql|.neq=>match P.underlying t with|some (.int _)|some .string|some .bool=>Kd.pure|_=>.read
   |_=>.pure)=.pure) (H H2:Hp):fV P op t x y H=fV P op t x y H2:=by
 have heq:(op=.eql\/op=.neq)->∀H H2:Hp,eL P 50 t x y H=eL P 50 t x y H2:=by
  intro ho H H2;have hu:P.underlying t=some .string\/P.underlying t=some .bool\/∃k,P.underlying t=some (.int k):=by rcases ho with rfl|rfl<;>(simp only at hk;split at hk<;>first|(exact .inl (by assumption))|(exact .inr (.inl (by assumption)))|(exact .inr (.inr ⟨_,by assumption⟩))|cases hk)
  unfold eL;rcases hu with hu|hu|⟨k,hu⟩<;>(rw[hu];cases x<;>cases y<;>rfl)
 cases op
 case eql=>
  have:=heq (.inl rfl) H H2;cases x<;>cases y<;>simp only[fV,this]
 case neq=>
  have:=heq (.inr rfl) H H2;cases x<;>cases y<;>simp only[fV,this]
 all_goals (cases x<;>cases y<;>rfl)
theorem aFu {v:AV}(hk:kd P o=.pure)(h:jQ P ρ o H=some (v,H'))(H2:Hp):jQ P ρ o H2=some (v,H2):=by
 have hs:=alg (.inl hk) h;subst hs;unfold jQ at h⊢;unfold kd at hk;cases aT:o.op<;>rw[aT] at h hk<;>simp only[reduceCtorEq] at h hk⊢
 case move x=>cases h;rfl
 case assign x=>cases h;rfl
 case pick c a b=>
  split at h;·cases h;simp[*]
  ·cases h
 case build t ps=>exact wm (jY h).1
 case nilCheck x=>exact wm (jY h).1
 case binOp op t x y ty=>
  cases hg:wQ P op t x y (ρ x) (ρ y) with
  |false=>rw[hg] at h;cases h
  |true=>
   rw[hg] at h;rw[avg hk H2 H'];exact wm (jY h).1
 case unOp op t x=>exact wm (jY h).1
 case convert a b x=>
  split at hk;·rename_i i j ha hb;exact (anc ha hb h).2 H2
  ·rename_i ha hb;exact (ahe ha hb h).2 H2
  ·cases hk
  ·split at hk<;>cases hk
  ·cases hk
 case makeSlice t l c=>split at hk<;>cases hk
 case makeInterface t x=>exact wm (jY h).1
 case makeFunc fn a b=>exact wm (jY h).1
 case fieldAddr t x f=>exact wm (jY h).1
 case field t x f=>exact wm (jY h).1
 case indexAddr t x ix=>exact wm (jY h).1
 case index t x ix=>exact wm (jY h).1
 case extract t ix=>
  split at h;·rename_i l hl;exact wm (jY h).1
  ·cases h
 case typeAssert x t yy ok=>exact wm (jY h).1
 case call c=>
  cases hc:c.callee with
  |builtin b=>
   rw[hc] at h hk;simp only at h hk⊢;cases b<;>simp only[reduceCtorEq] at hk<;>(unfold jn at h⊢;split at h<;>first|(cases h;done)|exact wm (jY h).1|simp_all)
  |value f=>rw[hc] at h;cases h
  |invoke r m=>rw[hc] at h;cases h
end
end
section
variable {P:Program}{cf:CF}{n:Nat}{ops:Array Oper}{B:List Nat}{t0:Tm}{H0:Hp}{TP TE:Nat->Tm}{HB HH:Nat->Hp}{V:Nat->AV}{X:Nat->Bool}
def mQ (P:Program)(ops:Array Oper)(X:Nat->Bool)(S:Nat->Prop)(p j:Nat):Prop:=S j/\p<=j/\X j=true/\∃o,ops[j]?=some o/\kd P o=.late
def YQ (P:Program)(o:Oper)(b:Nat)(ob:Obj)(val:Value):Prop:=
 ∀(t:Tm) (H H':Hp) (v:AV) (e:Em),jQ P (ev P.globals.size t) o H=some (v,H')->e.N=H.next->∃ao n,Am.alloc H ao=some (e.N,H')/\OR (e.ext b 0 n) e.N ao ob/\VR (e.ext b 0 n) v val
structure Inv (P:Program)(n:Nat)(ops:Array Oper)(B:List Nat)(t0:Tm)(HB HH:Nat->Hp)(V:Nat->AV)(X:Nat->Bool)(F:Nat->Prop)(W:World)(e0:Em)(ds:List Deferred)
  (S:Nat->Prop) (p:Nat) (e:Em) (a:Act) (w:World) (cC:Nat->Nat):Prop where
 pN:p<=ops.size
 ph:HH p=HB p
 pe:p=0\/∃j oj,p=j+1/\ops[j]?=some oj/\X j=true/\kd P oj=.dP
 down:∀i j,S i->(B.getD i 0).testBit j=true->S j
 dP:∀i o,ops[i]?=some o->X i=true->kd P o=.dP->(S i↔i<p)
 rh:RH P.globals.size (λk=>F k\/∃j,mQ P ops X S p j/\cC j=k) w e (HB p) w
 frame:∀k,F k->w.heap[k]?=W.heap[k]?
 os:w.os=W.os
 tape:w.tape=W.tape
 output:w.output=W.output
 size:W.heap.size<=w.heap.size
 Tc:∀j,mQ P ops X S p j->e.n P.globals.size<=cC j/\¬F (cC j)/\∀o,ops[j]?=some o->∃ob val,w.heap[cC j]?=some ob/\YQ P o (cC j) ob val/\∀d,o.dst=some d->a.tmps.getD d undef=val
 Qm:∀i j,mQ P ops X S p i->mQ P ops X S p j->cC i=cC j->i=j
 val:∀j o d,ops[j]?=some o->S j->o.dst=some d->¬mQ P ops X S p j->VR e (V j) (a.tmps.getD d undef)
 Kj:∀d,(∀j o,ops[j]?=some o->S j->o.dst≠some d)->VR e ((t0.get d).getD bP) (a.tmps.getD d undef)
 GX:n<=a.tmps.size
 le:e0.le e
 defers:a.defers=ds
section
variable {F S:Nat->Prop}{H:Hp}{W w:World}{a:Act}{d:Tmp}{ds:List Deferred}{e e0:Em}{i:Nat}{o:Oper}
theorem Inv.read (R:sV P cf n ops B t0 H0 TP TE HB HH V X){p:Nat}{cC:Nat->Nat}
  (I:Inv P n ops B t0 HB HH V X F W e0 ds S p e a w cC) (ho:ops[i]?=some o) (hS:¬S i) (hr:∀j,(B.getD i 0).testBit j=true->S j) (hd:JE ops o d=true):
  VR e (((TP i).get d).getD bP) (a.tmps.getD d undef):=by
 have hi:i<ops.size:=(abW.1 ho).1;obtain⟨v1,v2⟩:=R.aH i (amw hi) d;by_cases hex:∃j o',j<i/\ops[j]?=some o'/\o'.dst=some d
 ·obtain⟨j,o',hj,gO,gw⟩:=hex;rw[(v1 j o' hj gO gw).1];have wT:S j:=by have:=R.form.rd j i o' o d gO ho gw zzz hd;rw[zz2 hj] at this;exact hr j this
  simp only[afK,pv];split;·exact .dG _
  ·rename_i hn;refine I.val j o' d gO wT gw (λq=>hn ?_);obtain⟨_,_,hx,o2,qK,hk⟩:=q;rw[gO] at qK;cases qK;exact⟨hx,hk⟩
 ·rw[(v2 λj o' hj gO gw=>hex ⟨j,o',hj,gO,gw⟩).1];refine I.Kj d λj o' gO wT gw=>?_;by_cases yD:j<i;·exact hex ⟨j,o',yD,gO,gw⟩
  ·by_cases Df:j=i;·subst Df;exact hS wT
   ·have:=R.form.rd j i o' o d gO ho gw Df hd;rw[zz1 zzz] at this;exact hS (I.down j i wT this)
theorem ay6 (h:Operand.tmp d∈o.op.operands.toList):d∈tmpsOf o:=by unfold tmpsOf;rw[List.mem_filterMap];exact⟨.tmp d,h,rfl⟩
theorem agB (h:Operand.tmp d∈o.op.operands.toList):JE ops o d=true:=by unfold JE;rw[aiJ];left;simpa using ay6 h
theorem ad7 (h:RH P.globals.size F W e H w){t:Tm}{x:Operand}(ht:∀d,x=.tmp d->VR e ((t.get d).getD bP) (a.tmps.getD d undef)):
  VR e (ev P.globals.size t x) (a.eval x):=by
 cases x with
 |tmp d=>exact ht d rfl|const v=>
  simp only[Am.ev,Act.eval];cases hc:Am.lj v with
  |none=>exact .dG v|some c=>exact .lj hc
 |global g=>
  simp only[Am.ev,Act.eval];cases hb:Nat.blt g P.globals.size with
  |false=>exact .dG _|true=>
   rw[aeg] at hb;obtain⟨h1,h2,h3⟩:=h.tI g hb;have:=VR.ptr (e:=e) g 0 0 h1 (by rw[h3];simp);rw[h2] at this;exact this
 |func f=>exact .func _ zzy [] [] #[] #[] rfl rfl zzy zzy
theorem Inv.Qd (R:sV P cf n ops B t0 H0 TP TE HB HH V X){p:Nat}{cC:Nat->Nat}
  (I:Inv P n ops B t0 HB HH V X F W e0 ds S p e a w cC):∀k,p+k<=ops.size->(∀j o,p<=j->j<p+k->ops[j]?=some o->X j=true->kd P o ≠ .dP/\(kd P o=.late->S j))->
  ∃e',e.le e'/\RH P.globals.size (λq=>F q\/∃j,mQ P ops X S (p+k) j/\cC j=q) w e' (HH (p+k)) w/\
   ∀j o d,p<=j->j<p+k->ops[j]?=some o->X j=true->kd P o=.late->o.dst=some d->VR e' (V j) (a.tmps.getD d undef):=by
 intro k;induction k with
 |zero=>
  intro _ _;refine⟨e,e.le_refl,?_,λj o d h1 h2=>zzz⟩;rw[aeA,I.ph];exact I.rh
 |succ k ih=>
  intro hk aE;obtain⟨e1,vh,jX,oL⟩:=ih zzz λj o h1 h2=>aE j o h1 zzz;have ho:ops[p+k]?=some ops[p+k]:=agw zzz;obtain⟨_,aC⟩:=R.step (p+k) _ ho;have same:HH (p+k+1)=HH (p+k)->¬(X (p+k)=true/\kd P ops[p+k]=.late)->∃e',e.le e'/\RH P.globals.size (λq=>F q\/∃j,mQ P ops X S (p+(k+1)) j/\cC j=q) w e' (HH (p+(k+1))) w/\
   ∀j o d,p<=j->j<p+(k+1)->ops[j]?=some o->X j=true->kd P o=.late->o.dst=some d->VR e' (V j) (a.tmps.getD d undef):=by
   intro hh jC;refine⟨e1,vh,?_,?_⟩
   ·rw[<-ak3,hh];refine jX.weaken λq hq=>?_;rcases hq with hq|⟨j,⟨q1,q2,q3⟩,q4⟩;·exact .inl hq
    ·exact .inr ⟨j,⟨q1,zzz,q3⟩,q4⟩
   ·intro j o d h1 h2 hj hx cF hd;by_cases XI:j=p+k;·subst XI;rw[ho] at hj;cases hj;exact absurd ⟨hx,cF⟩ jC
    ·exact oL j o d h1 zzz hj hx cF hd
  cases hx:X (p+k) with
  |false=>
   rw[hx] at aC;exact same aC.2.2.2.2 (by simp[hx])
  |true=>
   rw[hx] at aC;have hn:=aE (p+k) _ zzz zzz ho hx;cases cF:kd P ops[p+k]<;>rw[cF] at aC;·exact same aC.2.2.2.2 (by simp[cF])
   ·exact same aC.2.2.2.2 (by simp[cF])
   ·obtain⟨hA,_,_,_⟩:=aC;have hS:=hn.2 cF;have hpd:mQ P ops X S (p+k) (p+k):=⟨hS,aaq _,hx,_,ho,cF⟩;have ajI:mQ P ops X S p (p+k):=⟨hS,zzz,hx,_,ho,cF⟩;obtain⟨g1,g2,g3⟩:=I.Tc _ ajI;obtain⟨ob,val,N6,NW,U5⟩:=g3 _ ho;obtain⟨ao,nn,dd,eN,jy⟩:=NW _ _ _ _ e1 hA jX.N;have SR:∀j oj,(HH (p+k)).h.get j=some oj->e1.b j≠cC (p+k):=by
     intro j oj hj hq;obtain⟨a1,ob,b1,c1,d1⟩:=jX.obj j oj hj;by_cases hjG:e1.n P.globals.size<=e1.b j;·exact d1 (.inr hjG) (.inr ⟨p+k,hpd,hq.symm⟩)
     ·have:=(vh.2 _ I.rh.nK.2.1).2.2;omega
    obtain⟨_,rJ⟩:=jX.Qd (F':=λq=>F q\/∃j,mQ P ops X S (p+(k+1)) j/\cC j=q) dd N6 SR eN (by
     intro q hq;rcases hq with hq|⟨j,⟨q1,q2,q3⟩,q4⟩;·exact⟨.inl hq,λr=>g2 (r▸hq)⟩
     ·refine⟨.inr ⟨j,⟨q1,zzz,q3⟩,q4⟩,λr=>?_⟩;have:=I.Qm j (p+k) ⟨q1,zzz,q3⟩ ajI (q4.trans r);omega)
    refine⟨_,Em.le_trans vh (Em.sE ..),by rw[<-ak3];exact rJ,?_⟩;intro j o d h1 h2 hj yl uM hd;by_cases XI:j=p+k;·subst XI;rw[ho] at hj;cases hj;rw[U5 d hd];exact jy
    ·exact (oL j o d h1 zzz hj yl uM hd).mono (Em.sE ..)
   ·exact absurd cF hn.1
end
end
end
section
variable {F:Nat->Prop}{G:Nat}{H:Hp}{W w:World}{a:Act}{dst:Option Tmp}{e:Em}
theorem RH.push (h:RH G F W e H w)(ob:Obj):
  RH G (λk=>F k\/k=w.heap.size) {w with heap:=w.heap.push ob} e H {w with heap:=w.heap.push ob}:=by
 refine⟨h.N,?_,h.inj,h.tI,?_,rfl,rfl,rfl,aaq _,by obtain⟨g1,g2,g3⟩:=h.nK;simp;omega⟩
 ·intro i o ho;obtain⟨a,sW,b,c,d⟩:=h.obj i o ho;have aN:=(abW.1 b).1;refine⟨a,sW,?_,c,λhw hk=>?_⟩;·simp only;rw[ak4,zz1 zzz];exact b
  ·rcases hk with hk|hk;·exact d hw hk
   ·omega
 ·intro k hk;refine⟨?_,rfl⟩;rcases hk with hk|hk;·have:=(h.frame k hk).1;simp;omega
  ·simp;omega
theorem Xg {v:Value}{n:Nat}(hn:n<=a.tmps.size)(hd:∀d,dst=some d->d<n)(d:Tmp):(a.put dst v).tmps.getD d undef=if dst=some d then v else a.tmps.getD d undef:=by
 cases dst with
 |none=>simp[Act.put]|some x=>
  simp only[Act.put];have hx0:x<a.tmps.size:=ac2 (hd x rfl) hn;rw[ahi hx0];by_cases hx:d=x;·subst hx;simp
  ·rw[zz1 hx,zz1 (λq=>hx (ab0 q).symm)]
theorem VP {v:Value}:(a.put dst v).tmps.size=a.tmps.size:=by cases dst<;>simp[Act.put]
theorem ZG {v:Value}:(a.put dst v).defers=a.defers:=by cases dst<;>rfl
end
section
variable {P:Program}{cf:CF}{n:Nat}{ops:Array Oper}{B:List Nat}{t0:Tm}{H0:Hp}{TP TE:Nat->Tm}{HB HH:Nat->Hp}{V:Nat->AV}{X:Nat->Bool}
 {F:Nat->Prop} {W:World} {e0:Em} {ds:List Deferred} {S:Nat->Prop} {p:Nat} {e:Em} {a:Act} {w:World} {cC:Nat->Nat}
section
variable {e':Em}{i:Nat}{o:Oper}{ob:Obj}{v':Value}{w':World}
theorem sV.lt (R:sV P cf n ops B t0 H0 TP TE HB HH V X)(ho:ops[i]?=some o):∀d,o.dst=some d->d<n:=λd hd=>ao8 (R.cz ho).2 hd
theorem Inv.quiet (R:sV P cf n ops B t0 H0 TP TE HB HH V X)(I:Inv P n ops B t0 HB HH V X F W e0 ds S p e a w cC)(ho:ops[i]?=some o)(hS:¬S i)
  (hr:∀j,(B.getD i 0).testBit j=true->S j) (hk:X i=true->kd P o ≠ .late/\kd P o ≠ .dP)
  (he:e.le e') (hR:RH P.globals.size (λk=>F k\/∃j,mQ P ops X S p j/\cC j=k) w e' (HB p) w') (hv:VR e' (V i) v'):
  Inv P n ops B t0 HB HH V X F W e0 ds (λj=>S j\/j=i) p e' (a.put o.dst v') w' cC:=by
 have rp:∀j,mQ P ops X (λj=>S j\/j=i) p j↔mQ P ops X S p j:=by
  intro j;constructor
  ·rintro⟨q1|q1,q2,q3,o2,q4,q5⟩;·exact⟨q1,q2,q3,o2,q4,q5⟩
   ·subst q1;rw[ho] at q4;cases q4;exact absurd q5 (hk q3).1
  ·rintro⟨q1,q2⟩;exact⟨.inl q1,q2⟩
 have aE:∀j o2 d,ops[j]?=some o2->o2.dst=some d->j≠i->o.dst≠some d:=λj o2 d h1 h2 h3 h4=>h3 (R.form.one j i o2 o d h1 ho h2 h4);have fP:=λd=>Xg (a:=a) (dst:=o.dst) (v:=v') I.GX (R.lt ho) d;refine⟨I.pN,I.ph,I.pe,?_,?_,?_,?_,hR.os.trans I.os,hR.tape.trans I.tape,hR.output.trans I.output,afi I.size hR.size,?_,?_,?_,?_,by rw[VP];exact I.GX,Em.le_trans I.le he,by rw[ZG];exact I.defers⟩
 ·intro i' j h1 h2;rcases h1 with h1|h1;·exact .inl (I.down i' j h1 h2)
  ·subst h1;exact .inl (hr j h2)
 ·intro i' o' h1 h2 h3;rw[<-I.dP i' o' h1 h2 h3];constructor
  ·rintro (q|q);·exact q
   ·subst q;rw[ho] at h1;cases h1;exact absurd h3 (hk h2).2
  ·exact .inl
 ·refine (hR.weaken λk hk=>?_).Pv;rcases hk with hk|⟨j,h1,h2⟩;·exact .inl hk
  ·exact .inr ⟨j,(rp j).1 h1,h2⟩
 ·intro k hk;exact (hR.frame k (.inl hk)).2.trans (I.frame k hk)
 ·intro j hj;have lE:=(rp j).1 hj;obtain⟨g1,g2,g3⟩:=I.Tc j lE;refine⟨by rw[(he.2 _ I.rh.nK.2.1).2.2];exact g1,g2,λo2 h1=>?_⟩;obtain⟨ob,val,q3,q2,q4⟩:=g3 o2 h1;refine⟨ob,val,?_,q2,λd hd=>?_⟩;·rw[(hR.frame (cC j) (.inr ⟨j,lE,rfl⟩)).2];exact q3
  ·rw[fP,zz1 (aE j o2 d h1 hd (λq=>hS (q▸lE.1)))];exact q4 d hd
 ·intro x y hx hy;exact I.Qm x y ((rp x).1 hx) ((rp y).1 hy)
 ·intro j o2 d h1 h2 h3 h4;rw[fP];rcases h2 with h2|h2;·rw[zz1 (aE j o2 d h1 h3 (λq=>hS (q▸h2)))];exact (I.val j o2 d h1 h2 h3 (λq=>h4 ((rp j).2 q))).mono he
  ·subst h2;rw[ho] at h1;cases h1;rw[zz2 h3];exact hv
 ·intro d hd;rw[fP,zz1 (hd i o ho (.inr rfl))];exact (I.Kj d λj o2 h1 h2=>hd j o2 h1 (.inl h2)).mono he
theorem Inv.late (R:sV P cf n ops B t0 H0 TP TE HB HH V X)(I:Inv P n ops B t0 HB HH V X F W e0 ds S p e a w cC)(ho:ops[i]?=some o)(hS:¬S i)
  (hr:∀j,(B.getD i 0).testBit j=true->S j) (hX:X i=true) (cF:kd P o=.late) (ue:p<=i) {val:Value} {dr:Nat} (NW:YQ P o w.heap.size ob val):
  Inv P n ops B t0 HB HH V X F W e0 ds (λj=>S j\/j=i) p e (a.put o.dst val) {w with drawn:=dr,heap:=w.heap.push ob} (λj=>if j=i then w.heap.size else cC j):=by
 have rp:∀j,mQ P ops X (λj=>S j\/j=i) p j↔(mQ P ops X S p j\/j=i):=by
  intro j;constructor
  ·rintro⟨q1|q1,q2⟩;·exact .inl ⟨q1,q2⟩
   ·exact .inr q1
  ·rintro (⟨q1,q2⟩|q);·exact⟨.inl q1,q2⟩
   ·subst q;exact⟨.inr rfl,ue,hX,o,ho,cF⟩
 have aE:∀j o2 d,ops[j]?=some o2->o2.dst=some d->j≠i->o.dst≠some d:=λj o2 d h1 h2 h3 h4=>h3 (R.form.one j i o2 o d h1 ho h2 h4);have fP:=λd=>Xg (a:=a) (dst:=o.dst) (v:=val) I.GX (R.lt ho) d;have aN:∀j,mQ P ops X S p j->cC j<w.heap.size:=λj hj=>(I.rh.frame (cC j) (.inr ⟨j,hj,rfl⟩)).1;have yJ:∀j,mQ P ops X S p j->j≠i:=λj hj q=>hS (q▸hj.1);refine⟨I.pN,I.ph,I.pe,?_,?_,?_,?_,I.os,I.tape,I.output,by simp;have:=I.size;omega,?_,?_,?_,?_,by rw[VP];exact I.GX,I.le,by rw[ZG];exact I.defers⟩
 ·intro i' j h1 h2;rcases h1 with h1|h1;·exact .inl (I.down i' j h1 h2)
  ·subst h1;exact .inl (hr j h2)
 ·intro i' o' h1 h2 h3;rw[<-I.dP i' o' h1 h2 h3];constructor
  ·rintro (q|q);·exact q
   ·subst q;rw[ho] at h1;cases h1;rw[cF] at h3;cases h3
  ·exact .inl
 ·refine ((I.rh.push ob).drawn dr).Pv.weaken λk hk=>?_;rcases hk with hk|⟨j,h1,h2⟩;·exact .inl (.inl hk)
  ·rcases (rp j).1 h1 with q|q;·rw[zz1 (yJ j q)] at h2;exact .inl (.inr ⟨j,q,h2⟩)
   ·rw[zz2 q] at h2;exact .inr h2.symm
 ·intro k hk;have:=(I.rh.frame k (.inl hk)).1;simp only;rw[ak4,zz1 zzz];exact I.frame k hk
 ·intro j hj;rcases (rp j).1 hj with q|q
  ·obtain⟨g1,g2,g3⟩:=I.Tc j q;rw[zz1 (yJ j q)];refine⟨g1,g2,λo2 h1=>?_⟩;obtain⟨sW,ayT,q3,q2,q4⟩:=g3 o2 h1;refine⟨sW,ayT,?_,q2,λd hd=>?_⟩;·simp only;rw[ak4,zz1 (by have:=aN j q;omega)];exact q3
   ·rw[fP,zz1 (aE j o2 d h1 hd (yJ j q))];exact q4 d hd
  ·rw[zz2 q];subst q;refine⟨I.rh.nK.2.2,λhF=>?_,λo2 h1=>?_⟩;·have:=(I.rh.frame _ (.inl hF)).1;omega
   ·rw[ho] at h1;cases h1;refine⟨ob,val,zzy,NW,λd hd=>?_⟩;rw[fP,zz2 hd]
 ·intro x y hx hy RN;rcases (rp x).1 hx with qx|qx<;>rcases (rp y).1 hy with qy|qy;·rw[zz1 (yJ x qx),zz1 (yJ y qy)] at RN;exact I.Qm x y qx qy RN
  ·rw[zz1 (yJ x qx),zz2 qy] at RN;have:=aN x qx;omega
  ·rw[zz2 qx,zz1 (yJ y qy)] at RN;have:=aN y qy;omega
  ·rw[qx,qy]
 ·intro j o2 d h1 h2 h3 h4;rw[fP];rcases h2 with h2|h2;·rw[zz1 (aE j o2 d h1 h3 (λq=>hS (q▸h2)))];exact I.val j o2 d h1 h2 h3 (λq=>h4 ((rp j).2 (.inl q)))
  ·exact absurd ((rp j).2 (.inr h2)) h4
 ·intro d hd;rw[fP,zz1 (hd i o ho (.inr rfl))];exact I.Kj d λj o2 h1 h2=>hd j o2 h1 (.inl h2)
theorem Inv.effect (R:sV P cf n ops B t0 H0 TP TE HB HH V X)(I:Inv P n ops B t0 HB HH V X F W e0 ds S p e a w cC)(ho:ops[i]?=some o)(hS:¬S i)
  (hr:∀j,(B.getD i 0).testBit j=true->S j) (hX:X i=true) (cF:kd P o=.dP) (ue:p<=i) {e1:Em}
  (vh:e.le e1) (Zq:∀j o d,p<=j->j<i->ops[j]?=some o->X j=true->kd P o=.late->o.dst=some d->VR e1 (V j) (a.tmps.getD d undef))
  (he:e1.le e') (hR:RH P.globals.size (λk=>F k\/∃j,mQ P ops X S i j/\cC j=k) w e' (HH (i+1)) w') (hv:VR e' (V i) v'):
  Inv P n ops B t0 HB HH V X F W e0 ds (λj=>S j\/j=i) (i+1) e' (a.put o.dst v') w' cC:=by
 have hi:i<ops.size:=(abW.1 ho).1;have rp:∀j,mQ P ops X (λj=>S j\/j=i) (i+1) j->mQ P ops X S i j/\mQ P ops X S p j/\j≠i:=by
  rintro j ⟨q1,q2,q3⟩;rcases q1 with q1|q1;·exact⟨⟨q1,zzz,q3⟩,⟨q1,zzz,q3⟩,zzz⟩
  ·omega
 have aE:∀j o2 d,ops[j]?=some o2->o2.dst=some d->j≠i->o.dst≠some d:=λj o2 d h1 h2 h3 h4=>h3 (R.form.one j i o2 o d h1 ho h2 h4);have fP:=λd=>Xg (a:=a) (dst:=o.dst) (v:=v') I.GX (R.lt ho) d;have ZW:HB (i+1)=HH (i+1):=by obtain⟨_,h⟩:=R.step i o ho;rw[hX,cF] at h;exact h.2.2.2
 refine⟨zzz,ZW.symm,.inr ⟨i,o,rfl,ho,hX,cF⟩,?_,?_,?_,?_,hR.os.trans I.os,hR.tape.trans I.tape,hR.output.trans I.output,afi I.size hR.size,?_,?_,?_,?_,by rw[VP];exact I.GX,Em.le_trans I.le (Em.le_trans vh he),by rw[ZG];exact I.defers⟩
 ·intro i' j h1 h2;rcases h1 with h1|h1;·exact .inl (I.down i' j h1 h2)
  ·subst h1;exact .inl (hr j h2)
 ·intro i' o' h1 h2 h3;constructor
  ·rintro (q|q);·have:=(I.dP i' o' h1 h2 h3).1 q;omega
   ·omega
  ·intro q;by_cases Hh:i'=i;·exact .inr Hh
   ·exact .inl (hr i' (R.d1 i o ho hX cF i' o' h1 h2 (.inl h3) zzz))
 ·rw[ZW];refine (hR.weaken λk hk=>?_).Pv;rcases hk with hk|⟨j,h1,h2⟩;·exact .inl hk
  ·exact .inr ⟨j,(rp j h1).1,h2⟩
 ·intro k hk;exact (hR.frame k (.inl hk)).2.trans (I.frame k hk)
 ·intro j hj;obtain⟨UH,Ut,hj3⟩:=rp j hj;obtain⟨g1,g2,g3⟩:=I.Tc j Ut;refine⟨by rw[((Em.le_trans vh he).2 _ I.rh.nK.2.1).2.2];exact g1,g2,λo2 h1=>?_⟩;obtain⟨ob,val,q3,q2,q4⟩:=g3 o2 h1;refine⟨ob,val,?_,q2,λd hd=>?_⟩;·rw[(hR.frame (cC j) (.inr ⟨j,UH,rfl⟩)).2];exact q3
  ·rw[fP,zz1 (aE j o2 d h1 hd hj3)];exact q4 d hd
 ·intro x y hx hy;exact I.Qm x y (rp x hx).2.1 (rp y hy).2.1
 ·intro j o2 d h1 h2 h3 h4;rw[fP];rcases h2 with h2|h2
  ·have yD:j≠i:=λq=>hS (q▸h2);rw[zz1 (aE j o2 d h1 h3 yD)];by_cases hp:mQ P ops X S p j
   ·obtain⟨q1,q2,q3,o3,q4,q5⟩:=hp;rw[h1] at q4;cases q4;by_cases aN:j<i;·exact (Zq j o2 d q2 aN h1 q3 q5 h3).mono he
    ·exact absurd ⟨.inl q1,zzz,q3,o2,h1,q5⟩ h4
   ·exact ((I.val j o2 d h1 h2 h3 hp).mono vh).mono he
  ·subst h2;rw[ho] at h1;cases h1;rw[zz2 h3];exact hv
 ·intro d hd;rw[fP,zz1 (hd i o ho (.inr rfl))];exact ((I.Kj d λj o2 h1 h2=>hd j o2 h1 (.inl h2)).mono vh).mono he
end
end
end
theorem amJ {α:Type}{p q:α->Bool}(h:∀x,p x=true->q x=true){a:α}(hq:q a=true)(hp:p a=false):∀l:List α,a∈l->l.countP p<l.countP q
 |b::l,hm=>by
  have hle:∀l:List α,l.countP p<=l.countP q:=λl=>List.countP_mono_left λx _=>h x;rcases aal.1 hm with rfl|hm;·rw[List.countP_cons_of_neg (by simp[hp]),List.countP_cons_of_pos hq];have:=hle l;omega
  ·have:=amJ h hq hp l hm;rw[an3,an3];by_cases hb:p b=true;·rw[zz2 hb,zz2 (h b hb)];omega
   ·rw[zz1 hb];omega
theorem ayH {P:Program}{o:Oper}{a:Act}{w:World}{t:Tm}{H H':Hp}{v:AV}(cF:kd P o=.late)(hA:jQ P (ev P.globals.size t) o H=some (v,H')):
  ∃ob val dr,(execOp a.eval o).run P w=.ok (.value val) {w with drawn:=dr,heap:=w.heap.push ob}/\YQ P o w.heap.size ob val:=by
 rcases apg cF with⟨ty,aT⟩|⟨ty,ca,cb,aT⟩|⟨x,y,cv,el,aT,hx,hy⟩
 ·unfold jQ at hA;rw[aT] at hA;simp only at hA;split at hA
  ·rename_i l hl;obtain⟨inf,z,kA,hz,_⟩:=Cf (e:=⟨id,λ_=>0,id,0⟩) hl;refine⟨.cells z.cells ty (0,0),.pointer (some ⟨w.heap.size,0,none⟩),w.drawn,?_,?_⟩;·unfold execOp;rw[aT];simp[Instr.alloc,vH kA hz,newVar,newRow]
   ·intro t2 H2 xy v2 e bF hN;unfold jQ at bF;rw[aT] at bF;simp only[hl,aag,abX] at bF;obtain⟨⟨id,H3⟩,cB,rfl,rfl⟩:=bF;obtain⟨hlen,dd⟩:=SH cB;obtain⟨ahm,z2,GA,AQ,Jr⟩:=Cf (e:=e) hl;rw[kA] at GA;cases GA;rw[hz] at AQ;cases AQ;have CP:id=e.N:=(AS dd).1.trans hN.symm;subst CP;exact⟨_,_,dd,amj Jr hlen,.abh (Em.pP ..) (by simp[Em.ext]) (Em.pQ ..)⟩
  ·cases hA
 ·have DH:∀(t2:Tm) (H2 xy:Hp) (v2:AV),jQ P (ev P.globals.size t2) o H2=some (v2,xy)->zX P ty ((lj ca).getD .dG) ((lj cb).getD .dG) H2=some (v2,xy):=by intro t2 H2 xy v2 h;unfold jQ at h;rw[aT] at h;exact h
  have bw:=DH t H H' v hA;have B6:∃k1 n,(lj ca).getD .dG=.int k1 n:=by
   unfold zX at bw;split at bw;·rename_i q _;exact⟨_,_,q⟩
   ·cases bw
  have RX:∃k2 m,(lj cb).getD .dG=.int k2 m:=by
   unfold zX at bw;split at bw;·rename_i _ q;exact⟨_,_,q⟩
   ·cases bw
  obtain⟨k1,n,ha⟩:=B6;obtain⟨k2,m,hb⟩:=RX;have vA:ca=.int k1 n:=by
   cases h:lj ca with
   |none=>rw[h] at ha;cases ha
   |some u=>rw[h] at ha;have q:u=.int k1 n:=ha;subst q;exact (VR.lj (e:=⟨id,λ_=>0,id,0⟩) h).il
  have vB:cb=.int k2 m:=by
   cases h:lj cb with
   |none=>rw[h] at hb;cases hb
   |some u=>rw[h] at hb;have q:u=.int k2 m:=hb;subst q;exact (VR.lj (e:=⟨id,λ_=>0,id,0⟩) h).il
  rw[ha,hb] at bw;obtain⟨el,s,z,row,hu,hs,hz,IS,hle,hlen,kF⟩:=run_makeSlice bw w;refine⟨.cells row.toArray el (0,0),.slice (some ⟨w.heap.size,0,none⟩) n.toNat m.toNat,w.drawn,?_,?_⟩
  ·unfold execOp;rw[aT,vA,vB];have h2:(do Pure.pure (Next.value (<-Instr.makeSlice ty (.int k1 n) (.int k2 m))):Sem Next).run P w=.ok (.value (.slice (some ⟨w.heap.size,0,none⟩) n.toNat m.toNat)) {w with heap:=w.heap.push (.cells row.toArray el (0,0))}:=by rw[Sem.run_bind,kF];rfl
   exact h2
  ·intro t2 H2 xy v2 e bF hN;have jg:=DH t2 H2 xy v2 bF;rw[ha,hb] at jg;unfold zX at jg;simp only[hu,hs] at jg;split at jg;·rw[hz] at jg;simp only[aag,abX] at jg;obtain⟨⟨id,H3⟩,cB,rfl,rfl⟩:=jg;obtain⟨qL,dd⟩:=SH cB;have CP:id=e.N:=(AS dd).1.trans hN.symm;subst CP;have eN:=amj (cs:=row.toArray) (b:=w.heap.size) (el:=el) (by simpa using IS e) qL;refine⟨_,_,dd,eN,?_⟩;have ja:(e.ext w.heap.size 0 row.toArray.size).b e.N=w.heap.size:=Em.pP ..;have hv:=VR.slice (e:=e.ext w.heap.size 0 row.toArray.size) e.N 0 n.toNat m.toNat true s 0 m.toNat (ahL e.N) (by rw[Em.pQ];rfl) hle (aaq _) (λ_=>rfl) (by rw[Em.AM];simp[hlen]);rw[ja] at hv;exact hv
   ·cases jg
 ·have ajl:∀(t2:Tm) (H2 xy:Hp) (v2:AV),jQ P (ev P.globals.size t2) o H2=some (v2,xy)->kY P x y ((lj cv).getD .dG) H2=some (v2,xy):=by intro t2 H2 xy v2 h;unfold jQ at h;rw[aT] at h;exact h
  have bw:=ajl t H H' v hA;unfold kY at bw;rw[hx,hy] at bw;cases hc:(lj cv).getD .dG with
  |str s=>
   rw[hc] at bw;simp only at bw;have hof:lj cv=some (.str s):=by
    cases h:lj cv with
    |none=>rw[h] at hc;cases hc
    |some u=>rw[h] at hc;exact congrArg some hc
   obtain⟨s',zL,hcv⟩:=(VR.lj (e:=⟨id,λ_=>0,id,0⟩) hof).oc;split at bw
   ·rename_i rm;refine⟨.cells (xY w el s').toArray el (pX w el s',pX w el s'+1),.slice (some ⟨w.heap.size,0,none⟩) s'.size (pX w el s'),w.drawn+1,?_,?_⟩
    ·unfold execOp;rw[aT];have h1:(convert x y cv).run P w=(Conv.stringToBytes el s').run P w:=by rw[hcv];simp[convert,aL hx,aL hy,aL rm]
     have h2:(do Pure.pure (Next.value (<-convert x y cv)):Sem Next).run P w=.ok (.value (.slice (some ⟨w.heap.size,0,none⟩) s'.size (pX w el s'))) {w with drawn:=w.drawn+1,heap:=w.heap.push (.cells (xY w el s').toArray el (pX w el s',pX w el s'+1))}:=by rw[Sem.run_bind,h1,aho];rfl
     exact h2
    ·intro t2 H2 xy v2 e bF hN;have jg:=ajl t2 H2 xy v2 bF;unfold kY at jg;rw[hx,hy,hc] at jg;simp only[rm] at jg;split at jg
     ·rename_i i H3 cB;cases jg;obtain⟨hlen,dd⟩:=SH cB;have CP:i=e.N:=(AS dd).1.trans hN.symm;subst CP;have fS:=YI w el s';have hle:=Sc w el s';rw[zL] at dd cB hlen⊢;refine⟨_,(xY w el s').length,dd,?_,?_⟩
      ·refine .cells _ _ _ _ _ _ (pX w el s',pX w el s'+1) (by rw[Em.AM];simp) ?_ zzy ?_ (λ_=>Em.pQ ..);·intro k u _ hk hg;rw[Tr.Jv .nil _ _ _ _ zzz] at hg;rw[zz2 ⟨zzz,zzz⟩,agN] at hg;obtain⟨v',bT,hr⟩:=(adI e s').get hg;refine⟨k,by rw[Em.pQ];omega,v',?_,hr.mono (Em.sE ..)⟩;have kL:k<(s'.data.toList.map λb=>Value.int .u8 b.toNat).length:=(aac.1 bT).1;simp only[aeK,xY];rw[abi kL];exact bT
       ·intro _ k hk;have se:k<(xY w el s').length:=by simpa using hk
        rw[fS] at se;simp;omega
      ·have ja:(e.ext w.heap.size 0 (xY w el s').length).b e.N=w.heap.size:=Em.pP ..;have hv:=VR.slice (e:=e.ext w.heap.size 0 (xY w el s').length) e.N 0 s'.size s'.size false 1 0 (pX w el s') (ahL e.N) (by rw[Em.pQ];rfl) hle hle zzy (by rw[Em.AM,fS];omega);rw[ja] at hv;rw[AZ];exact hv
     ·cases jg
   ·cases bw
  |_=>rw[hc] at bw;first|(simp only at bw;cases bw;done)|(cases bw;done)|(simp at bw;done)
section
variable {P:Program}{cf:CF}{n:Nat}{ops:Array Oper}{B:List Nat}{t0:Tm}{H0:Hp}{TP TE:Nat->Tm}{HB HH:Nat->Hp}{V:Nat->AV}{X:Nat->Bool}
 {F:Nat->Prop} {W:World} {e0:Em} {ds:List Deferred} {S:Nat->Prop} {p:Nat} {e:Em} {a:Act} {w:World} {cC:Nat->Nat}
theorem Inv.congr {S':Nat->Prop}(I:Inv P n ops B t0 HB HH V X F W e0 ds S p e a w cC)(h:∀j,S j↔S' j):Inv P n ops B t0 HB HH V X F W e0 ds S' p e a w cC:=by have:S=S':=funext λj=>propext (h j);rw[<-this];exact I
theorem Inv.final (R:sV P cf n ops B t0 H0 TP TE HB HH V X)(I:Inv P n ops B t0 HB HH V X F W e0 ds S p e a w cC)(mM:∀j,j<ops.size->S j)(hS:∀j,S j->j<ops.size):
  ∃e',e0.le e'/\RH P.globals.size F W e' (HH ops.size) w/\TR e' n (TE ops.size) a/\a.defers=ds:=by
 obtain⟨k,hk⟩:∃k,ops.size=p+k:=⟨ops.size-p,by have:=I.pN;omega⟩;obtain⟨e',he,hr,hv⟩:=I.Qd R k zzz λj o h1 h2 h3 h4=>⟨λh5=>by have:=(I.dP j o h3 h4 h5).1 (mM j zzz);omega,λ_=>mM j zzz⟩;rw[<-hk] at hr hv;refine⟨e',Em.le_trans I.le he,?_,⟨I.GX,λd=>?_⟩,I.defers⟩;·have hw:=hr.weaken (F':=F) λq hq=>.inl hq;exact hw.MD (λq hq=>⟨(hw.frame q hq).1,I.frame q hq⟩) (λi o ho hwr hq=>(hw.obj i o ho).2.choose_spec.2.2 hwr hq) I.os I.tape I.output I.size
 ·obtain⟨v1,v2⟩:=R.aH ops.size (aaq _) d;by_cases hex:∃j o',j<ops.size/\ops[j]?=some o'/\o'.dst=some d
  ·obtain⟨j,o',hj,gO,gw⟩:=hex;rw[(v1 j o' hj gO gw).2,afK];by_cases hp:mQ P ops X S p j;·obtain⟨q1,q2,q3,o3,q4,q5⟩:=hp;rw[gO] at q4;cases q4;exact hv j o' d q2 hj gO q3 q5 gw
   ·exact (I.val j o' d gO (mM j hj) gw hp).mono he
  ·rw[(v2 λj o' hj gO gw=>hex ⟨j,o',hj,gO,gw⟩).2];exact (I.Kj d λj o' gO wT gw=>hex ⟨j,o',hS j wT,gO,gw⟩).mono he
theorem arX (jb:wz P cf)(R:sV P cf n ops B t0 H0 TP TE HB HH V X){Q:Exit->Act->World->Prop}
  (hQ:∀e' a' w',e0.le e'->RH P.globals.size F W e' (HH ops.size) w'->TR e' n (TE ops.size) a'->a'.defers=ds->Q .normal a' w'):
  ∀(fuel:Nat) (listed:Array Bool) (p:Nat) (e:Em) (a:Act) (w:World) (cC:Nat->Nat),listed.size=ops.size->
   Inv P n ops B t0 HB HH V X F W e0 ds (λj=>listed.getD j false=true) p e a w cC->(List.range ops.size).countP (λj=>!(listed.getD j false))<=fuel->
   wpAny P .any ops Q fuel listed a w:=by
 have ey:∀(listed:Array Bool) (j:Nat),listed.size=ops.size->(listed.getD j true=false↔j<ops.size/\¬listed.getD j false=true):=by
  intro listed j hs;simp only[afG];by_cases hj:j<listed.size;·rw[agw hj];simp;omega
  ·rw[Array.getElem?_eq_none zzz];simp;omega
 have Dh:∀(listed:Array Bool),listed.size=ops.size->∀j,listed.getD j false=true->j<ops.size:=by
  intro listed hs j hj;rcases alD j listed.size with q|q;·omega
  ·rw[afG,Array.getElem?_eq_none q] at hj;cases hj
 have finish:∀(listed:Array Bool) (p:Nat) (e:Em) (a:Act) (w:World) (cC:Nat->Nat),listed.size=ops.size->Inv P n ops B t0 HB HH V X F W e0 ds (λj=>listed.getD j false=true) p e a w cC->
   Region.ready .any ops listed=[]->Q .normal a w:=by
  intro listed p e a w cC hs I yw;have mM:∀j,j<ops.size->listed.getD j false=true:=by
   intro j;induction j using Nat.strongRecOn with
   |_ j ih=>
    intro hj;by_cases hl:listed.getD j false=true;·exact hl
    ·exfalso;have:j∈Region.ready .any ops listed:=by rw[mem_ready];refine⟨(ey listed j hs).2 ⟨hj,hl⟩,_,agw hj,λe he hb=>?_⟩;have:=R.form.back j _ (agw hj) e he hb;exact ih e.on this zzz
     rw[yw] at this;cases this
  obtain⟨e',h1,h2,h3,h4⟩:=I.final R mM (Dh listed hs);exact hQ e' a w h1 h2 h3 h4
 intro fuel;induction fuel with
 |zero=>
  intro listed p e a w cC hs I hc;have yw:Region.ready .any ops listed=[]:=by
   cases hq:Region.ready .any ops listed with
   |nil=>rfl|cons j l=>
    exfalso;have hm:j∈Region.ready .any ops listed:=by rw[hq];exact List.mem_cons_self ..
    rw[mem_ready] at hm;obtain⟨h1,h2⟩:=(ey listed j hs).1 hm.1;have:0<(List.range ops.size).countP (λj=>!(listed.getD j false)):=List.countP_pos_iff.2 ⟨j,by simpa using h1,by simpa using h2⟩;omega
  exact⟨yw,finish listed p e a w cC hs I yw⟩
 |succ fuel ih=>
  intro listed p e a w cC hs I hc;refine⟨finish listed p e a w cC hs I,λi hi=>?_⟩;rw[mem_ready] at hi;obtain⟨h0,o,ho,UD⟩:=hi;obtain⟨aN,hS⟩:=(ey listed i hs).1 h0;have hr:∀j,(B.getD i 0).testBit j=true->listed.getD j false=true:=by
   intro j hj;obtain⟨ed,h1,h2,h3⟩:=R.form.bit i o ho j hj;have h4:=UD ed h1 h2;rcases h3 with h3|h3;·rw[h3];exact h4
   ·exact I.down ed.on j h4 h3
  have fY:∀j,(listed.setIfInBounds i true).getD j false=true↔(listed.getD j false=true\/j=i):=by
   intro j;by_cases hj:j=i;·subst hj;simp[afG,agL (show j<listed.size by omega)]
   ·rw[getD_set_ne false (λq=>hj q.symm)];simp[hj]
  have ayQ:(List.range ops.size).countP (λj=>!((listed.setIfInBounds i true).getD j false))<=fuel:=by
   have:=amJ (p:=λj=>!((listed.setIfInBounds i true).getD j false)) (q:=λj=>!(listed.getD j false)) (a:=i) (by
    intro x hx;cases hq:listed.getD x false with
    |false=>rfl|true=>have:=(fY x).2 (.inl hq);rw[this] at hx;cases hx) (by
    cases hq:listed.getD i false with
    |false=>rfl|true=>exact absurd hq hS) (by rw[(fY i).2 (.inr rfl)];rfl) (List.range ops.size) (by simpa using aN)
   omega
  have next:∀p' e' a' w' Vl,Inv P n ops B t0 HB HH V X F W e0 ds (λj=>listed.getD j false=true\/j=i) p' e' a' w' Vl->wpAny P .any ops Q fuel (listed.setIfInBounds i true) a' w':=
   λp' e' a' w' Vl I'=>ih _ p' e' a' w' Vl (by simpa using hs) (I'.congr λj=>(fY j).symm) ayQ
  obtain⟨hw,aC⟩:=R.step i o ho;have hgd:∀d,Le ops o=some d->VR e (((TP i).get d).getD bP) (a.tmps.getD d undef):=λd hd=>I.read R ho hS hr (by unfold JE;rw[hd];simp);have Rb:=Qr (e:=e) (a:=a) hw hgd;have amC:∀x∈o.op.operands.toList,VR e (ev P.globals.size (TP i) x) (a.eval x):=λx hx=>ad7 I.rh λd hd=>I.read R ho hS hr (agB (hd▸hx));unfold wpOp;simp only[ho];cases hX:X i with
  |false=>
   rw[hX] at aC Rb;rw[Rb];simp only[aa4,if_false];refine next p e _ w cC (I.quiet R ho hS hr (by rw[hX];simp) e.le_refl I.rh ?_)
   rw[aC.1];exact VR.undef
  |true=>
   rw[hX] at aC Rb;rw[Rb];simp only[if_true];left;have avX:∀j oj,ops[j]?=some oj->X j=true->kd P oj=.dP->p<=j->j<i->kd P o=.dP->False:=by intro j oj h1 h2 h3 h4 h5 h6;have:=hr j (R.d1 i o ho hX h6 j oj h1 h2 (.inl h3) h5);have:=(I.dP j oj h1 h2 h3).1 this;omega
   cases cF:kd P o<;>rw[cF] at aC
   ·obtain⟨⟨h',aT⟩,_⟩:=aC;have RJ:=aFu cF aT (HB p);have MU:si P cf (TP i) o (HB p)=some (V i,HB p):=by
     unfold si;split;·rename_i f args cL hq;unfold kd at cF;rw[hq] at cF;cases cF
     ·exact RJ
    refine MV jb I.rh MU amC ?_;intro e' v' w' he hR hv;exact next p e' _ w' cC (I.quiet R ho hS hr (λ_=>by rw[cF];simp) he hR hv)
   ·obtain⟨⟨h',aT⟩,_⟩:=aC;have Ei:∃h'',jQ P (ev P.globals.size (TP i)) o (HB p)=some (V i,h''):=by
     by_cases ue:p<=i
     ·by_cases hex:∃j oj,p<=j/\j<i/\ops[j]?=some oj/\X j=true/\kd P oj=.dP
      ·have ar1:∃j oj,p<=j/\j<i/\ops[j]?=some oj/\X j=true/\kd P oj=.dP/\∀j' tv,p<=j'->j'<j->ops[j']?=some tv->X j'=true->kd P tv ≠ .dP:=by
        obtain⟨j,hj⟩:=hex;induction j using Nat.strongRecOn with
        |_ j ihj=>
         obtain⟨oj,h1,h2,h3,h4,h5⟩:=hj;by_cases hm:∃j' tv,p<=j'/\j'<j/\ops[j']?=some tv/\X j'=true/\kd P tv=.dP;·obtain⟨j',tv,g1,g2,g3,g4,g5⟩:=hm;exact ihj j' g2 ⟨tv,g1,zzz,g3,g4,g5⟩
         ·exact⟨j,oj,h1,h2,h3,h4,h5,λj' tv g1 g2 g3 g4 g5=>hm ⟨j',tv,g1,g2,g3,g4,g5⟩⟩
       obtain⟨j,oj,h1,h2,h3,h4,h5,h6⟩:=ar1;have Zb:HB j=HB p:=by obtain⟨k,rfl⟩:∃k,j=p+k:=⟨j-p,zzz⟩;exact R.adM p k zzz λj' tv g1 g2 g3 g4=>h6 j' tv g1 g2 g3 g4
       rcases R.d3 j oj h3 h4 h5 i o ho hX cF h2 with q|q;·exfalso;have:=(I.dP j oj h3 h4 h5).1 (hr j q);omega
       ·rw[<-Zb];exact q
      ·have Zb:HB i=HB p:=by obtain⟨k,rfl⟩:∃k,i=p+k:=⟨i-p,zzz⟩;exact R.adM p k zzz λj' tv g1 g2 g3 g4 g5=>hex ⟨j',tv,g1,g2,g3,g4,g5⟩
       rw[<-Zb];exact⟨h',aT⟩
     ·have hex:∃j oj,i<j/\j<p/\ops[j]?=some oj/\X j=true/\kd P oj=.dP/\HB (j+1)=HB p:=by
       rcases I.pe with q|⟨j,oj,q1,q2,q3,q4⟩;·omega
       ·refine⟨j,oj,?_,zzz,q2,q3,q4,by rw[q1]⟩;rcases alD i j with q|q;·exact q
        ·have:i=j:=zzz;subst this;rw[ho] at q2;cases q2;rw[cF] at q4;cases q4
      obtain⟨j,oj,h1,h2,h3,h4,h5,h6⟩:=hex;rcases R.d2 j oj h3 h4 h5 i o ho hX cF h1 with q|q;·exfalso;exact hS (I.down j i ((I.dP j oj h3 h4 h5).2 h2) q)
      ·rw[<-h6];exact q
    obtain⟨h'',RJ⟩:=Ei;have ot:=alg (.inr cF) RJ;subst ot;have MU:si P cf (TP i) o (HB p)=some (V i,HB p):=by
     unfold si;split;·rename_i f args cL hq;unfold kd at cF;rw[hq] at cF;cases cF
     ·exact RJ
    refine MV jb I.rh MU amC ?_;intro e' v' w' he hR hv;exact next p e' _ w' cC (I.quiet R ho hS hr (λ_=>by rw[cF];simp) he hR hv)
   ·obtain⟨hA,_⟩:=aC;have ue:p<=i:=by
     rcases alD i p with q|q
     ·exfalso;rcases I.pe with r|⟨j,oj,q1,q2,q3,q4⟩;·omega
      ·have lM:i<j:=by
        rcases alD i j with q'|q';·exact q'
        ·have:i=j:=zzz;subst this;rw[ho] at q2;cases q2;rw[cF] at q4;cases q4
       have wT:=(I.dP j oj q2 q3 q4).2 zzz;exact hS (I.down j i wT (R.d1 j oj q2 q3 q4 i o ho hX (.inr cF) lM))
     ·exact q
    obtain⟨ob,val,dr,kF,NW⟩:=ayH (a:=a) (w:=w) cF hA;have hI:=I.late R ho hS hr hX cF ue (dr:=dr) NW;unfold Oper.wp;rw[kF];exact next p e _ _ _ hI
   ·obtain⟨aT,_,_,ZW⟩:=aC;have ue:p<=i:=by
     rcases alD i p with q|q;·exact absurd ((I.dP i o ho hX cF).2 q) hS
     ·exact q
    obtain⟨k,hk⟩:∃k,i=p+k:=⟨i-p,zzz⟩;have Zq:∀j oj,p<=j->j<i->ops[j]?=some oj->X j=true->kd P oj ≠ .dP/\(kd P oj=.late->listed.getD j false=true):=
     λj oj h1 h2 h3 h4=>⟨λh5=>avX j oj h3 h4 h5 h1 h2 cF,λh5=>hr j (R.d1 i o ho hX cF j oj h3 h4 (.inr h5) h2)⟩
    obtain⟨e1,vh,jX,oL⟩:=I.Qd R k zzz (by rw[<-hk];exact Zq);rw[<-hk] at jX oL;have az9:∀x∈o.op.operands.toList,VR e1 (ev P.globals.size (TE i) x) (a.eval x):=by
     intro x hx;refine ad7 jX λd hd=>?_;subst hd;have yw:=agB (ops:=ops) hx;obtain⟨v1,v2⟩:=R.aH i (amw aN) d;by_cases hex:∃j o',j<i/\ops[j]?=some o'/\o'.dst=some d
     ·obtain⟨j,o',hj,gO,gw⟩:=hex;rw[(v1 j o' hj gO gw).2,afK];have wT:listed.getD j false=true:=by have:=R.form.rd j i o' o d gO ho gw zzz yw;rw[zz2 hj] at this;exact hr j this
      by_cases hp:mQ P ops X (λj=>listed.getD j false=true) p j;·obtain⟨q1,q2,q3,o3,q4,q5⟩:=hp;rw[gO] at q4;cases q4;exact oL j o' d q2 hj gO q3 q5 gw
      ·exact (I.val j o' d gO wT gw hp).mono vh
     ·rw[(v2 λj o' hj gO gw=>hex ⟨j,o',hj,gO,gw⟩).2];refine (I.Kj d λj o' gO wT gw=>?_).mono vh;by_cases yD:j<i;·exact hex ⟨j,o',yD,gO,gw⟩
      ·by_cases Df:j=i;·subst Df;exact hS wT
       ·have:=R.form.rd j i o' o d gO ho gw Df yw;rw[zz1 zzz] at this;exact hS (I.down j i wT this)
    refine MV jb jX aT az9 ?_;intro e' v' w' he hR hv;exact next (i+1) e' _ w' cC (I.effect R ho hS hr hX cF ue vh oL he hR hv)
end
end
section
variable {P:Program}{cf:CF}{F:Nat->Prop}{W:World}{e:Em}{H:Hp}{w:World}
section
variable {H H':Hp}{Q:Exit->Act->World->Prop}{a:Act}{args:List AV}{as':Array Value}{c:Code}{fn:Func}{t':Tm}{w:World}
theorem adN {s:lX}(h:xR P s H=true):∃h',jQ P (ev P.globals.size s.t) s.o H=some (s.v,h'):=by
 unfold xR at h;split at h;·rename_i v' h' hv;rw[awA h];exact⟨h',hv⟩
 ·cases h
theorem ajS (hm:P.follows .mixedOrders=true)(jb:wz P cf){ops:Array Oper}{n id:Nat}{t:Tm}(hd:FQ P cf n ops t H=some (t',H'))(hR:RH P.globals.size F W e H w)(hT:TR e n t a)
  (hQ:∀e' a' w',e.le e'->RH P.globals.size F W e' H' w'->TR e' n t' a'->a'.defers=a.defers->Q .normal a' w'):(Code.region id ops true).wp P Q a w:=by
 unfold FQ at hd;cases GH:AD ops with
 |false=>rw[GH] at hd;cases hd
 |true=>
 rw[GH] at hd;simp only[cond_true] at hd;split at hd
 ·rename_i l tF HF kF;cases Nv:FZ P l with
  |false=>rw[Nv] at hd;cases hd
  |true=>
  rw[Nv] at hd;cases hd;have aEE:=aAg GH;obtain⟨TP,TE,HB,HH,V,X,q1,q2,q3,q4,q5,q6,q7⟩:=aHe (B:=before ops.toList []) ops.toList (before ops.toList []) 0 t t H H l zzy zzy kF;rw[adn,alb] at q5 q6;unfold FZ at Nv;rw[adP] at Nv;have pair:∀i oi,ops[i]?=some oi->X i=true->kd P oi=.dP->∀j oj,ops[j]?=some oj->X j=true->
    ((kd P oj=.dP\/kd P oj=.late)->(!(Nat.blt j i)||((before ops.toList []).getD i 0).testBit j)=true)/\
    (kd P oj = .read->(bif Nat.blt j i then ((before ops.toList []).getD i 0).testBit j||xR P ⟨j,oj,(before ops.toList []).getD j 0,X j,kk P (X j) oj,V j,TP j,HB j,HB (j+1)⟩ (HB (i+1)) else
     ((before ops.toList []).getD j 0).testBit i||xR P ⟨j,oj,(before ops.toList []).getD j 0,X j,kk P (X j) oj,V j,TP j,HB j,HB (j+1)⟩ (HB i))=true):=by
   intro i oi hi hx hk j oj hj yl;have h1:=Nv _ (q7 i oi (abg _) hi).2;simp only[kk,hx,if_true,hk,adP] at h1;have h2:=h1 _ (q7 j oj (abg _) hj).2;simp only[kk,yl,if_true] at h2⊢;constructor;·intro uM;rcases uM with uM|uM<;>(rw[uM] at h2;exact h2)
   ·intro uM;rw[uM] at h2⊢;exact h2
  have aE2:sV P cf n ops (before ops.toList []) t H TP TE HB HH V X:=by
   refine⟨aEE,q1,q2,q3,q4,λj o ho=>(q7 j o (abg _) ho).1,?_,?_,?_⟩
   ·intro i oi hi hx hk j oj hj yl uM aN;have:=(pair i oi hi hx hk j oj hj yl).1 uM;have hb:Nat.blt j i=true:=by rw[aeg];exact aN
    rw[hb] at this;simpa using this
   ·intro i oi hi hx hk j oj hj yl uM aN;have:=(pair i oi hi hx hk j oj hj yl).2 uM;have hb:Nat.blt j i=true:=by rw[aeg];exact aN
    rw[hb] at this;simp only[cond_true,aiJ] at this;exact this.imp (λq=>q) adN
   ·intro i oi hi hx hk j oj hj yl uM aN;have:=(pair i oi hi hx hk j oj hj yl).2 uM;have hb:Nat.blt j i=false:=by
     cases hb:Nat.blt j i;·rfl
     ·rw[aeg] at hb;omega
    rw[hb] at this;simp only[cond_false,aiJ] at this;exact this.imp (λq=>q) adN
  refine wp_region_any hm ?_;have J5:∀j,(Array.replicate ops.size false).getD j false=true->False:=by intro j hj;rw[afG,Array.getElem?_replicate] at hj;split at hj<;>simp at hj
  have qW:=(hR.drawn (w.drawn+1));refine arX (F:=F) (W:=W) (e0:=e) (ds:=a.defers) jb aE2 (by rw[q5,q6];exact hQ) ops.size (Array.replicate ops.size false) 0 e a {w with drawn:=w.drawn+1} (λ_=>0) zzy ?_ (by have:=List.countP_le_length (p:=λj=>!((Array.replicate ops.size false).getD j false)) (l:=List.range ops.size);simpa using this);refine⟨abg _,by rw[q3,q4],.inl rfl,λi j h=>(J5 i h).elim,λi o _ _ _=>⟨λh=>(J5 i h).elim,λh=>zzz⟩,?_,λk hk=>(qW.frame k hk).2,hR.os,hR.tape,hR.output,hR.size,
   λj hj=>(J5 j hj.1).elim,λi j hi=>(J5 i hi.1).elim,λj o d _ h=>(J5 j h).elim,λd _=>hT.val d,hT.size,e.le_refl,rfl⟩
  rw[q3];refine (qW.weaken λk hk=>?_).Pv;rcases hk with hk|⟨j,hj,_⟩;·exact hk
  ·exact (J5 j hj.1).elim
 ·cases hd
def BJ (P:Program)(c:Code)(Q:Exit->Act->World->Prop)(a:Act)(w:World):Prop:=
 ∀(b:Frame) (k:List Item) (cs:List Frame),∃e a' w',Q e a' w'/\Arrives P (lone (b.at a (.code c :: .inLoop c::k)) cs w) b k cs e a' w'
theorem ZO (h:BJ P c Q a w):(Code.loop c).wp P Q a w:=
 λb k cs=>let ⟨e,a',w',q,r⟩:=h b k cs;⟨e,a',w',q,.of_steps (.one step_loop) r⟩
theorem Vw (h:c.wp P (Exit.then (BJ P c Q) Q) a w):BJ P c Q a w:=by
 intro b k cs;obtain⟨e,a₁,w₁,hq,IL⟩:=h b (.inLoop c::k) cs;cases e with
 |normal=>
  obtain⟨e₂,a₂,w₂,hq₂,aDJ⟩:=hq b k cs;exact⟨e₂,a₂,w₂,hq₂,.of_steps (Steps.trans IL (.one step_inLoop)) aDJ⟩
 |exit id=>exact⟨_,a₁,w₁,hq,.pass (x:=.inLoop c) rfl (λ_ _=>.inl zzy) IL⟩|goto l=>exact⟨_,a₁,w₁,hq,.pass (x:=.inLoop c) rfl (λ_ _=>.inl zzy) IL⟩|ret=>exact⟨_,a₁,w₁,hq,.pass (x:=.inLoop c) rfl (λ_ _=>.inl zzy) IL⟩|panic ch=>exact⟨_,a₁,w₁,hq,.pass (x:=.inLoop c) rfl (λ_ _=>.inl zzy) IL⟩|outgrown=>exact⟨_,a₁,w₁,hq,.pass (x:=.inLoop c) rfl (λ_ _=>.inl zzy) IL⟩
def xit:X->Exit
 |.normal=>.normal|.exit i=>.exit i|.ret=>.ret
def COK (P:Program)(run:Nat->Code->Tm->Hp->Option (X×Tm×Hp)):Prop:=
 ∀(n:Nat) (c:Code) (t:Tm) (H:Hp) (x:X) (t':Tm) (H':Hp),run n c t H=some (x,t',H')->
  ∀(F:Nat->Prop) (W:World) (e:Em) (a:Act) (w:World) (Q:Exit->Act->World->Prop),RH P.globals.size F W e H w->TR e n t a->
   (∀e' a' w',e.le e'->RH P.globals.size F W e' H' w'->TR e' n t' a'->a'.defers=a.defers->Q (xit x) a' w')->
   c.wp P Q a w/\∀b,c=.loop b->BJ P b Q a w
theorem aqs (h:RH P.globals.size F W e H w){t:TypeId}{a v:AV}{a':Value}(ha:VR e a a')(hl:wH P H t a=some v):
  ∃ad v',a'=.pointer (some ad)/\(loadVar t ad).run P w=.ok v' w/\VR e v v':=by
 obtain⟨v',h1,h2⟩:=adw h ha hl;unfold wH at hl;split at hl;·obtain⟨o,hi,ho,rfl⟩:=ha.tG;refine⟨_,v',rfl,?_,h2⟩;simpa[Instr.loadAt,Instr.sureAddr] using h1
 ·cases hl
theorem aaK (h:RH P.globals.size F W e H w){n:Nat}{t:Tm}{a:Act}(ht:TR e n t a):∀(l:List ResultVar) (vs:List AV),xK P t H l=some vs->
  ∃ws,(l.mapM (λ(r:ResultVar)=>match r with|.tmp t=>(Pure.pure (a.tmps.getD t undef):Sem Value)|.cell ad ty=>do loadVar ty (<-asAddr (a.tmps.getD ad undef)))).run P w=.ok ws w/\aR e vs ws
 |[],vs,hr=>by cases hr;exact⟨[],zzy,.nil e⟩
 |.tmp x::l,vs,hr=>by
  unfold xK at hr;split at hr;·rename_i l' q8;cases hr;obtain⟨ws,h1,h2⟩:=aaK h ht l l' q8;exact⟨a.tmps.getD x undef::ws,by rw[List.mapM_cons,Sem.run_bind,Sem.run_pure,Result.andThen_ok,Sem.run_bind,h1];rfl,.cons (ht.val x) h2⟩
  ·cases hr
 |.cell ad ty::l,vs,hr=>by
  unfold xK at hr;split at hr
  ·rename_i v l' hv q8;cases hr;obtain⟨ws,h1,h2⟩:=aaK h ht l l' q8;obtain⟨p,v',h3,h4,h5⟩:=aqs h (ht.val ad) hv;refine⟨v'::ws,?_,.cons h5 h2⟩;rw[List.mapM_cons,Sem.run_bind];have:(do loadVar ty (<-asAddr (a.tmps.getD ad undef)):Sem Value).run P w=.ok v' w:=by rw[h3];simp[asAddr,h4]
   rw[this,Result.andThen_ok,Sem.run_bind,h1];rfl
  ·cases hr
theorem aaO (h:RH P.globals.size F W e H w){n:Nat}{t:Tm}(ht:TR e n t a){vs:List AV}(hr:xK P t H fn.results.toList=some vs):
  ∃v,(results fn a.tmps).run P w=.ok v w/\VR e (QY vs) v:=by
 obtain⟨ws,h1,h2⟩:=aaK h ht _ _ hr;have hm:(fn.results.mapM (λ(r:ResultVar)=>match r with|.tmp t=>(Pure.pure (a.tmps.getD t undef):Sem Value)|.cell ad ty=>do loadVar ty (<-asAddr (a.tmps.getD ad undef)))).run P w=.ok ws.toArray w:=by rw[<-Array.toArray_toList (xs:=fn.results),List.mapM_toArray,Sem.run_map,h1];rfl
 unfold results;have nZ:(fn.results.mapM fun
  |.tmp t=>Pure.pure (a.tmps.getD t undef)|.cell ad t=>do loadVar t (<-asAddr (a.tmps.getD ad undef)):Sem (Array Value)).run P w=.ok ws.toArray w:=hm
 refine⟨(if h:ws.toArray.size=1 then ws.toArray[0] else .tuple ws.toArray),?_,?_⟩;·rw[Sem.run_bind];exact abk (congrArg (λr:Result (Array Value)=>r.andThen (λvs w'=>(Pure.pure (if h:vs.size=1 then vs[0] else .tuple vs):Sem Value).run P w')) nZ) rfl
 ·cases vs with
  |nil=>rw[h2.mc];exact .tuple' (.nil e)|cons v r=>
   obtain⟨v',ws',rfl,hv,dH⟩:=h2.cons_inv;cases r with
   |nil=>rw[dH.mc];exact hv|cons v2 r2=>
    obtain⟨I6,ws2,rfl,vY,rJ⟩:=dH.cons_inv;have:¬(v'::I6::ws2).toArray.size=1:=zzy;rw[dif_neg this];exact .tuple' h2
def MP:Ext->Array Value->Sem Value
 |.same=>Extern.AbiNoEscape.same|.MG t=>Extern.BytealgMakeNoZero.makeNoZero #[] #[t]|.Tt=>Extern.BytealgIndexByte.indexByte|.count=>Extern.BytealgCount.count
def A7 (P:Program)(ext:Nat->Option Ext):Prop:=
 ∀aV k,ext aV=some k->∀(as':Array Value) (w:World),(callFunc aV as').run P w=(do Pure.pure (Next.value (<-MP k as')):Sem Next).run P w
def xm (P:Program)(bH:Nat->Option Prim):Prop:=
 ∀aV p,bH aV=some p->∀(args:List AV) (H:Hp) (v:AV) (H':Hp),p args H=some (v,H')->
  ∀(F:Nat->Prop) (W:World) (e:Em) (w:World) (as':Array Value),RH P.globals.size F W e H w->aR e args as'.toList->
   (callFunc aV as').run P w=.ok (.enter aV as') w/\Calls P aV as' w (IY P.globals.size F W e v H')
def qQ (P:Program):Prop:=(P.funcs.toList.all λfn=>fn.body.isNone||fn.name != "runtime.NumGoroutine")=true
theorem AW (hN:qQ P){aV:Nat}{b:Code}(hf:P.funcs[aV]?=some fn)(hb:fn.body=some b)(as':Array Value)(w:World):(callFunc aV as').run P w=.ok (.enter aV as') w:=by
 have hn:(fn.name == "runtime.NumGoroutine")=false:=by unfold qQ at hN;rw[adP] at hN;have:=hN fn (by have:=Array.mem_of_getElem? hf;simpa using this);rw[hb] at this;simp at this;simp[this]
 unfold callFunc;rw[Sem.run_bind,run_program,Result.andThen_ok];simp only[hf,hn,aa4,if_false,hb,Option.isNone_some];rfl
theorem age:∀(n t:Nat) (acc:Array Value),(Extern.BytealgMakeNoZero.digits n t acc).size=acc.size+n
 |0,t,acc=>rfl|n+1,t,acc=>by rw[Extern.BytealgMakeNoZero.digits,age n];simp;omega
theorem ai9 (c:UInt8):∀(l:List UInt8) (k:Nat) (q:Nat->Bool),(∀(j:Nat) (h:j<l.length),q (k+j)=(l[j]==c))->(List.range' k l.length).find? q=lL c.toNat (l.map (·.toNat)) k
 |[],k,q,_=>rfl|b::l,k,q,h=>by
  have h0:=h 0 zzy;simp only[aeA,List.getElem_cons_zero] at h0;have e:(b==c)=Nat.beq b.toNat c.toNat:=by rw[am6,Nat.beq_eq];simp[UInt8.toNat_inj]
  rw[aau,anE,List.find?_cons,h0,abo,lL,e];cases Nat.beq b.toNat c.toNat with
  |true=>rfl|false=>
   simp only[cond_false];refine ai9 c l (k+1) q (λj hj=>?_);have:=h (j+1) (by simp;omega);rw[show k+1+j=k+(j+1) by omega,this,List.getElem_cons_succ]
theorem amI (c:UInt8):∀l:List UInt8,Lib.countByte l c=iF c.toNat (l.map (·.toNat))
 |[]=>rfl|b::l=>by
  have e:(b==c)=Nat.beq b.toNat c.toNat:=by rw[am6,Nat.beq_eq];simp[UInt8.toNat_inj]
  have ih:=amI c l;unfold Lib.countByte at ih⊢;rw[List.count_cons,abo,iF,e,ih];cases Nat.beq b.toNat c.toNat<;>rfl
theorem firstIdx_eq (s:ByteArray)(c:UInt8):firstIdx s c=(match lL c.toNat (bytes s) 0 with|some i=>(i:Int)|none=>-1):=by
 have hs:s.size=s.data.toList.length:=(alb).symm;have h:=ai9 c s.data.toList 0 (λi=>s[i]! == c) (λj hj=>by
  have lE:j<s.size:=by rw[hs];exact hj
  simp only[adn];rw[getElem!_pos s j lE];have e:s[j]=s.data.toList[j]:=by rw[Array.getElem_toList];rfl
  rw[e])
 unfold firstIdx;rw[List.range_eq_range',hs,h];rfl
theorem amF (h:RH P.globals.size F W e H w){k:Ext}{v:AV}(ha:aR e args as'.toList)(hx:Iq P k args H=some (v,H')):
  ∃v' w' e',(MP k as').run P w=.ok v' w'/\e.le e'/\RH P.globals.size F W e' H' w'/\VR e' v v':=by
 unfold Iq at hx;split at hx;·cases hx;obtain⟨x',r,h1,h2,h3⟩:=ha.cons_inv;rw[h3.mc] at h1;obtain rfl:as'=#[x']:=aee.1 h1;exact⟨x',w,e,rfl,e.le_refl,h,h2⟩
 ·rename_i t n;obtain⟨x',r,h1,h2,h3⟩:=ha.cons_inv;rw[h3.mc] at h1;obtain rfl:as'=#[x']:=aee.1 h1;cases h2.il;split at hx
  ·rename_i el hu;split at hx
   ·rename_i hn;simp only[aag,abX] at hx;obtain⟨⟨i,H2⟩,cB,rfl,rfl⟩:=hx;let w1:World:={w with drawn:=w.drawn+1};let cap:=(Question.appendCap n.toNat 0 el).cut (w.tape w.drawn (.appendCap n.toNat 0 el));have jG:n.toNat<=cap:=Nat.le_add_right _ _;let bs:=(Question.extern "internal/bytealg.MakeNoZero.bytes" 0).cut (w1.tape w1.drawn (.extern "internal/bytealg.MakeNoZero.bytes" 0));let row:=(Extern.BytealgMakeNoZero.digits cap bs #[]);have IS:row.size=cap:=by rw[age];simp
    have hl:aR e (List.replicate n.toNat AV.dG) (row.toList.take n.toNat):=by
     refine⟨by simp[IS];omega,λj a b hj hb=>?_⟩;rw[alR] at hj;split at hj;·cases hj;exact .dG _
     ·cases hj
    obtain⟨e',he,g1,g2,g3,g4,qX⟩:=((h.drawn (w.drawn+1)).drawn (w.drawn+1+1)).newRow (rest:=row.toList.drop n.toNat) (fz:=(0,0)) cB hl (λ_=>rfl) zzy;have axm:(row.toList.take n.toNat++row.toList.drop n.toNat).toArray=row:=by rw[aiP]
    have hlen:(row.toList.take n.toNat++row.toList.drop n.toNat).length=cap:=by rw[aiP];simp[IS]
    refine⟨.slice (some ⟨w.heap.size,0,none⟩) n.toNat cap,_,e',?_,he,qX,VR.Fw g2 g1 (by rw[g3];simp) jG jG zzy (by rw[g4,hlen];omega)⟩;rw[axm];have agV:¬(n<0\/n>2^48):=zzz;have asD:(decide (n<0)||decide (n>2^48))=false:=by simp;omega
    have f1:(Question.appendCap n.toNat 0 el).forced=false:=rfl;have f2:(Question.extern "internal/bytealg.MakeNoZero.bytes" 0).forced=false:=rfl;have B9:MP (.MG t) #[.int .i64 n]=(do
      let some t:=(#[t]:Array TypeId)[0]?|stuck "bytealg.MakeNoZero: no result type"
      let .slice elem <-underlying t|stuck "bytealg.MakeNoZero: slice type expected"
      if n<0||n>2^48 then runtimePanic (.error "makeslice: len out of range")
      let cap <-choose (.appendCap n.toNat 0 elem)
      askRoom cap
      let bytes <-choose (.extern "internal/bytealg.MakeNoZero.bytes" 0)
      let a <-newRow elem (Extern.BytealgMakeNoZero.digits cap bytes #[])
      Pure.pure (.slice (some a) n.toNat cap):Sem Value):=rfl
    rw[B9];simp only[aeK,adp,Sem.run_bind,aL hu,Result.andThen_ok,asD,aa4,if_false,run_choose,f1,f2,run_askRoom,newRow,run_newObj,Sem.run_pure];rfl
   ·cases hx
  ·cases hx
 ·rename_i s n;cases hx;obtain⟨x',r,h1,h2,h3⟩:=ha.cons_inv;obtain⟨y',r2,h4,h5,h6⟩:=h3.cons_inv;rw[h4,h6.mc] at h1;obtain rfl:as'=#[x',y']:=aee.1 h1;cases h5.il;obtain⟨s',rfl,rfl⟩:=h2.oc;refine⟨_,w,e,run_indexByte_string s' n w,e.le_refl,h,?_⟩;rw[firstIdx_eq];have:(n.toNat.toUInt8).toNat=n.toNat%256:=zzy;rw[this];exact .int .i64 _
 ·rename_i s n;cases hx;obtain⟨x',r,h1,h2,h3⟩:=ha.cons_inv;obtain⟨y',r2,h4,h5,h6⟩:=h3.cons_inv;rw[h4,h6.mc] at h1;obtain rfl:as'=#[x',y']:=aee.1 h1;cases h5.il;obtain⟨s',rfl,rfl⟩:=h2.oc;refine⟨_,w,e,Lib.run_countString s' n w,e.le_refl,h,?_⟩;have:(n.toNat.toUInt8).toNat=n.toNat%256:=zzy;rw[amI,this];exact .int .i64 _
 ·cases hx
theorem ace {ext:Nat->Option Ext}{bH:Nat->Option Prim}(hN:qQ P)(hE:A7 P ext)(hP:xm P bH){run:Nat->Code->Tm->Hp->Option (X×Tm×Hp)}(kF:COK P run):
  wz P (IV P ext bH run):=by
 intro g args H v H' hc;unfold IV at hc;split at hc
 ·rename_i aV first cap
  refine⟨aV,first,cap,rfl,?_⟩;intro F W e w as' hR nX;split at hc;·rename_i p hp;exact .inr (hP aV p hp _ H v H' hc F W e w as' hR nX)
  ·split at hc
   ·rename_i fn hf;split at hc
    ·rename_i b hb;cases hle:(Nat.ble (first++args++cap).length fn.ntmps&&Nat.blt fn.ntmps 4294967296) with
     |false=>rw[hle] at hc;cases hc
     |true=>
     rw[hle] at hc;simp only[cond_true] at hc;rw[aam,aeF,aeg] at hle;refine .inr ⟨AW hN hf hb as' w,?_⟩;have hlen:as'.size=(first++args++cap).length:=by have:=nX.1;simpa using this
     have hT:TR e fn.ntmps (Tr.cz .nil 0 (first++args++cap)) {tmps:=as'++Array.replicate (fn.ntmps-as'.size) undef,defers:=[]}:=by
      refine⟨by simp;omega,λx=>?_⟩;rw[Tr.Jv .nil _ _ _ _ zzz];simp only[adn,abg,true_and,agN];by_cases hx:x<(first++args++cap).length;·rw[zz2 hx];have h1:(first++args++cap)[x]?=some (first++args++cap)[x]:=aai hx;obtain⟨v',h2,h3⟩:=nX.get h1;rw[h1,afK,afG,Array.getElem?_append_left zzz,<-aeq,h2];exact h3
      ·rw[zz1 hx];have:(as'++Array.replicate (fn.ntmps-as'.size) undef).getD x undef=undef:=by rw[afG,Array.getElem?_append_right zzz,Array.getElem?_replicate];split<;>rfl
       simp only[this,Tr.get_nil];exact VR.undef
     have fin:∀(x:X) (t2:Tm) (H2:Hp),run fn.ntmps b (Tr.cz .nil 0 (first++args++cap)) H=some (x,t2,H2)->(x=.normal\/x=.ret)->(xK P t2 H2 fn.results.toList).map (λl=>(QY l,H2))=some (v,H')->
       Calls P aV as' w (IY P.globals.size F W e v H'):=by
      intro x t2 H2 hr kC GC;simp only[aag,abX] at GC;obtain⟨vs,vR,rfl,rfl⟩:=GC;refine calls_of_wp hf hb (kF _ _ _ _ _ _ _ hr F W e _ w _ hR hT ?_).1;intro e' a' w' he bp cI hd;obtain⟨u,hu,jy⟩:=aaO bp cI vR;rcases kC with rfl|rfl;·exact⟨hd,u,hu,e',u,rfl,he,bp,jy⟩
      ·exact⟨hd,u,hu,e',u,rfl,he,bp,jy⟩
     split at hc;·cases hc
     ·rename_i x t2 H2 aE hr;cases x with
      |normal=>exact fin _ t2 H2 hr (.inl rfl) hc|ret=>exact fin _ t2 H2 hr (.inr rfl) hc|exit i=>exact (aE i rfl).elim
     ·cases hc
    ·rename_i hb;split at hc;·rename_i k hk;obtain⟨v',w',e',h1,h2,h3,h4⟩:=amF hR nX hc;refine .inl ⟨v',w',e',?_,h2,h3,h4⟩;rw[hE aV k hk,Sem.run_bind,h1];rfl
     ·cases hc
   ·cases hc
 ·cases hc
theorem azv {ext:Nat->Option Ext}{bH:Nat->Option Prim}(hm:P.follows .mixedOrders=true)(hN:qQ P)(hE:A7 P ext)(hP:xm P bH):∀f,COK P (code P ext bH f):=by
 intro f;induction f with
 |zero=>intro n c t H x t' H' h;cases h
 |succ f ih=>
  have jb:wz P (IV P ext bH (code P ext bH f)):=ace hN hE hP ih;intro n c t H x t' H' hc F W e a w Q hR hT hQ;unfold code at hc;split at hc;·cases hc;exact⟨wp_skip (hQ e a w e.le_refl hR hT rfl),by intro b q;cases q⟩
  ·cases hc;exact⟨wp_label (hQ e a w e.le_refl hR hT rfl),by intro b q;cases q⟩
  ·rename_i c1 c2;refine⟨wp_seq ?_,by intro b q;cases q⟩;split at hc;·rename_i t1 H1 h1;refine (ih _ _ _ _ _ _ _ h1 F W e a w _ hR hT ?_).1;intro e' a' w' he bp cI hd;refine (ih _ _ _ _ _ _ _ hc F W e' a' w' _ bp cI ?_).1;intro e2 a2 w2 GJ iK qd qb;exact hQ e2 a2 w2 (Em.le_trans he GJ) iK qd (qb.trans hd)
   ·rename_i aE;refine (ih _ _ _ _ _ _ _ hc F W e a w _ hR hT ?_).1;intro e' a' w' he bp cI hd;have:=hQ e' a' w' he bp cI hd;cases x with
    |normal=>exact absurd hc (aE t' H')|exit i=>exact this|ret=>exact this
  ·rename_i cc c1 c2;split at hc
   ·rename_i b hb;have hv:=VR.ev hR hT cc;rw[hb] at hv;have bT:=hv.wj;refine⟨wp_cond bT ?_,by intro b q;cases q⟩;cases b with
    |true=>exact (ih _ _ _ _ _ _ _ hc F W e a w Q hR hT hQ).1|false=>exact (ih _ _ _ _ _ _ _ hc F W e a w Q hR hT hQ).1
   ·cases hc
  ·rename_i i b;refine⟨wp_block ?_,by intro b q;cases q⟩;split at hc
   ·rename_i j t1 H1 h1;refine (ih _ _ _ _ _ _ _ h1 F W e a w _ hR hT ?_).1;intro e' a' w' he bp cI hd;show Exit.inBlock i Q (.exit j) a' w';cases hj:Nat.beq j i with
    |true=>
     rw[hj] at hc;cases hc;simp only[Exit.inBlock,aaY hj,if_true];exact hQ e' a' w' he bp cI hd
    |false=>
     rw[hj] at hc;cases hc;have aE:¬j=i:=λq=>by rw[q,aiw] at hj;cases hj
     simp only[Exit.inBlock,zz1 aE];exact hQ e' a' w' he bp cI hd
   ·rename_i aE;refine (ih _ _ _ _ _ _ _ hc F W e a w _ hR hT ?_).1;intro e' a' w' he bp cI hd;have:=hQ e' a' w' he bp cI hd;cases x with
    |normal=>exact this|exit j=>exact absurd hc (aE j t' H')|ret=>exact this
  ·rename_i b;have hl:BJ P b Q a w:=by
    refine Vw ?_;split at hc;·rename_i t1 H1 h1;refine (ih _ _ _ _ _ _ _ h1 F W e a w _ hR hT ?_).1;intro e' a' w' he bp cI hd;show Exit.then (BJ P b Q) Q .normal a' w';refine (ih _ _ _ _ _ _ _ hc F W e' a' w' Q bp cI ?_).2 b rfl;intro e2 a2 w2 GJ iK qd qb;exact hQ e2 a2 w2 (Em.le_trans he GJ) iK qd (qb.trans hd)
    ·rename_i aE;refine (ih _ _ _ _ _ _ _ hc F W e a w _ hR hT ?_).1;intro e' a' w' he bp cI hd;have:=hQ e' a' w' he bp cI hd;cases x with
     |normal=>exact absurd hc (aE t' H')|exit i=>exact this|ret=>exact this
   exact⟨ZO hl,by intro b' q;cases q;exact hl⟩
  ·cases hc;exact⟨wp_exit (hQ e a w e.le_refl hR hT rfl),by intro b q;cases q⟩
  ·cases hc;exact⟨wp_ret (hQ e a w e.le_refl hR hT rfl),by intro b q;cases q⟩
  ·rename_i id ops d;refine⟨?_,by intro b q;cases q⟩;split at hc
   ·rename_i t1 H1 h1;cases hc;cases d with
    |true=>exact ajS hm jb h1 hR hT hQ|false=>
     refine wp_region ?_;have:=adm (Q:=Q) jb ops.toList 0 t H e a w zzy h1 hR hT hQ;rw[List.range_eq_range'];simpa using this
   ·cases hc
  ·cases hc
theorem aFD {ext:Nat->Option Ext}{bH:Nat->Option Prim}(hm:P.follows .mixedOrders=true)(hN:qQ P)(hE:A7 P ext)(hP:xm P bH){fuel g:Nat}{v:AV}
  (h:Q7 P ext bH fuel g args H=some (v,H')) {b:Code} (hf:P.funcs[g]?=some fn) (hb:fn.body=some b) (hR:RH P.globals.size F W e H w) (ha:aR e args as'.toList):
  Calls P g as' w (IY P.globals.size F W e v H'):=by
 obtain⟨aV,first,cap,hg,hs⟩:=ace hN hE hP (azv hm hN hE hP fuel) _ _ _ _ _ h;cases hg;rcases hs F W e w as' hR (by simpa using ha) with⟨v',w',e',h1,_⟩|⟨_,h2⟩;·rw[AW hN hf hb] at h1;cases h1
 ·exact h2
end
end
end Go.Proofs.YtodfajmihkagnaaGreatDoor.Am
