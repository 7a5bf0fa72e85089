/- Laws that the proof uses. -/
import Derived.Test.YtbdlbhlhnpblpaaGreatDoorAm4
set_option linter.unusedVariables false
set_option linter.unusedSimpArgs false
namespace Go.Proofs.YtbdlbhlhnpblpaaGreatDoor.Am
section
section
section
section
section
theorem YG {n:Nat}{dst:Option Tmp}{v:AV}{t t':Tm}(h:gr n dst v t=some t')(d:Tmp):t'.get d=if dst=some d then some v else t.get d:=by
 unfold gr at h
 split at h
 ·cases h;simp
 ·rename_i x
  cases hb:(Nat.blt x n&&Nat.blt x 4294967296) with
  | false=>rw[hb] at h;cases h
  | true=>
   rw[hb] at h
   cases h
   simp only[aaK,acY] at hb
   rw[Tr.Le _ _ _ _ _ (by omega)]
   by_cases hx:d=x
   ·subst hx;simp
   ·rw[if_neg hx,if_neg (fun q=>hx (ada q).symm)]
theorem abK {n:Nat}{dst:Option Tmp}{v:AV}{t t':Tm}(h:gr n dst v t=some t'){d:Tmp}(hd:dst=some d):d<n:=by
 subst hd
 unfold gr at h
 simp only at h
 cases hb:(Nat.blt d n&&Nat.blt d 4294967296) with
 | false=>rw[hb] at h;cases h
 | true=>simp only[aaK,acY] at hb;exact hb.1
theorem RH.weaken {G:Nat}{F F':Nat->Prop}{W:World}{e:Em}{H:Hp}{w:World}(h:RH G F W e H w)(hF:∀ k,F' k->F k):RH G F' W e H w:=
 h.Ad (fun k hk=>h.frame k (hF k hk)) (fun i o ho hw hk=>(h.obj i o ho).2.choose_spec.2.2 hw (hF _ hk)) h.os h.tape h.output h.size
theorem RH.Ii {G:Nat}{F:Nat->Prop}{W:World}{e:Em}{H:Hp}{w:World}(h:RH G F W e H w):RH G F w e H w:=
 h.Ad (fun k hk=>⟨(h.frame k hk).1,rfl⟩) (fun i o ho hw hk=>(h.obj i o ho).2.choose_spec.2.2 hw hk) rfl rfl rfl (zf _)
theorem RH.IK {G:Nat}{F F':Nat->Prop}{W:World}{e:Em}{H:Hp}{w:World}(h:RH G F W e H w){o:AO}{i:Nat}{H':Hp}(ha:Am.alloc H o=some (i,H')){b n:Nat}{ob:Obj}
  (hb:w.heap[b]? = some ob) (rJ:∀ j oj,H.h.get j=some oj->e.b j≠b) (da:OR (e.ext b 0 n) i o ob) (hF:∀ k,F' k->F k/\k≠b):i=e.N/\RH G F' W (e.ext b 0 n) H' w:=by
 obtain⟨rfl,bW,rfl⟩:=oV ha
 have hN:=h.N
 have dM:∀ j,(H.h.put 34 H.next o).get j=if j=H.next then some o else H.h.get j:=fun j=>Tr.eS _ _ _ _
 have hle:=Em.kK e b 0 n
 have old:∀ j oj,H.h.get j=some oj->(e.ext b 0 n).b j=e.b j:=fun j oj hj=>(hle.2 j (h.obj j oj hj).1).1
 refine⟨hN.symm,?_,?_,?_,?_,?_,h.os,h.tape,h.output,h.size,by obtain⟨g1,g2,g3⟩:=h.iw;rw[(hle.2 G g2).2.2];simp[Em.ext];omega⟩
 ·simp[Em.ext,hN]
 ·intro j oj hj
  simp only at hj
  rw[dM] at hj
  by_cases ej:j=H.next
  ·subst ej
   rw[if_pos rfl] at hj
   cases hj
   refine⟨by simp[Em.ext,hN],ob,?_,da,?_⟩
   ·rw[<-hN,Em.ig];exact hb
   ·intro _ hk
    rw[<-hN,Em.ig] at hk
    exact (hF _ hk).2 rfl
  ·rw[if_neg ej] at hj
   obtain⟨a,kW,b2,c2,d2⟩:=h.obj j oj hj
   refine⟨by simp[Em.ext];omega,kW,?_,c2.mono hle a,?_⟩
   ·rw[old j oj hj];exact b2
   ·intro hw hk;rw[old j oj hj,(hle.2 G h.iw.2.1).2.2] at hw;rw[old j oj hj] at hk;exact d2 hw (hF _ hk).1
 ·intro j k oj ok hj hk hq he
  simp only at hj hk
  rw[dM] at hj hk
  by_cases ej:j=H.next<;>by_cases ek:k=H.next
  ·omega
  ·rw[if_neg ek] at hk
   rw[old k ok hk,ej,<-hN,Em.ig] at he
   exact absurd he.symm (rJ k ok hk)
  ·rw[if_neg ej] at hj
   rw[old j oj hj,ek,<-hN,Em.ig] at he
   exact absurd he (rJ j oj hj)
  ·rw[if_neg ej] at hj
   rw[if_neg ek] at hk
   rw[old j oj hj,(hle.2 G h.iw.2.1).2.2] at hq
   rw[old j oj hj,old k ok hk] at he
   exact h.inj j k oj ok hj hk hq he
 ·intro g hg
  obtain⟨a,b',c⟩:=h.mG g hg
  obtain⟨x,y,_⟩:=hle.2 g a
  exact⟨by simp[Em.ext];omega,x.trans b',y.trans c⟩
 ·intro k hk
  exact h.frame k (hF k hk).1
theorem Si {e:Em}{l:List AV}{cs:Array Value}{el b:Nat}(hl:cj e l cs.toList)(hlen:l.length<=16777216):OR (e.ext b 0 cs.size) e.N (.cells (Tr.cR .nil 0 l) 0 l.length el 0) (.cells cs el (0,0)):=by
 refine .cells _ _ _ _ _ _ _ (by rw[Em.nG]) ?_ (fun _=>rfl) (by simp) (fun _=>Em.ik ..)
 intro k v _ hk hg
 rw[Tr.CP .nil _ _ _ _ (by omega)] at hg
 rw[if_pos ⟨by omega,by omega⟩,adD] at hg
 obtain⟨v',cH,hr⟩:=hl.get hg
 exact⟨k,by rw[Em.ik];omega,v',by rw[<-acF];exact cH,hr.mono (Em.kK ..)⟩
structure mZ (P:Program)(cf:CF)(n:Nat)(ops:Array Oper)(B:List Nat)(t0:Tm)(H0:Hp)(TP TE:Nat->Tm)(HB HH:Nat->Hp)(V:Nat->AV)(X:Nat->Bool):Prop where
 form:Form ops B
 t1:TP 0=t0
 t2:TE 0=t0
 h1:HB 0=H0
 h2:HH 0=H0
 step:∀ j o,ops[j]? = some o->Js P cf n ops o (X j) (V j) (TP j) (TE j) (TP (j+1)) (TE (j+1)) (HB j) (HH j) (HB (j+1)) (HH (j+1))
 d1:∀ i oi,ops[i]? = some oi->X i=true->kd P oi = .dj->∀ j oj,ops[j]? = some oj->X j=true->(kd P oj = .dj\/kd P oj = .late)->j<i->(B.getD i 0).testBit j=true
 d2:∀ i oi,ops[i]? = some oi->X i=true->kd P oi = .dj->∀ j oj,ops[j]? = some oj->X j=true->kd P oj = .read->j<i->(B.getD i 0).testBit j=true\/
  ∃ h',fH P (ev P.globals.size (TP j)) oj (HB (i+1))=some (V j,h')
 d3:∀ i oi,ops[i]? = some oi->X i=true->kd P oi = .dj->∀ j oj,ops[j]? = some oj->X j=true->kd P oj = .read->i<j->(B.getD j 0).testBit i=true\/
  ∃ h',fH P (ev P.globals.size (TP j)) oj (HB i)=some (V j,h')
def pv (P:Program)(V:Nat->AV)(X:Nat->Bool)(j:Nat)(o:Oper):AV:=if X j=true/\kd P o = .late then .dE else V j
section
variable {P:Program}{cf:CF}{n:Nat}{ops:Array Oper}{B:List Nat}{t0:Tm}{H0:Hp}{TP TE:Nat->Tm}{HB HH:Nat->Hp}{V:Nat->AV}{X:Nat->Bool}
theorem mZ.cR (R:mZ P cf n ops B t0 H0 TP TE HB HH V X){j:Nat}{o:Oper}(ho:ops[j]? = some o) :
  gr n o.dst (pv P V X j o) (TP j)=some (TP (j+1))/\gr n o.dst (V j) (TE j)=some (TE (j+1)):=by
 obtain⟨_,h⟩:=R.step j o ho
 cases hx:X j with
 | false=>
  rw[hx] at h
  obtain⟨h1,h2,h3,_⟩:=h
  simp only[pv,hx,abP,false_and,if_false]
  rw[h1];exact⟨h2,h3⟩
 | true=>
  rw[hx] at h
  cases hk:kd P o<;>rw[hk] at h<;>simp only[pv,hx,hk,true_and,if_true,reduceCtorEq,if_false,and_false]
  ·exact⟨h.2.1,h.2.2.1⟩
  ·exact⟨h.2.1,h.2.2.1⟩
  ·exact⟨h.2.1,h.2.2.1⟩
  ·exact⟨h.2.1,h.2.2.1⟩
theorem mZ.b6 (R:mZ P cf n ops B t0 H0 TP TE HB HH V X):∀ i,i<=ops.size->∀ d,
  (∀ j o,j<i->ops[j]? = some o->o.dst=some d->(TP i).get d=some (pv P V X j o)/\(TE i).get d=some (V j))/\
  ((∀ j o,j<i->ops[j]? = some o->o.dst≠some d)->(TP i).get d=t0.get d/\(TE i).get d=t0.get d):=by
 intro i
 induction i with
 | zero=>intro _ d;exact⟨fun j o hj=>by omega,fun _=>⟨by rw[R.t1],by rw[R.t2]⟩⟩
 | succ i ih=>
  intro hi d
  obtain⟨i1,i2⟩:=ih (by omega) d
  have ho:ops[i]? = some ops[i]:=afK (by omega)
  obtain⟨p1,p2⟩:=R.cR ho
  have g1:=YG p1 d
  have g2:=YG p2 d
  constructor
  ·intro j o hj tK hd
   by_cases sc:j=i
   ·subst sc
    rw[ho] at tK;cases tK
    rw[g1,g2,if_pos hd,if_pos hd];exact⟨rfl,rfl⟩
   ·have cx:ops[i].dst≠some d:=fun q=>sc (R.form.one j i o _ d tK ho hd q)
    rw[g1,g2,if_neg cx,if_neg cx]
    exact i1 j o (by omega) tK hd
  ·intro gS
   have cx:=gS i _ (by omega) ho
   rw[g1,g2,if_neg cx,if_neg cx]
   exact i2 fun j o hj tK=>gS j o (by omega) tK
theorem mZ.Vj (R:mZ P cf n ops B t0 H0 TP TE HB HH V X)(p:Nat):∀ k,p+k<=ops.size->(∀ j o,p<=j->j<p+k->ops[j]? = some o->X j=true->kd P o ≠ .dj)->HB (p+k)=HB p:=by
 intro k
 induction k with
 | zero=>intro _ _;rfl
 | succ k ih=>
  intro hk cx
  have ho:ops[p+k]? = some ops[p+k]:=afK (by omega)
  obtain⟨_,h⟩:=R.step (p+k) _ ho
  have:HB (p+k+1)=HB (p+k):=by
   cases hx:X (p+k) with
   | false=>rw[hx] at h;exact h.2.2.2.1
   | true=>
    rw[hx] at h
    have hn:=cx (p+k) _ (by omega) (by omega) ho hx
    cases cE:kd P ops[p+k]<;>rw[cE] at h
    ·exact h.2.2.2.1
    ·exact h.2.2.2.1
    ·exact h.2.2.2
    ·exact absurd cE hn
  rw[<-aeh,this]
  exact ih (by omega) fun j o h1 h2=>cx j o h1 (by omega)
end
end
variable {P:Program}
theorem Mx:∀ {a b:AV},nb a b=true->a=b:=by
 intro a b h
 unfold nb at h
 split at h<;>first
  | rfl
  | (cases h;done)
  | (simp only[beq_iff_eq] at h;subst h;rfl)
  | (simp only[aaK,beq_iff_eq] at h;obtain⟨h1,h2⟩:=h;subst h1;subst h2;rfl)
  | (simp only[aaK] at h;obtain⟨h1,h2⟩:=h;rw[aaV h1,aaV h2])
  | (simp only[aaK,beq_iff_eq] at h;obtain⟨⟨⟨⟨⟨h1,h2⟩,h3⟩,h4⟩,h5⟩,h6⟩:=h;rw[aaV h1,aaV h2,aaV h3,aaV h4,h5,aaV h6])
  | (rw[aaV h])
theorem NO:∀ {a b:List AV},AJ a b=true->a=b
 | [],[],_=>rfl
 | [],_::_,h=>by simp[AJ] at h
 | _::_,[],h=>by simp[AJ] at h
 | a::x,b::y,h=>by
  simp only[AJ,aaK] at h
  rw[Mx h.1,NO h.2]
theorem afR {a b:AV}(h:same a b=true):a=b:=by
 unfold same at h
 split at h
 ·rw[NO h]
 ·rw[NO h]
 ·simp only[aaK] at h
  rw[aaV h.1,Mx h.2]
 ·exact Mx h
theorem gp {x:Option AV}{H:Hp}{v:AV}{H':Hp}(h:x.map (fun v=>(v,H))=some (v,H')):x=some v/\H'=H:=by
 simp only[yS,abI] at h
 obtain⟨a,ha,rfl,rfl⟩:=h
 exact⟨ha,rfl⟩
theorem p5 {x:Option AV}{H:Hp}{v:AV}(h:x=some v):x.map (fun v=>(v,H))=some (v,H):=by rw[h];rfl
theorem abO {o:Oper}(h:kd P o = .late):(∃ t l ps,o.op = .buildSlice t l ps)\/(∃ t,o.op = .alloc t)\/(∃ t a b,o.op = .makeSlice t (.const a) (.const b))\/∃ a b v el,o.op = .convert a b (.const v)/\P.underlying a=some .string/\P.underlying b=some (.slice el):=by
 unfold kd at h
 cases ck:o.op<;>rw[ck] at h<;>simp only[reduceCtorEq] at h
 case buildSlice t l ps=>exact .inl ⟨t,l,ps,rfl⟩
 case alloc t=>exact .inr (.inl ⟨t,rfl⟩)
 case binOp=>split at h<;>first | (cases h;done) | (split at h<;>cases h)
 case convert a b x=>
  split at h<;>first | (cases h;done) | skip
  rename_i el ha hb
  split at h
  ·rename_i v;exact .inr (.inr (.inr ⟨a,b,v,el,rfl,ha,hb⟩))
  ·cases h
 case makeSlice t l c=>
  split at h
  ·rename_i a b;exact .inr (.inr (.inl ⟨t,a,b,rfl⟩))
  ·cases h
 case call c=>split at h<;>cases h
theorem aaH {a b:TypeId}{x v:AV}{H H':Hp}{i j:IntKind}(ha:P.underlying a=some (.int i))(hb:P.underlying b=some (.int j))(h:jG P a b x H=some (v,H')) :
  H'=H/\∀ H2,jG P a b x H2=some (v,H2):=by
 unfold jG at h ⊢
 rw[ha,hb] at h ⊢
 cases x<;>simp only at h ⊢ <;> first | (cases h;exact⟨rfl,fun _=>rfl⟩) | (cases h;done) | (simp at h;done) | skip
theorem Xo {a b : TypeId}{x v : AV}{H H' : Hp}(ha : P.underlying a = some .string)(hb : P.underlying b = some .string)(h : jG P a b x H = some (v, H')) :
    H' = H /\ ∀ H2, jG P a b x H2 = some (v, H2) := by
  unfold jG at h ⊢
  rw[ha, hb] at h ⊢
  cases x<;>simp only at h ⊢ <;> first
    | (cases h;exact⟨rfl, fun _ => rfl⟩) | (cases h;done) | (simp at h;done)
    | (split at h
       · rename_i q;cases h;exact⟨rfl, fun _ => by rw[if_pos q]⟩
       · cases h)
    | skip
theorem aiA {a b e:TypeId}{x v:AV}{H H':Hp}(ha:P.underlying a=some (.slice e))(hb:P.underlying b=some .string)(h:jG P a b x H=some (v,H')):H'=H:=by
 unfold jG at h
 rw[ha,hb] at h
 cases x<;>simp only at h<;>first
  | (cases h;rfl) | (cases h;done) | (simp at h;done)
  | (split at h<;>first | (cases h;rfl) | (cases h;done) | skip)
  | skip
 rename_i q
 cases hz:Nat.beq _ 0 with
 | true=>rw[hz] at h;cases h;rfl
 | false=>
  rw[hz] at h
  simp only[cond_false,aaF,yS,abI] at h
  obtain⟨_,_,_,_,_,rfl⟩:=h
  rfl
theorem Zr {ρ:Operand->AV}{o:Oper}{H H':Hp}{v:AV}(hk:kd P o = .pure\/kd P o = .read)(h:fH P ρ o H=some (v,H')):H'=H:=by
 unfold fH at h
 unfold kd at hk
 cases ck:o.op<;>rw[ck] at h hk<;>simp only[reduceCtorEq,or_self] at h hk
 case move x=>cases h;rfl
 case assign x=>cases h;rfl
 case pick c a b=>
  split at h
  ·cases h;rfl
  ·cases h
 case build t ps=>exact (gp h).2
 case load t a=>exact (gp h).2
 case nilCheck x=>exact (gp h).2
 case binOp op t x y ty=>
  cases hg:qg P op t x y (ρ x) (ρ y) with
  | false=>rw[hg] at h;cases h
  | true=>rw[hg] at h;exact (gp h).2
 case unOp op t x=>exact (gp h).2
 case convert a b x=>
  split at hk
  ·rename_i i j ha hb;exact (aaH ha hb h).1
  ·rename_i ha hb;exact (Xo ha hb h).1
  ·rename_i e ha hb;exact aiA ha hb h
  ·split at hk<;>simp at hk
  ·simp at hk
 case makeSlice t l c=>split at hk<;>simp at hk
 case makeInterface t x=>exact (gp h).2
 case makeFunc fn a b=>exact (gp h).2
 case slice t x lo hi mx=>exact (gp h).2
 case fieldAddr t x f=>exact (gp h).2
 case field t x f=>exact (gp h).2
 case indexAddr t x ix=>exact (gp h).2
 case index t x ix=>exact (gp h).2
 case lookup t x k ok=>exact (gp h).2
 case entry it=>exact (gp h).2
 case extract t ix=>
  split at h
  ·exact (gp h).2
  ·cases h
 case typeAssert x t rW ok=>exact (gp h).2
 case call c=>
  cases hc:c.callee with
  | builtin b=>
   rw[hc] at h hk
   simp only at h hk
   cases b<;>simp only[reduceCtorEq,or_self] at hk<;>(unfold fx at h;split at h<;>first | (cases h;done) | exact (gp h).2 | simp_all)
  | value f=>rw[hc] at h;cases h
  | invoke r m=>rw[hc] at h;cases h
theorem ae1 {op:BinOp}{t:TypeId}{x y:AV}(hk:(match op with
   | .eql | .neq=>match P.underlying t with | some (.int _) | some .string | some .bool=>Kd.pure | _ => .read
   | _ => .pure) = .pure) (H H2:Hp):iK P op t x y H=iK P op t x y H2:=by
 have heq:(op = .eql\/op = .neq)->∀ H H2:Hp,iq P 50 t x y H=iq P 50 t x y H2:=by
  intro ho H H2
  have hu:P.underlying t=some .string\/P.underlying t=some .bool\/∃ k,P.underlying t=some (.int k):=by
   rcases ho with rfl | rfl<;>(simp only at hk;split at hk<;>first | (exact .inl (by assumption)) | (exact .inr (.inl (by assumption))) | (exact .inr (.inr ⟨_,by assumption⟩)) | cases hk)
  unfold iq
  rcases hu with hu | hu | ⟨k,hu⟩<;>(rw[hu];cases x<;>cases y<;>rfl)
 cases op
 case eql=>
  have:=heq (.inl rfl) H H2
  cases x<;>cases y<;>simp only[iK,this]
 case neq=>
  have:=heq (.inr rfl) H H2
  cases x<;>cases y<;>simp only[iK,this]
 all_goals (cases x<;>cases y<;>rfl)
theorem alu {ρ:Operand->AV}{o:Oper}{H H':Hp}{v:AV}(hk:kd P o = .pure)(h:fH P ρ o H=some (v,H'))(H2:Hp):fH P ρ o H2=some (v,H2):=by
 have hs:=Zr (.inl hk) h
 subst hs
 unfold fH at h ⊢
 unfold kd at hk
 cases ck:o.op<;>rw[ck] at h hk<;>simp only[reduceCtorEq] at h hk ⊢
 case move x=>cases h;rfl
 case assign x=>cases h;rfl
 case pick c a b=>
  split at h
  ·cases h;simp[*]
  ·cases h
 case build t ps=>exact p5 (gp h).1
 case nilCheck x=>exact p5 (gp h).1
 case binOp op t x y ty=>
  cases hg:qg P op t x y (ρ x) (ρ y) with
  | false=>rw[hg] at h;cases h
  | true=>
   rw[hg] at h
   rw[ae1 hk H2 H']
   exact p5 (gp h).1
 case unOp op t x=>exact p5 (gp h).1
 case convert a b x=>
  split at hk
  ·rename_i i j ha hb;exact (aaH ha hb h).2 H2
  ·rename_i ha hb;exact (Xo ha hb h).2 H2
  ·cases hk
  ·split at hk<;>cases hk
  ·cases hk
 case makeSlice t l c=>split at hk<;>cases hk
 case makeInterface t x=>exact p5 (gp h).1
 case makeFunc fn a b=>exact p5 (gp h).1
 case fieldAddr t x f=>exact p5 (gp h).1
 case field t x f=>exact p5 (gp h).1
 case indexAddr t x ix=>exact p5 (gp h).1
 case index t x ix=>exact p5 (gp h).1
 case extract t ix=>
  split at h
  ·rename_i l hl;exact p5 (gp h).1
  ·cases h
 case typeAssert x t rW ok=>exact p5 (gp h).1
 case call c=>
  cases hc:c.callee with
  | builtin b=>
   rw[hc] at h hk
   simp only at h hk ⊢
   cases b<;>simp only[reduceCtorEq] at hk<;>(unfold fx at h ⊢;split at h<;>first | (cases h;done) | exact p5 (gp h).1 | simp_all)
  | value f=>rw[hc] at h;cases h
  | invoke r m=>rw[hc] at h;cases h
end
section
variable {P:Program}{cf:CF}{n:Nat}{ops:Array Oper}{B:List Nat}{t0:Tm}{H0:Hp}{TP TE:Nat->Tm}{HB HH:Nat->Hp}{V:Nat->AV}{X:Nat->Bool}
def iM (P:Program)(ops:Array Oper)(X:Nat->Bool)(S:Nat->Prop)(p j:Nat):Prop:=S j/\p<=j/\X j=true/\∃ o,ops[j]? = some o/\kd P o = .late
def J2 (P:Program)(e1:Em)(t:Tm)(o:Oper)(b:Nat)(ob:Obj)(val:Value):Prop:=
 ∀ (H H':Hp) (v:AV) (e:Em),fH P (ev P.globals.size t) o H=some (v,H')->e1.le e->e.N=H.next->∃ ao n,Am.alloc H ao=some (e.N,H')/\OR (e.ext b 0 n) e.N ao ob/\VR (e.ext b 0 n) v val
structure Inv (P:Program)(n:Nat)(ops:Array Oper)(B:List Nat)(t0:Tm)(TP:Nat->Tm)(HB HH:Nat->Hp)(V:Nat->AV)(X:Nat->Bool)(F:Nat->Prop)(W:World)(e0:Em)(ds:List Deferred)
  (S:Nat->Prop) (p:Nat) (e:Em) (a:Act) (w:World) (dm:Nat->Nat):Prop where
 pN:p<=ops.size
 ph:HH p=HB p
 pe:p=0\/∃ j oj,p=j+1/\ops[j]? = some oj/\X j=true/\kd P oj = .dj
 down:∀ i j,S i->(B.getD i 0).testBit j=true->S j
 dj:∀ i o,ops[i]? = some o->X i=true->kd P o = .dj->(S i↔i<p)
 rh:RH P.globals.size (fun k=>F k\/∃ j,iM P ops X S p j/\dm j=k) w e (HB p) w
 frame:∀ k,F k->w.heap[k]? = W.heap[k]?
 os:w.os=W.os
 tape:w.tape=W.tape
 output:w.output=W.output
 size:W.heap.size<=w.heap.size
 KQ:∀ j,iM P ops X S p j->e.n P.globals.size<=dm j/\¬ F (dm j)/\∀ o,ops[j]? = some o->∃ ob val e1,e1.le e/\w.heap[dm j]? = some ob/\J2 P e1 (TP j) o (dm j) ob val/\∀ d,o.dst=some d->a.tmps.getD d undef=val
 IP:∀ i j,iM P ops X S p i->iM P ops X S p j->dm i=dm j->i=j
 val:∀ j o d,ops[j]? = some o->S j->o.dst=some d->¬ iM P ops X S p j->VR e (V j) (a.tmps.getD d undef)
 Dl:∀ d,(∀ j o,ops[j]? = some o->S j->o.dst≠some d)->VR e ((t0.get d).getD cF) (a.tmps.getD d undef)
 AD:n<=a.tmps.size
 le:e0.le e
 defers:a.defers=ds
theorem Inv.read (R:mZ P cf n ops B t0 H0 TP TE HB HH V X){F:Nat->Prop}{W:World}{e0:Em}{ds:List Deferred}{S:Nat->Prop}{p:Nat}{e:Em}{a:Act}{w:World}{dm:Nat->Nat}
  (I:Inv P n ops B t0 TP HB HH V X F W e0 ds S p e a w dm) {i:Nat} {o:Oper} (ho:ops[i]? = some o) (hS:¬ S i) (hr:∀ j,(B.getD i 0).testBit j=true->S j) {d:Tmp} (hd:CU ops o d=true) :
  VR e (((TP i).get d).getD cF) (a.tmps.getD d undef):=by
 have hi:i<ops.size:=(abH.1 ho).1
 obtain⟨v1,v2⟩:=R.b6 i (Nat.le_of_lt hi) d
 by_cases hex:∃ j o',j<i/\ops[j]? = some o'/\o'.dst=some d
 ·obtain⟨j,o',hj,ez,eQ⟩:=hex
  rw[(v1 j o' hj ez eQ).1]
  have qi:S j:=by
   have:=R.form.rd j i o' o d ez ho eQ (by omega) hd
   rw[if_pos hj] at this
   exact hr j this
  simp only[afy,pv]
  split
  ·exact .dE _
  ·rename_i hn
   refine I.val j o' d ez qi eQ (fun q=>hn ?_)
   obtain⟨_,_,hx,o2,qf,hk⟩:=q
   rw[ez] at qf;cases qf
   exact⟨hx,hk⟩
 ·rw[(v2 fun j o' hj ez eQ=>hex ⟨j,o',hj,ez,eQ⟩).1]
  refine I.Dl d fun j o' ez qi eQ => ?_
  by_cases sc:j<i
  ·exact hex ⟨j,o',sc,ez,eQ⟩
  ·by_cases wI:j=i
   ·subst wI;exact hS qi
   ·have:=R.form.rd j i o' o d ez ho eQ wI hd
    rw[if_neg (by omega)] at this
    exact hS (I.down j i qi this)
theorem ahf {o:Oper}{d:Tmp}(h:Operand.tmp d∈o.op.operands.toList):d∈tmpsOf o:=by
 unfold tmpsOf
 rw[List.mem_filterMap]
 exact⟨.tmp d,h,rfl⟩
theorem WY {o:Oper}{d:Tmp}(h:Operand.tmp d∈o.op.operands.toList):CU ops o d=true:=by
 unfold CU
 rw[af0]
 left
 simpa using ahf h
theorem Vt {F:Nat->Prop}{W:World}{e:Em}{H:Hp}{w:World}(h:RH P.globals.size F W e H w){t:Tm}{a:Act}{x:Operand}(ht:∀ d,x = .tmp d->VR e ((t.get d).getD cF) (a.tmps.getD d undef)) :
  VR e (ev P.globals.size t x) (a.eval x):=by
 cases x with
 | tmp d=>exact ht d rfl
 | const v=>
  simp only[Am.ev,Act.eval]
  cases hc:Am.iz v with
  | none=>exact .dE v
  | some c=>exact .iz hc
 | global g=>
  simp only[Am.ev,Act.eval]
  cases hb:Nat.blt g P.globals.size with
  | false=>exact .dE _
  | true=>
   rw[acY] at hb
   obtain⟨h1,h2,h3⟩:=h.mG g hb
   have:=VR.ptr (e:=e) g 0 0 h1 (by rw[h3];simp)
   rw[h2] at this
   exact this
 | func f=>exact .func _ (by simp) [] [] #[] #[] rfl rfl (by simp) (by simp)
theorem Inv.IK (R:mZ P cf n ops B t0 H0 TP TE HB HH V X){F:Nat->Prop}{W:World}{e0:Em}{ds:List Deferred}{S:Nat->Prop}{p:Nat}{e:Em}{a:Act}{w:World}{dm:Nat->Nat}
  (I:Inv P n ops B t0 TP HB HH V X F W e0 ds S p e a w dm):∀ k,p+k<=ops.size->(∀ j o,p<=j->j<p+k->ops[j]? = some o->X j=true->kd P o ≠ .dj/\(kd P o = .late->S j))->
  ∃ e',e.le e'/\RH P.globals.size (fun q=>F q\/∃ j,iM P ops X S (p+k) j/\dm j=q) w e' (HH (p+k)) w/\
   ∀ j o d,p<=j->j<p+k->ops[j]? = some o->X j=true->kd P o = .late->o.dst=some d->VR e' (V j) (a.tmps.getD d undef):=by
 intro k
 induction k with
 | zero=>
  intro _ _
  refine⟨e,e.le_refl,?_,fun j o d h1 h2=>by omega⟩
  rw[acJ,I.ph]
  exact I.rh
 | succ k ih=>
  intro hk cx
  obtain⟨e1,mi,ei,fu⟩:=ih (by omega) fun j o h1 h2=>cx j o h1 (by omega)
  have ho:ops[p+k]? = some ops[p+k]:=afK (by omega)
  obtain⟨_,eu⟩:=R.step (p+k) _ ho
  have same:HH (p+k+1)=HH (p+k)->¬ (X (p+k)=true/\kd P ops[p+k] = .late)->∃ e',e.le e'/\RH P.globals.size (fun q=>F q\/∃ j,iM P ops X S (p+(k+1)) j/\dm j=q) w e' (HH (p+(k+1))) w/\
   ∀ j o d,p<=j->j<p+(k+1)->ops[j]? = some o->X j=true->kd P o = .late->o.dst=some d->VR e' (V j) (a.tmps.getD d undef):=by
   intro hh ie
   refine⟨e1,mi,?_,?_⟩
   ·rw[<-aeh,hh]
    refine ei.weaken fun q hq => ?_
    rcases hq with hq | ⟨j,⟨q1,q2,q3⟩,q4⟩
    ·exact .inl hq
    ·exact .inr ⟨j,⟨q1,by omega,q3⟩,q4⟩
   ·intro j o d h1 h2 hj hx cE hd
    by_cases Fs:j=p+k
    ·subst Fs
     rw[ho] at hj;cases hj
     exact absurd ⟨hx,cE⟩ ie
    ·exact fu j o d h1 (by omega) hj hx cE hd
  cases hx:X (p+k) with
  | false=>
   rw[hx] at eu
   exact same eu.2.2.2.2 (by simp[hx])
  | true=>
   rw[hx] at eu
   have hn:=cx (p+k) _ (by omega) (by omega) ho hx
   cases cE:kd P ops[p+k]<;>rw[cE] at eu
   ·exact same eu.2.2.2.2 (by simp[cE])
   ·exact same eu.2.2.2.2 (by simp[cE])
   ·obtain⟨hA,_,_,_⟩:=eu
    have hS:=hn.2 cE
    have hpd:iM P ops X S (p+k) (p+k):=⟨hS,zf _,hx,_,ho,cE⟩
    have YD:iM P ops X S p (p+k):=⟨hS,by omega,hx,_,ho,cE⟩
    obtain⟨g1,g2,g3⟩:=I.KQ _ YD
    obtain⟨ob,val,e0',alr,G5,hrel,ac3⟩:=g3 _ ho
    obtain⟨ao,nn,dV,da,dT⟩:=hrel _ _ _ e1 hA (Em.le_trans alr mi) ei.N
    have rJ:∀ j oj,(HH (p+k)).h.get j=some oj->e1.b j≠dm (p+k):=by
     intro j oj hj hq
     obtain⟨a1,ob,b1,c1,d1⟩:=ei.obj j oj hj
     by_cases hjG:e1.n P.globals.size<=e1.b j
     ·exact d1 (.inr hjG) (.inr ⟨p+k,hpd,hq.symm⟩)
     ·have:=(mi.2 _ I.rh.iw.2.1).2.2
      omega
    obtain⟨_,pG⟩:=ei.IK (F':=fun q=>F q\/∃ j,iM P ops X S (p+(k+1)) j/\dm j=q) dV G5 rJ da (by
     intro q hq
     rcases hq with hq | ⟨j,⟨q1,q2,q3⟩,q4⟩
     ·exact⟨.inl hq,fun r=>g2 (r▸hq)⟩
     ·refine⟨.inr ⟨j,⟨q1,by omega,q3⟩,q4⟩,fun r => ?_⟩
      have:=I.IP j (p+k) ⟨q1,by omega,q3⟩ YD (q4.trans r)
      omega)
    refine⟨_,Em.le_trans mi (Em.kK ..),by rw[<-aeh];exact pG,?_⟩
    intro j o d h1 h2 hj rM oz hd
    by_cases Fs:j=p+k
    ·subst Fs
     rw[ho] at hj;cases hj
     rw[ac3 d hd]
     exact dT
    ·exact (fu j o d h1 (by omega) hj rM oz hd).mono (Em.kK ..)
   ·exact absurd cE hn.1
end
end
theorem RH.push {G:Nat}{F:Nat->Prop}{W:World}{e:Em}{H:Hp}{w:World}(h:RH G F W e H w)(ob:Obj) :
  RH G (fun k=>F k\/k=w.heap.size) { w with heap:=w.heap.push ob } e H { w with heap:=w.heap.push ob }:=by
 refine⟨h.N,?_,h.inj,h.mG,?_,rfl,rfl,rfl,zf _,by obtain⟨g1,g2,g3⟩:=h.iw;simp;omega⟩
 ·intro i o ho
  obtain⟨a,kW,b,c,d⟩:=h.obj i o ho
  have bW:=(abH.1 b).1
  refine⟨a,kW,?_,c,fun hw hk => ?_⟩
  ·simp only;rw[agx,if_neg (by omega)];exact b
  ·rcases hk with hk | hk
   ·exact d hw hk
   ·omega
 ·intro k hk
  refine⟨?_,rfl⟩
  rcases hk with hk | hk
  ·have:=(h.frame k hk).1;simp;omega
  ·simp;omega
theorem O0 {a:Act}{dst:Option Tmp}{v:Value}{n:Nat}(hn:n<=a.tmps.size)(hd:∀ d,dst=some d->d<n)(d:Tmp):(a.put dst v).tmps.getD d undef=if dst=some d then v else a.tmps.getD d undef:=by
 cases dst with
 | none=>simp[Act.put]
 | some x=>
  simp only[Act.put]
  have Nh:x<a.tmps.size:=aci (hd x rfl) hn
  rw[Xs Nh]
  by_cases hx:d=x
  ·subst hx;simp
  ·rw[if_neg hx,if_neg (fun q=>hx (ada q).symm)]
theorem ND {a:Act}{dst:Option Tmp}{v:Value}:(a.put dst v).tmps.size=a.tmps.size:=by cases dst<;>simp[Act.put]
theorem Q4 {a:Act}{dst:Option Tmp}{v:Value}:(a.put dst v).defers=a.defers:=by cases dst<;>rfl
section
variable {P:Program}{cf:CF}{n:Nat}{ops:Array Oper}{B:List Nat}{t0:Tm}{H0:Hp}{TP TE:Nat->Tm}{HB HH:Nat->Hp}{V:Nat->AV}{X:Nat->Bool}
 {F:Nat->Prop} {W:World} {e0:Em} {ds:List Deferred} {S:Nat->Prop} {p:Nat} {e:Em} {a:Act} {w:World} {dm:Nat->Nat}
theorem mZ.lt (R:mZ P cf n ops B t0 H0 TP TE HB HH V X){i:Nat}{o:Oper}(ho:ops[i]? = some o):∀ d,o.dst=some d->d<n:=fun d hd=>abK (R.cR ho).2 hd
theorem Inv.quiet (R:mZ P cf n ops B t0 H0 TP TE HB HH V X)(I:Inv P n ops B t0 TP HB HH V X F W e0 ds S p e a w dm){i:Nat}{o:Oper}(ho:ops[i]? = some o)(hS:¬ S i)
  (hr:∀ j,(B.getD i 0).testBit j=true->S j) (hk:X i=true->kd P o ≠ .late/\kd P o ≠ .dj) {e':Em} {w':World} {v':Value}
  (he:e.le e') (hR:RH P.globals.size (fun k=>F k\/∃ j,iM P ops X S p j/\dm j=k) w e' (HB p) w') (hv:VR e' (V i) v') :
  Inv P n ops B t0 TP HB HH V X F W e0 ds (fun j=>S j\/j=i) p e' (a.put o.dst v') w' dm:=by
 have iJ:∀ j,iM P ops X (fun j=>S j\/j=i) p j↔iM P ops X S p j:=by
  intro j
  constructor
  ·rintro⟨q1 | q1,q2,q3,o2,q4,q5⟩
   ·exact⟨q1,q2,q3,o2,q4,q5⟩
   ·subst q1
    rw[ho] at q4;cases q4
    exact absurd q5 (hk q3).1
  ·rintro⟨q1,q2⟩
   exact⟨.inl q1,q2⟩
 have cx:∀ j o2 d,ops[j]? = some o2->o2.dst=some d->j≠i->o.dst≠some d:=fun j o2 d h1 h2 h3 h4=>h3 (R.form.one j i o2 o d h1 ho h2 h4)
 have dM:=fun d=>O0 (a:=a) (dst:=o.dst) (v:=v') I.AD (R.lt ho) d
 refine⟨I.pN,I.ph,I.pe,?_,?_,?_,?_,hR.os.trans I.os,hR.tape.trans I.tape,hR.output.trans I.output,abl I.size hR.size,?_,?_,?_,?_,by rw[ND];exact I.AD,Em.le_trans I.le he,by rw[Q4];exact I.defers⟩
 ·intro i' j h1 h2
  rcases h1 with h1 | h1
  ·exact .inl (I.down i' j h1 h2)
  ·subst h1;exact .inl (hr j h2)
 ·intro i' o' h1 h2 h3
  rw[<-I.dj i' o' h1 h2 h3]
  constructor
  ·rintro (q | q)
   ·exact q
   ·subst q;rw[ho] at h1;cases h1;exact absurd h3 (hk h2).2
  ·exact .inl
 ·refine (hR.weaken fun k hk => ?_).Ii
  rcases hk with hk | ⟨j,h1,h2⟩
  ·exact .inl hk
  ·exact .inr ⟨j,(iJ j).1 h1,h2⟩
 ·intro k hk
  exact (hR.frame k (.inl hk)).2.trans (I.frame k hk)
 ·intro j hj
  have gG:=(iJ j).1 hj
  obtain⟨g1,g2,g3⟩:=I.KQ j gG
  refine⟨by rw[(he.2 _ I.rh.iw.2.1).2.2];exact g1,g2,fun o2 h1 => ?_⟩
  obtain⟨ob,val,e9,l9,q3,q2,q4⟩:=g3 o2 h1
  refine⟨ob,val,e9,Em.le_trans l9 he,?_,q2,fun d hd => ?_⟩
  ·rw[(hR.frame (dm j) (.inr ⟨j,gG,rfl⟩)).2];exact q3
  ·rw[dM,if_neg (cx j o2 d h1 hd (fun q=>hS (q▸gG.1)))];exact q4 d hd
 ·intro x y hx hy
  exact I.IP x y ((iJ x).1 hx) ((iJ y).1 hy)
 ·intro j o2 d h1 h2 h3 h4
  rw[dM]
  rcases h2 with h2 | h2
  ·rw[if_neg (cx j o2 d h1 h3 (fun q=>hS (q▸h2)))]
   exact (I.val j o2 d h1 h2 h3 (fun q=>h4 ((iJ j).2 q))).mono he
  ·subst h2
   rw[ho] at h1;cases h1
   rw[if_pos h3];exact hv
 ·intro d hd
  rw[dM,if_neg (hd i o ho (.inr rfl))]
  exact (I.Dl d fun j o2 h1 h2=>hd j o2 h1 (.inl h2)).mono he
theorem Inv.late (R:mZ P cf n ops B t0 H0 TP TE HB HH V X)(I:Inv P n ops B t0 TP HB HH V X F W e0 ds S p e a w dm){i:Nat}{o:Oper}(ho:ops[i]? = some o)(hS:¬ S i)
  (hr:∀ j,(B.getD i 0).testBit j=true->S j) (hX:X i=true) (cE:kd P o = .late) (vT:p<=i) {ob:Obj} {val:Value} {dr:Nat} (hrel:J2 P e (TP i) o w.heap.size ob val) :
  Inv P n ops B t0 TP HB HH V X F W e0 ds (fun j=>S j\/j=i) p e (a.put o.dst val) { w with drawn:=dr,heap:=w.heap.push ob } (fun j=>if j=i then w.heap.size else dm j):=by
 have iJ:∀ j,iM P ops X (fun j=>S j\/j=i) p j↔(iM P ops X S p j\/j=i):=by
  intro j
  constructor
  ·rintro⟨q1 | q1,q2⟩
   ·exact .inl ⟨q1,q2⟩
   ·exact .inr q1
  ·rintro (⟨q1,q2⟩ | q)
   ·exact⟨.inl q1,q2⟩
   ·subst q;exact⟨.inr rfl,vT,hX,o,ho,cE⟩
 have cx:∀ j o2 d,ops[j]? = some o2->o2.dst=some d->j≠i->o.dst≠some d:=fun j o2 d h1 h2 h3 h4=>h3 (R.form.one j i o2 o d h1 ho h2 h4)
 have dM:=fun d=>O0 (a:=a) (dst:=o.dst) (v:=val) I.AD (R.lt ho) d
 have bW:∀ j,iM P ops X S p j->dm j<w.heap.size:=fun j hj=>(I.rh.frame (dm j) (.inr ⟨j,hj,rfl⟩)).1
 have xe:∀ j,iM P ops X S p j->j≠i:=fun j hj q=>hS (q▸hj.1)
 refine⟨I.pN,I.ph,I.pe,?_,?_,?_,?_,I.os,I.tape,I.output,by simp;have:=I.size;omega,?_,?_,?_,?_,by rw[ND];exact I.AD,I.le,by rw[Q4];exact I.defers⟩
 ·intro i' j h1 h2
  rcases h1 with h1 | h1
  ·exact .inl (I.down i' j h1 h2)
  ·subst h1;exact .inl (hr j h2)
 ·intro i' o' h1 h2 h3
  rw[<-I.dj i' o' h1 h2 h3]
  constructor
  ·rintro (q | q)
   ·exact q
   ·subst q;rw[ho] at h1;cases h1;rw[cE] at h3;cases h3
  ·exact .inl
 ·refine ((I.rh.push ob).drawn dr).Ii.weaken fun k hk => ?_
  rcases hk with hk | ⟨j,h1,h2⟩
  ·exact .inl (.inl hk)
  ·rcases (iJ j).1 h1 with q | q
   ·rw[if_neg (xe j q)] at h2
    exact .inl (.inr ⟨j,q,h2⟩)
   ·rw[if_pos q] at h2
    exact .inr h2.symm
 ·intro k hk
  have:=(I.rh.frame k (.inl hk)).1
  simp only
  rw[agx,if_neg (by omega)]
  exact I.frame k hk
 ·intro j hj
  rcases (iJ j).1 hj with q | q
  ·obtain⟨g1,g2,g3⟩:=I.KQ j q
   rw[if_neg (xe j q)]
   refine⟨g1,g2,fun o2 h1 => ?_⟩
   obtain⟨kW,ag3,e9,l9,q3,q2,q4⟩:=g3 o2 h1
   refine⟨kW,ag3,e9,l9,?_,q2,fun d hd => ?_⟩
   ·simp only
    rw[agx,if_neg (by have:=bW j q;omega)];exact q3
   ·rw[dM,if_neg (cx j o2 d h1 hd (xe j q))];exact q4 d hd
  ·rw[if_pos q]
   subst q
   refine⟨I.rh.iw.2.2,fun hF => ?_,fun o2 h1 => ?_⟩
   ·have:=(I.rh.frame _ (.inl hF)).1
    omega
   ·rw[ho] at h1;cases h1
    refine⟨ob,val,e,e.le_refl,by simp,hrel,fun d hd => ?_⟩
    rw[dM,if_pos hd]
 ·intro x y hx hy J0
  rcases (iJ x).1 hx with qx | qx<;>rcases (iJ y).1 hy with qy | qy
  ·rw[if_neg (xe x qx),if_neg (xe y qy)] at J0;exact I.IP x y qx qy J0
  ·rw[if_neg (xe x qx),if_pos qy] at J0
   have:=bW x qx;omega
  ·rw[if_pos qx,if_neg (xe y qy)] at J0
   have:=bW y qy;omega
  ·rw[qx,qy]
 ·intro j o2 d h1 h2 h3 h4
  rw[dM]
  rcases h2 with h2 | h2
  ·rw[if_neg (cx j o2 d h1 h3 (fun q=>hS (q▸h2)))]
   exact I.val j o2 d h1 h2 h3 (fun q=>h4 ((iJ j).2 (.inl q)))
  ·exact absurd ((iJ j).2 (.inr h2)) h4
 ·intro d hd
  rw[dM,if_neg (hd i o ho (.inr rfl))]
  exact I.Dl d fun j o2 h1 h2=>hd j o2 h1 (.inl h2)
theorem Inv.effect (R:mZ P cf n ops B t0 H0 TP TE HB HH V X)(I:Inv P n ops B t0 TP HB HH V X F W e0 ds S p e a w dm){i:Nat}{o:Oper}(ho:ops[i]? = some o)(hS:¬ S i)
  (hr:∀ j,(B.getD i 0).testBit j=true->S j) (hX:X i=true) (cE:kd P o = .dj) (vT:p<=i) {e1 e':Em} {w':World} {v':Value}
  (mi:e.le e1) (QW:∀ j o d,p<=j->j<i->ops[j]? = some o->X j=true->kd P o = .late->o.dst=some d->VR e1 (V j) (a.tmps.getD d undef))
  (he:e1.le e') (hR:RH P.globals.size (fun k=>F k\/∃ j,iM P ops X S i j/\dm j=k) w e' (HH (i+1)) w') (hv:VR e' (V i) v') :
  Inv P n ops B t0 TP HB HH V X F W e0 ds (fun j=>S j\/j=i) (i+1) e' (a.put o.dst v') w' dm:=by
 have hi:i<ops.size:=(abH.1 ho).1
 have iJ:∀ j,iM P ops X (fun j=>S j\/j=i) (i+1) j->iM P ops X S i j/\iM P ops X S p j/\j≠i:=by
  rintro j ⟨q1,q2,q3⟩
  rcases q1 with q1 | q1
  ·exact⟨⟨q1,by omega,q3⟩,⟨q1,by omega,q3⟩,by omega⟩
  ·omega
 have cx:∀ j o2 d,ops[j]? = some o2->o2.dst=some d->j≠i->o.dst≠some d:=fun j o2 d h1 h2 h3 h4=>h3 (R.form.one j i o2 o d h1 ho h2 h4)
 have dM:=fun d=>O0 (a:=a) (dst:=o.dst) (v:=v') I.AD (R.lt ho) d
 have Ri:HB (i+1)=HH (i+1):=by
  obtain⟨_,h⟩:=R.step i o ho
  rw[hX,cE] at h
  exact h.2.2.2
 refine⟨by omega,Ri.symm,.inr ⟨i,o,rfl,ho,hX,cE⟩,?_,?_,?_,?_,hR.os.trans I.os,hR.tape.trans I.tape,hR.output.trans I.output,abl I.size hR.size,?_,?_,?_,?_,by rw[ND];exact I.AD,Em.le_trans I.le (Em.le_trans mi he),by rw[Q4];exact I.defers⟩
 ·intro i' j h1 h2
  rcases h1 with h1 | h1
  ·exact .inl (I.down i' j h1 h2)
  ·subst h1;exact .inl (hr j h2)
 ·intro i' o' h1 h2 h3
  constructor
  ·rintro (q | q)
   ·have:=(I.dj i' o' h1 h2 h3).1 q;omega
   ·omega
  ·intro q
   by_cases hii:i'=i
   ·exact .inr hii
   ·exact .inl (hr i' (R.d1 i o ho hX cE i' o' h1 h2 (.inl h3) (by omega)))
 ·rw[Ri]
  refine (hR.weaken fun k hk => ?_).Ii
  rcases hk with hk | ⟨j,h1,h2⟩
  ·exact .inl hk
  ·exact .inr ⟨j,(iJ j h1).1,h2⟩
 ·intro k hk
  exact (hR.frame k (.inl hk)).2.trans (I.frame k hk)
 ·intro j hj
  obtain⟨Mf,hj2,hj3⟩:=iJ j hj
  obtain⟨g1,g2,g3⟩:=I.KQ j hj2
  refine⟨by rw[((Em.le_trans mi he).2 _ I.rh.iw.2.1).2.2];exact g1,g2,fun o2 h1 => ?_⟩
  obtain⟨ob,val,e9,l9,q3,q2,q4⟩:=g3 o2 h1
  refine⟨ob,val,e9,Em.le_trans l9 (Em.le_trans mi he),?_,q2,fun d hd => ?_⟩
  ·rw[(hR.frame (dm j) (.inr ⟨j,Mf,rfl⟩)).2];exact q3
  ·rw[dM,if_neg (cx j o2 d h1 hd hj3)];exact q4 d hd
 ·intro x y hx hy
  exact I.IP x y (iJ x hx).2.1 (iJ y hy).2.1
 ·intro j o2 d h1 h2 h3 h4
  rw[dM]
  rcases h2 with h2 | h2
  ·have sc:j≠i:=fun q=>hS (q▸h2)
   rw[if_neg (cx j o2 d h1 h3 sc)]
   by_cases hp:iM P ops X S p j
   ·obtain⟨q1,q2,q3,o3,q4,q5⟩:=hp
    rw[h1] at q4;cases q4
    by_cases bW:j<i
    ·exact (QW j o2 d q2 bW h1 q3 q5 h3).mono he
    ·exact absurd ⟨.inl q1,by omega,q3,o2,h1,q5⟩ h4
   ·exact ((I.val j o2 d h1 h2 h3 hp).mono mi).mono he
  ·subst h2
   rw[ho] at h1;cases h1
   rw[if_pos h3];exact hv
 ·intro d hd
  rw[dM,if_neg (hd i o ho (.inr rfl))]
  exact ((I.Dl d fun j o2 h1 h2=>hd j o2 h1 (.inl h2)).mono mi).mono he
end
end
theorem aau {α:Type}{p q:α->Bool}(h:∀ x,p x=true->q x=true){a:α}(hq:q a=true)(hp:p a=false):∀ l:List α,a∈l->l.countP p<l.countP q
 | b::l,hm=>by
  have hle:∀ l:List α,l.countP p<=l.countP q:=fun l=>List.countP_mono_left fun x _=>h x
  rcases aap.1 hm with rfl | hm
  ·rw[List.countP_cons_of_neg (by simp[hp]),List.countP_cons_of_pos hq]
   have:=hle l;omega
  ·have:=aau h hq hp l hm
   rw[List.countP_cons,List.countP_cons]
   by_cases hb:p b=true
   ·rw[if_pos hb,if_pos (h b hb)];omega
   ·rw[if_neg hb];omega
theorem agV {P:Program}{o:Oper}{a:Act}{w:World}{e0:Em}{t:Tm}{H H':Hp}{v:AV}(cE:kd P o = .late)(hρ:∀ x∈o.op.operands.toList,VR e0 (ev P.globals.size t x) (a.eval x))(hA:fH P (ev P.globals.size t) o H=some (v,H')) :
  ∃ ob val dr,(execOp a.eval o).run P w = .ok (.value val) { w with drawn:=dr,heap:=w.heap.push ob }/\J2 P e0 t o w.heap.size ob val:=by
 rcases abO cE with⟨ty,len,ps,ck⟩ | ⟨ty,ck⟩ | ⟨ty,ca,cb,ck⟩ | ⟨x,y,cv,el,ck,hx,hy⟩
 ·classical
  let ρ:Operand->AV:=fun x=>if x∈o.op.operands.toList then ev P.globals.size t x else .dE
  have hρ2:∀ x,VR e0 (ρ x) (a.eval x):=fun x=>by
   show VR e0 (if _ then _ else _) _
   split
   ·exact hρ x (by assumption)
   ·exact .dE _
  have ZW:∀ H2,fH P (ev P.globals.size t) o H2=yk P ty len (ps.toList.map fun (i,x)=>(i,ρ x)) H2:=fun H2=>by
   rw[XV (ρ':=ρ) o H2 (fun x hx=>by show _=if _ then _ else _;rw[if_pos hx])]
   unfold fH
   rw[ck]
  have hp:=pI.Au hρ2 ps
  rw[ZW] at hA
  unfold yk at hA
  split at hA
  ·rename_i el hu
   split at hA
   ·rename_i s hs
    cases hle:Nat.ble (len*s) 65536 with
    | false=>rw[hle] at hA;cases hA
    | true=>
    rw[hle] at hA
    simp only[cond_true] at hA
    rw[acN] at hle
    split at hA
    ·rename_i z hz
     split at hA
     ·rename_i cs dP
      have hlen:=MC _ z cs dP
      have zI:¬ (len*s>2 ^ 24):=by omega
      have fin:∀ ja:Array Value,(Instr.buildSlice ty len (ps.map fun (i,x)=>(i,a.eval x))).run P w = .ok (.slice (some ⟨w.heap.size,0,none⟩) len len) { w with heap:=w.heap.push (.cells ja el (0,0)) }->cj e0 cs ja.toList->cs.length=len*s->
        ∃ ob val dr,(execOp a.eval o).run P w = .ok (.value val) { w with drawn:=dr,heap:=w.heap.push ob }/\J2 P e0 t o w.heap.size ob val:=by
       intro ja iT hr rm
       refine⟨.cells ja el (0,0),.slice (some ⟨w.heap.size,0,none⟩) len len,w.drawn,?_,?_⟩
       ·unfold execOp
        rw[ck]
        have h2:(do Pure.pure (Next.value (<-Instr.buildSlice ty len (ps.map fun (i,x)=>(i,a.eval x)))):Sem Next).run P w = .ok (.value (.slice (some ⟨w.heap.size,0,none⟩) len len)) { w with heap:=w.heap.push (.cells ja el (0,0)) }:=by
         rw[Sem.run_bind,iT]
         rfl
        exact h2
       ·intro H2 pK v2 e lN FI hN
        rw[ZW] at lN
        unfold yk at lN
        simp only[hu,hs,hz,dP] at lN
        rw[show Nat.ble (len*s) 65536=true from (by rw[acN];exact hle)] at lN
        simp only[cond_true,yS,abI] at lN
        obtain⟨⟨id,H3⟩,jk,rfl,rfl⟩:=lN
        obtain⟨iu,dV⟩:=C4 jk
        have tv:id=e.N:=(oV dV).1.trans hN.symm
        subst tv
        have da:=Si (cs:=ja) (b:=w.heap.size) (el:=el) (hr.mono FI) iu
        refine⟨_,_,dV,da,?_⟩
        have gF:(e.ext w.heap.size 0 ja.size).b e.N=w.heap.size:=Em.ig ..
        have hv:=VR.slice (e:=e.ext w.heap.size 0 ja.size) e.N 0 len len true s 0 len (aeE e.N) (by rw[Em.ik];rfl) (zf _) (zf _) (fun _=>rfl) (by rw[Em.nG];have:=hr.1;simp at this;omega)
        rw[gF] at hv
        exact hv
      rcases Fj (P:=P) (e:=e0) hz with⟨h0,rfl⟩ | ⟨h0,O6,inf,z0,fT,dD,cC,nI⟩
      ·obtain⟨ja,ho,hr⟩:=Cw (e:=e0) (wY:=fun i=>some (i*s,s)) (fun i x hx=>hx) _ _ [] cs #[] hp (.nil e0) dP
       refine fin ja ?_ hr (by rw[h0,hlen];rfl)
       simp only[Instr.buildSlice,Sem.run_bind,bY hu,Result.andThen_ok,fw hs,if_neg zI]
       rw[if_pos h0]
       have kq:Array.range 0 = #[]:=rfl
       rw[h0,kq]
       simp[newRow] at ho ⊢
       simp[ho]
      ·obtain⟨ja,ho,hr⟩:=Cw (e:=e0) (wY:=fun i=>some (i*s,s)) (fun i x hx=>hx) _ _ z cs _ hp nI dP
       refine fin ja ?_ hr (by omega)
       simp only[Instr.buildSlice,Sem.run_bind,bY hu,Result.andThen_ok,fw hs,if_neg zI]
       rw[if_neg h0]
       simp[oh fT dD,newRow] at ho ⊢
       simp[ho]
     ·cases hA
    ·cases hA
   ·cases hA
  ·cases hA
 ·unfold fH at hA
  rw[ck] at hA
  simp only at hA
  split at hA
  ·rename_i l hl
   obtain⟨inf,z,fT,hz,_⟩:=vC (e:=⟨id,fun _=>0,id,0⟩) hl
   refine⟨.cells z.cells ty (0,0),.pointer (some ⟨w.heap.size,0,none⟩),w.drawn,?_,?_⟩
   ·unfold execOp
    rw[ck]
    simp[Instr.alloc,oh fT hz,newVar,newRow]
   ·intro H2 pK v2 e lN _ hN
    unfold fH at lN
    rw[ck] at lN
    simp only[hl,yS,abI] at lN
    obtain⟨⟨id,H3⟩,jk,rfl,rfl⟩:=lN
    obtain⟨hlen,dV⟩:=C4 jk
    obtain⟨Xv,z2,Af,zK,hlr⟩:=vC (e:=e) hl
    rw[fT] at Af;cases Af
    rw[hz] at zK;cases zK
    have tv:id=e.N:=(oV dV).1.trans hN.symm
    subst tv
    exact⟨_,_,dV,Si hlr hlen,.aaS (Em.ig ..) (by simp[Em.ext]) (Em.ik ..)⟩
  ·cases hA
 ·have EL:∀ (t2:Tm) (H2 pK:Hp) (v2:AV),fH P (ev P.globals.size t2) o H2=some (v2,pK)->tE P ty ((iz ca).getD .dE) ((iz cb).getD .dE) H2=some (v2,pK):=by
   intro t2 H2 pK v2 h
   unfold fH at h
   rw[ck] at h
   exact h
  have jS:=EL t H H' v hA
  have zw:∃ k1 n,(iz ca).getD .dE = .int k1 n:=by
   unfold tE at jS
   split at jS
   ·rename_i q _;exact⟨_,_,q⟩
   ·cases jS
  have hcb:∃ k2 m,(iz cb).getD .dE = .int k2 m:=by
   unfold tE at jS
   split at jS
   ·rename_i _ q;exact⟨_,_,q⟩
   ·cases jS
  obtain⟨k1,n,ha⟩:=zw
  obtain⟨k2,m,hb⟩:=hcb
  have vA:ca = .int k1 n:=by
   cases h:iz ca with
   | none=>rw[h] at ha;cases ha
   | some u=>rw[h] at ha;have q:u = .int k1 n:=ha;subst q;exact (VR.iz (e:=⟨id,fun _=>0,id,0⟩) h).fh
  have vB:cb = .int k2 m:=by
   cases h:iz cb with
   | none=>rw[h] at hb;cases hb
   | some u=>rw[h] at hb;have q:u = .int k2 m:=hb;subst q;exact (VR.iz (e:=⟨id,fun _=>0,id,0⟩) h).fh
  rw[ha,hb] at jS
  obtain⟨el,s,z,row,hu,hs,hz,gV,hle,hlen,iT⟩:=run_makeSlice jS w
  refine⟨.cells row.toArray el (0,0),.slice (some ⟨w.heap.size,0,none⟩) n.toNat m.toNat,w.drawn,?_,?_⟩
  ·unfold execOp
   rw[ck,vA,vB]
   have h2:(do Pure.pure (Next.value (<-Instr.makeSlice ty (.int k1 n) (.int k2 m))):Sem Next).run P w = .ok (.value (.slice (some ⟨w.heap.size,0,none⟩) n.toNat m.toNat)) { w with heap:=w.heap.push (.cells row.toArray el (0,0)) }:=by
    rw[Sem.run_bind,iT]
    rfl
   exact h2
  ·intro H2 pK v2 e lN _ hN
   have nz:=EL t H2 pK v2 lN
   rw[ha,hb] at nz
   unfold tE at nz
   simp only[hu,hs] at nz
   split at nz
   ·rw[hz] at nz
    simp only[yS,abI] at nz
    obtain⟨⟨id,H3⟩,jk,rfl,rfl⟩:=nz
    obtain⟨iu,dV⟩:=C4 jk
    have tv:id=e.N:=(oV dV).1.trans hN.symm
    subst tv
    have da:=Si (cs:=row.toArray) (b:=w.heap.size) (el:=el) (by simpa using gV e) iu
    refine⟨_,_,dV,da,?_⟩
    have gF:(e.ext w.heap.size 0 row.toArray.size).b e.N=w.heap.size:=Em.ig ..
    have hv:=VR.slice (e:=e.ext w.heap.size 0 row.toArray.size) e.N 0 n.toNat m.toNat true s 0 m.toNat (aeE e.N) (by rw[Em.ik];rfl) hle (zf _) (fun _=>rfl) (by rw[Em.nG];simp[hlen])
    rw[gF] at hv
    exact hv
   ·cases nz
 ·have Yt:∀ (t2:Tm) (H2 pK:Hp) (v2:AV),fH P (ev P.globals.size t2) o H2=some (v2,pK)->jG P x y ((iz cv).getD .dE) H2=some (v2,pK):=by
   intro t2 H2 pK v2 h
   unfold fH at h
   rw[ck] at h
   exact h
  have jS:=Yt t H H' v hA
  unfold jG at jS
  rw[hx,hy] at jS
  cases hc:(iz cv).getD .dE with
  | str s=>
   rw[hc] at jS
   simp only at jS
   have hof:iz cv=some (.str s):=by
    cases h:iz cv with
    | none=>rw[h] at hc;cases hc
    | some u=>rw[h] at hc;exact congrArg some hc
   obtain⟨s',qj,tA⟩:=(VR.iz (e:=⟨id,fun _=>0,id,0⟩) hof).iS
   split at jS
   ·rename_i oS
    refine⟨.cells (rv w el s').toArray el (kN w el s',kN w el s'+1),.slice (some ⟨w.heap.size,0,none⟩) s'.size (kN w el s'),w.drawn+1,?_,?_⟩
    ·unfold execOp
     rw[ck]
     have h1:(convert x y cv).run P w=(Conv.stringToBytes el s').run P w:=by rw[tA];simp[convert,bY hx,bY hy,bY oS]
     have h2:(do Pure.pure (Next.value (<-convert x y cv)):Sem Next).run P w = .ok (.value (.slice (some ⟨w.heap.size,0,none⟩) s'.size (kN w el s'))) { w with drawn:=w.drawn+1,heap:=w.heap.push (.cells (rv w el s').toArray el (kN w el s',kN w el s'+1)) }:=by
      rw[Sem.run_bind,h1,Xz]
      rfl
     exact h2
    ·intro H2 pK v2 e lN _ hN
     have nz:=Yt t H2 pK v2 lN
     unfold jG at nz
     rw[hx,hy,hc] at nz
     simp only[oS] at nz
     split at nz
     ·rename_i i H3 jk
      cases nz
      obtain⟨hlen,dV⟩:=C4 jk
      have tv:i=e.N:=(oV dV).1.trans hN.symm
      subst tv
      have iH:=Qm w el s'
      have hle:=Ki w el s'
      rw[qj] at dV jk hlen ⊢
      refine⟨_,(rv w el s').length,dV,?_,?_⟩
      ·refine .cells _ _ _ _ _ _ (kN w el s',kN w el s'+1) (by rw[Em.nG];simp) ?_ (by simp) ?_ (fun _=>Em.ik ..)
       ·intro k u _ hk hg
        rw[Tr.CP .nil _ _ _ _ (by omega)] at hg
        rw[if_pos ⟨by omega,by omega⟩,adD] at hg
        obtain⟨v',cH,hr⟩:=(Vg e s').get hg
        refine⟨k,by rw[Em.ik];omega,v',?_,hr.mono (Em.kK ..)⟩
        have kM:k<(s'.data.toList.map fun b=>Value.int .u8 b.toNat).length:=(aaL.1 cH).1
        simp only[ac9,rv]
        rw[abi kM]
        exact cH
       ·intro _ k hk
        have lR:k<(rv w el s').length:=by simpa using hk
        rw[iH] at lR
        simp;omega
      ·have gF:(e.ext w.heap.size 0 (rv w el s').length).b e.N=w.heap.size:=Em.ig ..
       have hv:=VR.slice (e:=e.ext w.heap.size 0 (rv w el s').length) e.N 0 s'.size s'.size false 1 0 (kN w el s') (aeE e.N) (by rw[Em.ik];rfl) hle hle (by simp) (by rw[Em.nG,iH];omega)
       rw[gF] at hv
       rw[uv]
       exact hv
     ·cases nz
   ·cases jS
  | _=>rw[hc] at jS;first | (simp only at jS;cases jS;done) | (cases jS;done) | (simp at jS;done)
section
variable {P:Program}{cf:CF}{n:Nat}{ops:Array Oper}{B:List Nat}{t0:Tm}{H0:Hp}{TP TE:Nat->Tm}{HB HH:Nat->Hp}{V:Nat->AV}{X:Nat->Bool}
 {F:Nat->Prop} {W:World} {e0:Em} {ds:List Deferred} {S:Nat->Prop} {p:Nat} {e:Em} {a:Act} {w:World} {dm:Nat->Nat}
theorem Inv.congr {S':Nat->Prop}(I:Inv P n ops B t0 TP HB HH V X F W e0 ds S p e a w dm)(h:∀ j,S j↔S' j):Inv P n ops B t0 TP HB HH V X F W e0 ds S' p e a w dm:=by
 have:S=S':=funext fun j=>propext (h j)
 rw[<-this];exact I
theorem Inv.final (R:mZ P cf n ops B t0 H0 TP TE HB HH V X)(I:Inv P n ops B t0 TP HB HH V X F W e0 ds S p e a w dm)(gS:∀ j,j<ops.size->S j)(hS:∀ j,S j->j<ops.size) :
  ∃ e',e0.le e'/\RH P.globals.size F W e' (HH ops.size) w/\TR e' n (TE ops.size) a/\a.defers=ds:=by
 obtain⟨k,hk⟩:∃ k,ops.size=p+k:=⟨ops.size-p,by have:=I.pN;omega⟩
 obtain⟨e',he,hr,hv⟩:=I.IK R k (by omega) fun j o h1 h2 h3 h4=>⟨fun h5=>by
  have:=(I.dj j o h3 h4 h5).1 (gS j (by omega));omega,fun _=>gS j (by omega)⟩
 rw[<-hk] at hr hv
 refine⟨e',Em.le_trans I.le he,?_,⟨I.AD,fun d => ?_⟩,I.defers⟩
 ·have hw:=hr.weaken (F':=F) fun q hq => .inl hq
  exact hw.Ad (fun q hq=>⟨(hw.frame q hq).1,I.frame q hq⟩) (fun i o ho Hl hq=>(hw.obj i o ho).2.choose_spec.2.2 Hl hq) I.os I.tape I.output I.size
 ·obtain⟨v1,v2⟩:=R.b6 ops.size (zf _) d
  by_cases hex:∃ j o',j<ops.size/\ops[j]? = some o'/\o'.dst=some d
  ·obtain⟨j,o',hj,ez,eQ⟩:=hex
   rw[(v1 j o' hj ez eQ).2,afy]
   by_cases hp:iM P ops X S p j
   ·obtain⟨q1,q2,q3,o3,q4,q5⟩:=hp
    rw[ez] at q4;cases q4
    exact hv j o' d q2 hj ez q3 q5 eQ
   ·exact (I.val j o' d ez (gS j hj) eQ hp).mono he
  ·rw[(v2 fun j o' hj ez eQ=>hex ⟨j,o',hj,ez,eQ⟩).2]
   exact (I.Dl d fun j o' ez qi eQ=>hex ⟨j,o',hS j qi,ez,eQ⟩).mono he
theorem ade (fj:sO P cf)(R:mZ P cf n ops B t0 H0 TP TE HB HH V X){Q:Exit->Act->World->Prop}
  (hQ:∀ e' a' w',e0.le e'->RH P.globals.size F W e' (HH ops.size) w'->TR e' n (TE ops.size) a'->a'.defers=ds->Q .normal a' w') :
  ∀ (fuel:Nat) (listed:Array Bool) (p:Nat) (e:Em) (a:Act) (w:World) (dm:Nat->Nat),listed.size=ops.size->
   Inv P n ops B t0 TP HB HH V X F W e0 ds (fun j=>listed.getD j false=true) p e a w dm->(List.range ops.size).countP (fun j => !(listed.getD j false))<=fuel->
   wpAny P .any ops Q fuel listed a w:=by
 have Qa:∀ (listed:Array Bool) (j:Nat),listed.size=ops.size->(listed.getD j true=false↔j<ops.size/\¬ listed.getD j false=true):=by
  intro listed j hs
  simp only[ads]
  by_cases hj:j<listed.size
  ·rw[afK hj];simp;omega
  ·rw[Array.getElem?_eq_none (by omega)];simp;omega
 have wL:∀ (listed:Array Bool),listed.size=ops.size->∀ j,listed.getD j false=true->j<ops.size:=by
  intro listed hs j hj
  rcases agB j listed.size with q | q
  ·omega
  ·rw[ads,Array.getElem?_eq_none q] at hj;cases hj
 have finish:∀ (listed:Array Bool) (p:Nat) (e:Em) (a:Act) (w:World) (dm:Nat->Nat),listed.size=ops.size->Inv P n ops B t0 TP HB HH V X F W e0 ds (fun j=>listed.getD j false=true) p e a w dm->
   Region.ready .any ops listed=[]->Q .normal a w:=by
  intro listed p e a w dm hs I kA
  have gS:∀ j,j<ops.size->listed.getD j false=true:=by
   intro j
   induction j using Nat.strongRecOn with
   | _ j ih=>
    intro hj
    by_cases hl:listed.getD j false=true
    ·exact hl
    ·exfalso
     have:j∈Region.ready .any ops listed:=by
      rw[mem_ready]
      refine⟨(Qa listed j hs).2 ⟨hj,hl⟩,_,afK hj,fun e he hb => ?_⟩
      have:=R.form.back j _ (afK hj) e he hb
      exact ih e.on this (by omega)
     rw[kA] at this
     cases this
  obtain⟨e',h1,h2,h3,h4⟩:=I.final R gS (wL listed hs)
  exact hQ e' a w h1 h2 h3 h4
 intro fuel
 induction fuel with
 | zero=>
  intro listed p e a w dm hs I hc
  have kA:Region.ready .any ops listed=[]:=by
   cases hq:Region.ready .any ops listed with
   | nil=>rfl
   | cons j l=>
    exfalso
    have hm:j∈Region.ready .any ops listed:=by rw[hq];exact List.mem_cons_self ..
    rw[mem_ready] at hm
    obtain⟨h1,h2⟩:=(Qa listed j hs).1 hm.1
    have:0<(List.range ops.size).countP (fun j => !(listed.getD j false)):=List.countP_pos_iff.2 ⟨j,by simpa using h1,by simpa using h2⟩
    omega
  exact⟨kA,finish listed p e a w dm hs I kA⟩
 | succ fuel ih=>
  intro listed p e a w dm hs I hc
  refine⟨finish listed p e a w dm hs I,fun i hi => ?_⟩
  rw[mem_ready] at hi
  obtain⟨h0,o,ho,hed⟩:=hi
  obtain⟨bW,hS⟩:=(Qa listed i hs).1 h0
  have hr:∀ j,(B.getD i 0).testBit j=true->listed.getD j false=true:=by
   intro j hj
   obtain⟨ed,h1,h2,h3⟩:=R.form.bit i o ho j hj
   have h4:=hed ed h1 h2
   rcases h3 with h3 | h3
   ·rw[h3];exact h4
   ·exact I.down ed.on j h4 h3
  have je:∀ j,(listed.setIfInBounds i true).getD j false=true↔(listed.getD j false=true\/j=i):=by
   intro j
   by_cases hj:j=i
   ·subst hj
    simp[ads,aff (show j<listed.size by omega)]
   ·rw[getD_set_ne false (fun q=>hj q.symm)];simp[hj]
  have agZ:(List.range ops.size).countP (fun j => !((listed.setIfInBounds i true).getD j false))<=fuel:=by
   have:=aau (p:=fun j => !((listed.setIfInBounds i true).getD j false)) (q:=fun j => !(listed.getD j false)) (a:=i) (by
    intro x hx
    cases hq:listed.getD x false with
    | false=>rfl
    | true=>have:=(je x).2 (.inl hq);rw[this] at hx;cases hx) (by
    cases hq:listed.getD i false with
    | false=>rfl
    | true=>exact absurd hq hS) (by rw[(je i).2 (.inr rfl)];rfl) (List.range ops.size) (by simpa using bW)
   omega
  have next:∀ p' e' a' w' MX,Inv P n ops B t0 TP HB HH V X F W e0 ds (fun j=>listed.getD j false=true\/j=i) p' e' a' w' MX->wpAny P .any ops Q fuel (listed.setIfInBounds i true) a' w':=
   fun p' e' a' w' MX I'=>ih _ p' e' a' w' MX (by simpa using hs) (I'.congr fun j=>(je j).symm) agZ
  obtain⟨hw,eu⟩:=R.step i o ho
  have hgd:∀ d,El ops o=some d->VR e (((TP i).get d).getD cF) (a.tmps.getD d undef):=fun d hd=>I.read R ho hS hr (by unfold CU;rw[hd];simp)
  have JJ:=N7 (e:=e) (a:=a) hw hgd
  have Sv:∀ x∈o.op.operands.toList,VR e (ev P.globals.size (TP i) x) (a.eval x):=fun x hx=>Vt I.rh fun d hd=>I.read R ho hS hr (WY (hd▸hx))
  unfold wpOp
  simp only[ho]
  cases hX:X i with
  | false=>
   rw[hX] at eu JJ
   rw[JJ]
   simp only[abP,if_false]
   refine next p e _ w dm (I.quiet R ho hS hr (by rw[hX];simp) e.le_refl I.rh ?_)
   rw[eu.1];exact VR.undef
  | true=>
   rw[hX] at eu JJ
   rw[JJ]
   simp only[if_true]
   left
   have afr:∀ j oj,ops[j]? = some oj->X j=true->kd P oj = .dj->p<=j->j<i->kd P o = .dj->False:=by
    intro j oj h1 h2 h3 h4 h5 h6
    have:=hr j (R.d1 i o ho hX h6 j oj h1 h2 (.inl h3) h5)
    have:=(I.dj j oj h1 h2 h3).1 this
    omega
   cases cE:kd P o<;>rw[cE] at eu
   ·obtain⟨⟨h',ck⟩,_⟩:=eu
    have JY:=alu cE ck (HB p)
    have Qz:qL P cf (TP i) o (HB p)=some (V i,HB p):=by
     unfold qL
     split
     ·rename_i f args cM hq
      unfold kd at cE;rw[hq] at cE;cases cE
     ·exact JY
    refine Kb fj I.rh Qz Sv ?_
    intro e' v' w' he hR hv
    exact next p e' _ w' dm (I.quiet R ho hS hr (fun _=>by rw[cE];simp) he hR hv)
   ·obtain⟨⟨h',ck⟩,_⟩:=eu
    have nQ:∃ X9,fH P (ev P.globals.size (TP i)) o (HB p)=some (V i,X9):=by
     by_cases vT:p<=i
     ·by_cases hex:∃ j oj,p<=j/\j<i/\ops[j]? = some oj/\X j=true/\kd P oj = .dj
      ·have adj:∃ j oj,p<=j/\j<i/\ops[j]? = some oj/\X j=true/\kd P oj = .dj/\∀ j' nr,p<=j'->j'<j->ops[j']? = some nr->X j'=true->kd P nr ≠ .dj:=by
        obtain⟨j,hj⟩:=hex
        induction j using Nat.strongRecOn with
        | _ j ihj=>
         obtain⟨oj,h1,h2,h3,h4,h5⟩:=hj
         by_cases hm:∃ j' nr,p<=j'/\j'<j/\ops[j']? = some nr/\X j'=true/\kd P nr = .dj
         ·obtain⟨j',nr,g1,g2,g3,g4,g5⟩:=hm
          exact ihj j' g2 ⟨nr,g1,by omega,g3,g4,g5⟩
         ·exact⟨j,oj,h1,h2,h3,h4,h5,fun j' nr g1 g2 g3 g4 g5=>hm ⟨j',nr,g1,g2,g3,g4,g5⟩⟩
       obtain⟨j,oj,h1,h2,h3,h4,h5,h6⟩:=adj
       have QJ:HB j=HB p:=by
        obtain⟨k,rfl⟩:∃ k,j=p+k:=⟨j-p,by omega⟩
        exact R.Vj p k (by omega) fun j' nr g1 g2 g3 g4=>h6 j' nr g1 g2 g3 g4
       rcases R.d3 j oj h3 h4 h5 i o ho hX cE h2 with q | q
       ·exfalso
        have:=(I.dj j oj h3 h4 h5).1 (hr j q)
        omega
       ·rw[<-QJ];exact q
      ·have QJ:HB i=HB p:=by
        obtain⟨k,rfl⟩:∃ k,i=p+k:=⟨i-p,by omega⟩
        exact R.Vj p k (by omega) fun j' nr g1 g2 g3 g4 g5=>hex ⟨j',nr,g1,g2,g3,g4,g5⟩
       rw[<-QJ];exact⟨h',ck⟩
     ·have hex:∃ j oj,i<j/\j<p/\ops[j]? = some oj/\X j=true/\kd P oj = .dj/\HB (j+1)=HB p:=by
       rcases I.pe with q | ⟨j,oj,q1,q2,q3,q4⟩
       ·omega
       ·refine⟨j,oj,?_,by omega,q2,q3,q4,by rw[q1]⟩
        rcases agB i j with q | q
        ·exact q
        ·have:i=j:=by omega
         subst this
         rw[ho] at q2;cases q2
         rw[cE] at q4;cases q4
      obtain⟨j,oj,h1,h2,h3,h4,h5,h6⟩:=hex
      rcases R.d2 j oj h3 h4 h5 i o ho hX cE h1 with q | q
      ·exfalso
       exact hS (I.down j i ((I.dj j oj h3 h4 h5).2 h2) q)
      ·rw[<-h6];exact q
    obtain⟨X9,JY⟩:=nQ
    have ij:=Zr (.inr cE) JY
    subst ij
    have Qz:qL P cf (TP i) o (HB p)=some (V i,HB p):=by
     unfold qL
     split
     ·rename_i f args cM hq
      unfold kd at cE;rw[hq] at cE;cases cE
     ·exact JY
    refine Kb fj I.rh Qz Sv ?_
    intro e' v' w' he hR hv
    exact next p e' _ w' dm (I.quiet R ho hS hr (fun _=>by rw[cE];simp) he hR hv)
   ·obtain⟨hA,_⟩:=eu
    have vT:p<=i:=by
     rcases agB i p with q | q
     ·exfalso
      rcases I.pe with r | ⟨j,oj,q1,q2,q3,q4⟩
      ·omega
      ·have BX:i<j:=by
        rcases agB i j with q' | q'
        ·exact q'
        ·have:i=j:=by omega
         subst this
         rw[ho] at q2;cases q2
         rw[cE] at q4;cases q4
       have qi:=(I.dj j oj q2 q3 q4).2 (by omega)
       exact hS (I.down j i qi (R.d1 j oj q2 q3 q4 i o ho hX (.inr cE) BX))
     ·exact q
    obtain⟨ob,val,dr,iT,hrel⟩:=agV (a:=a) (w:=w) cE Sv hA
    have hI:=I.late R ho hS hr hX cE vT (dr:=dr) hrel
    unfold Oper.wp
    rw[iT]
    exact next p e _ _ _ hI
   ·obtain⟨ck,_,_,Ri⟩:=eu
    have vT:p<=i:=by
     rcases agB i p with q | q
     ·exact absurd ((I.dj i o ho hX cE).2 q) hS
     ·exact q
    obtain⟨k,hk⟩:∃ k,i=p+k:=⟨i-p,by omega⟩
    have QW:∀ j oj,p<=j->j<i->ops[j]? = some oj->X j=true->kd P oj ≠ .dj/\(kd P oj = .late->listed.getD j false=true):=
     fun j oj h1 h2 h3 h4=>⟨fun h5=>afr j oj h3 h4 h5 h1 h2 cE,fun h5=>hr j (R.d1 i o ho hX cE j oj h3 h4 (.inr h5) h2)⟩
    obtain⟨e1,mi,ei,fu⟩:=I.IK R k (by omega) (by rw[<-hk];exact QW)
    rw[<-hk] at ei fu
    have ah7:∀ x∈o.op.operands.toList,VR e1 (ev P.globals.size (TE i) x) (a.eval x):=by
     intro x hx
     refine Vt ei fun d hd => ?_
     subst hd
     have kA:=WY (ops:=ops) hx
     obtain⟨v1,v2⟩:=R.b6 i (Nat.le_of_lt bW) d
     by_cases hex:∃ j o',j<i/\ops[j]? = some o'/\o'.dst=some d
     ·obtain⟨j,o',hj,ez,eQ⟩:=hex
      rw[(v1 j o' hj ez eQ).2,afy]
      have qi:listed.getD j false=true:=by
       have:=R.form.rd j i o' o d ez ho eQ (by omega) kA
       rw[if_pos hj] at this
       exact hr j this
      by_cases hp:iM P ops X (fun j=>listed.getD j false=true) p j
      ·obtain⟨q1,q2,q3,o3,q4,q5⟩:=hp
       rw[ez] at q4;cases q4
       exact fu j o' d q2 hj ez q3 q5 eQ
      ·exact (I.val j o' d ez qi eQ hp).mono mi
     ·rw[(v2 fun j o' hj ez eQ=>hex ⟨j,o',hj,ez,eQ⟩).2]
      refine (I.Dl d fun j o' ez qi eQ => ?_).mono mi
      by_cases sc:j<i
      ·exact hex ⟨j,o',sc,ez,eQ⟩
      ·by_cases wI:j=i
       ·subst wI;exact hS qi
       ·have:=R.form.rd j i o' o d ez ho eQ wI kA
        rw[if_neg (by omega)] at this
        exact hS (I.down j i qi this)
    refine Kb fj ei ck ah7 ?_
    intro e' v' w' he hR hv
    exact next (i+1) e' _ w' dm (I.effect R ho hS hr hX cE vT mi fu he hR hv)
end
end
section
variable {P:Program}{cf:CF}{F:Nat->Prop}{W:World}{e:Em}{H:Hp}{w:World}
theorem Vl {s:iv}{H:Hp}(h:qY P s H=true):∃ h',fH P (ev P.globals.size s.t) s.o H=some (s.v,h'):=by
 unfold qY at h
 split at h
 ·rename_i v' h' hv
  rw[afR h]
  exact⟨h',hv⟩
 ·cases h
theorem YM (hm:P.follows .mixedOrders=true)(fj:sO P cf){ops:Array Oper}{n id:Nat}{t t':Tm}{H':Hp}{a:Act}{Q:Exit->Act->World->Prop}(hd:zx P cf n ops t H=some (t',H'))(hR:RH P.globals.size F W e H w)(hT:TR e n t a)
  (hQ:∀ e' a' w',e.le e'->RH P.globals.size F W e' H' w'->TR e' n t' a'->a'.defers=a.defers->Q .normal a' w'):(Code.region id ops true).wp P Q a w:=by
 unfold zx at hd
 cases Ka:tZ ops with
 | false=>rw[Ka] at hd;cases hd
 | true=>
 rw[Ka] at hd
 simp only[cond_true] at hd
 split at hd
 ·rename_i l tF HF iT
  cases Gy:zF P l with
  | false=>rw[Gy] at hd;cases hd
  | true=>
  rw[Gy] at hd
  cases hd
  have akT:=ah9 Ka
  obtain⟨TP,TE,HB,HH,V,X,q1,q2,q3,q4,q5,q6,q7⟩:=amE (B:=before ops.toList []) ops.toList (before ops.toList []) 0 t t H H l (by simp) (by simp) iT
  rw[wc,afj] at q5 q6
  unfold zF at Gy
  rw[adh] at Gy
  have pair:∀ i oi,ops[i]? = some oi->X i=true->kd P oi = .dj->∀ j oj,ops[j]? = some oj->X j=true->
    ((kd P oj = .dj\/kd P oj = .late)->(!(Nat.blt j i)||((before ops.toList []).getD i 0).testBit j)=true)/\
    (kd P oj = .read->(bif Nat.blt j i then ((before ops.toList []).getD i 0).testBit j||qY P ⟨j,oj,(before ops.toList []).getD j 0,X j,kk P (X j) oj,V j,TP j,HB j,HB (j+1)⟩ (HB (i+1)) else
     ((before ops.toList []).getD j 0).testBit i||qY P ⟨j,oj,(before ops.toList []).getD j 0,X j,kk P (X j) oj,V j,TP j,HB j,HB (j+1)⟩ (HB i))=true):=by
   intro i oi hi hx hk j oj hj rM
   have h1:=Gy _ (q7 i oi (ack _) hi).2
   simp only[kk,hx,if_true,hk,adh] at h1
   have h2:=h1 _ (q7 j oj (ack _) hj).2
   simp only[kk,rM,if_true] at h2 ⊢
   constructor
   ·intro oz
    rcases oz with oz | oz<;>(rw[oz] at h2;exact h2)
   ·intro oz
    rw[oz] at h2 ⊢
    exact h2
  have ak5:mZ P cf n ops (before ops.toList []) t H TP TE HB HH V X:=by
   refine⟨akT,q1,q2,q3,q4,fun j o ho=>(q7 j o (ack _) ho).1,?_,?_,?_⟩
   ·intro i oi hi hx hk j oj hj rM oz bW
    have:=(pair i oi hi hx hk j oj hj rM).1 oz
    have hb:Nat.blt j i=true:=by rw[acY];exact bW
    rw[hb] at this
    simpa using this
   ·intro i oi hi hx hk j oj hj rM oz bW
    have:=(pair i oi hi hx hk j oj hj rM).2 oz
    have hb:Nat.blt j i=true:=by rw[acY];exact bW
    rw[hb] at this
    simp only[cond_true,af0] at this
    exact this.imp (fun q=>q) Vl
   ·intro i oi hi hx hk j oj hj rM oz bW
    have:=(pair i oi hi hx hk j oj hj rM).2 oz
    have hb:Nat.blt j i=false:=by
     cases hb:Nat.blt j i
     ·rfl
     ·rw[acY] at hb;omega
    rw[hb] at this
    simp only[cond_false,af0] at this
    exact this.imp (fun q=>q) Vl
  refine wp_region_any hm ?_
  have tw:∀ j,(Array.replicate ops.size false).getD j false=true->False:=by
   intro j hj
   rw[ads,Array.getElem?_replicate] at hj
   split at hj<;>simp at hj
  have vk:=(hR.drawn (w.drawn+1))
  refine ade (F:=F) (W:=W) (e0:=e) (ds:=a.defers) fj ak5 (by rw[q5,q6];exact hQ) ops.size (Array.replicate ops.size false) 0 e a { w with drawn:=w.drawn+1 } (fun _=>0) (by simp) ?_ (by
   have:=List.countP_le_length (p:=fun j => !((Array.replicate ops.size false).getD j false)) (l:=List.range ops.size)
   simpa using this)
  refine⟨ack _,by rw[q3,q4],.inl rfl,fun i j h=>(tw i h).elim,fun i o _ _ _=>⟨fun h=>(tw i h).elim,fun h=>by omega⟩,?_,fun k hk=>(vk.frame k hk).2,hR.os,hR.tape,hR.output,hR.size,
   fun j hj=>(tw j hj.1).elim,fun i j hi=>(tw i hi.1).elim,fun j o d _ h=>(tw j h).elim,fun d _=>hT.val d,hT.size,e.le_refl,rfl⟩
  rw[q3]
  refine (vk.weaken fun k hk => ?_).Ii
  rcases hk with hk | ⟨j,hj,_⟩
  ·exact hk
  ·exact (tw j hj.1).elim
 ·cases hd
def yO (P:Program)(c:Code)(Q:Exit->Act->World->Prop)(a:Act)(w:World):Prop:=
 ∀ (b:Frame) (k:List Item) (cs:List Frame),∃ e a' w',Q e a' w'/\Arrives P (lone (b.at a (.code c :: .inLoop c::k)) cs w) b k cs e a' w'
theorem Zl {c:Code}{Q:Exit->Act->World->Prop}{a:Act}{w:World}(h:yO P c Q a w):(Code.loop c).wp P Q a w:=
 fun b k cs=>let ⟨e,a',w',q,r⟩:=h b k cs;⟨e,a',w',q,.of_steps (.one step_loop) r⟩
theorem VH {c:Code}{Q:Exit->Act->World->Prop}{a:Act}{w:World}(h:c.wp P (Exit.then (yO P c Q) Q) a w):yO P c Q a w:=by
 intro b k cs
 obtain⟨e,a₁,w₁,hq,B9⟩:=h b (.inLoop c::k) cs
 cases e with
 | normal=>
  obtain⟨e₂,a₂,w₂,hq₂,aki⟩:=hq b k cs
  exact⟨e₂,a₂,w₂,hq₂,.of_steps (Steps.trans B9 (.one step_inLoop)) aki⟩
 | exit id=>exact⟨_,a₁,w₁,hq,.pass (x := .inLoop c) rfl (fun _ _ => .inl (by simp)) B9⟩
 | goto l=>exact⟨_,a₁,w₁,hq,.pass (x := .inLoop c) rfl (fun _ _ => .inl (by simp)) B9⟩
 | ret=>exact⟨_,a₁,w₁,hq,.pass (x := .inLoop c) rfl (fun _ _ => .inl (by simp)) B9⟩
 | panic ch=>exact⟨_,a₁,w₁,hq,.pass (x := .inLoop c) rfl (fun _ _ => .inl (by simp)) B9⟩
 | outgrown=>exact⟨_,a₁,w₁,hq,.pass (x := .inLoop c) rfl (fun _ _ => .inl (by simp)) B9⟩
def xit:X->Exit
 | .normal => .normal
 | .exit i => .exit i
 | .ret => .ret
def ZH (P:Program)(run:Nat->Code->Tm->Hp->Option (X × Tm × Hp)):Prop:=
 ∀ (n:Nat) (c:Code) (t:Tm) (H:Hp) (x:X) (t':Tm) (H':Hp),run n c t H=some (x,t',H')->
  ∀ (F:Nat->Prop) (W:World) (e:Em) (a:Act) (w:World) (Q:Exit->Act->World->Prop),RH P.globals.size F W e H w->TR e n t a->
   (∀ e' a' w',e.le e'->RH P.globals.size F W e' H' w'->TR e' n t' a'->a'.defers=a.defers->Q (xit x) a' w')->
   c.wp P Q a w/\∀ b,c = .loop b->yO P b Q a w
theorem acj (h:RH P.globals.size F W e H w){t:TypeId}{a v:AV}{a':Value}(ha:VR e a a')(hl:p9 P H t a=some v) :
  ∃ ad v',a' = .pointer (some ad)/\(loadVar t ad).run P w = .ok v' w/\VR e v v':=by
 obtain⟨v',h1,h2⟩:=UZ h ha hl
 unfold p9 at hl
 split at hl
 ·obtain⟨o,hi,ho,rfl⟩:=ha.jX
  refine⟨_,v',rfl,?_,h2⟩
  simpa[Instr.loadAt,Instr.sureAddr] using h1
 ·cases hl
theorem Su (h:RH P.globals.size F W e H w){n:Nat}{t:Tm}{a:Act}(ht:TR e n t a):∀ (l:List ResultVar) (vs:List AV),qS P t H l=some vs->
  ∃ ws,(l.mapM (fun (r:ResultVar)=>match r with | .tmp t=>(Pure.pure (a.tmps.getD t undef):Sem Value) | .cell ad ty=>do loadVar ty (<-asAddr (a.tmps.getD ad undef)))).run P w = .ok ws w/\cj e vs ws
 | [],vs,hr=>by cases hr;exact⟨[],by simp,.nil e⟩
 | .tmp x::l,vs,hr=>by
  unfold qS at hr
  split at hr
  ·rename_i l' pW
   cases hr
   obtain⟨ws,h1,h2⟩:=Su h ht l l' pW
   exact⟨a.tmps.getD x undef::ws,by rw[List.mapM_cons,Sem.run_bind,Sem.run_pure,Result.andThen_ok,Sem.run_bind,h1];rfl,.cons (ht.val x) h2⟩
  ·cases hr
 | .cell ad ty::l,vs,hr=>by
  unfold qS at hr
  split at hr
  ·rename_i v l' hv pW
   cases hr
   obtain⟨ws,h1,h2⟩:=Su h ht l l' pW
   obtain⟨p,v',h3,h4,h5⟩:=acj h (ht.val ad) hv
   refine⟨v'::ws,?_,.cons h5 h2⟩
   rw[List.mapM_cons,Sem.run_bind]
   have:(do loadVar ty (<-asAddr (a.tmps.getD ad undef)):Sem Value).run P w = .ok v' w:=by
    rw[h3];simp[asAddr,h4]
   rw[this,Result.andThen_ok,Sem.run_bind,h1]
   rfl
  ·cases hr
theorem SC (h:RH P.globals.size F W e H w){n:Nat}{t:Tm}{a:Act}(ht:TR e n t a){fn:Func}{vs:List AV}(hr:qS P t H fn.results.toList=some vs) :
  ∃ v,(results fn a.tmps).run P w = .ok v w/\VR e (Jv vs) v:=by
 obtain⟨ws,h1,h2⟩:=Su h ht _ _ hr
 have hm:(fn.results.mapM (fun (r:ResultVar)=>match r with | .tmp t=>(Pure.pure (a.tmps.getD t undef):Sem Value) | .cell ad ty=>do loadVar ty (<-asAddr (a.tmps.getD ad undef)))).run P w = .ok ws.toArray w:=by
  rw[<-Array.toArray_toList (xs:=fn.results),List.mapM_toArray,Sem.run_map,h1];rfl
 unfold results
 have lL:(fn.results.mapM fun
  | .tmp t=>Pure.pure (a.tmps.getD t undef)
  | .cell ad t=>do loadVar t (<-asAddr (a.tmps.getD ad undef)):Sem (Array Value)).run P w = .ok ws.toArray w:=hm
 refine⟨(if h:ws.toArray.size=1 then ws.toArray[0] else .tuple ws.toArray),?_,?_⟩
 ·rw[Sem.run_bind]
  exact aaM (congrArg (fun r:Result (Array Value)=>r.andThen (fun vs w'=>(Pure.pure (if h:vs.size=1 then vs[0] else .tuple vs):Sem Value).run P w')) lL) rfl
 ·cases vs with
  | nil=>rw[h2.gg];exact .tuple' (.nil e)
  | cons v r=>
   obtain⟨v',ws',rfl,hv,dg⟩:=h2.cons_inv
   cases r with
   | nil=>rw[dg.gg];exact hv
   | cons v2 r2=>
    obtain⟨PB,ws2,rfl,nF,pG⟩:=dg.cons_inv
    have:¬ (v'::PB::ws2).toArray.size=1:=by simp
    rw[dif_neg this]
    exact .tuple' h2
def F5:Ext->Array Value->Sem Value
 | .same=>Extern.AbiNoEscape.same
 | .JU t=>Extern.BytealgMakeNoZero.makeNoZero #[] #[t]
 | .S0=>Extern.BytealgIndexByte.indexByte
 | .count=>Extern.BytealgCount.count
def uy (P:Program)(ext:Nat->Option Ext):Prop:=
 ∀ cl k,ext cl=some k->∀ (bV:Array Value) (w:World),(callFunc cl bV).run P w=(do Pure.pure (Next.value (<-F5 k bV)):Sem Next).run P w
def ot (P:Program)(b7:Nat->Option Prim):Prop:=
 ∀ cl p,b7 cl=some p->∀ (args:List AV) (H:Hp) (v:AV) (H':Hp),p args H=some (v,H')->
  ∀ (F:Nat->Prop) (W:World) (e:Em) (w:World) (bV:Array Value),RH P.globals.size F W e H w->cj e args bV.toList->
   (callFunc cl bV).run P w = .ok (.enter cl bV) w/\Calls P cl bV w (xF P.globals.size F W e v H')
def jA (P : Program) : Prop := (P.funcs.toList.all fun fn => fn.body.isNone||fn.name != "runtime.NumGoroutine") = true
theorem nM (hN:jA P){cl:Nat}{fn:Func}{b:Code}(hf:P.funcs[cl]? = some fn)(hb:fn.body=some b)(bV:Array Value)(w:World):(callFunc cl bV).run P w = .ok (.enter cl bV) w:=by
 have hn : (fn.name == "runtime.NumGoroutine") = false := by
  unfold jA at hN
  rw[adh] at hN
  have:=hN fn (by have:=Array.mem_of_getElem? hf;simpa using this)
  rw[hb] at this
  simp at this
  simp[this]
 unfold callFunc
 rw[Sem.run_bind,run_program,Result.andThen_ok]
 simp only[hf,hn,abP,if_false,hb,Option.isNone_some]
 rfl
theorem WR:∀ (n t:Nat) (acc:Array Value),(Extern.BytealgMakeNoZero.digits n t acc).size=acc.size+n
 | 0,t,acc=>rfl
 | n+1,t,acc=>by rw[Extern.BytealgMakeNoZero.digits,WR n];simp;omega
theorem Yk (c:UInt8):∀ (l:List UInt8) (k:Nat) (q:Nat->Bool),(∀ (j:Nat) (h:j<l.length),q (k+j)=(l[j]==c))->(List.range' k l.length).find? q=EK c.toNat (l.map (·.toNat)) k
 | [],k,q,_=>rfl
 | b::l,k,q,h=>by
  have h0:=h 0 (by simp)
  simp only[acJ,List.getElem_cons_zero] at h0
  have e:(b==c)=Nat.beq b.toNat c.toNat:=by
   rw[Bool.eq_iff_iff,Nat.beq_eq]
   simp[UInt8.toNat_inj]
  rw[abg,List.range'_succ,List.find?_cons,h0,abc,EK,e]
  cases Nat.beq b.toNat c.toNat with
  | true=>rfl
  | false=>
   simp only[cond_false]
   refine Yk c l (k+1) q (fun j hj => ?_)
   have:=h (j+1) (by simp;omega)
   rw[show k+1+j=k+(j+1) by omega,this,List.getElem_cons_succ]
theorem aat (c:UInt8):∀ l:List UInt8,Lib.countByte l c=EI c.toNat (l.map (·.toNat))
 | []=>rfl
 | b::l=>by
  have e:(b==c)=Nat.beq b.toNat c.toNat:=by
   rw[Bool.eq_iff_iff,Nat.beq_eq]
   simp[UInt8.toNat_inj]
  have ih:=aat c l
  unfold Lib.countByte at ih ⊢
  rw[List.count_cons,abc,EI,e,ih]
  cases Nat.beq b.toNat c.toNat<;>rfl
theorem firstIdx_eq (s:ByteArray)(c:UInt8):firstIdx s c=(match EK c.toNat (bytes s) 0 with | some i=>(i:Int) | none => -1):=by
 have hs:s.size=s.data.toList.length:=(afj).symm
 have h:=Yk c s.data.toList 0 (fun i=>s[i]! == c) (fun j hj=>by
  have gG:j<s.size:=by rw[hs];exact hj
  simp only[wc]
  rw[getElem!_pos s j gG]
  have e:s[j]=s.data.toList[j]:=by rw[Array.getElem_toList];rfl
  rw[e])
 unfold firstIdx
 rw[List.range_eq_range',hs,h]
 rfl
theorem aar (h:RH P.globals.size F W e H w){k:Ext}{args:List AV}{bV:Array Value}{v:AV}{H':Hp}(ha:cj e args bV.toList)(hx:IV P k args H=some (v,H')) :
  ∃ v' w' e',(F5 k bV).run P w = .ok v' w'/\e.le e'/\RH P.globals.size F W e' H' w'/\VR e' v v':=by
 unfold IV at hx
 split at hx
 ·cases hx
  obtain⟨x',r,h1,h2,h3⟩:=ha.cons_inv
  rw[h3.gg] at h1
  obtain rfl:bV = #[x']:=acB.1 h1
  exact⟨x',w,e,rfl,e.le_refl,h,h2⟩
 ·rename_i t n
  obtain⟨x',r,h1,h2,h3⟩:=ha.cons_inv
  rw[h3.gg] at h1
  obtain rfl:bV = #[x']:=acB.1 h1
  cases h2.fh
  split at hx
  ·rename_i el hu
   split at hx
   ·rename_i hn
    simp only[yS,abI] at hx
    obtain⟨⟨i,H2⟩,jk,rfl,rfl⟩:=hx
    let w1:World:={ w with drawn:=w.drawn+1 }
    let cap:=(Question.appendCap n.toNat 0 el).cut (w.tape w.drawn (.appendCap n.toNat 0 el))
    have eh:n.toNat<=cap:=Nat.le_add_right _ _
    let bs := (Question.extern "internal/bytealg.MakeNoZero.bytes" 0).cut (w1.tape w1.drawn (.extern "internal/bytealg.MakeNoZero.bytes" 0))
    let row:=(Extern.BytealgMakeNoZero.digits cap bs #[])
    have gV:row.size=cap:=by rw[WR];simp
    have hl:cj e (List.replicate n.toNat AV.dE) (row.toList.take n.toNat):=by
     refine⟨by simp[gV];omega,fun j a b hj hb => ?_⟩
     rw[ahl] at hj
     split at hj
     ·cases hj;exact .dE _
     ·cases hj
    obtain⟨e',he,g1,g2,g3,g4,lT⟩:=((h.drawn (w.drawn+1)).drawn (w.drawn+1+1)).newRow (rest:=row.toList.drop n.toNat) (fz:=(0,0)) jk hl (fun _=>rfl) (by simp)
    have agj:(row.toList.take n.toNat++row.toList.drop n.toNat).toArray=row:=by rw[List.take_append_drop]
    have hlen:(row.toList.take n.toNat++row.toList.drop n.toNat).length=cap:=by rw[List.take_append_drop];simp[gV]
    refine⟨.slice (some ⟨w.heap.size,0,none⟩) n.toNat cap,_,e',?_,he,lT,VR.zk g2 g1 (by rw[g3];simp) eh eh (by simp) (by rw[g4,hlen];omega)⟩
    rw[agj]
    have Xj:¬ (n<0\/n>2 ^ 48):=by omega
    have adz:(decide (n<0)||decide (n>2 ^ 48))=false:=by simp;omega
    have f1:(Question.appendCap n.toNat 0 el).forced=false:=rfl
    have f2 : (Question.extern "internal/bytealg.MakeNoZero.bytes" 0).forced = false := rfl
    have zE:F5 (.JU t) #[.int .i64 n]=(do
      let some t := (#[t] : Array TypeId)[0]? | stuck "bytealg.MakeNoZero: no result type"
      let .slice elem <-underlying t | stuck "bytealg.MakeNoZero: slice type expected"
      if n<0||n>2 ^ 48 then runtimePanic (.error "makeslice: len out of range")
      let cap <-choose (.appendCap n.toNat 0 elem)
      askRoom cap
      let bytes <-choose (.extern "internal/bytealg.MakeNoZero.bytes" 0)
      let a <-newRow elem (Extern.BytealgMakeNoZero.digits cap bytes #[])
      Pure.pure (.slice (some a) n.toNat cap):Sem Value):=rfl
    rw[zE]
    simp only[ac9,nq,Sem.run_bind,bY hu,Result.andThen_ok,adz,abP,if_false,run_choose,f1,f2,run_askRoom,newRow,run_newObj,Sem.run_pure]
    rfl
   ·cases hx
  ·cases hx
 ·rename_i s n
  cases hx
  obtain⟨x',r,h1,h2,h3⟩:=ha.cons_inv
  obtain⟨y',r2,h4,h5,h6⟩:=h3.cons_inv
  rw[h4,h6.gg] at h1
  obtain rfl:bV = #[x',y']:=acB.1 h1
  cases h5.fh
  obtain⟨s',rfl,rfl⟩:=h2.iS
  refine⟨_,w,e,run_indexByte_string s' n w,e.le_refl,h,?_⟩
  rw[firstIdx_eq]
  have:(n.toNat.toUInt8).toNat=n.toNat % 256:=by simp
  rw[this]
  exact .int .i64 _
 ·rename_i s n
  cases hx
  obtain⟨x',r,h1,h2,h3⟩:=ha.cons_inv
  obtain⟨y',r2,h4,h5,h6⟩:=h3.cons_inv
  rw[h4,h6.gg] at h1
  obtain rfl:bV = #[x',y']:=acB.1 h1
  cases h5.fh
  obtain⟨s',rfl,rfl⟩:=h2.iS
  refine⟨_,w,e,Lib.run_countString s' n w,e.le_refl,h,?_⟩
  have:(n.toNat.toUInt8).toNat=n.toNat % 256:=by simp
  rw[aat,this]
  exact .int .i64 _
 ·cases hx
theorem Ud {ext:Nat->Option Ext}{b7:Nat->Option Prim}(hN:jA P)(hE:uy P ext)(hP:ot P b7){run:Nat->Code->Tm->Hp->Option (X × Tm × Hp)}(iT:ZH P run) :
  sO P (Ce P ext b7 run):=by
 intro g args H v H' hc
 unfold Ce at hc
 split at hc
 ·rename_i cl first cap
  refine⟨cl,first,cap,rfl,?_⟩
  intro F W e w bV hR jy
  split at hc
  ·rename_i p hp
   exact .inr (hP cl p hp _ H v H' hc F W e w bV hR jy)
  ·split at hc
   ·rename_i fn hf
    split at hc
    ·rename_i b hb
     cases hle:(Nat.ble (first++args++cap).length fn.ntmps&&Nat.blt fn.ntmps 4294967296) with
     | false=>rw[hle] at hc;cases hc
     | true=>
     rw[hle] at hc
     simp only[cond_true] at hc
     rw[aaK,acN,acY] at hle
     refine .inr ⟨nM hN hf hb bV w,?_⟩
     have hlen:bV.size=(first++args++cap).length:=by have:=jy.1;simpa using this
     have hT:TR e fn.ntmps (Tr.cR .nil 0 (first++args++cap)) { tmps:=bV++Array.replicate (fn.ntmps-bV.size) undef,defers:=[] }:=by
      refine⟨by simp;omega,fun x => ?_⟩
      rw[Tr.CP .nil _ _ _ _ (by omega)]
      simp only[wc,ack,true_and,adD]
      by_cases hx:x<(first++args++cap).length
      ·rw[if_pos hx]
       have h1:(first++args++cap)[x]? = some (first++args++cap)[x]:=abb hx
       obtain⟨v',h2,h3⟩:=jy.get h1
       rw[h1,afy,ads,Array.getElem?_append_left (by omega),<-acF,h2]
       exact h3
      ·rw[if_neg hx]
       have:(bV++Array.replicate (fn.ntmps-bV.size) undef).getD x undef=undef:=by
        rw[ads,Array.getElem?_append_right (by omega),Array.getElem?_replicate]
        split<;>rfl
       simp only[this,Tr.get_nil]
       exact VR.undef
     have fin:∀ (x:X) (t2:Tm) (H2:Hp),run fn.ntmps b (Tr.cR .nil 0 (first++args++cap)) H=some (x,t2,H2)->(x = .normal\/x = .ret)->(qS P t2 H2 fn.results.toList).map (fun l=>(Jv l,H2))=some (v,H')->
       Calls P cl bV w (xF P.globals.size F W e v H'):=by
      intro x t2 H2 hr hO nU
      simp only[yS,abI] at nU
      obtain⟨vs,mF,rfl,rfl⟩:=nU
      refine calls_of_wp hf hb (iT _ _ _ _ _ _ _ hr F W e _ w _ hR hT ?_).1
      intro e' a' w' he cA cV hd
      obtain⟨u,hu,dT⟩:=SC cA cV mF
      rcases hO with rfl | rfl
      ·exact⟨hd,u,hu,e',u,rfl,he,cA,dT⟩
      ·exact⟨hd,u,hu,e',u,rfl,he,cA,dT⟩
     split at hc
     ·cases hc
     ·rename_i x t2 H2 cx hr
      cases x with
      | normal=>exact fin _ t2 H2 hr (.inl rfl) hc
      | ret=>exact fin _ t2 H2 hr (.inr rfl) hc
      | exit i=>exact (cx i rfl).elim
     ·cases hc
    ·rename_i hb
     split at hc
     ·rename_i k hk
      obtain⟨v',w',e',h1,h2,h3,h4⟩:=aar hR jy hc
      refine .inl ⟨v',w',e',?_,h2,h3,h4⟩
      rw[hE cl k hk,Sem.run_bind,h1]
      rfl
     ·cases hc
   ·cases hc
 ·cases hc
theorem ahE {ext:Nat->Option Ext}{b7:Nat->Option Prim}(hm:P.follows .mixedOrders=true)(hN:jA P)(hE:uy P ext)(hP:ot P b7):∀ f,ZH P (code P ext b7 f):=by
 intro f
 induction f with
 | zero=>intro n c t H x t' H' h;cases h
 | succ f ih=>
  have fj:sO P (Ce P ext b7 (code P ext b7 f)):=Ud hN hE hP ih
  intro n c t H x t' H' hc F W e a w Q hR hT hQ
  unfold code at hc
  split at hc
  ·cases hc
   exact⟨wp_skip (hQ e a w e.le_refl hR hT rfl),by intro b q;cases q⟩
  ·cases hc
   exact⟨wp_label (hQ e a w e.le_refl hR hT rfl),by intro b q;cases q⟩
  ·rename_i c1 c2
   refine⟨wp_seq ?_,by intro b q;cases q⟩
   split at hc
   ·rename_i t1 H1 h1
    refine (ih _ _ _ _ _ _ _ h1 F W e a w _ hR hT ?_).1
    intro e' a' w' he cA cV hd
    refine (ih _ _ _ _ _ _ _ hc F W e' a' w' _ cA cV ?_).1
    intro e2 a2 w2 jP kS AS C8
    exact hQ e2 a2 w2 (Em.le_trans he jP) kS AS (C8.trans hd)
   ·rename_i cx
    refine (ih _ _ _ _ _ _ _ hc F W e a w _ hR hT ?_).1
    intro e' a' w' he cA cV hd
    have:=hQ e' a' w' he cA cV hd
    cases x with
    | normal=>exact absurd hc (cx t' H')
    | exit i=>exact this
    | ret=>exact this
  ·rename_i cc c1 c2
   split at hc
   ·rename_i b hb
    have hv:=VR.ev hR hT cc
    rw[hb] at hv
    have cH:=hv.sH
    refine⟨wp_cond cH ?_,by intro b q;cases q⟩
    cases b with
    | true=>exact (ih _ _ _ _ _ _ _ hc F W e a w Q hR hT hQ).1
    | false=>exact (ih _ _ _ _ _ _ _ hc F W e a w Q hR hT hQ).1
   ·cases hc
  ·rename_i i b
   refine⟨wp_block ?_,by intro b q;cases q⟩
   split at hc
   ·rename_i j t1 H1 h1
    refine (ih _ _ _ _ _ _ _ h1 F W e a w _ hR hT ?_).1
    intro e' a' w' he cA cV hd
    show Exit.inBlock i Q (.exit j) a' w'
    cases hj:Nat.beq j i with
    | true=>
     rw[hj] at hc
     cases hc
     simp only[Exit.inBlock,aaV hj,if_true]
     exact hQ e' a' w' he cA cV hd
    | false=>
     rw[hj] at hc
     cases hc
     have cx:¬ j=i:=fun q=>by rw[q,Nat.beq_refl] at hj;cases hj
     simp only[Exit.inBlock,if_neg cx]
     exact hQ e' a' w' he cA cV hd
   ·rename_i cx
    refine (ih _ _ _ _ _ _ _ hc F W e a w _ hR hT ?_).1
    intro e' a' w' he cA cV hd
    have:=hQ e' a' w' he cA cV hd
    cases x with
    | normal=>exact this
    | exit j=>exact absurd hc (cx j t' H')
    | ret=>exact this
  ·rename_i b
   have hl:yO P b Q a w:=by
    refine VH ?_
    split at hc
    ·rename_i t1 H1 h1
     refine (ih _ _ _ _ _ _ _ h1 F W e a w _ hR hT ?_).1
     intro e' a' w' he cA cV hd
     show Exit.then (yO P b Q) Q .normal a' w'
     refine (ih _ _ _ _ _ _ _ hc F W e' a' w' Q cA cV ?_).2 b rfl
     intro e2 a2 w2 jP kS AS C8
     exact hQ e2 a2 w2 (Em.le_trans he jP) kS AS (C8.trans hd)
    ·rename_i cx
     refine (ih _ _ _ _ _ _ _ hc F W e a w _ hR hT ?_).1
     intro e' a' w' he cA cV hd
     have:=hQ e' a' w' he cA cV hd
     cases x with
     | normal=>exact absurd hc (cx t' H')
     | exit i=>exact this
     | ret=>exact this
   exact⟨Zl hl,by intro b' q;cases q;exact hl⟩
  ·cases hc
   exact⟨wp_exit (hQ e a w e.le_refl hR hT rfl),by intro b q;cases q⟩
  ·cases hc
   exact⟨wp_ret (hQ e a w e.le_refl hR hT rfl),by intro b q;cases q⟩
  ·rename_i id ops d
   refine⟨?_,by intro b q;cases q⟩
   split at hc
   ·rename_i t1 H1 h1
    cases hc
    cases d with
    | true=>exact YM hm fj h1 hR hT hQ
    | false=>
     refine wp_region ?_
     have:=UW (Q:=Q) fj ops.toList 0 t H e a w (by simp) h1 hR hT hQ
     rw[List.range_eq_range']
     simpa using this
   ·cases hc
  ·cases hc
theorem alB {ext:Nat->Option Ext}{b7:Nat->Option Prim}(hm:P.follows .mixedOrders=true)(hN:jA P)(hE:uy P ext)(hP:ot P b7){fuel g:Nat}{args:List AV}{v:AV}{H':Hp}
  (h:JE P ext b7 fuel g args H=some (v,H')) {fn:Func} {b:Code} (hf:P.funcs[g]? = some fn) (hb:fn.body=some b) {bV:Array Value} (hR:RH P.globals.size F W e H w) (ha:cj e args bV.toList) :
  Calls P g bV w (xF P.globals.size F W e v H'):=by
 obtain⟨cl,first,cap,hg,hs⟩:=Ud hN hE hP (ahE hm hN hE hP fuel) _ _ _ _ _ h
 cases hg
 rcases hs F W e w bV hR (by simpa using ha) with⟨v',w',e',h1,_⟩ | ⟨_,h2⟩
 ·rw[nM hN hf hb] at h1
  cases h1
 ·exact h2
end
end Go.Proofs.YtbdlbhlhnpblpaaGreatDoor.Am
