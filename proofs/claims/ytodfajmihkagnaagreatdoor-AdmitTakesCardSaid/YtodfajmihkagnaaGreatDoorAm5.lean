/- Laws that the proof uses. -/
import Derived.Test.YtodfajmihkagnaaGreatDoorAm4
set_option linter.unusedVariables false
set_option linter.unusedSimpArgs false
namespace Go.Proofs.YtodfajmihkagnaaGreatDoor.Am
section
section
section
section
section
theorem VS {n:Nat}{dst:Option Tmp}{v:AV}{t t':Tm}(h:gI n dst v t=some t')(d:Tmp):t'.get d=if dst=some d then some v else t.get d:=by
 unfold gI at h
 split at h
 ·cases h;simp
 ·rename_i x
  cases hb:(Nat.blt x n&&Nat.blt x 4294967296) with
  | false=>rw[hb] at h;cases h
  | true=>
   rw[hb] at h
   cases h
   simp only[aaG,ad5] at hb
   rw[Tr.GB _ _ _ _ _ (by omega)]
   by_cases hx:d=x
   ·subst hx;simp
   ·rw[if_neg hx,if_neg (fun q=>hx (adw q).symm)]
theorem aiw {n:Nat}{dst:Option Tmp}{v:AV}{t t':Tm}(h:gI n dst v t=some t'){d:Tmp}(hd:dst=some d):d<n:=by
 subst hd
 unfold gI at h
 simp only at h
 cases hb:(Nat.blt d n&&Nat.blt d 4294967296) with
 | false=>rw[hb] at h;cases h
 | true=>simp only[aaG,ad5] at hb;exact hb.1
theorem RH.weaken {G:Nat}{F F':Nat->Prop}{W:World}{e:Em}{H:Hp}{w:World}(h:RH G F W e H w)(hF:∀ k,F' k->F k):RH G F' W e H w:=
 h.Fa (fun k hk=>h.frame k (hF k hk)) (fun i o ho hw hk=>(h.obj i o ho).2.choose_spec.2.2 hw (hF _ hk)) h.os h.tape h.output h.size
theorem RH.KJ {G:Nat}{F:Nat->Prop}{W:World}{e:Em}{H:Hp}{w:World}(h:RH G F W e H w):RH G F w e H w:=
 h.Fa (fun k hk=>⟨(h.frame k hk).1,rfl⟩) (fun i o ho hw hk=>(h.obj i o ho).2.choose_spec.2.2 hw hk) rfl rfl rfl (aaH _)
theorem RH.JR {G:Nat}{F F':Nat->Prop}{W:World}{e:Em}{H:Hp}{w:World}(h:RH G F W e H w){o:AO}{i:Nat}{H':Hp}(ha:Am.alloc H o=some (i,H')){b n:Nat}{ob:Obj}
  (hb:w.heap[b]? = some ob) (LJ:∀ j oj,H.h.get j=some oj->e.b j≠b) (dK:OR (e.ext b 0 n) i o ob) (hF:∀ k,F' k->F k/\k≠b):i=e.N/\RH G F' W (e.ext b 0 n) H' w:=by
 obtain⟨rfl,aI,rfl⟩:=vC ha
 have hN:=h.N
 have eB:∀ j,(H.h.put 34 H.next o).get j=if j=H.next then some o else H.h.get j:=fun j=>Tr.fj _ _ _ _
 have hle:=Em.oX e b 0 n
 have eZ:∀ j oj,H.h.get j=some oj->(e.ext b 0 n).b j=e.b j:=fun j oj hj=>(hle.2 j (h.obj j oj hj).1).1
 refine⟨hN.symm,?_,?_,?_,?_,?_,h.os,h.tape,h.output,h.size,by obtain⟨g1,g2,g3⟩:=h.lA;rw[(hle.2 G g2).2.2];simp[Em.ext];omega⟩
 ·simp[Em.ext,hN]
 ·intro j oj hj
  simp only at hj
  rw[eB] at hj
  by_cases ej:j=H.next
  ·subst ej
   rw[if_pos rfl] at hj
   cases hj
   refine⟨by simp[Em.ext,hN],ob,?_,dK,?_⟩
   ·rw[<-hN,Em.mN];exact hb
   ·intro _ hk
    rw[<-hN,Em.mN] at hk
    exact (hF _ hk).2 rfl
  ·rw[if_neg ej] at hj
   obtain⟨a,pw,b2,c2,d2⟩:=h.obj j oj hj
   refine⟨by simp[Em.ext];omega,pw,?_,c2.mono hle a,?_⟩
   ·rw[eZ j oj hj];exact b2
   ·intro hw hk;rw[eZ j oj hj,(hle.2 G h.lA.2.1).2.2] at hw;rw[eZ j oj hj] at hk;exact d2 hw (hF _ hk).1
 ·intro j k oj ok hj hk hq he
  simp only at hj hk
  rw[eB] at hj hk
  by_cases ej:j=H.next<;>by_cases ek:k=H.next
  ·omega
  ·rw[if_neg ek] at hk
   rw[eZ k ok hk,ej,<-hN,Em.mN] at he
   exact absurd he.symm (LJ k ok hk)
  ·rw[if_neg ej] at hj
   rw[eZ j oj hj,ek,<-hN,Em.mN] at he
   exact absurd he (LJ j oj hj)
  ·rw[if_neg ej] at hj
   rw[if_neg ek] at hk
   rw[eZ j oj hj,(hle.2 G h.lA.2.1).2.2] at hq
   rw[eZ j oj hj,eZ k ok hk] at he
   exact h.inj j k oj ok hj hk hq he
 ·intro g hg
  obtain⟨a,b',c⟩:=h.pY g hg
  obtain⟨x,y,_⟩:=hle.2 g a
  exact⟨by simp[Em.ext];omega,x.trans b',y.trans c⟩
 ·intro k hk
  exact h.frame k (hF k hk).1
theorem aad {e:Em}{l:List AV}{cs:Array Value}{el b:Nat}(hl:aQ e l cs.toList)(hlen:l.length<=16777216):OR (e.ext b 0 cs.size) e.N (.cells (Tr.bZ .nil 0 l) 0 l.length el 0) (.cells cs el (0,0)):=by
 refine .cells _ _ _ _ _ _ _ (by rw[Em.vZ]) ?_ (fun _=>rfl) (by simp) (fun _=>Em.mP ..)
 intro k v _ hk hg
 rw[Tr.BF .nil _ _ _ _ (by omega)] at hg
 rw[if_pos ⟨by omega,by omega⟩,agR] at hg
 obtain⟨v',bQ,hr⟩:=hl.get hg
 exact⟨k,by rw[Em.mP];omega,v',by rw[<-aeg];exact bQ,hr.mono (Em.oX ..)⟩
structure oY (P:Program)(cf:CF)(n:Nat)(ops:Array Oper)(B:List Nat)(t0:Tm)(H0:Hp)(TP TE:Nat->Tm)(HB HH:Nat->Hp)(V:Nat->AV)(X:Nat->Bool):Prop where
 form:Form ops B
 t1:TP 0=t0
 t2:TE 0=t0
 h1:HB 0=H0
 h2:HH 0=H0
 step:∀ j o,ops[j]? = some o->Kk P cf n ops o (X j) (V j) (TP j) (TE j) (TP (j+1)) (TE (j+1)) (HB j) (HH j) (HB (j+1)) (HH (j+1))
 d1:∀ i oi,ops[i]? = some oi->X i=true->kd P oi = .db->∀ j oj,ops[j]? = some oj->X j=true->(kd P oj = .db\/kd P oj = .late)->j<i->(B.getD i 0).testBit j=true
 d2:∀ i oi,ops[i]? = some oi->X i=true->kd P oi = .db->∀ j oj,ops[j]? = some oj->X j=true->kd P oj = .read->j<i->(B.getD i 0).testBit j=true\/
  ∃ h',il P (ev P.globals.size (TP j)) oj (HB (i+1))=some (V j,h')
 d3:∀ i oi,ops[i]? = some oi->X i=true->kd P oi = .db->∀ j oj,ops[j]? = some oj->X j=true->kd P oj = .read->i<j->(B.getD j 0).testBit i=true\/
  ∃ h',il P (ev P.globals.size (TP j)) oj (HB i)=some (V j,h')
def pv (P:Program)(V:Nat->AV)(X:Nat->Bool)(j:Nat)(o:Oper):AV:=if X j=true/\kd P o = .late then .cU else V j
section
variable {P:Program}{cf:CF}{n:Nat}{ops:Array Oper}{B:List Nat}{t0:Tm}{H0:Hp}{TP TE:Nat->Tm}{HB HH:Nat->Hp}{V:Nat->AV}{X:Nat->Bool}
theorem oY.bZ (R:oY P cf n ops B t0 H0 TP TE HB HH V X){j:Nat}{o:Oper}(ho:ops[j]? = some o) :
  gI n o.dst (pv P V X j o) (TP j)=some (TP (j+1))/\gI n o.dst (V j) (TE j)=some (TE (j+1)):=by
 obtain⟨_,h⟩:=R.step j o ho
 cases hx:X j with
 | false=>
  rw[hx] at h
  obtain⟨h1,h2,h3,_⟩:=h
  simp only[pv,hx,abz,false_and,if_false]
  rw[h1];exact⟨h2,h3⟩
 | true=>
  rw[hx] at h
  cases hk:kd P o<;>rw[hk] at h<;>simp only[pv,hx,hk,true_and,if_true,reduceCtorEq,if_false,and_false]
  ·exact⟨h.2.1,h.2.2.1⟩
  ·exact⟨h.2.1,h.2.2.1⟩
  ·exact⟨h.2.1,h.2.2.1⟩
  ·exact⟨h.2.1,h.2.2.1⟩
theorem oY.ax (R:oY P cf n ops B t0 H0 TP TE HB HH V X):∀ i,i<=ops.size->∀ d,
  (∀ j o,j<i->ops[j]? = some o->o.dst=some d->(TP i).get d=some (pv P V X j o)/\(TE i).get d=some (V j))/\
  ((∀ j o,j<i->ops[j]? = some o->o.dst≠some d)->(TP i).get d=t0.get d/\(TE i).get d=t0.get d):=by
 intro i
 induction i with
 | zero=>intro _ d;exact⟨fun j o hj=>by omega,fun _=>⟨by rw[R.t1],by rw[R.t2]⟩⟩
 | succ i ih=>
  intro hi d
  obtain⟨i1,i2⟩:=ih (by omega) d
  have ho:ops[i]? = some ops[i]:=afn (by omega)
  obtain⟨p1,p2⟩:=R.bZ ho
  have g1:=VS p1 d
  have g2:=VS p2 d
  constructor
  ·intro j o hj vF hd
   by_cases tZ:j=i
   ·subst tZ
    rw[ho] at vF;cases vF
    rw[g1,g2,if_pos hd,if_pos hd];exact⟨rfl,rfl⟩
   ·have aO:ops[i].dst≠some d:=fun q=>tZ (R.form.one j i o _ d vF ho hd q)
    rw[g1,g2,if_neg aO,if_neg aO]
    exact i1 j o (by omega) vF hd
  ·intro jZ
   have aO:=jZ i _ (by omega) ho
   rw[g1,g2,if_neg aO,if_neg aO]
   exact i2 fun j o hj vF=>jZ j o (by omega) vF
theorem oY.UW (R:oY P cf n ops B t0 H0 TP TE HB HH V X)(p:Nat):∀ k,p+k<=ops.size->(∀ j o,p<=j->j<p+k->ops[j]? = some o->X j=true->kd P o ≠ .db)->HB (p+k)=HB p:=by
 intro k
 induction k with
 | zero=>intro _ _;rfl
 | succ k ih=>
  intro hk aO
  have ho:ops[p+k]? = some ops[p+k]:=afn (by omega)
  obtain⟨_,h⟩:=R.step (p+k) _ ho
  have:HB (p+k+1)=HB (p+k):=by
   cases hx:X (p+k) with
   | false=>rw[hx] at h;exact h.2.2.2.1
   | true=>
    rw[hx] at h
    have hn:=aO (p+k) _ (by omega) (by omega) ho hx
    cases cq:kd P ops[p+k]<;>rw[cq] at h
    ·exact h.2.2.2.1
    ·exact h.2.2.2.1
    ·exact h.2.2.2
    ·exact absurd cq hn
  rw[<-aiB,this]
  exact ih (by omega) fun j o h1 h2=>aO j o h1 (by omega)
end
end
variable {P:Program}
theorem MG:∀ {a b:AV},n0 a b=true->a=b:=by
 intro a b h
 unfold n0 at h
 split at h<;>first
  | rfl
  | (cases h;done)
  | (simp only[beq_iff_eq] at h;subst h;rfl)
  | (simp only[aaG,beq_iff_eq] at h;obtain⟨h1,h2⟩:=h;subst h1;subst h2;rfl)
  | (simp only[aaG] at h;obtain⟨h1,h2⟩:=h;rw[aa9 h1,aa9 h2])
  | (simp only[aaG,beq_iff_eq] at h;obtain⟨⟨⟨⟨⟨h1,h2⟩,h3⟩,h4⟩,h5⟩,h6⟩:=h;rw[aa9 h1,aa9 h2,aa9 h3,aa9 h4,h5,aa9 h6])
  | (rw[aa9 h])
theorem Nv:∀ {a b:List AV},tA a b=true->a=b
 | [],[],_=>rfl
 | [],_::_,h=>by simp[tA] at h
 | _::_,[],h=>by simp[tA] at h
 | a::x,b::y,h=>by
  simp only[tA,aaG] at h
  rw[MG h.1,Nv h.2]
theorem ao8 {a b:AV}(h:same a b=true):a=b:=by
 unfold same at h
 split at h
 ·rw[Nv h]
 ·rw[Nv h]
 ·simp only[aaG] at h
  rw[aa9 h.1,MG h.2]
 ·exact MG h
theorem iA {x:Option AV}{H:Hp}{v:AV}{H':Hp}(h:x.map (fun v=>(v,H))=some (v,H')):x=some v/\H'=H:=by
 simp only[aaa,acI] at h
 obtain⟨a,ha,rfl,rfl⟩:=h
 exact⟨ha,rfl⟩
theorem so {x:Option AV}{H:Hp}{v:AV}(h:x=some v):x.map (fun v=>(v,H))=some (v,H):=by rw[h];rfl
theorem adN {o:Oper}(h:kd P o = .late):(∃ t,o.op = .alloc t)\/(∃ t a b,o.op = .makeSlice t (.const a) (.const b))\/∃ a b v el,o.op = .convert a b (.const v)/\P.underlying a=some .string/\P.underlying b=some (.slice el):=by
 unfold kd at h
 cases aU:o.op<;>rw[aU] at h<;>simp only[reduceCtorEq] at h
 case alloc t=>exact .inl ⟨t,rfl⟩
 case binOp=>split at h<;>first | (cases h;done) | (split at h<;>cases h)
 case convert a b x=>
  split at h<;>first | (cases h;done) | skip
  rename_i el ha hb
  split at h
  ·rename_i v;exact .inr (.inr ⟨a,b,v,el,rfl,ha,hb⟩)
  ·cases h
 case makeSlice t l c=>
  split at h
  ·rename_i a b;exact .inr (.inl ⟨t,a,b,rfl⟩)
  ·cases h
 case call c=>split at h<;>cases h
theorem Z3 {a b:TypeId}{x v:AV}{H H':Hp}{i j:IntKind}(ha:P.underlying a=some (.int i))(hb:P.underlying b=some (.int j))(h:iY P a b x H=some (v,H')) :
  H'=H/\∀ H2,iY P a b x H2=some (v,H2):=by
 unfold iY at h ⊢
 rw[ha,hb] at h ⊢
 cases x<;>simp only at h ⊢ <;> first | (cases h;exact⟨rfl,fun _=>rfl⟩) | (cases h;done) | (simp at h;done) | skip
theorem XS {a b : TypeId}{x v : AV}{H H' : Hp}(ha : P.underlying a = some .string)(hb : P.underlying b = some .string)(h : iY P a b x H = some (v, H')) :
    H' = H /\ ∀ H2, iY P a b x H2 = some (v, H2) := by
  unfold iY at h ⊢
  rw[ha, hb] at h ⊢
  cases x<;>simp only at h ⊢ <;> first
    | (cases h;exact⟨rfl, fun _ => rfl⟩) | (cases h;done) | (simp at h;done)
    | (split at h
       · rename_i q;cases h;exact⟨rfl, fun _ => by rw[if_pos q]⟩
       · cases h)
    | skip
theorem ajV {a b e:TypeId}{x v:AV}{H H':Hp}(ha:P.underlying a=some (.slice e))(hb:P.underlying b=some .string)(h:iY P a b x H=some (v,H')):H'=H:=by
 unfold iY at h
 rw[ha,hb] at h
 cases x<;>simp only at h<;>first
  | (cases h;rfl) | (cases h;done) | (simp at h;done)
  | (split at h<;>first | (cases h;rfl) | (cases h;done) | skip)
  | skip
 rename_i q
 cases hz:Nat.beq _ 0 with
 | true=>rw[hz] at h;cases h;rfl
 | false=>
  rw[hz] at h
  simp only[cond_false,aa3,aaa,acI] at h
  obtain⟨_,_,_,_,_,rfl⟩:=h
  rfl
theorem VU {ρ:Operand->AV}{o:Oper}{H H':Hp}{v:AV}(hk:kd P o = .pure\/kd P o = .read)(h:il P ρ o H=some (v,H')):H'=H:=by
 unfold il at h
 unfold kd at hk
 cases aU:o.op<;>rw[aU] at h hk<;>simp only[reduceCtorEq,or_self] at h hk
 case move x=>cases h;rfl
 case assign x=>cases h;rfl
 case pick c a b=>
  split at h
  ·cases h;rfl
  ·cases h
 case build t ps=>exact (iA h).2
 case load t a=>exact (iA h).2
 case nilCheck x=>exact (iA h).2
 case binOp op t x y ty=>
  cases hg:rO P op t x y (ρ x) (ρ y) with
  | false=>rw[hg] at h;cases h
  | true=>rw[hg] at h;exact (iA h).2
 case unOp op t x=>exact (iA h).2
 case convert a b x=>
  split at hk
  ·rename_i i j ha hb;exact (Z3 ha hb h).1
  ·rename_i ha hb;exact (XS ha hb h).1
  ·rename_i e ha hb;exact ajV ha hb h
  ·split at hk<;>simp at hk
  ·simp at hk
 case makeSlice t l c=>split at hk<;>simp at hk
 case makeInterface t x=>exact (iA h).2
 case makeFunc fn a b=>exact (iA h).2
 case slice t x lo hi mx=>exact (iA h).2
 case fieldAddr t x f=>exact (iA h).2
 case field t x f=>exact (iA h).2
 case indexAddr t x ix=>exact (iA h).2
 case index t x ix=>exact (iA h).2
 case lookup t x k ok=>exact (iA h).2
 case entry it=>exact (iA h).2
 case extract t ix=>
  split at h
  ·exact (iA h).2
  ·cases h
 case typeAssert x t uk ok=>exact (iA h).2
 case call c=>
  cases hc:c.callee with
  | builtin b=>
   rw[hc] at h hk
   simp only at h hk
   cases b<;>simp only[reduceCtorEq,or_self] at hk<;>(unfold gG at h;split at h<;>first | (cases h;done) | exact (iA h).2 | simp_all)
  | value f=>rw[hc] at h;cases h
  | invoke r m=>rw[hc] at h;cases h
theorem aeP {op:BinOp}{t:TypeId}{x y:AV}(hk:(match op with
   | .eql | .neq=>match P.underlying t with | some (.int _) | some .string | some .bool=>Kd.pure | _ => .read
   | _ => .pure) = .pure) (H H2:Hp):eA P op t x y H=eA P op t x y H2:=by
 have heq:(op = .eql\/op = .neq)->∀ H H2:Hp,dC P 50 t x y H=dC P 50 t x y H2:=by
  intro ho H H2
  have hu:P.underlying t=some .string\/P.underlying t=some .bool\/∃ k,P.underlying t=some (.int k):=by
   rcases ho with rfl | rfl<;>(simp only at hk;split at hk<;>first | (exact .inl (by assumption)) | (exact .inr (.inl (by assumption))) | (exact .inr (.inr ⟨_,by assumption⟩)) | cases hk)
  unfold dC
  rcases hu with hu | hu | ⟨k,hu⟩<;>(rw[hu];cases x<;>cases y<;>rfl)
 cases op
 case eql=>
  have:=heq (.inl rfl) H H2
  cases x<;>cases y<;>simp only[eA,this]
 case neq=>
  have:=heq (.inr rfl) H H2
  cases x<;>cases y<;>simp only[eA,this]
 all_goals (cases x<;>cases y<;>rfl)
theorem acW {ρ:Operand->AV}{o:Oper}{H H':Hp}{v:AV}(hk:kd P o = .pure)(h:il P ρ o H=some (v,H'))(H2:Hp):il P ρ o H2=some (v,H2):=by
 have hs:=VU (.inl hk) h
 subst hs
 unfold il at h ⊢
 unfold kd at hk
 cases aU:o.op<;>rw[aU] at h hk<;>simp only[reduceCtorEq] at h hk ⊢
 case move x=>cases h;rfl
 case assign x=>cases h;rfl
 case pick c a b=>
  split at h
  ·cases h;simp[*]
  ·cases h
 case build t ps=>exact so (iA h).1
 case nilCheck x=>exact so (iA h).1
 case binOp op t x y ty=>
  cases hg:rO P op t x y (ρ x) (ρ y) with
  | false=>rw[hg] at h;cases h
  | true=>
   rw[hg] at h
   rw[aeP hk H2 H']
   exact so (iA h).1
 case unOp op t x=>exact so (iA h).1
 case convert a b x=>
  split at hk
  ·rename_i i j ha hb;exact (Z3 ha hb h).2 H2
  ·rename_i ha hb;exact (XS ha hb h).2 H2
  ·cases hk
  ·split at hk<;>cases hk
  ·cases hk
 case makeSlice t l c=>split at hk<;>cases hk
 case makeInterface t x=>exact so (iA h).1
 case makeFunc fn a b=>exact so (iA h).1
 case fieldAddr t x f=>exact so (iA h).1
 case field t x f=>exact so (iA h).1
 case indexAddr t x ix=>exact so (iA h).1
 case index t x ix=>exact so (iA h).1
 case extract t ix=>
  split at h
  ·rename_i l hl;exact so (iA h).1
  ·cases h
 case typeAssert x t uk ok=>exact so (iA h).1
 case call c=>
  cases hc:c.callee with
  | builtin b=>
   rw[hc] at h hk
   simp only at h hk ⊢
   cases b<;>simp only[reduceCtorEq] at hk<;>(unfold gG at h ⊢;split at h<;>first | (cases h;done) | exact so (iA h).1 | simp_all)
  | value f=>rw[hc] at h;cases h
  | invoke r m=>rw[hc] at h;cases h
end
section
variable {P:Program}{cf:CF}{n:Nat}{ops:Array Oper}{B:List Nat}{t0:Tm}{H0:Hp}{TP TE:Nat->Tm}{HB HH:Nat->Hp}{V:Nat->AV}{X:Nat->Bool}
def ka (P:Program)(ops:Array Oper)(X:Nat->Bool)(S:Nat->Prop)(p j:Nat):Prop:=S j/\p<=j/\X j=true/\∃ o,ops[j]? = some o/\kd P o = .late
def Qu (P:Program)(o:Oper)(b:Nat)(ob:Obj)(val:Value):Prop:=
 ∀ (t:Tm) (H H':Hp) (v:AV) (e:Em),il P (ev P.globals.size t) o H=some (v,H')->e.N=H.next->∃ ao n,Am.alloc H ao=some (e.N,H')/\OR (e.ext b 0 n) e.N ao ob/\VR (e.ext b 0 n) v val
structure Inv (P:Program)(n:Nat)(ops:Array Oper)(B:List Nat)(t0:Tm)(HB HH:Nat->Hp)(V:Nat->AV)(X:Nat->Bool)(F:Nat->Prop)(W:World)(e0:Em)(ds:List Deferred)
  (S:Nat->Prop) (p:Nat) (e:Em) (a:Act) (w:World) (cg:Nat->Nat):Prop where
 pN:p<=ops.size
 ph:HH p=HB p
 pe:p=0\/∃ j oj,p=j+1/\ops[j]? = some oj/\X j=true/\kd P oj = .db
 down:∀ i j,S i->(B.getD i 0).testBit j=true->S j
 db:∀ i o,ops[i]? = some o->X i=true->kd P o = .db->(S i↔i<p)
 rh:RH P.globals.size (fun k=>F k\/∃ j,ka P ops X S p j/\cg j=k) w e (HB p) w
 frame:∀ k,F k->w.heap[k]? = W.heap[k]?
 os:w.os=W.os
 tape:w.tape=W.tape
 output:w.output=W.output
 size:W.heap.size<=w.heap.size
 J5:∀ j,ka P ops X S p j->e.n P.globals.size<=cg j/\¬ F (cg j)/\∀ o,ops[j]? = some o->∃ ob val,w.heap[cg j]? = some ob/\Qu P o (cg j) ob val/\∀ d,o.dst=some d->a.tmps.getD d undef=val
 Jq:∀ i j,ka P ops X S p i->ka P ops X S p j->cg i=cg j->i=j
 val:∀ j o d,ops[j]? = some o->S j->o.dst=some d->¬ ka P ops X S p j->VR e (V j) (a.tmps.getD d undef)
 Co:∀ d,(∀ j o,ops[j]? = some o->S j->o.dst≠some d)->VR e ((t0.get d).getD bK) (a.tmps.getD d undef)
 zQ:n<=a.tmps.size
 le:e0.le e
 defers:a.defers=ds
theorem Inv.read (R:oY P cf n ops B t0 H0 TP TE HB HH V X){F:Nat->Prop}{W:World}{e0:Em}{ds:List Deferred}{S:Nat->Prop}{p:Nat}{e:Em}{a:Act}{w:World}{cg:Nat->Nat}
  (I:Inv P n ops B t0 HB HH V X F W e0 ds S p e a w cg) {i:Nat} {o:Oper} (ho:ops[i]? = some o) (hS:¬ S i) (hr:∀ j,(B.getD i 0).testBit j=true->S j) {d:Tmp} (hd:DJ ops o d=true) :
  VR e (((TP i).get d).getD bK) (a.tmps.getD d undef):=by
 have hi:i<ops.size:=(acH.1 ho).1
 obtain⟨v1,v2⟩:=R.ax i (Nat.le_of_lt hi) d
 by_cases hex:∃ j o',j<i/\ops[j]? = some o'/\o'.dst=some d
 ·obtain⟨j,o',hj,fE,eW⟩:=hex
  rw[(v1 j o' hj fE eW).1]
  have rC:S j:=by
   have:=R.form.rd j i o' o d fE ho eW (by omega) hd
   rw[if_pos hj] at this
   exact hr j this
  simp only[afI,pv]
  split
  ·exact .cU _
  ·rename_i hn
   refine I.val j o' d fE rC eW (fun q=>hn ?_)
   obtain⟨_,_,hx,o2,nz,hk⟩:=q
   rw[fE] at nz;cases nz
   exact⟨hx,hk⟩
 ·rw[(v2 fun j o' hj fE eW=>hex ⟨j,o',hj,fE,eW⟩).1]
  refine I.Co d fun j o' fE rC eW => ?_
  by_cases tZ:j<i
  ·exact hex ⟨j,o',tZ,fE,eW⟩
  ·by_cases xA:j=i
   ·subst xA;exact hS rC
   ·have:=R.form.rd j i o' o d fE ho eW xA hd
    rw[if_neg (by omega)] at this
    exact hS (I.down j i rC this)
theorem aoa {o:Oper}{d:Tmp}(h:Operand.tmp d∈o.op.operands.toList):d∈tmpsOf o:=by
 unfold tmpsOf
 rw[List.mem_filterMap]
 exact⟨.tmp d,h,rfl⟩
theorem aa5 {o:Oper}{d:Tmp}(h:Operand.tmp d∈o.op.operands.toList):DJ ops o d=true:=by
 unfold DJ
 rw[ag6]
 left
 simpa using aoa h
theorem Vm {F:Nat->Prop}{W:World}{e:Em}{H:Hp}{w:World}(h:RH P.globals.size F W e H w){t:Tm}{a:Act}{x:Operand}(ht:∀ d,x = .tmp d->VR e ((t.get d).getD bK) (a.tmps.getD d undef)) :
  VR e (ev P.globals.size t x) (a.eval x):=by
 cases x with
 | tmp d=>exact ht d rfl
 | const v=>
  simp only[Am.ev,Act.eval]
  cases hc:Am.jr v with
  | none=>exact .cU v
  | some c=>exact .jr hc
 | global g=>
  simp only[Am.ev,Act.eval]
  cases hb:Nat.blt g P.globals.size with
  | false=>exact .cU _
  | true=>
   rw[ad5] at hb
   obtain⟨h1,h2,h3⟩:=h.pY g hb
   have:=VR.ptr (e:=e) g 0 0 h1 (by rw[h3];simp)
   rw[h2] at this
   exact this
 | func f=>exact .func _ (by simp) [] [] #[] #[] rfl rfl (by simp) (by simp)
theorem Inv.JR (R:oY P cf n ops B t0 H0 TP TE HB HH V X){F:Nat->Prop}{W:World}{e0:Em}{ds:List Deferred}{S:Nat->Prop}{p:Nat}{e:Em}{a:Act}{w:World}{cg:Nat->Nat}
  (I:Inv P n ops B t0 HB HH V X F W e0 ds S p e a w cg):∀ k,p+k<=ops.size->(∀ j o,p<=j->j<p+k->ops[j]? = some o->X j=true->kd P o ≠ .db/\(kd P o = .late->S j))->
  ∃ e',e.le e'/\RH P.globals.size (fun q=>F q\/∃ j,ka P ops X S (p+k) j/\cg j=q) w e' (HH (p+k)) w/\
   ∀ j o d,p<=j->j<p+k->ops[j]? = some o->X j=true->kd P o = .late->o.dst=some d->VR e' (V j) (a.tmps.getD d undef):=by
 intro k
 induction k with
 | zero=>
  intro _ _
  refine⟨e,e.le_refl,?_,fun j o d h1 h2=>by omega⟩
  rw[aem,I.ph]
  exact I.rh
 | succ k ih=>
  intro hk aO
  obtain⟨e1,qO,iq,lF⟩:=ih (by omega) fun j o h1 h2=>aO j o h1 (by omega)
  have ho:ops[p+k]? = some ops[p+k]:=afn (by omega)
  obtain⟨_,aC⟩:=R.step (p+k) _ ho
  have same:HH (p+k+1)=HH (p+k)->¬ (X (p+k)=true/\kd P ops[p+k] = .late)->∃ e',e.le e'/\RH P.globals.size (fun q=>F q\/∃ j,ka P ops X S (p+(k+1)) j/\cg j=q) w e' (HH (p+(k+1))) w/\
   ∀ j o d,p<=j->j<p+(k+1)->ops[j]? = some o->X j=true->kd P o = .late->o.dst=some d->VR e' (V j) (a.tmps.getD d undef):=by
   intro hh ic
   refine⟨e1,qO,?_,?_⟩
   ·rw[<-aiB,hh]
    refine iq.weaken fun q hq => ?_
    rcases hq with hq | ⟨j,⟨q1,q2,q3⟩,q4⟩
    ·exact .inl hq
    ·exact .inr ⟨j,⟨q1,by omega,q3⟩,q4⟩
   ·intro j o d h1 h2 hj hx cq hd
    by_cases QL:j=p+k
    ·subst QL
     rw[ho] at hj;cases hj
     exact absurd ⟨hx,cq⟩ ic
    ·exact lF j o d h1 (by omega) hj hx cq hd
  cases hx:X (p+k) with
  | false=>
   rw[hx] at aC
   exact same aC.2.2.2.2 (by simp[hx])
  | true=>
   rw[hx] at aC
   have hn:=aO (p+k) _ (by omega) (by omega) ho hx
   cases cq:kd P ops[p+k]<;>rw[cq] at aC
   ·exact same aC.2.2.2.2 (by simp[cq])
   ·exact same aC.2.2.2.2 (by simp[cq])
   · -- a new variable
    obtain⟨hA,_,_,_⟩:=aC
    have hS:=hn.2 cq
    have hpd:ka P ops X S (p+k) (p+k):=⟨hS,aaH _,hx,_,ho,cq⟩
    have aaA:ka P ops X S p (p+k):=⟨hS,by omega,hx,_,ho,cq⟩
    obtain⟨g1,g2,g3⟩:=I.J5 _ aaA
    obtain⟨ob,val,Hf,ET,OG⟩:=g3 _ ho
    obtain⟨ao,nn,dm,dK,ij⟩:=ET _ _ _ _ e1 hA iq.N
    have LJ:∀ j oj,(HH (p+k)).h.get j=some oj->e1.b j≠cg (p+k):=by
     intro j oj hj hq
     obtain⟨a1,ob,b1,c1,d1⟩:=iq.obj j oj hj
     by_cases hjG:e1.n P.globals.size<=e1.b j
     ·exact d1 (.inr hjG) (.inr ⟨p+k,hpd,hq.symm⟩)
     ·have:=(qO.2 _ I.rh.lA.2.1).2.2
      omega
    obtain⟨_,nM⟩:=iq.JR (F':=fun q=>F q\/∃ j,ka P ops X S (p+(k+1)) j/\cg j=q) dm Hf LJ dK (by
     intro q hq
     rcases hq with hq | ⟨j,⟨q1,q2,q3⟩,q4⟩
     ·exact⟨.inl hq,fun r=>g2 (r▸hq)⟩
     ·refine⟨.inr ⟨j,⟨q1,by omega,q3⟩,q4⟩,fun r => ?_⟩
      have:=I.Jq j (p+k) ⟨q1,by omega,q3⟩ aaA (q4.trans r)
      omega)
    refine⟨_,Em.le_trans qO (Em.oX ..),by rw[<-aiB];exact nM,?_⟩
    intro j o d h1 h2 hj tT qQ hd
    by_cases QL:j=p+k
    ·subst QL
     rw[ho] at hj;cases hj
     rw[OG d hd]
     exact ij
    ·exact (lF j o d h1 (by omega) hj tT qQ hd).mono (Em.oX ..)
   ·exact absurd cq hn.1
end
end
theorem RH.push {G:Nat}{F:Nat->Prop}{W:World}{e:Em}{H:Hp}{w:World}(h:RH G F W e H w)(ob:Obj) :
  RH G (fun k=>F k\/k=w.heap.size) { w with heap:=w.heap.push ob } e H { w with heap:=w.heap.push ob }:=by
 refine⟨h.N,?_,h.inj,h.pY,?_,rfl,rfl,rfl,aaH _,by obtain⟨g1,g2,g3⟩:=h.lA;simp;omega⟩
 ·intro i o ho
  obtain⟨a,pw,b,c,d⟩:=h.obj i o ho
  have aI:=(acH.1 b).1
  refine⟨a,pw,?_,c,fun hw hk => ?_⟩
  ·simp only;rw[aiU,if_neg (by omega)];exact b
  ·rcases hk with hk | hk
   ·exact d hw hk
   ·omega
 ·intro k hk
  refine⟨?_,rfl⟩
  rcases hk with hk | hk
  ·have:=(h.frame k hk).1;simp;omega
  ·simp;omega
theorem QN {a:Act}{dst:Option Tmp}{v:Value}{n:Nat}(hn:n<=a.tmps.size)(hd:∀ d,dst=some d->d<n)(d:Tmp):(a.put dst v).tmps.getD d undef=if dst=some d then v else a.tmps.getD d undef:=by
 cases dst with
 | none=>simp[Act.put]
 | some x=>
  simp only[Act.put]
  have Pg:x<a.tmps.size:=adW (hd x rfl) hn
  rw[aa2 Pg]
  by_cases hx:d=x
  ·subst hx;simp
  ·rw[if_neg hx,if_neg (fun q=>hx (adw q).symm)]
theorem Ru {a:Act}{dst:Option Tmp}{v:Value}:(a.put dst v).tmps.size=a.tmps.size:=by cases dst<;>simp[Act.put]
theorem QM {a:Act}{dst:Option Tmp}{v:Value}:(a.put dst v).defers=a.defers:=by cases dst<;>rfl
section
variable {P:Program}{cf:CF}{n:Nat}{ops:Array Oper}{B:List Nat}{t0:Tm}{H0:Hp}{TP TE:Nat->Tm}{HB HH:Nat->Hp}{V:Nat->AV}{X:Nat->Bool}
 {F:Nat->Prop} {W:World} {e0:Em} {ds:List Deferred} {S:Nat->Prop} {p:Nat} {e:Em} {a:Act} {w:World} {cg:Nat->Nat}
theorem oY.lt (R:oY P cf n ops B t0 H0 TP TE HB HH V X){i:Nat}{o:Oper}(ho:ops[i]? = some o):∀ d,o.dst=some d->d<n:=fun d hd=>aiw (R.bZ ho).2 hd
theorem Inv.quiet (R:oY P cf n ops B t0 H0 TP TE HB HH V X)(I:Inv P n ops B t0 HB HH V X F W e0 ds S p e a w cg){i:Nat}{o:Oper}(ho:ops[i]? = some o)(hS:¬ S i)
  (hr:∀ j,(B.getD i 0).testBit j=true->S j) (hk:X i=true->kd P o ≠ .late/\kd P o ≠ .db) {e':Em} {w':World} {v':Value}
  (he:e.le e') (hR:RH P.globals.size (fun k=>F k\/∃ j,ka P ops X S p j/\cg j=k) w e' (HB p) w') (hv:VR e' (V i) v') :
  Inv P n ops B t0 HB HH V X F W e0 ds (fun j=>S j\/j=i) p e' (a.put o.dst v') w' cg:=by
 have oa:∀ j,ka P ops X (fun j=>S j\/j=i) p j↔ka P ops X S p j:=by
  intro j
  constructor
  ·rintro⟨q1 | q1,q2,q3,o2,q4,q5⟩
   ·exact⟨q1,q2,q3,o2,q4,q5⟩
   ·subst q1
    rw[ho] at q4;cases q4
    exact absurd q5 (hk q3).1
  ·rintro⟨q1,q2⟩
   exact⟨.inl q1,q2⟩
 have aO:∀ j o2 d,ops[j]? = some o2->o2.dst=some d->j≠i->o.dst≠some d:=fun j o2 d h1 h2 h3 h4=>h3 (R.form.one j i o2 o d h1 ho h2 h4)
 have eB:=fun d=>QN (a:=a) (dst:=o.dst) (v:=v') I.zQ (R.lt ho) d
 refine⟨I.pN,I.ph,I.pe,?_,?_,?_,?_,hR.os.trans I.os,hR.tape.trans I.tape,hR.output.trans I.output,agr I.size hR.size,?_,?_,?_,?_,by rw[Ru];exact I.zQ,Em.le_trans I.le he,by rw[QM];exact I.defers⟩
 ·intro i' j h1 h2
  rcases h1 with h1 | h1
  ·exact .inl (I.down i' j h1 h2)
  ·subst h1;exact .inl (hr j h2)
 ·intro i' o' h1 h2 h3
  rw[<-I.db i' o' h1 h2 h3]
  constructor
  ·rintro (q | q)
   ·exact q
   ·subst q;rw[ho] at h1;cases h1;exact absurd h3 (hk h2).2
  ·exact .inl
 ·refine (hR.weaken fun k hk => ?_).KJ
  rcases hk with hk | ⟨j,h1,h2⟩
  ·exact .inl hk
  ·exact .inr ⟨j,(oa j).1 h1,h2⟩
 ·intro k hk
  exact (hR.frame k (.inl hk)).2.trans (I.frame k hk)
 ·intro j hj
  have iQ:=(oa j).1 hj
  obtain⟨g1,g2,g3⟩:=I.J5 j iQ
  refine⟨by rw[(he.2 _ I.rh.lA.2.1).2.2];exact g1,g2,fun o2 h1 => ?_⟩
  obtain⟨ob,val,q3,q2,q4⟩:=g3 o2 h1
  refine⟨ob,val,?_,q2,fun d hd => ?_⟩
  ·rw[(hR.frame (cg j) (.inr ⟨j,iQ,rfl⟩)).2];exact q3
  ·rw[eB,if_neg (aO j o2 d h1 hd (fun q=>hS (q▸iQ.1)))];exact q4 d hd
 ·intro x y hx hy
  exact I.Jq x y ((oa x).1 hx) ((oa y).1 hy)
 ·intro j o2 d h1 h2 h3 h4
  rw[eB]
  rcases h2 with h2 | h2
  ·rw[if_neg (aO j o2 d h1 h3 (fun q=>hS (q▸h2)))]
   exact (I.val j o2 d h1 h2 h3 (fun q=>h4 ((oa j).2 q))).mono he
  ·subst h2
   rw[ho] at h1;cases h1
   rw[if_pos h3];exact hv
 ·intro d hd
  rw[eB,if_neg (hd i o ho (.inr rfl))]
  exact (I.Co d fun j o2 h1 h2=>hd j o2 h1 (.inl h2)).mono he
theorem Inv.late (R:oY P cf n ops B t0 H0 TP TE HB HH V X)(I:Inv P n ops B t0 HB HH V X F W e0 ds S p e a w cg){i:Nat}{o:Oper}(ho:ops[i]? = some o)(hS:¬ S i)
  (hr:∀ j,(B.getD i 0).testBit j=true->S j) (hX:X i=true) (cq:kd P o = .late) (sG:p<=i) {ob:Obj} {val:Value} {dr:Nat} (ET:Qu P o w.heap.size ob val) :
  Inv P n ops B t0 HB HH V X F W e0 ds (fun j=>S j\/j=i) p e (a.put o.dst val) { w with drawn:=dr,heap:=w.heap.push ob } (fun j=>if j=i then w.heap.size else cg j):=by
 have oa:∀ j,ka P ops X (fun j=>S j\/j=i) p j↔(ka P ops X S p j\/j=i):=by
  intro j
  constructor
  ·rintro⟨q1 | q1,q2⟩
   ·exact .inl ⟨q1,q2⟩
   ·exact .inr q1
  ·rintro (⟨q1,q2⟩ | q)
   ·exact⟨.inl q1,q2⟩
   ·subst q;exact⟨.inr rfl,sG,hX,o,ho,cq⟩
 have aO:∀ j o2 d,ops[j]? = some o2->o2.dst=some d->j≠i->o.dst≠some d:=fun j o2 d h1 h2 h3 h4=>h3 (R.form.one j i o2 o d h1 ho h2 h4)
 have eB:=fun d=>QN (a:=a) (dst:=o.dst) (v:=val) I.zQ (R.lt ho) d
 have aI:∀ j,ka P ops X S p j->cg j<w.heap.size:=fun j hj=>(I.rh.frame (cg j) (.inr ⟨j,hj,rfl⟩)).1
 have uI:∀ j,ka P ops X S p j->j≠i:=fun j hj q=>hS (q▸hj.1)
 refine⟨I.pN,I.ph,I.pe,?_,?_,?_,?_,I.os,I.tape,I.output,by simp;have:=I.size;omega,?_,?_,?_,?_,by rw[Ru];exact I.zQ,I.le,by rw[QM];exact I.defers⟩
 ·intro i' j h1 h2
  rcases h1 with h1 | h1
  ·exact .inl (I.down i' j h1 h2)
  ·subst h1;exact .inl (hr j h2)
 ·intro i' o' h1 h2 h3
  rw[<-I.db i' o' h1 h2 h3]
  constructor
  ·rintro (q | q)
   ·exact q
   ·subst q;rw[ho] at h1;cases h1;rw[cq] at h3;cases h3
  ·exact .inl
 ·refine ((I.rh.push ob).drawn dr).KJ.weaken fun k hk => ?_
  rcases hk with hk | ⟨j,h1,h2⟩
  ·exact .inl (.inl hk)
  ·rcases (oa j).1 h1 with q | q
   ·rw[if_neg (uI j q)] at h2
    exact .inl (.inr ⟨j,q,h2⟩)
   ·rw[if_pos q] at h2
    exact .inr h2.symm
 ·intro k hk
  have:=(I.rh.frame k (.inl hk)).1
  simp only
  rw[aiU,if_neg (by omega)]
  exact I.frame k hk
 ·intro j hj
  rcases (oa j).1 hj with q | q
  ·obtain⟨g1,g2,g3⟩:=I.J5 j q
   rw[if_neg (uI j q)]
   refine⟨g1,g2,fun o2 h1 => ?_⟩
   obtain⟨pw,aoW,q3,q2,q4⟩:=g3 o2 h1
   refine⟨pw,aoW,?_,q2,fun d hd => ?_⟩
   ·simp only
    rw[aiU,if_neg (by have:=aI j q;omega)];exact q3
   ·rw[eB,if_neg (aO j o2 d h1 hd (uI j q))];exact q4 d hd
  ·rw[if_pos q]
   subst q
   refine⟨I.rh.lA.2.2,fun hF => ?_,fun o2 h1 => ?_⟩
   ·have:=(I.rh.frame _ (.inl hF)).1
    omega
   ·rw[ho] at h1;cases h1
    refine⟨ob,val,by simp,ET,fun d hd => ?_⟩
    rw[eB,if_pos hd]
 ·intro x y hx hy KZ
  rcases (oa x).1 hx with qx | qx<;>rcases (oa y).1 hy with qy | qy
  ·rw[if_neg (uI x qx),if_neg (uI y qy)] at KZ;exact I.Jq x y qx qy KZ
  ·rw[if_neg (uI x qx),if_pos qy] at KZ
   have:=aI x qx;omega
  ·rw[if_pos qx,if_neg (uI y qy)] at KZ
   have:=aI y qy;omega
  ·rw[qx,qy]
 ·intro j o2 d h1 h2 h3 h4
  rw[eB]
  rcases h2 with h2 | h2
  ·rw[if_neg (aO j o2 d h1 h3 (fun q=>hS (q▸h2)))]
   exact I.val j o2 d h1 h2 h3 (fun q=>h4 ((oa j).2 (.inl q)))
  ·exact absurd ((oa j).2 (.inr h2)) h4
 ·intro d hd
  rw[eB,if_neg (hd i o ho (.inr rfl))]
  exact I.Co d fun j o2 h1 h2=>hd j o2 h1 (.inl h2)
theorem Inv.effect (R:oY P cf n ops B t0 H0 TP TE HB HH V X)(I:Inv P n ops B t0 HB HH V X F W e0 ds S p e a w cg){i:Nat}{o:Oper}(ho:ops[i]? = some o)(hS:¬ S i)
  (hr:∀ j,(B.getD i 0).testBit j=true->S j) (hX:X i=true) (cq:kd P o = .db) (sG:p<=i) {e1 e':Em} {w':World} {v':Value}
  (qO:e.le e1) (Oo:∀ j o d,p<=j->j<i->ops[j]? = some o->X j=true->kd P o = .late->o.dst=some d->VR e1 (V j) (a.tmps.getD d undef))
  (he:e1.le e') (hR:RH P.globals.size (fun k=>F k\/∃ j,ka P ops X S i j/\cg j=k) w e' (HH (i+1)) w') (hv:VR e' (V i) v') :
  Inv P n ops B t0 HB HH V X F W e0 ds (fun j=>S j\/j=i) (i+1) e' (a.put o.dst v') w' cg:=by
 have hi:i<ops.size:=(acH.1 ho).1
 have oa:∀ j,ka P ops X (fun j=>S j\/j=i) (i+1) j->ka P ops X S i j/\ka P ops X S p j/\j≠i:=by
  rintro j ⟨q1,q2,q3⟩
  rcases q1 with q1 | q1
  ·exact⟨⟨q1,by omega,q3⟩,⟨q1,by omega,q3⟩,by omega⟩
  ·omega
 have aO:∀ j o2 d,ops[j]? = some o2->o2.dst=some d->j≠i->o.dst≠some d:=fun j o2 d h1 h2 h3 h4=>h3 (R.form.one j i o2 o d h1 ho h2 h4)
 have eB:=fun d=>QN (a:=a) (dst:=o.dst) (v:=v') I.zQ (R.lt ho) d
 have MU:HB (i+1)=HH (i+1):=by
  obtain⟨_,h⟩:=R.step i o ho
  rw[hX,cq] at h
  exact h.2.2.2
 refine⟨by omega,MU.symm,.inr ⟨i,o,rfl,ho,hX,cq⟩,?_,?_,?_,?_,hR.os.trans I.os,hR.tape.trans I.tape,hR.output.trans I.output,agr I.size hR.size,?_,?_,?_,?_,by rw[Ru];exact I.zQ,Em.le_trans I.le (Em.le_trans qO he),by rw[QM];exact I.defers⟩
 ·intro i' j h1 h2
  rcases h1 with h1 | h1
  ·exact .inl (I.down i' j h1 h2)
  ·subst h1;exact .inl (hr j h2)
 ·intro i' o' h1 h2 h3
  constructor
  ·rintro (q | q)
   ·have:=(I.db i' o' h1 h2 h3).1 q;omega
   ·omega
  ·intro q
   by_cases Bm:i'=i
   ·exact .inr Bm
   ·exact .inl (hr i' (R.d1 i o ho hX cq i' o' h1 h2 (.inl h3) (by omega)))
 ·rw[MU]
  refine (hR.weaken fun k hk => ?_).KJ
  rcases hk with hk | ⟨j,h1,h2⟩
  ·exact .inl hk
  ·exact .inr ⟨j,(oa j h1).1,h2⟩
 ·intro k hk
  exact (hR.frame k (.inl hk)).2.trans (I.frame k hk)
 ·intro j hj
  obtain⟨MJ,Md,hj3⟩:=oa j hj
  obtain⟨g1,g2,g3⟩:=I.J5 j Md
  refine⟨by rw[((Em.le_trans qO he).2 _ I.rh.lA.2.1).2.2];exact g1,g2,fun o2 h1 => ?_⟩
  obtain⟨ob,val,q3,q2,q4⟩:=g3 o2 h1
  refine⟨ob,val,?_,q2,fun d hd => ?_⟩
  ·rw[(hR.frame (cg j) (.inr ⟨j,MJ,rfl⟩)).2];exact q3
  ·rw[eB,if_neg (aO j o2 d h1 hd hj3)];exact q4 d hd
 ·intro x y hx hy
  exact I.Jq x y (oa x hx).2.1 (oa y hy).2.1
 ·intro j o2 d h1 h2 h3 h4
  rw[eB]
  rcases h2 with h2 | h2
  ·have tZ:j≠i:=fun q=>hS (q▸h2)
   rw[if_neg (aO j o2 d h1 h3 tZ)]
   by_cases hp:ka P ops X S p j
   ·obtain⟨q1,q2,q3,o3,q4,q5⟩:=hp
    rw[h1] at q4;cases q4
    by_cases aI:j<i
    ·exact (Oo j o2 d q2 aI h1 q3 q5 h3).mono he
    ·exact absurd ⟨.inl q1,by omega,q3,o2,h1,q5⟩ h4
   ·exact ((I.val j o2 d h1 h2 h3 hp).mono qO).mono he
  ·subst h2
   rw[ho] at h1;cases h1
   rw[if_pos h3];exact hv
 ·intro d hd
  rw[eB,if_neg (hd i o ho (.inr rfl))]
  exact ((I.Co d fun j o2 h1 h2=>hd j o2 h1 (.inl h2)).mono qO).mono he
end
end
theorem aaM {α:Type}{p q:α->Bool}(h:∀ x,p x=true->q x=true){a:α}(hq:q a=true)(hp:p a=false):∀ l:List α,a∈l->l.countP p<l.countP q
 | b::l,hm=>by
  have hle:∀ l:List α,l.countP p<=l.countP q:=fun l=>List.countP_mono_left fun x _=>h x
  rcases aaY.1 hm with rfl | hm
  ·rw[List.countP_cons_of_neg (by simp[hp]),List.countP_cons_of_pos hq]
   have:=hle l;omega
  ·have:=aaM h hq hp l hm
   rw[akO,akO]
   by_cases hb:p b=true
   ·rw[if_pos hb,if_pos (h b hb)];omega
   ·rw[if_neg hb];omega
theorem apm {P:Program}{o:Oper}{a:Act}{w:World}{t:Tm}{H H':Hp}{v:AV}(cq:kd P o = .late)(hA:il P (ev P.globals.size t) o H=some (v,H')) :
  ∃ ob val dr,(execOp a.eval o).run P w = .ok (.value val) { w with drawn:=dr,heap:=w.heap.push ob }/\Qu P o w.heap.size ob val:=by
 rcases adN cq with⟨ty,aU⟩ | ⟨ty,ca,cb,aU⟩ | ⟨x,y,cv,el,aU,hx,hy⟩
 ·unfold il at hA
  rw[aU] at hA
  simp only at hA
  split at hA
  ·rename_i l hl
   obtain⟨inf,z,iG,hz,_⟩:=wS (e:=⟨id,fun _=>0,id,0⟩) hl
   refine⟨.cells z.cells ty (0,0),.pointer (some ⟨w.heap.size,0,none⟩),w.drawn,?_,?_⟩
   ·unfold execOp
    rw[aU]
    simp[Instr.alloc,rr iG hz,newVar,newRow]
   ·intro t2 H2 sW v2 e dh hN
    unfold il at dh
    rw[aU] at dh
    simp only[hl,aaa,acI] at dh
    obtain⟨⟨id,H3⟩,dN,rfl,rfl⟩:=dh
    obtain⟨hlen,dm⟩:=LG dN
    obtain⟨Xj,z2,Bc,Bo,hlr⟩:=wS (e:=e) hl
    rw[iG] at Bc;cases Bc
    rw[hz] at Bo;cases Bo
    have wU:id=e.N:=(vC dm).1.trans hN.symm
    subst wU
    exact⟨_,_,dm,aad hlr hlen,.Mz (Em.mN ..) (by simp[Em.ext]) (Em.mP ..)⟩
  ·cases hA
 ·have yr:∀ (t2:Tm) (H2 sW:Hp) (v2:AV),il P (ev P.globals.size t2) o H2=some (v2,sW)->ux P ty ((jr ca).getD .cU) ((jr cb).getD .cU) H2=some (v2,sW):=by
   intro t2 H2 sW v2 h
   unfold il at h
   rw[aU] at h
   exact h
  have dq:=yr t H H' v hA
  have xo:∃ k1 n,(jr ca).getD .cU = .int k1 n:=by
   unfold ux at dq
   split at dq
   ·rename_i q _;exact⟨_,_,q⟩
   ·cases dq
  have hcb:∃ k2 m,(jr cb).getD .cU = .int k2 m:=by
   unfold ux at dq
   split at dq
   ·rename_i _ q;exact⟨_,_,q⟩
   ·cases dq
  obtain⟨k1,n,ha⟩:=xo
  obtain⟨k2,m,hb⟩:=hcb
  have vA:ca = .int k1 n:=by
   cases h:jr ca with
   | none=>rw[h] at ha;cases ha
   | some u=>rw[h] at ha;have q:u = .int k1 n:=ha;subst q;exact (VR.jr (e:=⟨id,fun _=>0,id,0⟩) h).fF
  have vB:cb = .int k2 m:=by
   cases h:jr cb with
   | none=>rw[h] at hb;cases hb
   | some u=>rw[h] at hb;have q:u = .int k2 m:=hb;subst q;exact (VR.jr (e:=⟨id,fun _=>0,id,0⟩) h).fF
  rw[ha,hb] at dq
  obtain⟨el,s,z,row,hu,hs,hz,BV,hle,hlen,iR⟩:=run_makeSlice dq w
  refine⟨.cells row.toArray el (0,0),.slice (some ⟨w.heap.size,0,none⟩) n.toNat m.toNat,w.drawn,?_,?_⟩
  ·unfold execOp
   rw[aU,vA,vB]
   have h2:(do Pure.pure (Next.value (<-Instr.makeSlice ty (.int k1 n) (.int k2 m))):Sem Next).run P w = .ok (.value (.slice (some ⟨w.heap.size,0,none⟩) n.toNat m.toNat)) { w with heap:=w.heap.push (.cells row.toArray el (0,0)) }:=by
    rw[Sem.run_bind,iR]
    rfl
   exact h2
  ·intro t2 H2 sW v2 e dh hN
   have mn:=yr t2 H2 sW v2 dh
   rw[ha,hb] at mn
   unfold ux at mn
   simp only[hu,hs] at mn
   split at mn
   ·rw[hz] at mn
    simp only[aaa,acI] at mn
    obtain⟨⟨id,H3⟩,dN,rfl,rfl⟩:=mn
    obtain⟨nF,dm⟩:=LG dN
    have wU:id=e.N:=(vC dm).1.trans hN.symm
    subst wU
    have dK:=aad (cs:=row.toArray) (b:=w.heap.size) (el:=el) (by simpa using BV e) nF
    refine⟨_,_,dm,dK,?_⟩
    have mO:(e.ext w.heap.size 0 row.toArray.size).b e.N=w.heap.size:=Em.mN ..
    have hv:=VR.slice (e:=e.ext w.heap.size 0 row.toArray.size) e.N 0 n.toNat m.toNat true s 0 m.toNat (aif e.N) (by rw[Em.mP];rfl) hle (aaH _) (fun _=>rfl) (by rw[Em.vZ];simp[hlen])
    rw[mO] at hv
    exact hv
   ·cases mn
 ·have UQ:∀ (t2:Tm) (H2 sW:Hp) (v2:AV),il P (ev P.globals.size t2) o H2=some (v2,sW)->iY P x y ((jr cv).getD .cU) H2=some (v2,sW):=by
   intro t2 H2 sW v2 h
   unfold il at h
   rw[aU] at h
   exact h
  have dq:=UQ t H H' v hA
  unfold iY at dq
  rw[hx,hy] at dq
  cases hc:(jr cv).getD .cU with
  | str s=>
   rw[hc] at dq
   simp only at dq
   have hof:jr cv=some (.str s):=by
    cases h:jr cv with
    | none=>rw[h] at hc;cases hc
    | some u=>rw[h] at hc;exact congrArg some hc
   obtain⟨s',ry,O4⟩:=(VR.jr (e:=⟨id,fun _=>0,id,0⟩) hof).lP
   split at dq
   ·rename_i nV
    refine⟨.cells (tI w el s').toArray el (mQ w el s',mQ w el s'+1),.slice (some ⟨w.heap.size,0,none⟩) s'.size (mQ w el s'),w.drawn+1,?_,?_⟩
    ·unfold execOp
     rw[aU]
     have h1:(convert x y cv).run P w=(Conv.stringToBytes el s').run P w:=by rw[O4];simp[convert,aH hx,aH hy,aH nV]
     have h2:(do Pure.pure (Next.value (<-convert x y cv)):Sem Next).run P w = .ok (.value (.slice (some ⟨w.heap.size,0,none⟩) s'.size (mQ w el s'))) { w with drawn:=w.drawn+1,heap:=w.heap.push (.cells (tI w el s').toArray el (mQ w el s',mQ w el s'+1)) }:=by
      rw[Sem.run_bind,h1,Uu]
      rfl
     exact h2
    ·intro t2 H2 sW v2 e dh hN
     have mn:=UQ t2 H2 sW v2 dh
     unfold iY at mn
     rw[hx,hy,hc] at mn
     simp only[nV] at mn
     split at mn
     ·rename_i i H3 dN
      cases mn
      obtain⟨hlen,dm⟩:=LG dN
      have wU:i=e.N:=(vC dm).1.trans hN.symm
      subst wU
      have ff:=NX w el s'
      have hle:=IW w el s'
      rw[ry] at dm dN hlen ⊢
      refine⟨_,(tI w el s').length,dm,?_,?_⟩
      ·refine .cells _ _ _ _ _ _ (mQ w el s',mQ w el s'+1) (by rw[Em.vZ];simp) ?_ (by simp) ?_ (fun _=>Em.mP ..)
       ·intro k u _ hk hg
        rw[Tr.BF .nil _ _ _ _ (by omega)] at hg
        rw[if_pos ⟨by omega,by omega⟩,agR] at hg
        obtain⟨v',bQ,hr⟩:=(abr e s').get hg
        refine⟨k,by rw[Em.mP];omega,v',?_,hr.mono (Em.oX ..)⟩
        have jF:k<(s'.data.toList.map fun b=>Value.int .u8 b.toNat).length:=(aas.1 bQ).1
        simp only[aeB,tI]
        rw[abD jF]
        exact bQ
       ·intro _ k hk
        have po:k<(tI w el s').length:=by simpa using hk
        rw[ff] at po
        simp;omega
      ·have mO:(e.ext w.heap.size 0 (tI w el s').length).b e.N=w.heap.size:=Em.mN ..
       have hv:=VR.slice (e:=e.ext w.heap.size 0 (tI w el s').length) e.N 0 s'.size s'.size false 1 0 (mQ w el s') (aif e.N) (by rw[Em.mP];rfl) hle hle (by simp) (by rw[Em.vZ,ff];omega)
       rw[mO] at hv
       rw[vO]
       exact hv
     ·cases mn
   ·cases dq
  | _=>rw[hc] at dq;first | (simp only at dq;cases dq;done) | (cases dq;done) | (simp at dq;done)
section
variable {P:Program}{cf:CF}{n:Nat}{ops:Array Oper}{B:List Nat}{t0:Tm}{H0:Hp}{TP TE:Nat->Tm}{HB HH:Nat->Hp}{V:Nat->AV}{X:Nat->Bool}
 {F:Nat->Prop} {W:World} {e0:Em} {ds:List Deferred} {S:Nat->Prop} {p:Nat} {e:Em} {a:Act} {w:World} {cg:Nat->Nat}
theorem Inv.congr {S':Nat->Prop}(I:Inv P n ops B t0 HB HH V X F W e0 ds S p e a w cg)(h:∀ j,S j↔S' j):Inv P n ops B t0 HB HH V X F W e0 ds S' p e a w cg:=by
 have:S=S':=funext fun j=>propext (h j)
 rw[<-this];exact I
theorem Inv.final (R:oY P cf n ops B t0 H0 TP TE HB HH V X)(I:Inv P n ops B t0 HB HH V X F W e0 ds S p e a w cg)(jZ:∀ j,j<ops.size->S j)(hS:∀ j,S j->j<ops.size) :
  ∃ e',e0.le e'/\RH P.globals.size F W e' (HH ops.size) w/\TR e' n (TE ops.size) a/\a.defers=ds:=by
 obtain⟨k,hk⟩:∃ k,ops.size=p+k:=⟨ops.size-p,by have:=I.pN;omega⟩
 obtain⟨e',he,hr,hv⟩:=I.JR R k (by omega) fun j o h1 h2 h3 h4=>⟨fun h5=>by
  have:=(I.db j o h3 h4 h5).1 (jZ j (by omega));omega,fun _=>jZ j (by omega)⟩
 rw[<-hk] at hr hv
 refine⟨e',Em.le_trans I.le he,?_,⟨I.zQ,fun d => ?_⟩,I.defers⟩
 ·have hw:=hr.weaken (F':=F) fun q hq => .inl hq
  exact hw.Fa (fun q hq=>⟨(hw.frame q hq).1,I.frame q hq⟩) (fun i o ho N5 hq=>(hw.obj i o ho).2.choose_spec.2.2 N5 hq) I.os I.tape I.output I.size
 ·obtain⟨v1,v2⟩:=R.ax ops.size (aaH _) d
  by_cases hex:∃ j o',j<ops.size/\ops[j]? = some o'/\o'.dst=some d
  ·obtain⟨j,o',hj,fE,eW⟩:=hex
   rw[(v1 j o' hj fE eW).2,afI]
   by_cases hp:ka P ops X S p j
   ·obtain⟨q1,q2,q3,o3,q4,q5⟩:=hp
    rw[fE] at q4;cases q4
    exact hv j o' d q2 hj fE q3 q5 eW
   ·exact (I.val j o' d fE (jZ j hj) eW hp).mono he
  ·rw[(v2 fun j o' hj fE eW=>hex ⟨j,o',hj,fE,eW⟩).2]
   exact (I.Co d fun j o' fE rC eW=>hex ⟨j,o',hS j rC,fE,eW⟩).mono he
theorem ag3 (gr:rX P cf)(R:oY P cf n ops B t0 H0 TP TE HB HH V X){Q:Exit->Act->World->Prop}
  (hQ:∀ e' a' w',e0.le e'->RH P.globals.size F W e' (HH ops.size) w'->TR e' n (TE ops.size) a'->a'.defers=ds->Q .normal a' w') :
  ∀ (fuel:Nat) (listed:Array Bool) (p:Nat) (e:Em) (a:Act) (w:World) (cg:Nat->Nat),listed.size=ops.size->
   Inv P n ops B t0 HB HH V X F W e0 ds (fun j=>listed.getD j false=true) p e a w cg->(List.range ops.size).countP (fun j => !(listed.getD j false))<=fuel->
   wpAny P .any ops Q fuel listed a w:=by
 have ju:∀ (listed:Array Bool) (j:Nat),listed.size=ops.size->(listed.getD j true=false↔j<ops.size/\¬ listed.getD j false=true):=by
  intro listed j hs
  simp only[afh]
  by_cases hj:j<listed.size
  ·rw[afn hj];simp;omega
  ·rw[Array.getElem?_eq_none (by omega)];simp;omega
 have xL:∀ (listed:Array Bool),listed.size=ops.size->∀ j,listed.getD j false=true->j<ops.size:=by
  intro listed hs j hj
  rcases akL j listed.size with q | q
  ·omega
  ·rw[afh,Array.getElem?_eq_none q] at hj;cases hj
 have finish:∀ (listed:Array Bool) (p:Nat) (e:Em) (a:Act) (w:World) (cg:Nat->Nat),listed.size=ops.size->Inv P n ops B t0 HB HH V X F W e0 ds (fun j=>listed.getD j false=true) p e a w cg->
   Region.ready .any ops listed=[]->Q .normal a w:=by
  intro listed p e a w cg hs I tM
  have jZ:∀ j,j<ops.size->listed.getD j false=true:=by
   intro j
   induction j using Nat.strongRecOn with
   | _ j ih=>
    intro hj
    by_cases hl:listed.getD j false=true
    ·exact hl
    ·exfalso
     have:j∈Region.ready .any ops listed:=by
      rw[mem_ready]
      refine⟨(ju listed j hs).2 ⟨hj,hl⟩,_,afn hj,fun e he hb => ?_⟩
      have:=R.form.back j _ (afn hj) e he hb
      exact ih e.on this (by omega)
     rw[tM] at this
     cases this
  obtain⟨e',h1,h2,h3,h4⟩:=I.final R jZ (xL listed hs)
  exact hQ e' a w h1 h2 h3 h4
 intro fuel
 induction fuel with
 | zero=>
  intro listed p e a w cg hs I hc
  have tM:Region.ready .any ops listed=[]:=by
   cases hq:Region.ready .any ops listed with
   | nil=>rfl
   | cons j l=>
    exfalso
    have hm:j∈Region.ready .any ops listed:=by rw[hq];exact List.mem_cons_self ..
    rw[mem_ready] at hm
    obtain⟨h1,h2⟩:=(ju listed j hs).1 hm.1
    have:0<(List.range ops.size).countP (fun j => !(listed.getD j false)):=List.countP_pos_iff.2 ⟨j,by simpa using h1,by simpa using h2⟩
    omega
  exact⟨tM,finish listed p e a w cg hs I tM⟩
 | succ fuel ih=>
  intro listed p e a w cg hs I hc
  refine⟨finish listed p e a w cg hs I,fun i hi => ?_⟩
  rw[mem_ready] at hi
  obtain⟨h0,o,ho,Ng⟩:=hi
  obtain⟨aI,hS⟩:=(ju listed i hs).1 h0
  have hr:∀ j,(B.getD i 0).testBit j=true->listed.getD j false=true:=by
   intro j hj
   obtain⟨ed,h1,h2,h3⟩:=R.form.bit i o ho j hj
   have h4:=Ng ed h1 h2
   rcases h3 with h3 | h3
   ·rw[h3];exact h4
   ·exact I.down ed.on j h4 h3
  have fh:∀ j,(listed.setIfInBounds i true).getD j false=true↔(listed.getD j false=true\/j=i):=by
   intro j
   by_cases hj:j=i
   ·subst hj
    simp[afh,agc (show j<listed.size by omega)]
   ·rw[getD_set_ne false (fun q=>hj q.symm)];simp[hj]
  have alX:(List.range ops.size).countP (fun j => !((listed.setIfInBounds i true).getD j false))<=fuel:=by
   have:=aaM (p:=fun j => !((listed.setIfInBounds i true).getD j false)) (q:=fun j => !(listed.getD j false)) (a:=i) (by
    intro x hx
    cases hq:listed.getD x false with
    | false=>rfl
    | true=>have:=(fh x).2 (.inl hq);rw[this] at hx;cases hx) (by
    cases hq:listed.getD i false with
    | false=>rfl
    | true=>exact absurd hq hS) (by rw[(fh i).2 (.inr rfl)];rfl) (List.range ops.size) (by simpa using aI)
   omega
  have next:∀ p' e' a' w' NM,Inv P n ops B t0 HB HH V X F W e0 ds (fun j=>listed.getD j false=true\/j=i) p' e' a' w' NM->wpAny P .any ops Q fuel (listed.setIfInBounds i true) a' w':=
   fun p' e' a' w' NM I'=>ih _ p' e' a' w' NM (by simpa using hs) (I'.congr fun j=>(fh j).symm) alX
  obtain⟨hw,aC⟩:=R.step i o ho
  have hgd:∀ d,Fo ops o=some d->VR e (((TP i).get d).getD bK) (a.tmps.getD d undef):=fun d hd=>I.read R ho hS hr (by unfold DJ;rw[hd];simp)
  have Kw:=Lc (e:=e) (a:=a) hw hgd
  have UA:∀ x∈o.op.operands.toList,VR e (ev P.globals.size (TP i) x) (a.eval x):=fun x hx=>Vm I.rh fun d hd=>I.read R ho hS hr (aa5 (hd▸hx))
  unfold wpOp
  simp only[ho]
  cases hX:X i with
  | false=>
   rw[hX] at aC Kw
   rw[Kw]
   simp only[abz,if_false]
   refine next p e _ w cg (I.quiet R ho hS hr (by rw[hX];simp) e.le_refl I.rh ?_)
   rw[aC.1];exact VR.undef
  | true=>
   rw[hX] at aC Kw
   rw[Kw]
   simp only[if_true]
   left
   have agK:∀ j oj,ops[j]? = some oj->X j=true->kd P oj = .db->p<=j->j<i->kd P o = .db->False:=by
    intro j oj h1 h2 h3 h4 h5 h6
    have:=hr j (R.d1 i o ho hX h6 j oj h1 h2 (.inl h3) h5)
    have:=(I.db j oj h1 h2 h3).1 this
    omega
   cases cq:kd P o<;>rw[cq] at aC
   · -- pure
    obtain⟨⟨h',aU⟩,_⟩:=aC
    have Kj:=acW cq aU (HB p)
    have HL:pB P cf (TP i) o (HB p)=some (V i,HB p):=by
     unfold pB
     split
     ·rename_i f args bV hq
      unfold kd at cq;rw[hq] at cq;cases cq
     ·exact Kj
    refine FJ gr I.rh HL UA ?_
    intro e' v' w' he hR hv
    exact next p e' _ w' cg (I.quiet R ho hS hr (fun _=>by rw[cq];simp) he hR hv)
   · -- read
    obtain⟨⟨h',aU⟩,_⟩:=aC
    have Az:∃ h'',il P (ev P.globals.size (TP i)) o (HB p)=some (V i,h''):=by
     by_cases sG:p<=i
     · -- the first effect from p on,ahead of i,if there is one
      by_cases hex:∃ j oj,p<=j/\j<i/\ops[j]? = some oj/\X j=true/\kd P oj = .db
      · -- take the least
       have aeD:∃ j oj,p<=j/\j<i/\ops[j]? = some oj/\X j=true/\kd P oj = .db/\∀ j' pS,p<=j'->j'<j->ops[j']? = some pS->X j'=true->kd P pS ≠ .db:=by
        obtain⟨j,hj⟩:=hex
        induction j using Nat.strongRecOn with
        | _ j ihj=>
         obtain⟨oj,h1,h2,h3,h4,h5⟩:=hj
         by_cases hm:∃ j' pS,p<=j'/\j'<j/\ops[j']? = some pS/\X j'=true/\kd P pS = .db
         ·obtain⟨j',pS,g1,g2,g3,g4,g5⟩:=hm
          exact ihj j' g2 ⟨pS,g1,by omega,g3,g4,g5⟩
         ·exact⟨j,oj,h1,h2,h3,h4,h5,fun j' pS g1 g2 g3 g4 g5=>hm ⟨j',pS,g1,g2,g3,g4,g5⟩⟩
       obtain⟨j,oj,h1,h2,h3,h4,h5,h6⟩:=aeD
       have QO:HB j=HB p:=by
        obtain⟨k,rfl⟩:∃ k,j=p+k:=⟨j-p,by omega⟩
        exact R.UW p k (by omega) fun j' pS g1 g2 g3 g4=>h6 j' pS g1 g2 g3 g4
       rcases R.d3 j oj h3 h4 h5 i o ho hX cq h2 with q | q
       ·exfalso
        have:=(I.db j oj h3 h4 h5).1 (hr j q)
        omega
       ·rw[<-QO];exact q
      ·have QO:HB i=HB p:=by
        obtain⟨k,rfl⟩:∃ k,i=p+k:=⟨i-p,by omega⟩
        exact R.UW p k (by omega) fun j' pS g1 g2 g3 g4 g5=>hex ⟨j',pS,g1,g2,g3,g4,g5⟩
       rw[<-QO];exact⟨h',aU⟩
     · -- p lies behind i: some effect behind i is done
      have hex:∃ j oj,i<j/\j<p/\ops[j]? = some oj/\X j=true/\kd P oj = .db/\HB (j+1)=HB p:=by
       rcases I.pe with q | ⟨j,oj,q1,q2,q3,q4⟩
       ·omega
       ·refine⟨j,oj,?_,by omega,q2,q3,q4,by rw[q1]⟩
        rcases akL i j with q | q
        ·exact q
        ·have:i=j:=by omega
         subst this
         rw[ho] at q2;cases q2
         rw[cq] at q4;cases q4
      obtain⟨j,oj,h1,h2,h3,h4,h5,h6⟩:=hex
      rcases R.d2 j oj h3 h4 h5 i o ho hX cq h1 with q | q
      ·exfalso
       exact hS (I.down j i ((I.db j oj h3 h4 h5).2 h2) q)
      ·rw[<-h6];exact q
    obtain⟨h'',Kj⟩:=Az
    have mJ:=VU (.inr cq) Kj
    subst mJ
    have HL:pB P cf (TP i) o (HB p)=some (V i,HB p):=by
     unfold pB
     split
     ·rename_i f args bV hq
      unfold kd at cq;rw[hq] at cq;cases cq
     ·exact Kj
    refine FJ gr I.rh HL UA ?_
    intro e' v' w' he hR hv
    exact next p e' _ w' cg (I.quiet R ho hS hr (fun _=>by rw[cq];simp) he hR hv)
   · -- a new variable
    obtain⟨hA,_⟩:=aC
    have sG:p<=i:=by
     rcases akL i p with q | q
     ·exfalso
      rcases I.pe with r | ⟨j,oj,q1,q2,q3,q4⟩
      ·omega
      ·have ng:i<j:=by
        rcases akL i j with q' | q'
        ·exact q'
        ·have:i=j:=by omega
         subst this
         rw[ho] at q2;cases q2
         rw[cq] at q4;cases q4
       have rC:=(I.db j oj q2 q3 q4).2 (by omega)
       exact hS (I.down j i rC (R.d1 j oj q2 q3 q4 i o ho hX (.inr cq) ng))
     ·exact q
    obtain⟨ob,val,dr,iR,ET⟩:=apm (a:=a) (w:=w) cq hA
    have hI:=I.late R ho hS hr hX cq sG (dr:=dr) ET
    unfold Oper.wp
    rw[iR]
    exact next p e _ _ _ hI
   · -- an effect
    obtain⟨aU,_,_,MU⟩:=aC
    have sG:p<=i:=by
     rcases akL i p with q | q
     ·exact absurd ((I.db i o ho hX cq).2 q) hS
     ·exact q
    obtain⟨k,hk⟩:∃ k,i=p+k:=⟨i-p,by omega⟩
    have Oo:∀ j oj,p<=j->j<i->ops[j]? = some oj->X j=true->kd P oj ≠ .db/\(kd P oj = .late->listed.getD j false=true):=
     fun j oj h1 h2 h3 h4=>⟨fun h5=>agK j oj h3 h4 h5 h1 h2 cq,fun h5=>hr j (R.d1 i o ho hX cq j oj h3 h4 (.inr h5) h2)⟩
    obtain⟨e1,qO,iq,lF⟩:=I.JR R k (by omega) (by rw[<-hk];exact Oo)
    rw[<-hk] at iq lF
    have an0:∀ x∈o.op.operands.toList,VR e1 (ev P.globals.size (TE i) x) (a.eval x):=by
     intro x hx
     refine Vm iq fun d hd => ?_
     subst hd
     have tM:=aa5 (ops:=ops) hx
     obtain⟨v1,v2⟩:=R.ax i (Nat.le_of_lt aI) d
     by_cases hex:∃ j o',j<i/\ops[j]? = some o'/\o'.dst=some d
     ·obtain⟨j,o',hj,fE,eW⟩:=hex
      rw[(v1 j o' hj fE eW).2,afI]
      have rC:listed.getD j false=true:=by
       have:=R.form.rd j i o' o d fE ho eW (by omega) tM
       rw[if_pos hj] at this
       exact hr j this
      by_cases hp:ka P ops X (fun j=>listed.getD j false=true) p j
      ·obtain⟨q1,q2,q3,o3,q4,q5⟩:=hp
       rw[fE] at q4;cases q4
       exact lF j o' d q2 hj fE q3 q5 eW
      ·exact (I.val j o' d fE rC eW hp).mono qO
     ·rw[(v2 fun j o' hj fE eW=>hex ⟨j,o',hj,fE,eW⟩).2]
      refine (I.Co d fun j o' fE rC eW => ?_).mono qO
      by_cases tZ:j<i
      ·exact hex ⟨j,o',tZ,fE,eW⟩
      ·by_cases xA:j=i
       ·subst xA;exact hS rC
       ·have:=R.form.rd j i o' o d fE ho eW xA tM
        rw[if_neg (by omega)] at this
        exact hS (I.down j i rC this)
    refine FJ gr iq aU an0 ?_
    intro e' v' w' he hR hv
    exact next (i+1) e' _ w' cg (I.effect R ho hS hr hX cq sG qO lF he hR hv)
end
end
section
variable {P:Program}{cf:CF}{F:Nat->Prop}{W:World}{e:Em}{H:Hp}{w:World}
theorem abg {s:jB}{H:Hp}(h:sQ P s H=true):∃ h',il P (ev P.globals.size s.t) s.o H=some (s.v,h'):=by
 unfold sQ at h
 split at h
 ·rename_i v' h' hv
  rw[ao8 h]
  exact⟨h',hv⟩
 ·cases h
theorem Za (hm:P.follows .mixedOrders=true)(gr:rX P cf){ops:Array Oper}{n id:Nat}{t t':Tm}{H':Hp}{a:Act}{Q:Exit->Act->World->Prop}(hd:zV P cf n ops t H=some (t',H'))(hR:RH P.globals.size F W e H w)(hT:TR e n t a)
  (hQ:∀ e' a' w',e.le e'->RH P.globals.size F W e' H' w'->TR e' n t' a'->a'.defers=a.defers->Q .normal a' w'):(Code.region id ops true).wp P Q a w:=by
 unfold zV at hd
 cases zU:u9 ops with
 | false=>rw[zU] at hd;cases hd
 | true=>
 rw[zU] at hd
 simp only[cond_true] at hd
 split at hd
 ·rename_i l tF HF iR
  cases Ey:Br P l with
  | false=>rw[Ey] at hd;cases hd
  | true=>
  rw[Ey] at hd
  cases hd
  have ajk:=ai3 zU
  obtain⟨TP,TE,HB,HH,V,X,q1,q2,q3,q4,q5,q6,q7⟩:=ai1 (B:=before ops.toList []) ops.toList (before ops.toList []) 0 t t H H l (by simp) (by simp) iR
  rw[ad6,ai5] at q5 q6
  unfold Br at Ey
  rw[adY] at Ey
  have pair:∀ i oi,ops[i]? = some oi->X i=true->kd P oi = .db->∀ j oj,ops[j]? = some oj->X j=true->
    ((kd P oj = .db\/kd P oj = .late)->(!(Nat.blt j i)||((before ops.toList []).getD i 0).testBit j)=true)/\
    (kd P oj = .read->(bif Nat.blt j i then ((before ops.toList []).getD i 0).testBit j||sQ P ⟨j,oj,(before ops.toList []).getD j 0,X j,kk P (X j) oj,V j,TP j,HB j,HB (j+1)⟩ (HB (i+1)) else
     ((before ops.toList []).getD j 0).testBit i||sQ P ⟨j,oj,(before ops.toList []).getD j 0,X j,kk P (X j) oj,V j,TP j,HB j,HB (j+1)⟩ (HB i))=true):=by
   intro i oi hi hx hk j oj hj tT
   have h1:=Ey _ (q7 i oi (ac4 _) hi).2
   simp only[kk,hx,if_true,hk,adY] at h1
   have h2:=h1 _ (q7 j oj (ac4 _) hj).2
   simp only[kk,tT,if_true] at h2 ⊢
   constructor
   ·intro qQ
    rcases qQ with qQ | qQ<;>(rw[qQ] at h2;exact h2)
   ·intro qQ
    rw[qQ] at h2 ⊢
    exact h2
  have adf:oY P cf n ops (before ops.toList []) t H TP TE HB HH V X:=by
   refine⟨ajk,q1,q2,q3,q4,fun j o ho=>(q7 j o (ac4 _) ho).1,?_,?_,?_⟩
   ·intro i oi hi hx hk j oj hj tT qQ aI
    have:=(pair i oi hi hx hk j oj hj tT).1 qQ
    have hb:Nat.blt j i=true:=by rw[ad5];exact aI
    rw[hb] at this
    simpa using this
   ·intro i oi hi hx hk j oj hj tT qQ aI
    have:=(pair i oi hi hx hk j oj hj tT).2 qQ
    have hb:Nat.blt j i=true:=by rw[ad5];exact aI
    rw[hb] at this
    simp only[cond_true,ag6] at this
    exact this.imp (fun q=>q) abg
   ·intro i oi hi hx hk j oj hj tT qQ aI
    have:=(pair i oi hi hx hk j oj hj tT).2 qQ
    have hb:Nat.blt j i=false:=by
     cases hb:Nat.blt j i
     ·rfl
     ·rw[ad5] at hb;omega
    rw[hb] at this
    simp only[cond_false,ag6] at this
    exact this.imp (fun q=>q) abg
  refine wp_region_any hm ?_
  have C7:∀ j,(Array.replicate ops.size false).getD j false=true->False:=by
   intro j hj
   rw[afh,Array.getElem?_replicate] at hj
   split at hj<;>simp at hj
  have oh:=(hR.drawn (w.drawn+1))
  refine ag3 (F:=F) (W:=W) (e0:=e) (ds:=a.defers) gr adf (by rw[q5,q6];exact hQ) ops.size (Array.replicate ops.size false) 0 e a { w with drawn:=w.drawn+1 } (fun _=>0) (by simp) ?_ (by
   have:=List.countP_le_length (p:=fun j => !((Array.replicate ops.size false).getD j false)) (l:=List.range ops.size)
   simpa using this)
  refine⟨ac4 _,by rw[q3,q4],.inl rfl,fun i j h=>(C7 i h).elim,fun i o _ _ _=>⟨fun h=>(C7 i h).elim,fun h=>by omega⟩,?_,fun k hk=>(oh.frame k hk).2,hR.os,hR.tape,hR.output,hR.size,
   fun j hj=>(C7 j hj.1).elim,fun i j hi=>(C7 i hi.1).elim,fun j o d _ h=>(C7 j h).elim,fun d _=>hT.val d,hT.size,e.le_refl,rfl⟩
  rw[q3]
  refine (oh.weaken fun k hk => ?_).KJ
  rcases hk with hk | ⟨j,hj,_⟩
  ·exact hk
  ·exact (C7 j hj.1).elim
 ·cases hd
def xm (P:Program)(c:Code)(Q:Exit->Act->World->Prop)(a:Act)(w:World):Prop:=
 ∀ (b:Frame) (k:List Item) (cs:List Frame),∃ e a' w',Q e a' w'/\Arrives P (lone (b.at a (.code c :: .inLoop c::k)) cs w) b k cs e a' w'
theorem Nb {c:Code}{Q:Exit->Act->World->Prop}{a:Act}{w:World}(h:xm P c Q a w):(Code.loop c).wp P Q a w:=
 fun b k cs=>let ⟨e,a',w',q,r⟩:=h b k cs;⟨e,a',w',q,.of_steps (.one step_loop) r⟩
theorem QE {c:Code}{Q:Exit->Act->World->Prop}{a:Act}{w:World}(h:c.wp P (Exit.then (xm P c Q) Q) a w):xm P c Q a w:=by
 intro b k cs
 obtain⟨e,a₁,w₁,hq,Ds⟩:=h b (.inLoop c::k) cs
 cases e with
 | normal=>
  obtain⟨e₂,a₂,w₂,hq₂,alf⟩:=hq b k cs
  exact⟨e₂,a₂,w₂,hq₂,.of_steps (Steps.trans Ds (.one step_inLoop)) alf⟩
 | exit id=>exact⟨_,a₁,w₁,hq,.pass (x := .inLoop c) rfl (fun _ _ => .inl (by simp)) Ds⟩
 | goto l=>exact⟨_,a₁,w₁,hq,.pass (x := .inLoop c) rfl (fun _ _ => .inl (by simp)) Ds⟩
 | ret=>exact⟨_,a₁,w₁,hq,.pass (x := .inLoop c) rfl (fun _ _ => .inl (by simp)) Ds⟩
 | panic ch=>exact⟨_,a₁,w₁,hq,.pass (x := .inLoop c) rfl (fun _ _ => .inl (by simp)) Ds⟩
 | outgrown=>exact⟨_,a₁,w₁,hq,.pass (x := .inLoop c) rfl (fun _ _ => .inl (by simp)) Ds⟩
def xit:X->Exit
 | .normal => .normal
 | .exit i => .exit i
 | .ret => .ret
def COK (P:Program)(run:Nat->Code->Tm->Hp->Option (X × Tm × Hp)):Prop:=
 ∀ (n:Nat) (c:Code) (t:Tm) (H:Hp) (x:X) (t':Tm) (H':Hp),run n c t H=some (x,t',H')->
  ∀ (F:Nat->Prop) (W:World) (e:Em) (a:Act) (w:World) (Q:Exit->Act->World->Prop),RH P.globals.size F W e H w->TR e n t a->
   (∀ e' a' w',e.le e'->RH P.globals.size F W e' H' w'->TR e' n t' a'->a'.defers=a.defers->Q (xit x) a' w')->
   c.wp P Q a w/\∀ b,c = .loop b->xm P b Q a w
theorem aj0 (h:RH P.globals.size F W e H w){t:TypeId}{a v:AV}{a':Value}(ha:VR e a a')(hl:rL P H t a=some v) :
  ∃ ad v',a' = .pointer (some ad)/\(loadVar t ad).run P w = .ok v' w/\VR e v v':=by
 obtain⟨v',h1,h2⟩:=XO h ha hl
 unfold rL at hl
 split at hl
 ·obtain⟨o,hi,ho,rfl⟩:=ha.qd
  refine⟨_,v',rfl,?_,h2⟩
  simpa[Instr.loadAt,Instr.sureAddr] using h1
 ·cases hl
theorem Rg (h:RH P.globals.size F W e H w){n:Nat}{t:Tm}{a:Act}(ht:TR e n t a):∀ (l:List ResultVar) (vs:List AV),sH P t H l=some vs->
  ∃ ws,(l.mapM (fun (r:ResultVar)=>match r with | .tmp t=>(Pure.pure (a.tmps.getD t undef):Sem Value) | .cell ad ty=>do loadVar ty (<-asAddr (a.tmps.getD ad undef)))).run P w = .ok ws w/\aQ e vs ws
 | [],vs,hr=>by cases hr;exact⟨[],by simp,.nil e⟩
 | .tmp x::l,vs,hr=>by
  unfold sH at hr
  split at hr
  ·rename_i l' qA
   cases hr
   obtain⟨ws,h1,h2⟩:=Rg h ht l l' qA
   exact⟨a.tmps.getD x undef::ws,by rw[List.mapM_cons,Sem.run_bind,Sem.run_pure,Result.andThen_ok,Sem.run_bind,h1];rfl,.cons (ht.val x) h2⟩
  ·cases hr
 | .cell ad ty::l,vs,hr=>by
  unfold sH at hr
  split at hr
  ·rename_i v l' hv qA
   cases hr
   obtain⟨ws,h1,h2⟩:=Rg h ht l l' qA
   obtain⟨p,v',h3,h4,h5⟩:=aj0 h (ht.val ad) hv
   refine⟨v'::ws,?_,.cons h5 h2⟩
   rw[List.mapM_cons,Sem.run_bind]
   have:(do loadVar ty (<-asAddr (a.tmps.getD ad undef)):Sem Value).run P w = .ok v' w:=by
    rw[h3];simp[asAddr,h4]
   rw[this,Result.andThen_ok,Sem.run_bind,h1]
   rfl
  ·cases hr
theorem PB (h:RH P.globals.size F W e H w){n:Nat}{t:Tm}{a:Act}(ht:TR e n t a){fn:Func}{vs:List AV}(hr:sH P t H fn.results.toList=some vs) :
  ∃ v,(results fn a.tmps).run P w = .ok v w/\VR e (JH vs) v:=by
 obtain⟨ws,h1,h2⟩:=Rg h ht _ _ hr
 have hm:(fn.results.mapM (fun (r:ResultVar)=>match r with | .tmp t=>(Pure.pure (a.tmps.getD t undef):Sem Value) | .cell ad ty=>do loadVar ty (<-asAddr (a.tmps.getD ad undef)))).run P w = .ok ws.toArray w:=by
  rw[<-Array.toArray_toList (xs:=fn.results),List.mapM_toArray,Sem.run_map,h1];rfl
 unfold results
 have lN:(fn.results.mapM fun
  | .tmp t=>Pure.pure (a.tmps.getD t undef)
  | .cell ad t=>do loadVar t (<-asAddr (a.tmps.getD ad undef)):Sem (Array Value)).run P w = .ok ws.toArray w:=hm
 refine⟨(if h:ws.toArray.size=1 then ws.toArray[0] else .tuple ws.toArray),?_,?_⟩
 ·rw[Sem.run_bind]
  exact aaw (congrArg (fun r:Result (Array Value)=>r.andThen (fun vs w'=>(Pure.pure (if h:vs.size=1 then vs[0] else .tuple vs):Sem Value).run P w')) lN) rfl
 ·cases vs with
  | nil=>rw[h2.jP];exact .tuple' (.nil e)
  | cons v r=>
   obtain⟨v',ws',rfl,hv,eH⟩:=h2.cons_inv
   cases r with
   | nil=>rw[eH.jP];exact hv
   | cons v2 r2=>
    obtain⟨DC,ws2,rfl,vb,nM⟩:=eH.cons_inv
    have:¬ (v'::DC::ws2).toArray.size=1:=by simp
    rw[dif_neg this]
    exact .tuple' h2
def Il:Ext->Array Value->Sem Value
 | .same=>Extern.AbiNoEscape.same
 | .Fq t=>Extern.BytealgMakeNoZero.makeNoZero #[] #[t]
 | .La=>Extern.BytealgIndexByte.indexByte
 | .count=>Extern.BytealgCount.count
def vi (P:Program)(ext:Nat->Option Ext):Prop:=
 ∀ aY k,ext aY=some k->∀ (aS:Array Value) (w:World),(callFunc aY aS).run P w=(do Pure.pure (Next.value (<-Il k aS)):Sem Next).run P w
def tD (P:Program)(aR:Nat->Option Prim):Prop:=
 ∀ aY p,aR aY=some p->∀ (args:List AV) (H:Hp) (v:AV) (H':Hp),p args H=some (v,H')->
  ∀ (F:Nat->Prop) (W:World) (e:Em) (w:World) (aS:Array Value),RH P.globals.size F W e H w->aQ e args aS.toList->
   (callFunc aY aS).run P w = .ok (.enter aY aS) w/\Calls P aY aS w (Bv P.globals.size F W e v H')
def nX (P : Program) : Prop := (P.funcs.toList.all fun fn => fn.body.isNone||fn.name != "runtime.NumGoroutine") = true
theorem vp (hN:nX P){aY:Nat}{fn:Func}{b:Code}(hf:P.funcs[aY]? = some fn)(hb:fn.body=some b)(aS:Array Value)(w:World):(callFunc aY aS).run P w = .ok (.enter aY aS) w:=by
 have hn : (fn.name == "runtime.NumGoroutine") = false := by
  unfold nX at hN
  rw[adY] at hN
  have:=hN fn (by have:=Array.mem_of_getElem? hf;simpa using this)
  rw[hb] at this
  simp at this
  simp[this]
 unfold callFunc
 rw[Sem.run_bind,run_program,Result.andThen_ok]
 simp only[hf,hn,abz,if_false,hb,Option.isNone_some]
 rfl
theorem abh:∀ (n t:Nat) (acc:Array Value),(Extern.BytealgMakeNoZero.digits n t acc).size=acc.size+n
 | 0,t,acc=>rfl
 | n+1,t,acc=>by rw[Extern.BytealgMakeNoZero.digits,abh n];simp;omega
theorem Zy (c:UInt8):∀ (l:List UInt8) (k:Nat) (q:Nat->Bool),(∀ (j:Nat) (h:j<l.length),q (k+j)=(l[j]==c))->(List.range' k l.length).find? q=jD c.toNat (l.map (·.toNat)) k
 | [],k,q,_=>rfl
 | b::l,k,q,h=>by
  have h0:=h 0 (by simp)
  simp only[aem,List.getElem_cons_zero] at h0
  have e:(b==c)=Nat.beq b.toNat c.toNat:=by
   rw[Bool.eq_iff_iff,Nat.beq_eq]
   simp[UInt8.toNat_inj]
  rw[aaN,akt,List.find?_cons,h0,adK,jD,e]
  cases Nat.beq b.toNat c.toNat with
  | true=>rfl
  | false=>
   simp only[cond_false]
   refine Zy c l (k+1) q (fun j hj => ?_)
   have:=h (j+1) (by simp;omega)
   rw[show k+1+j=k+(j+1) by omega,this,List.getElem_cons_succ]
theorem aaf (c:UInt8):∀ l:List UInt8,Lib.countByte l c=gg c.toNat (l.map (·.toNat))
 | []=>rfl
 | b::l=>by
  have e:(b==c)=Nat.beq b.toNat c.toNat:=by
   rw[Bool.eq_iff_iff,Nat.beq_eq]
   simp[UInt8.toNat_inj]
  have ih:=aaf c l
  unfold Lib.countByte at ih ⊢
  rw[List.count_cons,adK,gg,e,ih]
  cases Nat.beq b.toNat c.toNat<;>rfl
theorem firstIdx_eq (s:ByteArray)(c:UInt8):firstIdx s c=(match jD c.toNat (bytes s) 0 with | some i=>(i:Int) | none => -1):=by
 have hs:s.size=s.data.toList.length:=(ai5).symm
 have h:=Zy c s.data.toList 0 (fun i=>s[i]! == c) (fun j hj=>by
  have iQ:j<s.size:=by rw[hs];exact hj
  simp only[ad6]
  rw[getElem!_pos s j iQ]
  have e:s[j]=s.data.toList[j]:=by rw[Array.getElem_toList];rfl
  rw[e])
 unfold firstIdx
 rw[List.range_eq_range',hs,h]
 rfl
theorem aax (h:RH P.globals.size F W e H w){k:Ext}{args:List AV}{aS:Array Value}{v:AV}{H':Hp}(ha:aQ e args aS.toList)(hx:BJ P k args H=some (v,H')) :
  ∃ v' w' e',(Il k aS).run P w = .ok v' w'/\e.le e'/\RH P.globals.size F W e' H' w'/\VR e' v v':=by
 unfold BJ at hx
 split at hx
 ·cases hx
  obtain⟨x',r,h1,h2,h3⟩:=ha.cons_inv
  rw[h3.jP] at h1
  obtain rfl:aS = #[x']:=adZ.1 h1
  exact⟨x',w,e,rfl,e.le_refl,h,h2⟩
 ·rename_i t n
  obtain⟨x',r,h1,h2,h3⟩:=ha.cons_inv
  rw[h3.jP] at h1
  obtain rfl:aS = #[x']:=adZ.1 h1
  cases h2.fF
  split at hx
  ·rename_i el hu
   split at hx
   ·rename_i hn
    simp only[aaa,acI] at hx
    obtain⟨⟨i,H2⟩,dN,rfl,rfl⟩:=hx
    let w1:World:={ w with drawn:=w.drawn+1 }
    let cap:=(Question.appendCap n.toNat 0 el).cut (w.tape w.drawn (.appendCap n.toNat 0 el))
    have hJ:n.toNat<=cap:=Nat.le_add_right _ _
    let bs := (Question.extern "internal/bytealg.MakeNoZero.bytes" 0).cut (w1.tape w1.drawn (.extern "internal/bytealg.MakeNoZero.bytes" 0))
    let row:=(Extern.BytealgMakeNoZero.digits cap bs #[])
    have BV:row.size=cap:=by rw[abh];simp
    have hl:aQ e (List.replicate n.toNat AV.cU) (row.toList.take n.toNat):=by
     refine⟨by simp[BV];omega,fun j a b hj hb => ?_⟩
     rw[ajQ] at hj
     split at hj
     ·cases hj;exact .cU _
     ·cases hj
    obtain⟨e',he,g1,g2,g3,g4,ot⟩:=((h.drawn (w.drawn+1)).drawn (w.drawn+1+1)).newRow (rest:=row.toList.drop n.toNat) (fz:=(0,0)) dN hl (fun _=>rfl) (by simp)
    have aka:(row.toList.take n.toNat++row.toList.drop n.toNat).toArray=row:=by rw[ah8]
    have hlen:(row.toList.take n.toNat++row.toList.drop n.toNat).length=cap:=by rw[ah8];simp[BV]
    refine⟨.slice (some ⟨w.heap.size,0,none⟩) n.toNat cap,_,e',?_,he,ot,VR.Bn g2 g1 (by rw[g3];simp) hJ hJ (by simp) (by rw[g4,hlen];omega)⟩
    rw[aka]
    have Zv:¬ (n<0\/n>2 ^ 48):=by omega
    have aeq:(decide (n<0)||decide (n>2 ^ 48))=false:=by simp;omega
    have f1:(Question.appendCap n.toNat 0 el).forced=false:=rfl
    have f2 : (Question.extern "internal/bytealg.MakeNoZero.bytes" 0).forced = false := rfl
    have zL:Il (.Fq t) #[.int .i64 n]=(do
      let some t := (#[t] : Array TypeId)[0]? | stuck "bytealg.MakeNoZero: no result type"
      let .slice elem <-underlying t | stuck "bytealg.MakeNoZero: slice type expected"
      if n<0||n>2 ^ 48 then runtimePanic (.error "makeslice: len out of range")
      let cap <-choose (.appendCap n.toNat 0 elem)
      askRoom cap
      let bytes <-choose (.extern "internal/bytealg.MakeNoZero.bytes" 0)
      let a <-newRow elem (Extern.BytealgMakeNoZero.digits cap bytes #[])
      Pure.pure (.slice (some a) n.toNat cap):Sem Value):=rfl
    rw[zL]
    simp only[aeB,adR,Sem.run_bind,aH hu,Result.andThen_ok,aeq,abz,if_false,run_choose,f1,f2,run_askRoom,newRow,run_newObj,Sem.run_pure]
    rfl
   ·cases hx
  ·cases hx
 ·rename_i s n
  cases hx
  obtain⟨x',r,h1,h2,h3⟩:=ha.cons_inv
  obtain⟨y',r2,h4,h5,h6⟩:=h3.cons_inv
  rw[h4,h6.jP] at h1
  obtain rfl:aS = #[x',y']:=adZ.1 h1
  cases h5.fF
  obtain⟨s',rfl,rfl⟩:=h2.lP
  refine⟨_,w,e,run_indexByte_string s' n w,e.le_refl,h,?_⟩
  rw[firstIdx_eq]
  have:(n.toNat.toUInt8).toNat=n.toNat % 256:=by simp
  rw[this]
  exact .int .i64 _
 ·rename_i s n
  cases hx
  obtain⟨x',r,h1,h2,h3⟩:=ha.cons_inv
  obtain⟨y',r2,h4,h5,h6⟩:=h3.cons_inv
  rw[h4,h6.jP] at h1
  obtain rfl:aS = #[x',y']:=adZ.1 h1
  cases h5.fF
  obtain⟨s',rfl,rfl⟩:=h2.lP
  refine⟨_,w,e,Lib.run_countString s' n w,e.le_refl,h,?_⟩
  have:(n.toNat.toUInt8).toNat=n.toNat % 256:=by simp
  rw[aaf,this]
  exact .int .i64 _
 ·cases hx
theorem YI {ext:Nat->Option Ext}{aR:Nat->Option Prim}(hN:nX P)(hE:vi P ext)(hP:tD P aR){run:Nat->Code->Tm->Hp->Option (X × Tm × Hp)}(iR:COK P run) :
  rX P (Cj P ext aR run):=by
 intro g args H v H' hc
 unfold Cj at hc
 split at hc
 ·rename_i aY first cap
  refine⟨aY,first,cap,rfl,?_⟩
  intro F W e w aS hR kV
  split at hc
  ·rename_i p hp
   exact .inr (hP aY p hp _ H v H' hc F W e w aS hR kV)
  ·split at hc
   ·rename_i fn hf
    split at hc
    ·rename_i b hb
     cases hle:(Nat.ble (first++args++cap).length fn.ntmps&&Nat.blt fn.ntmps 4294967296) with
     | false=>rw[hle] at hc;cases hc
     | true=>
     rw[hle] at hc
     simp only[cond_true] at hc
     rw[aaG,aez,ad5] at hle
     refine .inr ⟨vp hN hf hb aS w,?_⟩
     have hlen:aS.size=(first++args++cap).length:=by have:=kV.1;simpa using this
     have hT:TR e fn.ntmps (Tr.bZ .nil 0 (first++args++cap)) { tmps:=aS++Array.replicate (fn.ntmps-aS.size) undef,defers:=[] }:=by
      refine⟨by simp;omega,fun x => ?_⟩
      rw[Tr.BF .nil _ _ _ _ (by omega)]
      simp only[ad6,ac4,true_and,agR]
      by_cases hx:x<(first++args++cap).length
      ·rw[if_pos hx]
       have h1:(first++args++cap)[x]? = some (first++args++cap)[x]:=aau hx
       obtain⟨v',h2,h3⟩:=kV.get h1
       rw[h1,afI,afh,Array.getElem?_append_left (by omega),<-aeg,h2]
       exact h3
      ·rw[if_neg hx]
       have:(aS++Array.replicate (fn.ntmps-aS.size) undef).getD x undef=undef:=by
        rw[afh,Array.getElem?_append_right (by omega),Array.getElem?_replicate]
        split<;>rfl
       simp only[this,Tr.get_nil]
       exact VR.undef
     have fin:∀ (x:X) (t2:Tm) (H2:Hp),run fn.ntmps b (Tr.bZ .nil 0 (first++args++cap)) H=some (x,t2,H2)->(x = .normal\/x = .ret)->(sH P t2 H2 fn.results.toList).map (fun l=>(JH l,H2))=some (v,H')->
       Calls P aY aS w (Bv P.globals.size F W e v H'):=by
      intro x t2 H2 hr iE AI
      simp only[aaa,acI] at AI
      obtain⟨vs,rD,rfl,rfl⟩:=AI
      refine calls_of_wp hf hb (iR _ _ _ _ _ _ _ hr F W e _ w _ hR hT ?_).1
      intro e' a' w' he bA cz hd
      obtain⟨u,hu,ij⟩:=PB bA cz rD
      rcases iE with rfl | rfl
      ·exact⟨hd,u,hu,e',u,rfl,he,bA,ij⟩
      ·exact⟨hd,u,hu,e',u,rfl,he,bA,ij⟩
     split at hc
     ·cases hc
     ·rename_i x t2 H2 aO hr
      cases x with
      | normal=>exact fin _ t2 H2 hr (.inl rfl) hc
      | ret=>exact fin _ t2 H2 hr (.inr rfl) hc
      | exit i=>exact (aO i rfl).elim
     ·cases hc
    ·rename_i hb
     split at hc
     ·rename_i k hk
      obtain⟨v',w',e',h1,h2,h3,h4⟩:=aax hR kV hc
      refine .inl ⟨v',w',e',?_,h2,h3,h4⟩
      rw[hE aY k hk,Sem.run_bind,h1]
      rfl
     ·cases hc
   ·cases hc
 ·cases hc
theorem afa {ext:Nat->Option Ext}{aR:Nat->Option Prim}(hm:P.follows .mixedOrders=true)(hN:nX P)(hE:vi P ext)(hP:tD P aR):∀ f,COK P (code P ext aR f):=by
 intro f
 induction f with
 | zero=>intro n c t H x t' H' h;cases h
 | succ f ih=>
  have gr:rX P (Cj P ext aR (code P ext aR f)):=YI hN hE hP ih
  intro n c t H x t' H' hc F W e a w Q hR hT hQ
  unfold code at hc
  split at hc
  ·cases hc
   exact⟨wp_skip (hQ e a w e.le_refl hR hT rfl),by intro b q;cases q⟩
  ·cases hc
   exact⟨wp_label (hQ e a w e.le_refl hR hT rfl),by intro b q;cases q⟩
  ·rename_i c1 c2
   refine⟨wp_seq ?_,by intro b q;cases q⟩
   split at hc
   ·rename_i t1 H1 h1
    refine (ih _ _ _ _ _ _ _ h1 F W e a w _ hR hT ?_).1
    intro e' a' w' he bA cz hd
    refine (ih _ _ _ _ _ _ _ hc F W e' a' w' _ bA cz ?_).1
    intro e2 a2 w2 zX gN mX pG
    exact hQ e2 a2 w2 (Em.le_trans he zX) gN mX (pG.trans hd)
   ·rename_i aO
    refine (ih _ _ _ _ _ _ _ hc F W e a w _ hR hT ?_).1
    intro e' a' w' he bA cz hd
    have:=hQ e' a' w' he bA cz hd
    cases x with
    | normal=>exact absurd hc (aO t' H')
    | exit i=>exact this
    | ret=>exact this
  ·rename_i cc c1 c2
   split at hc
   ·rename_i b hb
    have hv:=VR.ev hR hT cc
    rw[hb] at hv
    have bQ:=hv.rQ
    refine⟨wp_cond bQ ?_,by intro b q;cases q⟩
    cases b with
    | true=>exact (ih _ _ _ _ _ _ _ hc F W e a w Q hR hT hQ).1
    | false=>exact (ih _ _ _ _ _ _ _ hc F W e a w Q hR hT hQ).1
   ·cases hc
  ·rename_i i b
   refine⟨wp_block ?_,by intro b q;cases q⟩
   split at hc
   ·rename_i j t1 H1 h1
    refine (ih _ _ _ _ _ _ _ h1 F W e a w _ hR hT ?_).1
    intro e' a' w' he bA cz hd
    show Exit.inBlock i Q (.exit j) a' w'
    cases hj:Nat.beq j i with
    | true=>
     rw[hj] at hc
     cases hc
     simp only[Exit.inBlock,aa9 hj,if_true]
     exact hQ e' a' w' he bA cz hd
    | false=>
     rw[hj] at hc
     cases hc
     have aO:¬ j=i:=fun q=>by rw[q,ahj] at hj;cases hj
     simp only[Exit.inBlock,if_neg aO]
     exact hQ e' a' w' he bA cz hd
   ·rename_i aO
    refine (ih _ _ _ _ _ _ _ hc F W e a w _ hR hT ?_).1
    intro e' a' w' he bA cz hd
    have:=hQ e' a' w' he bA cz hd
    cases x with
    | normal=>exact this
    | exit j=>exact absurd hc (aO j t' H')
    | ret=>exact this
  ·rename_i b
   have hl:xm P b Q a w:=by
    refine QE ?_
    split at hc
    ·rename_i t1 H1 h1
     refine (ih _ _ _ _ _ _ _ h1 F W e a w _ hR hT ?_).1
     intro e' a' w' he bA cz hd
     show Exit.then (xm P b Q) Q .normal a' w'
     refine (ih _ _ _ _ _ _ _ hc F W e' a' w' Q bA cz ?_).2 b rfl
     intro e2 a2 w2 zX gN mX pG
     exact hQ e2 a2 w2 (Em.le_trans he zX) gN mX (pG.trans hd)
    ·rename_i aO
     refine (ih _ _ _ _ _ _ _ hc F W e a w _ hR hT ?_).1
     intro e' a' w' he bA cz hd
     have:=hQ e' a' w' he bA cz hd
     cases x with
     | normal=>exact absurd hc (aO t' H')
     | exit i=>exact this
     | ret=>exact this
   exact⟨Nb hl,by intro b' q;cases q;exact hl⟩
  ·cases hc
   exact⟨wp_exit (hQ e a w e.le_refl hR hT rfl),by intro b q;cases q⟩
  ·cases hc
   exact⟨wp_ret (hQ e a w e.le_refl hR hT rfl),by intro b q;cases q⟩
  ·rename_i id ops d
   refine⟨?_,by intro b q;cases q⟩
   split at hc
   ·rename_i t1 H1 h1
    cases hc
    cases d with
    | true=>exact Za hm gr h1 hR hT hQ
    | false=>
     refine wp_region ?_
     have:=Yh (Q:=Q) gr ops.toList 0 t H e a w (by simp) h1 hR hT hQ
     rw[List.range_eq_range']
     simpa using this
   ·cases hc
  ·cases hc
theorem adB {ext:Nat->Option Ext}{aR:Nat->Option Prim}(hm:P.follows .mixedOrders=true)(hN:nX P)(hE:vi P ext)(hP:tD P aR){fuel g:Nat}{args:List AV}{v:AV}{H':Hp}
  (h:JO P ext aR fuel g args H=some (v,H')) {fn:Func} {b:Code} (hf:P.funcs[g]? = some fn) (hb:fn.body=some b) {aS:Array Value} (hR:RH P.globals.size F W e H w) (ha:aQ e args aS.toList) :
  Calls P g aS w (Bv P.globals.size F W e v H'):=by
 obtain⟨aY,first,cap,hg,hs⟩:=YI hN hE hP (afa hm hN hE hP fuel) _ _ _ _ _ h
 cases hg
 rcases hs F W e w aS hR (by simpa using ha) with⟨v',w',e',h1,_⟩ | ⟨_,h2⟩
 ·rw[vp hN hf hb] at h1
  cases h1
 ·exact h2
end
end Go.Proofs.YtodfajmihkagnaaGreatDoor.Am
