/- Regions that draw an order, and whole functions: a run of the evaluator is a run of the model (of no program). -/
import Derived.Test.YtodfajmihkagnaaGreatDoorAm4
set_option linter.unusedVariables false
set_option linter.unusedSimpArgs false
namespace Go.Proofs.YtodfajmihkagnaaGreatDoor.Am
theorem XQ {n:Nat} {dst:Option Tmp} {v:AV} {t t':Tm} (h:gG n dst v t=some t') (d:Tmp):t'.get d=if dst=some d then some v else t.get d:=by
 unfold gG at h
 split at h
 ·cases h;simp
 ·rename_i x
  cases hb:(Nat.blt x n&&Nat.blt x 4294967296) with
  | false=>rw[hb] at h;cases h
  | true=>
   rw[hb] at h
   cases h
   simp only[aa9,adq] at hb
   rw[Tr.FJ _ _ _ _ _ (by omega)]
   by_cases hx:d=x
   ·subst hx;simp
   ·rw[if_neg hx,if_neg (fun q=>hx (acy q).symm)]
theorem ajF {n:Nat} {dst:Option Tmp} {v:AV} {t t':Tm} (h:gG n dst v t=some t') {d:Tmp} (hd:dst=some d):d<n:=by
 subst hd
 unfold gG at h
 simp only at h
 cases hb:(Nat.blt d n&&Nat.blt d 4294967296) with
 | false=>rw[hb] at h;cases h
 | true=>simp only[aa9,adq] at hb;exact hb.1
theorem RH.weaken {G:Nat} {F F':Nat->Prop} {W:World} {e:Em} {H:Hp} {w:World} (h:RH G F W e H w) (hF:∀ k,F' k->F k):RH G F' W e H w:=
 h.DU (fun k hk=>h.frame k (hF k hk)) (fun i o ho hw hk=>(h.obj i o ho).2.choose_spec.2.2 hw (hF _ hk)) h.os h.tape h.output h.size
theorem RH.IK {G:Nat} {F:Nat->Prop} {W:World} {e:Em} {H:Hp} {w:World} (h:RH G F W e H w):RH G F w e H w:=
 h.DU (fun k hk=>⟨(h.frame k hk).1,rfl⟩) (fun i o ho hw hk=>(h.obj i o ho).2.choose_spec.2.2 hw hk) rfl rfl rfl (abe _)
theorem RH.Jp {G:Nat} {F F':Nat->Prop} {W:World} {e:Em} {H:Hp} {w:World} (h:RH G F W e H w) {o:AO} {i:Nat} {H':Hp} (ha:Am.alloc H o=some (i,H')) {b n:Nat} {ob:Obj}
  (hb:w.heap[b]? = some ob) (IE:∀ j oj,H.h.get j=some oj->e.b j≠b) (eg:OR (e.ext b 0 n) i o ob) (hF:∀ k,F' k->F k/\k≠b):i=e.N/\RH G F' W (e.ext b 0 n) H' w:=by
 obtain⟨rfl,aQ,rfl⟩:=wA ha
 have hN:=h.N
 have eG:∀ j,(H.h.put 34 H.next o).get j=if j=H.next then some o else H.h.get j:=fun j=>Tr.fj _ _ _ _
 have hle:=Em.o9 e b 0 n
 have fu:∀ j oj,H.h.get j=some oj->(e.ext b 0 n).b j=e.b j:=fun j oj hj=>(hle.2 j (h.obj j oj hj).1).1
 refine⟨hN.symm,?_,?_,?_,?_,?_,h.os,h.tape,h.output,h.size,by obtain⟨g1,g2,g3⟩:=h.kE;rw[(hle.2 G g2).2.2];simp[Em.ext];omega⟩
 ·simp[Em.ext,hN]
 ·intro j oj hj
  simp only at hj
  rw[eG] at hj
  by_cases ej:j=H.next
  ·subst ej
   rw[if_pos rfl] at hj
   cases hj
   refine⟨by simp[Em.ext,hN],ob,?_,eg,?_⟩
   ·rw[<-hN,Em.mQ];exact hb
   ·intro _ hk
    rw[<-hN,Em.mQ] at hk
    exact (hF _ hk).2 rfl
  ·rw[if_neg ej] at hj
   obtain⟨a,o8,b2,c2,d2⟩:=h.obj j oj hj
   refine⟨by simp[Em.ext];omega,o8,?_,c2.mono hle a,?_⟩
   ·rw[fu j oj hj];exact b2
   ·intro hw hk;rw[fu j oj hj,(hle.2 G h.kE.2.1).2.2] at hw;rw[fu j oj hj] at hk;exact d2 hw (hF _ hk).1
 ·intro j k oj ok hj hk hq he
  simp only at hj hk
  rw[eG] at hj hk
  by_cases ej:j=H.next<;>by_cases ek:k=H.next
  ·omega
  ·rw[if_neg ek] at hk
   rw[fu k ok hk,ej,<-hN,Em.mQ] at he
   exact absurd he.symm (IE k ok hk)
  ·rw[if_neg ej] at hj
   rw[fu j oj hj,ek,<-hN,Em.mQ] at he
   exact absurd he (IE j oj hj)
  ·rw[if_neg ej] at hj
   rw[if_neg ek] at hk
   rw[fu j oj hj,(hle.2 G h.kE.2.1).2.2] at hq
   rw[fu j oj hj,fu k ok hk] at he
   exact h.inj j k oj ok hj hk hq he
 ·intro g hg
  obtain⟨a,b',c⟩:=h.pf g hg
  obtain⟨x,y,_⟩:=hle.2 g a
  exact⟨by simp[Em.ext];omega,x.trans b',y.trans c⟩
 ·intro k hk
  exact h.frame k (hF k hk).1
theorem TF {e:Em} {l:List AV} {cs:Array Value} {el b:Nat} (hl:aP e l cs.toList) (hlen:l.length<=16777216):OR (e.ext b 0 cs.size) e.N (.cells (Tr.cC .nil 0 l) 0 l.length el 0) (.cells cs el (0,0)):=by
 refine .cells _ _ _ _ _ _ _ (by rw[Em.vU]) ?_ (fun _=>rfl) (by simp) (fun _=>Em.mY ..)
 intro k v _ hk hg
 rw[Tr.Bz .nil _ _ _ _ (by omega)] at hg
 rw[if_pos ⟨by omega,by omega⟩,afC] at hg
 obtain⟨v',cl,hr⟩:=hl.get hg
 exact⟨k,by rw[Em.mY];omega,v',by rw[<-adw];exact cl,hr.mono (Em.o9 ..)⟩
structure oW (P:Program) (cf:CF) (n:Nat) (ops:Array Oper) (B:List Nat) (t0:Tm) (H0:Hp) (TP TE:Nat->Tm) (HB HH:Nat->Hp) (V:Nat->AV) (X:Nat->Bool):Prop where
 form:Form ops B
 t1:TP 0=t0
 t2:TE 0=t0
 h1:HB 0=H0
 h2:HH 0=H0
 step:∀ j o,ops[j]? = some o->KL P cf n ops o (X j) (V j) (TP j) (TE j) (TP (j+1)) (TE (j+1)) (HB j) (HH j) (HB (j+1)) (HH (j+1))
 d1:∀ i oi,ops[i]? = some oi->X i=true->kd P oi = .dE->∀ j oj,ops[j]? = some oj->X j=true->(kd P oj = .dE\/kd P oj = .late)->j<i->(B.getD i 0).testBit j=true
 d2:∀ i oi,ops[i]? = some oi->X i=true->kd P oi = .dE->∀ j oj,ops[j]? = some oj->X j=true->kd P oj = .read->j<i->(B.getD i 0).testBit j=true\/
  ∃ h',iJ P (ev P.globals.size (TP j)) oj (HB (i+1))=some (V j,h')
 d3:∀ i oi,ops[i]? = some oi->X i=true->kd P oi = .dE->∀ j oj,ops[j]? = some oj->X j=true->kd P oj = .read->i<j->(B.getD j 0).testBit i=true\/
  ∃ h',iJ P (ev P.globals.size (TP j)) oj (HB i)=some (V j,h')
def pv (P:Program) (V:Nat->AV) (X:Nat->Bool) (j:Nat) (o:Oper):AV:=if X j=true/\kd P o = .late then .du else V j
section
variable {P:Program} {cf:CF} {n:Nat} {ops:Array Oper} {B:List Nat} {t0:Tm} {H0:Hp} {TP TE:Nat->Tm} {HB HH:Nat->Hp} {V:Nat->AV} {X:Nat->Bool}
theorem oW.cC (R:oW P cf n ops B t0 H0 TP TE HB HH V X) {j:Nat} {o:Oper} (ho:ops[j]? = some o) :
  gG n o.dst (pv P V X j o) (TP j)=some (TP (j+1))/\gG n o.dst (V j) (TE j)=some (TE (j+1)):=by
 obtain⟨_,h⟩:=R.step j o ho
 cases hx:X j with
 | false=>
  rw[hx] at h
  obtain⟨h1,h2,h3,_⟩:=h
  simp only[pv,hx,abD,false_and,if_false]
  rw[h1];exact⟨h2,h3⟩
 | true=>
  rw[hx] at h
  cases hk:kd P o<;>rw[hk] at h<;>simp only[pv,hx,hk,true_and,if_true,reduceCtorEq,if_false,and_false]
  ·exact⟨h.2.1,h.2.2.1⟩
  ·exact⟨h.2.1,h.2.2.1⟩
  ·exact⟨h.2.1,h.2.2.1⟩
  ·exact⟨h.2.1,h.2.2.1⟩
theorem oW.ax (R:oW P cf n ops B t0 H0 TP TE HB HH V X):∀ i,i<=ops.size->∀ d,
  (∀ j o,j<i->ops[j]? = some o->o.dst=some d->(TP i).get d=some (pv P V X j o)/\(TE i).get d=some (V j))/\
  ((∀ j o,j<i->ops[j]? = some o->o.dst≠some d)->(TP i).get d=t0.get d/\(TE i).get d=t0.get d):=by
 intro i
 induction i with
 | zero=>intro _ d;exact⟨fun j o hj=>by omega,fun _=>⟨by rw[R.t1],by rw[R.t2]⟩⟩
 | succ i ih=>
  intro hi d
  obtain⟨i1,i2⟩:=ih (by omega) d
  have ho:ops[i]? = some ops[i]:=aeC (by omega)
  obtain⟨p1,p2⟩:=R.cC ho
  have g1:=XQ p1 d
  have g2:=XQ p2 d
  constructor
  ·intro j o hj va hd
   by_cases uk:j=i
   ·subst uk
    rw[ho] at va;cases va
    rw[g1,g2,if_pos hd,if_pos hd];exact⟨rfl,rfl⟩
   ·have aH:ops[i].dst≠some d:=fun q=>uk (R.form.one j i o _ d va ho hd q)
    rw[g1,g2,if_neg aH,if_neg aH]
    exact i1 j o (by omega) va hd
  ·intro kD
   have aH:=kD i _ (by omega) ho
   rw[g1,g2,if_neg aH,if_neg aH]
   exact i2 fun j o hj va=>kD j o (by omega) va
theorem oW.Yf (R:oW P cf n ops B t0 H0 TP TE HB HH V X) (p:Nat):∀ k,p+k<=ops.size->(∀ j o,p<=j->j<p+k->ops[j]? = some o->X j=true->kd P o ≠ .dE)->HB (p+k)=HB p:=by
 intro k
 induction k with
 | zero=>intro _ _;rfl
 | succ k ih=>
  intro hk aH
  have ho:ops[p+k]? = some ops[p+k]:=aeC (by omega)
  obtain⟨_,h⟩:=R.step (p+k) _ ho
  have:HB (p+k+1)=HB (p+k):=by
   cases hx:X (p+k) with
   | false=>rw[hx] at h;exact h.2.2.2.1
   | true=>
    rw[hx] at h
    have hn:=aH (p+k) _ (by omega) (by omega) ho hx
    cases cF:kd P ops[p+k]<;>rw[cF] at h
    ·exact h.2.2.2.1
    ·exact h.2.2.2.1
    ·exact h.2.2.2
    ·exact absurd cF hn
  rw[<-ag0,this]
  exact ih (by omega) fun j o h1 h2=>aH j o h1 (by omega)
end
end Go.Proofs.YtodfajmihkagnaaGreatDoor.Am
namespace Go.Proofs.YtodfajmihkagnaaGreatDoor.Am
variable {P:Program}
theorem MQ:∀ {a b:AV},p9 a b=true->a=b:=by
 intro a b h
 unfold p9 at h
 split at h<;>first
  | rfl
  | (cases h;done)
  | (simp only[beq_iff_eq] at h;subst h;rfl)
  | (simp only[aa9,beq_iff_eq] at h;obtain⟨h1,h2⟩:=h;subst h1;subst h2;rfl)
  | (simp only[aa9] at h;obtain⟨h1,h2⟩:=h;rw[abC h1,abC h2])
  | (simp only[aa9,beq_iff_eq] at h;obtain⟨⟨⟨⟨⟨h1,h2⟩,h3⟩,h4⟩,h5⟩,h6⟩:=h;rw[abC h1,abC h2,abC h3,abC h4,h5,abC h6])
  | (rw[abC h])
theorem P3:∀ {a b:List AV},wF a b=true->a=b
 | [],[],_=>rfl
 | [],_::_,h=>by simp[wF] at h
 | _::_,[],h=>by simp[wF] at h
 | a::x,b::y,h=>by
  simp only[wF,aa9] at h
  rw[MQ h.1,P3 h.2]
theorem acs {a b:AV} (h:same a b=true):a=b:=by
 unfold same at h
 split at h
 ·rw[P3 h]
 ·rw[P3 h]
 ·simp only[aa9] at h
  rw[abC h.1,MQ h.2]
 ·exact MQ h
theorem iH {x:Option AV} {H:Hp} {v:AV} {H':Hp} (h:x.map (fun v=>(v,H))=some (v,H')):x=some v/\H'=H:=by
 simp only[aaF,ab7] at h
 obtain⟨a,ha,rfl,rfl⟩:=h
 exact⟨ha,rfl⟩
theorem rD {x:Option AV} {H:Hp} {v:AV} (h:x=some v):x.map (fun v=>(v,H))=some (v,H):=by rw[h];rfl
theorem acF {o:Oper} (h:kd P o = .late):(∃ t,o.op = .alloc t)\/(∃ t a b,o.op = .makeSlice t (.const a) (.const b))\/∃ a b v el,o.op = .convert a b (.const v)/\P.underlying a=some .string/\P.underlying b=some (.slice el):=by
 unfold kd at h
 cases ba:o.op<;>rw[ba] at h<;>simp only[reduceCtorEq] at h
 case alloc t=>exact .inl ⟨t,rfl⟩
 case binOp=>split at h<;>first | (cases h;done) | (split at h<;>cases h)
 case convert a b x=>
  split at h<;>first | (cases h;done) | skip
  rename_i el ha hb
  split at h
  ·rename_i v;exact .inr (.inr ⟨a,b,v,el,rfl,ha,hb⟩)
  ·cases h
 case makeSlice t l c=>
  split at h
  ·rename_i a b;exact .inr (.inl ⟨t,a,b,rfl⟩)
  ·cases h
 case call c=>split at h<;>cases h
theorem ZD {a b:TypeId} {x v:AV} {H H':Hp} {i j:IntKind} (ha:P.underlying a=some (.int i)) (hb:P.underlying b=some (.int j)) (h:jr P a b x H=some (v,H')) :
  H'=H/\∀ H2,jr P a b x H2=some (v,H2):=by
 unfold jr at h ⊢
 rw[ha,hb] at h ⊢
 cases x<;>simp only at h ⊢ <;> first | (cases h;exact⟨rfl,fun _=>rfl⟩) | (cases h;done) | (simp at h;done) | skip
theorem aaE {a b : TypeId} {x v : AV} {H H' : Hp} (ha : P.underlying a = some .string) (hb : P.underlying b = some .string) (h : jr P a b x H = some (v, H')) :
    H' = H /\ ∀ H2, jr P a b x H2 = some (v, H2) := by
  unfold jr at h ⊢
  rw[ha, hb] at h ⊢
  cases x<;>simp only at h ⊢ <;> first
    | (cases h;exact⟨rfl, fun _ => rfl⟩) | (cases h;done) | (simp at h;done)
    | (split at h
       · rename_i q;cases h;exact⟨rfl, fun _ => by rw[if_pos q]⟩
       · cases h)
    | skip
theorem alF {a b e:TypeId} {x v:AV} {H H':Hp} (ha:P.underlying a=some (.slice e)) (hb:P.underlying b=some .string) (h:jr P a b x H=some (v,H')):H'=H:=by
 unfold jr at h
 rw[ha,hb] at h
 cases x<;>simp only at h<;>first
  | (cases h;rfl) | (cases h;done) | (simp at h;done)
  | (split at h<;>first | (cases h;rfl) | (cases h;done) | skip)
  | skip
 rename_i q
 cases hz:Nat.beq _ 0 with
 | true=>rw[hz] at h;cases h;rfl
 | false=>
  rw[hz] at h
  simp only[cond_false,abz,aaF,ab7] at h
  obtain⟨_,_,_,_,_,rfl⟩:=h
  rfl
theorem XB {ρ:Operand->AV} {o:Oper} {H H':Hp} {v:AV} (hk:kd P o = .pure\/kd P o = .read) (h:iJ P ρ o H=some (v,H')):H'=H:=by
 unfold iJ at h
 unfold kd at hk
 cases ba:o.op<;>rw[ba] at h hk<;>simp only[reduceCtorEq,or_self] at h hk
 case move x=>cases h;rfl
 case assign x=>cases h;rfl
 case pick c a b=>
  split at h
  ·cases h;rfl
  ·cases h
 case build t ps=>exact (iH h).2
 case load t a=>exact (iH h).2
 case nilCheck x=>exact (iH h).2
 case binOp op t x y ty=>
  cases hg:sw P op t x y (ρ x) (ρ y) with
  | false=>rw[hg] at h;cases h
  | true=>rw[hg] at h;exact (iH h).2
 case unOp op t x=>exact (iH h).2
 case convert a b x=>
  split at hk
  ·rename_i i j ha hb;exact (ZD ha hb h).1
  ·rename_i ha hb;exact (aaE ha hb h).1
  ·rename_i e ha hb;exact alF ha hb h
  ·split at hk<;>simp at hk
  ·simp at hk
 case makeSlice t l c=>split at hk<;>simp at hk
 case makeInterface t x=>exact (iH h).2
 case makeFunc fn a b=>exact (iH h).2
 case slice t x lo hi mx=>exact (iH h).2
 case fieldAddr t x f=>exact (iH h).2
 case field t x f=>exact (iH h).2
 case indexAddr t x ix=>exact (iH h).2
 case index t x ix=>exact (iH h).2
 case lookup t x k ok=>exact (iH h).2
 case entry it=>exact (iH h).2
 case extract t ix=>
  split at h
  ·exact (iH h).2
  ·cases h
 case typeAssert x t uT ok=>exact (iH h).2
 case call c=>
  cases hc:c.callee with
  | builtin b=>
   rw[hc] at h hk
   simp only at h hk
   cases b<;>simp only[reduceCtorEq,or_self] at hk<;>(unfold gI at h;split at h<;>first | (cases h;done) | exact (iH h).2 | simp_all)
  | value f=>rw[hc] at h;cases h
  | invoke r m=>rw[hc] at h;cases h
theorem ajW {op:BinOp} {t:TypeId} {x y:AV} (hk:(match op with
   | .eql | .neq=>match P.underlying t with | some (.int _) | some .string | some .bool=>Kd.pure | _ => .read
   | _ => .pure) = .pure) (H H2:Hp):eS P op t x y H=eS P op t x y H2:=by
 have heq:(op = .eql\/op = .neq)->∀ H H2:Hp,dZ P 50 t x y H=dZ P 50 t x y H2:=by
  intro ho H H2
  have hu:P.underlying t=some .string\/P.underlying t=some .bool\/∃ k,P.underlying t=some (.int k):=by
   rcases ho with rfl | rfl<;>(simp only at hk;split at hk<;>first | (exact .inl (by assumption)) | (exact .inr (.inl (by assumption))) | (exact .inr (.inr ⟨_,by assumption⟩)) | cases hk)
  unfold dZ
  rcases hu with hu | hu | ⟨k,hu⟩<;>(rw[hu];cases x<;>cases y<;>rfl)
 cases op
 case eql=>
  have:=heq (.inl rfl) H H2
  cases x<;>cases y<;>simp only[eS,this]
 case neq=>
  have:=heq (.inr rfl) H H2
  cases x<;>cases y<;>simp only[eS,this]
 all_goals (cases x<;>cases y<;>rfl)
theorem adX {ρ:Operand->AV} {o:Oper} {H H':Hp} {v:AV} (hk:kd P o = .pure) (h:iJ P ρ o H=some (v,H')) (H2:Hp):iJ P ρ o H2=some (v,H2):=by
 have hs:=XB (.inl hk) h
 subst hs
 unfold iJ at h ⊢
 unfold kd at hk
 cases ba:o.op<;>rw[ba] at h hk<;>simp only[reduceCtorEq] at h hk ⊢
 case move x=>cases h;rfl
 case assign x=>cases h;rfl
 case pick c a b=>
  split at h
  ·cases h;simp[*]
  ·cases h
 case build t ps=>exact rD (iH h).1
 case nilCheck x=>exact rD (iH h).1
 case binOp op t x y ty=>
  cases hg:sw P op t x y (ρ x) (ρ y) with
  | false=>rw[hg] at h;cases h
  | true=>
   rw[hg] at h
   rw[ajW hk H2 H']
   exact rD (iH h).1
 case unOp op t x=>exact rD (iH h).1
 case convert a b x=>
  split at hk
  ·rename_i i j ha hb;exact (ZD ha hb h).2 H2
  ·rename_i ha hb;exact (aaE ha hb h).2 H2
  ·cases hk
  ·split at hk<;>cases hk
  ·cases hk
 case makeSlice t l c=>split at hk<;>cases hk
 case makeInterface t x=>exact rD (iH h).1
 case makeFunc fn a b=>exact rD (iH h).1
 case fieldAddr t x f=>exact rD (iH h).1
 case field t x f=>exact rD (iH h).1
 case indexAddr t x ix=>exact rD (iH h).1
 case index t x ix=>exact rD (iH h).1
 case extract t ix=>
  split at h
  ·rename_i l hl;exact rD (iH h).1
  ·cases h
 case typeAssert x t uT ok=>exact rD (iH h).1
 case call c=>
  cases hc:c.callee with
  | builtin b=>
   rw[hc] at h hk
   simp only at h hk ⊢
   cases b<;>simp only[reduceCtorEq] at hk<;>(unfold gI at h ⊢;split at h<;>first | (cases h;done) | exact rD (iH h).1 | simp_all)
  | value f=>rw[hc] at h;cases h
  | invoke r m=>rw[hc] at h;cases h
end Go.Proofs.YtodfajmihkagnaaGreatDoor.Am
namespace Go.Proofs.YtodfajmihkagnaaGreatDoor.Am
section
variable {P:Program} {cf:CF} {n:Nat} {ops:Array Oper} {B:List Nat} {t0:Tm} {H0:Hp} {TP TE:Nat->Tm} {HB HH:Nat->Hp} {V:Nat->AV} {X:Nat->Bool}
def kA (P:Program) (ops:Array Oper) (X:Nat->Bool) (S:Nat->Prop) (p j:Nat):Prop:=S j/\p<=j/\X j=true/\∃ o,ops[j]? = some o/\kd P o = .late
def Qo (P:Program) (o:Oper) (b:Nat) (ob:Obj) (val:Value):Prop:=
 ∀ (t:Tm) (H H':Hp) (v:AV) (e:Em),iJ P (ev P.globals.size t) o H=some (v,H')->e.N=H.next->∃ ao n,Am.alloc H ao=some (e.N,H')/\OR (e.ext b 0 n) e.N ao ob/\VR (e.ext b 0 n) v val
structure Inv (P:Program) (n:Nat) (ops:Array Oper) (B:List Nat) (t0:Tm) (HB HH:Nat->Hp) (V:Nat->AV) (X:Nat->Bool) (F:Nat->Prop) (W:World) (e0:Em) (ds:List Deferred)
  (S:Nat->Prop) (p:Nat) (e:Em) (a:Act) (w:World) (cz:Nat->Nat):Prop where
 pN:p<=ops.size
 ph:HH p=HB p
 pe:p=0\/∃ j oj,p=j+1/\ops[j]? = some oj/\X j=true/\kd P oj = .dE
 down:∀ i j,S i->(B.getD i 0).testBit j=true->S j
 dE:∀ i o,ops[i]? = some o->X i=true->kd P o = .dE->(S i↔i<p)
 rh:RH P.globals.size (fun k=>F k\/∃ j,kA P ops X S p j/\cz j=k) w e (HB p) w
 frame:∀ k,F k->w.heap[k]? = W.heap[k]?
 os:w.os=W.os
 tape:w.tape=W.tape
 output:w.output=W.output
 size:W.heap.size<=w.heap.size
 J2:∀ j,kA P ops X S p j->e.n P.globals.size<=cz j/\¬ F (cz j)/\∀ o,ops[j]? = some o->∃ ob val,w.heap[cz j]? = some ob/\Qo P o (cz j) ob val/\∀ d,o.dst=some d->a.tmps.getD d undef=val
 JH:∀ i j,kA P ops X S p i->kA P ops X S p j->cz i=cz j->i=j
 val:∀ j o d,ops[j]? = some o->S j->o.dst=some d->¬ kA P ops X S p j->VR e (V j) (a.tmps.getD d undef)
 BQ:∀ d,(∀ j o,ops[j]? = some o->S j->o.dst≠some d)->VR e ((t0.get d).getD bS) (a.tmps.getD d undef)
 zK:n<=a.tmps.size
 le:e0.le e
 defers:a.defers=ds
theorem Inv.read (R:oW P cf n ops B t0 H0 TP TE HB HH V X) {F:Nat->Prop} {W:World} {e0:Em} {ds:List Deferred} {S:Nat->Prop} {p:Nat} {e:Em} {a:Act} {w:World} {cz:Nat->Nat}
  (I:Inv P n ops B t0 HB HH V X F W e0 ds S p e a w cz) {i:Nat} {o:Oper} (ho:ops[i]? = some o) (hS:¬ S i) (hr:∀ j,(B.getD i 0).testBit j=true->S j) {d:Tmp} (hd:By ops o d=true) :
  VR e (((TP i).get d).getD bS) (a.tmps.getD d undef):=by
 have hi:i<ops.size:=(ab6.1 ho).1
 obtain⟨v1,v2⟩:=R.ax i (Nat.le_of_lt hi) d
 by_cases hex:∃ j o',j<i/\ops[j]? = some o'/\o'.dst=some d
 ·obtain⟨j,o',hj,fA,fc⟩:=hex
  rw[(v1 j o' hj fA fc).1]
  have rS:S j:=by
   have:=R.form.rd j i o' o d fA ho fc (by omega) hd
   rw[if_pos hj] at this
   exact hr j this
  simp only[ae0,pv]
  split
  ·exact .du _
  ·rename_i hn
   refine I.val j o' d fA rS fc (fun q=>hn ?_)
   obtain⟨_,_,hx,o2,nF,hk⟩:=q
   rw[fA] at nF;cases nF
   exact⟨hx,hk⟩
 ·rw[(v2 fun j o' hj fA fc=>hex ⟨j,o',hj,fA,fc⟩).1]
  refine I.BQ d fun j o' fA rS fc => ?_
  by_cases uk:j<i
  ·exact hex ⟨j,o',uk,fA,fc⟩
  ·by_cases wL:j=i
   ·subst wL;exact hS rS
   ·have:=R.form.rd j i o' o d fA ho fc wL hd
    rw[if_neg (by omega)] at this
    exact hS (I.down j i rS this)
theorem afl {o:Oper} {d:Tmp} (h:Operand.tmp d∈o.op.operands.toList):d∈tmpsOf o:=by
 unfold tmpsOf
 rw[List.mem_filterMap]
 exact⟨.tmp d,h,rfl⟩
theorem Wj {o:Oper} {d:Tmp} (h:Operand.tmp d∈o.op.operands.toList):By ops o d=true:=by
 unfold By
 rw[af0]
 left
 simpa using afl h
theorem Vu {F:Nat->Prop} {W:World} {e:Em} {H:Hp} {w:World} (h:RH P.globals.size F W e H w) {t:Tm} {a:Act} {x:Operand} (ht:∀ d,x = .tmp d->VR e ((t.get d).getD bS) (a.tmps.getD d undef)) :
  VR e (ev P.globals.size t x) (a.eval x):=by
 cases x with
 | tmp d=>exact ht d rfl
 | const v=>
  simp only[Am.ev,Act.eval]
  cases hc:Am.jB v with
  | none=>exact .du v
  | some c=>exact .jB hc
 | global g=>
  simp only[Am.ev,Act.eval]
  cases hb:Nat.blt g P.globals.size with
  | false=>exact .du _
  | true=>
   rw[adq] at hb
   obtain⟨h1,h2,h3⟩:=h.pf g hb
   have:=VR.ptr (e:=e) g 0 0 h1 (by rw[h3];simp)
   rw[h2] at this
   exact this
 | func f=>exact .func _ (by simp) [] [] #[] #[] rfl rfl (by simp) (by simp)
theorem Inv.Jp (R:oW P cf n ops B t0 H0 TP TE HB HH V X) {F:Nat->Prop} {W:World} {e0:Em} {ds:List Deferred} {S:Nat->Prop} {p:Nat} {e:Em} {a:Act} {w:World} {cz:Nat->Nat}
  (I:Inv P n ops B t0 HB HH V X F W e0 ds S p e a w cz):∀ k,p+k<=ops.size->(∀ j o,p<=j->j<p+k->ops[j]? = some o->X j=true->kd P o ≠ .dE/\(kd P o = .late->S j))->
  ∃ e',e.le e'/\RH P.globals.size (fun q=>F q\/∃ j,kA P ops X S (p+k) j/\cz j=q) w e' (HH (p+k)) w/\
   ∀ j o d,p<=j->j<p+k->ops[j]? = some o->X j=true->kd P o = .late->o.dst=some d->VR e' (V j) (a.tmps.getD d undef):=by
 intro k
 induction k with
 | zero=>
  intro _ _
  refine⟨e,e.le_refl,?_,fun j o d h1 h2=>by omega⟩
  rw[adx,I.ph]
  exact I.rh
 | succ k ih=>
  intro hk aH
  obtain⟨e1,qR,iG,mh⟩:=ih (by omega) fun j o h1 h2=>aH j o h1 (by omega)
  have ho:ops[p+k]? = some ops[p+k]:=aeC (by omega)
  obtain⟨_,aD⟩:=R.step (p+k) _ ho
  have same:HH (p+k+1)=HH (p+k)->¬ (X (p+k)=true/\kd P ops[p+k] = .late)->∃ e',e.le e'/\RH P.globals.size (fun q=>F q\/∃ j,kA P ops X S (p+(k+1)) j/\cz j=q) w e' (HH (p+(k+1))) w/\
   ∀ j o d,p<=j->j<p+(k+1)->ops[j]? = some o->X j=true->kd P o = .late->o.dst=some d->VR e' (V j) (a.tmps.getD d undef):=by
   intro hh iv
   refine⟨e1,qR,?_,?_⟩
   ·rw[<-ag0,hh]
    refine iG.weaken fun q hq => ?_
    rcases hq with hq | ⟨j,⟨q1,q2,q3⟩,q4⟩
    ·exact .inl hq
    ·exact .inr ⟨j,⟨q1,by omega,q3⟩,q4⟩
   ·intro j o d h1 h2 hj hx cF hd
    by_cases Qe:j=p+k
    ·subst Qe
     rw[ho] at hj;cases hj
     exact absurd ⟨hx,cF⟩ iv
    ·exact mh j o d h1 (by omega) hj hx cF hd
  cases hx:X (p+k) with
  | false=>
   rw[hx] at aD
   exact same aD.2.2.2.2 (by simp[hx])
  | true=>
   rw[hx] at aD
   have hn:=aH (p+k) _ (by omega) (by omega) ho hx
   cases cF:kd P ops[p+k]<;>rw[cF] at aD
   ·exact same aD.2.2.2.2 (by simp[cF])
   ·exact same aD.2.2.2.2 (by simp[cF])
   · -- a new variable
    obtain⟨hA,_,_,_⟩:=aD
    have hS:=hn.2 cF
    have hpd:kA P ops X S (p+k) (p+k):=⟨hS,abe _,hx,_,ho,cF⟩
    have Zg:kA P ops X S p (p+k):=⟨hS,by omega,hx,_,ho,cF⟩
    obtain⟨g1,g2,g3⟩:=I.J2 _ Zg
    obtain⟨ob,val,G4,G2,PY⟩:=g3 _ ho
    obtain⟨ao,nn,dq,eg,iq⟩:=G2 _ _ _ _ e1 hA iG.N
    have IE:∀ j oj,(HH (p+k)).h.get j=some oj->e1.b j≠cz (p+k):=by
     intro j oj hj hq
     obtain⟨a1,ob,b1,c1,d1⟩:=iG.obj j oj hj
     by_cases hjG:e1.n P.globals.size<=e1.b j
     ·exact d1 (.inr hjG) (.inr ⟨p+k,hpd,hq.symm⟩)
     ·have:=(qR.2 _ I.rh.kE.2.1).2.2
      omega
    obtain⟨_,nZ⟩:=iG.Jp (F':=fun q=>F q\/∃ j,kA P ops X S (p+(k+1)) j/\cz j=q) dq G4 IE eg (by
     intro q hq
     rcases hq with hq | ⟨j,⟨q1,q2,q3⟩,q4⟩
     ·exact⟨.inl hq,fun r=>g2 (r▸hq)⟩
     ·refine⟨.inr ⟨j,⟨q1,by omega,q3⟩,q4⟩,fun r => ?_⟩
      have:=I.JH j (p+k) ⟨q1,by omega,q3⟩ Zg (q4.trans r)
      omega)
    refine⟨_,Em.le_trans qR (Em.o9 ..),by rw[<-ag0];exact nZ,?_⟩
    intro j o d h1 h2 hj sK qW hd
    by_cases Qe:j=p+k
    ·subst Qe
     rw[ho] at hj;cases hj
     rw[PY d hd]
     exact iq
    ·exact (mh j o d h1 (by omega) hj sK qW hd).mono (Em.o9 ..)
   ·exact absurd cF hn.1
end
end Go.Proofs.YtodfajmihkagnaaGreatDoor.Am
namespace Go.Proofs.YtodfajmihkagnaaGreatDoor.Am
theorem RH.push {G:Nat} {F:Nat->Prop} {W:World} {e:Em} {H:Hp} {w:World} (h:RH G F W e H w) (ob:Obj) :
  RH G (fun k=>F k\/k=w.heap.size) { w with heap:=w.heap.push ob } e H { w with heap:=w.heap.push ob }:=by
 refine⟨h.N,?_,h.inj,h.pf,?_,rfl,rfl,rfl,abe _,by obtain⟨g1,g2,g3⟩:=h.kE;simp;omega⟩
 ·intro i o ho
  obtain⟨a,o8,b,c,d⟩:=h.obj i o ho
  have aQ:=(ab6.1 b).1
  refine⟨a,o8,?_,c,fun hw hk => ?_⟩
  ·simp only;rw[ahs,if_neg (by omega)];exact b
  ·rcases hk with hk | hk
   ·exact d hw hk
   ·omega
 ·intro k hk
  refine⟨?_,rfl⟩
  rcases hk with hk | hk
  ·have:=(h.frame k hk).1;simp;omega
  ·simp;omega
theorem Nv {a:Act} {dst:Option Tmp} {v:Value} {n:Nat} (hn:n<=a.tmps.size) (hd:∀ d,dst=some d->d<n) (d:Tmp):(a.put dst v).tmps.getD d undef=if dst=some d then v else a.tmps.getD d undef:=by
 cases dst with
 | none=>simp[Act.put]
 | some x=>
  simp only[Act.put]
  have hx0:x<a.tmps.size:=ac8 (hd x rfl) hn
  rw[Xf hx0]
  by_cases hx:d=x
  ·subst hx;simp
  ·rw[if_neg hx,if_neg (fun q=>hx (acy q).symm)]
theorem Q3 {a:Act} {dst:Option Tmp} {v:Value}:(a.put dst v).tmps.size=a.tmps.size:=by cases dst<;>simp[Act.put]
theorem QF {a:Act} {dst:Option Tmp} {v:Value}:(a.put dst v).defers=a.defers:=by cases dst<;>rfl
section
variable {P:Program} {cf:CF} {n:Nat} {ops:Array Oper} {B:List Nat} {t0:Tm} {H0:Hp} {TP TE:Nat->Tm} {HB HH:Nat->Hp} {V:Nat->AV} {X:Nat->Bool}
 {F:Nat->Prop} {W:World} {e0:Em} {ds:List Deferred} {S:Nat->Prop} {p:Nat} {e:Em} {a:Act} {w:World} {cz:Nat->Nat}
theorem oW.lt (R:oW P cf n ops B t0 H0 TP TE HB HH V X) {i:Nat} {o:Oper} (ho:ops[i]? = some o):∀ d,o.dst=some d->d<n:=fun d hd=>ajF (R.cC ho).2 hd
theorem Inv.quiet (R:oW P cf n ops B t0 H0 TP TE HB HH V X) (I:Inv P n ops B t0 HB HH V X F W e0 ds S p e a w cz) {i:Nat} {o:Oper} (ho:ops[i]? = some o) (hS:¬ S i)
  (hr:∀ j,(B.getD i 0).testBit j=true->S j) (hk:X i=true->kd P o ≠ .late/\kd P o ≠ .dE) {e':Em} {w':World} {v':Value}
  (he:e.le e') (hR:RH P.globals.size (fun k=>F k\/∃ j,kA P ops X S p j/\cz j=k) w e' (HB p) w') (hv:VR e' (V i) v') :
  Inv P n ops B t0 HB HH V X F W e0 ds (fun j=>S j\/j=i) p e' (a.put o.dst v') w' cz:=by
 have oF:∀ j,kA P ops X (fun j=>S j\/j=i) p j↔kA P ops X S p j:=by
  intro j
  constructor
  ·rintro⟨q1 | q1,q2,q3,o2,q4,q5⟩
   ·exact⟨q1,q2,q3,o2,q4,q5⟩
   ·subst q1
    rw[ho] at q4;cases q4
    exact absurd q5 (hk q3).1
  ·rintro⟨q1,q2⟩
   exact⟨.inl q1,q2⟩
 have aH:∀ j o2 d,ops[j]? = some o2->o2.dst=some d->j≠i->o.dst≠some d:=fun j o2 d h1 h2 h3 h4=>h3 (R.form.one j i o2 o d h1 ho h2 h4)
 have eG:=fun d=>Nv (a:=a) (dst:=o.dst) (v:=v') I.zK (R.lt ho) d
 refine⟨I.pN,I.ph,I.pe,?_,?_,?_,?_,hR.os.trans I.os,hR.tape.trans I.tape,hR.output.trans I.output,afo I.size hR.size,?_,?_,?_,?_,by rw[Q3];exact I.zK,Em.le_trans I.le he,by rw[QF];exact I.defers⟩
 ·intro i' j h1 h2
  rcases h1 with h1 | h1
  ·exact .inl (I.down i' j h1 h2)
  ·subst h1;exact .inl (hr j h2)
 ·intro i' o' h1 h2 h3
  rw[<-I.dE i' o' h1 h2 h3]
  constructor
  ·rintro (q | q)
   ·exact q
   ·subst q;rw[ho] at h1;cases h1;exact absurd h3 (hk h2).2
  ·exact .inl
 ·refine (hR.weaken fun k hk => ?_).IK
  rcases hk with hk | ⟨j,h1,h2⟩
  ·exact .inl hk
  ·exact .inr ⟨j,(oF j).1 h1,h2⟩
 ·intro k hk
  exact (hR.frame k (.inl hk)).2.trans (I.frame k hk)
 ·intro j hj
  have jn:=(oF j).1 hj
  obtain⟨g1,g2,g3⟩:=I.J2 j jn
  refine⟨by rw[(he.2 _ I.rh.kE.2.1).2.2];exact g1,g2,fun o2 h1 => ?_⟩
  obtain⟨ob,val,q3,q2,q4⟩:=g3 o2 h1
  refine⟨ob,val,?_,q2,fun d hd => ?_⟩
  ·rw[(hR.frame (cz j) (.inr ⟨j,jn,rfl⟩)).2];exact q3
  ·rw[eG,if_neg (aH j o2 d h1 hd (fun q=>hS (q▸jn.1)))];exact q4 d hd
 ·intro x y hx hy
  exact I.JH x y ((oF x).1 hx) ((oF y).1 hy)
 ·intro j o2 d h1 h2 h3 h4
  rw[eG]
  rcases h2 with h2 | h2
  ·rw[if_neg (aH j o2 d h1 h3 (fun q=>hS (q▸h2)))]
   exact (I.val j o2 d h1 h2 h3 (fun q=>h4 ((oF j).2 q))).mono he
  ·subst h2
   rw[ho] at h1;cases h1
   rw[if_pos h3];exact hv
 ·intro d hd
  rw[eG,if_neg (hd i o ho (.inr rfl))]
  exact (I.BQ d fun j o2 h1 h2=>hd j o2 h1 (.inl h2)).mono he
theorem Inv.late (R:oW P cf n ops B t0 H0 TP TE HB HH V X) (I:Inv P n ops B t0 HB HH V X F W e0 ds S p e a w cz) {i:Nat} {o:Oper} (ho:ops[i]? = some o) (hS:¬ S i)
  (hr:∀ j,(B.getD i 0).testBit j=true->S j) (hX:X i=true) (cF:kd P o = .late) (sF:p<=i) {ob:Obj} {val:Value} {dr:Nat} (G2:Qo P o w.heap.size ob val) :
  Inv P n ops B t0 HB HH V X F W e0 ds (fun j=>S j\/j=i) p e (a.put o.dst val) { w with drawn:=dr,heap:=w.heap.push ob } (fun j=>if j=i then w.heap.size else cz j):=by
 have oF:∀ j,kA P ops X (fun j=>S j\/j=i) p j↔(kA P ops X S p j\/j=i):=by
  intro j
  constructor
  ·rintro⟨q1 | q1,q2⟩
   ·exact .inl ⟨q1,q2⟩
   ·exact .inr q1
  ·rintro (⟨q1,q2⟩ | q)
   ·exact⟨.inl q1,q2⟩
   ·subst q;exact⟨.inr rfl,sF,hX,o,ho,cF⟩
 have aH:∀ j o2 d,ops[j]? = some o2->o2.dst=some d->j≠i->o.dst≠some d:=fun j o2 d h1 h2 h3 h4=>h3 (R.form.one j i o2 o d h1 ho h2 h4)
 have eG:=fun d=>Nv (a:=a) (dst:=o.dst) (v:=val) I.zK (R.lt ho) d
 have aQ:∀ j,kA P ops X S p j->cz j<w.heap.size:=fun j hj=>(I.rh.frame (cz j) (.inr ⟨j,hj,rfl⟩)).1
 have tZ:∀ j,kA P ops X S p j->j≠i:=fun j hj q=>hS (q▸hj.1)
 refine⟨I.pN,I.ph,I.pe,?_,?_,?_,?_,I.os,I.tape,I.output,by simp;have:=I.size;omega,?_,?_,?_,?_,by rw[Q3];exact I.zK,I.le,by rw[QF];exact I.defers⟩
 ·intro i' j h1 h2
  rcases h1 with h1 | h1
  ·exact .inl (I.down i' j h1 h2)
  ·subst h1;exact .inl (hr j h2)
 ·intro i' o' h1 h2 h3
  rw[<-I.dE i' o' h1 h2 h3]
  constructor
  ·rintro (q | q)
   ·exact q
   ·subst q;rw[ho] at h1;cases h1;rw[cF] at h3;cases h3
  ·exact .inl
 ·refine ((I.rh.push ob).drawn dr).IK.weaken fun k hk => ?_
  rcases hk with hk | ⟨j,h1,h2⟩
  ·exact .inl (.inl hk)
  ·rcases (oF j).1 h1 with q | q
   ·rw[if_neg (tZ j q)] at h2
    exact .inl (.inr ⟨j,q,h2⟩)
   ·rw[if_pos q] at h2
    exact .inr h2.symm
 ·intro k hk
  have:=(I.rh.frame k (.inl hk)).1
  simp only
  rw[ahs,if_neg (by omega)]
  exact I.frame k hk
 ·intro j hj
  rcases (oF j).1 hj with q | q
  ·obtain⟨g1,g2,g3⟩:=I.J2 j q
   rw[if_neg (tZ j q)]
   refine⟨g1,g2,fun o2 h1 => ?_⟩
   obtain⟨o8,amb,q3,q2,q4⟩:=g3 o2 h1
   refine⟨o8,amb,?_,q2,fun d hd => ?_⟩
   ·simp only
    rw[ahs,if_neg (by have:=aQ j q;omega)];exact q3
   ·rw[eG,if_neg (aH j o2 d h1 hd (tZ j q))];exact q4 d hd
  ·rw[if_pos q]
   subst q
   refine⟨I.rh.kE.2.2,fun hF => ?_,fun o2 h1 => ?_⟩
   ·have:=(I.rh.frame _ (.inl hF)).1
    omega
   ·rw[ho] at h1;cases h1
    refine⟨ob,val,by simp,G2,fun d hd => ?_⟩
    rw[eG,if_pos hd]
 ·intro x y hx hy KH
  rcases (oF x).1 hx with qx | qx<;>rcases (oF y).1 hy with qy | qy
  ·rw[if_neg (tZ x qx),if_neg (tZ y qy)] at KH;exact I.JH x y qx qy KH
  ·rw[if_neg (tZ x qx),if_pos qy] at KH
   have:=aQ x qx;omega
  ·rw[if_pos qx,if_neg (tZ y qy)] at KH
   have:=aQ y qy;omega
  ·rw[qx,qy]
 ·intro j o2 d h1 h2 h3 h4
  rw[eG]
  rcases h2 with h2 | h2
  ·rw[if_neg (aH j o2 d h1 h3 (fun q=>hS (q▸h2)))]
   exact I.val j o2 d h1 h2 h3 (fun q=>h4 ((oF j).2 (.inl q)))
  ·exact absurd ((oF j).2 (.inr h2)) h4
 ·intro d hd
  rw[eG,if_neg (hd i o ho (.inr rfl))]
  exact I.BQ d fun j o2 h1 h2=>hd j o2 h1 (.inl h2)
theorem Inv.effect (R:oW P cf n ops B t0 H0 TP TE HB HH V X) (I:Inv P n ops B t0 HB HH V X F W e0 ds S p e a w cz) {i:Nat} {o:Oper} (ho:ops[i]? = some o) (hS:¬ S i)
  (hr:∀ j,(B.getD i 0).testBit j=true->S j) (hX:X i=true) (cF:kd P o = .dE) (sF:p<=i) {e1 e':Em} {w':World} {v':Value}
  (qR:e.le e1) (Pd:∀ j o d,p<=j->j<i->ops[j]? = some o->X j=true->kd P o = .late->o.dst=some d->VR e1 (V j) (a.tmps.getD d undef))
  (he:e1.le e') (hR:RH P.globals.size (fun k=>F k\/∃ j,kA P ops X S i j/\cz j=k) w e' (HH (i+1)) w') (hv:VR e' (V i) v') :
  Inv P n ops B t0 HB HH V X F W e0 ds (fun j=>S j\/j=i) (i+1) e' (a.put o.dst v') w' cz:=by
 have hi:i<ops.size:=(ab6.1 ho).1
 have oF:∀ j,kA P ops X (fun j=>S j\/j=i) (i+1) j->kA P ops X S i j/\kA P ops X S p j/\j≠i:=by
  rintro j ⟨q1,q2,q3⟩
  rcases q1 with q1 | q1
  ·exact⟨⟨q1,by omega,q3⟩,⟨q1,by omega,q3⟩,by omega⟩
  ·omega
 have aH:∀ j o2 d,ops[j]? = some o2->o2.dst=some d->j≠i->o.dst≠some d:=fun j o2 d h1 h2 h3 h4=>h3 (R.form.one j i o2 o d h1 ho h2 h4)
 have eG:=fun d=>Nv (a:=a) (dst:=o.dst) (v:=v') I.zK (R.lt ho) d
 have MO:HB (i+1)=HH (i+1):=by
  obtain⟨_,h⟩:=R.step i o ho
  rw[hX,cF] at h
  exact h.2.2.2
 refine⟨by omega,MO.symm,.inr ⟨i,o,rfl,ho,hX,cF⟩,?_,?_,?_,?_,hR.os.trans I.os,hR.tape.trans I.tape,hR.output.trans I.output,afo I.size hR.size,?_,?_,?_,?_,by rw[Q3];exact I.zK,Em.le_trans I.le (Em.le_trans qR he),by rw[QF];exact I.defers⟩
 ·intro i' j h1 h2
  rcases h1 with h1 | h1
  ·exact .inl (I.down i' j h1 h2)
  ·subst h1;exact .inl (hr j h2)
 ·intro i' o' h1 h2 h3
  constructor
  ·rintro (q | q)
   ·have:=(I.dE i' o' h1 h2 h3).1 q;omega
   ·omega
  ·intro q
   by_cases AQ:i'=i
   ·exact .inr AQ
   ·exact .inl (hr i' (R.d1 i o ho hX cF i' o' h1 h2 (.inl h3) (by omega)))
 ·rw[MO]
  refine (hR.weaken fun k hk => ?_).IK
  rcases hk with hk | ⟨j,h1,h2⟩
  ·exact .inl hk
  ·exact .inr ⟨j,(oF j h1).1,h2⟩
 ·intro k hk
  exact (hR.frame k (.inl hk)).2.trans (I.frame k hk)
 ·intro j hj
  obtain⟨Nx,LG,hj3⟩:=oF j hj
  obtain⟨g1,g2,g3⟩:=I.J2 j LG
  refine⟨by rw[((Em.le_trans qR he).2 _ I.rh.kE.2.1).2.2];exact g1,g2,fun o2 h1 => ?_⟩
  obtain⟨ob,val,q3,q2,q4⟩:=g3 o2 h1
  refine⟨ob,val,?_,q2,fun d hd => ?_⟩
  ·rw[(hR.frame (cz j) (.inr ⟨j,Nx,rfl⟩)).2];exact q3
  ·rw[eG,if_neg (aH j o2 d h1 hd hj3)];exact q4 d hd
 ·intro x y hx hy
  exact I.JH x y (oF x hx).2.1 (oF y hy).2.1
 ·intro j o2 d h1 h2 h3 h4
  rw[eG]
  rcases h2 with h2 | h2
  ·have uk:j≠i:=fun q=>hS (q▸h2)
   rw[if_neg (aH j o2 d h1 h3 uk)]
   by_cases hp:kA P ops X S p j
   ·obtain⟨q1,q2,q3,o3,q4,q5⟩:=hp
    rw[h1] at q4;cases q4
    by_cases aQ:j<i
    ·exact (Pd j o2 d q2 aQ h1 q3 q5 h3).mono he
    ·exact absurd ⟨.inl q1,by omega,q3,o2,h1,q5⟩ h4
   ·exact ((I.val j o2 d h1 h2 h3 hp).mono qR).mono he
  ·subst h2
   rw[ho] at h1;cases h1
   rw[if_pos h3];exact hv
 ·intro d hd
  rw[eG,if_neg (hd i o ho (.inr rfl))]
  exact ((I.BQ d fun j o2 h1 h2=>hd j o2 h1 (.inl h2)).mono qR).mono he
end
end Go.Proofs.YtodfajmihkagnaaGreatDoor.Am
namespace Go.Proofs.YtodfajmihkagnaaGreatDoor.Am
theorem Lt {α:Type} {p q:α->Bool} (h:∀ x,p x=true->q x=true) {a:α} (hq:q a=true) (hp:p a=false):∀ l:List α,a∈l->l.countP p<l.countP q
 | b::l,hm=>by
  have hle:∀ l:List α,l.countP p<=l.countP q:=fun l=>List.countP_mono_left fun x _=>h x
  rcases abn.1 hm with rfl | hm
  ·rw[List.countP_cons_of_neg (by simp[hp]),List.countP_cons_of_pos hq]
   have:=hle l;omega
  ·have:=Lt h hq hp l hm
   rw[ahz,ahz]
   by_cases hb:p b=true
   ·rw[if_pos hb,if_pos (h b hb)];omega
   ·rw[if_neg hb];omega
theorem agZ {P:Program} {o:Oper} {a:Act} {w:World} {t:Tm} {H H':Hp} {v:AV} (cF:kd P o = .late) (hA:iJ P (ev P.globals.size t) o H=some (v,H')) :
  ∃ ob val dr,(execOp a.eval o).run P w = .ok (.value val) { w with drawn:=dr,heap:=w.heap.push ob }/\Qo P o w.heap.size ob val:=by
 rcases acF cF with⟨ty,ba⟩ | ⟨ty,ca,cb,ba⟩ | ⟨x,y,cv,el,ba,hx,hy⟩
 ·unfold iJ at hA
  rw[ba] at hA
  simp only at hA
  split at hA
  ·rename_i l hl
   obtain⟨inf,z,iN,hz,_⟩:=xu (e:=⟨id,fun _=>0,id,0⟩) hl
   refine⟨.cells z.cells ty (0,0),.pointer (some ⟨w.heap.size,0,none⟩),w.drawn,?_,?_⟩
   ·unfold execOp
    rw[ba]
    simp[Instr.alloc,rr iN hz,newVar,newRow]
   ·intro t2 H2 tO v2 e c8 hN
    unfold iJ at c8
    rw[ba] at c8
    simp only[hl,aaF,ab7] at c8
    obtain⟨⟨id,H3⟩,eh,rfl,rfl⟩:=c8
    obtain⟨hlen,dq⟩:=KI eh
    obtain⟨Rv,z2,Ao,AI,hlr⟩:=xu (e:=e) hl
    rw[iN] at Ao;cases Ao
    rw[hz] at AI;cases AI
    have xX:id=e.N:=(wA dq).1.trans hN.symm
    subst xX
    exact⟨_,_,dq,TF hlr hlen,.NC (Em.mQ ..) (by simp[Em.ext]) (Em.mY ..)⟩
  ·cases hA
 ·have yT:∀ (t2:Tm) (H2 tO:Hp) (v2:AV),iJ P (ev P.globals.size t2) o H2=some (v2,tO)->uG P ty ((jB ca).getD .du) ((jB cb).getD .du) H2=some (v2,tO):=by
   intro t2 H2 tO v2 h
   unfold iJ at h
   rw[ba] at h
   exact h
  have gf:=yT t H H' v hA
  have xE:∃ k1 n,(jB ca).getD .du = .int k1 n:=by
   unfold uG at gf
   split at gf
   ·rename_i q _;exact⟨_,_,q⟩
   ·cases gf
  have hcb:∃ k2 m,(jB cb).getD .du = .int k2 m:=by
   unfold uG at gf
   split at gf
   ·rename_i _ q;exact⟨_,_,q⟩
   ·cases gf
  obtain⟨k1,n,ha⟩:=xE
  obtain⟨k2,m,hb⟩:=hcb
  have vA:ca = .int k1 n:=by
   cases h:jB ca with
   | none=>rw[h] at ha;cases ha
   | some u=>rw[h] at ha;have q:u = .int k1 n:=ha;subst q;exact (VR.jB (e:=⟨id,fun _=>0,id,0⟩) h).fN
  have vB:cb = .int k2 m:=by
   cases h:jB cb with
   | none=>rw[h] at hb;cases hb
   | some u=>rw[h] at hb;have q:u = .int k2 m:=hb;subst q;exact (VR.jB (e:=⟨id,fun _=>0,id,0⟩) h).fN
  rw[ha,hb] at gf
  obtain⟨el,s,z,row,hu,hs,hz,Cn,hle,hlen,iV⟩:=run_makeSlice gf w
  refine⟨.cells row.toArray el (0,0),.slice (some ⟨w.heap.size,0,none⟩) n.toNat m.toNat,w.drawn,?_,?_⟩
  ·unfold execOp
   rw[ba,vA,vB]
   have h2:(do Pure.pure (Next.value (<-Instr.makeSlice ty (.int k1 n) (.int k2 m))):Sem Next).run P w = .ok (.value (.slice (some ⟨w.heap.size,0,none⟩) n.toNat m.toNat)) { w with heap:=w.heap.push (.cells row.toArray el (0,0)) }:=by
    rw[Sem.run_bind,iV]
    rfl
   exact h2
  ·intro t2 H2 tO v2 e c8 hN
   have nw:=yT t2 H2 tO v2 c8
   rw[ha,hb] at nw
   unfold uG at nw
   simp only[hu,hs] at nw
   split at nw
   ·rw[hz] at nw
    simp only[aaF,ab7] at nw
    obtain⟨⟨id,H3⟩,eh,rfl,rfl⟩:=nw
    obtain⟨mR,dq⟩:=KI eh
    have xX:id=e.N:=(wA dq).1.trans hN.symm
    subst xX
    have eg:=TF (cs:=row.toArray) (b:=w.heap.size) (el:=el) (by simpa using Cn e) mR
    refine⟨_,_,dq,eg,?_⟩
    have mW:(e.ext w.heap.size 0 row.toArray.size).b e.N=w.heap.size:=Em.mQ ..
    have hv:=VR.slice (e:=e.ext w.heap.size 0 row.toArray.size) e.N 0 n.toNat m.toNat true s 0 m.toNat (agJ e.N) (by rw[Em.mY];rfl) hle (abe _) (fun _=>rfl) (by rw[Em.vU];simp[hlen])
    rw[mW] at hv
    exact hv
   ·cases nw
 ·have VA:∀ (t2:Tm) (H2 tO:Hp) (v2:AV),iJ P (ev P.globals.size t2) o H2=some (v2,tO)->jr P x y ((jB cv).getD .du) H2=some (v2,tO):=by
   intro t2 H2 tO v2 h
   unfold iJ at h
   rw[ba] at h
   exact h
  have gf:=VA t H H' v hA
  unfold jr at gf
  rw[hx,hy] at gf
  cases hc:(jB cv).getD .du with
  | str s=>
   rw[hc] at gf
   simp only at gf
   have hof:jB cv=some (.str s):=by
    cases h:jB cv with
    | none=>rw[h] at hc;cases hc
    | some u=>rw[h] at hc;exact congrArg some hc
   obtain⟨s',ur,ON⟩:=(VR.jB (e:=⟨id,fun _=>0,id,0⟩) hof).lR
   split at gf
   ·rename_i oG
    refine⟨.cells (tS w el s').toArray el (na w el s',na w el s'+1),.slice (some ⟨w.heap.size,0,none⟩) s'.size (na w el s'),w.drawn+1,?_,?_⟩
    ·unfold execOp
     rw[ba]
     have h1:(convert x y cv).run P w=(Conv.stringToBytes el s').run P w:=by rw[ON];simp[convert,aJ hx,aJ hy,aJ oG]
     have h2:(do Pure.pure (Next.value (<-convert x y cv)):Sem Next).run P w = .ok (.value (.slice (some ⟨w.heap.size,0,none⟩) s'.size (na w el s'))) { w with drawn:=w.drawn+1,heap:=w.heap.push (.cells (tS w el s').toArray el (na w el s',na w el s'+1)) }:=by
      rw[Sem.run_bind,h1,Yt]
      rfl
     exact h2
    ·intro t2 H2 tO v2 e c8 hN
     have nw:=VA t2 H2 tO v2 c8
     unfold jr at nw
     rw[hx,hy,hc] at nw
     simp only[oG] at nw
     split at nw
     ·rename_i i H3 eh
      cases nw
      obtain⟨hlen,dq⟩:=KI eh
      have xX:i=e.N:=(wA dq).1.trans hN.symm
      subst xX
      have gE:=M1 w el s'
      have hle:=KD w el s'
      rw[ur] at dq eh hlen ⊢
      refine⟨_,(tS w el s').length,dq,?_,?_⟩
      ·refine .cells _ _ _ _ _ _ (na w el s',na w el s'+1) (by rw[Em.vU];simp) ?_ (by simp) ?_ (fun _=>Em.mY ..)
       ·intro k u _ hk hg
        rw[Tr.Bz .nil _ _ _ _ (by omega)] at hg
        rw[if_pos ⟨by omega,by omega⟩,afC] at hg
        obtain⟨v',cl,hr⟩:=(Ws e s').get hg
        refine⟨k,by rw[Em.mY];omega,v',?_,hr.mono (Em.o9 ..)⟩
        have jV:k<(s'.data.toList.map fun b=>Value.int .u8 b.toNat).length:=(aaK.1 cl).1
        simp only[adO,tS]
        rw[abN jV]
        exact cl
       ·intro _ k hk
        have o7:k<(tS w el s').length:=by simpa using hk
        rw[gE] at o7
        simp;omega
      ·have mW:(e.ext w.heap.size 0 (tS w el s').length).b e.N=w.heap.size:=Em.mQ ..
       have hv:=VR.slice (e:=e.ext w.heap.size 0 (tS w el s').length) e.N 0 s'.size s'.size false 1 0 (na w el s') (agJ e.N) (by rw[Em.mY];rfl) hle hle (by simp) (by rw[Em.vU,gE];omega)
       rw[mW] at hv
       rw[vf]
       exact hv
     ·cases nw
   ·cases gf
  | _=>rw[hc] at gf;first | (simp only at gf;cases gf;done) | (cases gf;done) | (simp at gf;done)
section
variable {P:Program} {cf:CF} {n:Nat} {ops:Array Oper} {B:List Nat} {t0:Tm} {H0:Hp} {TP TE:Nat->Tm} {HB HH:Nat->Hp} {V:Nat->AV} {X:Nat->Bool}
 {F:Nat->Prop} {W:World} {e0:Em} {ds:List Deferred} {S:Nat->Prop} {p:Nat} {e:Em} {a:Act} {w:World} {cz:Nat->Nat}
theorem Inv.congr {S':Nat->Prop} (I:Inv P n ops B t0 HB HH V X F W e0 ds S p e a w cz) (h:∀ j,S j↔S' j):Inv P n ops B t0 HB HH V X F W e0 ds S' p e a w cz:=by
 have:S=S':=funext fun j=>propext (h j)
 rw[<-this];exact I
theorem Inv.final (R:oW P cf n ops B t0 H0 TP TE HB HH V X) (I:Inv P n ops B t0 HB HH V X F W e0 ds S p e a w cz) (kD:∀ j,j<ops.size->S j) (hS:∀ j,S j->j<ops.size) :
  ∃ e',e0.le e'/\RH P.globals.size F W e' (HH ops.size) w/\TR e' n (TE ops.size) a/\a.defers=ds:=by
 obtain⟨k,hk⟩:∃ k,ops.size=p+k:=⟨ops.size-p,by have:=I.pN;omega⟩
 obtain⟨e',he,hr,hv⟩:=I.Jp R k (by omega) fun j o h1 h2 h3 h4=>⟨fun h5=>by
  have:=(I.dE j o h3 h4 h5).1 (kD j (by omega));omega,fun _=>kD j (by omega)⟩
 rw[<-hk] at hr hv
 refine⟨e',Em.le_trans I.le he,?_,⟨I.zK,fun d => ?_⟩,I.defers⟩
 ·have hw:=hr.weaken (F':=F) fun q hq => .inl hq
  exact hw.DU (fun q hq=>⟨(hw.frame q hq).1,I.frame q hq⟩) (fun i o ho QA hq=>(hw.obj i o ho).2.choose_spec.2.2 QA hq) I.os I.tape I.output I.size
 ·obtain⟨v1,v2⟩:=R.ax ops.size (abe _) d
  by_cases hex:∃ j o',j<ops.size/\ops[j]? = some o'/\o'.dst=some d
  ·obtain⟨j,o',hj,fA,fc⟩:=hex
   rw[(v1 j o' hj fA fc).2,ae0]
   by_cases hp:kA P ops X S p j
   ·obtain⟨q1,q2,q3,o3,q4,q5⟩:=hp
    rw[fA] at q4;cases q4
    exact hv j o' d q2 hj fA q3 q5 fc
   ·exact (I.val j o' d fA (kD j hj) fc hp).mono he
  ·rw[(v2 fun j o' hj fA fc=>hex ⟨j,o',hj,fA,fc⟩).2]
   exact (I.BQ d fun j o' fA rS fc=>hex ⟨j,o',hS j rS,fA,fc⟩).mono he
theorem afJ (gj:rC P cf) (R:oW P cf n ops B t0 H0 TP TE HB HH V X) {Q:Exit->Act->World->Prop}
  (hQ:∀ e' a' w',e0.le e'->RH P.globals.size F W e' (HH ops.size) w'->TR e' n (TE ops.size) a'->a'.defers=ds->Q .normal a' w') :
  ∀ (fuel:Nat) (listed:Array Bool) (p:Nat) (e:Em) (a:Act) (w:World) (cz:Nat->Nat),listed.size=ops.size->
   Inv P n ops B t0 HB HH V X F W e0 ds (fun j=>listed.getD j false=true) p e a w cz->(List.range ops.size).countP (fun j => !(listed.getD j false))<=fuel->
   wpAny P .any ops Q fuel listed a w:=by
 have jb:∀ (listed:Array Bool) (j:Nat),listed.size=ops.size->(listed.getD j true=false↔j<ops.size/\¬ listed.getD j false=true):=by
  intro listed j hs
  simp only[aeo]
  by_cases hj:j<listed.size
  ·rw[aeC hj];simp;omega
  ·rw[Array.getElem?_eq_none (by omega)];simp;omega
 have wN:∀ (listed:Array Bool),listed.size=ops.size->∀ j,listed.getD j false=true->j<ops.size:=by
  intro listed hs j hj
  rcases aiD j listed.size with q | q
  ·omega
  ·rw[aeo,Array.getElem?_eq_none q] at hj;cases hj
 have finish:∀ (listed:Array Bool) (p:Nat) (e:Em) (a:Act) (w:World) (cz:Nat->Nat),listed.size=ops.size->Inv P n ops B t0 HB HH V X F W e0 ds (fun j=>listed.getD j false=true) p e a w cz->
   Region.ready .any ops listed=[]->Q .normal a w:=by
  intro listed p e a w cz hs I sR
  have kD:∀ j,j<ops.size->listed.getD j false=true:=by
   intro j
   induction j using Nat.strongRecOn with
   | _ j ih=>
    intro hj
    by_cases hl:listed.getD j false=true
    ·exact hl
    ·exfalso
     have:j∈Region.ready .any ops listed:=by
      rw[mem_ready]
      refine⟨(jb listed j hs).2 ⟨hj,hl⟩,_,aeC hj,fun e he hb => ?_⟩
      have:=R.form.back j _ (aeC hj) e he hb
      exact ih e.on this (by omega)
     rw[sR] at this
     cases this
  obtain⟨e',h1,h2,h3,h4⟩:=I.final R kD (wN listed hs)
  exact hQ e' a w h1 h2 h3 h4
 intro fuel
 induction fuel with
 | zero=>
  intro listed p e a w cz hs I hc
  have sR:Region.ready .any ops listed=[]:=by
   cases hq:Region.ready .any ops listed with
   | nil=>rfl
   | cons j l=>
    exfalso
    have hm:j∈Region.ready .any ops listed:=by rw[hq];exact List.mem_cons_self ..
    rw[mem_ready] at hm
    obtain⟨h1,h2⟩:=(jb listed j hs).1 hm.1
    have:0<(List.range ops.size).countP (fun j => !(listed.getD j false)):=List.countP_pos_iff.2 ⟨j,by simpa using h1,by simpa using h2⟩
    omega
  exact⟨sR,finish listed p e a w cz hs I sR⟩
 | succ fuel ih=>
  intro listed p e a w cz hs I hc
  refine⟨finish listed p e a w cz hs I,fun i hi => ?_⟩
  rw[mem_ready] at hi
  obtain⟨h0,o,ho,OP⟩:=hi
  obtain⟨aQ,hS⟩:=(jb listed i hs).1 h0
  have hr:∀ j,(B.getD i 0).testBit j=true->listed.getD j false=true:=by
   intro j hj
   obtain⟨ed,h1,h2,h3⟩:=R.form.bit i o ho j hj
   have h4:=OP ed h1 h2
   rcases h3 with h3 | h3
   ·rw[h3];exact h4
   ·exact I.down ed.on j h4 h3
  have fg:∀ j,(listed.setIfInBounds i true).getD j false=true↔(listed.getD j false=true\/j=i):=by
   intro j
   by_cases hj:j=i
   ·subst hj
    simp[aeo,afd (show j<listed.size by omega)]
   ·rw[getD_set_ne false (fun q=>hj q.symm)];simp[hj]
  have agR:(List.range ops.size).countP (fun j => !((listed.setIfInBounds i true).getD j false))<=fuel:=by
   have:=Lt (p:=fun j => !((listed.setIfInBounds i true).getD j false)) (q:=fun j => !(listed.getD j false)) (a:=i) (by
    intro x hx
    cases hq:listed.getD x false with
    | false=>rfl
    | true=>have:=(fg x).2 (.inl hq);rw[this] at hx;cases hx) (by
    cases hq:listed.getD i false with
    | false=>rfl
    | true=>exact absurd hq hS) (by rw[(fg i).2 (.inr rfl)];rfl) (List.range ops.size) (by simpa using aQ)
   omega
  have next:∀ p' e' a' w' LR,Inv P n ops B t0 HB HH V X F W e0 ds (fun j=>listed.getD j false=true\/j=i) p' e' a' w' LR->wpAny P .any ops Q fuel (listed.setIfInBounds i true) a' w':=
   fun p' e' a' w' LR I'=>ih _ p' e' a' w' LR (by simpa using hs) (I'.congr fun j=>(fg j).symm) agR
  obtain⟨hw,aD⟩:=R.step i o ho
  have hgd:∀ d,FY ops o=some d->VR e (((TP i).get d).getD bS) (a.tmps.getD d undef):=fun d hd=>I.read R ho hS hr (by unfold By;rw[hd];simp)
  have Km:=IL (e:=e) (a:=a) hw hgd
  have WD:∀ x∈o.op.operands.toList,VR e (ev P.globals.size (TP i) x) (a.eval x):=fun x hx=>Vu I.rh fun d hd=>I.read R ho hS hr (Wj (hd▸hx))
  unfold wpOp
  simp only[ho]
  cases hX:X i with
  | false=>
   rw[hX] at aD Km
   rw[Km]
   simp only[abD,if_false]
   refine next p e _ w cz (I.quiet R ho hS hr (by rw[hX];simp) e.le_refl I.rh ?_)
   rw[aD.1];exact VR.undef
  | true=>
   rw[hX] at aD Km
   rw[Km]
   simp only[if_true]
   left
   have ajt:∀ j oj,ops[j]? = some oj->X j=true->kd P oj = .dE->p<=j->j<i->kd P o = .dE->False:=by
    intro j oj h1 h2 h3 h4 h5 h6
    have:=hr j (R.d1 i o ho hX h6 j oj h1 h2 (.inl h3) h5)
    have:=(I.dE j oj h1 h2 h3).1 this
    omega
   cases cF:kd P o<;>rw[cF] at aD
   · -- pure
    obtain⟨⟨h',ba⟩,_⟩:=aD
    have Im:=adX cF ba (HB p)
    have Gq:oU P cf (TP i) o (HB p)=some (V i,HB p):=by
     unfold oU
     split
     ·rename_i f args cp hq
      unfold kd at cF;rw[hq] at cF;cases cF
     ·exact Im
    refine E9 gj I.rh Gq WD ?_
    intro e' v' w' he hR hv
    exact next p e' _ w' cz (I.quiet R ho hS hr (fun _=>by rw[cF];simp) he hR hv)
   · -- read
    obtain⟨⟨h',ba⟩,_⟩:=aD
    have AX:∃ Xk,iJ P (ev P.globals.size (TP i)) o (HB p)=some (V i,Xk):=by
     by_cases sF:p<=i
     · -- the first effect from p on,ahead of i,if there is one
      by_cases hex:∃ j oj,p<=j/\j<i/\ops[j]? = some oj/\X j=true/\kd P oj = .dE
      · -- take the least
       have acU:∃ j oj,p<=j/\j<i/\ops[j]? = some oj/\X j=true/\kd P oj = .dE/\∀ j' ql,p<=j'->j'<j->ops[j']? = some ql->X j'=true->kd P ql ≠ .dE:=by
        obtain⟨j,hj⟩:=hex
        induction j using Nat.strongRecOn with
        | _ j ihj=>
         obtain⟨oj,h1,h2,h3,h4,h5⟩:=hj
         by_cases hm:∃ j' ql,p<=j'/\j'<j/\ops[j']? = some ql/\X j'=true/\kd P ql = .dE
         ·obtain⟨j',ql,g1,g2,g3,g4,g5⟩:=hm
          exact ihj j' g2 ⟨ql,g1,by omega,g3,g4,g5⟩
         ·exact⟨j,oj,h1,h2,h3,h4,h5,fun j' ql g1 g2 g3 g4 g5=>hm ⟨j',ql,g1,g2,g3,g4,g5⟩⟩
       obtain⟨j,oj,h1,h2,h3,h4,h5,h6⟩:=acU
       have NY:HB j=HB p:=by
        obtain⟨k,rfl⟩:∃ k,j=p+k:=⟨j-p,by omega⟩
        exact R.Yf p k (by omega) fun j' ql g1 g2 g3 g4=>h6 j' ql g1 g2 g3 g4
       rcases R.d3 j oj h3 h4 h5 i o ho hX cF h2 with q | q
       ·exfalso
        have:=(I.dE j oj h3 h4 h5).1 (hr j q)
        omega
       ·rw[<-NY];exact q
      ·have NY:HB i=HB p:=by
        obtain⟨k,rfl⟩:∃ k,i=p+k:=⟨i-p,by omega⟩
        exact R.Yf p k (by omega) fun j' ql g1 g2 g3 g4 g5=>hex ⟨j',ql,g1,g2,g3,g4,g5⟩
       rw[<-NY];exact⟨h',ba⟩
     · -- p lies behind i: some effect behind i is done
      have hex:∃ j oj,i<j/\j<p/\ops[j]? = some oj/\X j=true/\kd P oj = .dE/\HB (j+1)=HB p:=by
       rcases I.pe with q | ⟨j,oj,q1,q2,q3,q4⟩
       ·omega
       ·refine⟨j,oj,?_,by omega,q2,q3,q4,by rw[q1]⟩
        rcases aiD i j with q | q
        ·exact q
        ·have:i=j:=by omega
         subst this
         rw[ho] at q2;cases q2
         rw[cF] at q4;cases q4
      obtain⟨j,oj,h1,h2,h3,h4,h5,h6⟩:=hex
      rcases R.d2 j oj h3 h4 h5 i o ho hX cF h1 with q | q
      ·exfalso
       exact hS (I.down j i ((I.dE j oj h3 h4 h5).2 h2) q)
      ·rw[<-h6];exact q
    obtain⟨Xk,Im⟩:=AX
    have vd:=XB (.inr cF) Im
    subst vd
    have Gq:oU P cf (TP i) o (HB p)=some (V i,HB p):=by
     unfold oU
     split
     ·rename_i f args cp hq
      unfold kd at cF;rw[hq] at cF;cases cF
     ·exact Im
    refine E9 gj I.rh Gq WD ?_
    intro e' v' w' he hR hv
    exact next p e' _ w' cz (I.quiet R ho hS hr (fun _=>by rw[cF];simp) he hR hv)
   · -- a new variable
    obtain⟨hA,_⟩:=aD
    have sF:p<=i:=by
     rcases aiD i p with q | q
     ·exfalso
      rcases I.pe with r | ⟨j,oj,q1,q2,q3,q4⟩
      ·omega
      ·have nD:i<j:=by
        rcases aiD i j with q' | q'
        ·exact q'
        ·have:i=j:=by omega
         subst this
         rw[ho] at q2;cases q2
         rw[cF] at q4;cases q4
       have rS:=(I.dE j oj q2 q3 q4).2 (by omega)
       exact hS (I.down j i rS (R.d1 j oj q2 q3 q4 i o ho hX (.inr cF) nD))
     ·exact q
    obtain⟨ob,val,dr,iV,G2⟩:=agZ (a:=a) (w:=w) cF hA
    have hI:=I.late R ho hS hr hX cF sF (dr:=dr) G2
    unfold Oper.wp
    rw[iV]
    exact next p e _ _ _ hI
   · -- an effect
    obtain⟨ba,_,_,MO⟩:=aD
    have sF:p<=i:=by
     rcases aiD i p with q | q
     ·exact absurd ((I.dE i o ho hX cF).2 q) hS
     ·exact q
    obtain⟨k,hk⟩:∃ k,i=p+k:=⟨i-p,by omega⟩
    have Pd:∀ j oj,p<=j->j<i->ops[j]? = some oj->X j=true->kd P oj ≠ .dE/\(kd P oj = .late->listed.getD j false=true):=
     fun j oj h1 h2 h3 h4=>⟨fun h5=>ajt j oj h3 h4 h5 h1 h2 cF,fun h5=>hr j (R.d1 i o ho hX cF j oj h3 h4 (.inr h5) h2)⟩
    obtain⟨e1,qR,iG,mh⟩:=I.Jp R k (by omega) (by rw[<-hk];exact Pd)
    rw[<-hk] at iG mh
    have afY:∀ x∈o.op.operands.toList,VR e1 (ev P.globals.size (TE i) x) (a.eval x):=by
     intro x hx
     refine Vu iG fun d hd => ?_
     subst hd
     have sR:=Wj (ops:=ops) hx
     obtain⟨v1,v2⟩:=R.ax i (Nat.le_of_lt aQ) d
     by_cases hex:∃ j o',j<i/\ops[j]? = some o'/\o'.dst=some d
     ·obtain⟨j,o',hj,fA,fc⟩:=hex
      rw[(v1 j o' hj fA fc).2,ae0]
      have rS:listed.getD j false=true:=by
       have:=R.form.rd j i o' o d fA ho fc (by omega) sR
       rw[if_pos hj] at this
       exact hr j this
      by_cases hp:kA P ops X (fun j=>listed.getD j false=true) p j
      ·obtain⟨q1,q2,q3,o3,q4,q5⟩:=hp
       rw[fA] at q4;cases q4
       exact mh j o' d q2 hj fA q3 q5 fc
      ·exact (I.val j o' d fA rS fc hp).mono qR
     ·rw[(v2 fun j o' hj fA fc=>hex ⟨j,o',hj,fA,fc⟩).2]
      refine (I.BQ d fun j o' fA rS fc => ?_).mono qR
      by_cases uk:j<i
      ·exact hex ⟨j,o',uk,fA,fc⟩
      ·by_cases wL:j=i
       ·subst wL;exact hS rS
       ·have:=R.form.rd j i o' o d fA ho fc wL sR
        rw[if_neg (by omega)] at this
        exact hS (I.down j i rS this)
    refine E9 gj iG ba afY ?_
    intro e' v' w' he hR hv
    exact next (i+1) e' _ w' cz (I.effect R ho hS hr hX cF sF qR mh he hR hv)
end
end Go.Proofs.YtodfajmihkagnaaGreatDoor.Am
namespace Go.Proofs.YtodfajmihkagnaaGreatDoor.Am
section
variable {P:Program} {cf:CF} {F:Nat->Prop} {W:World} {e:Em} {H:Hp} {w:World}
theorem UY {s:jH} {H:Hp} (h:tQ P s H=true):∃ h',iJ P (ev P.globals.size s.t) s.o H=some (s.v,h'):=by
 unfold tQ at h
 split at h
 ·rename_i v' h' hv
  rw[acs h]
  exact⟨h',hv⟩
 ·cases h
theorem Xv (hm:P.follows .mixedOrders=true) (gj:rC P cf) {ops:Array Oper} {n id:Nat} {t t':Tm} {H':Hp} {a:Act} {Q:Exit->Act->World->Prop} (hd:Bh P cf n ops t H=some (t',H')) (hR:RH P.globals.size F W e H w) (hT:TR e n t a)
  (hQ:∀ e' a' w',e.le e'->RH P.globals.size F W e' H' w'->TR e' n t' a'->a'.defers=a.defers->Q .normal a' w'):(Code.region id ops true).wp P Q a w:=by
 unfold Bh at hd
 cases zS:wj ops with
 | false=>rw[zS] at hd;cases hd
 | true=>
 rw[zS] at hd
 simp only[cond_true] at hd
 split at hd
 ·rename_i l tF HF iV
  cases Ff:zD P l with
  | false=>rw[Ff] at hd;cases hd
  | true=>
  rw[Ff] at hd
  cases hd
  have alK:=af1 zS
  obtain⟨TP,TE,HB,HH,V,X,q1,q2,q3,q4,q5,q6,q7⟩:=ahY (B:=before ops.toList []) ops.toList (before ops.toList []) 0 t t H H l (by simp) (by simp) iV
  rw[adt,ahy] at q5 q6
  unfold zD at Ff
  rw[adn] at Ff
  have pair:∀ i oi,ops[i]? = some oi->X i=true->kd P oi = .dE->∀ j oj,ops[j]? = some oj->X j=true->
    ((kd P oj = .dE\/kd P oj = .late)->(!(Nat.blt j i)||((before ops.toList []).getD i 0).testBit j)=true)/\
    (kd P oj = .read->(bif Nat.blt j i then ((before ops.toList []).getD i 0).testBit j||tQ P ⟨j,oj,(before ops.toList []).getD j 0,X j,kk P (X j) oj,V j,TP j,HB j,HB (j+1)⟩ (HB (i+1)) else
     ((before ops.toList []).getD j 0).testBit i||tQ P ⟨j,oj,(before ops.toList []).getD j 0,X j,kk P (X j) oj,V j,TP j,HB j,HB (j+1)⟩ (HB i))=true):=by
   intro i oi hi hx hk j oj hj sK
   have h1:=Ff _ (q7 i oi (ab2 _) hi).2
   simp only[kk,hx,if_true,hk,adn] at h1
   have h2:=h1 _ (q7 j oj (ab2 _) hj).2
   simp only[kk,sK,if_true] at h2 ⊢
   constructor
   ·intro qW
    rcases qW with qW | qW<;>(rw[qW] at h2;exact h2)
   ·intro qW
    rw[qW] at h2 ⊢
    exact h2
  have alW:oW P cf n ops (before ops.toList []) t H TP TE HB HH V X:=by
   refine⟨alK,q1,q2,q3,q4,fun j o ho=>(q7 j o (ab2 _) ho).1,?_,?_,?_⟩
   ·intro i oi hi hx hk j oj hj sK qW aQ
    have:=(pair i oi hi hx hk j oj hj sK).1 qW
    have hb:Nat.blt j i=true:=by rw[adq];exact aQ
    rw[hb] at this
    simpa using this
   ·intro i oi hi hx hk j oj hj sK qW aQ
    have:=(pair i oi hi hx hk j oj hj sK).2 qW
    have hb:Nat.blt j i=true:=by rw[adq];exact aQ
    rw[hb] at this
    simp only[cond_true,af0] at this
    exact this.imp (fun q=>q) UY
   ·intro i oi hi hx hk j oj hj sK qW aQ
    have:=(pair i oi hi hx hk j oj hj sK).2 qW
    have hb:Nat.blt j i=false:=by
     cases hb:Nat.blt j i
     ·rfl
     ·rw[adq] at hb;omega
    rw[hb] at this
    simp only[cond_false,af0] at this
    exact this.imp (fun q=>q) UY
  refine wp_region_any hm ?_
  have B5:∀ j,(Array.replicate ops.size false).getD j false=true->False:=by
   intro j hj
   rw[aeo,Array.getElem?_replicate] at hj
   split at hj<;>simp at hj
  have oO:=(hR.drawn (w.drawn+1))
  refine afJ (F:=F) (W:=W) (e0:=e) (ds:=a.defers) gj alW (by rw[q5,q6];exact hQ) ops.size (Array.replicate ops.size false) 0 e a { w with drawn:=w.drawn+1 } (fun _=>0) (by simp) ?_ (by
   have:=List.countP_le_length (p:=fun j => !((Array.replicate ops.size false).getD j false)) (l:=List.range ops.size)
   simpa using this)
  refine⟨ab2 _,by rw[q3,q4],.inl rfl,fun i j h=>(B5 i h).elim,fun i o _ _ _=>⟨fun h=>(B5 i h).elim,fun h=>by omega⟩,?_,fun k hk=>(oO.frame k hk).2,hR.os,hR.tape,hR.output,hR.size,
   fun j hj=>(B5 j hj.1).elim,fun i j hi=>(B5 i hi.1).elim,fun j o d _ h=>(B5 j h).elim,fun d _=>hT.val d,hT.size,e.le_refl,rfl⟩
  rw[q3]
  refine (oO.weaken fun k hk => ?_).IK
  rcases hk with hk | ⟨j,hj,_⟩
  ·exact hk
  ·exact (B5 j hj.1).elim
 ·cases hd
def xd (P:Program) (c:Code) (Q:Exit->Act->World->Prop) (a:Act) (w:World):Prop:=
 ∀ (b:Frame) (k:List Item) (cs:List Frame),∃ e a' w',Q e a' w'/\Arrives P (lone (b.at a (.code c :: .inLoop c::k)) cs w) b k cs e a' w'
theorem P1 {c:Code} {Q:Exit->Act->World->Prop} {a:Act} {w:World} (h:xd P c Q a w):(Code.loop c).wp P Q a w:=
 fun b k cs=>let ⟨e,a',w',q,r⟩:=h b k cs;⟨e,a',w',q,.of_steps (.one step_loop) r⟩
theorem PV {c:Code} {Q:Exit->Act->World->Prop} {a:Act} {w:World} (h:c.wp P (Exit.then (xd P c Q) Q) a w):xd P c Q a w:=by
 intro b k cs
 obtain⟨e,a₁,w₁,hq,Dk⟩:=h b (.inLoop c::k) cs
 cases e with
 | normal=>
  obtain⟨e₂,a₂,w₂,hq₂,alp⟩:=hq b k cs
  exact⟨e₂,a₂,w₂,hq₂,.of_steps (Steps.trans Dk (.one step_inLoop)) alp⟩
 | exit id=>exact⟨_,a₁,w₁,hq,.pass (x := .inLoop c) rfl (fun _ _ => .inl (by simp)) Dk⟩
 | goto l=>exact⟨_,a₁,w₁,hq,.pass (x := .inLoop c) rfl (fun _ _ => .inl (by simp)) Dk⟩
 | ret=>exact⟨_,a₁,w₁,hq,.pass (x := .inLoop c) rfl (fun _ _ => .inl (by simp)) Dk⟩
 | panic ch=>exact⟨_,a₁,w₁,hq,.pass (x := .inLoop c) rfl (fun _ _ => .inl (by simp)) Dk⟩
 | outgrown=>exact⟨_,a₁,w₁,hq,.pass (x := .inLoop c) rfl (fun _ _ => .inl (by simp)) Dk⟩
def xit:X->Exit
 | .normal => .normal
 | .exit i => .exit i
 | .ret => .ret
def VZ (P:Program) (run:Nat->Code->Tm->Hp->Option (X × Tm × Hp)):Prop:=
 ∀ (n:Nat) (c:Code) (t:Tm) (H:Hp) (x:X) (t':Tm) (H':Hp),run n c t H=some (x,t',H')->
  ∀ (F:Nat->Prop) (W:World) (e:Em) (a:Act) (w:World) (Q:Exit->Act->World->Prop),RH P.globals.size F W e H w->TR e n t a->
   (∀ e' a' w',e.le e'->RH P.globals.size F W e' H' w'->TR e' n t' a'->a'.defers=a.defers->Q (xit x) a' w')->
   c.wp P Q a w/\∀ b,c = .loop b->xd P b Q a w
theorem abf (h:RH P.globals.size F W e H w) {t:TypeId} {a v:AV} {a':Value} (ha:VR e a a') (hl:rJ P H t a=some v) :
  ∃ ad v',a' = .pointer (some ad)/\(loadVar t ad).run P w = .ok v' w/\VR e v v':=by
 obtain⟨v',h1,h2⟩:=Zd h ha hl
 unfold rJ at hl
 split at hl
 ·obtain⟨o,hi,ho,rfl⟩:=ha.p8
  refine⟨_,v',rfl,?_,h2⟩
  simpa[Instr.loadAt,Instr.sureAddr] using h1
 ·cases hl
theorem M6 (h:RH P.globals.size F W e H w) {n:Nat} {t:Tm} {a:Act} (ht:TR e n t a):∀ (l:List ResultVar) (vs:List AV),tu P t H l=some vs->
  ∃ ws,(l.mapM (fun (r:ResultVar)=>match r with | .tmp t=>(Pure.pure (a.tmps.getD t undef):Sem Value) | .cell ad ty=>do loadVar ty (<-asAddr (a.tmps.getD ad undef)))).run P w = .ok ws w/\aP e vs ws
 | [],vs,hr=>by cases hr;exact⟨[],by simp,.nil e⟩
 | .tmp x::l,vs,hr=>by
  unfold tu at hr
  split at hr
  ·rename_i l' qG
   cases hr
   obtain⟨ws,h1,h2⟩:=M6 h ht l l' qG
   exact⟨a.tmps.getD x undef::ws,by rw[List.mapM_cons,Sem.run_bind,Sem.run_pure,Result.andThen_ok,Sem.run_bind,h1];rfl,.cons (ht.val x) h2⟩
  ·cases hr
 | .cell ad ty::l,vs,hr=>by
  unfold tu at hr
  split at hr
  ·rename_i v l' hv qG
   cases hr
   obtain⟨ws,h1,h2⟩:=M6 h ht l l' qG
   obtain⟨p,v',h3,h4,h5⟩:=abf h (ht.val ad) hv
   refine⟨v'::ws,?_,.cons h5 h2⟩
   rw[List.mapM_cons,Sem.run_bind]
   have:(do loadVar ty (<-asAddr (a.tmps.getD ad undef)):Sem Value).run P w = .ok v' w:=by
    rw[h3];simp[asAddr,h4]
   rw[this,Result.andThen_ok,Sem.run_bind,h1]
   rfl
  ·cases hr
theorem PH (h:RH P.globals.size F W e H w) {n:Nat} {t:Tm} {a:Act} (ht:TR e n t a) {fn:Func} {vs:List AV} (hr:tu P t H fn.results.toList=some vs) :
  ∃ v,(results fn a.tmps).run P w = .ok v w/\VR e (KA vs) v:=by
 obtain⟨ws,h1,h2⟩:=M6 h ht _ _ hr
 have hm:(fn.results.mapM (fun (r:ResultVar)=>match r with | .tmp t=>(Pure.pure (a.tmps.getD t undef):Sem Value) | .cell ad ty=>do loadVar ty (<-asAddr (a.tmps.getD ad undef)))).run P w = .ok ws.toArray w:=by
  rw[<-Array.toArray_toList (xs:=fn.results),List.mapM_toArray,Sem.run_map,h1];rfl
 unfold results
 have lV:(fn.results.mapM fun
  | .tmp t=>Pure.pure (a.tmps.getD t undef)
  | .cell ad t=>do loadVar t (<-asAddr (a.tmps.getD ad undef)):Sem (Array Value)).run P w = .ok ws.toArray w:=hm
 refine⟨(if h:ws.toArray.size=1 then ws.toArray[0] else .tuple ws.toArray),?_,?_⟩
 ·rw[Sem.run_bind]
  exact aa0 (congrArg (fun r:Result (Array Value)=>r.andThen (fun vs w'=>(Pure.pure (if h:vs.size=1 then vs[0] else .tuple vs):Sem Value).run P w')) lV) rfl
 ·cases vs with
  | nil=>rw[h2.jQ];exact .tuple' (.nil e)
  | cons v r=>
   obtain⟨v',ws',rfl,hv,eV⟩:=h2.cons_inv
   cases r with
   | nil=>rw[eV.jQ];exact hv
   | cons v2 r2=>
    obtain⟨Bw,ws2,rfl,wu,nZ⟩:=eV.cons_inv
    have:¬ (v'::Bw::ws2).toArray.size=1:=by simp
    rw[dif_neg this]
    exact .tuple' h2
def Fp:Ext->Array Value->Sem Value
 | .same=>Extern.AbiNoEscape.same
 | .Fw t=>Extern.BytealgMakeNoZero.makeNoZero #[] #[t]
 | .Kg=>Extern.BytealgIndexByte.indexByte
 | .count=>Extern.BytealgCount.count
def vY (P:Program) (ext:Nat->Option Ext):Prop:=
 ∀ bf k,ext bf=some k->∀ (aY:Array Value) (w:World),(callFunc bf aY).run P w=(do Pure.pure (Next.value (<-Fp k aY)):Sem Next).run P w
def tU (P:Program) (aU:Nat->Option Prim):Prop:=
 ∀ bf p,aU bf=some p->∀ (args:List AV) (H:Hp) (v:AV) (H':Hp),p args H=some (v,H')->
  ∀ (F:Nat->Prop) (W:World) (e:Em) (w:World) (aY:Array Value),RH P.globals.size F W e H w->aP e args aY.toList->
   (callFunc bf aY).run P w = .ok (.enter bf aY) w/\Calls P bf aY w (De P.globals.size F W e v H')
def oz (P : Program) : Prop := (P.funcs.toList.all fun fn => fn.body.isNone||fn.name != "runtime.NumGoroutine") = true
theorem wJ (hN:oz P) {bf:Nat} {fn:Func} {b:Code} (hf:P.funcs[bf]? = some fn) (hb:fn.body=some b) (aY:Array Value) (w:World):(callFunc bf aY).run P w = .ok (.enter bf aY) w:=by
 have hn : (fn.name == "runtime.NumGoroutine") = false := by
  unfold oz at hN
  rw[adn] at hN
  have:=hN fn (by have:=Array.mem_of_getElem? hf;simpa using this)
  rw[hb] at this
  simp at this
  simp[this]
 unfold callFunc
 rw[Sem.run_bind,run_program,Result.andThen_ok]
 simp only[hf,hn,abD,if_false,hb,Option.isNone_some]
 rfl
theorem Sb:∀ (n t:Nat) (acc:Array Value),(Extern.BytealgMakeNoZero.digits n t acc).size=acc.size+n
 | 0,t,acc=>rfl
 | n+1,t,acc=>by rw[Extern.BytealgMakeNoZero.digits,Sb n];simp;omega
theorem Uu (c:UInt8):∀ (l:List UInt8) (k:Nat) (q:Nat->Bool),(∀ (j:Nat) (h:j<l.length),q (k+j)=(l[j]==c))->(List.range' k l.length).find? q=jC c.toNat (l.map (·.toNat)) k
 | [],k,q,_=>rfl
 | b::l,k,q,h=>by
  have h0:=h 0 (by simp)
  simp only[adx,List.getElem_cons_zero] at h0
  have e:(b==c)=Nat.beq b.toNat c.toNat:=by
   rw[aii,Nat.beq_eq]
   simp[UInt8.toNat_inj]
  rw[abx,aiw,List.find?_cons,h0,acJ,jC,e]
  cases Nat.beq b.toNat c.toNat with
  | true=>rfl
  | false=>
   simp only[cond_false]
   refine Uu c l (k+1) q (fun j hj => ?_)
   have:=h (j+1) (by simp;omega)
   rw[show k+1+j=k+(j+1) by omega,this,List.getElem_cons_succ]
theorem Vy (c:UInt8):∀ l:List UInt8,Lib.countByte l c=gh c.toNat (l.map (·.toNat))
 | []=>rfl
 | b::l=>by
  have e:(b==c)=Nat.beq b.toNat c.toNat:=by
   rw[aii,Nat.beq_eq]
   simp[UInt8.toNat_inj]
  have ih:=Vy c l
  unfold Lib.countByte at ih ⊢
  rw[List.count_cons,acJ,gh,e,ih]
  cases Nat.beq b.toNat c.toNat<;>rfl
theorem firstIdx_eq (s:ByteArray) (c:UInt8):firstIdx s c=(match jC c.toNat (bytes s) 0 with | some i=>(i:Int) | none => -1):=by
 have hs:s.size=s.data.toList.length:=(ahy).symm
 have h:=Uu c s.data.toList 0 (fun i=>s[i]! == c) (fun j hj=>by
  have jn:j<s.size:=by rw[hs];exact hj
  simp only[adt]
  rw[getElem!_pos s j jn]
  have e:s[j]=s.data.toList[j]:=by rw[Array.getElem_toList];rfl
  rw[e])
 unfold firstIdx
 rw[List.range_eq_range',hs,h]
 rfl
theorem Tt (h:RH P.globals.size F W e H w) {k:Ext} {args:List AV} {aY:Array Value} {v:AV} {H':Hp} (ha:aP e args aY.toList) (hx:Cm P k args H=some (v,H')) :
  ∃ v' w' e',(Fp k aY).run P w = .ok v' w'/\e.le e'/\RH P.globals.size F W e' H' w'/\VR e' v v':=by
 unfold Cm at hx
 split at hx
 ·cases hx
  obtain⟨x',r,h1,h2,h3⟩:=ha.cons_inv
  rw[h3.jQ] at h1
  obtain rfl:aY = #[x']:=ado.1 h1
  exact⟨x',w,e,rfl,e.le_refl,h,h2⟩
 ·rename_i t n
  obtain⟨x',r,h1,h2,h3⟩:=ha.cons_inv
  rw[h3.jQ] at h1
  obtain rfl:aY = #[x']:=ado.1 h1
  cases h2.fN
  split at hx
  ·rename_i el hu
   split at hx
   ·rename_i hn
    simp only[aaF,ab7] at hx
    obtain⟨⟨i,H2⟩,eh,rfl,rfl⟩:=hx
    let w1:World:={ w with drawn:=w.drawn+1 }
    let cap:=(Question.appendCap n.toNat 0 el).cut (w.tape w.drawn (.appendCap n.toNat 0 el))
    have ic:n.toNat<=cap:=Nat.le_add_right _ _
    let bs := (Question.extern "internal/bytealg.MakeNoZero.bytes" 0).cut (w1.tape w1.drawn (.extern "internal/bytealg.MakeNoZero.bytes" 0))
    let row:=(Extern.BytealgMakeNoZero.digits cap bs #[])
    have Cn:row.size=cap:=by rw[Sb];simp
    have hl:aP e (List.replicate n.toNat AV.du) (row.toList.take n.toNat):=by
     refine⟨by simp[Cn];omega,fun j a b hj hb => ?_⟩
     rw[ahe] at hj
     split at hj
     ·cases hj;exact .du _
     ·cases hj
    obtain⟨e',he,g1,g2,g3,g4,oR⟩:=((h.drawn (w.drawn+1)).drawn (w.drawn+1+1)).newRow (rest:=row.toList.drop n.toNat) (fz:=(0,0)) eh hl (fun _=>rfl) (by simp)
    have ak7:(row.toList.take n.toNat++row.toList.drop n.toNat).toArray=row:=by rw[agx]
    have hlen:(row.toList.take n.toNat++row.toList.drop n.toNat).length=cap:=by rw[agx];simp[Cn]
    refine⟨.slice (some ⟨w.heap.size,0,none⟩) n.toNat cap,_,e',?_,he,oR,VR.Ab g2 g1 (by rw[g3];simp) ic ic (by simp) (by rw[g4,hlen];omega)⟩
    rw[ak7]
    have Wv:¬ (n<0\/n>2 ^ 48):=by omega
    have ajN:(decide (n<0)||decide (n>2 ^ 48))=false:=by simp;omega
    have f1:(Question.appendCap n.toNat 0 el).forced=false:=rfl
    have f2 : (Question.extern "internal/bytealg.MakeNoZero.bytes" 0).forced = false := rfl
    have zP:Fp (.Fw t) #[.int .i64 n]=(do
      let some t := (#[t] : Array TypeId)[0]? | stuck "bytealg.MakeNoZero: no result type"
      let .slice elem <-underlying t | stuck "bytealg.MakeNoZero: slice type expected"
      if n<0||n>2 ^ 48 then runtimePanic (.error "makeslice: len out of range")
      let cap <-choose (.appendCap n.toNat 0 elem)
      askRoom cap
      let bytes <-choose (.extern "internal/bytealg.MakeNoZero.bytes" 0)
      let a <-newRow elem (Extern.BytealgMakeNoZero.digits cap bytes #[])
      Pure.pure (.slice (some a) n.toNat cap):Sem Value):=rfl
    rw[zP]
    simp only[adO,acP,Sem.run_bind,aJ hu,Result.andThen_ok,ajN,abD,if_false,run_choose,f1,f2,run_askRoom,newRow,run_newObj,Sem.run_pure]
    rfl
   ·cases hx
  ·cases hx
 ·rename_i s n
  cases hx
  obtain⟨x',r,h1,h2,h3⟩:=ha.cons_inv
  obtain⟨y',r2,h4,h5,h6⟩:=h3.cons_inv
  rw[h4,h6.jQ] at h1
  obtain rfl:aY = #[x',y']:=ado.1 h1
  cases h5.fN
  obtain⟨s',rfl,rfl⟩:=h2.lR
  refine⟨_,w,e,run_indexByte_string s' n w,e.le_refl,h,?_⟩
  rw[firstIdx_eq]
  have:(n.toNat.toUInt8).toNat=n.toNat % 256:=by simp
  rw[this]
  exact .int .i64 _
 ·rename_i s n
  cases hx
  obtain⟨x',r,h1,h2,h3⟩:=ha.cons_inv
  obtain⟨y',r2,h4,h5,h6⟩:=h3.cons_inv
  rw[h4,h6.jQ] at h1
  obtain rfl:aY = #[x',y']:=ado.1 h1
  cases h5.fN
  obtain⟨s',rfl,rfl⟩:=h2.lR
  refine⟨_,w,e,Lib.run_countString s' n w,e.le_refl,h,?_⟩
  have:(n.toNat.toUInt8).toNat=n.toNat % 256:=by simp
  rw[Vy,this]
  exact .int .i64 _
 ·cases hx
theorem aad {ext:Nat->Option Ext} {aU:Nat->Option Prim} (hN:oz P) (hE:vY P ext) (hP:tU P aU) {run:Nat->Code->Tm->Hp->Option (X × Tm × Hp)} (iV:VZ P run) :
  rC P (Cb P ext aU run):=by
 intro g args H v H' hc
 unfold Cb at hc
 split at hc
 ·rename_i bf first cap
  refine⟨bf,first,cap,rfl,?_⟩
  intro F W e w aY hR lD
  split at hc
  ·rename_i p hp
   exact .inr (hP bf p hp _ H v H' hc F W e w aY hR lD)
  ·split at hc
   ·rename_i fn hf
    split at hc
    ·rename_i b hb
     cases hle:(Nat.ble (first++args++cap).length fn.ntmps&&Nat.blt fn.ntmps 4294967296) with
     | false=>rw[hle] at hc;cases hc
     | true=>
     rw[hle] at hc
     simp only[cond_true] at hc
     rw[aa9,adH,adq] at hle
     refine .inr ⟨wJ hN hf hb aY w,?_⟩
     have hlen:aY.size=(first++args++cap).length:=by have:=lD.1;simpa using this
     have hT:TR e fn.ntmps (Tr.cC .nil 0 (first++args++cap)) { tmps:=aY++Array.replicate (fn.ntmps-aY.size) undef,defers:=[] }:=by
      refine⟨by simp;omega,fun x => ?_⟩
      rw[Tr.Bz .nil _ _ _ _ (by omega)]
      simp only[adt,ab2,true_and,afC]
      by_cases hx:x<(first++args++cap).length
      ·rw[if_pos hx]
       have h1:(first++args++cap)[x]? = some (first++args++cap)[x]:=aaM hx
       obtain⟨v',h2,h3⟩:=lD.get h1
       rw[h1,ae0,aeo,Array.getElem?_append_left (by omega),<-adw,h2]
       exact h3
      ·rw[if_neg hx]
       have:(aY++Array.replicate (fn.ntmps-aY.size) undef).getD x undef=undef:=by
        rw[aeo,Array.getElem?_append_right (by omega),Array.getElem?_replicate]
        split<;>rfl
       simp only[this,Tr.get_nil]
       exact VR.undef
     have fin:∀ (x:X) (t2:Tm) (H2:Hp),run fn.ntmps b (Tr.cC .nil 0 (first++args++cap)) H=some (x,t2,H2)->(x = .normal\/x = .ret)->(tu P t2 H2 fn.results.toList).map (fun l=>(KA l,H2))=some (v,H')->
       Calls P bf aY w (De P.globals.size F W e v H'):=by
      intro x t2 H2 hr iO Aj
      simp only[aaF,ab7] at Aj
      obtain⟨vs,sj,rfl,rfl⟩:=Aj
      refine calls_of_wp hf hb (iV _ _ _ _ _ _ _ hr F W e _ w _ hR hT ?_).1
      intro e' a' w' he bJ cZ hd
      obtain⟨u,hu,iq⟩:=PH bJ cZ sj
      rcases iO with rfl | rfl
      ·exact⟨hd,u,hu,e',u,rfl,he,bJ,iq⟩
      ·exact⟨hd,u,hu,e',u,rfl,he,bJ,iq⟩
     split at hc
     ·cases hc
     ·rename_i x t2 H2 aH hr
      cases x with
      | normal=>exact fin _ t2 H2 hr (.inl rfl) hc
      | ret=>exact fin _ t2 H2 hr (.inr rfl) hc
      | exit i=>exact (aH i rfl).elim
     ·cases hc
    ·rename_i hb
     split at hc
     ·rename_i k hk
      obtain⟨v',w',e',h1,h2,h3,h4⟩:=Tt hR lD hc
      refine .inl ⟨v',w',e',?_,h2,h3,h4⟩
      rw[hE bf k hk,Sem.run_bind,h1]
      rfl
     ·cases hc
   ·cases hc
 ·cases hc
theorem ac3 {ext:Nat->Option Ext} {aU:Nat->Option Prim} (hm:P.follows .mixedOrders=true) (hN:oz P) (hE:vY P ext) (hP:tU P aU):∀ f,VZ P (code P ext aU f):=by
 intro f
 induction f with
 | zero=>intro n c t H x t' H' h;cases h
 | succ f ih=>
  have gj:rC P (Cb P ext aU (code P ext aU f)):=aad hN hE hP ih
  intro n c t H x t' H' hc F W e a w Q hR hT hQ
  unfold code at hc
  split at hc
  ·cases hc
   exact⟨wp_skip (hQ e a w e.le_refl hR hT rfl),by intro b q;cases q⟩
  ·cases hc
   exact⟨wp_label (hQ e a w e.le_refl hR hT rfl),by intro b q;cases q⟩
  ·rename_i c1 c2
   refine⟨wp_seq ?_,by intro b q;cases q⟩
   split at hc
   ·rename_i t1 H1 h1
    refine (ih _ _ _ _ _ _ _ h1 F W e a w _ hR hT ?_).1
    intro e' a' w' he bJ cZ hd
    refine (ih _ _ _ _ _ _ _ hc F W e' a' w' _ bJ cZ ?_).1
    intro e2 a2 w2 AG gJ mF qg
    exact hQ e2 a2 w2 (Em.le_trans he AG) gJ mF (qg.trans hd)
   ·rename_i aH
    refine (ih _ _ _ _ _ _ _ hc F W e a w _ hR hT ?_).1
    intro e' a' w' he bJ cZ hd
    have:=hQ e' a' w' he bJ cZ hd
    cases x with
    | normal=>exact absurd hc (aH t' H')
    | exit i=>exact this
    | ret=>exact this
  ·rename_i cc c1 c2
   split at hc
   ·rename_i b hb
    have hv:=VR.ev hR hT cc
    rw[hb] at hv
    have cl:=hv.so
    refine⟨wp_cond cl ?_,by intro b q;cases q⟩
    cases b with
    | true=>exact (ih _ _ _ _ _ _ _ hc F W e a w Q hR hT hQ).1
    | false=>exact (ih _ _ _ _ _ _ _ hc F W e a w Q hR hT hQ).1
   ·cases hc
  ·rename_i i b
   refine⟨wp_block ?_,by intro b q;cases q⟩
   split at hc
   ·rename_i j t1 H1 h1
    refine (ih _ _ _ _ _ _ _ h1 F W e a w _ hR hT ?_).1
    intro e' a' w' he bJ cZ hd
    show Exit.inBlock i Q (.exit j) a' w'
    cases hj:Nat.beq j i with
    | true=>
     rw[hj] at hc
     cases hc
     simp only[Exit.inBlock,abC hj,if_true]
     exact hQ e' a' w' he bJ cZ hd
    | false=>
     rw[hj] at hc
     cases hc
     have aH:¬ j=i:=fun q=>by rw[q,afB] at hj;cases hj
     simp only[Exit.inBlock,if_neg aH]
     exact hQ e' a' w' he bJ cZ hd
   ·rename_i aH
    refine (ih _ _ _ _ _ _ _ hc F W e a w _ hR hT ?_).1
    intro e' a' w' he bJ cZ hd
    have:=hQ e' a' w' he bJ cZ hd
    cases x with
    | normal=>exact this
    | exit j=>exact absurd hc (aH j t' H')
    | ret=>exact this
  ·rename_i b
   have hl:xd P b Q a w:=by
    refine PV ?_
    split at hc
    ·rename_i t1 H1 h1
     refine (ih _ _ _ _ _ _ _ h1 F W e a w _ hR hT ?_).1
     intro e' a' w' he bJ cZ hd
     show Exit.then (xd P b Q) Q .normal a' w'
     refine (ih _ _ _ _ _ _ _ hc F W e' a' w' Q bJ cZ ?_).2 b rfl
     intro e2 a2 w2 AG gJ mF qg
     exact hQ e2 a2 w2 (Em.le_trans he AG) gJ mF (qg.trans hd)
    ·rename_i aH
     refine (ih _ _ _ _ _ _ _ hc F W e a w _ hR hT ?_).1
     intro e' a' w' he bJ cZ hd
     have:=hQ e' a' w' he bJ cZ hd
     cases x with
     | normal=>exact absurd hc (aH t' H')
     | exit i=>exact this
     | ret=>exact this
   exact⟨P1 hl,by intro b' q;cases q;exact hl⟩
  ·cases hc
   exact⟨wp_exit (hQ e a w e.le_refl hR hT rfl),by intro b q;cases q⟩
  ·cases hc
   exact⟨wp_ret (hQ e a w e.le_refl hR hT rfl),by intro b q;cases q⟩
  ·rename_i id ops d
   refine⟨?_,by intro b q;cases q⟩
   split at hc
   ·rename_i t1 H1 h1
    cases hc
    cases d with
    | true=>exact Xv hm gj h1 hR hT hQ
    | false=>
     refine wp_region ?_
     have:=YI (Q:=Q) gj ops.toList 0 t H e a w (by simp) h1 hR hT hQ
     rw[List.range_eq_range']
     simpa using this
   ·cases hc
  ·cases hc
theorem aiR {ext:Nat->Option Ext} {aU:Nat->Option Prim} (hm:P.follows .mixedOrders=true) (hN:oz P) (hE:vY P ext) (hP:tU P aU) {fuel g:Nat} {args:List AV} {v:AV} {H':Hp}
  (h:Kp P ext aU fuel g args H=some (v,H')) {fn:Func} {b:Code} (hf:P.funcs[g]? = some fn) (hb:fn.body=some b) {aY:Array Value} (hR:RH P.globals.size F W e H w) (ha:aP e args aY.toList) :
  Calls P g aY w (De P.globals.size F W e v H'):=by
 obtain⟨bf,first,cap,hg,hs⟩:=aad hN hE hP (ac3 hm hN hE hP fuel) _ _ _ _ _ h
 cases hg
 rcases hs F W e w aY hR (by simpa using ha) with⟨v',w',e',h1,_⟩ | ⟨_,h2⟩
 ·rw[wJ hN hf hb] at h1
  cases h1
 ·exact h2
end
end Go.Proofs.YtodfajmihkagnaaGreatDoor.Am
