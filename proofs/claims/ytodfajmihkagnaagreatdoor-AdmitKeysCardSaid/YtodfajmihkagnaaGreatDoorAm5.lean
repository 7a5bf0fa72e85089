/- Laws that the proof uses. -/
import Derived.Test.YtodfajmihkagnaaGreatDoorAm4
set_option linter.unusedVariables false
set_option linter.unusedSimpArgs false
namespace Go.Proofs.YtodfajmihkagnaaGreatDoor.Am
section
section
section
section
section
theorem UO {n:Nat}{dst:Option Tmp}{v:AV}{t t':Tm}(h:gF n dst v t=some t')(d:Tmp):t'.get d=if dst=some d then some v else t.get d:=by
 unfold gF at h
 split at h
 ·cases h;simp
 ·rename_i x
  cases hb:(Nat.blt x n&&Nat.blt x 4294967296) with
  | false=>rw[hb] at h;cases h
  | true=>
   rw[hb] at h
   cases h
   simp only[aau,adE] at hb
   rw[Tr.Gi _ _ _ _ _ (by omega)]
   by_cases hx:d=x
   ·subst hx;simp
   ·rw[if_neg hx,if_neg (fun q=>hx (acN q).symm)]
theorem ao2 {n:Nat}{dst:Option Tmp}{v:AV}{t t':Tm}(h:gF n dst v t=some t'){d:Tmp}(hd:dst=some d):d<n:=by
 subst hd
 unfold gF at h
 simp only at h
 cases hb:(Nat.blt d n&&Nat.blt d 4294967296) with
 | false=>rw[hb] at h;cases h
 | true=>simp only[aau,adE] at hb;exact hb.1
theorem RH.weaken {G:Nat}{F F':Nat->Prop}{W:World}{e:Em}{H:Hp}{w:World}(h:RH G F W e H w)(hF:∀ k,F' k->F k):RH G F' W e H w:=
 h.HV (fun k hk=>h.frame k (hF k hk)) (fun i o ho hw hk=>(h.obj i o ho).2.choose_spec.2.2 hw (hF _ hk)) h.os h.tape h.output h.size
theorem RH.Kz {G:Nat}{F:Nat->Prop}{W:World}{e:Em}{H:Hp}{w:World}(h:RH G F W e H w):RH G F w e H w:=
 h.HV (fun k hk=>⟨(h.frame k hk).1,rfl⟩) (fun i o ho hw hk=>(h.obj i o ho).2.choose_spec.2.2 hw hk) rfl rfl rfl (aaC _)
theorem RH.Jc {G:Nat}{F F':Nat->Prop}{W:World}{e:Em}{H:Hp}{w:World}(h:RH G F W e H w){o:AO}{i:Nat}{H':Hp}(ha:Am.alloc H o=some (i,H')){b n:Nat}{ob:Obj}
  (hb:w.heap[b]? = some ob) (Jt:∀ j oj,H.h.get j=some oj->e.b j≠b) (dO:OR (e.ext b 0 n) i o ob) (hF:∀ k,F' k->F k/\k≠b):i=e.N/\RH G F' W (e.ext b 0 n) H' w:=by
 obtain⟨rfl,aJ,rfl⟩:=vz ha
 have hN:=h.N
 have ey:∀ j,(H.h.put 34 H.next o).get j=if j=H.next then some o else H.h.get j:=fun j=>Tr.fj _ _ _ _
 have hle:=Em.pq e b 0 n
 have fg:∀ j oj,H.h.get j=some oj->(e.ext b 0 n).b j=e.b j:=fun j oj hj=>(hle.2 j (h.obj j oj hj).1).1
 refine⟨hN.symm,?_,?_,?_,?_,?_,h.os,h.tape,h.output,h.size,by obtain⟨g1,g2,g3⟩:=h.lC;rw[(hle.2 G g2).2.2];simp[Em.ext];omega⟩
 ·simp[Em.ext,hN]
 ·intro j oj hj
  simp only at hj
  rw[ey] at hj
  by_cases ej:j=H.next
  ·subst ej
   rw[if_pos rfl] at hj
   cases hj
   refine⟨by simp[Em.ext,hN],ob,?_,dO,?_⟩
   ·rw[<-hN,Em.mO];exact hb
   ·intro _ hk
    rw[<-hN,Em.mO] at hk
    exact (hF _ hk).2 rfl
  ·rw[if_neg ej] at hj
   obtain⟨a,oV,b2,c2,d2⟩:=h.obj j oj hj
   refine⟨by simp[Em.ext];omega,oV,?_,c2.mono hle a,?_⟩
   ·rw[fg j oj hj];exact b2
   ·intro hw hk;rw[fg j oj hj,(hle.2 G h.lC.2.1).2.2] at hw;rw[fg j oj hj] at hk;exact d2 hw (hF _ hk).1
 ·intro j k oj ok hj hk hq he
  simp only at hj hk
  rw[ey] at hj hk
  by_cases ej:j=H.next<;>by_cases ek:k=H.next
  ·omega
  ·rw[if_neg ek] at hk
   rw[fg k ok hk,ej,<-hN,Em.mO] at he
   exact absurd he.symm (Jt k ok hk)
  ·rw[if_neg ej] at hj
   rw[fg j oj hj,ek,<-hN,Em.mO] at he
   exact absurd he (Jt j oj hj)
  ·rw[if_neg ej] at hj
   rw[if_neg ek] at hk
   rw[fg j oj hj,(hle.2 G h.lC.2.1).2.2] at hq
   rw[fg j oj hj,fg k ok hk] at he
   exact h.inj j k oj ok hj hk hq he
 ·intro g hg
  obtain⟨a,b',c⟩:=h.pK g hg
  obtain⟨x,y,_⟩:=hle.2 g a
  exact⟨by simp[Em.ext];omega,x.trans b',y.trans c⟩
 ·intro k hk
  exact h.frame k (hF k hk).1
theorem Ze {e:Em}{l:List AV}{cs:Array Value}{el b:Nat}(hl:aP e l cs.toList)(hlen:l.length<=16777216):OR (e.ext b 0 cs.size) e.N (.cells (Tr.bY .nil 0 l) 0 l.length el 0) (.cells cs el (0,0)):=by
 refine .cells _ _ _ _ _ _ _ (by rw[Em.vw]) ?_ (fun _=>rfl) (by simp) (fun _=>Em.mJ ..)
 intro k v _ hk hg
 rw[Tr.Cl .nil _ _ _ _ (by omega)] at hg
 rw[if_pos ⟨by omega,by omega⟩,agq] at hg
 obtain⟨v',bQ,hr⟩:=hl.get hg
 exact⟨k,by rw[Em.mJ];omega,v',by rw[<-adS];exact bQ,hr.mono (Em.pq ..)⟩
structure o7 (P:Program)(cf:CF)(n:Nat)(ops:Array Oper)(B:List Nat)(t0:Tm)(H0:Hp)(TP TE:Nat->Tm)(HB HH:Nat->Hp)(V:Nat->AV)(X:Nat->Bool):Prop where
 form:Form ops B
 t1:TP 0=t0
 t2:TE 0=t0
 h1:HB 0=H0
 h2:HH 0=H0
 step:∀ j o,ops[j]? = some o->KW P cf n ops o (X j) (V j) (TP j) (TE j) (TP (j+1)) (TE (j+1)) (HB j) (HH j) (HB (j+1)) (HH (j+1))
 d1:∀ i oi,ops[i]? = some oi->X i=true->kd P oi = .cW->∀ j oj,ops[j]? = some oj->X j=true->(kd P oj = .cW\/kd P oj = .late)->j<i->(B.getD i 0).testBit j=true
 d2:∀ i oi,ops[i]? = some oi->X i=true->kd P oi = .cW->∀ j oj,ops[j]? = some oj->X j=true->kd P oj = .read->j<i->(B.getD i 0).testBit j=true\/
  ∃ h',iC P (ev P.globals.size (TP j)) oj (HB (i+1))=some (V j,h')
 d3:∀ i oi,ops[i]? = some oi->X i=true->kd P oi = .cW->∀ j oj,ops[j]? = some oj->X j=true->kd P oj = .read->i<j->(B.getD j 0).testBit i=true\/
  ∃ h',iC P (ev P.globals.size (TP j)) oj (HB i)=some (V j,h')
def pv (P:Program)(V:Nat->AV)(X:Nat->Bool)(j:Nat)(o:Oper):AV:=if X j=true/\kd P o = .late then .cP else V j
section
variable {P:Program}{cf:CF}{n:Nat}{ops:Array Oper}{B:List Nat}{t0:Tm}{H0:Hp}{TP TE:Nat->Tm}{HB HH:Nat->Hp}{V:Nat->AV}{X:Nat->Bool}
theorem o7.bY (R:o7 P cf n ops B t0 H0 TP TE HB HH V X){j:Nat}{o:Oper}(ho:ops[j]? = some o) :
  gF n o.dst (pv P V X j o) (TP j)=some (TP (j+1))/\gF n o.dst (V j) (TE j)=some (TE (j+1)):=by
 obtain⟨_,h⟩:=R.step j o ho
 cases hx:X j with
 | false=>
  rw[hx] at h
  obtain⟨h1,h2,h3,_⟩:=h
  simp only[pv,hx,aby,false_and,if_false]
  rw[h1];exact⟨h2,h3⟩
 | true=>
  rw[hx] at h
  cases hk:kd P o<;>rw[hk] at h<;>simp only[pv,hx,hk,true_and,if_true,reduceCtorEq,if_false,and_false]
  ·exact⟨h.2.1,h.2.2.1⟩
  ·exact⟨h.2.1,h.2.2.1⟩
  ·exact⟨h.2.1,h.2.2.1⟩
  ·exact⟨h.2.1,h.2.2.1⟩
theorem o7.ax (R:o7 P cf n ops B t0 H0 TP TE HB HH V X):∀ i,i<=ops.size->∀ d,
  (∀ j o,j<i->ops[j]? = some o->o.dst=some d->(TP i).get d=some (pv P V X j o)/\(TE i).get d=some (V j))/\
  ((∀ j o,j<i->ops[j]? = some o->o.dst≠some d)->(TP i).get d=t0.get d/\(TE i).get d=t0.get d):=by
 intro i
 induction i with
 | zero=>intro _ d;exact⟨fun j o hj=>by omega,fun _=>⟨by rw[R.t1],by rw[R.t2]⟩⟩
 | succ i ih=>
  intro hi d
  obtain⟨i1,i2⟩:=ih (by omega) d
  have ho:ops[i]? = some ops[i]:=afd (by omega)
  obtain⟨p1,p2⟩:=R.bY ho
  have g1:=UO p1 d
  have g2:=UO p2 d
  constructor
  ·intro j o hj vZ hd
   by_cases uj:j=i
   ·subst uj
    rw[ho] at vZ;cases vZ
    rw[g1,g2,if_pos hd,if_pos hd];exact⟨rfl,rfl⟩
   ·have aO:ops[i].dst≠some d:=fun q=>uj (R.form.one j i o _ d vZ ho hd q)
    rw[g1,g2,if_neg aO,if_neg aO]
    exact i1 j o (by omega) vZ hd
  ·intro jY
   have aO:=jY i _ (by omega) ho
   rw[g1,g2,if_neg aO,if_neg aO]
   exact i2 fun j o hj vZ=>jY j o (by omega) vZ
theorem o7.WO (R:o7 P cf n ops B t0 H0 TP TE HB HH V X)(p:Nat):∀ k,p+k<=ops.size->(∀ j o,p<=j->j<p+k->ops[j]? = some o->X j=true->kd P o ≠ .cW)->HB (p+k)=HB p:=by
 intro k
 induction k with
 | zero=>intro _ _;rfl
 | succ k ih=>
  intro hk aO
  have ho:ops[p+k]? = some ops[p+k]:=afd (by omega)
  obtain⟨_,h⟩:=R.step (p+k) _ ho
  have:HB (p+k+1)=HB (p+k):=by
   cases hx:X (p+k) with
   | false=>rw[hx] at h;exact h.2.2.2.1
   | true=>
    rw[hx] at h
    have hn:=aO (p+k) _ (by omega) (by omega) ho hx
    cases cl:kd P ops[p+k]<;>rw[cl] at h
    ·exact h.2.2.2.1
    ·exact h.2.2.2.1
    ·exact h.2.2.2
    ·exact absurd cl hn
  rw[<-ahI,this]
  exact ih (by omega) fun j o h1 h2=>aO j o h1 (by omega)
end
end
variable {P:Program}
theorem NZ:∀ {a b:AV},oz a b=true->a=b:=by
 intro a b h
 unfold oz at h
 split at h<;>first
  | rfl
  | (cases h;done)
  | (simp only[beq_iff_eq] at h;subst h;rfl)
  | (simp only[aau,beq_iff_eq] at h;obtain⟨h1,h2⟩:=h;subst h1;subst h2;rfl)
  | (simp only[aau] at h;obtain⟨h1,h2⟩:=h;rw[abp h1,abp h2])
  | (simp only[aau,beq_iff_eq] at h;obtain⟨⟨⟨⟨⟨h1,h2⟩,h3⟩,h4⟩,h5⟩,h6⟩:=h;rw[abp h1,abp h2,abp h3,abp h4,h5,abp h6])
  | (rw[abp h])
theorem Np:∀ {a b:List AV},ub a b=true->a=b
 | [],[],_=>rfl
 | [],_::_,h=>by simp[ub] at h
 | _::_,[],h=>by simp[ub] at h
 | a::x,b::y,h=>by
  simp only[ub,aau] at h
  rw[NZ h.1,Np h.2]
theorem ahL {a b:AV}(h:same a b=true):a=b:=by
 unfold same at h
 split at h
 ·rw[Np h]
 ·rw[Np h]
 ·simp only[aau] at h
  rw[abp h.1,NZ h.2]
 ·exact NZ h
theorem iE {x:Option AV}{H:Hp}{v:AV}{H':Hp}(h:x.map (fun v=>(v,H))=some (v,H')):x=some v/\H'=H:=by
 simp only[aaa,acn] at h
 obtain⟨a,ha,rfl,rfl⟩:=h
 exact⟨ha,rfl⟩
theorem rX {x:Option AV}{H:Hp}{v:AV}(h:x=some v):x.map (fun v=>(v,H))=some (v,H):=by rw[h];rfl
theorem adD {o:Oper}(h:kd P o = .late):(∃ t,o.op = .alloc t)\/(∃ t a b,o.op = .makeSlice t (.const a) (.const b))\/∃ a b v el,o.op = .convert a b (.const v)/\P.underlying a=some .string/\P.underlying b=some (.slice el):=by
 unfold kd at h
 cases aT:o.op<;>rw[aT] at h<;>simp only[reduceCtorEq] at h
 case alloc t=>exact .inl ⟨t,rfl⟩
 case binOp=>split at h<;>first | (cases h;done) | (split at h<;>cases h)
 case convert a b x=>
  split at h<;>first | (cases h;done) | skip
  rename_i el ha hb
  split at h
  ·rename_i v;exact .inr (.inr ⟨a,b,v,el,rfl,ha,hb⟩)
  ·cases h
 case makeSlice t l c=>
  split at h
  ·rename_i a b;exact .inr (.inl ⟨t,a,b,rfl⟩)
  ·cases h
 case call c=>split at h<;>cases h
theorem abR {a b:TypeId}{x v:AV}{H H':Hp}{i j:IntKind}(ha:P.underlying a=some (.int i))(hb:P.underlying b=some (.int j))(h:jr P a b x H=some (v,H')) :
  H'=H/\∀ H2,jr P a b x H2=some (v,H2):=by
 unfold jr at h ⊢
 rw[ha,hb] at h ⊢
 cases x<;>simp only at h ⊢ <;> first | (cases h;exact⟨rfl,fun _=>rfl⟩) | (cases h;done) | (simp at h;done) | skip
theorem WL {a b : TypeId}{x v : AV}{H H' : Hp}(ha : P.underlying a = some .string)(hb : P.underlying b = some .string)(h : jr P a b x H = some (v, H')) :
    H' = H /\ ∀ H2, jr P a b x H2 = some (v, H2) := by
  unfold jr at h ⊢
  rw[ha, hb] at h ⊢
  cases x<;>simp only at h ⊢ <;> first
    | (cases h;exact⟨rfl, fun _ => rfl⟩) | (cases h;done) | (simp at h;done)
    | (split at h
       · rename_i q;cases h;exact⟨rfl, fun _ => by rw[if_pos q]⟩
       · cases h)
    | skip
theorem aiJ {a b e:TypeId}{x v:AV}{H H':Hp}(ha:P.underlying a=some (.slice e))(hb:P.underlying b=some .string)(h:jr P a b x H=some (v,H')):H'=H:=by
 unfold jr at h
 rw[ha,hb] at h
 cases x<;>simp only at h<;>first
  | (cases h;rfl) | (cases h;done) | (simp at h;done)
  | (split at h<;>first | (cases h;rfl) | (cases h;done) | skip)
  | skip
 rename_i q
 cases hz:Nat.beq _ 0 with
 | true=>rw[hz] at h;cases h;rfl
 | false=>
  rw[hz] at h
  simp only[cond_false,aa6,aaa,acn] at h
  obtain⟨_,_,_,_,_,rfl⟩:=h
  rfl
theorem ZJ {ρ:Operand->AV}{o:Oper}{H H':Hp}{v:AV}(hk:kd P o = .pure\/kd P o = .read)(h:iC P ρ o H=some (v,H')):H'=H:=by
 unfold iC at h
 unfold kd at hk
 cases aT:o.op<;>rw[aT] at h hk<;>simp only[reduceCtorEq,or_self] at h hk
 case move x=>cases h;rfl
 case assign x=>cases h;rfl
 case pick c a b=>
  split at h
  ·cases h;rfl
  ·cases h
 case build t ps=>exact (iE h).2
 case load t a=>exact (iE h).2
 case nilCheck x=>exact (iE h).2
 case binOp op t x y ty=>
  cases hg:rP P op t x y (ρ x) (ρ y) with
  | false=>rw[hg] at h;cases h
  | true=>rw[hg] at h;exact (iE h).2
 case unOp op t x=>exact (iE h).2
 case convert a b x=>
  split at hk
  ·rename_i i j ha hb;exact (abR ha hb h).1
  ·rename_i ha hb;exact (WL ha hb h).1
  ·rename_i e ha hb;exact aiJ ha hb h
  ·split at hk<;>simp at hk
  ·simp at hk
 case makeSlice t l c=>split at hk<;>simp at hk
 case makeInterface t x=>exact (iE h).2
 case makeFunc fn a b=>exact (iE h).2
 case slice t x lo hi mx=>exact (iE h).2
 case fieldAddr t x f=>exact (iE h).2
 case field t x f=>exact (iE h).2
 case indexAddr t x ix=>exact (iE h).2
 case index t x ix=>exact (iE h).2
 case lookup t x k ok=>exact (iE h).2
 case entry it=>exact (iE h).2
 case extract t ix=>
  split at h
  ·exact (iE h).2
  ·cases h
 case typeAssert x t uf ok=>exact (iE h).2
 case call c=>
  cases hc:c.callee with
  | builtin b=>
   rw[hc] at h hk
   simp only at h hk
   cases b<;>simp only[reduceCtorEq,or_self] at hk<;>(unfold gp at h;split at h<;>first | (cases h;done) | exact (iE h).2 | simp_all)
  | value f=>rw[hc] at h;cases h
  | invoke r m=>rw[hc] at h;cases h
theorem adv {op:BinOp}{t:TypeId}{x y:AV}(hk:(match op with
   | .eql | .neq=>match P.underlying t with | some (.int _) | some .string | some .bool=>Kd.pure | _ => .read
   | _ => .pure) = .pure) (H H2:Hp):eG P op t x y H=eG P op t x y H2:=by
 have heq:(op = .eql\/op = .neq)->∀ H H2:Hp,dH P 50 t x y H=dH P 50 t x y H2:=by
  intro ho H H2
  have hu:P.underlying t=some .string\/P.underlying t=some .bool\/∃ k,P.underlying t=some (.int k):=by
   rcases ho with rfl | rfl<;>(simp only at hk;split at hk<;>first | (exact .inl (by assumption)) | (exact .inr (.inl (by assumption))) | (exact .inr (.inr ⟨_,by assumption⟩)) | cases hk)
  unfold dH
  rcases hu with hu | hu | ⟨k,hu⟩<;>(rw[hu];cases x<;>cases y<;>rfl)
 cases op
 case eql=>
  have:=heq (.inl rfl) H H2
  cases x<;>cases y<;>simp only[eG,this]
 case neq=>
  have:=heq (.inr rfl) H H2
  cases x<;>cases y<;>simp only[eG,this]
 all_goals (cases x<;>cases y<;>rfl)
theorem af5 {ρ:Operand->AV}{o:Oper}{H H':Hp}{v:AV}(hk:kd P o = .pure)(h:iC P ρ o H=some (v,H'))(H2:Hp):iC P ρ o H2=some (v,H2):=by
 have hs:=ZJ (.inl hk) h
 subst hs
 unfold iC at h ⊢
 unfold kd at hk
 cases aT:o.op<;>rw[aT] at h hk<;>simp only[reduceCtorEq] at h hk ⊢
 case move x=>cases h;rfl
 case assign x=>cases h;rfl
 case pick c a b=>
  split at h
  ·cases h;simp[*]
  ·cases h
 case build t ps=>exact rX (iE h).1
 case nilCheck x=>exact rX (iE h).1
 case binOp op t x y ty=>
  cases hg:rP P op t x y (ρ x) (ρ y) with
  | false=>rw[hg] at h;cases h
  | true=>
   rw[hg] at h
   rw[adv hk H2 H']
   exact rX (iE h).1
 case unOp op t x=>exact rX (iE h).1
 case convert a b x=>
  split at hk
  ·rename_i i j ha hb;exact (abR ha hb h).2 H2
  ·rename_i ha hb;exact (WL ha hb h).2 H2
  ·cases hk
  ·split at hk<;>cases hk
  ·cases hk
 case makeSlice t l c=>split at hk<;>cases hk
 case makeInterface t x=>exact rX (iE h).1
 case makeFunc fn a b=>exact rX (iE h).1
 case fieldAddr t x f=>exact rX (iE h).1
 case field t x f=>exact rX (iE h).1
 case indexAddr t x ix=>exact rX (iE h).1
 case index t x ix=>exact rX (iE h).1
 case extract t ix=>
  split at h
  ·rename_i l hl;exact rX (iE h).1
  ·cases h
 case typeAssert x t uf ok=>exact rX (iE h).1
 case call c=>
  cases hc:c.callee with
  | builtin b=>
   rw[hc] at h hk
   simp only at h hk ⊢
   cases b<;>simp only[reduceCtorEq] at hk<;>(unfold gp at h ⊢;split at h<;>first | (cases h;done) | exact rX (iE h).1 | simp_all)
  | value f=>rw[hc] at h;cases h
  | invoke r m=>rw[hc] at h;cases h
end
section
variable {P:Program}{cf:CF}{n:Nat}{ops:Array Oper}{B:List Nat}{t0:Tm}{H0:Hp}{TP TE:Nat->Tm}{HB HH:Nat->Hp}{V:Nat->AV}{X:Nat->Bool}
def kc (P:Program)(ops:Array Oper)(X:Nat->Bool)(S:Nat->Prop)(p j:Nat):Prop:=S j/\p<=j/\X j=true/\∃ o,ops[j]? = some o/\kd P o = .late
def Mk (P:Program)(o:Oper)(b:Nat)(ob:Obj)(val:Value):Prop:=
 ∀ (t:Tm) (H H':Hp) (v:AV) (e:Em),iC P (ev P.globals.size t) o H=some (v,H')->e.N=H.next->∃ ao n,Am.alloc H ao=some (e.N,H')/\OR (e.ext b 0 n) e.N ao ob/\VR (e.ext b 0 n) v val
structure Inv (P:Program)(n:Nat)(ops:Array Oper)(B:List Nat)(t0:Tm)(HB HH:Nat->Hp)(V:Nat->AV)(X:Nat->Bool)(F:Nat->Prop)(W:World)(e0:Em)(ds:List Deferred)
  (S:Nat->Prop) (p:Nat) (e:Em) (a:Act) (w:World) (cg:Nat->Nat):Prop where
 pN:p<=ops.size
 ph:HH p=HB p
 pe:p=0\/∃ j oj,p=j+1/\ops[j]? = some oj/\X j=true/\kd P oj = .cW
 down:∀ i j,S i->(B.getD i 0).testBit j=true->S j
 cW:∀ i o,ops[i]? = some o->X i=true->kd P o = .cW->(S i↔i<p)
 rh:RH P.globals.size (fun k=>F k\/∃ j,kc P ops X S p j/\cg j=k) w e (HB p) w
 frame:∀ k,F k->w.heap[k]? = W.heap[k]?
 os:w.os=W.os
 tape:w.tape=W.tape
 output:w.output=W.output
 size:W.heap.size<=w.heap.size
 Jq:∀ j,kc P ops X S p j->e.n P.globals.size<=cg j/\¬ F (cg j)/\∀ o,ops[j]? = some o->∃ ob val,w.heap[cg j]? = some ob/\Mk P o (cg j) ob val/\∀ d,o.dst=some d->a.tmps.getD d undef=val
 Jh:∀ i j,kc P ops X S p i->kc P ops X S p j->cg i=cg j->i=j
 val:∀ j o d,ops[j]? = some o->S j->o.dst=some d->¬ kc P ops X S p j->VR e (V j) (a.tmps.getD d undef)
 DX:∀ d,(∀ j o,ops[j]? = some o->S j->o.dst≠some d)->VR e ((t0.get d).getD bJ) (a.tmps.getD d undef)
 zJ:n<=a.tmps.size
 le:e0.le e
 defers:a.defers=ds
theorem Inv.read (R:o7 P cf n ops B t0 H0 TP TE HB HH V X){F:Nat->Prop}{W:World}{e0:Em}{ds:List Deferred}{S:Nat->Prop}{p:Nat}{e:Em}{a:Act}{w:World}{cg:Nat->Nat}
  (I:Inv P n ops B t0 HB HH V X F W e0 ds S p e a w cg) {i:Nat} {o:Oper} (ho:ops[i]? = some o) (hS:¬ S i) (hr:∀ j,(B.getD i 0).testBit j=true->S j) {d:Tmp} (hd:Ch ops o d=true) :
  VR e (((TP i).get d).getD bJ) (a.tmps.getD d undef):=by
 have hi:i<ops.size:=(abZ.1 ho).1
 obtain⟨v1,v2⟩:=R.ax i (Nat.le_of_lt hi) d
 by_cases hex:∃ j o',j<i/\ops[j]? = some o'/\o'.dst=some d
 ·obtain⟨j,o',hj,fJ,eX⟩:=hex
  rw[(v1 j o' hj fJ eX).1]
  have sE:S j:=by
   have:=R.form.rd j i o' o d fJ ho eX (by omega) hd
   rw[if_pos hj] at this
   exact hr j this
  simp only[afG,pv]
  split
  ·exact .cP _
  ·rename_i hn
   refine I.val j o' d fJ sE eX (fun q=>hn ?_)
   obtain⟨_,_,hx,o2,nE,hk⟩:=q
   rw[fJ] at nE;cases nE
   exact⟨hx,hk⟩
 ·rw[(v2 fun j o' hj fJ eX=>hex ⟨j,o',hj,fJ,eX⟩).1]
  refine I.DX d fun j o' fJ sE eX => ?_
  by_cases uj:j<i
  ·exact hex ⟨j,o',uj,fJ,eX⟩
  ·by_cases xT:j=i
   ·subst xT;exact hS sE
   ·have:=R.form.rd j i o' o d fJ ho eX xT hd
    rw[if_neg (by omega)] at this
    exact hS (I.down j i sE this)
theorem aiy {o:Oper}{d:Tmp}(h:Operand.tmp d∈o.op.operands.toList):d∈tmpsOf o:=by
 unfold tmpsOf
 rw[List.mem_filterMap]
 exact⟨.tmp d,h,rfl⟩
theorem abC {o:Oper}{d:Tmp}(h:Operand.tmp d∈o.op.operands.toList):Ch ops o d=true:=by
 unfold Ch
 rw[agK]
 left
 simpa using aiy h
theorem VN {F:Nat->Prop}{W:World}{e:Em}{H:Hp}{w:World}(h:RH P.globals.size F W e H w){t:Tm}{a:Act}{x:Operand}(ht:∀ d,x = .tmp d->VR e ((t.get d).getD bJ) (a.tmps.getD d undef)) :
  VR e (ev P.globals.size t x) (a.eval x):=by
 cases x with
 | tmp d=>exact ht d rfl
 | const v=>
  simp only[Am.ev,Act.eval]
  cases hc:Am.ja v with
  | none=>exact .cP v
  | some c=>exact .ja hc
 | global g=>
  simp only[Am.ev,Act.eval]
  cases hb:Nat.blt g P.globals.size with
  | false=>exact .cP _
  | true=>
   rw[adE] at hb
   obtain⟨h1,h2,h3⟩:=h.pK g hb
   have:=VR.ptr (e:=e) g 0 0 h1 (by rw[h3];simp)
   rw[h2] at this
   exact this
 | func f=>exact .func _ (by simp) [] [] #[] #[] rfl rfl (by simp) (by simp)
theorem Inv.Jc (R:o7 P cf n ops B t0 H0 TP TE HB HH V X){F:Nat->Prop}{W:World}{e0:Em}{ds:List Deferred}{S:Nat->Prop}{p:Nat}{e:Em}{a:Act}{w:World}{cg:Nat->Nat}
  (I:Inv P n ops B t0 HB HH V X F W e0 ds S p e a w cg):∀ k,p+k<=ops.size->(∀ j o,p<=j->j<p+k->ops[j]? = some o->X j=true->kd P o ≠ .cW/\(kd P o = .late->S j))->
  ∃ e',e.le e'/\RH P.globals.size (fun q=>F q\/∃ j,kc P ops X S (p+k) j/\cg j=q) w e' (HH (p+k)) w/\
   ∀ j o d,p<=j->j<p+k->ops[j]? = some o->X j=true->kd P o = .late->o.dst=some d->VR e' (V j) (a.tmps.getD d undef):=by
 intro k
 induction k with
 | zero=>
  intro _ _
  refine⟨e,e.le_refl,?_,fun j o d h1 h2=>by omega⟩
  rw[aej,I.ph]
  exact I.rh
 | succ k ih=>
  intro hk aO
  obtain⟨e1,rj,iB,lP⟩:=ih (by omega) fun j o h1 h2=>aO j o h1 (by omega)
  have ho:ops[p+k]? = some ops[p+k]:=afd (by omega)
  obtain⟨_,aC⟩:=R.step (p+k) _ ho
  have same:HH (p+k+1)=HH (p+k)->¬ (X (p+k)=true/\kd P ops[p+k] = .late)->∃ e',e.le e'/\RH P.globals.size (fun q=>F q\/∃ j,kc P ops X S (p+(k+1)) j/\cg j=q) w e' (HH (p+(k+1))) w/\
   ∀ j o d,p<=j->j<p+(k+1)->ops[j]? = some o->X j=true->kd P o = .late->o.dst=some d->VR e' (V j) (a.tmps.getD d undef):=by
   intro hh hU
   refine⟨e1,rj,?_,?_⟩
   ·rw[<-ahI,hh]
    refine iB.weaken fun q hq => ?_
    rcases hq with hq | ⟨j,⟨q1,q2,q3⟩,q4⟩
    ·exact .inl hq
    ·exact .inr ⟨j,⟨q1,by omega,q3⟩,q4⟩
   ·intro j o d h1 h2 hj hx cl hd
    by_cases Rt:j=p+k
    ·subst Rt
     rw[ho] at hj;cases hj
     exact absurd ⟨hx,cl⟩ hU
    ·exact lP j o d h1 (by omega) hj hx cl hd
  cases hx:X (p+k) with
  | false=>
   rw[hx] at aC
   exact same aC.2.2.2.2 (by simp[hx])
  | true=>
   rw[hx] at aC
   have hn:=aO (p+k) _ (by omega) (by omega) ho hx
   cases cl:kd P ops[p+k]<;>rw[cl] at aC
   ·exact same aC.2.2.2.2 (by simp[cl])
   ·exact same aC.2.2.2.2 (by simp[cl])
   · -- a new variable
    obtain⟨hA,_,_,_⟩:=aC
    have hS:=hn.2 cl
    have hpd:kc P ops X S (p+k) (p+k):=⟨hS,aaC _,hx,_,ho,cl⟩
    have abN:kc P ops X S p (p+k):=⟨hS,by omega,hx,_,ho,cl⟩
    obtain⟨g1,g2,g3⟩:=I.Jq _ abN
    obtain⟨ob,val,Hd,EP,Nw⟩:=g3 _ ho
    obtain⟨ao,nn,dm,dO,gZ⟩:=EP _ _ _ _ e1 hA iB.N
    have Jt:∀ j oj,(HH (p+k)).h.get j=some oj->e1.b j≠cg (p+k):=by
     intro j oj hj hq
     obtain⟨a1,ob,b1,c1,d1⟩:=iB.obj j oj hj
     by_cases hjG:e1.n P.globals.size<=e1.b j
     ·exact d1 (.inr hjG) (.inr ⟨p+k,hpd,hq.symm⟩)
     ·have:=(rj.2 _ I.rh.lC.2.1).2.2
      omega
    obtain⟨_,oy⟩:=iB.Jc (F':=fun q=>F q\/∃ j,kc P ops X S (p+(k+1)) j/\cg j=q) dm Hd Jt dO (by
     intro q hq
     rcases hq with hq | ⟨j,⟨q1,q2,q3⟩,q4⟩
     ·exact⟨.inl hq,fun r=>g2 (r▸hq)⟩
     ·refine⟨.inr ⟨j,⟨q1,by omega,q3⟩,q4⟩,fun r => ?_⟩
      have:=I.Jh j (p+k) ⟨q1,by omega,q3⟩ abN (q4.trans r)
      omega)
    refine⟨_,Em.le_trans rj (Em.pq ..),by rw[<-ahI];exact oy,?_⟩
    intro j o d h1 h2 hj tY qH hd
    by_cases Rt:j=p+k
    ·subst Rt
     rw[ho] at hj;cases hj
     rw[Nw d hd]
     exact gZ
    ·exact (lP j o d h1 (by omega) hj tY qH hd).mono (Em.pq ..)
   ·exact absurd cl hn.1
end
end
theorem RH.push {G:Nat}{F:Nat->Prop}{W:World}{e:Em}{H:Hp}{w:World}(h:RH G F W e H w)(ob:Obj) :
  RH G (fun k=>F k\/k=w.heap.size) { w with heap:=w.heap.push ob } e H { w with heap:=w.heap.push ob }:=by
 refine⟨h.N,?_,h.inj,h.pK,?_,rfl,rfl,rfl,aaC _,by obtain⟨g1,g2,g3⟩:=h.lC;simp;omega⟩
 ·intro i o ho
  obtain⟨a,oV,b,c,d⟩:=h.obj i o ho
  have aJ:=(abZ.1 b).1
  refine⟨a,oV,?_,c,fun hw hk => ?_⟩
  ·simp only;rw[ahV,if_neg (by omega)];exact b
  ·rcases hk with hk | hk
   ·exact d hw hk
   ·omega
 ·intro k hk
  refine⟨?_,rfl⟩
  rcases hk with hk | hk
  ·have:=(h.frame k hk).1;simp;omega
  ·simp;omega
theorem MN {a:Act}{dst:Option Tmp}{v:Value}{n:Nat}(hn:n<=a.tmps.size)(hd:∀ d,dst=some d->d<n)(d:Tmp):(a.put dst v).tmps.getD d undef=if dst=some d then v else a.tmps.getD d undef:=by
 cases dst with
 | none=>simp[Act.put]
 | some x=>
  simp only[Act.put]
  have NV:x<a.tmps.size:=adm (hd x rfl) hn
  rw[XZ NV]
  by_cases hx:d=x
  ·subst hx;simp
  ·rw[if_neg hx,if_neg (fun q=>hx (acN q).symm)]
theorem Qk {a:Act}{dst:Option Tmp}{v:Value}:(a.put dst v).tmps.size=a.tmps.size:=by cases dst<;>simp[Act.put]
theorem Ra {a:Act}{dst:Option Tmp}{v:Value}:(a.put dst v).defers=a.defers:=by cases dst<;>rfl
section
variable {P:Program}{cf:CF}{n:Nat}{ops:Array Oper}{B:List Nat}{t0:Tm}{H0:Hp}{TP TE:Nat->Tm}{HB HH:Nat->Hp}{V:Nat->AV}{X:Nat->Bool}
 {F:Nat->Prop} {W:World} {e0:Em} {ds:List Deferred} {S:Nat->Prop} {p:Nat} {e:Em} {a:Act} {w:World} {cg:Nat->Nat}
theorem o7.lt (R:o7 P cf n ops B t0 H0 TP TE HB HH V X){i:Nat}{o:Oper}(ho:ops[i]? = some o):∀ d,o.dst=some d->d<n:=fun d hd=>ao2 (R.bY ho).2 hd
theorem Inv.quiet (R:o7 P cf n ops B t0 H0 TP TE HB HH V X)(I:Inv P n ops B t0 HB HH V X F W e0 ds S p e a w cg){i:Nat}{o:Oper}(ho:ops[i]? = some o)(hS:¬ S i)
  (hr:∀ j,(B.getD i 0).testBit j=true->S j) (hk:X i=true->kd P o ≠ .late/\kd P o ≠ .cW) {e':Em} {w':World} {v':Value}
  (he:e.le e') (hR:RH P.globals.size (fun k=>F k\/∃ j,kc P ops X S p j/\cg j=k) w e' (HB p) w') (hv:VR e' (V i) v') :
  Inv P n ops B t0 HB HH V X F W e0 ds (fun j=>S j\/j=i) p e' (a.put o.dst v') w' cg:=by
 have oD:∀ j,kc P ops X (fun j=>S j\/j=i) p j↔kc P ops X S p j:=by
  intro j
  constructor
  ·rintro⟨q1 | q1,q2,q3,o2,q4,q5⟩
   ·exact⟨q1,q2,q3,o2,q4,q5⟩
   ·subst q1
    rw[ho] at q4;cases q4
    exact absurd q5 (hk q3).1
  ·rintro⟨q1,q2⟩
   exact⟨.inl q1,q2⟩
 have aO:∀ j o2 d,ops[j]? = some o2->o2.dst=some d->j≠i->o.dst≠some d:=fun j o2 d h1 h2 h3 h4=>h3 (R.form.one j i o2 o d h1 ho h2 h4)
 have ey:=fun d=>MN (a:=a) (dst:=o.dst) (v:=v') I.zJ (R.lt ho) d
 refine⟨I.pN,I.ph,I.pe,?_,?_,?_,?_,hR.os.trans I.os,hR.tape.trans I.tape,hR.output.trans I.output,af2 I.size hR.size,?_,?_,?_,?_,by rw[Qk];exact I.zJ,Em.le_trans I.le he,by rw[Ra];exact I.defers⟩
 ·intro i' j h1 h2
  rcases h1 with h1 | h1
  ·exact .inl (I.down i' j h1 h2)
  ·subst h1;exact .inl (hr j h2)
 ·intro i' o' h1 h2 h3
  rw[<-I.cW i' o' h1 h2 h3]
  constructor
  ·rintro (q | q)
   ·exact q
   ·subst q;rw[ho] at h1;cases h1;exact absurd h3 (hk h2).2
  ·exact .inl
 ·refine (hR.weaken fun k hk => ?_).Kz
  rcases hk with hk | ⟨j,h1,h2⟩
  ·exact .inl hk
  ·exact .inr ⟨j,(oD j).1 h1,h2⟩
 ·intro k hk
  exact (hR.frame k (.inl hk)).2.trans (I.frame k hk)
 ·intro j hj
  have iU:=(oD j).1 hj
  obtain⟨g1,g2,g3⟩:=I.Jq j iU
  refine⟨by rw[(he.2 _ I.rh.lC.2.1).2.2];exact g1,g2,fun o2 h1 => ?_⟩
  obtain⟨ob,val,q3,q2,q4⟩:=g3 o2 h1
  refine⟨ob,val,?_,q2,fun d hd => ?_⟩
  ·rw[(hR.frame (cg j) (.inr ⟨j,iU,rfl⟩)).2];exact q3
  ·rw[ey,if_neg (aO j o2 d h1 hd (fun q=>hS (q▸iU.1)))];exact q4 d hd
 ·intro x y hx hy
  exact I.Jh x y ((oD x).1 hx) ((oD y).1 hy)
 ·intro j o2 d h1 h2 h3 h4
  rw[ey]
  rcases h2 with h2 | h2
  ·rw[if_neg (aO j o2 d h1 h3 (fun q=>hS (q▸h2)))]
   exact (I.val j o2 d h1 h2 h3 (fun q=>h4 ((oD j).2 q))).mono he
  ·subst h2
   rw[ho] at h1;cases h1
   rw[if_pos h3];exact hv
 ·intro d hd
  rw[ey,if_neg (hd i o ho (.inr rfl))]
  exact (I.DX d fun j o2 h1 h2=>hd j o2 h1 (.inl h2)).mono he
theorem Inv.late (R:o7 P cf n ops B t0 H0 TP TE HB HH V X)(I:Inv P n ops B t0 HB HH V X F W e0 ds S p e a w cg){i:Nat}{o:Oper}(ho:ops[i]? = some o)(hS:¬ S i)
  (hr:∀ j,(B.getD i 0).testBit j=true->S j) (hX:X i=true) (cl:kd P o = .late) (rK:p<=i) {ob:Obj} {val:Value} {dr:Nat} (EP:Mk P o w.heap.size ob val) :
  Inv P n ops B t0 HB HH V X F W e0 ds (fun j=>S j\/j=i) p e (a.put o.dst val) { w with drawn:=dr,heap:=w.heap.push ob } (fun j=>if j=i then w.heap.size else cg j):=by
 have oD:∀ j,kc P ops X (fun j=>S j\/j=i) p j↔(kc P ops X S p j\/j=i):=by
  intro j
  constructor
  ·rintro⟨q1 | q1,q2⟩
   ·exact .inl ⟨q1,q2⟩
   ·exact .inr q1
  ·rintro (⟨q1,q2⟩ | q)
   ·exact⟨.inl q1,q2⟩
   ·subst q;exact⟨.inr rfl,rK,hX,o,ho,cl⟩
 have aO:∀ j o2 d,ops[j]? = some o2->o2.dst=some d->j≠i->o.dst≠some d:=fun j o2 d h1 h2 h3 h4=>h3 (R.form.one j i o2 o d h1 ho h2 h4)
 have ey:=fun d=>MN (a:=a) (dst:=o.dst) (v:=val) I.zJ (R.lt ho) d
 have aJ:∀ j,kc P ops X S p j->cg j<w.heap.size:=fun j hj=>(I.rh.frame (cg j) (.inr ⟨j,hj,rfl⟩)).1
 have uR:∀ j,kc P ops X S p j->j≠i:=fun j hj q=>hS (q▸hj.1)
 refine⟨I.pN,I.ph,I.pe,?_,?_,?_,?_,I.os,I.tape,I.output,by simp;have:=I.size;omega,?_,?_,?_,?_,by rw[Qk];exact I.zJ,I.le,by rw[Ra];exact I.defers⟩
 ·intro i' j h1 h2
  rcases h1 with h1 | h1
  ·exact .inl (I.down i' j h1 h2)
  ·subst h1;exact .inl (hr j h2)
 ·intro i' o' h1 h2 h3
  rw[<-I.cW i' o' h1 h2 h3]
  constructor
  ·rintro (q | q)
   ·exact q
   ·subst q;rw[ho] at h1;cases h1;rw[cl] at h3;cases h3
  ·exact .inl
 ·refine ((I.rh.push ob).drawn dr).Kz.weaken fun k hk => ?_
  rcases hk with hk | ⟨j,h1,h2⟩
  ·exact .inl (.inl hk)
  ·rcases (oD j).1 h1 with q | q
   ·rw[if_neg (uR j q)] at h2
    exact .inl (.inr ⟨j,q,h2⟩)
   ·rw[if_pos q] at h2
    exact .inr h2.symm
 ·intro k hk
  have:=(I.rh.frame k (.inl hk)).1
  simp only
  rw[ahV,if_neg (by omega)]
  exact I.frame k hk
 ·intro j hj
  rcases (oD j).1 hj with q | q
  ·obtain⟨g1,g2,g3⟩:=I.Jq j q
   rw[if_neg (uR j q)]
   refine⟨g1,g2,fun o2 h1 => ?_⟩
   obtain⟨oV,ajB,q3,q2,q4⟩:=g3 o2 h1
   refine⟨oV,ajB,?_,q2,fun d hd => ?_⟩
   ·simp only
    rw[ahV,if_neg (by have:=aJ j q;omega)];exact q3
   ·rw[ey,if_neg (aO j o2 d h1 hd (uR j q))];exact q4 d hd
  ·rw[if_pos q]
   subst q
   refine⟨I.rh.lC.2.2,fun hF => ?_,fun o2 h1 => ?_⟩
   ·have:=(I.rh.frame _ (.inl hF)).1
    omega
   ·rw[ho] at h1;cases h1
    refine⟨ob,val,by simp,EP,fun d hd => ?_⟩
    rw[ey,if_pos hd]
 ·intro x y hx hy ID
  rcases (oD x).1 hx with qx | qx<;>rcases (oD y).1 hy with qy | qy
  ·rw[if_neg (uR x qx),if_neg (uR y qy)] at ID;exact I.Jh x y qx qy ID
  ·rw[if_neg (uR x qx),if_pos qy] at ID
   have:=aJ x qx;omega
  ·rw[if_pos qx,if_neg (uR y qy)] at ID
   have:=aJ y qy;omega
  ·rw[qx,qy]
 ·intro j o2 d h1 h2 h3 h4
  rw[ey]
  rcases h2 with h2 | h2
  ·rw[if_neg (aO j o2 d h1 h3 (fun q=>hS (q▸h2)))]
   exact I.val j o2 d h1 h2 h3 (fun q=>h4 ((oD j).2 (.inl q)))
  ·exact absurd ((oD j).2 (.inr h2)) h4
 ·intro d hd
  rw[ey,if_neg (hd i o ho (.inr rfl))]
  exact I.DX d fun j o2 h1 h2=>hd j o2 h1 (.inl h2)
theorem Inv.effect (R:o7 P cf n ops B t0 H0 TP TE HB HH V X)(I:Inv P n ops B t0 HB HH V X F W e0 ds S p e a w cg){i:Nat}{o:Oper}(ho:ops[i]? = some o)(hS:¬ S i)
  (hr:∀ j,(B.getD i 0).testBit j=true->S j) (hX:X i=true) (cl:kd P o = .cW) (rK:p<=i) {e1 e':Em} {w':World} {v':Value}
  (rj:e.le e1) (R3:∀ j o d,p<=j->j<i->ops[j]? = some o->X j=true->kd P o = .late->o.dst=some d->VR e1 (V j) (a.tmps.getD d undef))
  (he:e1.le e') (hR:RH P.globals.size (fun k=>F k\/∃ j,kc P ops X S i j/\cg j=k) w e' (HH (i+1)) w') (hv:VR e' (V i) v') :
  Inv P n ops B t0 HB HH V X F W e0 ds (fun j=>S j\/j=i) (i+1) e' (a.put o.dst v') w' cg:=by
 have hi:i<ops.size:=(abZ.1 ho).1
 have oD:∀ j,kc P ops X (fun j=>S j\/j=i) (i+1) j->kc P ops X S i j/\kc P ops X S p j/\j≠i:=by
  rintro j ⟨q1,q2,q3⟩
  rcases q1 with q1 | q1
  ·exact⟨⟨q1,by omega,q3⟩,⟨q1,by omega,q3⟩,by omega⟩
  ·omega
 have aO:∀ j o2 d,ops[j]? = some o2->o2.dst=some d->j≠i->o.dst≠some d:=fun j o2 d h1 h2 h3 h4=>h3 (R.form.one j i o2 o d h1 ho h2 h4)
 have ey:=fun d=>MN (a:=a) (dst:=o.dst) (v:=v') I.zJ (R.lt ho) d
 have LK:HB (i+1)=HH (i+1):=by
  obtain⟨_,h⟩:=R.step i o ho
  rw[hX,cl] at h
  exact h.2.2.2
 refine⟨by omega,LK.symm,.inr ⟨i,o,rfl,ho,hX,cl⟩,?_,?_,?_,?_,hR.os.trans I.os,hR.tape.trans I.tape,hR.output.trans I.output,af2 I.size hR.size,?_,?_,?_,?_,by rw[Qk];exact I.zJ,Em.le_trans I.le (Em.le_trans rj he),by rw[Ra];exact I.defers⟩
 ·intro i' j h1 h2
  rcases h1 with h1 | h1
  ·exact .inl (I.down i' j h1 h2)
  ·subst h1;exact .inl (hr j h2)
 ·intro i' o' h1 h2 h3
  constructor
  ·rintro (q | q)
   ·have:=(I.cW i' o' h1 h2 h3).1 q;omega
   ·omega
  ·intro q
   by_cases Av:i'=i
   ·exact .inr Av
   ·exact .inl (hr i' (R.d1 i o ho hX cl i' o' h1 h2 (.inl h3) (by omega)))
 ·rw[LK]
  refine (hR.weaken fun k hk => ?_).Kz
  rcases hk with hk | ⟨j,h1,h2⟩
  ·exact .inl hk
  ·exact .inr ⟨j,(oD j h1).1,h2⟩
 ·intro k hk
  exact (hR.frame k (.inl hk)).2.trans (I.frame k hk)
 ·intro j hj
  obtain⟨Sq,M9,hj3⟩:=oD j hj
  obtain⟨g1,g2,g3⟩:=I.Jq j M9
  refine⟨by rw[((Em.le_trans rj he).2 _ I.rh.lC.2.1).2.2];exact g1,g2,fun o2 h1 => ?_⟩
  obtain⟨ob,val,q3,q2,q4⟩:=g3 o2 h1
  refine⟨ob,val,?_,q2,fun d hd => ?_⟩
  ·rw[(hR.frame (cg j) (.inr ⟨j,Sq,rfl⟩)).2];exact q3
  ·rw[ey,if_neg (aO j o2 d h1 hd hj3)];exact q4 d hd
 ·intro x y hx hy
  exact I.Jh x y (oD x hx).2.1 (oD y hy).2.1
 ·intro j o2 d h1 h2 h3 h4
  rw[ey]
  rcases h2 with h2 | h2
  ·have uj:j≠i:=fun q=>hS (q▸h2)
   rw[if_neg (aO j o2 d h1 h3 uj)]
   by_cases hp:kc P ops X S p j
   ·obtain⟨q1,q2,q3,o3,q4,q5⟩:=hp
    rw[h1] at q4;cases q4
    by_cases aJ:j<i
    ·exact (R3 j o2 d q2 aJ h1 q3 q5 h3).mono he
    ·exact absurd ⟨.inl q1,by omega,q3,o2,h1,q5⟩ h4
   ·exact ((I.val j o2 d h1 h2 h3 hp).mono rj).mono he
  ·subst h2
   rw[ho] at h1;cases h1
   rw[if_pos h3];exact hv
 ·intro d hd
  rw[ey,if_neg (hd i o ho (.inr rfl))]
  exact ((I.DX d fun j o2 h1 h2=>hd j o2 h1 (.inl h2)).mono rj).mono he
end
end
theorem abX {α:Type}{p q:α->Bool}(h:∀ x,p x=true->q x=true){a:α}(hq:q a=true)(hp:p a=false):∀ l:List α,a∈l->l.countP p<l.countP q
 | b::l,hm=>by
  have hle:∀ l:List α,l.countP p<=l.countP q:=fun l=>List.countP_mono_left fun x _=>h x
  rcases aaD.1 hm with rfl | hm
  ·rw[List.countP_cons_of_neg (by simp[hp]),List.countP_cons_of_pos hq]
   have:=hle l;omega
  ·have:=abX h hq hp l hm
   rw[ajn,ajn]
   by_cases hb:p b=true
   ·rw[if_pos hb,if_pos (h b hb)];omega
   ·rw[if_neg hb];omega
theorem afv {P:Program}{o:Oper}{a:Act}{w:World}{t:Tm}{H H':Hp}{v:AV}(cl:kd P o = .late)(hA:iC P (ev P.globals.size t) o H=some (v,H')) :
  ∃ ob val dr,(execOp a.eval o).run P w = .ok (.value val) { w with drawn:=dr,heap:=w.heap.push ob }/\Mk P o w.heap.size ob val:=by
 rcases adD cl with⟨ty,aT⟩ | ⟨ty,ca,cb,aT⟩ | ⟨x,y,cv,el,aT,hx,hy⟩
 ·unfold iC at hA
  rw[aT] at hA
  simp only at hA
  split at hA
  ·rename_i l hl
   obtain⟨inf,z,iN,hz,_⟩:=wK (e:=⟨id,fun _=>0,id,0⟩) hl
   refine⟨.cells z.cells ty (0,0),.pointer (some ⟨w.heap.size,0,none⟩),w.drawn,?_,?_⟩
   ·unfold execOp
    rw[aT]
    simp[Instr.alloc,qU iN hz,newVar,newRow]
   ·intro t2 H2 tA v2 e dc hN
    unfold iC at dc
    rw[aT] at dc
    simp only[hl,aaa,acn] at dc
    obtain⟨⟨id,H3⟩,dL,rfl,rfl⟩:=dc
    obtain⟨hlen,dm⟩:=Jf dL
    obtain⟨X8,z2,zw,Bc,hlr⟩:=wK (e:=e) hl
    rw[iN] at zw;cases zw
    rw[hz] at Bc;cases Bc
    have wN:id=e.N:=(vz dm).1.trans hN.symm
    subst wN
    exact⟨_,_,dm,Ze hlr hlen,.Qb (Em.mO ..) (by simp[Em.ext]) (Em.mJ ..)⟩
  ·cases hA
 ·have yT:∀ (t2:Tm) (H2 tA:Hp) (v2:AV),iC P (ev P.globals.size t2) o H2=some (v2,tA)->uU P ty ((ja ca).getD .cP) ((ja cb).getD .cP) H2=some (v2,tA):=by
   intro t2 H2 tA v2 h
   unfold iC at h
   rw[aT] at h
   exact h
  have di:=yT t H H' v hA
  have xx:∃ k1 n,(ja ca).getD .cP = .int k1 n:=by
   unfold uU at di
   split at di
   ·rename_i q _;exact⟨_,_,q⟩
   ·cases di
  have hcb:∃ k2 m,(ja cb).getD .cP = .int k2 m:=by
   unfold uU at di
   split at di
   ·rename_i _ q;exact⟨_,_,q⟩
   ·cases di
  obtain⟨k1,n,ha⟩:=xx
  obtain⟨k2,m,hb⟩:=hcb
  have vA:ca = .int k1 n:=by
   cases h:ja ca with
   | none=>rw[h] at ha;cases ha
   | some u=>rw[h] at ha;have q:u = .int k1 n:=ha;subst q;exact (VR.ja (e:=⟨id,fun _=>0,id,0⟩) h).fE
  have vB:cb = .int k2 m:=by
   cases h:ja cb with
   | none=>rw[h] at hb;cases hb
   | some u=>rw[h] at hb;have q:u = .int k2 m:=hb;subst q;exact (VR.ja (e:=⟨id,fun _=>0,id,0⟩) h).fE
  rw[ha,hb] at di
  obtain⟨el,s,z,row,hu,hs,hz,CC,hle,hlen,iW⟩:=run_makeSlice di w
  refine⟨.cells row.toArray el (0,0),.slice (some ⟨w.heap.size,0,none⟩) n.toNat m.toNat,w.drawn,?_,?_⟩
  ·unfold execOp
   rw[aT,vA,vB]
   have h2:(do Pure.pure (Next.value (<-Instr.makeSlice ty (.int k1 n) (.int k2 m))):Sem Next).run P w = .ok (.value (.slice (some ⟨w.heap.size,0,none⟩) n.toNat m.toNat)) { w with heap:=w.heap.push (.cells row.toArray el (0,0)) }:=by
    rw[Sem.run_bind,iW]
    rfl
   exact h2
  ·intro t2 H2 tA v2 e dc hN
   have kF:=yT t2 H2 tA v2 dc
   rw[ha,hb] at kF
   unfold uU at kF
   simp only[hu,hs] at kF
   split at kF
   ·rw[hz] at kF
    simp only[aaa,acn] at kF
    obtain⟨⟨id,H3⟩,dL,rfl,rfl⟩:=kF
    obtain⟨nN,dm⟩:=Jf dL
    have wN:id=e.N:=(vz dm).1.trans hN.symm
    subst wN
    have dO:=Ze (cs:=row.toArray) (b:=w.heap.size) (el:=el) (by simpa using CC e) nN
    refine⟨_,_,dm,dO,?_⟩
    have mZ:(e.ext w.heap.size 0 row.toArray.size).b e.N=w.heap.size:=Em.mO ..
    have hv:=VR.slice (e:=e.ext w.heap.size 0 row.toArray.size) e.N 0 n.toNat m.toNat true s 0 m.toNat (ahw e.N) (by rw[Em.mJ];rfl) hle (aaC _) (fun _=>rfl) (by rw[Em.vw];simp[hlen])
    rw[mZ] at hv
    exact hv
   ·cases kF
 ·have Up:∀ (t2:Tm) (H2 tA:Hp) (v2:AV),iC P (ev P.globals.size t2) o H2=some (v2,tA)->jr P x y ((ja cv).getD .cP) H2=some (v2,tA):=by
   intro t2 H2 tA v2 h
   unfold iC at h
   rw[aT] at h
   exact h
  have di:=Up t H H' v hA
  unfold jr at di
  rw[hx,hy] at di
  cases hc:(ja cv).getD .cP with
  | str s=>
   rw[hc] at di
   simp only at di
   have hof:ja cv=some (.str s):=by
    cases h:ja cv with
    | none=>rw[h] at hc;cases hc
    | some u=>rw[h] at hc;exact congrArg some hc
   obtain⟨s',rD,Oz⟩:=(VR.ja (e:=⟨id,fun _=>0,id,0⟩) hof).lU
   split at di
   ·rename_i oJ
    refine⟨.cells (sP w el s').toArray el (mK w el s',mK w el s'+1),.slice (some ⟨w.heap.size,0,none⟩) s'.size (mK w el s'),w.drawn+1,?_,?_⟩
    ·unfold execOp
     rw[aT]
     have h1:(convert x y cv).run P w=(Conv.stringToBytes el s').run P w:=by rw[Oz];simp[convert,aH hx,aH hy,aH oJ]
     have h2:(do Pure.pure (Next.value (<-convert x y cv)):Sem Next).run P w = .ok (.value (.slice (some ⟨w.heap.size,0,none⟩) s'.size (mK w el s'))) { w with drawn:=w.drawn+1,heap:=w.heap.push (.cells (sP w el s').toArray el (mK w el s',mK w el s'+1)) }:=by
      rw[Sem.run_bind,h1,Xf]
      rfl
     exact h2
    ·intro t2 H2 tA v2 e dc hN
     have kF:=Up t2 H2 tA v2 dc
     unfold jr at kF
     rw[hx,hy,hc] at kF
     simp only[oJ] at kF
     split at kF
     ·rename_i i H3 dL
      cases kF
      obtain⟨hlen,dm⟩:=Jf dL
      have wN:i=e.N:=(vz dm).1.trans hN.symm
      subst wN
      have ff:=O8 w el s'
      have hle:=Kf w el s'
      rw[rD] at dm dL hlen ⊢
      refine⟨_,(sP w el s').length,dm,?_,?_⟩
      ·refine .cells _ _ _ _ _ _ (mK w el s',mK w el s'+1) (by rw[Em.vw];simp) ?_ (by simp) ?_ (fun _=>Em.mJ ..)
       ·intro k u _ hk hg
        rw[Tr.Cl .nil _ _ _ _ (by omega)] at hg
        rw[if_pos ⟨by omega,by omega⟩,agq] at hg
        obtain⟨v',bQ,hr⟩:=(V5 e s').get hg
        refine⟨k,by rw[Em.mJ];omega,v',?_,hr.mono (Em.pq ..)⟩
        have jS:k<(s'.data.toList.map fun b=>Value.int .u8 b.toNat).length:=(aah.1 bQ).1
        simp only[aet,sP]
        rw[abO jS]
        exact bQ
       ·intro _ k hk
        have pB:k<(sP w el s').length:=by simpa using hk
        rw[ff] at pB
        simp;omega
      ·have mZ:(e.ext w.heap.size 0 (sP w el s').length).b e.N=w.heap.size:=Em.mO ..
       have hv:=VR.slice (e:=e.ext w.heap.size 0 (sP w el s').length) e.N 0 s'.size s'.size false 1 0 (mK w el s') (ahw e.N) (by rw[Em.mJ];rfl) hle hle (by simp) (by rw[Em.vw,ff];omega)
       rw[mZ] at hv
       rw[vK]
       exact hv
     ·cases kF
   ·cases di
  | _=>rw[hc] at di;first | (simp only at di;cases di;done) | (cases di;done) | (simp at di;done)
section
variable {P:Program}{cf:CF}{n:Nat}{ops:Array Oper}{B:List Nat}{t0:Tm}{H0:Hp}{TP TE:Nat->Tm}{HB HH:Nat->Hp}{V:Nat->AV}{X:Nat->Bool}
 {F:Nat->Prop} {W:World} {e0:Em} {ds:List Deferred} {S:Nat->Prop} {p:Nat} {e:Em} {a:Act} {w:World} {cg:Nat->Nat}
theorem Inv.congr {S':Nat->Prop}(I:Inv P n ops B t0 HB HH V X F W e0 ds S p e a w cg)(h:∀ j,S j↔S' j):Inv P n ops B t0 HB HH V X F W e0 ds S' p e a w cg:=by
 have:S=S':=funext fun j=>propext (h j)
 rw[<-this];exact I
theorem Inv.final (R:o7 P cf n ops B t0 H0 TP TE HB HH V X)(I:Inv P n ops B t0 HB HH V X F W e0 ds S p e a w cg)(jY:∀ j,j<ops.size->S j)(hS:∀ j,S j->j<ops.size) :
  ∃ e',e0.le e'/\RH P.globals.size F W e' (HH ops.size) w/\TR e' n (TE ops.size) a/\a.defers=ds:=by
 obtain⟨k,hk⟩:∃ k,ops.size=p+k:=⟨ops.size-p,by have:=I.pN;omega⟩
 obtain⟨e',he,hr,hv⟩:=I.Jc R k (by omega) fun j o h1 h2 h3 h4=>⟨fun h5=>by
  have:=(I.cW j o h3 h4 h5).1 (jY j (by omega));omega,fun _=>jY j (by omega)⟩
 rw[<-hk] at hr hv
 refine⟨e',Em.le_trans I.le he,?_,⟨I.zJ,fun d => ?_⟩,I.defers⟩
 ·have hw:=hr.weaken (F':=F) fun q hq => .inl hq
  exact hw.HV (fun q hq=>⟨(hw.frame q hq).1,I.frame q hq⟩) (fun i o ho LJ hq=>(hw.obj i o ho).2.choose_spec.2.2 LJ hq) I.os I.tape I.output I.size
 ·obtain⟨v1,v2⟩:=R.ax ops.size (aaC _) d
  by_cases hex:∃ j o',j<ops.size/\ops[j]? = some o'/\o'.dst=some d
  ·obtain⟨j,o',hj,fJ,eX⟩:=hex
   rw[(v1 j o' hj fJ eX).2,afG]
   by_cases hp:kc P ops X S p j
   ·obtain⟨q1,q2,q3,o3,q4,q5⟩:=hp
    rw[fJ] at q4;cases q4
    exact hv j o' d q2 hj fJ q3 q5 eX
   ·exact (I.val j o' d fJ (jY j hj) eX hp).mono he
  ·rw[(v2 fun j o' hj fJ eX=>hex ⟨j,o',hj,fJ,eX⟩).2]
   exact (I.DX d fun j o' fJ sE eX=>hex ⟨j,o',hS j sE,fJ,eX⟩).mono he
theorem ace (gr:sy P cf)(R:o7 P cf n ops B t0 H0 TP TE HB HH V X){Q:Exit->Act->World->Prop}
  (hQ:∀ e' a' w',e0.le e'->RH P.globals.size F W e' (HH ops.size) w'->TR e' n (TE ops.size) a'->a'.defers=ds->Q .normal a' w') :
  ∀ (fuel:Nat) (listed:Array Bool) (p:Nat) (e:Em) (a:Act) (w:World) (cg:Nat->Nat),listed.size=ops.size->
   Inv P n ops B t0 HB HH V X F W e0 ds (fun j=>listed.getD j false=true) p e a w cg->(List.range ops.size).countP (fun j => !(listed.getD j false))<=fuel->
   wpAny P .any ops Q fuel listed a w:=by
 have jq:∀ (listed:Array Bool) (j:Nat),listed.size=ops.size->(listed.getD j true=false↔j<ops.size/\¬ listed.getD j false=true):=by
  intro listed j hs
  simp only[ae2]
  by_cases hj:j<listed.size
  ·rw[afd hj];simp;omega
  ·rw[Array.getElem?_eq_none (by omega)];simp;omega
 have xW:∀ (listed:Array Bool),listed.size=ops.size->∀ j,listed.getD j false=true->j<ops.size:=by
  intro listed hs j hj
  rcases aji j listed.size with q | q
  ·omega
  ·rw[ae2,Array.getElem?_eq_none q] at hj;cases hj
 have finish:∀ (listed:Array Bool) (p:Nat) (e:Em) (a:Act) (w:World) (cg:Nat->Nat),listed.size=ops.size->Inv P n ops B t0 HB HH V X F W e0 ds (fun j=>listed.getD j false=true) p e a w cg->
   Region.ready .any ops listed=[]->Q .normal a w:=by
  intro listed p e a w cg hs I ud
  have jY:∀ j,j<ops.size->listed.getD j false=true:=by
   intro j
   induction j using Nat.strongRecOn with
   | _ j ih=>
    intro hj
    by_cases hl:listed.getD j false=true
    ·exact hl
    ·exfalso
     have:j∈Region.ready .any ops listed:=by
      rw[mem_ready]
      refine⟨(jq listed j hs).2 ⟨hj,hl⟩,_,afd hj,fun e he hb => ?_⟩
      have:=R.form.back j _ (afd hj) e he hb
      exact ih e.on this (by omega)
     rw[ud] at this
     cases this
  obtain⟨e',h1,h2,h3,h4⟩:=I.final R jY (xW listed hs)
  exact hQ e' a w h1 h2 h3 h4
 intro fuel
 induction fuel with
 | zero=>
  intro listed p e a w cg hs I hc
  have ud:Region.ready .any ops listed=[]:=by
   cases hq:Region.ready .any ops listed with
   | nil=>rfl
   | cons j l=>
    exfalso
    have hm:j∈Region.ready .any ops listed:=by rw[hq];exact List.mem_cons_self ..
    rw[mem_ready] at hm
    obtain⟨h1,h2⟩:=(jq listed j hs).1 hm.1
    have:0<(List.range ops.size).countP (fun j => !(listed.getD j false)):=List.countP_pos_iff.2 ⟨j,by simpa using h1,by simpa using h2⟩
    omega
  exact⟨ud,finish listed p e a w cg hs I ud⟩
 | succ fuel ih=>
  intro listed p e a w cg hs I hc
  refine⟨finish listed p e a w cg hs I,fun i hi => ?_⟩
  rw[mem_ready] at hi
  obtain⟨h0,o,ho,PT⟩:=hi
  obtain⟨aJ,hS⟩:=(jq listed i hs).1 h0
  have hr:∀ j,(B.getD i 0).testBit j=true->listed.getD j false=true:=by
   intro j hj
   obtain⟨ed,h1,h2,h3⟩:=R.form.bit i o ho j hj
   have h4:=PT ed h1 h2
   rcases h3 with h3 | h3
   ·rw[h3];exact h4
   ·exact I.down ed.on j h4 h3
  have fh:∀ j,(listed.setIfInBounds i true).getD j false=true↔(listed.getD j false=true\/j=i):=by
   intro j
   by_cases hj:j=i
   ·subst hj
    simp[ae2,afY (show j<listed.size by omega)]
   ·rw[getD_set_ne false (fun q=>hj q.symm)];simp[hj]
  have ajz:(List.range ops.size).countP (fun j => !((listed.setIfInBounds i true).getD j false))<=fuel:=by
   have:=abX (p:=fun j => !((listed.setIfInBounds i true).getD j false)) (q:=fun j => !(listed.getD j false)) (a:=i) (by
    intro x hx
    cases hq:listed.getD x false with
    | false=>rfl
    | true=>have:=(fh x).2 (.inl hq);rw[this] at hx;cases hx) (by
    cases hq:listed.getD i false with
    | false=>rfl
    | true=>exact absurd hq hS) (by rw[(fh i).2 (.inr rfl)];rfl) (List.range ops.size) (by simpa using aJ)
   omega
  have next:∀ p' e' a' w' OT,Inv P n ops B t0 HB HH V X F W e0 ds (fun j=>listed.getD j false=true\/j=i) p' e' a' w' OT->wpAny P .any ops Q fuel (listed.setIfInBounds i true) a' w':=
   fun p' e' a' w' OT I'=>ih _ p' e' a' w' OT (by simpa using hs) (I'.congr fun j=>(fh j).symm) ajz
  obtain⟨hw,aC⟩:=R.step i o ho
  have hgd:∀ d,EM ops o=some d->VR e (((TP i).get d).getD bJ) (a.tmps.getD d undef):=fun d hd=>I.read R ho hS hr (by unfold Ch;rw[hd];simp)
  have KL:=It (e:=e) (a:=a) hw hgd
  have Uc:∀ x∈o.op.operands.toList,VR e (ev P.globals.size (TP i) x) (a.eval x):=fun x hx=>VN I.rh fun d hd=>I.read R ho hS hr (abC (hd▸hx))
  unfold wpOp
  simp only[ho]
  cases hX:X i with
  | false=>
   rw[hX] at aC KL
   rw[KL]
   simp only[aby,if_false]
   refine next p e _ w cg (I.quiet R ho hS hr (by rw[hX];simp) e.le_refl I.rh ?_)
   rw[aC.1];exact VR.undef
  | true=>
   rw[hX] at aC KL
   rw[KL]
   simp only[if_true]
   left
   have agc:∀ j oj,ops[j]? = some oj->X j=true->kd P oj = .cW->p<=j->j<i->kd P o = .cW->False:=by
    intro j oj h1 h2 h3 h4 h5 h6
    have:=hr j (R.d1 i o ho hX h6 j oj h1 h2 (.inl h3) h5)
    have:=(I.cW j oj h1 h2 h3).1 this
    omega
   cases cl:kd P o<;>rw[cl] at aC
   · -- pure
    obtain⟨⟨h',aT⟩,_⟩:=aC
    have IK:=af5 cl aT (HB p)
    have He:oR P cf (TP i) o (HB p)=some (V i,HB p):=by
     unfold oR
     split
     ·rename_i f args bV hq
      unfold kd at cl;rw[hq] at cl;cases cl
     ·exact IK
    refine Gn gr I.rh He Uc ?_
    intro e' v' w' he hR hv
    exact next p e' _ w' cg (I.quiet R ho hS hr (fun _=>by rw[cl];simp) he hR hv)
   · -- read
    obtain⟨⟨h',aT⟩,_⟩:=aC
    have Ad:∃ Z8,iC P (ev P.globals.size (TP i)) o (HB p)=some (V i,Z8):=by
     by_cases rK:p<=i
     · -- the first effect from p on,ahead of i,if there is one
      by_cases hex:∃ j oj,p<=j/\j<i/\ops[j]? = some oj/\X j=true/\kd P oj = .cW
      · -- take the least
       have ajV:∃ j oj,p<=j/\j<i/\ops[j]? = some oj/\X j=true/\kd P oj = .cW/\∀ j' pR,p<=j'->j'<j->ops[j']? = some pR->X j'=true->kd P pR ≠ .cW:=by
        obtain⟨j,hj⟩:=hex
        induction j using Nat.strongRecOn with
        | _ j ihj=>
         obtain⟨oj,h1,h2,h3,h4,h5⟩:=hj
         by_cases hm:∃ j' pR,p<=j'/\j'<j/\ops[j']? = some pR/\X j'=true/\kd P pR = .cW
         ·obtain⟨j',pR,g1,g2,g3,g4,g5⟩:=hm
          exact ihj j' g2 ⟨pR,g1,by omega,g3,g4,g5⟩
         ·exact⟨j,oj,h1,h2,h3,h4,h5,fun j' pR g1 g2 g3 g4 g5=>hm ⟨j',pR,g1,g2,g3,g4,g5⟩⟩
       obtain⟨j,oj,h1,h2,h3,h4,h5,h6⟩:=ajV
       have MT:HB j=HB p:=by
        obtain⟨k,rfl⟩:∃ k,j=p+k:=⟨j-p,by omega⟩
        exact R.WO p k (by omega) fun j' pR g1 g2 g3 g4=>h6 j' pR g1 g2 g3 g4
       rcases R.d3 j oj h3 h4 h5 i o ho hX cl h2 with q | q
       ·exfalso
        have:=(I.cW j oj h3 h4 h5).1 (hr j q)
        omega
       ·rw[<-MT];exact q
      ·have MT:HB i=HB p:=by
        obtain⟨k,rfl⟩:∃ k,i=p+k:=⟨i-p,by omega⟩
        exact R.WO p k (by omega) fun j' pR g1 g2 g3 g4 g5=>hex ⟨j',pR,g1,g2,g3,g4,g5⟩
       rw[<-MT];exact⟨h',aT⟩
     · -- p lies behind i: some effect behind i is done
      have hex:∃ j oj,i<j/\j<p/\ops[j]? = some oj/\X j=true/\kd P oj = .cW/\HB (j+1)=HB p:=by
       rcases I.pe with q | ⟨j,oj,q1,q2,q3,q4⟩
       ·omega
       ·refine⟨j,oj,?_,by omega,q2,q3,q4,by rw[q1]⟩
        rcases aji i j with q | q
        ·exact q
        ·have:i=j:=by omega
         subst this
         rw[ho] at q2;cases q2
         rw[cl] at q4;cases q4
      obtain⟨j,oj,h1,h2,h3,h4,h5,h6⟩:=hex
      rcases R.d2 j oj h3 h4 h5 i o ho hX cl h1 with q | q
      ·exfalso
       exact hS (I.down j i ((I.cW j oj h3 h4 h5).2 h2) q)
      ·rw[<-h6];exact q
    obtain⟨Z8,IK⟩:=Ad
    have mS:=ZJ (.inr cl) IK
    subst mS
    have He:oR P cf (TP i) o (HB p)=some (V i,HB p):=by
     unfold oR
     split
     ·rename_i f args bV hq
      unfold kd at cl;rw[hq] at cl;cases cl
     ·exact IK
    refine Gn gr I.rh He Uc ?_
    intro e' v' w' he hR hv
    exact next p e' _ w' cg (I.quiet R ho hS hr (fun _=>by rw[cl];simp) he hR hv)
   · -- a new variable
    obtain⟨hA,_⟩:=aC
    have rK:p<=i:=by
     rcases aji i p with q | q
     ·exfalso
      rcases I.pe with r | ⟨j,oj,q1,q2,q3,q4⟩
      ·omega
      ·have nM:i<j:=by
        rcases aji i j with q' | q'
        ·exact q'
        ·have:i=j:=by omega
         subst this
         rw[ho] at q2;cases q2
         rw[cl] at q4;cases q4
       have sE:=(I.cW j oj q2 q3 q4).2 (by omega)
       exact hS (I.down j i sE (R.d1 j oj q2 q3 q4 i o ho hX (.inr cl) nM))
     ·exact q
    obtain⟨ob,val,dr,iW,EP⟩:=afv (a:=a) (w:=w) cl hA
    have hI:=I.late R ho hS hr hX cl rK (dr:=dr) EP
    unfold Oper.wp
    rw[iW]
    exact next p e _ _ _ hI
   · -- an effect
    obtain⟨aT,_,_,LK⟩:=aC
    have rK:p<=i:=by
     rcases aji i p with q | q
     ·exact absurd ((I.cW i o ho hX cl).2 q) hS
     ·exact q
    obtain⟨k,hk⟩:∃ k,i=p+k:=⟨i-p,by omega⟩
    have R3:∀ j oj,p<=j->j<i->ops[j]? = some oj->X j=true->kd P oj ≠ .cW/\(kd P oj = .late->listed.getD j false=true):=
     fun j oj h1 h2 h3 h4=>⟨fun h5=>agc j oj h3 h4 h5 h1 h2 cl,fun h5=>hr j (R.d1 i o ho hX cl j oj h3 h4 (.inr h5) h2)⟩
    obtain⟨e1,rj,iB,lP⟩:=I.Jc R k (by omega) (by rw[<-hk];exact R3)
    rw[<-hk] at iB lP
    have ae9:∀ x∈o.op.operands.toList,VR e1 (ev P.globals.size (TE i) x) (a.eval x):=by
     intro x hx
     refine VN iB fun d hd => ?_
     subst hd
     have ud:=abC (ops:=ops) hx
     obtain⟨v1,v2⟩:=R.ax i (Nat.le_of_lt aJ) d
     by_cases hex:∃ j o',j<i/\ops[j]? = some o'/\o'.dst=some d
     ·obtain⟨j,o',hj,fJ,eX⟩:=hex
      rw[(v1 j o' hj fJ eX).2,afG]
      have sE:listed.getD j false=true:=by
       have:=R.form.rd j i o' o d fJ ho eX (by omega) ud
       rw[if_pos hj] at this
       exact hr j this
      by_cases hp:kc P ops X (fun j=>listed.getD j false=true) p j
      ·obtain⟨q1,q2,q3,o3,q4,q5⟩:=hp
       rw[fJ] at q4;cases q4
       exact lP j o' d q2 hj fJ q3 q5 eX
      ·exact (I.val j o' d fJ sE eX hp).mono rj
     ·rw[(v2 fun j o' hj fJ eX=>hex ⟨j,o',hj,fJ,eX⟩).2]
      refine (I.DX d fun j o' fJ sE eX => ?_).mono rj
      by_cases uj:j<i
      ·exact hex ⟨j,o',uj,fJ,eX⟩
      ·by_cases xT:j=i
       ·subst xT;exact hS sE
       ·have:=R.form.rd j i o' o d fJ ho eX xT ud
        rw[if_neg (by omega)] at this
        exact hS (I.down j i sE this)
    refine Gn gr iB aT ae9 ?_
    intro e' v' w' he hR hv
    exact next (i+1) e' _ w' cg (I.effect R ho hS hr hX cl rK rj lP he hR hv)
end
end
section
variable {P:Program}{cf:CF}{F:Nat->Prop}{W:World}{e:Em}{H:Hp}{w:World}
theorem Ur {s:jA}{H:Hp}(h:th P s H=true):∃ h',iC P (ev P.globals.size s.t) s.o H=some (s.v,h'):=by
 unfold th at h
 split at h
 ·rename_i v' h' hv
  rw[ahL h]
  exact⟨h',hv⟩
 ·cases h
theorem TG (hm:P.follows .mixedOrders=true)(gr:sy P cf){ops:Array Oper}{n id:Nat}{t t':Tm}{H':Hp}{a:Act}{Q:Exit->Act->World->Prop}(hd:zY P cf n ops t H=some (t',H'))(hR:RH P.globals.size F W e H w)(hT:TR e n t a)
  (hQ:∀ e' a' w',e.le e'->RH P.globals.size F W e' H' w'->TR e' n t' a'->a'.defers=a.defers->Q .normal a' w'):(Code.region id ops true).wp P Q a w:=by
 unfold zY at hd
 cases zy:wg ops with
 | false=>rw[zy] at hd;cases hd
 | true=>
 rw[zy] at hd
 simp only[cond_true] at hd
 split at hd
 ·rename_i l tF HF iW
  cases HP:zv P l with
  | false=>rw[HP] at hd;cases hd
  | true=>
  rw[HP] at hd
  cases hd
  have afM:=agw zy
  obtain⟨TP,TE,HB,HH,V,X,q1,q2,q3,q4,q5,q6,q7⟩:=alo (B:=before ops.toList []) ops.toList (before ops.toList []) 0 t t H H l (by simp) (by simp) iW
  rw[adG,ahY] at q5 q6
  unfold zv at HP
  rw[adA] at HP
  have pair:∀ i oi,ops[i]? = some oi->X i=true->kd P oi = .cW->∀ j oj,ops[j]? = some oj->X j=true->
    ((kd P oj = .cW\/kd P oj = .late)->(!(Nat.blt j i)||((before ops.toList []).getD i 0).testBit j)=true)/\
    (kd P oj = .read->(bif Nat.blt j i then ((before ops.toList []).getD i 0).testBit j||th P ⟨j,oj,(before ops.toList []).getD j 0,X j,kk P (X j) oj,V j,TP j,HB j,HB (j+1)⟩ (HB (i+1)) else
     ((before ops.toList []).getD j 0).testBit i||th P ⟨j,oj,(before ops.toList []).getD j 0,X j,kk P (X j) oj,V j,TP j,HB j,HB (j+1)⟩ (HB i))=true):=by
   intro i oi hi hx hk j oj hj tY
   have h1:=HP _ (q7 i oi (acD _) hi).2
   simp only[kk,hx,if_true,hk,adA] at h1
   have h2:=h1 _ (q7 j oj (acD _) hj).2
   simp only[kk,tY,if_true] at h2 ⊢
   constructor
   ·intro qH
    rcases qH with qH | qH<;>(rw[qH] at h2;exact h2)
   ·intro qH
    rw[qH] at h2 ⊢
    exact h2
  have ajr:o7 P cf n ops (before ops.toList []) t H TP TE HB HH V X:=by
   refine⟨afM,q1,q2,q3,q4,fun j o ho=>(q7 j o (acD _) ho).1,?_,?_,?_⟩
   ·intro i oi hi hx hk j oj hj tY qH aJ
    have:=(pair i oi hi hx hk j oj hj tY).1 qH
    have hb:Nat.blt j i=true:=by rw[adE];exact aJ
    rw[hb] at this
    simpa using this
   ·intro i oi hi hx hk j oj hj tY qH aJ
    have:=(pair i oi hi hx hk j oj hj tY).2 qH
    have hb:Nat.blt j i=true:=by rw[adE];exact aJ
    rw[hb] at this
    simp only[cond_true,agK] at this
    exact this.imp (fun q=>q) Ur
   ·intro i oi hi hx hk j oj hj tY qH aJ
    have:=(pair i oi hi hx hk j oj hj tY).2 qH
    have hb:Nat.blt j i=false:=by
     cases hb:Nat.blt j i
     ·rfl
     ·rw[adE] at hb;omega
    rw[hb] at this
    simp only[cond_false,agK] at this
    exact this.imp (fun q=>q) Ur
  refine wp_region_any hm ?_
  have Dv:∀ j,(Array.replicate ops.size false).getD j false=true->False:=by
   intro j hj
   rw[ae2,Array.getElem?_replicate] at hj
   split at hj<;>simp at hj
  have oL:=(hR.drawn (w.drawn+1))
  refine ace (F:=F) (W:=W) (e0:=e) (ds:=a.defers) gr ajr (by rw[q5,q6];exact hQ) ops.size (Array.replicate ops.size false) 0 e a { w with drawn:=w.drawn+1 } (fun _=>0) (by simp) ?_ (by
   have:=List.countP_le_length (p:=fun j => !((Array.replicate ops.size false).getD j false)) (l:=List.range ops.size)
   simpa using this)
  refine⟨acD _,by rw[q3,q4],.inl rfl,fun i j h=>(Dv i h).elim,fun i o _ _ _=>⟨fun h=>(Dv i h).elim,fun h=>by omega⟩,?_,fun k hk=>(oL.frame k hk).2,hR.os,hR.tape,hR.output,hR.size,
   fun j hj=>(Dv j hj.1).elim,fun i j hi=>(Dv i hi.1).elim,fun j o d _ h=>(Dv j h).elim,fun d _=>hT.val d,hT.size,e.le_refl,rfl⟩
  rw[q3]
  refine (oL.weaken fun k hk => ?_).Kz
  rcases hk with hk | ⟨j,hj,_⟩
  ·exact hk
  ·exact (Dv j hj.1).elim
 ·cases hd
def xv (P:Program)(c:Code)(Q:Exit->Act->World->Prop)(a:Act)(w:World):Prop:=
 ∀ (b:Frame) (k:List Item) (cs:List Frame),∃ e a' w',Q e a' w'/\Arrives P (lone (b.at a (.code c :: .inLoop c::k)) cs w) b k cs e a' w'
theorem PB {c:Code}{Q:Exit->Act->World->Prop}{a:Act}{w:World}(h:xv P c Q a w):(Code.loop c).wp P Q a w:=
 fun b k cs=>let ⟨e,a',w',q,r⟩:=h b k cs;⟨e,a',w',q,.of_steps (.one step_loop) r⟩
theorem PJ {c:Code}{Q:Exit->Act->World->Prop}{a:Act}{w:World}(h:c.wp P (Exit.then (xv P c Q) Q) a w):xv P c Q a w:=by
 intro b k cs
 obtain⟨e,a₁,w₁,hq,BI⟩:=h b (.inLoop c::k) cs
 cases e with
 | normal=>
  obtain⟨e₂,a₂,w₂,hq₂,apt⟩:=hq b k cs
  exact⟨e₂,a₂,w₂,hq₂,.of_steps (Steps.trans BI (.one step_inLoop)) apt⟩
 | exit id=>exact⟨_,a₁,w₁,hq,.pass (x := .inLoop c) rfl (fun _ _ => .inl (by simp)) BI⟩
 | goto l=>exact⟨_,a₁,w₁,hq,.pass (x := .inLoop c) rfl (fun _ _ => .inl (by simp)) BI⟩
 | ret=>exact⟨_,a₁,w₁,hq,.pass (x := .inLoop c) rfl (fun _ _ => .inl (by simp)) BI⟩
 | panic ch=>exact⟨_,a₁,w₁,hq,.pass (x := .inLoop c) rfl (fun _ _ => .inl (by simp)) BI⟩
 | outgrown=>exact⟨_,a₁,w₁,hq,.pass (x := .inLoop c) rfl (fun _ _ => .inl (by simp)) BI⟩
def xit:X->Exit
 | .normal => .normal
 | .exit i => .exit i
 | .ret => .ret
def SW (P:Program)(run:Nat->Code->Tm->Hp->Option (X × Tm × Hp)):Prop:=
 ∀ (n:Nat) (c:Code) (t:Tm) (H:Hp) (x:X) (t':Tm) (H':Hp),run n c t H=some (x,t',H')->
  ∀ (F:Nat->Prop) (W:World) (e:Em) (a:Act) (w:World) (Q:Exit->Act->World->Prop),RH P.globals.size F W e H w->TR e n t a->
   (∀ e' a' w',e.le e'->RH P.globals.size F W e' H' w'->TR e' n t' a'->a'.defers=a.defers->Q (xit x) a' w')->
   c.wp P Q a w/\∀ b,c = .loop b->xv P b Q a w
theorem ado (h:RH P.globals.size F W e H w){t:TypeId}{a v:AV}{a':Value}(ha:VR e a a')(hl:rJ P H t a=some v) :
  ∃ ad v',a' = .pointer (some ad)/\(loadVar t ad).run P w = .ok v' w/\VR e v v':=by
 obtain⟨v',h1,h2⟩:=YO h ha hl
 unfold rJ at hl
 split at hl
 ·obtain⟨o,hi,ho,rfl⟩:=ha.pL
  refine⟨_,v',rfl,?_,h2⟩
  simpa[Instr.loadAt,Instr.sureAddr] using h1
 ·cases hl
theorem L6 (h:RH P.globals.size F W e H w){n:Nat}{t:Tm}{a:Act}(ht:TR e n t a):∀ (l:List ResultVar) (vs:List AV),sS P t H l=some vs->
  ∃ ws,(l.mapM (fun (r:ResultVar)=>match r with | .tmp t=>(Pure.pure (a.tmps.getD t undef):Sem Value) | .cell ad ty=>do loadVar ty (<-asAddr (a.tmps.getD ad undef)))).run P w = .ok ws w/\aP e vs ws
 | [],vs,hr=>by cases hr;exact⟨[],by simp,.nil e⟩
 | .tmp x::l,vs,hr=>by
  unfold sS at hr
  split at hr
  ·rename_i l' rq
   cases hr
   obtain⟨ws,h1,h2⟩:=L6 h ht l l' rq
   exact⟨a.tmps.getD x undef::ws,by rw[List.mapM_cons,Sem.run_bind,Sem.run_pure,Result.andThen_ok,Sem.run_bind,h1];rfl,.cons (ht.val x) h2⟩
  ·cases hr
 | .cell ad ty::l,vs,hr=>by
  unfold sS at hr
  split at hr
  ·rename_i v l' hv rq
   cases hr
   obtain⟨ws,h1,h2⟩:=L6 h ht l l' rq
   obtain⟨p,v',h3,h4,h5⟩:=ado h (ht.val ad) hv
   refine⟨v'::ws,?_,.cons h5 h2⟩
   rw[List.mapM_cons,Sem.run_bind]
   have:(do loadVar ty (<-asAddr (a.tmps.getD ad undef)):Sem Value).run P w = .ok v' w:=by
    rw[h3];simp[asAddr,h4]
   rw[this,Result.andThen_ok,Sem.run_bind,h1]
   rfl
  ·cases hr
theorem Qt (h:RH P.globals.size F W e H w){n:Nat}{t:Tm}{a:Act}(ht:TR e n t a){fn:Func}{vs:List AV}(hr:sS P t H fn.results.toList=some vs) :
  ∃ v,(results fn a.tmps).run P w = .ok v w/\VR e (KK vs) v:=by
 obtain⟨ws,h1,h2⟩:=L6 h ht _ _ hr
 have hm:(fn.results.mapM (fun (r:ResultVar)=>match r with | .tmp t=>(Pure.pure (a.tmps.getD t undef):Sem Value) | .cell ad ty=>do loadVar ty (<-asAddr (a.tmps.getD ad undef)))).run P w = .ok ws.toArray w:=by
  rw[<-Array.toArray_toList (xs:=fn.results),List.mapM_toArray,Sem.run_map,h1];rfl
 unfold results
 have lI:(fn.results.mapM fun
  | .tmp t=>Pure.pure (a.tmps.getD t undef)
  | .cell ad t=>do loadVar t (<-asAddr (a.tmps.getD ad undef)):Sem (Array Value)).run P w = .ok ws.toArray w:=hm
 refine⟨(if h:ws.toArray.size=1 then ws.toArray[0] else .tuple ws.toArray),?_,?_⟩
 ·rw[Sem.run_bind]
  exact aal (congrArg (fun r:Result (Array Value)=>r.andThen (fun vs w'=>(Pure.pure (if h:vs.size=1 then vs[0] else .tuple vs):Sem Value).run P w')) lI) rfl
 ·cases vs with
  | nil=>rw[h2.jE];exact .tuple' (.nil e)
  | cons v r=>
   obtain⟨v',ws',rfl,hv,eu⟩:=h2.cons_inv
   cases r with
   | nil=>rw[eu.jE];exact hv
   | cons v2 r2=>
    obtain⟨BX,ws2,rfl,vS,oy⟩:=eu.cons_inv
    have:¬ (v'::BX::ws2).toArray.size=1:=by simp
    rw[dif_neg this]
    exact .tuple' h2
def Hw:Ext->Array Value->Sem Value
 | .same=>Extern.AbiNoEscape.same
 | .DZ t=>Extern.BytealgMakeNoZero.makeNoZero #[] #[t]
 | .K4=>Extern.BytealgIndexByte.indexByte
 | .count=>Extern.BytealgCount.count
def wC (P:Program)(ext:Nat->Option Ext):Prop:=
 ∀ aX k,ext aX=some k->∀ (aR:Array Value) (w:World),(callFunc aX aR).run P w=(do Pure.pure (Next.value (<-Hw k aR)):Sem Next).run P w
def tn (P:Program)(aQ:Nat->Option Prim):Prop:=
 ∀ aX p,aQ aX=some p->∀ (args:List AV) (H:Hp) (v:AV) (H':Hp),p args H=some (v,H')->
  ∀ (F:Nat->Prop) (W:World) (e:Em) (w:World) (aR:Array Value),RH P.globals.size F W e H w->aP e args aR.toList->
   (callFunc aX aR).run P w = .ok (.enter aX aR) w/\Calls P aX aR w (DH P.globals.size F W e v H')
def od (P : Program) : Prop := (P.funcs.toList.all fun fn => fn.body.isNone||fn.name != "runtime.NumGoroutine") = true
theorem vq (hN:od P){aX:Nat}{fn:Func}{b:Code}(hf:P.funcs[aX]? = some fn)(hb:fn.body=some b)(aR:Array Value)(w:World):(callFunc aX aR).run P w = .ok (.enter aX aR) w:=by
 have hn : (fn.name == "runtime.NumGoroutine") = false := by
  unfold od at hN
  rw[adA] at hN
  have:=hN fn (by have:=Array.mem_of_getElem? hf;simpa using this)
  rw[hb] at this
  simp at this
  simp[this]
 unfold callFunc
 rw[Sem.run_bind,run_program,Result.andThen_ok]
 simp only[hf,hn,aby,if_false,hb,Option.isNone_some]
 rfl
theorem Uo:∀ (n t:Nat) (acc:Array Value),(Extern.BytealgMakeNoZero.digits n t acc).size=acc.size+n
 | 0,t,acc=>rfl
 | n+1,t,acc=>by rw[Extern.BytealgMakeNoZero.digits,Uo n];simp;omega
theorem Za (c:UInt8):∀ (l:List UInt8) (k:Nat) (q:Nat->Bool),(∀ (j:Nat) (h:j<l.length),q (k+j)=(l[j]==c))->(List.range' k l.length).find? q=jx c.toNat (l.map (·.toNat)) k
 | [],k,q,_=>rfl
 | b::l,k,q,h=>by
  have h0:=h 0 (by simp)
  simp only[aej,List.getElem_cons_zero] at h0
  have e:(b==c)=Nat.beq b.toNat c.toNat:=by
   rw[Bool.eq_iff_iff,Nat.beq_eq]
   simp[UInt8.toNat_inj]
  rw[aaL,aiO,List.find?_cons,h0,acW,jx,e]
  cases Nat.beq b.toNat c.toNat with
  | true=>rfl
  | false=>
   simp only[cond_false]
   refine Za c l (k+1) q (fun j hj => ?_)
   have:=h (j+1) (by simp;omega)
   rw[show k+1+j=k+(j+1) by omega,this,List.getElem_cons_succ]
theorem Tz (c:UInt8):∀ l:List UInt8,Lib.countByte l c=fR c.toNat (l.map (·.toNat))
 | []=>rfl
 | b::l=>by
  have e:(b==c)=Nat.beq b.toNat c.toNat:=by
   rw[Bool.eq_iff_iff,Nat.beq_eq]
   simp[UInt8.toNat_inj]
  have ih:=Tz c l
  unfold Lib.countByte at ih ⊢
  rw[List.count_cons,acW,fR,e,ih]
  cases Nat.beq b.toNat c.toNat<;>rfl
theorem firstIdx_eq (s:ByteArray)(c:UInt8):firstIdx s c=(match jx c.toNat (bytes s) 0 with | some i=>(i:Int) | none => -1):=by
 have hs:s.size=s.data.toList.length:=(ahY).symm
 have h:=Za c s.data.toList 0 (fun i=>s[i]! == c) (fun j hj=>by
  have iU:j<s.size:=by rw[hs];exact hj
  simp only[adG]
  rw[getElem!_pos s j iU]
  have e:s[j]=s.data.toList[j]:=by rw[Array.getElem_toList];rfl
  rw[e])
 unfold firstIdx
 rw[List.range_eq_range',hs,h]
 rfl
theorem U2 (h:RH P.globals.size F W e H w){k:Ext}{args:List AV}{aR:Array Value}{v:AV}{H':Hp}(ha:aP e args aR.toList)(hx:DN P k args H=some (v,H')) :
  ∃ v' w' e',(Hw k aR).run P w = .ok v' w'/\e.le e'/\RH P.globals.size F W e' H' w'/\VR e' v v':=by
 unfold DN at hx
 split at hx
 ·cases hx
  obtain⟨x',r,h1,h2,h3⟩:=ha.cons_inv
  rw[h3.jE] at h1
  obtain rfl:aR = #[x']:=adB.1 h1
  exact⟨x',w,e,rfl,e.le_refl,h,h2⟩
 ·rename_i t n
  obtain⟨x',r,h1,h2,h3⟩:=ha.cons_inv
  rw[h3.jE] at h1
  obtain rfl:aR = #[x']:=adB.1 h1
  cases h2.fE
  split at hx
  ·rename_i el hu
   split at hx
   ·rename_i hn
    simp only[aaa,acn] at hx
    obtain⟨⟨i,H2⟩,dL,rfl,rfl⟩:=hx
    let w1:World:={ w with drawn:=w.drawn+1 }
    let cap:=(Question.appendCap n.toNat 0 el).cut (w.tape w.drawn (.appendCap n.toNat 0 el))
    have iq:n.toNat<=cap:=Nat.le_add_right _ _
    let bs := (Question.extern "internal/bytealg.MakeNoZero.bytes" 0).cut (w1.tape w1.drawn (.extern "internal/bytealg.MakeNoZero.bytes" 0))
    let row:=(Extern.BytealgMakeNoZero.digits cap bs #[])
    have CC:row.size=cap:=by rw[Uo];simp
    have hl:aP e (List.replicate n.toNat AV.cP) (row.toList.take n.toNat):=by
     refine⟨by simp[CC];omega,fun j a b hj hb => ?_⟩
     rw[aif] at hj
     split at hj
     ·cases hj;exact .cP _
     ·cases hj
    obtain⟨e',he,g1,g2,g3,g4,oI⟩:=((h.drawn (w.drawn+1)).drawn (w.drawn+1+1)).newRow (rest:=row.toList.drop n.toNat) (fz:=(0,0)) dL hl (fun _=>rfl) (by simp)
    have ag6:(row.toList.take n.toNat++row.toList.drop n.toNat).toArray=row:=by rw[ahH]
    have hlen:(row.toList.take n.toNat++row.toList.drop n.toNat).length=cap:=by rw[ahH];simp[CC]
    refine⟨.slice (some ⟨w.heap.size,0,none⟩) n.toNat cap,_,e',?_,he,oI,VR.zD g2 g1 (by rw[g3];simp) iq iq (by simp) (by rw[g4,hlen];omega)⟩
    rw[ag6]
    have ZS:¬ (n<0\/n>2 ^ 48):=by omega
    have ap9:(decide (n<0)||decide (n>2 ^ 48))=false:=by simp;omega
    have f1:(Question.appendCap n.toNat 0 el).forced=false:=rfl
    have f2 : (Question.extern "internal/bytealg.MakeNoZero.bytes" 0).forced = false := rfl
    have AE:Hw (.DZ t) #[.int .i64 n]=(do
      let some t := (#[t] : Array TypeId)[0]? | stuck "bytealg.MakeNoZero: no result type"
      let .slice elem <-underlying t | stuck "bytealg.MakeNoZero: slice type expected"
      if n<0||n>2 ^ 48 then runtimePanic (.error "makeslice: len out of range")
      let cap <-choose (.appendCap n.toNat 0 elem)
      askRoom cap
      let bytes <-choose (.extern "internal/bytealg.MakeNoZero.bytes" 0)
      let a <-newRow elem (Extern.BytealgMakeNoZero.digits cap bytes #[])
      Pure.pure (.slice (some a) n.toNat cap):Sem Value):=rfl
    rw[AE]
    simp only[aet,adg,Sem.run_bind,aH hu,Result.andThen_ok,ap9,aby,if_false,run_choose,f1,f2,run_askRoom,newRow,run_newObj,Sem.run_pure]
    rfl
   ·cases hx
  ·cases hx
 ·rename_i s n
  cases hx
  obtain⟨x',r,h1,h2,h3⟩:=ha.cons_inv
  obtain⟨y',r2,h4,h5,h6⟩:=h3.cons_inv
  rw[h4,h6.jE] at h1
  obtain rfl:aR = #[x',y']:=adB.1 h1
  cases h5.fE
  obtain⟨s',rfl,rfl⟩:=h2.lU
  refine⟨_,w,e,run_indexByte_string s' n w,e.le_refl,h,?_⟩
  rw[firstIdx_eq]
  have:(n.toNat.toUInt8).toNat=n.toNat % 256:=by simp
  rw[this]
  exact .int .i64 _
 ·rename_i s n
  cases hx
  obtain⟨x',r,h1,h2,h3⟩:=ha.cons_inv
  obtain⟨y',r2,h4,h5,h6⟩:=h3.cons_inv
  rw[h4,h6.jE] at h1
  obtain rfl:aR = #[x',y']:=adB.1 h1
  cases h5.fE
  obtain⟨s',rfl,rfl⟩:=h2.lU
  refine⟨_,w,e,Lib.run_countString s' n w,e.le_refl,h,?_⟩
  have:(n.toNat.toUInt8).toNat=n.toNat % 256:=by simp
  rw[Tz,this]
  exact .int .i64 _
 ·cases hx
theorem aae {ext:Nat->Option Ext}{aQ:Nat->Option Prim}(hN:od P)(hE:wC P ext)(hP:tn P aQ){run:Nat->Code->Tm->Hp->Option (X × Tm × Hp)}(iW:SW P run) :
  sy P (CQ P ext aQ run):=by
 intro g args H v H' hc
 unfold CQ at hc
 split at hc
 ·rename_i aX first cap
  refine⟨aX,first,cap,rfl,?_⟩
  intro F W e w aR hR lh
  split at hc
  ·rename_i p hp
   exact .inr (hP aX p hp _ H v H' hc F W e w aR hR lh)
  ·split at hc
   ·rename_i fn hf
    split at hc
    ·rename_i b hb
     cases hle:(Nat.ble (first++args++cap).length fn.ntmps&&Nat.blt fn.ntmps 4294967296) with
     | false=>rw[hle] at hc;cases hc
     | true=>
     rw[hle] at hc
     simp only[cond_true] at hc
     rw[aau,aer,adE] at hle
     refine .inr ⟨vq hN hf hb aR w,?_⟩
     have hlen:aR.size=(first++args++cap).length:=by have:=lh.1;simpa using this
     have hT:TR e fn.ntmps (Tr.bY .nil 0 (first++args++cap)) { tmps:=aR++Array.replicate (fn.ntmps-aR.size) undef,defers:=[] }:=by
      refine⟨by simp;omega,fun x => ?_⟩
      rw[Tr.Cl .nil _ _ _ _ (by omega)]
      simp only[adG,acD,true_and,agq]
      by_cases hx:x<(first++args++cap).length
      ·rw[if_pos hx]
       have h1:(first++args++cap)[x]? = some (first++args++cap)[x]:=aai hx
       obtain⟨v',h2,h3⟩:=lh.get h1
       rw[h1,afG,ae2,Array.getElem?_append_left (by omega),<-adS,h2]
       exact h3
      ·rw[if_neg hx]
       have:(aR++Array.replicate (fn.ntmps-aR.size) undef).getD x undef=undef:=by
        rw[ae2,Array.getElem?_append_right (by omega),Array.getElem?_replicate]
        split<;>rfl
       simp only[this,Tr.get_nil]
       exact VR.undef
     have fin:∀ (x:X) (t2:Tm) (H2:Hp),run fn.ntmps b (Tr.bY .nil 0 (first++args++cap)) H=some (x,t2,H2)->(x = .normal\/x = .ret)->(sS P t2 H2 fn.results.toList).map (fun l=>(KK l,H2))=some (v,H')->
       Calls P aX aR w (DH P.globals.size F W e v H'):=by
      intro x t2 H2 hr iL BA
      simp only[aaa,acn] at BA
      obtain⟨vs,rF,rfl,rfl⟩:=BA
      refine calls_of_wp hf hb (iW _ _ _ _ _ _ _ hr F W e _ w _ hR hT ?_).1
      intro e' a' w' he bw cC hd
      obtain⟨u,hu,gZ⟩:=Qt bw cC rF
      rcases iL with rfl | rfl
      ·exact⟨hd,u,hu,e',u,rfl,he,bw,gZ⟩
      ·exact⟨hd,u,hu,e',u,rfl,he,bw,gZ⟩
     split at hc
     ·cases hc
     ·rename_i x t2 H2 aO hr
      cases x with
      | normal=>exact fin _ t2 H2 hr (.inl rfl) hc
      | ret=>exact fin _ t2 H2 hr (.inr rfl) hc
      | exit i=>exact (aO i rfl).elim
     ·cases hc
    ·rename_i hb
     split at hc
     ·rename_i k hk
      obtain⟨v',w',e',h1,h2,h3,h4⟩:=U2 hR lh hc
      refine .inl ⟨v',w',e',?_,h2,h3,h4⟩
      rw[hE aX k hk,Sem.run_bind,h1]
      rfl
     ·cases hc
   ·cases hc
 ·cases hc
theorem afw {ext:Nat->Option Ext}{aQ:Nat->Option Prim}(hm:P.follows .mixedOrders=true)(hN:od P)(hE:wC P ext)(hP:tn P aQ):∀ f,SW P (code P ext aQ f):=by
 intro f
 induction f with
 | zero=>intro n c t H x t' H' h;cases h
 | succ f ih=>
  have gr:sy P (CQ P ext aQ (code P ext aQ f)):=aae hN hE hP ih
  intro n c t H x t' H' hc F W e a w Q hR hT hQ
  unfold code at hc
  split at hc
  ·cases hc
   exact⟨wp_skip (hQ e a w e.le_refl hR hT rfl),by intro b q;cases q⟩
  ·cases hc
   exact⟨wp_label (hQ e a w e.le_refl hR hT rfl),by intro b q;cases q⟩
  ·rename_i c1 c2
   refine⟨wp_seq ?_,by intro b q;cases q⟩
   split at hc
   ·rename_i t1 H1 h1
    refine (ih _ _ _ _ _ _ _ h1 F W e a w _ hR hT ?_).1
    intro e' a' w' he bw cC hd
    refine (ih _ _ _ _ _ _ _ hc F W e' a' w' _ bw cC ?_).1
    intro e2 a2 w2 A8 gI nc qe
    exact hQ e2 a2 w2 (Em.le_trans he A8) gI nc (qe.trans hd)
   ·rename_i aO
    refine (ih _ _ _ _ _ _ _ hc F W e a w _ hR hT ?_).1
    intro e' a' w' he bw cC hd
    have:=hQ e' a' w' he bw cC hd
    cases x with
    | normal=>exact absurd hc (aO t' H')
    | exit i=>exact this
    | ret=>exact this
  ·rename_i cc c1 c2
   split at hc
   ·rename_i b hb
    have hv:=VR.ev hR hT cc
    rw[hb] at hv
    have bQ:=hv.sw
    refine⟨wp_cond bQ ?_,by intro b q;cases q⟩
    cases b with
    | true=>exact (ih _ _ _ _ _ _ _ hc F W e a w Q hR hT hQ).1
    | false=>exact (ih _ _ _ _ _ _ _ hc F W e a w Q hR hT hQ).1
   ·cases hc
  ·rename_i i b
   refine⟨wp_block ?_,by intro b q;cases q⟩
   split at hc
   ·rename_i j t1 H1 h1
    refine (ih _ _ _ _ _ _ _ h1 F W e a w _ hR hT ?_).1
    intro e' a' w' he bw cC hd
    show Exit.inBlock i Q (.exit j) a' w'
    cases hj:Nat.beq j i with
    | true=>
     rw[hj] at hc
     cases hc
     simp only[Exit.inBlock,abp hj,if_true]
     exact hQ e' a' w' he bw cC hd
    | false=>
     rw[hj] at hc
     cases hc
     have aO:¬ j=i:=fun q=>by rw[q,agQ] at hj;cases hj
     simp only[Exit.inBlock,if_neg aO]
     exact hQ e' a' w' he bw cC hd
   ·rename_i aO
    refine (ih _ _ _ _ _ _ _ hc F W e a w _ hR hT ?_).1
    intro e' a' w' he bw cC hd
    have:=hQ e' a' w' he bw cC hd
    cases x with
    | normal=>exact this
    | exit j=>exact absurd hc (aO j t' H')
    | ret=>exact this
  ·rename_i b
   have hl:xv P b Q a w:=by
    refine PJ ?_
    split at hc
    ·rename_i t1 H1 h1
     refine (ih _ _ _ _ _ _ _ h1 F W e a w _ hR hT ?_).1
     intro e' a' w' he bw cC hd
     show Exit.then (xv P b Q) Q .normal a' w'
     refine (ih _ _ _ _ _ _ _ hc F W e' a' w' Q bw cC ?_).2 b rfl
     intro e2 a2 w2 A8 gI nc qe
     exact hQ e2 a2 w2 (Em.le_trans he A8) gI nc (qe.trans hd)
    ·rename_i aO
     refine (ih _ _ _ _ _ _ _ hc F W e a w _ hR hT ?_).1
     intro e' a' w' he bw cC hd
     have:=hQ e' a' w' he bw cC hd
     cases x with
     | normal=>exact absurd hc (aO t' H')
     | exit i=>exact this
     | ret=>exact this
   exact⟨PB hl,by intro b' q;cases q;exact hl⟩
  ·cases hc
   exact⟨wp_exit (hQ e a w e.le_refl hR hT rfl),by intro b q;cases q⟩
  ·cases hc
   exact⟨wp_ret (hQ e a w e.le_refl hR hT rfl),by intro b q;cases q⟩
  ·rename_i id ops d
   refine⟨?_,by intro b q;cases q⟩
   split at hc
   ·rename_i t1 H1 h1
    cases hc
    cases d with
    | true=>exact TG hm gr h1 hR hT hQ
    | false=>
     refine wp_region ?_
     have:=T7 (Q:=Q) gr ops.toList 0 t H e a w (by simp) h1 hR hT hQ
     rw[List.range_eq_range']
     simpa using this
   ·cases hc
  ·cases hc
theorem aha {ext:Nat->Option Ext}{aQ:Nat->Option Prim}(hm:P.follows .mixedOrders=true)(hN:od P)(hE:wC P ext)(hP:tn P aQ){fuel g:Nat}{args:List AV}{v:AV}{H':Hp}
  (h:Jr P ext aQ fuel g args H=some (v,H')) {fn:Func} {b:Code} (hf:P.funcs[g]? = some fn) (hb:fn.body=some b) {aR:Array Value} (hR:RH P.globals.size F W e H w) (ha:aP e args aR.toList) :
  Calls P g aR w (DH P.globals.size F W e v H'):=by
 obtain⟨aX,first,cap,hg,hs⟩:=aae hN hE hP (afw hm hN hE hP fuel) _ _ _ _ _ h
 cases hg
 rcases hs F W e w aR hR (by simpa using ha) with⟨v',w',e',h1,_⟩ | ⟨_,h2⟩
 ·rw[vq hN hf hb] at h1
  cases h1
 ·exact h2
end
end Go.Proofs.YtodfajmihkagnaaGreatDoor.Am
