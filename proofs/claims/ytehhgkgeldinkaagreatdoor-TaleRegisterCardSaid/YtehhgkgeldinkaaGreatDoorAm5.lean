/- Laws that the proof uses. -/
import Derived.Test.YtehhgkgeldinkaaGreatDoorAm4
set_option linter.unusedVariables false
set_option linter.unusedSimpArgs false
namespace Go.Proofs.YtehhgkgeldinkaaGreatDoor.Am
section
section
section
section
section
section
theorem KL {n:Nat}{dst:Option Tmp}{v:AV}{t t':Tm}(h:hZ n dst v t=some t')(d:Tmp):t'.get d=if dst=some d then some v else t.get d:=by
 unfold hZ at h
 split at h
 ·cases h;simp
 ·rename_i x
  cases hb:(Nat.blt x n&&Nat.blt x 4294967296) with
  | false=>rw[hb] at h;cases h
  | true=>
   rw[hb] at h
   cases h
   simp only[zf,adn] at hb
   rw[Tr.Ij _ _ _ _ _ (by omega)]
   by_cases hx:d=x
   ·subst hx;simp
   ·rw[if_neg hx,if_neg (fun q=>hx (adz q).symm)]
theorem acz {n:Nat}{dst:Option Tmp}{v:AV}{t t':Tm}(h:hZ n dst v t=some t'){d:Tmp}(hd:dst=some d):d<n:=by
 subst hd
 unfold hZ at h
 simp only at h
 cases hb:(Nat.blt d n&&Nat.blt d 4294967296) with
 | false=>rw[hb] at h;cases h
 | true=>simp only[zf,adn] at hb;exact hb.1
theorem RH.weaken {G:Nat}{F F':Nat->Prop}{W:World}{e:Em}{H:Hp}{w:World}(h:RH G F W e H w)(hF:∀ k,F' k->F k):RH G F' W e H w:=
 h.QF (fun k hk=>h.frame k (hF k hk)) (fun i o ho hw hk=>(h.obj i o ho).2.choose_spec.2.2 hw (hF _ hk)) h.os h.tape h.output h.size
theorem RH.IV {G:Nat}{F:Nat->Prop}{W:World}{e:Em}{H:Hp}{w:World}(h:RH G F W e H w):RH G F w e H w:=
 h.QF (fun k hk=>⟨(h.frame k hk).1,rfl⟩) (fun i o ho hw hk=>(h.obj i o ho).2.choose_spec.2.2 hw hk) rfl rfl rfl (aar _)
theorem RH.Je {G:Nat}{F F':Nat->Prop}{W:World}{e:Em}{H:Hp}{w:World}(h:RH G F W e H w){o:AO}{i:Nat}{H':Hp}(ha:Am.alloc H o=some (i,H')){b n:Nat}{ob:Obj}
  (hb:w.heap[b]? = some ob) (uk:∀ j oj,H.h.get j=some oj->e.b j≠b) (dH:OR (e.ext b 0 n) i o ob) (hF:∀ k,F' k->F k/\k≠b):i=e.N/\RH G F' W (e.ext b 0 n) H' w:=by
 obtain⟨rfl,ah,rfl⟩:=qz ha
 have hN:=h.N
 have eF:∀ j,(H.h.put 34 H.next o).get j=if j=H.next then some o else H.h.get j:=fun j=>Tr.fE _ _ _ _
 have hle:=Em.nf e b 0 n
 have old:∀ j oj,H.h.get j=some oj->(e.ext b 0 n).b j=e.b j:=fun j oj hj=>(hle.2 j (h.obj j oj hj).1).1
 refine⟨hN.symm,?_,?_,?_,?_,?_,h.os,h.tape,h.output,h.size,by obtain⟨g1,g2,g3⟩:=h.jy;rw[(hle.2 G g2).2.2];simp[Em.ext];omega⟩
 ·simp[Em.ext,hN]
 ·intro j oj hj
  simp only at hj
  rw[eF] at hj
  by_cases ej:j=H.next
  ·subst ej
   rw[if_pos rfl] at hj
   cases hj
   refine⟨by simp[Em.ext,hN],ob,?_,dH,?_⟩
   ·rw[<-hN,Em.jL];exact hb
   ·intro _ hk
    rw[<-hN,Em.jL] at hk
    exact (hF _ hk).2 rfl
  ·rw[if_neg ej] at hj
   obtain⟨a,nH,b2,c2,d2⟩:=h.obj j oj hj
   refine⟨by simp[Em.ext];omega,nH,?_,c2.mono hle a,?_⟩
   ·rw[old j oj hj];exact b2
   ·intro hw hk;rw[old j oj hj,(hle.2 G h.jy.2.1).2.2] at hw;rw[old j oj hj] at hk;exact d2 hw (hF _ hk).1
 ·intro j k oj ok hj hk hq he
  simp only at hj hk
  rw[eF] at hj hk
  by_cases ej:j=H.next<;>by_cases ek:k=H.next
  ·omega
  ·rw[if_neg ek] at hk
   rw[old k ok hk,ej,<-hN,Em.jL] at he
   exact absurd he.symm (uk k ok hk)
  ·rw[if_neg ej] at hj
   rw[old j oj hj,ek,<-hN,Em.jL] at he
   exact absurd he (uk j oj hj)
  ·rw[if_neg ej] at hj
   rw[if_neg ek] at hk
   rw[old j oj hj,(hle.2 G h.jy.2.1).2.2] at hq
   rw[old j oj hj,old k ok hk] at he
   exact h.inj j k oj ok hj hk hq he
 ·intro g hg
  obtain⟨a,b',c⟩:=h.nW g hg
  obtain⟨x,y,_⟩:=hle.2 g a
  exact⟨by simp[Em.ext];omega,x.trans b',y.trans c⟩
 ·intro k hk
  exact h.frame k (hF k hk).1
theorem SF {e:Em}{l:List AV}{cs:Array Value}{el b:Nat}(hl:az e l cs.toList)(hlen:l.length<=16777216):OR (e.ext b 0 cs.size) e.N (.cells (Tr.dh .nil 0 l) 0 l.length el 0) (.cells cs el (0,0)):=by
 refine .cells _ _ _ _ _ _ _ (by rw[Em.qt]) ?_ (fun _=>rfl) (by simp) (fun _=>Em.jN ..)
 intro k v _ hk hg
 rw[Tr.D5 .nil _ _ _ _ (by omega)] at hg
 rw[if_pos ⟨by omega,by omega⟩,ae9] at hg
 obtain⟨v',cQ,hr⟩:=hl.get hg
 exact⟨k,by rw[Em.jN];omega,v',by rw[<-adm];exact cQ,hr.mono (Em.nf ..)⟩
structure p7 (P:Program)(cf:CF)(n:Nat)(ops:Array Oper)(B:List Nat)(t0:Tm)(H0:Hp)(TP TE:Nat->Tm)(HB HH:Nat->Hp)(V:Nat->AV)(X:Nat->Bool):Prop where
 form:Form ops B
 t1:TP 0=t0
 t2:TE 0=t0
 h1:HB 0=H0
 h2:HH 0=H0
 step:∀ j o,ops[j]? = some o->J3 P cf n ops o (X j) (V j) (TP j) (TE j) (TP (j+1)) (TE (j+1)) (HB j) (HH j) (HB (j+1)) (HH (j+1))
 d1:∀ i oi,ops[i]? = some oi->X i=true->kd P oi = .dU->∀ j oj,ops[j]? = some oj->X j=true->(kd P oj = .dU\/kd P oj = .late)->j<i->(B.getD i 0).testBit j=true
 d2:∀ i oi,ops[i]? = some oi->X i=true->kd P oi = .dU->∀ j oj,ops[j]? = some oj->X j=true->kd P oj = .read->j<i->(B.getD i 0).testBit j=true\/
  ∃ h',fH P (ev P.globals.size (TP j)) oj (HB (i+1))=some (V j,h')
 d3:∀ i oi,ops[i]? = some oi->X i=true->kd P oi = .dU->∀ j oj,ops[j]? = some oj->X j=true->kd P oj = .read->i<j->(B.getD j 0).testBit i=true\/
  ∃ h',fH P (ev P.globals.size (TP j)) oj (HB i)=some (V j,h')
def pv (P:Program)(V:Nat->AV)(X:Nat->Bool)(j:Nat)(o:Oper):AV:=if X j=true/\kd P o = .late then .dT else V j
section
variable {P:Program}{cf:CF}{n:Nat}{ops:Array Oper}{B:List Nat}{t0:Tm}{H0:Hp}{TP TE:Nat->Tm}{HB HH:Nat->Hp}{V:Nat->AV}{X:Nat->Bool}
theorem p7.dh (R:p7 P cf n ops B t0 H0 TP TE HB HH V X){j:Nat}{o:Oper}(ho:ops[j]? = some o) :
  hZ n o.dst (pv P V X j o) (TP j)=some (TP (j+1))/\hZ n o.dst (V j) (TE j)=some (TE (j+1)):=by
 obtain⟨_,h⟩:=R.step j o ho
 cases hx:X j with
 | false=>
  rw[hx] at h
  obtain⟨h1,h2,h3,_⟩:=h
  simp only[pv,hx,abZ,false_and,if_false]
  rw[h1];exact⟨h2,h3⟩
 | true=>
  rw[hx] at h
  cases hk:kd P o<;>rw[hk] at h<;>simp only[pv,hx,hk,true_and,if_true,reduceCtorEq,if_false,and_false]
  ·exact⟨h.2.1,h.2.2.1⟩
  ·exact⟨h.2.1,h.2.2.1⟩
  ·exact⟨h.2.1,h.2.2.1⟩
  ·exact⟨h.2.1,h.2.2.1⟩
theorem p7.ai (R:p7 P cf n ops B t0 H0 TP TE HB HH V X):∀ i,i<=ops.size->∀ d,
  (∀ j o,j<i->ops[j]? = some o->o.dst=some d->(TP i).get d=some (pv P V X j o)/\(TE i).get d=some (V j))/\
  ((∀ j o,j<i->ops[j]? = some o->o.dst≠some d)->(TP i).get d=t0.get d/\(TE i).get d=t0.get d):=by
 intro i
 induction i with
 | zero=>intro _ d;exact⟨fun j o hj=>by omega,fun _=>⟨by rw[R.t1],by rw[R.t2]⟩⟩
 | succ i ih=>
  intro hi d
  obtain⟨i1,i2⟩:=ih (by omega) d
  have ho:ops[i]? = some ops[i]:=aeP (by omega)
  obtain⟨p1,p2⟩:=R.dh ho
  have g1:=KL p1 d
  have g2:=KL p2 d
  constructor
  ·intro j o hj nL hd
   by_cases oJ:j=i
   ·subst oJ
    rw[ho] at nL;cases nL
    rw[g1,g2,if_pos hd,if_pos hd];exact⟨rfl,rfl⟩
   ·have cL:ops[i].dst≠some d:=fun q=>oJ (R.form.one j i o _ d nL ho hd q)
    rw[g1,g2,if_neg cL,if_neg cL]
    exact i1 j o (by omega) nL hd
  ·intro gC
   have cL:=gC i _ (by omega) ho
   rw[g1,g2,if_neg cL,if_neg cL]
   exact i2 fun j o hj nL=>gC j o (by omega) nL
theorem p7.VD (R:p7 P cf n ops B t0 H0 TP TE HB HH V X)(p:Nat):∀ k,p+k<=ops.size->(∀ j o,p<=j->j<p+k->ops[j]? = some o->X j=true->kd P o ≠ .dU)->HB (p+k)=HB p:=by
 intro k
 induction k with
 | zero=>intro _ _;rfl
 | succ k ih=>
  intro hk cL
  have ho:ops[p+k]? = some ops[p+k]:=aeP (by omega)
  obtain⟨_,h⟩:=R.step (p+k) _ ho
  have:HB (p+k+1)=HB (p+k):=by
   cases hx:X (p+k) with
   | false=>rw[hx] at h;exact h.2.2.2.1
   | true=>
    rw[hx] at h
    have hn:=cL (p+k) _ (by omega) (by omega) ho hx
    cases cU:kd P ops[p+k]<;>rw[cU] at h
    ·exact h.2.2.2.1
    ·exact h.2.2.2.1
    ·exact h.2.2.2
    ·exact absurd cU hn
  rw[<-afj,this]
  exact ih (by omega) fun j o h1 h2=>cL j o h1 (by omega)
end
end
variable {P:Program}
theorem NC:∀ {a b:AV},mO a b=true->a=b:=by
 intro a b h
 unfold mO at h
 split at h<;>first
  | rfl
  | (cases h;done)
  | (simp only[beq_iff_eq] at h;subst h;rfl)
  | (simp only[zf,beq_iff_eq] at h;obtain⟨h1,h2⟩:=h;subst h1;subst h2;rfl)
  | (simp only[zf] at h;obtain⟨h1,h2⟩:=h;rw[aba h1,aba h2])
  | (simp only[zf,beq_iff_eq] at h;obtain⟨⟨⟨⟨⟨h1,h2⟩,h3⟩,h4⟩,h5⟩,h6⟩:=h;rw[aba h1,aba h2,aba h3,aba h4,h5,aba h6])
  | (rw[aba h])
theorem OA:∀ {a b:List AV},wG a b=true->a=b
 | [],[],_=>rfl
 | [],_::_,h=>by simp[wG] at h
 | _::_,[],h=>by simp[wG] at h
 | a::x,b::y,h=>by
  simp only[wG,zf] at h
  rw[NC h.1,OA h.2]
theorem Pu {a b:AV}(h:same a b=true):a=b:=by
 unfold same at h
 split at h
 ·rw[OA h]
 ·rw[OA h]
 ·simp only[zf] at h
  rw[aba h.1,NC h.2]
 ·exact NC h
theorem iP {x:Option AV}{H:Hp}{v:AV}{H':Hp}(h:x.map (fun v=>(v,H))=some (v,H')):x=some v/\H'=H:=by
 simp only[yB,abT] at h
 obtain⟨a,ha,rfl,rfl⟩:=h
 exact⟨ha,rfl⟩
theorem sG {x:Option AV}{H:Hp}{v:AV}(h:x=some v):x.map (fun v=>(v,H))=some (v,H):=by rw[h];rfl
theorem acD {o:Oper}(h:kd P o = .late):(∃ t l ps,o.op = .buildSlice t l ps)\/(∃ t,o.op = .alloc t)\/(∃ t a b,o.op = .makeSlice t (.const a) (.const b))\/∃ a b v el,o.op = .convert a b (.const v)/\P.underlying a=some .string/\P.underlying b=some (.slice el):=by
 unfold kd at h
 cases ay:o.op<;>rw[ay] at h<;>simp only[reduceCtorEq] at h
 case buildSlice t l ps=>exact .inl ⟨t,l,ps,rfl⟩
 case alloc t=>exact .inr (.inl ⟨t,rfl⟩)
 case binOp=>split at h<;>first | (cases h;done) | (split at h<;>cases h)
 case convert a b x=>
  split at h<;>first | (cases h;done) | skip
  rename_i el ha hb
  split at h
  ·rename_i v;exact .inr (.inr (.inr ⟨a,b,v,el,rfl,ha,hb⟩))
  ·cases h
 case makeSlice t l c=>
  split at h
  ·rename_i a b;exact .inr (.inr (.inl ⟨t,a,b,rfl⟩))
  ·cases h
 case call c=>split at h<;>cases h
theorem abc {a b:TypeId}{x v:AV}{H H':Hp}{i j:IntKind}(ha:P.underlying a=some (.int i))(hb:P.underlying b=some (.int j))(h:jw P a b x H=some (v,H')) :
  H'=H/\∀ H2,jw P a b x H2=some (v,H2):=by
 unfold jw at h ⊢
 rw[ha,hb] at h ⊢
 cases x<;>simp only at h ⊢ <;> first | (cases h;exact⟨rfl,fun _=>rfl⟩) | (cases h;done) | (simp at h;done) | skip
theorem Xx {a b : TypeId}{x v : AV}{H H' : Hp}(ha : P.underlying a = some .string)(hb : P.underlying b = some .string)(h : jw P a b x H = some (v, H')) :
    H' = H /\ ∀ H2, jw P a b x H2 = some (v, H2) := by
  unfold jw at h ⊢
  rw[ha, hb] at h ⊢
  cases x<;>simp only at h ⊢ <;> first
    | (cases h;exact⟨rfl, fun _ => rfl⟩) | (cases h;done) | (simp at h;done)
    | (split at h
       · rename_i q;cases h;exact⟨rfl, fun _ => by rw[if_pos q]⟩
       · cases h)
    | skip
theorem al9 {a b e:TypeId}{x v:AV}{H H':Hp}(ha:P.underlying a=some (.slice e))(hb:P.underlying b=some .string)(h:jw P a b x H=some (v,H')):H'=H:=by
 unfold jw at h
 rw[ha,hb] at h
 cases x<;>simp only at h<;>first
  | (cases h;rfl) | (cases h;done) | (simp at h;done)
  | (split at h<;>first | (cases h;rfl) | (cases h;done) | skip)
  | skip
 rename_i q
 cases hz:Nat.beq _ 0 with
 | true=>rw[hz] at h;cases h;rfl
 | false=>
  rw[hz] at h
  simp only[cond_false,aa6,yB,abT] at h
  obtain⟨_,_,_,_,_,rfl⟩:=h
  rfl
theorem RG {ρ:Operand->AV}{o:Oper}{H H':Hp}{v:AV}(hk:kd P o = .pure\/kd P o = .read)(h:fH P ρ o H=some (v,H')):H'=H:=by
 unfold fH at h
 unfold kd at hk
 cases ay:o.op<;>rw[ay] at h hk<;>simp only[reduceCtorEq,or_self] at h hk
 case move x=>cases h;rfl
 case assign x=>cases h;rfl
 case pick c a b=>
  split at h
  ·cases h;rfl
  ·cases h
 case build t ps=>exact (iP h).2
 case load t a=>exact (iP h).2
 case nilCheck x=>exact (iP h).2
 case binOp op t x y ty=>
  cases hg:sS P op t x y (ρ x) (ρ y) with
  | false=>rw[hg] at h;cases h
  | true=>rw[hg] at h;exact (iP h).2
 case unOp op t x=>exact (iP h).2
 case convert a b x=>
  split at hk
  ·rename_i i j ha hb;exact (abc ha hb h).1
  ·rename_i ha hb;exact (Xx ha hb h).1
  ·rename_i e ha hb;exact al9 ha hb h
  ·split at hk<;>simp at hk
  ·simp at hk
 case makeSlice t l c=>split at hk<;>simp at hk
 case makeInterface t x=>exact (iP h).2
 case makeFunc fn a b=>exact (iP h).2
 case slice t x lo hi mx=>exact (iP h).2
 case fieldAddr t x f=>exact (iP h).2
 case field t x f=>exact (iP h).2
 case indexAddr t x ix=>exact (iP h).2
 case index t x ix=>exact (iP h).2
 case lookup t x k ok=>exact (iP h).2
 case entry it=>exact (iP h).2
 case extract t ix=>
  split at h
  ·exact (iP h).2
  ·cases h
 case typeAssert x t uv ok=>exact (iP h).2
 case call c=>
  cases hc:c.callee with
  | builtin b=>
   rw[hc] at h hk
   simp only at h hk
   cases b<;>simp only[reduceCtorEq,or_self] at hk<;>(unfold eP at h;split at h<;>first | (cases h;done) | exact (iP h).2 | simp_all)
  | value f=>rw[hc] at h;cases h
  | invoke r m=>rw[hc] at h;cases h
theorem ah7 {op:BinOp}{t:TypeId}{x y:AV}(hk:(match op with
   | .eql | .neq=>match P.underlying t with | some (.int _) | some .string | some .bool=>Kd.pure | _ => .read
   | _ => .pure) = .pure) (H H2:Hp):kG P op t x y H=kG P op t x y H2:=by
 have heq:(op = .eql\/op = .neq)->∀ H H2:Hp,ja P 50 t x y H=ja P 50 t x y H2:=by
  intro ho H H2
  have hu:P.underlying t=some .string\/P.underlying t=some .bool\/∃ k,P.underlying t=some (.int k):=by
   rcases ho with rfl | rfl<;>(simp only at hk;split at hk<;>first | (exact .inl (by assumption)) | (exact .inr (.inl (by assumption))) | (exact .inr (.inr ⟨_,by assumption⟩)) | cases hk)
  unfold ja
  rcases hu with hu | hu | ⟨k,hu⟩<;>(rw[hu];cases x<;>cases y<;>rfl)
 cases op
 case eql=>
  have:=heq (.inl rfl) H H2
  cases x<;>cases y<;>simp only[kG,this]
 case neq=>
  have:=heq (.inr rfl) H H2
  cases x<;>cases y<;>simp only[kG,this]
 all_goals (cases x<;>cases y<;>rfl)
theorem apR {ρ:Operand->AV}{o:Oper}{H H':Hp}{v:AV}(hk:kd P o = .pure)(h:fH P ρ o H=some (v,H'))(H2:Hp):fH P ρ o H2=some (v,H2):=by
 have hs:=RG (.inl hk) h
 subst hs
 unfold fH at h ⊢
 unfold kd at hk
 cases ay:o.op<;>rw[ay] at h hk<;>simp only[reduceCtorEq] at h hk ⊢
 case move x=>cases h;rfl
 case assign x=>cases h;rfl
 case pick c a b=>
  split at h
  ·cases h;simp[*]
  ·cases h
 case build t ps=>exact sG (iP h).1
 case nilCheck x=>exact sG (iP h).1
 case binOp op t x y ty=>
  cases hg:sS P op t x y (ρ x) (ρ y) with
  | false=>rw[hg] at h;cases h
  | true=>
   rw[hg] at h
   rw[ah7 hk H2 H']
   exact sG (iP h).1
 case unOp op t x=>exact sG (iP h).1
 case convert a b x=>
  split at hk
  ·rename_i i j ha hb;exact (abc ha hb h).2 H2
  ·rename_i ha hb;exact (Xx ha hb h).2 H2
  ·cases hk
  ·split at hk<;>cases hk
  ·cases hk
 case makeSlice t l c=>split at hk<;>cases hk
 case makeInterface t x=>exact sG (iP h).1
 case makeFunc fn a b=>exact sG (iP h).1
 case fieldAddr t x f=>exact sG (iP h).1
 case field t x f=>exact sG (iP h).1
 case indexAddr t x ix=>exact sG (iP h).1
 case index t x ix=>exact sG (iP h).1
 case extract t ix=>
  split at h
  ·rename_i l hl;exact sG (iP h).1
  ·cases h
 case typeAssert x t uv ok=>exact sG (iP h).1
 case call c=>
  cases hc:c.callee with
  | builtin b=>
   rw[hc] at h hk
   simp only at h hk ⊢
   cases b<;>simp only[reduceCtorEq] at hk<;>(unfold eP at h ⊢;split at h<;>first | (cases h;done) | exact sG (iP h).1 | simp_all)
  | value f=>rw[hc] at h;cases h
  | invoke r m=>rw[hc] at h;cases h
end
section
variable {P:Program}{cf:CF}{n:Nat}{ops:Array Oper}{B:List Nat}{t0:Tm}{H0:Hp}{TP TE:Nat->Tm}{HB HH:Nat->Hp}{V:Nat->AV}{X:Nat->Bool}
def kJ (P:Program)(ops:Array Oper)(X:Nat->Bool)(S:Nat->Prop)(p j:Nat):Prop:=S j/\p<=j/\X j=true/\∃ o,ops[j]? = some o/\kd P o = .late
def KM (P:Program)(e1:Em)(t:Tm)(o:Oper)(b:Nat)(ob:Obj)(val:Value):Prop:=
 ∀ (H H':Hp) (v:AV) (e:Em),fH P (ev P.globals.size t) o H=some (v,H')->e1.le e->e.N=H.next->∃ ao n,Am.alloc H ao=some (e.N,H')/\OR (e.ext b 0 n) e.N ao ob/\VR (e.ext b 0 n) v val
structure Inv (P:Program)(n:Nat)(ops:Array Oper)(B:List Nat)(t0:Tm)(TP:Nat->Tm)(HB HH:Nat->Hp)(V:Nat->AV)(X:Nat->Bool)(F:Nat->Prop)(W:World)(e0:Em)(ds:List Deferred)
  (S:Nat->Prop) (p:Nat) (e:Em) (a:Act) (w:World) (dY:Nat->Nat):Prop where
 pN:p<=ops.size
 ph:HH p=HB p
 pe:p=0\/∃ j oj,p=j+1/\ops[j]? = some oj/\X j=true/\kd P oj = .dU
 down:∀ i j,S i->(B.getD i 0).testBit j=true->S j
 dU:∀ i o,ops[i]? = some o->X i=true->kd P o = .dU->(S i↔i<p)
 rh:RH P.globals.size (fun k=>F k\/∃ j,kJ P ops X S p j/\dY j=k) w e (HB p) w
 frame:∀ k,F k->w.heap[k]? = W.heap[k]?
 os:w.os=W.os
 tape:w.tape=W.tape
 output:w.output=W.output
 size:W.heap.size<=w.heap.size
 LG:∀ j,kJ P ops X S p j->e.n P.globals.size<=dY j/\¬ F (dY j)/\∀ o,ops[j]? = some o->∃ ob val e1,e1.le e/\w.heap[dY j]? = some ob/\KM P e1 (TP j) o (dY j) ob val/\∀ d,o.dst=some d->a.tmps.getD d undef=val
 Jk:∀ i j,kJ P ops X S p i->kJ P ops X S p j->dY i=dY j->i=j
 val:∀ j o d,ops[j]? = some o->S j->o.dst=some d->¬ kJ P ops X S p j->VR e (V j) (a.tmps.getD d undef)
 EC:∀ d,(∀ j o,ops[j]? = some o->S j->o.dst≠some d)->VR e ((t0.get d).getD cP) (a.tmps.getD d undef)
 Ca:n<=a.tmps.size
 le:e0.le e
 defers:a.defers=ds
theorem Inv.read (R:p7 P cf n ops B t0 H0 TP TE HB HH V X){F:Nat->Prop}{W:World}{e0:Em}{ds:List Deferred}{S:Nat->Prop}{p:Nat}{e:Em}{a:Act}{w:World}{dY:Nat->Nat}
  (I:Inv P n ops B t0 TP HB HH V X F W e0 ds S p e a w dY) {i:Nat} {o:Oper} (ho:ops[i]? = some o) (hS:¬ S i) (hr:∀ j,(B.getD i 0).testBit j=true->S j) {d:Tmp} (hd:yg ops o d=true) :
  VR e (((TP i).get d).getD cP) (a.tmps.getD d undef):=by
 have hi:i<ops.size:=(abM.1 ho).1
 obtain⟨v1,v2⟩:=R.ai i (Nat.le_of_lt hi) d
 by_cases hex:∃ j o',j<i/\ops[j]? = some o'/\o'.dst=some d
 ·obtain⟨j,o',hj,fh,gP⟩:=hex
  rw[(v1 j o' hj fh gP).1]
  have sT:S j:=by
   have:=R.form.rd j i o' o d fh ho gP (by omega) hd
   rw[if_pos hj] at this
   exact hr j this
  simp only[agy,pv]
  split
  ·exact .dT _
  ·rename_i hn
   refine I.val j o' d fh sT gP (fun q=>hn ?_)
   obtain⟨_,_,hx,o2,vl,hk⟩:=q
   rw[fh] at vl;cases vl
   exact⟨hx,hk⟩
 ·rw[(v2 fun j o' hj fh gP=>hex ⟨j,o',hj,fh,gP⟩).1]
  refine I.EC d fun j o' fh sT gP => ?_
  by_cases oJ:j<i
  ·exact hex ⟨j,o',oJ,fh,gP⟩
  ·by_cases yC:j=i
   ·subst yC;exact hS sT
   ·have:=R.form.rd j i o' o d fh ho gP yC hd
    rw[if_neg (by omega)] at this
    exact hS (I.down j i sT this)
theorem akE {o:Oper}{d:Tmp}(h:Operand.tmp d∈o.op.operands.toList):d∈tmpsOf o:=by
 unfold tmpsOf
 rw[List.mem_filterMap]
 exact⟨.tmp d,h,rfl⟩
theorem Pq {o:Oper}{d:Tmp}(h:Operand.tmp d∈o.op.operands.toList):yg ops o d=true:=by
 unfold yg
 rw[aff]
 left
 simpa using akE h
theorem N3 {F:Nat->Prop}{W:World}{e:Em}{H:Hp}{w:World}(h:RH P.globals.size F W e H w){t:Tm}{a:Act}{x:Operand}(ht:∀ d,x = .tmp d->VR e ((t.get d).getD cP) (a.tmps.getD d undef)) :
  VR e (ev P.globals.size t x) (a.eval x):=by
 cases x with
 | tmp d=>exact ht d rfl
 | const v=>
  simp only[Am.ev,Act.eval]
  cases hc:Am.kf v with
  | none=>exact .dT v
  | some c=>exact .kf hc
 | global g=>
  simp only[Am.ev,Act.eval]
  cases hb:Nat.blt g P.globals.size with
  | false=>exact .dT _
  | true=>
   rw[adn] at hb
   obtain⟨h1,h2,h3⟩:=h.nW g hb
   have:=VR.ptr (e:=e) g 0 0 h1 (by rw[h3];simp)
   rw[h2] at this
   exact this
 | func f=>exact .func _ (by simp) [] [] #[] #[] rfl rfl (by simp) (by simp)
theorem Inv.Je (R:p7 P cf n ops B t0 H0 TP TE HB HH V X){F:Nat->Prop}{W:World}{e0:Em}{ds:List Deferred}{S:Nat->Prop}{p:Nat}{e:Em}{a:Act}{w:World}{dY:Nat->Nat}
  (I:Inv P n ops B t0 TP HB HH V X F W e0 ds S p e a w dY):∀ k,p+k<=ops.size->(∀ j o,p<=j->j<p+k->ops[j]? = some o->X j=true->kd P o ≠ .dU/\(kd P o = .late->S j))->
  ∃ e',e.le e'/\RH P.globals.size (fun q=>F q\/∃ j,kJ P ops X S (p+k) j/\dY j=q) w e' (HH (p+k)) w/\
   ∀ j o d,p<=j->j<p+k->ops[j]? = some o->X j=true->kd P o = .late->o.dst=some d->VR e' (V j) (a.tmps.getD d undef):=by
 intro k
 induction k with
 | zero=>
  intro _ _
  refine⟨e,e.le_refl,?_,fun j o d h1 h2=>by omega⟩
  rw[ae6,I.ph]
  exact I.rh
 | succ k ih=>
  intro hk cL
  obtain⟨e1,mE,gG,iI⟩:=ih (by omega) fun j o h1 h2=>cL j o h1 (by omega)
  have ho:ops[p+k]? = some ops[p+k]:=aeP (by omega)
  obtain⟨_,fW⟩:=R.step (p+k) _ ho
  have same:HH (p+k+1)=HH (p+k)->¬ (X (p+k)=true/\kd P ops[p+k] = .late)->∃ e',e.le e'/\RH P.globals.size (fun q=>F q\/∃ j,kJ P ops X S (p+(k+1)) j/\dY j=q) w e' (HH (p+(k+1))) w/\
   ∀ j o d,p<=j->j<p+(k+1)->ops[j]? = some o->X j=true->kd P o = .late->o.dst=some d->VR e' (V j) (a.tmps.getD d undef):=by
   intro hh kR
   refine⟨e1,mE,?_,?_⟩
   ·rw[<-afj,hh]
    refine gG.weaken fun q hq => ?_
    rcases hq with hq | ⟨j,⟨q1,q2,q3⟩,q4⟩
    ·exact .inl hq
    ·exact .inr ⟨j,⟨q1,by omega,q3⟩,q4⟩
   ·intro j o d h1 h2 hj hx cU hd
    by_cases Gi:j=p+k
    ·subst Gi
     rw[ho] at hj;cases hj
     exact absurd ⟨hx,cU⟩ kR
    ·exact iI j o d h1 (by omega) hj hx cU hd
  cases hx:X (p+k) with
  | false=>
   rw[hx] at fW
   exact same fW.2.2.2.2 (by simp[hx])
  | true=>
   rw[hx] at fW
   have hn:=cL (p+k) _ (by omega) (by omega) ho hx
   cases cU:kd P ops[p+k]<;>rw[cU] at fW
   ·exact same fW.2.2.2.2 (by simp[cU])
   ·exact same fW.2.2.2.2 (by simp[cU])
   ·obtain⟨hA,_,_,_⟩:=fW
    have hS:=hn.2 cU
    have hpd:kJ P ops X S (p+k) (p+k):=⟨hS,aar _,hx,_,ho,cU⟩
    have YS:kJ P ops X S p (p+k):=⟨hS,by omega,hx,_,ho,cU⟩
    obtain⟨g1,g2,g3⟩:=I.LG _ YS
    obtain⟨ob,val,e0',apO,HP,hrel,NM⟩:=g3 _ ho
    obtain⟨ao,nn,ff,dH,gu⟩:=hrel _ _ _ e1 hA (Em.le_trans apO mE) gG.N
    have uk:∀ j oj,(HH (p+k)).h.get j=some oj->e1.b j≠dY (p+k):=by
     intro j oj hj hq
     obtain⟨a1,ob,b1,c1,d1⟩:=gG.obj j oj hj
     by_cases hjG:e1.n P.globals.size<=e1.b j
     ·exact d1 (.inr hjG) (.inr ⟨p+k,hpd,hq.symm⟩)
     ·have:=(mE.2 _ I.rh.jy.2.1).2.2
      omega
    obtain⟨_,tc⟩:=gG.Je (F':=fun q=>F q\/∃ j,kJ P ops X S (p+(k+1)) j/\dY j=q) ff HP uk dH (by
     intro q hq
     rcases hq with hq | ⟨j,⟨q1,q2,q3⟩,q4⟩
     ·exact⟨.inl hq,fun r=>g2 (r▸hq)⟩
     ·refine⟨.inr ⟨j,⟨q1,by omega,q3⟩,q4⟩,fun r => ?_⟩
      have:=I.Jk j (p+k) ⟨q1,by omega,q3⟩ YS (q4.trans r)
      omega)
    refine⟨_,Em.le_trans mE (Em.nf ..),by rw[<-afj];exact tc,?_⟩
    intro j o d h1 h2 hj uq rf hd
    by_cases Gi:j=p+k
    ·subst Gi
     rw[ho] at hj;cases hj
     rw[NM d hd]
     exact gu
    ·exact (iI j o d h1 (by omega) hj uq rf hd).mono (Em.nf ..)
   ·exact absurd cU hn.1
end
end
theorem RH.push {G:Nat}{F:Nat->Prop}{W:World}{e:Em}{H:Hp}{w:World}(h:RH G F W e H w)(ob:Obj) :
  RH G (fun k=>F k\/k=w.heap.size) { w with heap:=w.heap.push ob } e H { w with heap:=w.heap.push ob }:=by
 refine⟨h.N,?_,h.inj,h.nW,?_,rfl,rfl,rfl,aar _,by obtain⟨g1,g2,g3⟩:=h.jy;simp;omega⟩
 ·intro i o ho
  obtain⟨a,nH,b,c,d⟩:=h.obj i o ho
  have ah:=(abM.1 b).1
  refine⟨a,nH,?_,c,fun hw hk => ?_⟩
  ·simp only;rw[aho,if_neg (by omega)];exact b
  ·rcases hk with hk | hk
   ·exact d hw hk
   ·omega
 ·intro k hk
  refine⟨?_,rfl⟩
  rcases hk with hk | hk
  ·have:=(h.frame k hk).1;simp;omega
  ·simp;omega
theorem JR {a:Act}{dst:Option Tmp}{v:Value}{n:Nat}(hn:n<=a.tmps.size)(hd:∀ d,dst=some d->d<n)(d:Tmp):(a.put dst v).tmps.getD d undef=if dst=some d then v else a.tmps.getD d undef:=by
 cases dst with
 | none=>simp[Act.put]
 | some x=>
  simp only[Act.put]
  have Ja:x<a.tmps.size:=adi (hd x rfl) hn
  rw[XD Ja]
  by_cases hx:d=x
  ·subst hx;simp
  ·rw[if_neg hx,if_neg (fun q=>hx (adz q).symm)]
theorem Jm {a:Act}{dst:Option Tmp}{v:Value}:(a.put dst v).tmps.size=a.tmps.size:=by cases dst<;>simp[Act.put]
theorem G7 {a:Act}{dst:Option Tmp}{v:Value}:(a.put dst v).defers=a.defers:=by cases dst<;>rfl
section
variable {P:Program}{cf:CF}{n:Nat}{ops:Array Oper}{B:List Nat}{t0:Tm}{H0:Hp}{TP TE:Nat->Tm}{HB HH:Nat->Hp}{V:Nat->AV}{X:Nat->Bool}
 {F:Nat->Prop} {W:World} {e0:Em} {ds:List Deferred} {S:Nat->Prop} {p:Nat} {e:Em} {a:Act} {w:World} {dY:Nat->Nat}
theorem p7.lt (R:p7 P cf n ops B t0 H0 TP TE HB HH V X){i:Nat}{o:Oper}(ho:ops[i]? = some o):∀ d,o.dst=some d->d<n:=fun d hd=>acz (R.dh ho).2 hd
theorem Inv.quiet (R:p7 P cf n ops B t0 H0 TP TE HB HH V X)(I:Inv P n ops B t0 TP HB HH V X F W e0 ds S p e a w dY){i:Nat}{o:Oper}(ho:ops[i]? = some o)(hS:¬ S i)
  (hr:∀ j,(B.getD i 0).testBit j=true->S j) (hk:X i=true->kd P o ≠ .late/\kd P o ≠ .dU) {e':Em} {w':World} {v':Value}
  (he:e.le e') (hR:RH P.globals.size (fun k=>F k\/∃ j,kJ P ops X S p j/\dY j=k) w e' (HB p) w') (hv:VR e' (V i) v') :
  Inv P n ops B t0 TP HB HH V X F W e0 ds (fun j=>S j\/j=i) p e' (a.put o.dst v') w' dY:=by
 have kF:∀ j,kJ P ops X (fun j=>S j\/j=i) p j↔kJ P ops X S p j:=by
  intro j
  constructor
  ·rintro⟨q1 | q1,q2,q3,o2,q4,q5⟩
   ·exact⟨q1,q2,q3,o2,q4,q5⟩
   ·subst q1
    rw[ho] at q4;cases q4
    exact absurd q5 (hk q3).1
  ·rintro⟨q1,q2⟩
   exact⟨.inl q1,q2⟩
 have cL:∀ j o2 d,ops[j]? = some o2->o2.dst=some d->j≠i->o.dst≠some d:=fun j o2 d h1 h2 h3 h4=>h3 (R.form.one j i o2 o d h1 ho h2 h4)
 have eF:=fun d=>JR (a:=a) (dst:=o.dst) (v:=v') I.Ca (R.lt ho) d
 refine⟨I.pN,I.ph,I.pe,?_,?_,?_,?_,hR.os.trans I.os,hR.tape.trans I.tape,hR.output.trans I.output,abS I.size hR.size,?_,?_,?_,?_,by rw[Jm];exact I.Ca,Em.le_trans I.le he,by rw[G7];exact I.defers⟩
 ·intro i' j h1 h2
  rcases h1 with h1 | h1
  ·exact .inl (I.down i' j h1 h2)
  ·subst h1;exact .inl (hr j h2)
 ·intro i' o' h1 h2 h3
  rw[<-I.dU i' o' h1 h2 h3]
  constructor
  ·rintro (q | q)
   ·exact q
   ·subst q;rw[ho] at h1;cases h1;exact absurd h3 (hk h2).2
  ·exact .inl
 ·refine (hR.weaken fun k hk => ?_).IV
  rcases hk with hk | ⟨j,h1,h2⟩
  ·exact .inl hk
  ·exact .inr ⟨j,(kF j).1 h1,h2⟩
 ·intro k hk
  exact (hR.frame k (.inl hk)).2.trans (I.frame k hk)
 ·intro j hj
  have iU:=(kF j).1 hj
  obtain⟨g1,g2,g3⟩:=I.LG j iU
  refine⟨by rw[(he.2 _ I.rh.jy.2.1).2.2];exact g1,g2,fun o2 h1 => ?_⟩
  obtain⟨ob,val,e9,l9,q3,q2,q4⟩:=g3 o2 h1
  refine⟨ob,val,e9,Em.le_trans l9 he,?_,q2,fun d hd => ?_⟩
  ·rw[(hR.frame (dY j) (.inr ⟨j,iU,rfl⟩)).2];exact q3
  ·rw[eF,if_neg (cL j o2 d h1 hd (fun q=>hS (q▸iU.1)))];exact q4 d hd
 ·intro x y hx hy
  exact I.Jk x y ((kF x).1 hx) ((kF y).1 hy)
 ·intro j o2 d h1 h2 h3 h4
  rw[eF]
  rcases h2 with h2 | h2
  ·rw[if_neg (cL j o2 d h1 h3 (fun q=>hS (q▸h2)))]
   exact (I.val j o2 d h1 h2 h3 (fun q=>h4 ((kF j).2 q))).mono he
  ·subst h2
   rw[ho] at h1;cases h1
   rw[if_pos h3];exact hv
 ·intro d hd
  rw[eF,if_neg (hd i o ho (.inr rfl))]
  exact (I.EC d fun j o2 h1 h2=>hd j o2 h1 (.inl h2)).mono he
theorem Inv.late (R:p7 P cf n ops B t0 H0 TP TE HB HH V X)(I:Inv P n ops B t0 TP HB HH V X F W e0 ds S p e a w dY){i:Nat}{o:Oper}(ho:ops[i]? = some o)(hS:¬ S i)
  (hr:∀ j,(B.getD i 0).testBit j=true->S j) (hX:X i=true) (cU:kd P o = .late) (xZ:p<=i) {ob:Obj} {val:Value} {dr:Nat} (hrel:KM P e (TP i) o w.heap.size ob val) :
  Inv P n ops B t0 TP HB HH V X F W e0 ds (fun j=>S j\/j=i) p e (a.put o.dst val) { w with drawn:=dr,heap:=w.heap.push ob } (fun j=>if j=i then w.heap.size else dY j):=by
 have kF:∀ j,kJ P ops X (fun j=>S j\/j=i) p j↔(kJ P ops X S p j\/j=i):=by
  intro j
  constructor
  ·rintro⟨q1 | q1,q2⟩
   ·exact .inl ⟨q1,q2⟩
   ·exact .inr q1
  ·rintro (⟨q1,q2⟩ | q)
   ·exact⟨.inl q1,q2⟩
   ·subst q;exact⟨.inr rfl,xZ,hX,o,ho,cU⟩
 have cL:∀ j o2 d,ops[j]? = some o2->o2.dst=some d->j≠i->o.dst≠some d:=fun j o2 d h1 h2 h3 h4=>h3 (R.form.one j i o2 o d h1 ho h2 h4)
 have eF:=fun d=>JR (a:=a) (dst:=o.dst) (v:=val) I.Ca (R.lt ho) d
 have ah:∀ j,kJ P ops X S p j->dY j<w.heap.size:=fun j hj=>(I.rh.frame (dY j) (.inr ⟨j,hj,rfl⟩)).1
 have zb:∀ j,kJ P ops X S p j->j≠i:=fun j hj q=>hS (q▸hj.1)
 refine⟨I.pN,I.ph,I.pe,?_,?_,?_,?_,I.os,I.tape,I.output,by simp;have:=I.size;omega,?_,?_,?_,?_,by rw[Jm];exact I.Ca,I.le,by rw[G7];exact I.defers⟩
 ·intro i' j h1 h2
  rcases h1 with h1 | h1
  ·exact .inl (I.down i' j h1 h2)
  ·subst h1;exact .inl (hr j h2)
 ·intro i' o' h1 h2 h3
  rw[<-I.dU i' o' h1 h2 h3]
  constructor
  ·rintro (q | q)
   ·exact q
   ·subst q;rw[ho] at h1;cases h1;rw[cU] at h3;cases h3
  ·exact .inl
 ·refine ((I.rh.push ob).drawn dr).IV.weaken fun k hk => ?_
  rcases hk with hk | ⟨j,h1,h2⟩
  ·exact .inl (.inl hk)
  ·rcases (kF j).1 h1 with q | q
   ·rw[if_neg (zb j q)] at h2
    exact .inl (.inr ⟨j,q,h2⟩)
   ·rw[if_pos q] at h2
    exact .inr h2.symm
 ·intro k hk
  have:=(I.rh.frame k (.inl hk)).1
  simp only
  rw[aho,if_neg (by omega)]
  exact I.frame k hk
 ·intro j hj
  rcases (kF j).1 hj with q | q
  ·obtain⟨g1,g2,g3⟩:=I.LG j q
   rw[if_neg (zb j q)]
   refine⟨g1,g2,fun o2 h1 => ?_⟩
   obtain⟨nH,akr,e9,l9,q3,q2,q4⟩:=g3 o2 h1
   refine⟨nH,akr,e9,l9,?_,q2,fun d hd => ?_⟩
   ·simp only
    rw[aho,if_neg (by have:=ah j q;omega)];exact q3
   ·rw[eF,if_neg (cL j o2 d h1 hd (zb j q))];exact q4 d hd
  ·rw[if_pos q]
   subst q
   refine⟨I.rh.jy.2.2,fun hF => ?_,fun o2 h1 => ?_⟩
   ·have:=(I.rh.frame _ (.inl hF)).1
    omega
   ·rw[ho] at h1;cases h1
    refine⟨ob,val,e,e.le_refl,by simp,hrel,fun d hd => ?_⟩
    rw[eF,if_pos hd]
 ·intro x y hx hy wz
  rcases (kF x).1 hx with qx | qx<;>rcases (kF y).1 hy with qy | qy
  ·rw[if_neg (zb x qx),if_neg (zb y qy)] at wz;exact I.Jk x y qx qy wz
  ·rw[if_neg (zb x qx),if_pos qy] at wz
   have:=ah x qx;omega
  ·rw[if_pos qx,if_neg (zb y qy)] at wz
   have:=ah y qy;omega
  ·rw[qx,qy]
 ·intro j o2 d h1 h2 h3 h4
  rw[eF]
  rcases h2 with h2 | h2
  ·rw[if_neg (cL j o2 d h1 h3 (fun q=>hS (q▸h2)))]
   exact I.val j o2 d h1 h2 h3 (fun q=>h4 ((kF j).2 (.inl q)))
  ·exact absurd ((kF j).2 (.inr h2)) h4
 ·intro d hd
  rw[eF,if_neg (hd i o ho (.inr rfl))]
  exact I.EC d fun j o2 h1 h2=>hd j o2 h1 (.inl h2)
theorem Inv.effect (R:p7 P cf n ops B t0 H0 TP TE HB HH V X)(I:Inv P n ops B t0 TP HB HH V X F W e0 ds S p e a w dY){i:Nat}{o:Oper}(ho:ops[i]? = some o)(hS:¬ S i)
  (hr:∀ j,(B.getD i 0).testBit j=true->S j) (hX:X i=true) (cU:kd P o = .dU) (xZ:p<=i) {e1 e':Em} {w':World} {v':Value}
  (mE:e.le e1) (Rj:∀ j o d,p<=j->j<i->ops[j]? = some o->X j=true->kd P o = .late->o.dst=some d->VR e1 (V j) (a.tmps.getD d undef))
  (he:e1.le e') (hR:RH P.globals.size (fun k=>F k\/∃ j,kJ P ops X S i j/\dY j=k) w e' (HH (i+1)) w') (hv:VR e' (V i) v') :
  Inv P n ops B t0 TP HB HH V X F W e0 ds (fun j=>S j\/j=i) (i+1) e' (a.put o.dst v') w' dY:=by
 have hi:i<ops.size:=(abM.1 ho).1
 have kF:∀ j,kJ P ops X (fun j=>S j\/j=i) (i+1) j->kJ P ops X S i j/\kJ P ops X S p j/\j≠i:=by
  rintro j ⟨q1,q2,q3⟩
  rcases q1 with q1 | q1
  ·exact⟨⟨q1,by omega,q3⟩,⟨q1,by omega,q3⟩,by omega⟩
  ·omega
 have cL:∀ j o2 d,ops[j]? = some o2->o2.dst=some d->j≠i->o.dst≠some d:=fun j o2 d h1 h2 h3 h4=>h3 (R.form.one j i o2 o d h1 ho h2 h4)
 have eF:=fun d=>JR (a:=a) (dst:=o.dst) (v:=v') I.Ca (R.lt ho) d
 have RM:HB (i+1)=HH (i+1):=by
  obtain⟨_,h⟩:=R.step i o ho
  rw[hX,cU] at h
  exact h.2.2.2
 refine⟨by omega,RM.symm,.inr ⟨i,o,rfl,ho,hX,cU⟩,?_,?_,?_,?_,hR.os.trans I.os,hR.tape.trans I.tape,hR.output.trans I.output,abS I.size hR.size,?_,?_,?_,?_,by rw[Jm];exact I.Ca,Em.le_trans I.le (Em.le_trans mE he),by rw[G7];exact I.defers⟩
 ·intro i' j h1 h2
  rcases h1 with h1 | h1
  ·exact .inl (I.down i' j h1 h2)
  ·subst h1;exact .inl (hr j h2)
 ·intro i' o' h1 h2 h3
  constructor
  ·rintro (q | q)
   ·have:=(I.dU i' o' h1 h2 h3).1 q;omega
   ·omega
  ·intro q
   by_cases hii:i'=i
   ·exact .inr hii
   ·exact .inl (hr i' (R.d1 i o ho hX cU i' o' h1 h2 (.inl h3) (by omega)))
 ·rw[RM]
  refine (hR.weaken fun k hk => ?_).IV
  rcases hk with hk | ⟨j,h1,h2⟩
  ·exact .inl hk
  ·exact .inr ⟨j,(kF j h1).1,h2⟩
 ·intro k hk
  exact (hR.frame k (.inl hk)).2.trans (I.frame k hk)
 ·intro j hj
  obtain⟨Ni,hj2,hj3⟩:=kF j hj
  obtain⟨g1,g2,g3⟩:=I.LG j hj2
  refine⟨by rw[((Em.le_trans mE he).2 _ I.rh.jy.2.1).2.2];exact g1,g2,fun o2 h1 => ?_⟩
  obtain⟨ob,val,e9,l9,q3,q2,q4⟩:=g3 o2 h1
  refine⟨ob,val,e9,Em.le_trans l9 (Em.le_trans mE he),?_,q2,fun d hd => ?_⟩
  ·rw[(hR.frame (dY j) (.inr ⟨j,Ni,rfl⟩)).2];exact q3
  ·rw[eF,if_neg (cL j o2 d h1 hd hj3)];exact q4 d hd
 ·intro x y hx hy
  exact I.Jk x y (kF x hx).2.1 (kF y hy).2.1
 ·intro j o2 d h1 h2 h3 h4
  rw[eF]
  rcases h2 with h2 | h2
  ·have oJ:j≠i:=fun q=>hS (q▸h2)
   rw[if_neg (cL j o2 d h1 h3 oJ)]
   by_cases hp:kJ P ops X S p j
   ·obtain⟨q1,q2,q3,o3,q4,q5⟩:=hp
    rw[h1] at q4;cases q4
    by_cases ah:j<i
    ·exact (Rj j o2 d q2 ah h1 q3 q5 h3).mono he
    ·exact absurd ⟨.inl q1,by omega,q3,o2,h1,q5⟩ h4
   ·exact ((I.val j o2 d h1 h2 h3 hp).mono mE).mono he
  ·subst h2
   rw[ho] at h1;cases h1
   rw[if_pos h3];exact hv
 ·intro d hd
  rw[eF,if_neg (hd i o ho (.inr rfl))]
  exact ((I.EC d fun j o2 h1 h2=>hd j o2 h1 (.inl h2)).mono mE).mono he
end
end
theorem SU {α:Type}{p q:α->Bool}(h:∀ x,p x=true->q x=true){a:α}(hq:q a=true)(hp:p a=false):∀ l:List α,a∈l->l.countP p<l.countP q
 | b::l,hm=>by
  have hle:∀ l:List α,l.countP p<=l.countP q:=fun l=>List.countP_mono_left fun x _=>h x
  rcases yL.1 hm with rfl | hm
  ·rw[List.countP_cons_of_neg (by simp[hp]),List.countP_cons_of_pos hq]
   have:=hle l;omega
  ·have:=SU h hq hp l hm
   rw[List.countP_cons,List.countP_cons]
   by_cases hb:p b=true
   ·rw[if_pos hb,if_pos (h b hb)];omega
   ·rw[if_neg hb];omega
theorem akg {P:Program}{o:Oper}{a:Act}{w:World}{e0:Em}{t:Tm}{H H':Hp}{v:AV}(cU:kd P o = .late)(hρ:∀ x∈o.op.operands.toList,VR e0 (ev P.globals.size t x) (a.eval x))(hA:fH P (ev P.globals.size t) o H=some (v,H')) :
  ∃ ob val dr,(execOp a.eval o).run P w = .ok (.value val) { w with drawn:=dr,heap:=w.heap.push ob }/\KM P e0 t o w.heap.size ob val:=by
 rcases acD cU with⟨ty,len,ps,ay⟩ | ⟨ty,ay⟩ | ⟨ty,ca,cb,ay⟩ | ⟨x,y,cv,el,ay,hx,hy⟩
 ·classical
  let ρ:Operand->AV:=fun x=>if x∈o.op.operands.toList then ev P.globals.size t x else .dT
  have hρ2:∀ x,VR e0 (ρ x) (a.eval x):=fun x=>by
   show VR e0 (if _ then _ else _) _
   split
   ·exact hρ x (by assumption)
   ·exact .dT _
  have hcg:∀ H2,fH P (ev P.globals.size t) o H2=Ad P ty len (ps.toList.map fun (i,x)=>(i,ρ x)) H2:=fun H2=>by
   rw[X6 (ρ':=ρ) o H2 (fun x hx=>by show _=if _ then _ else _;rw[if_pos hx])]
   unfold fH
   rw[ay]
  have hp:=sh.B0 hρ2 ps
  rw[hcg] at hA
  unfold Ad at hA
  split at hA
  ·rename_i el hu
   split at hA
   ·rename_i s hs
    cases hle:Nat.ble (len*s) 65536 with
    | false=>rw[hle] at hA;cases hA
    | true=>
    rw[hle] at hA
    simp only[cond_true] at hA
    rw[ado] at hle
    split at hA
    ·rename_i z hz
     split at hA
     ·rename_i cs fC
      have hlen:=NJ _ z cs fC
      have Bt:¬ (len*s>2 ^ 24):=by omega
      have fin:∀ kW:Array Value,(Instr.buildSlice ty len (ps.map fun (i,x)=>(i,a.eval x))).run P w = .ok (.slice (some ⟨w.heap.size,0,none⟩) len len) { w with heap:=w.heap.push (.cells kW el (0,0)) }->az e0 cs kW.toList->cs.length=len*s->
        ∃ ob val dr,(execOp a.eval o).run P w = .ok (.value val) { w with drawn:=dr,heap:=w.heap.push ob }/\KM P e0 t o w.heap.size ob val:=by
       intro kW kS hr oV
       refine⟨.cells kW el (0,0),.slice (some ⟨w.heap.size,0,none⟩) len len,w.drawn,?_,?_⟩
       ·unfold execOp
        rw[ay]
        have h2:(do Pure.pure (Next.value (<-Instr.buildSlice ty len (ps.map fun (i,x)=>(i,a.eval x)))):Sem Next).run P w = .ok (.value (.slice (some ⟨w.heap.size,0,none⟩) len len)) { w with heap:=w.heap.push (.cells kW el (0,0)) }:=by
         rw[Sem.run_bind,kS]
         rfl
        exact h2
       ·intro H2 sj v2 e qf akv hN
        rw[hcg] at qf
        unfold Ad at qf
        simp only[hu,hs,hz,fC] at qf
        rw[show Nat.ble (len*s) 65536=true from (by rw[ado];exact hle)] at qf
        simp only[cond_true,yB,abT] at qf
        obtain⟨⟨id,H3⟩,jz,rfl,rfl⟩:=qf
        obtain⟨lb,ff⟩:=El jz
        have vq:id=e.N:=(qz ff).1.trans hN.symm
        subst vq
        have dH:=SF (cs:=kW) (b:=w.heap.size) (el:=el) (hr.mono akv) lb
        refine⟨_,_,ff,dH,?_⟩
        have je:(e.ext w.heap.size 0 kW.size).b e.N=w.heap.size:=Em.jL ..
        have hv:=VR.slice (e:=e.ext w.heap.size 0 kW.size) e.N 0 len len true s 0 len (aeX e.N) (by rw[Em.jN];rfl) (aar _) (aar _) (fun _=>rfl) (by rw[Em.qt];have:=hr.1;simp at this;omega)
        rw[je] at hv
        exact hv
      rcases Gd (P:=P) (e:=e0) hz with⟨h0,rfl⟩ | ⟨h0,PD,inf,z0,iB,fQ,dp,rB⟩
      ·obtain⟨kW,ho,hr⟩:=DP (e:=e0) (yT:=fun i=>some (i*s,s)) (fun i x hx=>hx) _ _ [] cs #[] hp (.nil e0) fC
       refine fin kW ?_ hr (by rw[h0,hlen];rfl)
       simp only[Instr.buildSlice,Sem.run_bind,au hu,Result.andThen_ok,gT hs,if_neg Bt]
       rw[if_pos h0]
       have wP:Array.range 0 = #[]:=rfl
       rw[h0,wP]
       simp[newRow] at ho ⊢
       simp[ho]
      ·obtain⟨kW,ho,hr⟩:=DP (e:=e0) (yT:=fun i=>some (i*s,s)) (fun i x hx=>hx) _ _ z cs _ hp rB fC
       refine fin kW ?_ hr (by omega)
       simp only[Instr.buildSlice,Sem.run_bind,au hu,Result.andThen_ok,gT hs,if_neg Bt]
       rw[if_neg h0]
       simp[qT iB fQ,newRow] at ho ⊢
       simp[ho]
     ·cases hA
    ·cases hA
   ·cases hA
  ·cases hA
 ·unfold fH at hA
  rw[ay] at hA
  simp only at hA
  split at hA
  ·rename_i l hl
   obtain⟨inf,z,iB,hz,_⟩:=xI (e:=⟨id,fun _=>0,id,0⟩) hl
   refine⟨.cells z.cells ty (0,0),.pointer (some ⟨w.heap.size,0,none⟩),w.drawn,?_,?_⟩
   ·unfold execOp
    rw[ay]
    simp[Instr.alloc,qT iB hz,newVar,newRow]
   ·intro H2 sj v2 e qf _ hN
    unfold fH at qf
    rw[ay] at qf
    simp only[hl,yB,abT] at qf
    obtain⟨⟨id,H3⟩,jz,rfl,rfl⟩:=qf
    obtain⟨hlen,ff⟩:=El jz
    obtain⟨XH,z2,BQ,Bx,hlr⟩:=xI (e:=e) hl
    rw[iB] at BQ;cases BQ
    rw[hz] at Bx;cases Bx
    have vq:id=e.N:=(qz ff).1.trans hN.symm
    subst vq
    exact⟨_,_,ff,SF hlr hlen,.L9 (Em.jL ..) (by simp[Em.ext]) (Em.jN ..)⟩
  ·cases hA
 ·have FM:∀ (t2:Tm) (H2 sj:Hp) (v2:AV),fH P (ev P.globals.size t2) o H2=some (v2,sj)->vG P ty ((kf ca).getD .dT) ((kf cb).getD .dT) H2=some (v2,sj):=by
   intro t2 H2 sj v2 h
   unfold fH at h
   rw[ay] at h
   exact h
  have mF:=FM t H H' v hA
  have Be:∃ k1 n,(kf ca).getD .dT = .int k1 n:=by
   unfold vG at mF
   split at mF
   ·rename_i q _;exact⟨_,_,q⟩
   ·cases mF
  have hcb:∃ k2 m,(kf cb).getD .dT = .int k2 m:=by
   unfold vG at mF
   split at mF
   ·rename_i _ q;exact⟨_,_,q⟩
   ·cases mF
  obtain⟨k1,n,ha⟩:=Be
  obtain⟨k2,m,hb⟩:=hcb
  have vA:ca = .int k1 n:=by
   cases h:kf ca with
   | none=>rw[h] at ha;cases ha
   | some u=>rw[h] at ha;have q:u = .int k1 n:=ha;subst q;exact (VR.kf (e:=⟨id,fun _=>0,id,0⟩) h).gQ
  have vB:cb = .int k2 m:=by
   cases h:kf cb with
   | none=>rw[h] at hb;cases hb
   | some u=>rw[h] at hb;have q:u = .int k2 m:=hb;subst q;exact (VR.kf (e:=⟨id,fun _=>0,id,0⟩) h).gQ
  rw[ha,hb] at mF
  obtain⟨el,s,z,row,hu,hs,hz,jC,hle,hlen,kS⟩:=run_makeSlice mF w
  refine⟨.cells row.toArray el (0,0),.slice (some ⟨w.heap.size,0,none⟩) n.toNat m.toNat,w.drawn,?_,?_⟩
  ·unfold execOp
   rw[ay,vA,vB]
   have h2:(do Pure.pure (Next.value (<-Instr.makeSlice ty (.int k1 n) (.int k2 m))):Sem Next).run P w = .ok (.value (.slice (some ⟨w.heap.size,0,none⟩) n.toNat m.toNat)) { w with heap:=w.heap.push (.cells row.toArray el (0,0)) }:=by
    rw[Sem.run_bind,kS]
    rfl
   exact h2
  ·intro H2 sj v2 e qf _ hN
   have qj:=FM t H2 sj v2 qf
   rw[ha,hb] at qj
   unfold vG at qj
   simp only[hu,hs] at qj
   split at qj
   ·rw[hz] at qj
    simp only[yB,abT] at qj
    obtain⟨⟨id,H3⟩,jz,rfl,rfl⟩:=qj
    obtain⟨lb,ff⟩:=El jz
    have vq:id=e.N:=(qz ff).1.trans hN.symm
    subst vq
    have dH:=SF (cs:=row.toArray) (b:=w.heap.size) (el:=el) (by simpa using jC e) lb
    refine⟨_,_,ff,dH,?_⟩
    have je:(e.ext w.heap.size 0 row.toArray.size).b e.N=w.heap.size:=Em.jL ..
    have hv:=VR.slice (e:=e.ext w.heap.size 0 row.toArray.size) e.N 0 n.toNat m.toNat true s 0 m.toNat (aeX e.N) (by rw[Em.jN];rfl) hle (aar _) (fun _=>rfl) (by rw[Em.qt];simp[hlen])
    rw[je] at hv
    exact hv
   ·cases qj
 ·have YI:∀ (t2:Tm) (H2 sj:Hp) (v2:AV),fH P (ev P.globals.size t2) o H2=some (v2,sj)->jw P x y ((kf cv).getD .dT) H2=some (v2,sj):=by
   intro t2 H2 sj v2 h
   unfold fH at h
   rw[ay] at h
   exact h
  have mF:=YI t H H' v hA
  unfold jw at mF
  rw[hx,hy] at mF
  cases hc:(kf cv).getD .dT with
  | str s=>
   rw[hc] at mF
   simp only at mF
   have hof:kf cv=some (.str s):=by
    cases h:kf cv with
    | none=>rw[h] at hc;cases hc
    | some u=>rw[h] at hc;exact congrArg some hc
   obtain⟨s',wL,p9⟩:=(VR.kf (e:=⟨id,fun _=>0,id,0⟩) hof).lj
   split at mF
   ·rename_i pJ
    refine⟨.cells (tX w el s').toArray el (nh w el s',nh w el s'+1),.slice (some ⟨w.heap.size,0,none⟩) s'.size (nh w el s'),w.drawn+1,?_,?_⟩
    ·unfold execOp
     rw[ay]
     have h1:(convert x y cv).run P w=(Conv.stringToBytes el s').run P w:=by rw[p9];simp[convert,au hx,au hy,au pJ]
     have h2:(do Pure.pure (Next.value (<-convert x y cv)):Sem Next).run P w = .ok (.value (.slice (some ⟨w.heap.size,0,none⟩) s'.size (nh w el s'))) { w with drawn:=w.drawn+1,heap:=w.heap.push (.cells (tX w el s').toArray el (nh w el s',nh w el s'+1)) }:=by
      rw[Sem.run_bind,h1,XJ]
      rfl
     exact h2
    ·intro H2 sj v2 e qf _ hN
     have qj:=YI t H2 sj v2 qf
     unfold jw at qj
     rw[hx,hy,hc] at qj
     simp only[pJ] at qj
     split at qj
     ·rename_i i H3 jz
      cases qj
      obtain⟨hlen,ff⟩:=El jz
      have vq:i=e.N:=(qz ff).1.trans hN.symm
      subst vq
      have pB:=QO w el s'
      have hle:=K2 w el s'
      rw[wL] at ff jz hlen ⊢
      refine⟨_,(tX w el s').length,ff,?_,?_⟩
      ·refine .cells _ _ _ _ _ _ (nh w el s',nh w el s'+1) (by rw[Em.qt];simp) ?_ (by simp) ?_ (fun _=>Em.jN ..)
       ·intro k u _ hk hg
        rw[Tr.D5 .nil _ _ _ _ (by omega)] at hg
        rw[if_pos ⟨by omega,by omega⟩,ae9] at hg
        obtain⟨v',cQ,hr⟩:=(VB e s').get hg
        refine⟨k,by rw[Em.jN];omega,v',?_,hr.mono (Em.nf ..)⟩
        have zN:k<(s'.data.toList.map fun b=>Value.int .u8 b.toNat).length:=(abf.1 cQ).1
        simp only[ad0,tX]
        rw[abU zN]
        exact cQ
       ·intro _ k hk
        have lJ:k<(tX w el s').length:=by simpa using hk
        rw[pB] at lJ
        simp;omega
      ·have je:(e.ext w.heap.size 0 (tX w el s').length).b e.N=w.heap.size:=Em.jL ..
       have hv:=VR.slice (e:=e.ext w.heap.size 0 (tX w el s').length) e.N 0 s'.size s'.size false 1 0 (nh w el s') (aeX e.N) (by rw[Em.jN];rfl) hle hle (by simp) (by rw[Em.qt,pB];omega)
       rw[je] at hv
       rw[wy]
       exact hv
     ·cases qj
   ·cases mF
  | _=>rw[hc] at mF;first | (simp only at mF;cases mF;done) | (cases mF;done) | (simp at mF;done)
section
variable {P:Program}{cf:CF}{n:Nat}{ops:Array Oper}{B:List Nat}{t0:Tm}{H0:Hp}{TP TE:Nat->Tm}{HB HH:Nat->Hp}{V:Nat->AV}{X:Nat->Bool}
 {F:Nat->Prop} {W:World} {e0:Em} {ds:List Deferred} {S:Nat->Prop} {p:Nat} {e:Em} {a:Act} {w:World} {dY:Nat->Nat}
theorem Inv.congr {S':Nat->Prop}(I:Inv P n ops B t0 TP HB HH V X F W e0 ds S p e a w dY)(h:∀ j,S j↔S' j):Inv P n ops B t0 TP HB HH V X F W e0 ds S' p e a w dY:=by
 have:S=S':=funext fun j=>propext (h j)
 rw[<-this];exact I
theorem Inv.final (R:p7 P cf n ops B t0 H0 TP TE HB HH V X)(I:Inv P n ops B t0 TP HB HH V X F W e0 ds S p e a w dY)(gC:∀ j,j<ops.size->S j)(hS:∀ j,S j->j<ops.size) :
  ∃ e',e0.le e'/\RH P.globals.size F W e' (HH ops.size) w/\TR e' n (TE ops.size) a/\a.defers=ds:=by
 obtain⟨k,hk⟩:∃ k,ops.size=p+k:=⟨ops.size-p,by have:=I.pN;omega⟩
 obtain⟨e',he,hr,hv⟩:=I.Je R k (by omega) fun j o h1 h2 h3 h4=>⟨fun h5=>by
  have:=(I.dU j o h3 h4 h5).1 (gC j (by omega));omega,fun _=>gC j (by omega)⟩
 rw[<-hk] at hr hv
 refine⟨e',Em.le_trans I.le he,?_,⟨I.Ca,fun d => ?_⟩,I.defers⟩
 ·have hw:=hr.weaken (F':=F) fun q hq => .inl hq
  exact hw.QF (fun q hq=>⟨(hw.frame q hq).1,I.frame q hq⟩) (fun i o ho Ie hq=>(hw.obj i o ho).2.choose_spec.2.2 Ie hq) I.os I.tape I.output I.size
 ·obtain⟨v1,v2⟩:=R.ai ops.size (aar _) d
  by_cases hex:∃ j o',j<ops.size/\ops[j]? = some o'/\o'.dst=some d
  ·obtain⟨j,o',hj,fh,gP⟩:=hex
   rw[(v1 j o' hj fh gP).2,agy]
   by_cases hp:kJ P ops X S p j
   ·obtain⟨q1,q2,q3,o3,q4,q5⟩:=hp
    rw[fh] at q4;cases q4
    exact hv j o' d q2 hj fh q3 q5 gP
   ·exact (I.val j o' d fh (gC j hj) gP hp).mono he
  ·rw[(v2 fun j o' hj fh gP=>hex ⟨j,o',hj,fh,gP⟩).2]
   exact (I.EC d fun j o' fh sT gP=>hex ⟨j,o',hS j sT,fh,gP⟩).mono he
theorem aep (gm:rC P cf)(R:p7 P cf n ops B t0 H0 TP TE HB HH V X){Q:Exit->Act->World->Prop}
  (hQ:∀ e' a' w',e0.le e'->RH P.globals.size F W e' (HH ops.size) w'->TR e' n (TE ops.size) a'->a'.defers=ds->Q .normal a' w') :
  ∀ (fuel:Nat) (listed:Array Bool) (p:Nat) (e:Em) (a:Act) (w:World) (dY:Nat->Nat),listed.size=ops.size->
   Inv P n ops B t0 TP HB HH V X F W e0 ds (fun j=>listed.getD j false=true) p e a w dY->(List.range ops.size).countP (fun j => !(listed.getD j false))<=fuel->
   wpAny P .any ops Q fuel listed a w:=by
 have QE:∀ (listed:Array Bool) (j:Nat),listed.size=ops.size->(listed.getD j true=false↔j<ops.size/\¬ listed.getD j false=true):=by
  intro listed j hs
  simp only[adt]
  by_cases hj:j<listed.size
  ·rw[aeP hj];simp;omega
  ·rw[Array.getElem?_eq_none (by omega)];simp;omega
 have yF:∀ (listed:Array Bool),listed.size=ops.size->∀ j,listed.getD j false=true->j<ops.size:=by
  intro listed hs j hj
  rcases ahB j listed.size with q | q
  ·omega
  ·rw[adt,Array.getElem?_eq_none q] at hj;cases hj
 have finish:∀ (listed:Array Bool) (p:Nat) (e:Em) (a:Act) (w:World) (dY:Nat->Nat),listed.size=ops.size->Inv P n ops B t0 TP HB HH V X F W e0 ds (fun j=>listed.getD j false=true) p e a w dY->
   Region.ready .any ops listed=[]->Q .normal a w:=by
  intro listed p e a w dY hs I jh
  have gC:∀ j,j<ops.size->listed.getD j false=true:=by
   intro j
   induction j using Nat.strongRecOn with
   | _ j ih=>
    intro hj
    by_cases hl:listed.getD j false=true
    ·exact hl
    ·exfalso
     have:j∈Region.ready .any ops listed:=by
      rw[mem_ready]
      refine⟨(QE listed j hs).2 ⟨hj,hl⟩,_,aeP hj,fun e he hb => ?_⟩
      have:=R.form.back j _ (aeP hj) e he hb
      exact ih e.on this (by omega)
     rw[jh] at this
     cases this
  obtain⟨e',h1,h2,h3,h4⟩:=I.final R gC (yF listed hs)
  exact hQ e' a w h1 h2 h3 h4
 intro fuel
 induction fuel with
 | zero=>
  intro listed p e a w dY hs I hc
  have jh:Region.ready .any ops listed=[]:=by
   cases hq:Region.ready .any ops listed with
   | nil=>rfl
   | cons j l=>
    exfalso
    have hm:j∈Region.ready .any ops listed:=by rw[hq];exact ajg ..
    rw[mem_ready] at hm
    obtain⟨h1,h2⟩:=(QE listed j hs).1 hm.1
    have:0<(List.range ops.size).countP (fun j => !(listed.getD j false)):=List.countP_pos_iff.2 ⟨j,by simpa using h1,by simpa using h2⟩
    omega
  exact⟨jh,finish listed p e a w dY hs I jh⟩
 | succ fuel ih=>
  intro listed p e a w dY hs I hc
  refine⟨finish listed p e a w dY hs I,fun i hi => ?_⟩
  rw[mem_ready] at hi
  obtain⟨h0,o,ho,Fa⟩:=hi
  obtain⟨ah,hS⟩:=(QE listed i hs).1 h0
  have hr:∀ j,(B.getD i 0).testBit j=true->listed.getD j false=true:=by
   intro j hj
   obtain⟨ed,h1,h2,h3⟩:=R.form.bit i o ho j hj
   have h4:=Fa ed h1 h2
   rcases h3 with h3 | h3
   ·rw[h3];exact h4
   ·exact I.down ed.on j h4 h3
  have fM:∀ j,(listed.setIfInBounds i true).getD j false=true↔(listed.getD j false=true\/j=i):=by
   intro j
   by_cases hj:j=i
   ·subst hj
    simp[adt,aen (show j<listed.size by omega)]
   ·rw[getD_set_ne false (fun q=>hj q.symm)];simp[hj]
  have Qq:(List.range ops.size).countP (fun j => !((listed.setIfInBounds i true).getD j false))<=fuel:=by
   have:=SU (p:=fun j => !((listed.setIfInBounds i true).getD j false)) (q:=fun j => !(listed.getD j false)) (a:=i) (by
    intro x hx
    cases hq:listed.getD x false with
    | false=>rfl
    | true=>have:=(fM x).2 (.inl hq);rw[this] at hx;cases hx) (by
    cases hq:listed.getD i false with
    | false=>rfl
    | true=>exact absurd hq hS) (by rw[(fM i).2 (.inr rfl)];rfl) (List.range ops.size) (by simpa using ah)
   omega
  have next:∀ p' e' a' w' N1,Inv P n ops B t0 TP HB HH V X F W e0 ds (fun j=>listed.getD j false=true\/j=i) p' e' a' w' N1->wpAny P .any ops Q fuel (listed.setIfInBounds i true) a' w':=
   fun p' e' a' w' N1 I'=>ih _ p' e' a' w' N1 (by simpa using hs) (I'.congr fun j=>(fM j).symm) Qq
  obtain⟨hw,fW⟩:=R.step i o ho
  have hgd:∀ d,Fw ops o=some d->VR e (((TP i).get d).getD cP) (a.tmps.getD d undef):=fun d hd=>I.read R ho hS hr (by unfold yg;rw[hd];simp)
  have Ks:=FQ (e:=e) (a:=a) hw hgd
  have Ez:∀ x∈o.op.operands.toList,VR e (ev P.globals.size (TP i) x) (a.eval x):=fun x hx=>N3 I.rh fun d hd=>I.read R ho hS hr (Pq (hd▸hx))
  unfold wpOp
  simp only[ho]
  cases hX:X i with
  | false=>
   rw[hX] at fW Ks
   rw[Ks]
   simp only[abZ,if_false]
   refine next p e _ w dY (I.quiet R ho hS hr (by rw[hX];simp) e.le_refl I.rh ?_)
   rw[fW.1];exact VR.undef
  | true=>
   rw[hX] at fW Ks
   rw[Ks]
   simp only[if_true]
   left
   have ahV:∀ j oj,ops[j]? = some oj->X j=true->kd P oj = .dU->p<=j->j<i->kd P o = .dU->False:=by
    intro j oj h1 h2 h3 h4 h5 h6
    have:=hr j (R.d1 i o ho hX h6 j oj h1 h2 (.inl h3) h5)
    have:=(I.dU j oj h1 h2 h3).1 this
    omega
   cases cU:kd P o<;>rw[cU] at fW
   ·obtain⟨⟨h',ay⟩,_⟩:=fW
    have KH:=apR cU ay (HB p)
    have QZ:rk P cf (TP i) o (HB p)=some (V i,HB p):=by
     unfold rk
     split
     ·rename_i f args dq hq
      unfold kd at cU;rw[hq] at cU;cases cU
     ·exact KH
    refine BU gm I.rh QZ Ez ?_
    intro e' v' w' he hR hv
    exact next p e' _ w' dY (I.quiet R ho hS hr (fun _=>by rw[cU];simp) he hR hv)
   ·obtain⟨⟨h',ay⟩,_⟩:=fW
    have rM:∃ Yk,fH P (ev P.globals.size (TP i)) o (HB p)=some (V i,Yk):=by
     by_cases xZ:p<=i
     ·by_cases hex:∃ j oj,p<=j/\j<i/\ops[j]? = some oj/\X j=true/\kd P oj = .dU
      ·have aes:∃ j oj,p<=j/\j<i/\ops[j]? = some oj/\X j=true/\kd P oj = .dU/\∀ j' oI,p<=j'->j'<j->ops[j']? = some oI->X j'=true->kd P oI ≠ .dU:=by
        obtain⟨j,hj⟩:=hex
        induction j using Nat.strongRecOn with
        | _ j NR=>
         obtain⟨oj,h1,h2,h3,h4,h5⟩:=hj
         by_cases hm:∃ j' oI,p<=j'/\j'<j/\ops[j']? = some oI/\X j'=true/\kd P oI = .dU
         ·obtain⟨j',oI,g1,g2,g3,g4,g5⟩:=hm
          exact NR j' g2 ⟨oI,g1,by omega,g3,g4,g5⟩
         ·exact⟨j,oj,h1,h2,h3,h4,h5,fun j' oI g1 g2 g3 g4 g5=>hm ⟨j',oI,g1,g2,g3,g4,g5⟩⟩
       obtain⟨j,oj,h1,h2,h3,h4,h5,h6⟩:=aes
       have Q7:HB j=HB p:=by
        obtain⟨k,rfl⟩:∃ k,j=p+k:=⟨j-p,by omega⟩
        exact R.VD p k (by omega) fun j' oI g1 g2 g3 g4=>h6 j' oI g1 g2 g3 g4
       rcases R.d3 j oj h3 h4 h5 i o ho hX cU h2 with q | q
       ·exfalso
        have:=(I.dU j oj h3 h4 h5).1 (hr j q)
        omega
       ·rw[<-Q7];exact q
      ·have Q7:HB i=HB p:=by
        obtain⟨k,rfl⟩:∃ k,i=p+k:=⟨i-p,by omega⟩
        exact R.VD p k (by omega) fun j' oI g1 g2 g3 g4 g5=>hex ⟨j',oI,g1,g2,g3,g4,g5⟩
       rw[<-Q7];exact⟨h',ay⟩
     ·have hex:∃ j oj,i<j/\j<p/\ops[j]? = some oj/\X j=true/\kd P oj = .dU/\HB (j+1)=HB p:=by
       rcases I.pe with q | ⟨j,oj,q1,q2,q3,q4⟩
       ·omega
       ·refine⟨j,oj,?_,by omega,q2,q3,q4,by rw[q1]⟩
        rcases ahB i j with q | q
        ·exact q
        ·have:i=j:=by omega
         subst this
         rw[ho] at q2;cases q2
         rw[cU] at q4;cases q4
      obtain⟨j,oj,h1,h2,h3,h4,h5,h6⟩:=hex
      rcases R.d2 j oj h3 h4 h5 i o ho hX cU h1 with q | q
      ·exfalso
       exact hS (I.down j i ((I.dU j oj h3 h4 h5).2 h2) q)
      ·rw[<-h6];exact q
    obtain⟨Yk,KH⟩:=rM
    have OJ:=RG (.inr cU) KH
    subst OJ
    have QZ:rk P cf (TP i) o (HB p)=some (V i,HB p):=by
     unfold rk
     split
     ·rename_i f args dq hq
      unfold kd at cU;rw[hq] at cU;cases cU
     ·exact KH
    refine BU gm I.rh QZ Ez ?_
    intro e' v' w' he hR hv
    exact next p e' _ w' dY (I.quiet R ho hS hr (fun _=>by rw[cU];simp) he hR hv)
   ·obtain⟨hA,_⟩:=fW
    have xZ:p<=i:=by
     rcases ahB i p with q | q
     ·exfalso
      rcases I.pe with r | ⟨j,oj,q1,q2,q3,q4⟩
      ·omega
      ·have tG:i<j:=by
        rcases ahB i j with q' | q'
        ·exact q'
        ·have:i=j:=by omega
         subst this
         rw[ho] at q2;cases q2
         rw[cU] at q4;cases q4
       have sT:=(I.dU j oj q2 q3 q4).2 (by omega)
       exact hS (I.down j i sT (R.d1 j oj q2 q3 q4 i o ho hX (.inr cU) tG))
     ·exact q
    obtain⟨ob,val,dr,kS,hrel⟩:=akg (a:=a) (w:=w) cU Ez hA
    have hI:=I.late R ho hS hr hX cU xZ (dr:=dr) hrel
    unfold Oper.wp
    rw[kS]
    exact next p e _ _ _ hI
   ·obtain⟨ay,_,_,RM⟩:=fW
    have xZ:p<=i:=by
     rcases ahB i p with q | q
     ·exact absurd ((I.dU i o ho hX cU).2 q) hS
     ·exact q
    obtain⟨k,hk⟩:∃ k,i=p+k:=⟨i-p,by omega⟩
    have Rj:∀ j oj,p<=j->j<i->ops[j]? = some oj->X j=true->kd P oj ≠ .dU/\(kd P oj = .late->listed.getD j false=true):=
     fun j oj h1 h2 h3 h4=>⟨fun h5=>ahV j oj h3 h4 h5 h1 h2 cU,fun h5=>hr j (R.d1 i o ho hX cU j oj h3 h4 (.inr h5) h2)⟩
    obtain⟨e1,mE,gG,iI⟩:=I.Je R k (by omega) (by rw[<-hk];exact Rj)
    rw[<-hk] at gG iI
    have alu:∀ x∈o.op.operands.toList,VR e1 (ev P.globals.size (TE i) x) (a.eval x):=by
     intro x hx
     refine N3 gG fun d hd => ?_
     subst hd
     have jh:=Pq (ops:=ops) hx
     obtain⟨v1,v2⟩:=R.ai i (Nat.le_of_lt ah) d
     by_cases hex:∃ j o',j<i/\ops[j]? = some o'/\o'.dst=some d
     ·obtain⟨j,o',hj,fh,gP⟩:=hex
      rw[(v1 j o' hj fh gP).2,agy]
      have sT:listed.getD j false=true:=by
       have:=R.form.rd j i o' o d fh ho gP (by omega) jh
       rw[if_pos hj] at this
       exact hr j this
      by_cases hp:kJ P ops X (fun j=>listed.getD j false=true) p j
      ·obtain⟨q1,q2,q3,o3,q4,q5⟩:=hp
       rw[fh] at q4;cases q4
       exact iI j o' d q2 hj fh q3 q5 gP
      ·exact (I.val j o' d fh sT gP hp).mono mE
     ·rw[(v2 fun j o' hj fh gP=>hex ⟨j,o',hj,fh,gP⟩).2]
      refine (I.EC d fun j o' fh sT gP => ?_).mono mE
      by_cases oJ:j<i
      ·exact hex ⟨j,o',oJ,fh,gP⟩
      ·by_cases yC:j=i
       ·subst yC;exact hS sT
       ·have:=R.form.rd j i o' o d fh ho gP yC jh
        rw[if_neg (by omega)] at this
        exact hS (I.down j i sT this)
    refine BU gm gG ay alu ?_
    intro e' v' w' he hR hv
    exact next (i+1) e' _ w' dY (I.effect R ho hS hr hX cU xZ mE iI he hR hv)
end
end
section
variable {P:Program}{cf:CF}{F:Nat->Prop}{W:World}
theorem abj {ty:TypeId}{x k v:AV}{i:Nat}{H H':Hp}(h:tw P ty x k v H=some H')(hx:x = .map i):H'.next=H.next/\∀ j,j≠i->H'.h.get j=H.h.get j:=by
 subst hx
 have key:∀ o,H.h.get i≠none->(setObj H i o).next=H.next/\∀ j,j≠i->(setObj H i o).h.get j=H.h.get j:=by
  intro o ho
  refine⟨rfl,fun j hj => ?_⟩
  unfold setObj
  simp only
  rw[Tr.Ls _ _ _ _ (by cases hq:H.h.get i with | none=>exact absurd hq ho | some _=>rfl),if_neg hj]
 unfold tw at h
 split at h
 ·rename_i kt el i' hu hi
  cases hi
  cases hb:px P 20 kt k with
  | false=>rw[hb] at h;cases h
  | true=>
   rw[hb] at h
   simp only[cond_true] at h
   split at h
   ·rename_i es c hg
    have cL:H.h.get i≠none:=by rw[hg];simp
    split at h
    ·rename_i j m hf
     cases hs:Au m.key k with
     | false=>rw[hs] at h;cases h
     | true=>rw[hs] at h;cases h;exact key _ cL
    ·cases h;exact key _ cL
    ·cases h
   ·cases h
 ·cases h
theorem Nu {cf:CF}{n:Nat}{ops:Array Oper}:∀ (r:List Oper) (t:Tm) (H:Hp) (tF:Tm) (HF:Hp),lN P cf n ops r t H=some (tF,HF)->∀ d,(∀ o∈r,o.dst≠some d)->tF.get d=t.get d
 | [],t,H,tF,HF,h,d,_=>by cases h;rfl
 | o::r,t,H,tF,HF,h,d,hd=>by
  have h0:=hd o (.head _)
  have hr:=fun o' fh=>hd o' (.tail _ fh)
  unfold lN at h
  split at h
  ·split at h
   ·split at h
    ·rename_i t1 hp
     rw[Nu r _ _ _ _ h d hr,KL hp d,if_neg h0]
    ·cases h
   ·cases h
  ·split at h
   ·rename_i t1 hp
    rw[Nu r _ _ _ _ h d hr,KL hp d,if_neg h0]
   ·cases h
  ·cases h
theorem afI {N:Nat}{ρ:Operand->AV}{o:Oper}{H H':Hp}{v:AV}(hk:O5 N ρ o=true)(ho:fH P ρ o H=some (v,H'))(hN:N<=H.next):N<=H'.next/\∀ i,i<N->H'.h.get i=H.h.get i:=by
 unfold O5 at hk
 split at hk
 ·rename_i ty ay
  unfold fH at ho
  rw[ay] at ho
  simp only[yB,abT] at ho
  obtain⟨⟨j,H2⟩,h1,_,rfl⟩:=ho
  obtain⟨rfl,_,rfl⟩:=qz h1
  refine⟨by simp only;omega,fun i hi => ?_⟩
  simp only
  rw[show (H.h.put 34 H.next (.map [] 0)).get i=if i=H.next then some (.map [] 0) else H.h.get i from Tr.fE _ _ _ _,if_neg (by omega)]
 ·rename_i ty m k x ay
  unfold fH at ho
  rw[ay] at ho
  simp only[yB,abT] at ho
  obtain⟨H2,h1,_,rfl⟩:=ho
  split at hk
  ·rename_i j hj
   obtain⟨h2,h3⟩:=abj h1 hj
   have:=Nat.le_of_ble_eq_true hk
   exact⟨by omega,fun i hi=>h3 i (by omega)⟩
  ·cases hk
 ·rename_i ty m k x ay
  unfold fH at ho
  rw[ay] at ho
  simp only[yB,abT] at ho
  obtain⟨H2,h1,_,rfl⟩:=ho
  split at hk
  ·rename_i j hj
   obtain⟨h2,h3⟩:=abj h1 hj
   have:=Nat.le_of_ble_eq_true hk
   exact⟨by omega,fun i hi=>h3 i (by omega)⟩
  ·cases hk
 ·cases hk
theorem UL {cf:CF}{t:Tm}{o:Oper}{H:Hp}{r:AV × Hp}(h:fH P (ev P.globals.size t) o H=some r):rk P cf t o H=some r:=by
 unfold rk
 split
 ·rename_i f args dq hq
  unfold fH at h
  rw[hq] at h
  cases h
 ·exact h
theorem ahs {ρ:Operand->AV}{o:Oper}{H H':Hp}{v:AV}(hk:Pz P o=true)(h:fH P ρ o H=some (v,H')):H'=H:=by
 unfold Pz at hk
 refine RG ?_ h
 cases cU:kd P o<;>rw[cU] at hk
 ·exact .inl rfl
 ·exact .inr rfl
 ·cases hk
 ·cases hk
theorem ahX {tF:Tm}{o:Oper}{v:AV}(h:BI tF o v=true){d:Tmp}(hd:o.dst=some d):tF.get d=some v:=by
 unfold BI at h
 rw[hd] at h
 simp only at h
 split at h
 ·rename_i x hx
  rw[hx,Pu h]
 ·cases h
theorem ajH {b hm hs:Nat}(h:∀ j,b.testBit j=true->hm.testBit j=true->hs.testBit j=true):Hd b hm hs=true:=by
 unfold Hd
 rw[afS]
 apply Nat.eq_of_testBit_eq
 intro j
 rw[Nat.testBit_and,Nat.testBit_and]
 cases h1:b.testBit j<;>cases h2:hm.testBit j<;>simp
 exact h j h1 h2
theorem Ti:∀ (z:Zp) (j:Nat),(uO z).testBit j=true ↔ ∃ x∈z,x.1=j/\BS x.2.1=true
 | [],j=>by simp[uO]
 | x::r,j=>by
  rw[uO]
  have ih:=Ti r j
  cases hx:BS x.2.1 with
  | false=>
   simp only[cond_false]
   rw[ih]
   constructor
   ·rintro⟨y,h1,h2,h3⟩;exact⟨y,.tail _ h1,h2,h3⟩
   ·rintro⟨y,h1,h2,h3⟩
    rcases yL.1 h1 with rfl | h1
    ·rw[hx] at h3;cases h3
    ·exact⟨y,h1,h2,h3⟩
  | true=>
   simp only[cond_true]
   rw[Nat.testBit_or,aff,ih,Nat.testBit_two_pow]
   constructor
   ·rintro (h | ⟨y,h1,h2,h3⟩)
    ·exact⟨x,.head _,of_decide_eq_true h,hx⟩
    ·exact⟨y,.tail _ h1,h2,h3⟩
   ·rintro⟨y,h1,h2,h3⟩
    rcases yL.1 h1 with rfl | h1
    ·exact .inl (decide_eq_true h2)
    ·exact .inr ⟨y,h1,h2,h3⟩
theorem BM (i j:Nat):(2 ^ i-1).testBit j=decide (j<i):=Nat.testBit_two_pow_sub_one ..
section
variable {n:Nat}{ops:Array Oper}{e0:Em}{ds:List Deferred}{Q:Exit->Act->World->Prop}
theorem aj8 {i:Nat}{o:Oper}(ho:ops[i]? = some o):(i,o)∈(List.range ops.size).zip ops.toList:=by
 have hi:i<ops.size:=(abM.1 ho).1
 apply acx (i:=i)
 rw[afT]
 exact⟨by simp[hi],by simpa using ho⟩
theorem Lk {listed:Array Bool}{j:Nat}(hs:listed.size=ops.size)(hj:j<ops.size):listed.getD j true=false↔¬ listed.getD j false=true:=by
 simp only[adt]
 rw[aeP (by omega)];simp
theorem Yy {listed:Array Bool}{s i:Nat}(hs:listed.size=ops.size)(hb:∀ j,listed.getD j false=true↔s.testBit j=true)(hi:i∈Region.ready .any ops listed):∃ o,ops[i]? = some o/\zg s (i,o)=true:=by
 rw[mem_ready] at hi
 obtain⟨h0,o,ho,Fa⟩:=hi
 have ah:i<ops.size:=(abM.1 ho).1
 refine⟨o,ho,?_⟩
 unfold zg
 simp only[zf,Bool.not_eq_true',ac6,aff]
 constructor
 ·cases hq:s.testBit i with
  | false=>rfl
  | true=>exact absurd ((hb i).2 hq) ((Lk hs ah).1 h0)
 ·intro ed ao2
  cases rA:Region.binds .any ed with
  | false=>exact .inl rfl
  | true=>
   right
   exact (hb _).1 (Fa ed (by simpa using ao2) rA)
theorem aqC {listed:Array Bool}{s i:Nat}{o:Oper}(hs:listed.size=ops.size)(hb:∀ j,listed.getD j false=true↔s.testBit j=true)(ho:ops[i]? = some o)(hr:zg s (i,o)=true):i∈Region.ready .any ops listed:=by
 have ah:i<ops.size:=(abM.1 ho).1
 unfold zg at hr
 simp only[zf,Bool.not_eq_true',ac6,aff] at hr
 rw[mem_ready]
 refine⟨(Lk hs ah).2 fun q => ?_,o,ho,fun ed h1 h2 => ?_⟩
 ·rw[(hb i).1 q] at hr;cases hr.1
 ·rcases hr.2 ed (by simpa using h1) with q | q
  ·rw[h2] at q;cases q
  ·exact (hb _).2 q
theorem ahi {listed:Array Bool}{s i:Nat}(hs:listed.size=ops.size)(hb:∀ j,listed.getD j false=true↔s.testBit j=true)(hi:i<ops.size)(j:Nat):(listed.setIfInBounds i true).getD j false=true↔(s ||| 2 ^ i).testBit j=true:=by
 rw[Nat.testBit_or,Nat.testBit_two_pow]
 by_cases oJ:j=i
 ·subst oJ
  simp[adt,aen (show j<listed.size by omega)]
 ·rw[getD_set_ne false (fun q=>oJ q.symm)]
  have:decide (i=j)=false:=decide_eq_false fun q=>oJ q.symm
  rw[this,Bool.or_false]
  exact hb j
theorem SY {tF:Tm}{HF:Hp}(hQ:∀ e' a' w',e0.le e'->RH P.globals.size F W e' HF w'->TR e' n tF a'->a'.defers=ds->Q .normal a' w') :
  ∀ (r:List Oper) (i fuel:Nat) (listed:Array Bool) (t:Tm) (H:Hp) (e:Em) (a:Act) (w:World),ops.toList.drop i=r->r.length<=fuel->listed.size=ops.size->(∀ j,listed.getD j false=true↔(2 ^ i-1).testBit j=true)->i<=ops.size->
   (∀ j o,i<=j->ops[j]? = some o->LU ((List.range ops.size).zip ops.toList) (j,o)=true)->lN P (fun _ _ _=>none) n ops r t H=some (tF,HF)->RH P.globals.size F W e H w->TR e n t a->e0.le e->a.defers=ds->wpAny P .any ops Q fuel listed a w
 | [],i,fuel,listed,t,H,e,a,w,hr,hf,hs,hb,hi,wH,om,hR,hT,he,wm=>by
  cases om
  have mC:ops.size<=i:=by simpa using hr
  have lS:Region.ready .any ops listed=[]:=by
   cases hq:Region.ready .any ops listed with
   | nil=>rfl
   | cons j l=>
    exfalso
    obtain⟨o,ho,jh⟩:=Yy hs hb (by rw[hq];exact ajg ..)
    have:=(abM.1 ho).1
    unfold zg at jh
    rw[BM,decide_eq_true (by omega)] at jh
    cases jh
  cases fuel with
  | zero=>exact⟨lS,hQ e a w he hR hT wm⟩
  | succ f=>exact⟨fun _=>hQ e a w he hR hT wm,fun j hj=>by rw[lS] at hj;cases hj⟩
 | o::r,i,0,listed,t,H,e,a,w,hr,hf,hs,hb,hi,wH,om,hR,hT,he,wm=>by simp at hf
 | o::r,i,fuel+1,listed,t,H,e,a,w,hr,hf,hs,hb,hi,wH,om,hR,hT,he,wm=>by
  have ho:ops[i]? = some o:=by
   have:=congrArg (fun l=>l[0]?) hr
   simpa[adG,adm] using this
  have eg:ops.toList.drop (i+1)=r:=by
   have:=congrArg List.tail hr
   simpa[List.tail_drop] using this
  have ah:i<ops.size:=(abM.1 ho).1
  have P0:=wH i o (aar _) ho
  unfold LU at P0
  rw[zf,ac6] at P0
  obtain⟨h1,h2⟩:=P0
  have gH:=aqC hs hb ho h1
  refine⟨(fun q=>by rw[q] at gH;cases gH),fun j hj => ?_⟩
  obtain⟨oj,nL,Jn⟩:=Yy hs hb hj
  have oJ:j=i:=by
   rcases Nat.lt_trichotomy j i with q | q | q
   ·exfalso
    unfold zg at Jn
    rw[BM,decide_eq_true q] at Jn
    cases Jn
   ·exact q
   ·exfalso
    have:=h2 (j,oj) (aj8 nL)
    simp only[Jn] at this
    rw[show Nat.blt i j=true by rw[adn];exact q] at this
    cases this
  subst oJ
  have fM:∀ k,(listed.setIfInBounds j true).getD k false=true↔(2 ^ (j+1)-1).testBit k=true:=fun k=>by
   rw[ahi hs hb ah k,BM,Nat.testBit_or,BM,Nat.testBit_two_pow]
   simp
   omega
  have Fi:∀ b,mI ops o t=some b->Region.wanted o (yielded ops a.tmps)=b:=fun b hw=>FQ (e:=e) (a:=a) hw fun d _=>hT.val d
  have Ll:rC P (fun _ _ _=>none):=fun g args H v H' h=>by cases h
  have next:∀ t' H' e' v v' w',e.le e'->hZ n o.dst v t=some t'->lN P (fun _ _ _=>none) n ops r t' H'=some (tF,HF)->RH P.globals.size F W e' H' w'->VR e' v v'->wpAny P .any ops Q fuel (listed.setIfInBounds j true) (a.put o.dst v') w':=by
   intro t' H' e' v v' w' hle hp gK cH hv
   exact SY hQ r (j+1) fuel _ t' H' e' _ w' eg (by simp only[abn] at hf;omega) (by simpa using hs) fM (by omega) (fun k ok hk lu=>wH k ok (by omega) lu) gK cH ((hT.mono hle).put hp hv) (Em.le_trans he hle) (by rw[G7];exact wm)
  unfold lN at om
  unfold wpOp
  simp only[ho]
  split at om
  ·rename_i hw
   rw[Fi true hw]
   simp only[if_true]
   left
   split at om
   ·rename_i v H' ay
    split at om
    ·rename_i t' hp
     exact BU Ll hR ay (fun x _=>VR.ev hR hT x) fun e' v' w' hle cH hv=>next t' H' e' v v' w' hle hp om cH hv
    ·cases om
   ·cases om
  ·rename_i hw
   rw[Fi false hw]
   simp only[abZ,if_false]
   split at om
   ·rename_i t' hp
    exact next t' H e cP undef w e.le_refl hp om hR VR.undef
   ·cases om
  ·cases om
end
section
variable {n:Nat}{ops:Array Oper}{p N M:Nat}{tF tE:Tm}{H0 HE:Hp}{e0:Em}{ds:List Deferred}{Q:Exit->Act->World->Prop}
abbrev zz (ops:Array Oper):Zp:=(List.range ops.size).zip (ops.toList.zip (before ops.toList []))
theorem aci {i:Nat}{o:Oper}(hf:Form ops (before ops.toList []))(ho:ops[i]? = some o):(zz ops)[i]? = some (i,o,(before ops.toList []).getD i 0):=by
 have hi:i<ops.size:=(abM.1 ho).1
 unfold zz
 rw[afT]
 refine⟨by simp[hi],?_⟩
 rw[afT]
 refine⟨by simpa using ho,?_⟩
 simp only
 rw[agt,aax (by rw[hf.len];exact hi)]
 rfl
theorem ab1 {i:Nat}{o:Oper}(hf:Form ops (before ops.toList []))(ho:ops[i]? = some o)(hp:i<p):(i,o,(before ops.toList []).getD i 0)∈(zz ops).take p:=by
 apply acx (i:=i)
 rw[adM,if_pos hp]
 exact aci hf ho
theorem ag3 {i:Nat}{o:Oper}(hf:Form ops (before ops.toList []))(ho:ops[i]? = some o)(hp:p<=i):(i,o,(before ops.toList []).getD i 0)∈(zz ops).drop p:=by
 apply acx (i:=i-p)
 rw[adG,show p+(i-p)=i by omega]
 exact aci hf ho
theorem WB {x:Nat × Oper × Nat}(h:x∈(zz ops).take p):ops[x.1]? = some x.2.1/\x.1<p:=by
 obtain⟨k,hk⟩:=List.mem_iff_getElem?.1 h
 rw[adM] at hk
 split at hk
 ·rename_i Li
  obtain⟨i,o,b⟩:=x
  unfold zz at hk
  rw[afT] at hk
  obtain⟨h1,h2⟩:=hk
  rw[afT] at h2
  obtain⟨h4,h5⟩:=abf.1 h1
  simp only[List.getElem_range] at h5
  subst h5
  exact⟨by simpa using h2.1,Li⟩
 ·cases hk
theorem acH (hf:Form ops (before ops.toList []))(hQ:∀ e' a' w',e0.le e'->RH P.globals.size F W e' HE w'->TR e' n tE a'->a'.defers=ds->Q .normal a' w')(ah:∀ i o,H0.h.get i=some o->i<N)(hp:p<=ops.size)
  (ahU:∀ j o,p<=j->ops[j]? = some o->(before ops.toList []).getD j 0=2 ^ j-1)
  (wH:∀ j o,p<=j->ops[j]? = some o->LU ((List.range ops.size).zip ops.toList) (j,o)=true) (Zu:lN P (fun _ _ _=>none) n ops (ops.toList.drop p) tF ⟨H0.h,M⟩=some (tE,HE))
  (HL:Rl ops ((zz ops).take p)=true) (NM:∀ i o,i<p->ops[i]? = some o->∀ d,o.dst=some d->d<n) :
  ∀ (k:Nat) (listed:Array Bool) (f hs:Nat) (H:Hp) (e:Em) (a:Act) (w:World),listed.size=ops.size->(∀ j,listed.getD j false=true->j<p)->(∀ i j,listed.getD i false=true->((before ops.toList []).getD i 0).testBit j=true->listed.getD j false=true)->
   (List.range p).countP (fun j => !(listed.getD j false))<=k->(∀ j,hs.testBit j=true↔(listed.getD j false=true/\(uO ((zz ops).take p)).testBit j=true))->
   ze P ops ((zz ops).take p) (uO ((zz ops).take p)) N M tF f hs H=true->RH P.globals.size F W e H w->n<=a.tmps.size->
   (∀ d,(∀ j o,j<p->ops[j]? = some o->o.dst=some d->listed.getD j false=true)->VR e ((tF.get d).getD cP) (a.tmps.getD d undef))->e0.le e->a.defers=ds->(∀ i o,H0.h.get i=some o->H.h.get i=some o)->N<=H.next->wpAny P .any ops Q (k+(ops.size-p)) listed a w:=by
 have hz:=fun i o (hi:i<p) (ho:ops[i]? = some o)=>ab1 (p:=p) hf ho hi
 have R3:∀ i o,i<p->ops[i]? = some o->((uO ((zz ops).take p)).testBit i=true↔BS o=true):=by
  intro i o hi ho
  rw[Ti]
  constructor
  ·rintro⟨x,h1,h2,h3⟩
   have:=(WB h1).1
   rw[h2,ho] at this
   cases this
   exact h3
  ·intro h
   exact⟨_,hz i o hi ho,rfl,h⟩
 have wF:∀ j,(uO ((zz ops).take p)).testBit j=true->j<p:=by
  intro j h
  rw[Ti] at h
  obtain⟨x,h1,h2,h3⟩:=h
  have:=(WB h1).2
  omega
 generalize A6:uO ((zz ops).take p)=hm at *
 intro k
 induction k with
 | zero=>
  intro listed f hs H e a w wL hle Si Qq Cq hx hR dp hT he wm hold hN
  have gC:∀ j,j<p->listed.getD j false=true:=by
   intro j hj
   cases hq:listed.getD j false with
   | true=>rfl
   | false=>
    exfalso
    have:0<(List.range p).countP (fun j => !(listed.getD j false)):=List.countP_pos_iff.2 ⟨j,by simpa using hj,by rw[hq];rfl⟩
    omega
  have Tg:Nat.beq (hm &&& hs) hm=true:=by
   rw[afS]
   apply Nat.eq_of_testBit_eq
   intro j
   rw[Nat.testBit_and]
   cases h1:hm.testBit j with
   | false=>rfl
   | true=>rw[(Cq j).2 ⟨gC j (wF j h1),h1⟩];rfl
  have hM:H.next=M:=by
   unfold ze at hx
   rw[zf] at hx
   have:=hx.2
   rw[Tg] at this
   exact aba this
  have PR:RH P.globals.size F W e ⟨H0.h,M⟩ w:=⟨by rw[hR.N];exact hM,fun i o hi=>hR.obj i o (hold i o hi),fun i j oi oj hi hj=>hR.inj i j oi oj (hold i oi hi) (hold j oj hj),hR.nW,hR.frame,hR.os,hR.tape,hR.output,hR.size,hR.jy⟩
  exact SY hQ (ops.toList.drop p) p (0+(ops.size-p)) listed tF _ e a w rfl (by simp) wL (fun j=>by
   rw[BM]
   constructor
   ·intro h;exact decide_eq_true (hle j h)
   ·intro h;exact gC j (of_decide_eq_true h)) hp wH Zu PR ⟨dp,fun d=>hT d fun j o hj _ _=>gC j hj⟩ he wm
 | succ k ih=>
  intro listed f hs H e a w wL hle Si Qq Cq hx hR dp hT he wm hold hN
  by_cases gC:∀ j,j<p->listed.getD j false=true
  ·have Tg:Nat.beq (hm &&& hs) hm=true:=by
    rw[afS]
    apply Nat.eq_of_testBit_eq
    intro j
    rw[Nat.testBit_and]
    cases h1:hm.testBit j with
    | false=>rfl
    | true=>rw[(Cq j).2 ⟨gC j (wF j h1),h1⟩];rfl
   have hM:H.next=M:=by
    unfold ze at hx
    rw[zf] at hx
    have:=hx.2
    rw[Tg] at this
    exact aba this
   have PR:RH P.globals.size F W e ⟨H0.h,M⟩ w:=⟨by rw[hR.N];exact hM,fun i o hi=>hR.obj i o (hold i o hi),fun i j oi oj hi hj=>hR.inj i j oi oj (hold i oi hi) (hold j oj hj),hR.nW,hR.frame,hR.os,hR.tape,hR.output,hR.size,hR.jy⟩
   exact SY hQ (ops.toList.drop p) p (k+1+(ops.size-p)) listed tF _ e a w rfl (by simp) wL (fun j=>by
    rw[BM]
    constructor
    ·intro h;exact decide_eq_true (hle j h)
    ·intro h;exact gC j (of_decide_eq_true h)) hp wH Zu PR ⟨dp,fun d=>hT d fun j o hj _ _=>gC j hj⟩ he wm
  ·rw[show k+1+(ops.size-p)=k+(ops.size-p)+1 by omega]
   constructor
   ·intro jh
    exfalso
    refine gC fun j => ?_
    induction j using Nat.strongRecOn with
    | _ j NR=>
     intro hj
     by_cases hl:listed.getD j false=true
     ·exact hl
     ·exfalso
      have Rq:j<ops.size:=by omega
      have:j∈Region.ready .any ops listed:=by
       rw[mem_ready]
       refine⟨(Lk wL Rq).2 hl,_,aeP Rq,fun ed h1 h2 => ?_⟩
       have:=hf.back j _ (aeP Rq) ed h1 h2
       exact NR ed.on this (by omega)
      rw[jh] at this
      cases this
   ·intro i hi
    rw[mem_ready] at hi
    obtain⟨h0,o,ho,Fa⟩:=hi
    have aoB:i<ops.size:=(abM.1 ho).1
    have dI:¬ listed.getD i false=true:=(Lk wL aoB).1 h0
    have hr:∀ j,((before ops.toList []).getD i 0).testBit j=true->listed.getD j false=true:=by
     intro j hj
     obtain⟨ed,h1,h2,h3⟩:=hf.bit i o ho j hj
     have h4:=Fa ed h1 h2
     rcases h3 with h3 | h3
     ·rw[h3];exact h4
     ·exact Si ed.on j h4 h3
    have F1:i<p:=by
     rcases ahB i p with q | q
     ·exact q
     ·exfalso
      refine gC fun j hj=>hr j ?_
      rw[ahU i o q ho,BM]
      exact decide_eq_true (by omega)
    have qY:=hz i o F1 ho
    have aaY:Hd ((before ops.toList []).getD i 0) hm hs=true:=ajH fun j h1 h2=>(Cq j).2 ⟨hr j h1,h2⟩
    have fM:∀ j,(listed.setIfInBounds i true).getD j false=true↔(listed.getD j false=true\/j=i):=by
     intro j
     by_cases hj:j=i
     ·subst hj
      simp[adt,aen (show j<listed.size by omega)]
     ·rw[getD_set_ne false (fun q=>hj q.symm)];simp[hj]
    have afe:(List.range p).countP (fun j => !((listed.setIfInBounds i true).getD j false))<=k:=by
     have:=SU (p:=fun j => !((listed.setIfInBounds i true).getD j false)) (q:=fun j => !(listed.getD j false)) (a:=i) (by
      intro x hx
      cases hq:listed.getD x false with
      | false=>rfl
      | true=>have:=(fM x).2 (.inl hq);rw[this] at hx;cases hx) (by
      cases hq:listed.getD i false with
      | false=>rfl
      | true=>exact absurd hq dI) (by rw[(fM i).2 (.inr rfl)];rfl) (List.range p) (by simpa using F1)
     omega
    have jh:∀ d,yg ops o d=true->VR e ((tF.get d).getD cP) (a.tmps.getD d undef):=by
     intro d hd
     refine hT d fun j oj hj nL Db=>hr j ?_
     unfold Rl at HL
     rw[ac6] at HL
     have h1:=HL _ qY
     rw[ac6] at h1
     have h2:=h1 _ (hz j oj hj nL)
     simp only[Db,hd] at h2
     simpa using h2
    have Ez:∀ x∈o.op.operands.toList,VR e (ev P.globals.size tF x) (a.eval x):=fun x hx=>N3 hR fun d hd=>jh d (Pq (hd▸hx))
    have Fi:∀ b,mI ops o tF=some b->Region.wanted o (yielded ops a.tmps)=b:=fun b hw=>FQ (e:=e) (a:=a) hw fun d hd=>jh d (by unfold yg;rw[hd];simp)
    have next:∀ (f' vX:Nat) (H':Hp) (e':Em) (v:AV) (v':Value) (w':World),e.le e'->BI tF o v=true->(∀ j,vX.testBit j=true↔((listed.getD j false=true\/j=i)/\hm.testBit j=true))->ze P ops ((zz ops).take p) hm N M tF f' vX H'=true->RH P.globals.size F W e' H' w'->VR e' v v'->
      (∀ i o,H0.h.get i=some o->H'.h.get i=some o)->N<=H'.next->wpAny P .any ops Q (k+(ops.size-p)) (listed.setIfInBounds i true) (a.put o.dst v') w':=by
     intro f' vX H' e' v v' w' Du rM acM gK cH hv amU hN'
     have eF:=fun d=>JR (a:=a) (dst:=o.dst) (v:=v') dp (fun d hd=>NM i o F1 ho d hd) d
     refine ih _ f' vX H' e' _ w' (by simpa using wL) (fun j hj=>((fM j).1 hj).elim (hle j) fun q=>by omega) (fun i' j h1 h2 => ?_) afe (fun j=>by rw[acM j,fM j]) gK cH (by rw[Jm];exact dp) (fun d hd => ?_) (Em.le_trans he Du) (by rw[G7];exact wm) amU hN'
     ·rcases (fM i').1 h1 with q | q
      ·exact (fM j).2 (.inl (Si i' j q h2))
      ·subst q;exact (fM j).2 (.inl (hr j h2))
     ·rw[eF d]
      by_cases AF:o.dst=some d
      ·rw[if_pos AF,ahX rM AF];exact hv
      ·rw[if_neg AF]
       refine (hT d fun j oj hj nL Db => ?_).mono Du
       rcases (fM j).1 (hd j oj hj nL Db) with q | q
       ·exact q
       ·subst q
        rw[ho] at nL
        cases nL
        exact absurd Db AF
    have Ll:rC P (fun _ _ _=>none):=fun g args H v H' h=>by cases h
    have Ja:=hx
    unfold ze at hx
    rw[zf,ac6] at hx
    obtain⟨vi,qC⟩:=hx
    unfold wpOp
    simp only[ho]
    cases hex:BS o with
    | false=>
     have Ly:¬ hm.testBit i=true:=fun q=>by rw[(R3 i o F1 ho).1 q] at hex;cases hex
     have Ia:∀ j,hs.testBit j=true↔((listed.getD j false=true\/j=i)/\hm.testBit j=true):=fun j=>by
      rw[Cq j]
      constructor
      ·rintro⟨h1,h2⟩;exact⟨.inl h1,h2⟩
      ·rintro⟨h1,h2⟩
       rcases h1 with h1 | h1
       ·exact⟨h1,h2⟩
       ·subst h1;exact absurd h2 Ly
     have h1:=vi _ qY
     simp only[hex,aaY,Bool.false_or,aat] at h1
     cases hw:mI ops o tF with
     | none=>rw[hw] at h1;cases h1
     | some b=>
      rw[hw] at h1
      rw[Fi b hw]
      cases b with
      | false=>
       simp only[abZ,if_false]
       exact next f hs H e cP undef w e.le_refl h1 Ia Ja hR VR.undef hold hN
      | true=>
       simp only[if_true]
       left
       simp only[zf] at h1
       obtain⟨hk,h1⟩:=h1
       split at h1
       ·rename_i v H' ay
        have hHH:=ahs hk ay
        subst hHH
        exact BU Ll hR (UL ay) Ez fun e' v' w' Du cH hv=>next f hs _ e' v v' w' Du h1 Ia Ja cH hv hold hN
       ·cases h1
    | true=>
     have Ly:hm.testBit i=true:=(R3 i o F1 ho).2 hex
     have Ub:hs.testBit i=false:=by
      cases hq:hs.testBit i with
      | false=>rfl
      | true=>exact absurd ((Cq i).1 hq).1 dI
     have cL:Nat.beq (hm &&& hs) hm=false:=by
      cases hq:Nat.beq (hm &&& hs) hm with
      | false=>rfl
      | true=>
       have:=congrArg (fun z=>z.testBit i) (aba hq)
       simp only[Nat.testBit_and,Ly,Ub,Bool.and_false] at this
       cases this
     rw[cL] at qC
     simp only[cond_false] at qC
     cases f with
     | zero=>cases qC
     | succ f=>
      simp only[ac6] at qC
      have h1:=qC _ qY
      simp only[hex,Ub,aaY,Bool.false_or,aat] at h1
      have Ia:∀ j,(hs ||| 2 ^ i).testBit j=true↔((listed.getD j false=true\/j=i)/\hm.testBit j=true):=fun j=>by
       rw[Nat.testBit_or,aff,Cq j,Nat.testBit_two_pow]
       constructor
       ·rintro (⟨h1,h2⟩ | h1)
        ·exact⟨.inl h1,h2⟩
        ·have:=of_decide_eq_true h1
         subst this
         exact⟨.inr rfl,Ly⟩
       ·rintro⟨h1 | h1,h2⟩
        ·exact .inl ⟨h1,h2⟩
        ·exact .inr (decide_eq_true h1.symm)
      cases hw:mI ops o tF with
      | none=>rw[hw] at h1;cases h1
      | some b=>
       rw[hw] at h1
       rw[Fi b hw]
       cases b with
       | false=>
        simp only[abZ,if_false]
        simp only[zf] at h1
        exact next f _ H e cP undef w e.le_refl h1.1 Ia h1.2 hR VR.undef hold hN
       | true=>
        simp only[if_true]
        left
        simp only[zf] at h1
        obtain⟨hk,h1⟩:=h1
        split at h1
        ·rename_i v H' ay
         simp only[zf] at h1
         obtain⟨g1,g2⟩:=afI hk ay hN
         refine BU Ll hR (UL ay) Ez fun e' v' w' Du cH hv=>next f _ H' e' v v' w' Du h1.1 Ia h1.2 cH hv (fun i o hi => ?_) g1
         rw[g2 i (ah i o hi)]
         exact hold i o hi
        ·cases h1
end
theorem af1 (hm:P.follows .mixedOrders=true){ops:Array Oper}{n id:Nat}{t t':Tm}{H H':Hp}{e:Em}{w:World}{a:Act}{Q:Exit->Act->World->Prop}(hd:Oe P n ops t H=some (t',H'))(hR:RH P.globals.size F W e H w)(hT:TR e n t a)
  (hQ:∀ e' a' w',e.le e'->RH P.globals.size F W e' H' w'->TR e' n t' a'->a'.defers=a.defers->Q .normal a' w'):(Code.region id ops true).wp P Q a w:=by
 unfold Oe at hd
 simp only at hd
 generalize hp:Pt ((List.range ops.size).zip (ops.toList.zip (before ops.toList []))) ops.size=p at hd
 split at hd
 ·rename_i tF HF om
  rw[Bool.cond_eq_ite] at hd
  split at hd
  ·rename_i hc
   simp only[zf] at hc
   obtain⟨⟨⟨⟨⟨⟨c1,c2⟩,c3⟩,c4⟩,c5⟩,c6⟩,c7⟩:=hc
   have hf:=YP c1
   have ac1:p<=ops.size:=Nat.le_of_ble_eq_true c2
   have vu:∀ j,(Array.replicate ops.size false).getD j false=true->False:=by
    intro j hj
    rw[adt,Array.getElem?_replicate] at hj
    split at hj<;>simp at hj
   refine wp_region_any hm ?_
   have:=acH (H0:=H) (e0:=e) (ds:=a.defers) hf hQ (fun i o hi=>by have:=(hR.obj i o hi).1;rw[hR.N] at this;exact this) ac1 (fun j o hj ho=>by
     have:=ac6.1 c3 _ (ag3 hf ho hj)
     exact aba this) (fun j o hj ho=>ac6.1 c4 (j,o) (by
     apply acx (i:=j-p)
     rw[adG,show p+(j-p)=j by omega,afT]
     have hi:j<ops.size:=(abM.1 ho).1
     exact⟨by simp[hi],by simpa using ho⟩)) hd c5 (fun i o hi ho d AF=>by
     have:=ac6.1 c6 _ (ab1 hf ho hi)
     simp only[AF,zf,adn] at this
     exact this.1) p (Array.replicate ops.size false) p 0 H e a { w with drawn:=w.drawn+1 } (by simp) (fun j hj=>(vu j hj).elim) (fun i j hi=>(vu i hi).elim) (by
     have:=List.countP_le_length (p:=fun j => !((Array.replicate ops.size false).getD j false)) (l:=List.range p)
     simpa using this) (fun j=>⟨fun h=>by simp at h,fun h=>(vu j h.1).elim⟩) c7 (hR.drawn _) hT.size (fun d pZ=>by
     rw[Nu _ _ _ _ _ om d fun o ho AF => ?_]
     ·exact hT.val d
     ·obtain⟨j,hj⟩:=List.mem_iff_getElem?.1 ho
      rw[adM] at hj
      split at hj
      ·rename_i hjp
       exact vu j (pZ j o hjp (by simpa using hj) AF)
      ·cases hj) e.le_refl rfl (fun i o h=>h) (aar _)
   rwa[show p+(ops.size-p)=ops.size by omega] at this
  ·cases hd
 ·cases hd
end
end
section
variable {P:Program}{cf:CF}{F:Nat->Prop}{W:World}{e:Em}{H:Hp}{w:World}
theorem VE {s:jW}{H:Hp}(h:tM P s H=true):∃ h',fH P (ev P.globals.size s.t) s.o H=some (s.v,h'):=by
 unfold tM at h
 split at h
 ·rename_i v' h' hv
  rw[Pu h]
  exact⟨h',hv⟩
 ·cases h
theorem YY (hm:P.follows .mixedOrders=true)(gm:rC P cf){ops:Array Oper}{n id:Nat}{t t':Tm}{H':Hp}{a:Act}{Q:Exit->Act->World->Prop}(hd:Bf P cf n ops t H=some (t',H'))(hR:RH P.globals.size F W e H w)(hT:TR e n t a)
  (hQ:∀ e' a' w',e.le e'->RH P.globals.size F W e' H' w'->TR e' n t' a'->a'.defers=a.defers->Q .normal a' w'):(Code.region id ops true).wp P Q a w:=by
 unfold Bf at hd
 cases ua:uI ops with
 | false=>rw[ua] at hd;cases hd
 | true=>
 rw[ua] at hd
 simp only[cond_true] at hd
 split at hd
 ·rename_i l tF HF kS
  cases Hf:Bm P l with
  | false=>rw[Hf] at hd;cases hd
  | true=>
  rw[Hf] at hd
  cases hd
  have HL:=YP ua
  obtain⟨TP,TE,HB,HH,V,X,q1,q2,q3,q4,q5,q6,q7⟩:=arh (B:=before ops.toList []) ops.toList (before ops.toList []) 0 t t H H l (by simp) (by simp) kS
  rw[yS,af0] at q5 q6
  unfold Bm at Hf
  rw[ac6] at Hf
  have pair:∀ i oi,ops[i]? = some oi->X i=true->kd P oi = .dU->∀ j oj,ops[j]? = some oj->X j=true->
    ((kd P oj = .dU\/kd P oj = .late)->(!(Nat.blt j i)||((before ops.toList []).getD i 0).testBit j)=true)/\
    (kd P oj = .read->(bif Nat.blt j i then ((before ops.toList []).getD i 0).testBit j||tM P ⟨j,oj,(before ops.toList []).getD j 0,X j,kk P (X j) oj,V j,TP j,HB j,HB (j+1)⟩ (HB (i+1)) else
     ((before ops.toList []).getD j 0).testBit i||tM P ⟨j,oj,(before ops.toList []).getD j 0,X j,kk P (X j) oj,V j,TP j,HB j,HB (j+1)⟩ (HB i))=true):=by
   intro i oi hi hx hk j oj hj uq
   have h1:=Hf _ (q7 i oi (adf _) hi).2
   simp only[kk,hx,if_true,hk,ac6] at h1
   have h2:=h1 _ (q7 j oj (adf _) hj).2
   simp only[kk,uq,if_true] at h2 ⊢
   constructor
   ·intro rf
    rcases rf with rf | rf<;>(rw[rf] at h2;exact h2)
   ·intro rf
    rw[rf] at h2 ⊢
    exact h2
  have apq:p7 P cf n ops (before ops.toList []) t H TP TE HB HH V X:=by
   refine⟨HL,q1,q2,q3,q4,fun j o ho=>(q7 j o (adf _) ho).1,?_,?_,?_⟩
   ·intro i oi hi hx hk j oj hj uq rf ah
    have:=(pair i oi hi hx hk j oj hj uq).1 rf
    have hb:Nat.blt j i=true:=by rw[adn];exact ah
    rw[hb] at this
    simpa using this
   ·intro i oi hi hx hk j oj hj uq rf ah
    have:=(pair i oi hi hx hk j oj hj uq).2 rf
    have hb:Nat.blt j i=true:=by rw[adn];exact ah
    rw[hb] at this
    simp only[cond_true,aff] at this
    exact this.imp (fun q=>q) VE
   ·intro i oi hi hx hk j oj hj uq rf ah
    have:=(pair i oi hi hx hk j oj hj uq).2 rf
    have hb:Nat.blt j i=false:=by
     cases hb:Nat.blt j i
     ·rfl
     ·rw[adn] at hb;omega
    rw[hb] at this
    simp only[cond_false,aff] at this
    exact this.imp (fun q=>q) VE
  refine wp_region_any hm ?_
  have vu:∀ j,(Array.replicate ops.size false).getD j false=true->False:=by
   intro j hj
   rw[adt,Array.getElem?_replicate] at hj
   split at hj<;>simp at hj
  have Jq:=(hR.drawn (w.drawn+1))
  refine aep (F:=F) (W:=W) (e0:=e) (ds:=a.defers) gm apq (by rw[q5,q6];exact hQ) ops.size (Array.replicate ops.size false) 0 e a { w with drawn:=w.drawn+1 } (fun _=>0) (by simp) ?_ (by
   have:=List.countP_le_length (p:=fun j => !((Array.replicate ops.size false).getD j false)) (l:=List.range ops.size)
   simpa using this)
  refine⟨adf _,by rw[q3,q4],.inl rfl,fun i j h=>(vu i h).elim,fun i o _ _ _=>⟨fun h=>(vu i h).elim,fun h=>by omega⟩,?_,fun k hk=>(Jq.frame k hk).2,hR.os,hR.tape,hR.output,hR.size,
   fun j hj=>(vu j hj.1).elim,fun i j hi=>(vu i hi.1).elim,fun j o d _ h=>(vu j h).elim,fun d _=>hT.val d,hT.size,e.le_refl,rfl⟩
  rw[q3]
  refine (Jq.weaken fun k hk => ?_).IV
  rcases hk with hk | ⟨j,hj,_⟩
  ·exact hk
  ·exact (vu j hj.1).elim
 ·cases hd
theorem af5 (hm:P.follows .mixedOrders=true)(gm:rC P cf){ops:Array Oper}{n id:Nat}{t t':Tm}{H':Hp}{a:Act}{Q:Exit->Act->World->Prop}(hd:TO P cf n ops t H=some (t',H'))(hR:RH P.globals.size F W e H w)(hT:TR e n t a)
  (hQ:∀ e' a' w',e.le e'->RH P.globals.size F W e' H' w'->TR e' n t' a'->a'.defers=a.defers->Q .normal a' w'):(Code.region id ops true).wp P Q a w:=by
 unfold TO at hd
 split at hd
 ·rename_i r hr
  cases hd
  exact YY hm gm hr hR hT hQ
 ·exact af1 hm hd hR hT hQ
def AP (P:Program)(c:Code)(Q:Exit->Act->World->Prop)(a:Act)(w:World):Prop:=
 ∀ (b:Frame) (k:List Item) (cs:List Frame),∃ e a' w',Q e a' w'/\Arrives P (lone (b.at a (.code c :: .inLoop c::k)) cs w) b k cs e a' w'
theorem ZM {c:Code}{Q:Exit->Act->World->Prop}{a:Act}{w:World}(h:AP P c Q a w):(Code.loop c).wp P Q a w:=
 fun b k cs=>let ⟨e,a',w',q,r⟩:=h b k cs;⟨e,a',w',q,.of_steps (.one step_loop) r⟩
theorem VZ {c:Code}{Q:Exit->Act->World->Prop}{a:Act}{w:World}(h:c.wp P (Exit.then (AP P c Q) Q) a w):AP P c Q a w:=by
 intro b k cs
 obtain⟨e,a₁,w₁,hq,Dg⟩:=h b (.inLoop c::k) cs
 cases e with
 | normal=>
  obtain⟨e₂,a₂,w₂,hq₂,aok⟩:=hq b k cs
  exact⟨e₂,a₂,w₂,hq₂,.of_steps (Steps.trans Dg (.one step_inLoop)) aok⟩
 | exit id=>exact⟨_,a₁,w₁,hq,.pass (x := .inLoop c) rfl (fun _ _ => .inl (by simp)) Dg⟩
 | goto l=>exact⟨_,a₁,w₁,hq,.pass (x := .inLoop c) rfl (fun _ _ => .inl (by simp)) Dg⟩
 | ret=>exact⟨_,a₁,w₁,hq,.pass (x := .inLoop c) rfl (fun _ _ => .inl (by simp)) Dg⟩
 | panic ch=>exact⟨_,a₁,w₁,hq,.pass (x := .inLoop c) rfl (fun _ _ => .inl (by simp)) Dg⟩
 | outgrown=>exact⟨_,a₁,w₁,hq,.pass (x := .inLoop c) rfl (fun _ _ => .inl (by simp)) Dg⟩
def xit:X->Exit
 | .normal => .normal
 | .exit i => .exit i
 | .ret => .ret
def Z6 (P:Program)(run:Nat->Code->Tm->Hp->Option (X × Tm × Hp)):Prop:=
 ∀ (n:Nat) (c:Code) (t:Tm) (H:Hp) (x:X) (t':Tm) (H':Hp),run n c t H=some (x,t',H')->
  ∀ (F:Nat->Prop) (W:World) (e:Em) (a:Act) (w:World) (Q:Exit->Act->World->Prop),RH P.globals.size F W e H w->TR e n t a->
   (∀ e' a' w',e.le e'->RH P.globals.size F W e' H' w'->TR e' n t' a'->a'.defers=a.defers->Q (xit x) a' w')->
   c.wp P Q a w/\∀ b,c = .loop b->AP P b Q a w
theorem adk (h:RH P.globals.size F W e H w){t:TypeId}{a v:AV}{a':Value}(ha:VR e a a')(hl:sO P H t a=some v) :
  ∃ ad v',a' = .pointer (some ad)/\(loadVar t ad).run P w = .ok v' w/\VR e v v':=by
 obtain⟨v',h1,h2⟩:=Ve h ha hl
 unfold sO at hl
 split at hl
 ·obtain⟨o,hi,ho,rfl⟩:=ha.pA
  refine⟨_,v',rfl,?_,h2⟩
  simpa[Instr.loadAt,Instr.sureAddr] using h1
 ·cases hl
theorem SN (h:RH P.globals.size F W e H w){n:Nat}{t:Tm}{a:Act}(ht:TR e n t a):∀ (l:List ResultVar) (vs:List AV),tH P t H l=some vs->
  ∃ ws,(l.mapM (fun (r:ResultVar)=>match r with | .tmp t=>(Pure.pure (a.tmps.getD t undef):Sem Value) | .cell ad ty=>do loadVar ty (<-asAddr (a.tmps.getD ad undef)))).run P w = .ok ws w/\az e vs ws
 | [],vs,hr=>by cases hr;exact⟨[],by simp,.nil e⟩
 | .tmp x::l,vs,hr=>by
  unfold tH at hr
  split at hr
  ·rename_i l' sD
   cases hr
   obtain⟨ws,h1,h2⟩:=SN h ht l l' sD
   exact⟨a.tmps.getD x undef::ws,by rw[List.mapM_cons,Sem.run_bind,Sem.run_pure,Result.andThen_ok,Sem.run_bind,h1];rfl,.cons (ht.val x) h2⟩
  ·cases hr
 | .cell ad ty::l,vs,hr=>by
  unfold tH at hr
  split at hr
  ·rename_i v l' hv sD
   cases hr
   obtain⟨ws,h1,h2⟩:=SN h ht l l' sD
   obtain⟨p,v',h3,h4,h5⟩:=adk h (ht.val ad) hv
   refine⟨v'::ws,?_,.cons h5 h2⟩
   rw[List.mapM_cons,Sem.run_bind]
   have:(do loadVar ty (<-asAddr (a.tmps.getD ad undef)):Sem Value).run P w = .ok v' w:=by
    rw[h3];simp[asAddr,h4]
   rw[this,Result.andThen_ok,Sem.run_bind,h1]
   rfl
  ·cases hr
theorem SW (h:RH P.globals.size F W e H w){n:Nat}{t:Tm}{a:Act}(ht:TR e n t a){fn:Func}{vs:List AV}(hr:tH P t H fn.results.toList=some vs) :
  ∃ v,(results fn a.tmps).run P w = .ok v w/\VR e (J6 vs) v:=by
 obtain⟨ws,h1,h2⟩:=SN h ht _ _ hr
 have hm:(fn.results.mapM (fun (r:ResultVar)=>match r with | .tmp t=>(Pure.pure (a.tmps.getD t undef):Sem Value) | .cell ad ty=>do loadVar ty (<-asAddr (a.tmps.getD ad undef)))).run P w = .ok ws.toArray w:=by
  rw[<-Array.toArray_toList (xs:=fn.results),List.mapM_toArray,Sem.run_map,h1];rfl
 unfold results
 have oF:(fn.results.mapM fun
  | .tmp t=>Pure.pure (a.tmps.getD t undef)
  | .cell ad t=>do loadVar t (<-asAddr (a.tmps.getD ad undef)):Sem (Array Value)).run P w = .ok ws.toArray w:=hm
 refine⟨(if h:ws.toArray.size=1 then ws.toArray[0] else .tuple ws.toArray),?_,?_⟩
 ·rw[Sem.run_bind]
  exact No (congrArg (fun r:Result (Array Value)=>r.andThen (fun vs w'=>(Pure.pure (if h:vs.size=1 then vs[0] else .tuple vs):Sem Value).run P w')) oF) rfl
 ·cases vs with
  | nil=>rw[h2.iW];exact .tuple' (.nil e)
  | cons v r=>
   obtain⟨v',ws',rfl,hv,eg⟩:=h2.cons_inv
   cases r with
   | nil=>rw[eg.iW];exact hv
   | cons v2 r2=>
    obtain⟨P7,ws2,rfl,xz,tc⟩:=eg.cons_inv
    have:¬ (v'::P7::ws2).toArray.size=1:=by simp
    rw[dif_neg this]
    exact .tuple' h2
def GL:Ext->Array Value->Sem Value
 | .same=>Extern.AbiNoEscape.same
 | .GC t=>Extern.BytealgMakeNoZero.makeNoZero #[] #[t]
 | .LX=>Extern.BytealgIndexByte.indexByte
 | .count=>Extern.BytealgCount.count
def tZ (P:Program)(ext:Nat->Option Ext):Prop:=
 ∀ aB k,ext aB=some k->∀ (ar:Array Value) (w:World),(callFunc aB ar).run P w=(do Pure.pure (Next.value (<-GL k ar)):Sem Next).run P w
def qW (P:Program)(aw:Nat->Option Prim):Prop:=
 ∀ aB p,aw aB=some p->∀ (args:List AV) (H:Hp) (v:AV) (H':Hp),p args H=some (v,H')->
  ∀ (F:Nat->Prop) (W:World) (e:Em) (w:World) (ar:Array Value),RH P.globals.size F W e H w->az e args ar.toList->
   (callFunc aB ar).run P w = .ok (.enter aB ar) w/\Calls P aB ar w (Dw P.globals.size F W e v H')
def jY (P : Program) : Prop := (P.funcs.toList.all fun fn => fn.body.isNone||fn.name != "runtime.NumGoroutine") = true
theorem rF (hN:jY P){aB:Nat}{fn:Func}{b:Code}(hf:P.funcs[aB]? = some fn)(hb:fn.body=some b)(ar:Array Value)(w:World):(callFunc aB ar).run P w = .ok (.enter aB ar) w:=by
 have hn : (fn.name == "runtime.NumGoroutine") = false := by
  unfold jY at hN
  rw[ac6] at hN
  have:=hN fn (by have:=Array.mem_of_getElem? hf;simpa using this)
  rw[hb] at this
  simp at this
  simp[this]
 unfold callFunc
 rw[Sem.run_bind,run_program,Result.andThen_ok]
 simp only[hf,hn,abZ,if_false,hb,Option.isNone_some]
 rfl
theorem W8:∀ (n t:Nat) (acc:Array Value),(Extern.BytealgMakeNoZero.digits n t acc).size=acc.size+n
 | 0,t,acc=>rfl
 | n+1,t,acc=>by rw[Extern.BytealgMakeNoZero.digits,W8 n];simp;omega
theorem Yx (c:UInt8):∀ (l:List UInt8) (k:Nat) (q:Nat->Bool),(∀ (j:Nat) (h:j<l.length),q (k+j)=(l[j]==c))->(List.range' k l.length).find? q=mW c.toNat (l.map (·.toNat)) k
 | [],k,q,_=>rfl
 | b::l,k,q,h=>by
  have h0:=h 0 (by simp)
  simp only[ae6,List.getElem_cons_zero] at h0
  have e:(b==c)=Nat.beq b.toNat c.toNat:=by
   rw[aiL,afS]
   simp[UInt8.toNat_inj]
  rw[abn,List.range'_succ,List.find?_cons,h0,ab8,mW,e]
  cases Nat.beq b.toNat c.toNat with
  | true=>rfl
  | false=>
   simp only[cond_false]
   refine Yx c l (k+1) q (fun j hj => ?_)
   have:=h (j+1) (by simp;omega)
   rw[show k+1+j=k+(j+1) by omega,this,List.getElem_cons_succ]
theorem aaX (c:UInt8):∀ l:List UInt8,Lib.countByte l c=gL c.toNat (l.map (·.toNat))
 | []=>rfl
 | b::l=>by
  have e:(b==c)=Nat.beq b.toNat c.toNat:=by
   rw[aiL,afS]
   simp[UInt8.toNat_inj]
  have ih:=aaX c l
  unfold Lib.countByte at ih ⊢
  rw[List.count_cons,ab8,gL,e,ih]
  cases Nat.beq b.toNat c.toNat<;>rfl
theorem firstIdx_eq (s:ByteArray)(c:UInt8):firstIdx s c=(match mW c.toNat (bytes s) 0 with | some i=>(i:Int) | none => -1):=by
 have hs:s.size=s.data.toList.length:=(af0).symm
 have h:=Yx c s.data.toList 0 (fun i=>s[i]! == c) (fun j hj=>by
  have iU:j<s.size:=by rw[hs];exact hj
  simp only[yS]
  rw[getElem!_pos s j iU]
  have e:s[j]=s.data.toList[j]:=by rw[Array.getElem_toList];rfl
  rw[e])
 unfold firstIdx
 rw[List.range_eq_range',hs,h]
 rfl
theorem aaU (h:RH P.globals.size F W e H w){k:Ext}{args:List AV}{ar:Array Value}{v:AV}{H':Hp}(ha:az e args ar.toList)(hx:C3 P k args H=some (v,H')) :
  ∃ v' w' e',(GL k ar).run P w = .ok v' w'/\e.le e'/\RH P.globals.size F W e' H' w'/\VR e' v v':=by
 unfold C3 at hx
 split at hx
 ·cases hx
  obtain⟨x',r,h1,h2,h3⟩:=ha.cons_inv
  rw[h3.iW] at h1
  obtain rfl:ar = #[x']:=adl.1 h1
  exact⟨x',w,e,rfl,e.le_refl,h,h2⟩
 ·rename_i t n
  obtain⟨x',r,h1,h2,h3⟩:=ha.cons_inv
  rw[h3.iW] at h1
  obtain rfl:ar = #[x']:=adl.1 h1
  cases h2.gQ
  split at hx
  ·rename_i el hu
   split at hx
   ·rename_i hn
    simp only[yB,abT] at hx
    obtain⟨⟨i,H2⟩,jz,rfl,rfl⟩:=hx
    let w1:World:={ w with drawn:=w.drawn+1 }
    let cap:=(Question.appendCap n.toNat 0 el).cut (w.tape w.drawn (.appendCap n.toNat 0 el))
    have fe:n.toNat<=cap:=Nat.le_add_right _ _
    let bs := (Question.extern "internal/bytealg.MakeNoZero.bytes" 0).cut (w1.tape w1.drawn (.extern "internal/bytealg.MakeNoZero.bytes" 0))
    let row:=(Extern.BytealgMakeNoZero.digits cap bs #[])
    have jC:row.size=cap:=by rw[W8];simp
    have hl:az e (List.replicate n.toNat AV.dT) (row.toList.take n.toNat):=by
     refine⟨by simp[jC];omega,fun j a b hj hb => ?_⟩
     rw[agO] at hj
     split at hj
     ·cases hj;exact .dT _
     ·cases hj
    obtain⟨e',he,g1,g2,g3,g4,oO⟩:=((h.drawn (w.drawn+1)).drawn (w.drawn+1+1)).newRow (rest:=row.toList.drop n.toNat) (fz:=(0,0)) jz hl (fun _=>rfl) (by simp)
    have ai6:(row.toList.take n.toNat++row.toList.drop n.toNat).toArray=row:=by rw[List.take_append_drop]
    have hlen:(row.toList.take n.toNat++row.toList.drop n.toNat).length=cap:=by rw[List.take_append_drop];simp[jC]
    refine⟨.slice (some ⟨w.heap.size,0,none⟩) n.toNat cap,_,e',?_,he,oO,VR.A7 g2 g1 (by rw[g3];simp) fe fe (by simp) (by rw[g4,hlen];omega)⟩
    rw[ai6]
    have Xr:¬ (n<0\/n>2 ^ 48):=by omega
    have aeQ:(decide (n<0)||decide (n>2 ^ 48))=false:=by simp;omega
    have f1:(Question.appendCap n.toNat 0 el).forced=false:=rfl
    have f2 : (Question.extern "internal/bytealg.MakeNoZero.bytes" 0).forced = false := rfl
    have Bl:GL (.GC t) #[.int .i64 n]=(do
      let some t := (#[t] : Array TypeId)[0]? | stuck "bytealg.MakeNoZero: no result type"
      let .slice elem <-underlying t | stuck "bytealg.MakeNoZero: slice type expected"
      if n<0||n>2 ^ 48 then runtimePanic (.error "makeslice: len out of range")
      let cap <-choose (.appendCap n.toNat 0 elem)
      askRoom cap
      let bytes <-choose (.extern "internal/bytealg.MakeNoZero.bytes" 0)
      let a <-newRow elem (Extern.BytealgMakeNoZero.digits cap bytes #[])
      Pure.pure (.slice (some a) n.toNat cap):Sem Value):=rfl
    rw[Bl]
    simp only[ad0,nq,Sem.run_bind,au hu,Result.andThen_ok,aeQ,abZ,if_false,run_choose,f1,f2,run_askRoom,newRow,run_newObj,Sem.run_pure]
    rfl
   ·cases hx
  ·cases hx
 ·rename_i s n
  cases hx
  obtain⟨x',r,h1,h2,h3⟩:=ha.cons_inv
  obtain⟨y',r2,h4,h5,h6⟩:=h3.cons_inv
  rw[h4,h6.iW] at h1
  obtain rfl:ar = #[x',y']:=adl.1 h1
  cases h5.gQ
  obtain⟨s',rfl,rfl⟩:=h2.lj
  refine⟨_,w,e,run_indexByte_string s' n w,e.le_refl,h,?_⟩
  rw[firstIdx_eq]
  have:(n.toNat.toUInt8).toNat=n.toNat % 256:=by simp
  rw[this]
  exact .int .i64 _
 ·rename_i s n
  cases hx
  obtain⟨x',r,h1,h2,h3⟩:=ha.cons_inv
  obtain⟨y',r2,h4,h5,h6⟩:=h3.cons_inv
  rw[h4,h6.iW] at h1
  obtain rfl:ar = #[x',y']:=adl.1 h1
  cases h5.gQ
  obtain⟨s',rfl,rfl⟩:=h2.lj
  refine⟨_,w,e,Lib.run_countString s' n w,e.le_refl,h,?_⟩
  have:(n.toNat.toUInt8).toNat=n.toNat % 256:=by simp
  rw[aaX,this]
  exact .int .i64 _
 ·cases hx
theorem Uc {ext:Nat->Option Ext}{aw:Nat->Option Prim}(hN:jY P)(hE:tZ P ext)(hP:qW P aw){run:Nat->Code->Tm->Hp->Option (X × Tm × Hp)}(kS:Z6 P run) :
  rC P (Dr P ext aw run):=by
 intro g args H v H' hc
 unfold Dr at hc
 split at hc
 ·rename_i aB first cap
  refine⟨aB,first,cap,rfl,?_⟩
  intro F W e w ar hR lx
  split at hc
  ·rename_i p hp
   exact .inr (hP aB p hp _ H v H' hc F W e w ar hR lx)
  ·split at hc
   ·rename_i fn hf
    split at hc
    ·rename_i b hb
     cases hle:(Nat.ble (first++args++cap).length fn.ntmps&&Nat.blt fn.ntmps 4294967296) with
     | false=>rw[hle] at hc;cases hc
     | true=>
     rw[hle] at hc
     simp only[cond_true] at hc
     rw[zf,ado,adn] at hle
     refine .inr ⟨rF hN hf hb ar w,?_⟩
     have hlen:ar.size=(first++args++cap).length:=by have:=lx.1;simpa using this
     have hT:TR e fn.ntmps (Tr.dh .nil 0 (first++args++cap)) { tmps:=ar++Array.replicate (fn.ntmps-ar.size) undef,defers:=[] }:=by
      refine⟨by simp;omega,fun x => ?_⟩
      rw[Tr.D5 .nil _ _ _ _ (by omega)]
      simp only[yS,adf,true_and,ae9]
      by_cases hx:x<(first++args++cap).length
      ·rw[if_pos hx]
       have h1:(first++args++cap)[x]? = some (first++args++cap)[x]:=aax hx
       obtain⟨v',h2,h3⟩:=lx.get h1
       rw[h1,agy,adt,Array.getElem?_append_left (by omega),<-adm,h2]
       exact h3
      ·rw[if_neg hx]
       have:(ar++Array.replicate (fn.ntmps-ar.size) undef).getD x undef=undef:=by
        rw[adt,Array.getElem?_append_right (by omega),Array.getElem?_replicate]
        split<;>rfl
       simp only[this,Tr.get_nil]
       exact VR.undef
     have fin:∀ (x:X) (t2:Tm) (H2:Hp),run fn.ntmps b (Tr.dh .nil 0 (first++args++cap)) H=some (x,t2,H2)->(x = .normal\/x = .ret)->(tH P t2 H2 fn.results.toList).map (fun l=>(J6 l,H2))=some (v,H')->
       Calls P aB ar w (Dw P.globals.size F W e v H'):=by
      intro x t2 H2 hr gK pR
      simp only[yB,abT] at pR
      obtain⟨vs,su,rfl,rfl⟩:=pR
      refine calls_of_wp hf hb (kS _ _ _ _ _ _ _ hr F W e _ w _ hR hT ?_).1
      intro e' a' w' he cH dE hd
      obtain⟨u,hu,gu⟩:=SW cH dE su
      rcases gK with rfl | rfl
      ·exact⟨hd,u,hu,e',u,rfl,he,cH,gu⟩
      ·exact⟨hd,u,hu,e',u,rfl,he,cH,gu⟩
     split at hc
     ·cases hc
     ·rename_i x t2 H2 cL hr
      cases x with
      | normal=>exact fin _ t2 H2 hr (.inl rfl) hc
      | ret=>exact fin _ t2 H2 hr (.inr rfl) hc
      | exit i=>exact (cL i rfl).elim
     ·cases hc
    ·rename_i hb
     split at hc
     ·rename_i k hk
      obtain⟨v',w',e',h1,h2,h3,h4⟩:=aaU hR lx hc
      refine .inl ⟨v',w',e',?_,h2,h3,h4⟩
      rw[hE aB k hk,Sem.run_bind,h1]
      rfl
     ·cases hc
   ·cases hc
 ·cases hc
theorem akY {ext:Nat->Option Ext}{aw:Nat->Option Prim}(hm:P.follows .mixedOrders=true)(hN:jY P)(hE:tZ P ext)(hP:qW P aw):∀ f,Z6 P (code P ext aw f):=by
 intro f
 induction f with
 | zero=>intro n c t H x t' H' h;cases h
 | succ f ih=>
  have gm:rC P (Dr P ext aw (code P ext aw f)):=Uc hN hE hP ih
  intro n c t H x t' H' hc F W e a w Q hR hT hQ
  unfold code at hc
  split at hc
  ·cases hc
   exact⟨wp_skip (hQ e a w e.le_refl hR hT rfl),by intro b q;cases q⟩
  ·cases hc
   exact⟨wp_label (hQ e a w e.le_refl hR hT rfl),by intro b q;cases q⟩
  ·rename_i c1 c2
   refine⟨wp_seq ?_,by intro b q;cases q⟩
   split at hc
   ·rename_i t1 H1 h1
    refine (ih _ _ _ _ _ _ _ h1 F W e a w _ hR hT ?_).1
    intro e' a' w' he cH dE hd
    refine (ih _ _ _ _ _ _ _ hc F W e' a' w' _ cH dE ?_).1
    intro e2 a2 w2 kI sR Ci Ak
    exact hQ e2 a2 w2 (Em.le_trans he kI) sR Ci (Ak.trans hd)
   ·rename_i cL
    refine (ih _ _ _ _ _ _ _ hc F W e a w _ hR hT ?_).1
    intro e' a' w' he cH dE hd
    have:=hQ e' a' w' he cH dE hd
    cases x with
    | normal=>exact absurd hc (cL t' H')
    | exit i=>exact this
    | ret=>exact this
  ·rename_i cc c1 c2
   split at hc
   ·rename_i b hb
    have hv:=VR.ev hR hT cc
    rw[hb] at hv
    have cQ:=hv.uU
    refine⟨wp_cond cQ ?_,by intro b q;cases q⟩
    cases b with
    | true=>exact (ih _ _ _ _ _ _ _ hc F W e a w Q hR hT hQ).1
    | false=>exact (ih _ _ _ _ _ _ _ hc F W e a w Q hR hT hQ).1
   ·cases hc
  ·rename_i i b
   refine⟨wp_block ?_,by intro b q;cases q⟩
   split at hc
   ·rename_i j t1 H1 h1
    refine (ih _ _ _ _ _ _ _ h1 F W e a w _ hR hT ?_).1
    intro e' a' w' he cH dE hd
    show Exit.inBlock i Q (.exit j) a' w'
    cases hj:Nat.beq j i with
    | true=>
     rw[hj] at hc
     cases hc
     simp only[Exit.inBlock,aba hj,if_true]
     exact hQ e' a' w' he cH dE hd
    | false=>
     rw[hj] at hc
     cases hc
     have cL:¬ j=i:=fun q=>by rw[q,agU] at hj;cases hj
     simp only[Exit.inBlock,if_neg cL]
     exact hQ e' a' w' he cH dE hd
   ·rename_i cL
    refine (ih _ _ _ _ _ _ _ hc F W e a w _ hR hT ?_).1
    intro e' a' w' he cH dE hd
    have:=hQ e' a' w' he cH dE hd
    cases x with
    | normal=>exact this
    | exit j=>exact absurd hc (cL j t' H')
    | ret=>exact this
  ·rename_i b
   have hl:AP P b Q a w:=by
    refine VZ ?_
    split at hc
    ·rename_i t1 H1 h1
     refine (ih _ _ _ _ _ _ _ h1 F W e a w _ hR hT ?_).1
     intro e' a' w' he cH dE hd
     show Exit.then (AP P b Q) Q .normal a' w'
     refine (ih _ _ _ _ _ _ _ hc F W e' a' w' Q cH dE ?_).2 b rfl
     intro e2 a2 w2 kI sR Ci Ak
     exact hQ e2 a2 w2 (Em.le_trans he kI) sR Ci (Ak.trans hd)
    ·rename_i cL
     refine (ih _ _ _ _ _ _ _ hc F W e a w _ hR hT ?_).1
     intro e' a' w' he cH dE hd
     have:=hQ e' a' w' he cH dE hd
     cases x with
     | normal=>exact absurd hc (cL t' H')
     | exit i=>exact this
     | ret=>exact this
   exact⟨ZM hl,by intro b' q;cases q;exact hl⟩
  ·cases hc
   exact⟨wp_exit (hQ e a w e.le_refl hR hT rfl),by intro b q;cases q⟩
  ·cases hc
   exact⟨wp_ret (hQ e a w e.le_refl hR hT rfl),by intro b q;cases q⟩
  ·rename_i id ops d
   refine⟨?_,by intro b q;cases q⟩
   split at hc
   ·rename_i t1 H1 h1
    cases hc
    cases d with
    | true=>exact af5 hm gm h1 hR hT hQ
    | false=>
     refine wp_region ?_
     have:=U8 (Q:=Q) gm ops.toList 0 t H e a w (by simp) h1 hR hT hQ
     rw[List.range_eq_range']
     simpa using this
   ·cases hc
  ·cases hc
theorem abd {ext:Nat->Option Ext}{aw:Nat->Option Prim}(hm:P.follows .mixedOrders=true)(hN:jY P)(hE:tZ P ext)(hP:qW P aw){fuel g:Nat}{args:List AV}{v:AV}{H':Hp}
  (h:tT P ext aw fuel g args H=some (v,H')) {fn:Func} {b:Code} (hf:P.funcs[g]? = some fn) (hb:fn.body=some b) {ar:Array Value} (hR:RH P.globals.size F W e H w) (ha:az e args ar.toList) :
  Calls P g ar w (Dw P.globals.size F W e v H'):=by
 obtain⟨aB,first,cap,hg,hs⟩:=Uc hN hE hP (akY hm hN hE hP fuel) _ _ _ _ _ h
 cases hg
 rcases hs F W e w ar hR (by simpa using ha) with⟨v',w',e',h1,_⟩ | ⟨_,h2⟩
 ·rw[rF hN hf hb] at h1
  cases h1
 ·exact h2
end
end Go.Proofs.YtehhgkgeldinkaaGreatDoor.Am
