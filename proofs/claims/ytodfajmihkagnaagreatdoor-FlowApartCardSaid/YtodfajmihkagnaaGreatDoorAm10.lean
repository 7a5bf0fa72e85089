/- A closed call run once; the evaluator with continuations, its soundness and its limits (of no program). -/
import Derived.Test.YtodfajmihkagnaaGreatDoorAm9
set_option linter.unusedVariables false
set_option linter.unusedSimpArgs false
namespace Go.Proofs.YtodfajmihkagnaaGreatDoor.Am
open Go.RowKit
set_option linter.unusedVariables false
set_option linter.unusedSimpArgs false
def EJ (N:Nat):AV->Bool
 | .bool _ | .int _ _ | .str _ | .fB | .ah | .jv | .nilFunc | .nilIface=>true
 | .ptr i _=>Nat.blt i N
 | .iface _ v=>EJ N v
 | _=>false
def As (e:Em) (n:Nat->Nat) (N:Nat):Em:={ b:=e.b,d:=e.d,n:=n,N:=N }
theorem VR.cut {e:Em} {n:Nat->Nat} {N:Nat} {v:AV} {v':Value} (h:VR e v v') (hs:EJ N v=true):VR (As e n N) v v':=by
 induction h with
 | bool b=>exact .bool b
 | int k z=>exact .int k z
 | str s=>exact .str s
 | fB=>exact .fB
 | ah=>exact .ah
 | jv=>exact .jv
 | nilFunc=>exact .nilFunc
 | nilIface=>exact .nilIface
 | ptr i off o hi ho=>
  have:i<N:=by simpa[EJ,adq] using hs
  exact .ptr (e:=As e n N) i off o this ho
 | iface t v v' _ ih=>exact .iface t v v' (ih hs)
 | _=>cases hs
def y9 (H:Hp) (L:List (Nat × List AV)):Prop:=∃ el:Nat->TypeId,∀ g l,(g,l)∈L->H.h.get g=some (.cells (Tr.cC .nil 0 l) 0 l.length (el g) 2)
noncomputable section
open Classical in
def DI (L:List (Nat × List AV)) (N:Nat):Prim:=fun args H=>if args=[]/\y9 H L/\N<=H.next then some (.bool true,H) else none
end
theorem aj2 {G N:Nat} {F:Nat->Prop} {W:World} {e:Em} {H:Hp} {w:World} (hR:RH G F W e H w) {L:List (Nat × List AV)} {el:Nat->TypeId} (hG:G<N) (hle:N<=H.next)
  (hL:∀ g l,(g,l)∈L->g<G/\g<4294967296/\l.length<4294967296/\∀ v∈l,EJ N v=true) (hT:∀ g l,(g,l)∈L->H.h.get g=some (.cells (Tr.cC .nil 0 l) 0 l.length (el g) 2)) :
  RH G (fun k=>k<w.heap.size) w (As e (fun i=>if i=G then w.heap.size else e.n i) N) ⟨pO el L,N⟩ w:=by
 have key:∀ i o,(pO el L).get i=some o->i<G/\H.h.get i=some o/\∃ l,(i,l)∈L/\o = .cells (Tr.cC .nil 0 l) 0 l.length (el i) 2:=by
  intro i o h
  obtain⟨l,hm,rfl⟩:=Nk _ L (fun x hx=>(hL x.1 x.2 hx).2.1) i o h
  exact⟨(hL i l hm).1,hT i l hm,l,hm,rfl⟩
 refine⟨rfl,?_,?_,?_,fun k hk=>⟨hk,rfl⟩,rfl,rfl,rfl,abe _,hR.kE.1,hG,by simp[As]⟩
 ·intro i o h
  obtain⟨hi,hg,l,hm,rfl⟩:=key i o h
  obtain⟨_,ob,ep,eg,_⟩:=hR.obj i _ hg
  refine⟨Nat.lt_trans hi hG,ob,ep,?_,?_⟩
  ·obtain⟨_,_,hl,hs⟩:=hL i l hm
   cases eg with
   | cells _ _ _ _ _ C fz hn ik h0 h1 hd=>
    refine .cells _ 0 l.length _ 2 C fz ?_ ?_ (by simp) (by simp) hd
    ·simp only[As];rw[if_neg (by omega)];exact hn
    ·intro k v a b hk
     obtain⟨k',h2,v',h3,h4⟩:=ik k v a b hk
     refine⟨k',h2,v',h3,?_⟩
     have hv:v∈l:=by
      rw[Tr.Bz (α:=AV) .nil _ _ _ _ (by omega),if_pos (by omega),afC] at hk
      exact aa2 hk
     exact h4.cut (hs v hv)
  ·intro q hF
   rcases q with q | q
   ·cases q
   ·simp[As] at q
    have:=(ab6.1 ep).1
    omega
 ·intro i j oi oj h1 h2 hq e
  obtain⟨hi,hg,l,hm,rfl⟩:=key i oi h1
  obtain⟨_,ob,ep,eg,_⟩:=hR.obj i _ hg
  rcases hq with q | q
  ·cases q
  ·simp[As] at q
   have:=(ab6.1 ep).1
   omega
 ·intro g hg
  obtain⟨a,b,c⟩:=hR.pf g hg
  exact⟨Nat.lt_trans hg hG,b,c⟩
theorem ae4 {P:Program} {ext:Nat->Option Ext} {aU:Nat->Option Prim} (hm:P.follows .mixedOrders=true) (hN:oz P) (hE:vY P ext) (hP:tU P aU) {fuel g N:Nat} {fn:Func} {b:Code}
  (hf:P.funcs[g]? = some fn) (hb:fn.body=some b) {L:List (Nat × List AV)} (hG:P.globals.size<N) (hL:∀ g l,(g,l)∈L->g<P.globals.size/\g<4294967296/\l.length<4294967296/\∀ v∈l,EJ N v=true)
  (h:∀ el,JC (Kp P ext aU fuel g [] ⟨pO el L,N⟩)=true):xA P g (DI L N):=by
 intro args H v H' hp F W e w aY hR lD
 unfold DI at hp
 split at hp
 ·rename_i hc
  obtain⟨rfl,⟨el,hT⟩,hle⟩:=hc
  cases hp
  have has:aY = #[]:=by
   have:=lD.jQ
   cases aY;simp_all
  subst has
  refine⟨wJ hN hf hb #[] w,?_⟩
  refine (ahZ hm hN hE hP hf hb (h el) (aj2 hR hG hle hL hT)).mono fun en w' ⟨h1,h2⟩ => ?_
  exact⟨e,_,h1,e.le_refl,hR.below h2,.bool true⟩
 ·cases hp
set_option linter.unusedVariables false
set_option linter.unusedSimpArgs false
namespace K
abbrev R:=Option (AV × Hp)
def B1 {α:Type} (o:Option α) (k:α->R):R:=match o with | some v=>k v | none=>none
def B2 (o:Option (AV × Hp)) (k:AV->Hp->R):R:=match o with | some p=>k p.1 p.2 | none=>none
theorem eI {α:Type} {o:Option α} {k:α->R} {r:AV × Hp} (h:B1 o k=some r):∃ v,o=some v/\k v=some r:=by
 cases o with
 | none=>cases h
 | some v=>exact⟨v,rfl,h⟩
theorem tC {o:Option (AV × Hp)} {k:AV->Hp->R} {r:AV × Hp} (h:B2 o k=some r):∃ v H,o=some (v,H)/\k v H=some r:=by
 cases o with
 | none=>cases h
 | some p=>exact⟨p.1,p.2,rfl,h⟩
def ld (x:AV) (H:Hp):Option AV:=match x with | .ptr i o=>cellAt H i o | _=>none
def aC (n:Nat) (x:AV) (H:Hp):Option AV:=match x with | .ptr i o=>(av H i o n).map .agg | _=>none
def BN (o:Option (Nat × Hp)) (k:Nat->Hp->R):R:=match o with | some p=>k p.1 p.2 | none=>none
theorem Ie {o:Option (Nat × Hp)} {k:Nat->Hp->R} {r:AV × Hp} (h:BN o k=some r):∃ i H,o=some (i,H)/\k i H=some r:=by
 cases o with
 | none=>cases h
 | some p=>exact⟨p.1,p.2,rfl,h⟩
def sS (b:Bool) (x:R):R:=bif b then x else none
@[reducible] def Fn:Nat->Type
 | 0=>Hp->R
 | m+1=>AV->Fn m
def app:(m:Nat)->Fn m->List AV->Hp->R
 | 0,f,l,H=>match l with | []=>f H | _::_=>none
 | m+1,f,l,H=>match l with | []=>none | x::l=>app m (f x) l H
def abs:(m:Nat)->(List AV->Hp->R)->Fn m
 | 0,g=>fun H=>g [] H
 | m+1,g=>fun x=>abs m (fun l=>g (x::l))
theorem FF:∀ (m:Nat) (g:List AV->Hp->R) (l:List AV) (H:Hp),l.length=m->app m (abs m g) l H=g l H
 | 0,g,[],H,_=>rfl
 | 0,g,_::_,H,h=>by simp at h
 | m+1,g,[],H,h=>by simp at h
 | m+1,g,x::l,H,h=>FF m (fun l=>g (x::l)) l H (by simpa using h)
def JN (m:Nat) (f:Fn m->R) (k:Fn m):R:=f k
noncomputable section
open Classical in
def lim (f:Nat->R):R:=if h:∃ r L,f L=some r then some h.choose else none
theorem Dg {f:Nat->R} {r:AV × Hp} (h:lim f=some r):∃ L,f L=some r:=by
 unfold lim at h
 split at h
 ·rename_i q
  rw[<-acy h]
  exact q.choose_spec
 ·cases h
theorem KG {f:Nat->R} {r:AV × Hp} {L:Nat} (h:f L=some r) (hu:∀ L L' r r',f L=some r->f L'=some r'->r=r'):lim f=some r:=by
 have q:∃ r L,f L=some r:=⟨r,L,h⟩
 unfold lim
 rw[dif_pos q]
 obtain⟨L',Oa⟩:=q.choose_spec
 rw[hu L' L _ _ Oa h]
def iD (m:Nat) (B:Fn m->Fn m):Nat->Fn m
 | 0=>abs m (fun _ _=>none)
 | L+1=>B (iD m B L)
def LP (m:Nat) (B:Fn m->Fn m):Fn m:=abs m (fun l H=>lim (fun L=>app m (iD m B L) l H))
end
def CD (c:AV) (x y:R):R:=match c with | .bool q=>bif q then x else y | _=>none
def ax (lv:List Nat) (t:Tm):List AV:=lv.map fun d=>(t.get d).getD bS
theorem DG (lv:List Nat) (t:Tm):(ax lv t).length=lv.length:=by simp[ax]
def LQ:List Nat->List AV->Tm->Tm
 | d::lv,v::l,t=>LQ lv l (t.put 34 d v)
 | _,_,t=>t
def cY (n:Nat) (lv:List Nat) (l:List AV):Tm:=LQ lv l (Tr.cC .nil 0 (List.replicate n .du))
inductive An where
 | nl
 | sq (j:Option (List Nat)) (a b:An)
 | cd (a b:An)
 | bl (j:Option (List Nat)) (a:An)
 | lp (lv:List Nat) (a:An)
 | pr (lv:List Nat) (p:Tm->Hp->Option Hp)
abbrev KN:=Tm->Hp->R
abbrev qZ:=CF->Nat->Array Oper->Bool->Tm->Hp->KN->R
noncomputable section
variable (P:Program) (bo:qZ)
def bK (cf:CF) (n:Nat):Code->An->KN->(Nat->KN)->KN->KN
 | .skip,_,kn,_,_=>kn
 | .label _,_,kn,_,_=>kn
 | .seq a b,an,kn,ke,kr=>match an with
  | .sq none x y=>bK cf n a x (bK cf n b y kn ke kr) ke kr
  | .sq (some lv) x y=>fun t H=>JN lv.length (fun k=>bK cf n a x (fun t H=>app lv.length k (ax lv t) H) ke kr t H) (abs lv.length fun l H=>bK cf n b y kn ke kr (cY n lv l) H)
  | .pr lv p=>fun t H=>B1 (p t H) fun H=>kn (cY n lv (ax lv t)) H
  | _=>fun _ _=>none
 | .cond c a b,an,kn,ke,kr=>match an with
  | .cd x y=>fun t H=>CD (ev P.globals.size t c) (bK cf n a x kn ke kr t H) (bK cf n b y kn ke kr t H)
  | _=>fun _ _=>none
 | .block i b,an,kn,ke,kr=>match an with
  | .bl none x=>bK cf n b x kn (fun j t H=>bif Nat.beq j i then kn t H else ke j t H) kr
  | .bl (some lv) x=>fun t H=>JN lv.length (fun k=>bK cf n b x (fun t H=>app lv.length k (ax lv t) H) (fun j t H=>bif Nat.beq j i then app lv.length k (ax lv t) H else ke j t H) kr t H) (abs lv.length fun l H=>kn (cY n lv l) H)
  | _=>fun _ _=>none
 | .loop b,an,kn,ke,kr=>match an with
  | .lp lv x=>fun t H=>app lv.length (LP lv.length (fun k=>abs lv.length fun l H=>bK cf n b x (fun t H=>app lv.length k (ax lv t) H) ke kr (cY n lv l) H)) (ax lv t) H
  | _=>fun _ _=>none
 | .exit i,_,_,ke,_=>ke i
 | .ret,_,_,_,kr=>kr
 | .region _ ops d,_,kn,_,_=>fun t H=>bo cf n ops d t H kn
 | _,_,_,_,_=>fun _ _=>none
end
def B8 (P:Program) (bo:qZ):Prop:=
 ∀ (cf:CF) (n:Nat) (ops:Array Oper) (d:Bool) (t:Tm) (H:Hp) (k:KN) (r:AV × Hp),bo cf n ops d t H k=some r->
  ∃ t' H',(bif d then Bh P cf n ops t H else rI P cf n ops ops.toList t H)=some (t',H')/\k t' H'=some r
def lZ (e:Em) (n:Nat) (t:Tm) (a:Act):Prop:=TR e n t a/\∀ d,n<=d->t.get d=none
theorem wT {α:Type}:∀ (l:List α) (t:Tr α) (n m:Nat),(t.cC n l).get m=if n<=m/\m<n+l.length then l[m-n]? else t.get m
 | [],t,n,m=>by
  rw[if_neg (by simp only[acm];omega)];rfl
 | x::l,t,n,m=>by
  rw[Tr.cC,wT l,Tr.put,Tr.fj]
  by_cases h1:m=n
  ·subst h1
   rw[if_neg (by omega),if_pos rfl,if_pos (by simp)];simp
  ·by_cases h2:n+1<=m/\m<n+1+l.length
   ·rw[if_pos h2,if_pos (by simp;omega)]
    have:m-n=(m-(n+1))+1:=by omega
    rw[this,acM]
   ·rw[if_neg h2,if_neg h1,if_neg (by simp;omega)]
theorem OX:∀ (lv:List Nat) (l:List AV) (t:Tm) (d:Nat) (p:Option AV->Prop),(∀ (x:Nat) (v:AV),x∈lv->(∃ i:Nat,lv[i]? = some x/\l[i]? = some v)->x=d->p (some v))->p (t.get d)->p ((LQ lv l t).get d)
 | [],l,t,d,p,_,h=>by cases l<;>exact h
 | x::lv,[],t,d,p,_,h=>h
 | x::lv,v::l,t,d,p,hp,h=>by
  refine OX lv l (t.put 34 x v) d p (fun y u hy ⟨i,h1,h2⟩ he=>hp y u (.tail _ hy) ⟨i+1,by simpa using h1,by simpa using h2⟩ he) ?_
  rw[Tr.put,Tr.fj]
  by_cases hd:d=x
  ·rw[if_pos hd]
   exact hp x v (.head _) ⟨0,rfl,rfl⟩ hd.symm
  ·rw[if_neg hd];exact h
theorem lZ.sD {e:Em} {n:Nat} {t:Tm} {a:Act} (h:lZ e n t a) {lv:List Nat} (zI:∀ d∈lv,d<n):lZ e n (cY n lv (ax lv t)) a:=by
 refine⟨⟨h.1.size,fun d => ?_⟩,fun d hd => ?_⟩
 ·unfold cY
  refine OX lv (ax lv t) _ d (fun o=>VR e (o.getD bS) (a.tmps.getD d undef)) ?_ ?_
  ·rintro x v _ ⟨i,h1,h2⟩ rfl
   unfold ax at h2
   rw[ada,h1] at h2
   cases h2
   exact h.1.val x
  ·rw[wT]
   split
   ·rename_i q
    rw[ahe]
    simp only[ad6,adt] at q
    rw[if_pos (by omega)]
    exact .du _
   ·rename_i q
    simp only[ad6,adt,ab2,true_and,Nat.not_lt] at q
    rw[Tr.get_nil]
    have:=h.1.val d
    rw[h.2 d q] at this
    exact this
 ·unfold cY
  refine OX lv (ax lv t) _ d (fun o=>o=none) ?_ ?_
  ·intro x v hx _ he
   have:=zI x hx
   omega
  ·rw[wT,if_neg (by simp;omega),Tr.get_nil]
def An.ok (n:Nat):An->Bool
 | .nl=>true
 | .sq j a b=>(j.getD []).all (fun d=>Nat.blt d n)&&a.ok n&&b.ok n
 | .cd a b=>a.ok n&&b.ok n
 | .bl j a=>(j.getD []).all (fun d=>Nat.blt d n)&&a.ok n
 | .lp lv a=>lv.all (fun d=>Nat.blt d n)&&a.ok n
 | .pr lv _=>lv.all (fun d=>Nat.blt d n)
theorem PC {n:Nat} {lv:List Nat} (h:lv.all (fun d=>Nat.blt d n)=true):∀ d∈lv,d<n:=fun d hd=>by
 have:=adn.1 h d hd
 rwa[adq] at this
end K
end Go.Proofs.YtodfajmihkagnaaGreatDoor.Am
namespace Go.Proofs.YtodfajmihkagnaaGreatDoor.Am
set_option linter.unusedVariables false
set_option linter.unusedSimpArgs false
namespace K
variable {P:Program} {bo:qZ}
theorem DM {n:Nat} {dst:Option Tmp} {v:AV} {t t':Tm} (h:gG n dst v t=some t') (ht:∀ d,n<=d->t.get d=none):∀ d,n<=d->t'.get d=none:=by
 intro d hd
 unfold gG at h
 split at h
 ·cases h;exact ht d hd
 ·rename_i x
  cases hb:(Nat.blt x n&&Nat.blt x 4294967296) with
  | false=>rw[hb] at h;cases h
  | true=>
   rw[hb] at h
   cases h
   simp only[aa9,adq] at hb
   rw[Tr.put,Tr.fj,if_neg (by omega)]
   exact ht d hd
theorem NH {cf:CF} {n:Nat} {ops:Array Oper}:∀ (l:List Oper) (t t':Tm) (H H':Hp),rI P cf n ops l t H=some (t',H')->(∀ d,n<=d->t.get d=none)->∀ d,n<=d->t'.get d=none
 | [],t,t',H,H',h,ht=>by cases h;exact ht
 | o::l,t,t',H,H',h,ht=>by
  unfold rI at h
  split at h
  ·split at h
   ·split at h
    ·rename_i t1 hp
     exact NH l _ _ _ _ h (DM hp ht)
    ·cases h
   ·cases h
  ·split at h
   ·rename_i t1 hp
    exact NH l _ _ _ _ h (DM hp ht)
   ·cases h
  ·cases h
theorem Gg {cf:CF} {n:Nat} {ops:Array Oper}:∀ (l:List Oper) (i:Nat) (bs:List Nat) (tp te:Tm) (hb h:Hp) (s:List jH) (t':Tm) (H':Hp),kX P cf n ops i l bs tp te hb h=some (s,t',H')->(∀ d,n<=d->te.get d=none)->∀ d,n<=d->t'.get d=none
 | [],i,bs,tp,te,hb,h,s,t',H',hr,ht=>by unfold kX at hr;cases hr;exact ht
 | o::l,i,[],tp,te,hb,h,s,t',H',hr,ht=>by unfold kX at hr;cases hr
 | o::l,i,b::bs,tp,te,hb,h,s,t',H',hr,ht=>by
  unfold kX at hr
  split at hr
  ·split at hr
   ·split at hr
    ·split at hr
     ·rename_i h1 h2
      simp only[aaF] at hr
      obtain⟨⟨s2,t2,H2⟩,h3,h4⟩:=hr
      cases h4
      exact Gg l _ _ _ _ _ _ _ _ _ h3 (DM h2 ht)
     ·cases hr
    ·cases hr
   ·split at hr
    ·split at hr
     ·rename_i h1 h2
      simp only[aaF] at hr
      obtain⟨⟨s2,t2,H2⟩,h3,h4⟩:=hr
      cases h4
      exact Gg l _ _ _ _ _ _ _ _ _ h3 (DM h2 ht)
     ·cases hr
    ·cases hr
   ·split at hr
    ·split at hr
     ·rename_i h1 h2
      simp only[aaF] at hr
      obtain⟨⟨s2,t2,H2⟩,h3,h4⟩:=hr
      cases h4
      exact Gg l _ _ _ _ _ _ _ _ _ h3 (DM h2 ht)
     ·cases hr
    ·cases hr
  ·split at hr
   ·rename_i h1 h2
    simp only[aaF] at hr
    obtain⟨⟨s2,t2,H2⟩,h3,h4⟩:=hr
    cases h4
    exact Gg l _ _ _ _ _ _ _ _ _ h3 (DM h2 ht)
   ·cases hr
  ·cases hr
theorem ahx {cf:CF} {n:Nat} {ops:Array Oper} {d:Bool} {t t':Tm} {H H':Hp} (h:(bif d then Bh P cf n ops t H else rI P cf n ops ops.toList t H)=some (t',H')) (ht:∀ x,n<=x->t.get x=none):∀ x,n<=x->t'.get x=none:=by
 cases d with
 | false=>exact NH _ _ _ _ _ h ht
 | true=>
  simp only[cond_true] at h
  unfold Bh at h
  cases hr:wj ops with
  | false=>rw[hr] at h;cases h
  | true=>
   rw[hr] at h
   simp only[cond_true] at h
   split at h
   ·rename_i l t1 H1 iV
    cases hd:zD P l with
    | false=>rw[hd] at h;cases h
    | true=>
     rw[hd] at h
     cases h
     exact Gg _ _ _ _ _ _ _ _ _ _ iV ht
   ·cases h
def yV (P:Program) (r:AV × Hp) (F:Nat->Prop) (W:World) (n:Nat) (e:Em) (ds:List Deferred) (kn:KN) (ex:Exit) (Q:Exit->Act->World->Prop):Prop:=
 ∀ e' a' w' t' H',e.le e'->RH P.globals.size F W e' H' w'->lZ e' n t' a'->a'.defers=ds->kn t' H'=some r->Q ex a' w'
theorem yV.mono {r:AV × Hp} {F:Nat->Prop} {W:World} {n:Nat} {e e2:Em} {ds:List Deferred} {kn:KN} {ex:Exit} {Q:Exit->Act->World->Prop} (h:yV P r F W n e ds kn ex Q) (he:e.le e2):yV P r F W n e2 ds kn ex Q:=
 fun e' a' w' t' H' h1=>h e' a' w' t' H' (Em.le_trans he h1)
theorem nV {m n:Nat} {lv:List Nat} {k:List AV->Hp->R} {t:Tm} {H:Hp} (hm:lv.length=m):app m (abs m k) (ax lv t) H=k (ax lv t) H:=FF m k _ H (by rw[DG];exact hm)
def Xg (P:Program) (n:Nat) (c:Code) (lv:List Nat) (p:Tm->Hp->Option Hp):Prop:=
 ∀ t H H2,p t H=some H2->∀ (F:Nat->Prop) (W:World) (e:Em) (a:Act) (w:World) (Q:Exit->Act->World->Prop),RH P.globals.size F W e H w->lZ e n t a->
  (∀ e' a' w',e.le e'->RH P.globals.size F W e' H2 w'->lZ e' n (cY n lv (ax lv t)) a'->a'.defers=a.defers->Q .normal a' w')->c.wp P Q a w
def jS (P:Program) (n:Nat):Code->An->Prop
 | .seq a b,an=>match an with | .sq _ x y=>jS P n a x/\jS P n b y | .pr lv p=>Xg P n (.seq a b) lv p | _=>True
 | .cond _ a b,an=>match an with | .cd x y=>jS P n a x/\jS P n b y | _=>True
 | .block _ b,an=>match an with | .bl _ x=>jS P n b x | _=>True
 | .loop b,an=>match an with | .lp _ x=>jS P n b x | _=>True
 | _,_=>True
def An.plain:An->Bool
 | .nl=>true
 | .sq _ a b=>a.plain&&b.plain
 | .cd a b=>a.plain&&b.plain
 | .bl _ a=>a.plain
 | .lp _ a=>a.plain
 | .pr _ _=>false
theorem jS.plain (P:Program) (n:Nat):∀ (c:Code) (an:An),an.plain=true->jS P n c an:=by
 intro c
 induction c with
 | seq a b ia ib=>
  intro an h
  unfold jS
  cases an with
  | sq j x y=>simp only[An.plain,aa9] at h;exact⟨ia x h.1,ib y h.2⟩
  | pr lv p=>cases h
  | _=>trivial
 | cond q a b ia ib=>
  intro an h
  unfold jS
  cases an with
  | cd x y=>simp only[An.plain,aa9] at h;exact⟨ia x h.1,ib y h.2⟩
  | _=>trivial
 | block i b ib=>
  intro an h
  unfold jS
  cases an with
  | bl j x=>exact ib x h
  | _=>trivial
 | loop b ib=>
  intro an h
  unfold jS
  cases an with
  | lp lv x=>exact ib x h
  | _=>trivial
 | _=>intro an h;unfold jS;trivial
def vL (P:Program) (an:Nat->An):Prop:=∀ bf fn b,P.funcs[bf]? = some fn->fn.body=some b->jS P fn.ntmps b (an bf)
theorem vL.plain {P:Program} {an:Nat->An} (h:∀ g,(an g).plain=true):vL P an:=fun bf fn b _ _=>jS.plain P fn.ntmps b (an bf) (h bf)
def Jb:List (Nat × An)->Nat->An
 | [],_ => .nl
 | p::r,g=>bif Nat.beq g p.1 then p.2 else Jb r g
theorem Xu {P:Program}:∀ {l:List (Nat × An)},(∀ p∈l,p.2.plain=true\/∀ fn b,P.funcs[p.1]? = some fn->fn.body=some b->jS P fn.ntmps b p.2)->vL P (Jb l)
 | [],h=>vL.plain fun _=>rfl
 | p::r,h=>by
  intro bf fn b h1 h2
  show jS P fn.ntmps b (bif Nat.beq bf p.1 then p.2 else Jb r bf)
  cases hb:Nat.beq bf p.1 with
  | true=>
   obtain rfl:=abC hb
   rcases h p (.head _) with q | q
   ·exact jS.plain P _ _ _ q
   ·exact q fn b h1 h2
  | false=>exact Xu (fun q hq=>h q (.tail _ hq)) bf fn b h1 h2
theorem ajv (hm:P.follows .mixedOrders=true) (gu:B8 P bo) {cf:CF} (gj:rC P cf) {n:Nat}:∀ (c:Code) (an:An) (kn:KN) (ke:Nat->KN) (kr:KN) (t:Tm) (H:Hp) (r:AV × Hp),an.ok n=true->jS P n c an->bK P bo cf n c an kn ke kr t H=some r->
  ∀ (F:Nat->Prop) (W:World) (e:Em) (a:Act) (w:World) (Q:Exit->Act->World->Prop),RH P.globals.size F W e H w->lZ e n t a->
   yV P r F W n e a.defers kn .normal Q->(∀ i,yV P r F W n e a.defers (ke i) (.exit i) Q)->yV P r F W n e a.defers kr .ret Q->c.wp P Q a w:=by
 intro c
 induction c with
 | skip=>
  intro an kn ke kr t H r ha mL hc F W e a w Q hR hT fT lg kJ
  unfold bK at hc
  exact wp_skip (fT e a w t H e.le_refl hR hT rfl hc)
 | label l=>
  intro an kn ke kr t H r ha mL hc F W e a w Q hR hT fT lg kJ
  unfold bK at hc
  exact wp_label (fT e a w t H e.le_refl hR hT rfl hc)
 | seq c1 c2 i1 i2=>
  intro an kn ke kr t H r ha mL hc F W e a w Q hR hT fT lg kJ
  unfold bK at hc
  split at hc
  ·rename_i x y
   refine wp_seq ?_
   simp only[An.ok,aa9] at ha
   refine i1 x _ _ _ t H r ha.1.2 mL.1 hc F W e a w _ hR hT ?_ ?_ ?_
   ·intro e' a' w' t' H' he bJ cZ hd hk
    refine i2 y _ _ _ t' H' r ha.2 mL.2 hk F W e' a' w' Q bJ cZ ?_ ?_ ?_
    ·rw[hd];exact fT.mono he
    ·intro i;rw[hd];exact (lg i).mono he
    ·rw[hd];exact kJ.mono he
   ·intro i e' a' w' t' H' he bJ cZ hd hk
    exact lg i e' a' w' t' H' he bJ cZ hd hk
   ·intro e' a' w' t' H' he bJ cZ hd hk
    exact kJ e' a' w' t' H' he bJ cZ hd hk
  ·rename_i lv x y
   refine wp_seq ?_
   simp only[An.ok,aa9,ae0] at ha
   have zI:=PC ha.1.1
   unfold JN at hc
   refine i1 x _ _ _ t H r ha.1.2 mL.1 hc F W e a w _ hR hT ?_ ?_ ?_
   ·intro e' a' w' t' H' he bJ cZ hd hk
    replace hk:=(nV (n:=n) rfl).symm.trans hk
    refine i2 y _ _ _ _ H' r ha.2 mL.2 hk F W e' a' w' Q bJ (cZ.sD zI) ?_ ?_ ?_
    ·rw[hd];exact fT.mono he
    ·intro i;rw[hd];exact (lg i).mono he
    ·rw[hd];exact kJ.mono he
   ·intro i e' a' w' t' H' he bJ cZ hd hk
    exact lg i e' a' w' t' H' he bJ cZ hd hk
   ·intro e' a' w' t' H' he bJ cZ hd hk
    exact kJ e' a' w' t' H' he bJ cZ hd hk
  ·rename_i lv p
   obtain⟨H2,h1,h2⟩:=eI hc
   exact mL t H H2 h1 F W e a w Q hR hT fun e' a' w' he bJ cZ hd=>fT e' a' w' _ H2 he bJ cZ hd h2
  ·cases hc
 | cond x c1 c2 i1 i2=>
  intro an kn ke kr t H r ha mL hc F W e a w Q hR hT fT lg kJ
  unfold bK at hc
  split at hc
  ·rename_i y z
   simp only[An.ok,aa9] at ha
   unfold CD at hc
   split at hc
   ·rename_i b hb
    have hv:=VR.ev hR hT.1 x
    rw[hb] at hv
    refine wp_cond hv.so ?_
    cases b with
    | true=>exact i1 y _ _ _ t H r ha.1 mL.1 hc F W e a w Q hR hT fT lg kJ
    | false=>exact i2 z _ _ _ t H r ha.2 mL.2 hc F W e a w Q hR hT fT lg kJ
   ·cases hc
  ·cases hc
 | block i b ib=>
  intro an kn ke kr t H r ha mL hc F W e a w Q hR hT fT lg kJ
  unfold bK at hc
  refine wp_block ?_
  have Z7:∀ (j:Nat) (e':Em) (a':Act) (w':World) (t':Tm) (H':Hp) (q:KN),e.le e'->RH P.globals.size F W e' H' w'->lZ e' n t' a'->a'.defers=a.defers->
    (∀ e' a' w' t' H',e.le e'->RH P.globals.size F W e' H' w'->lZ e' n t' a'->a'.defers=a.defers->q t' H'=some r->Q .normal a' w')->
    (bif Nat.beq j i then q t' H' else ke j t' H')=some r->Exit.inBlock i Q (.exit j) a' w':=by
   intro j e' a' w' t' H' q he bJ cZ hd hq hk
   show (if j=i then Q .normal a' w' else Q (.exit j) a' w')
   cases hj:Nat.beq j i with
   | true=>
    rw[hj] at hk
    rw[if_pos (abC hj)]
    exact hq e' a' w' t' H' he bJ cZ hd hk
   | false=>
    rw[hj] at hk
    rw[if_neg (fun q=>by rw[q,afB] at hj;cases hj)]
    exact lg j e' a' w' t' H' he bJ cZ hd hk
  split at hc
  ·rename_i x
   simp only[An.ok,aa9] at ha
   refine ib x _ _ _ t H r ha.2 mL hc F W e a w _ hR hT ?_ ?_ ?_
   ·intro e' a' w' t' H' he bJ cZ hd hk
    exact fT e' a' w' t' H' he bJ cZ hd hk
   ·intro j e' a' w' t' H' he bJ cZ hd hk
    exact Z7 j e' a' w' t' H' kn he bJ cZ hd fT hk
   ·intro e' a' w' t' H' he bJ cZ hd hk
    exact kJ e' a' w' t' H' he bJ cZ hd hk
  ·rename_i lv x
   simp only[An.ok,aa9,ae0] at ha
   have zI:=PC ha.1
   unfold JN at hc
   have hj:∀ e' a' w' t' H',e.le e'->RH P.globals.size F W e' H' w'->lZ e' n t' a'->a'.defers=a.defers->app lv.length (abs lv.length fun l H=>kn (cY n lv l) H) (ax lv t') H'=some r->Q .normal a' w':=by
    intro e' a' w' t' H' he bJ cZ hd hk
    replace hk:=(nV (n:=n) rfl).symm.trans hk
    exact fT e' a' w' _ H' he bJ (cZ.sD zI) hd hk
   refine ib x _ _ _ t H r ha.2 mL hc F W e a w _ hR hT ?_ ?_ ?_
   ·intro e' a' w' t' H' he bJ cZ hd hk
    exact hj e' a' w' t' H' he bJ cZ hd hk
   ·intro j e' a' w' t' H' he bJ cZ hd hk
    exact Z7 j e' a' w' t' H' (fun t H=>app lv.length (abs lv.length fun l H=>kn (cY n lv l) H) (ax lv t) H) he bJ cZ hd hj hk
   ·intro e' a' w' t' H' he bJ cZ hd hk
    exact kJ e' a' w' t' H' he bJ cZ hd hk
  ·cases hc
 | loop b ib=>
  intro an kn ke kr t H r ha mL hc F W e a w Q hR hT fT lg kJ
  unfold bK at hc
  split at hc
  ·rename_i lv x
   simp only[An.ok,aa9] at ha
   have zI:=PC ha.1
   unfold LP at hc
   replace hc:=(nV (n:=n) rfl).symm.trans hc
   obtain⟨L,hL⟩:=Dg hc
   refine P1 ?_
   have key:∀ (L:Nat) (e:Em) (a:Act) (w:World) (t:Tm) (H:Hp),app lv.length (iD lv.length (fun k=>abs lv.length fun l H=>bK P bo cf n b x (fun t H=>app lv.length k (ax lv t) H) ke kr (cY n lv l) H) L) (ax lv t) H=some r->
     RH P.globals.size F W e H w->lZ e n t a->(∀ i,yV P r F W n e a.defers (ke i) (.exit i) Q)->yV P r F W n e a.defers kr .ret Q->xd P b Q a w:=by
    intro L
    induction L with
    | zero=>
     intro e a w t H hq _ _ _ _
     replace hq:=(nV (m:=lv.length) (n:=n) (k:=fun _ _=>none) rfl).symm.trans hq
     cases hq
    | succ L ih=>
     intro e a w t H hq hR hT lg kJ
     replace hq:=(nV (m:=lv.length) (n:=n) (k:=fun l H=>bK P bo cf n b x (fun t H=>app lv.length (iD lv.length (fun k=>abs lv.length fun l H=>bK P bo cf n b x (fun t H=>app lv.length k (ax lv t) H) ke kr (cY n lv l) H) L) (ax lv t) H) ke kr (cY n lv l) H) rfl).symm.trans hq
     refine PV ?_
     refine ib x _ _ _ _ H r ha.2 mL hq F W e a w _ hR (hT.sD zI) ?_ ?_ ?_
     ·intro e' a' w' t' H' he bJ cZ hd hk
      refine ih e' a' w' t' H' hk bJ cZ ?_ ?_
      ·intro i;rw[hd];exact (lg i).mono he
      ·rw[hd];exact kJ.mono he
     ·intro i e' a' w' t' H' he bJ cZ hd hk
      exact lg i e' a' w' t' H' he bJ cZ hd hk
     ·intro e' a' w' t' H' he bJ cZ hd hk
      exact kJ e' a' w' t' H' he bJ cZ hd hk
   exact key L e a w t H hL hR hT lg kJ
  ·cases hc
 | exit i=>
  intro an kn ke kr t H r ha mL hc F W e a w Q hR hT fT lg kJ
  unfold bK at hc
  exact wp_exit (lg i e a w t H e.le_refl hR hT rfl hc)
 | ret=>
  intro an kn ke kr t H r ha mL hc F W e a w Q hR hT fT lg kJ
  unfold bK at hc
  exact wp_ret (kJ e a w t H e.le_refl hR hT rfl hc)
 | region id ops d=>
  intro an kn ke kr t H r ha mL hc F W e a w Q hR hT fT lg kJ
  unfold bK at hc
  obtain⟨t1,H1,h1,h2⟩:=gu cf n ops d t H kn r hc
  have jA:=ahx h1 hT.2
  have fin:∀ e' a' w',e.le e'->RH P.globals.size F W e' H1 w'->TR e' n t1 a'->a'.defers=a.defers->Q .normal a' w':=fun e' a' w' he bJ cZ hd=>fT e' a' w' t1 H1 he bJ ⟨cZ,jA⟩ hd h2
  cases d with
  | true=>exact Xv hm gj h1 hR hT.1 fin
  | false=>
   refine wp_region ?_
   have:=YI (Q:=Q) gj ops.toList 0 t H e a w (by simp) h1 hR hT.1 fin
   rw[List.range_eq_range']
   simpa using this
 | _=>
  intro an kn ke kr t H r ha mL hc
  unfold bK at hc
  cases hc
def Ev (p:Nat->Prop):Prop:=∃ k0,∀ k,k0<=k->p k
theorem Ev.of {p:Nat->Prop} (h:∀ k,p k):Ev p:=⟨0,fun k _=>h k⟩
def rQ (f:Nat->CF) (g:CF):Prop:=∀ x l H r,g x l H=some r->Ev fun k=>f k x l H=some r
def vu (f:Nat->KN) (g:KN):Prop:=∀ t H r,g t H=some r->Ev fun k=>f k t H=some r
def vX (bo:qZ):Prop:=∀ (di:Nat->CF) (cf:CF) (kF:Nat->KN) (kn:KN) (n:Nat) (ops:Array Oper) (d:Bool) (t:Tm) (H:Hp) (r:AV × Hp),rQ di cf->vu kF kn->bo cf n ops d t H kn=some r->Ev fun k=>bo (di k) n ops d t H (kF k)=some r
theorem Le (gu:vX bo) {n:Nat}:∀ (c:Code) (an:An) (di:Nat->CF) (cf:CF) (kF:Nat->KN) (kn:KN) (lN:Nat->Nat->KN) (ke:Nat->KN) (kZ:Nat->KN) (kr:KN) (t:Tm) (H:Hp) (r:AV × Hp),
  rQ di cf->vu kF kn->(∀ i,vu (fun k=>lN k i) (ke i))->vu kZ kr->bK P bo cf n c an kn ke kr t H=some r->Ev fun k=>bK P bo (di k) n c an (kF k) (lN k) (kZ k) t H=some r:=by
 intro c
 induction c with
 | skip=>intro an di cf kF kn lN ke kZ kr t H r h1 h2 h3 h4 hc;unfold bK at hc ⊢;exact h2 t H r hc
 | label l=>intro an di cf kF kn lN ke kZ kr t H r h1 h2 h3 h4 hc;unfold bK at hc ⊢;exact h2 t H r hc
 | seq c1 c2 i1 i2=>
  intro an di cf kF kn lN ke kZ kr t H r h1 h2 h3 h4 hc
  unfold bK at hc ⊢
  cases an with
  | sq j x y=>
   cases j with
   | none=>exact i1 x di cf _ _ lN ke kZ kr t H r h1 (fun t H r h=>i2 y di cf kF kn lN ke kZ kr t H r h1 h2 h3 h4 h) h3 h4 hc
   | some lv=>
    simp only[JN] at hc ⊢
    refine i1 x di cf _ _ lN ke kZ kr t H r h1 (fun t H r h => ?_) h3 h4 hc
    replace h:=(nV (n:=n) rfl).symm.trans h
    obtain⟨k0,hk⟩:=i2 y di cf kF kn lN ke kZ kr _ H r h1 h2 h3 h4 h
    exact⟨k0,fun k hle=>(nV (n:=n) rfl).trans (hk k hle)⟩
  | pr lv p=>
   simp only at hc ⊢
   obtain⟨H2,q1,q2⟩:=eI hc
   obtain⟨k0,hk⟩:=h2 _ H2 r q2
   exact⟨k0,fun k hle=>by rw[q1];exact hk k hle⟩
  | _=>cases hc
 | cond x c1 c2 i1 i2=>
  intro an di cf kF kn lN ke kZ kr t H r h1 h2 h3 h4 hc
  unfold bK at hc ⊢
  cases an with
  | cd y z=>
   simp only[CD] at hc ⊢
   cases hv:ev P.globals.size t x<;>rw[hv] at hc<;>simp only at hc ⊢ <;> try (cases hc;done)
   rename_i q
   cases q with
   | true=>exact i1 y di cf kF kn lN ke kZ kr t H r h1 h2 h3 h4 hc
   | false=>exact i2 z di cf kF kn lN ke kZ kr t H r h1 h2 h3 h4 hc
  | _=>cases hc
 | block i b ib=>
  intro an di cf kF kn lN ke kZ kr t H r h1 h2 h3 h4 hc
  unfold bK at hc ⊢
  cases an with
  | bl j x=>
   cases j with
   | none=>
    refine ib x di cf kF kn _ _ kZ kr t H r h1 h2 (fun q t H r h => ?_) h4 hc
    cases hq:Nat.beq q i with
    | true=>rw[hq] at h;simp only[hq,cond_true];exact h2 t H r h
    | false=>rw[hq] at h;simp only[hq,cond_false];exact h3 q t H r h
   | some lv=>
    simp only[JN] at hc ⊢
    have hj:vu (fun k=>fun t H=>app lv.length (abs lv.length fun l H=>kF k (cY n lv l) H) (ax lv t) H) (fun t H=>app lv.length (abs lv.length fun l H=>kn (cY n lv l) H) (ax lv t) H):=by
     intro t H r h
     replace h:=(nV (n:=n) rfl).symm.trans h
     obtain⟨k0,hk⟩:=h2 _ H r h
     exact⟨k0,fun k hle=>(nV (n:=n) rfl).trans (hk k hle)⟩
    refine ib x di cf _ _ _ _ kZ kr t H r h1 hj (fun q t H r h => ?_) h4 hc
    cases hq:Nat.beq q i with
    | true=>rw[hq] at h;simp only[hq,cond_true];exact hj t H r h
    | false=>rw[hq] at h;simp only[hq,cond_false];exact h3 q t H r h
  | _=>cases hc
 | loop b ib=>
  intro an di cf kF kn lN ke kZ kr t H r h1 h2 h3 h4 hc
  unfold bK at hc ⊢
  cases an with
  | lp lv x=>
   simp only at hc ⊢
   have const:∀ (f:CF),rQ (fun _=>f) f:=fun f x l H r h=>Ev.of fun _=>h
   have qe:∀ (f:KN),vu (fun _=>f) f:=fun f t H r h=>Ev.of fun _=>h
   have mono:∀ (f:CF) (ke:Nat->KN) (kr:KN) (L L':Nat) (t:Tm) (H:Hp) (r:AV × Hp),L<=L'->app lv.length (iD lv.length (fun k=>abs lv.length fun l H=>bK P bo f n b x (fun t H=>app lv.length k (ax lv t) H) ke kr (cY n lv l) H) L) (ax lv t) H=some r->
     app lv.length (iD lv.length (fun k=>abs lv.length fun l H=>bK P bo f n b x (fun t H=>app lv.length k (ax lv t) H) ke kr (cY n lv l) H) L') (ax lv t) H=some r:=by
    intro f ke kr L
    induction L with
    | zero=>
     intro L' t H r _ h
     rw[show iD lv.length _ 0=abs lv.length (fun _ _=>none) from rfl,nV (n:=n) rfl] at h
     cases h
    | succ L ih=>
     intro L' t H r hle h
     obtain⟨L2,rfl⟩:∃ L2,L'=L2+1:=⟨L'-1,by omega⟩
     rw[show iD lv.length _ (L+1)=abs lv.length _ from rfl,nV (n:=n) rfl] at h
     rw[show iD lv.length _ (L2+1)=abs lv.length _ from rfl,nV (n:=n) rfl]
     obtain⟨k0,hk⟩:=ib x (fun _=>f) f (fun _=>fun t H=>app lv.length (iD lv.length _ L2) (ax lv t) H) (fun t H=>app lv.length (iD lv.length _ L) (ax lv t) H) (fun _=>ke) ke (fun _=>kr) kr _ H r (const f) (fun t H r h=>Ev.of fun _=>ih L2 t H r (by omega) h) (fun i=>qe (ke i)) (qe kr) h
     exact hk k0 (abe _)
   have uniq:∀ (f:CF) (ke:Nat->KN) (kr:KN) (t:Tm) (H:Hp) (L L':Nat) (r r':AV × Hp),app lv.length (iD lv.length (fun k=>abs lv.length fun l H=>bK P bo f n b x (fun t H=>app lv.length k (ax lv t) H) ke kr (cY n lv l) H) L) (ax lv t) H=some r->
     app lv.length (iD lv.length (fun k=>abs lv.length fun l H=>bK P bo f n b x (fun t H=>app lv.length k (ax lv t) H) ke kr (cY n lv l) H) L') (ax lv t) H=some r'->r=r':=by
    intro f ke kr t H L L' r r' h h'
    rcases Nat.le_total L L' with q | q
    ·have:=mono f ke kr L L' t H r q h
     rw[this] at h';exact acy h'
    ·have:=mono f ke kr L' L t H r' q h'
     rw[h] at this;exact acy this
   have akv:∀ (f:CF) (ke:Nat->KN) (kr:KN) (t:Tm) (H:Hp) (L:Nat) (r:AV × Hp),app lv.length (iD lv.length (fun k=>abs lv.length fun l H=>bK P bo f n b x (fun t H=>app lv.length k (ax lv t) H) ke kr (cY n lv l) H) L) (ax lv t) H=some r->
     app lv.length (LP lv.length (fun k=>abs lv.length fun l H=>bK P bo f n b x (fun t H=>app lv.length k (ax lv t) H) ke kr (cY n lv l) H)) (ax lv t) H=some r:=by
    intro f ke kr t H L r h
    unfold LP
    rw[nV (n:=n) rfl]
    exact KG h (uniq f ke kr t H)
   have Sp:∀ (f:CF) (ke:Nat->KN) (kr:KN) (t:Tm) (H:Hp) (r:AV × Hp),app lv.length (LP lv.length (fun k=>abs lv.length fun l H=>bK P bo f n b x (fun t H=>app lv.length k (ax lv t) H) ke kr (cY n lv l) H)) (ax lv t) H=some r->
     ∃ L,app lv.length (iD lv.length (fun k=>abs lv.length fun l H=>bK P bo f n b x (fun t H=>app lv.length k (ax lv t) H) ke kr (cY n lv l) H) L) (ax lv t) H=some r:=by
    intro f ke kr t H r h
    unfold LP at h
    replace h:=(nV (n:=n) rfl).symm.trans h
    exact Dg h
   have roll:∀ (f:CF) (ke:Nat->KN) (kr:KN) (t:Tm) (H:Hp) (r:AV × Hp),bK P bo f n b x (fun t H=>app lv.length (LP lv.length (fun k=>abs lv.length fun l H=>bK P bo f n b x (fun t H=>app lv.length k (ax lv t) H) ke kr (cY n lv l) H)) (ax lv t) H) ke kr (cY n lv (ax lv t)) H=some r->
     app lv.length (LP lv.length (fun k=>abs lv.length fun l H=>bK P bo f n b x (fun t H=>app lv.length k (ax lv t) H) ke kr (cY n lv l) H)) (ax lv t) H=some r:=by
    intro f ke kr t H r h
    obtain⟨k0,hk⟩:=ib x (fun _=>f) f (fun L=>fun t H=>app lv.length (iD lv.length (fun k=>abs lv.length fun l H=>bK P bo f n b x (fun t H=>app lv.length k (ax lv t) H) ke kr (cY n lv l) H) L) (ax lv t) H) _ (fun _=>ke) ke (fun _=>kr) kr _ H r (const f)
     (fun t H r h=>by
      obtain⟨L,hL⟩:=Sp f ke kr t H r h
      exact⟨L,fun k hle=>mono f ke kr L k t H r hle hL⟩) (fun i=>qe (ke i)) (qe kr) h
    refine akv f ke kr t H (k0+1) r ?_
    rw[show iD lv.length _ (k0+1)=abs lv.length _ from rfl,nV (n:=n) rfl]
    exact hk k0 (abe _)
   obtain⟨L,hL⟩:=Sp cf ke kr t H r hc
   clear hc
   induction L generalizing t H r with
   | zero=>
    rw[show iD lv.length _ 0=abs lv.length (fun _ _=>none) from rfl,nV (n:=n) rfl] at hL
    cases hL
   | succ L ih=>
    rw[show iD lv.length _ (L+1)=abs lv.length _ from rfl,nV (n:=n) rfl] at hL
    obtain⟨k0,hk⟩:=ib x di cf (fun k=>fun t H=>app lv.length (LP lv.length (fun q=>abs lv.length fun l H=>bK P bo (di k) n b x (fun t H=>app lv.length q (ax lv t) H) (lN k) (kZ k) (cY n lv l) H)) (ax lv t) H) _ lN ke kZ kr _ H r h1 (fun t H r h=>ih t H r h) h3 h4 hL
    exact⟨k0,fun k hle=>roll (di k) (lN k) (kZ k) t H r (hk k hle)⟩
  | _=>cases hc
 | exit i=>intro an di cf kF kn lN ke kZ kr t H r h1 h2 h3 h4 hc;unfold bK at hc ⊢;exact h3 i t H r hc
 | ret=>intro an di cf kF kn lN ke kZ kr t H r h1 h2 h3 h4 hc;unfold bK at hc ⊢;exact h4 t H r hc
 | region id ops d=>intro an di cf kF kn lN ke kZ kr t H r h1 h2 h3 h4 hc;unfold bK at hc ⊢;exact gu di cf kF kn n ops d t H r h1 h2 hc
 | _=>
  intro an di cf kF kn lN ke kZ kr t H r h1 h2 h3 h4 hc
  unfold bK at hc
  cases hc
end K
end Go.Proofs.YtodfajmihkagnaaGreatDoor.Am
namespace Go.Proofs.YtodfajmihkagnaaGreatDoor.Am
set_option linter.unusedVariables false
set_option linter.unusedSimpArgs false
namespace K
section
variable {P:Program} {bo:qZ}
theorem ang (gu:vX bo) (f:CF) (n:Nat) (b:Code) (x:An) (lv:List Nat) (ke:Nat->KN) (kr:KN) (l:List AV) (hl:l.length=lv.length) (H:Hp) :
  app lv.length (LP lv.length (fun k=>abs lv.length fun l H=>bK P bo f n b x (fun t H=>app lv.length k (ax lv t) H) ke kr (cY n lv l) H)) l H=
   bK P bo f n b x (fun t H=>app lv.length (LP lv.length (fun k=>abs lv.length fun l H=>bK P bo f n b x (fun t H=>app lv.length k (ax lv t) H) ke kr (cY n lv l) H)) (ax lv t) H) ke kr (cY n lv l) H:=by
 have const:rQ (fun _=>f) f:=fun x l H r h=>Ev.of fun _=>h
 have qe:∀ (f:KN),vu (fun _=>f) f:=fun f t H r h=>Ev.of fun _=>h
 have Je:∀ (L:Nat) (l:List AV) (H:Hp),l.length=lv.length->app lv.length (iD lv.length (fun k=>abs lv.length fun l H=>bK P bo f n b x (fun t H=>app lv.length k (ax lv t) H) ke kr (cY n lv l) H) (L+1)) l H=
   bK P bo f n b x (fun t H=>app lv.length (iD lv.length (fun k=>abs lv.length fun l H=>bK P bo f n b x (fun t H=>app lv.length k (ax lv t) H) ke kr (cY n lv l) H) L) (ax lv t) H) ke kr (cY n lv l) H:=fun L l H hl=>by
  rw[show iD lv.length _ (L+1)=abs lv.length _ from rfl,FF _ _ _ _ hl]
 have zero:∀ (l:List AV) (H:Hp),l.length=lv.length->app lv.length (iD lv.length (fun k=>abs lv.length fun l H=>bK P bo f n b x (fun t H=>app lv.length k (ax lv t) H) ke kr (cY n lv l) H) 0) l H=none:=fun l H hl=>by
  rw[show iD lv.length _ 0=abs lv.length (fun _ _=>none) from rfl,FF _ _ _ _ hl]
 have mono:∀ (L L':Nat) (l:List AV) (H:Hp) (r:AV × Hp),l.length=lv.length->L<=L'->app lv.length (iD lv.length (fun k=>abs lv.length fun l H=>bK P bo f n b x (fun t H=>app lv.length k (ax lv t) H) ke kr (cY n lv l) H) L) l H=some r->
   app lv.length (iD lv.length (fun k=>abs lv.length fun l H=>bK P bo f n b x (fun t H=>app lv.length k (ax lv t) H) ke kr (cY n lv l) H) L') l H=some r:=by
  intro L
  induction L with
  | zero=>intro L' l H r hl _ h;rw[zero l H hl] at h;cases h
  | succ L ih=>
   intro L' l H r hl hle h
   obtain⟨L2,rfl⟩:∃ L2,L'=L2+1:=⟨L'-1,by omega⟩
   rw[Je L l H hl] at h
   rw[Je L2 l H hl]
   obtain⟨k0,hk⟩:=Le gu b x (fun _=>f) f (fun _=>_) _ (fun _=>ke) ke (fun _=>kr) kr _ H r const (fun t H r h=>Ev.of fun _=>ih L2 (ax lv t) H r (DG lv t) (by omega) h) (fun i=>qe (ke i)) (qe kr) h
   exact hk k0 (abe _)
 have uniq:∀ (l:List AV) (H:Hp),l.length=lv.length->∀ (L L':Nat) (r r':AV × Hp),app lv.length (iD lv.length (fun k=>abs lv.length fun l H=>bK P bo f n b x (fun t H=>app lv.length k (ax lv t) H) ke kr (cY n lv l) H) L) l H=some r->
   app lv.length (iD lv.length (fun k=>abs lv.length fun l H=>bK P bo f n b x (fun t H=>app lv.length k (ax lv t) H) ke kr (cY n lv l) H) L') l H=some r'->r=r':=by
  intro l H hl L L' r r' h h'
  rcases Nat.le_total L L' with q | q
  ·have:=mono L L' l H r hl q h
   rw[this] at h';exact acy h'
  ·have:=mono L' L l H r' hl q h'
   rw[h] at this;exact acy this
 have KV:∀ (l:List AV) (H:Hp),l.length=lv.length->app lv.length (LP lv.length (fun k=>abs lv.length fun l H=>bK P bo f n b x (fun t H=>app lv.length k (ax lv t) H) ke kr (cY n lv l) H)) l H=lim (fun L=>app lv.length (iD lv.length (fun k=>abs lv.length fun l H=>bK P bo f n b x (fun t H=>app lv.length k (ax lv t) H) ke kr (cY n lv l) H) L) l H):=fun l H hl=>by
  unfold LP
  rw[FF _ _ _ _ hl]
 have fwd:∀ (r:AV × Hp),app lv.length (LP lv.length (fun k=>abs lv.length fun l H=>bK P bo f n b x (fun t H=>app lv.length k (ax lv t) H) ke kr (cY n lv l) H)) l H=some r->
   bK P bo f n b x (fun t H=>app lv.length (LP lv.length (fun k=>abs lv.length fun l H=>bK P bo f n b x (fun t H=>app lv.length k (ax lv t) H) ke kr (cY n lv l) H)) (ax lv t) H) ke kr (cY n lv l) H=some r:=by
  intro r h
  rw[KV l H hl] at h
  obtain⟨L,hL⟩:=Dg h
  cases L with
  | zero=>rw[zero l H hl] at hL;cases hL
  | succ L=>
   rw[Je L l H hl] at hL
   obtain⟨k0,hk⟩:=Le gu b x (fun _=>f) f (fun _=>fun t H=>app lv.length (LP lv.length (fun k=>abs lv.length fun l H=>bK P bo f n b x (fun t H=>app lv.length k (ax lv t) H) ke kr (cY n lv l) H)) (ax lv t) H) _ (fun _=>ke) ke (fun _=>kr) kr _ H r const
    (fun t H r h=>Ev.of fun _=>(KV _ H (DG lv t)).trans (KG h (uniq _ H (DG lv t)))) (fun i=>qe (ke i)) (qe kr) hL
   exact hk k0 (abe _)
 have bwd:∀ (r:AV × Hp),bK P bo f n b x (fun t H=>app lv.length (LP lv.length (fun k=>abs lv.length fun l H=>bK P bo f n b x (fun t H=>app lv.length k (ax lv t) H) ke kr (cY n lv l) H)) (ax lv t) H) ke kr (cY n lv l) H=some r->
   app lv.length (LP lv.length (fun k=>abs lv.length fun l H=>bK P bo f n b x (fun t H=>app lv.length k (ax lv t) H) ke kr (cY n lv l) H)) l H=some r:=by
  intro r h
  obtain⟨k0,hk⟩:=Le gu b x (fun _=>f) f (fun L=>fun t H=>app lv.length (iD lv.length (fun k=>abs lv.length fun l H=>bK P bo f n b x (fun t H=>app lv.length k (ax lv t) H) ke kr (cY n lv l) H) L) (ax lv t) H) _ (fun _=>ke) ke (fun _=>kr) kr _ H r const
   (fun t H r h=>by
    replace h:=(KV _ H (DG lv t)).symm.trans h
    obtain⟨L,hL⟩:=Dg h
    exact⟨L,fun k hle=>mono L k _ H r (DG lv t) hle hL⟩) (fun i=>qe (ke i)) (qe kr) h
  rw[KV l H hl]
  refine KG (L:=k0+1) ?_ (uniq l H hl)
  rw[Je k0 l H hl]
  exact hk k0 (abe _)
 cases h1:app lv.length (LP lv.length (fun k=>abs lv.length fun l H=>bK P bo f n b x (fun t H=>app lv.length k (ax lv t) H) ke kr (cY n lv l) H)) l H with
 | some r=>exact (fwd r h1).symm
 | none=>
  cases h2:bK P bo f n b x (fun t H=>app lv.length (LP lv.length (fun k=>abs lv.length fun l H=>bK P bo f n b x (fun t H=>app lv.length k (ax lv t) H) ke kr (cY n lv l) H)) (ax lv t) H) ke kr (cY n lv l) H with
  | none=>rfl
  | some r=>rw[bwd r h2] at h1;cases h1
end
def z8 (P:Program) (t:Tm) (H:Hp):List ResultVar->(List AV->R)->R
 | [],k=>k []
 | .tmp x::r,k=>z8 P t H r fun l=>k ((t.get x).getD bS::l)
 | .cell a ty::r,k=>match vo P ty,sz P ty with
  | some true,some n=>B1 (aC n ((t.get a).getD bS) H) fun v=>z8 P t H r fun l=>k (v::l)
  | some false,_=>B1 (ld ((t.get a).getD bS) H) fun v=>z8 P t H r fun l=>k (v::l)
  | _,_=>none
def zA (P:Program) (t:Tm) (H:Hp) (l:List ResultVar):R:=z8 P t H l fun vs=>some (KA vs,H)
theorem ahb {P:Program} {ty:TypeId} {x v:AV} {H:Hp} (ha:vo P ty=some false) (h:ld x H=some v):rJ P H ty x=some v:=by
 unfold ld at h
 split at h
 ·unfold rJ
  simp only[ha,aca,acx,abD,if_false,h]
 ·cases h
theorem adf {P:Program} {ty:TypeId} {n:Nat} {x v:AV} {H:Hp} (ha:vo P ty=some true) (hs:sz P ty=some n) (h:aC n x H=some v):rJ P H ty x=some v:=by
 unfold aC at h
 split at h
 ·rename_i i off
  unfold rJ
  simp only[ha,hs,aca,acx,if_true]
  cases hc:av H i off n with
  | none=>rw[hc] at h;cases h
  | some l=>rw[hc] at h;cases h;rfl
 ·cases h
theorem Gc {P:Program} {t:Tm} {H:Hp}:∀ (l:List ResultVar) (k:List AV->R) (r:AV × Hp),z8 P t H l k=some r->∃ vs,tu P t H l=some vs/\k vs=some r
 | [],k,r,h=>⟨[],rfl,h⟩
 | .tmp x::l,k,r,h=>by
  unfold z8 at h
  obtain⟨vs,h1,h2⟩:=Gc l _ r h
  exact⟨_,by unfold tu;rw[h1],h2⟩
 | .cell a ty::l,k,r,h=>by
  unfold z8 at h
  split at h
  ·rename_i n ha hs
   obtain⟨v,q1,q2⟩:=eI h
   obtain⟨vs,h1,h2⟩:=Gc l _ r q2
   exact⟨_,by unfold tu;rw[adf ha hs q1,h1],h2⟩
  ·rename_i q ha hs
   obtain⟨v,q1,q2⟩:=eI h
   obtain⟨vs,h1,h2⟩:=Gc l _ r q2
   exact⟨_,by unfold tu;rw[ahb hs q1,h1],h2⟩
  ·cases h
def HQ (n:Nat) (args:List AV):Tm:=Tr.cC .nil 0 (args++List.replicate (n-args.length) bS)
noncomputable section
def alB (P:Program) (bo:qZ) (cf:CF) (fn:Func) (an:An) (b:Code) (args:List AV) (H:Hp):R:=
 bK P bo cf fn.ntmps b an (fun t H=>zA P t H fn.results.toList) (fun _ _ _=>none) (fun t H=>zA P t H fn.results.toList) (HQ fn.ntmps args) H
def vw (P:Program) (bo:qZ) (ext:Nat->Option Ext) (aU:Nat->Option Prim) (an:Nat->An) (cf:CF):CF:=fun g args H=>
 match g with
 | .func (.func bf) first cap=>
  match aU bf with
  | some p=>p (first++args++cap) H
  | none=>match P.funcs[bf]? with
   | some fn=>match fn.body with
    | some b=>bif Nat.ble (first++args++cap).length fn.ntmps&&Nat.blt fn.ntmps 4294967296&&(an bf).ok fn.ntmps then alB P bo cf fn (an bf) b (first++args++cap) H else none
    | none=>match ext bf with
     | some k=>Cm P k (first++args++cap) H
     | none=>none
   | none=>none
 | _=>none
def SK (P:Program) (bo:qZ) (ext:Nat->Option Ext) (aU:Nat->Option Prim) (an:Nat->An):Nat->CF
 | 0=>fun _ _ _=>none
 | k+1=>vw P bo ext aU an (SK P bo ext aU an k)
def CK (P:Program) (bo:qZ) (ext:Nat->Option Ext) (aU:Nat->Option Prim) (an:Nat->An):CF:=fun g args H=>lim fun k=>SK P bo ext aU an k g args H
end
section
variable {P:Program} {bo:qZ} {ext:Nat->Option Ext} {aU:Nat->Option Prim} {an:Nat->An}
theorem X2 (gu:vX bo) {di:Nat->CF} {cf:CF} (h:rQ di cf):rQ (fun k=>vw P bo ext aU an (di k)) (vw P bo ext aU an cf):=by
 intro g args H r hc
 unfold vw at hc ⊢
 cases g<;>try (cases hc;done)
 rename_i fn first cap
 cases fn<;>try (cases hc;done)
 rename_i bf
 simp only at hc ⊢
 cases hp:aU bf with
 | some p=>rw[hp] at hc;exact Ev.of fun _=>hc
 | none=>
  rw[hp] at hc
  simp only at hc ⊢
  cases hf:P.funcs[bf]? with
  | none=>rw[hf] at hc;cases hc
  | some fn=>
   rw[hf] at hc
   simp only at hc ⊢
   cases hb:fn.body with
   | none=>rw[hb] at hc;exact Ev.of fun _=>hc
   | some b=>
    rw[hb] at hc
    simp only at hc ⊢
    cases hk:(Nat.ble (first++args++cap).length fn.ntmps&&Nat.blt fn.ntmps 4294967296&&(an bf).ok fn.ntmps) with
    | false=>rw[hk] at hc;cases hc
    | true=>
     rw[hk] at hc
     simp only[cond_true] at hc ⊢
     have qe:∀ (f:KN),vu (fun _=>f) f:=fun f t H r h=>Ev.of fun _=>h
     exact Le gu b (an bf) di cf _ _ _ _ _ _ _ H r h (qe _) (fun i=>qe _) (qe _) hc
theorem TS (gu:vX bo):∀ k,rQ (fun _=>SK P bo ext aU an (k+1)) (SK P bo ext aU an k)
 | 0=>fun g l H r h=>by cases h
 | k+1=>fun g l H r h=>by
  obtain⟨k0,hk⟩:=X2 (P:=P) (ext:=ext) (aU:=aU) (an:=an) gu (TS gu k) g l H r h
  exact Ev.of fun _=>hk k0 (abe _)
theorem Ps (gu:vX bo) {g:AV} {l:List AV} {H:Hp} {r:AV × Hp}:∀ {j k:Nat},j<=k->SK P bo ext aU an j g l H=some r->SK P bo ext aU an k g l H=some r:=by
 intro j k hle h
 induction hle with
 | refl=>exact h
 | step _ ih=>
  obtain⟨k0,hk⟩:=TS gu _ g l H r ih
  exact hk k0 (abe _)
theorem am1 (gu:vX bo) {g:AV} {l:List AV} {H:Hp} (j k:Nat) (r r':AV × Hp) (h:SK P bo ext aU an j g l H=some r) (h':SK P bo ext aU an k g l H=some r'):r=r':=by
 rcases Nat.le_total j k with q | q
 ·rw[Ps gu q h] at h';exact acy h'
 ·have:=Ps gu q h'
  rw[h] at this;exact acy this
theorem aih (gu:vX bo):rQ (SK P bo ext aU an) (CK P bo ext aU an):=by
 intro g l H r h
 obtain⟨k0,hk⟩:=Dg h
 exact⟨k0,fun k hle=>Ps gu hle hk⟩
theorem Qs (gu:vX bo) {g:AV} {l:List AV} {H:Hp} {r:AV × Hp} (h:vw P bo ext aU an (CK P bo ext aU an) g l H=some r):CK P bo ext aU an g l H=some r:=by
 obtain⟨k0,hk⟩:=X2 (P:=P) (ext:=ext) (aU:=aU) (an:=an) gu (aih gu) g l H r h
 exact KG (L:=k0+1) (hk k0 (abe _)) (fun j k r r'=>am1 gu j k r r')
theorem al1 (hm:P.follows .mixedOrders=true) (hN:oz P) (hE:vY P ext) (hP:tU P aU) (gu:B8 P bo) (hA:vL P an) {cf:CF} (gj:rC P cf):rC P (vw P bo ext aU an cf):=by
 intro g args H v H' hc
 unfold vw at hc
 split at hc
 ·rename_i bf first cap
  refine⟨bf,first,cap,rfl,?_⟩
  intro F W e w aY hR lD
  split at hc
  ·rename_i p hp
   exact .inr (hP bf p hp _ H v H' hc F W e w aY hR lD)
  ·split at hc
   ·rename_i fn hf
    split at hc
    ·rename_i b hb
     cases hle:(Nat.ble (first++args++cap).length fn.ntmps&&Nat.blt fn.ntmps 4294967296&&(an bf).ok fn.ntmps) with
     | false=>rw[hle] at hc;cases hc
     | true=>
     rw[hle] at hc
     simp only[cond_true] at hc
     rw[aa9,aa9,adH,adq] at hle
     refine .inr ⟨wJ hN hf hb aY w,?_⟩
     have hlen:aY.size=(first++args++cap).length:=by have:=lD.1;simpa using this
     have hT:lZ e fn.ntmps (HQ fn.ntmps (first++args++cap)) { tmps:=aY++Array.replicate (fn.ntmps-aY.size) undef,defers:=[] }:=by
      have hJ:((first++args++cap)++List.replicate (fn.ntmps-(first++args++cap).length) bS).length=fn.ntmps:=by
       rw[aby,ad6];omega
      refine⟨⟨by simp;omega,fun x => ?_⟩,fun x hx => ?_⟩
      ·unfold HQ
       rw[wT]
       simp only[adt,ab2,true_and,afC,hJ]
       by_cases hx:x<(first++args++cap).length
       ·rw[if_pos (by omega),abN hx]
        have h1:(first++args++cap)[x]? = some (first++args++cap)[x]:=aaM hx
        obtain⟨v',h2,h3⟩:=lD.get h1
        rw[h1,ae0,aeo,Array.getElem?_append_left (by omega),<-adw,h2]
        exact h3
       ·have hu:(aY++Array.replicate (fn.ntmps-aY.size) undef).getD x undef=undef:=by
         rw[aeo,Array.getElem?_append_right (by omega),Array.getElem?_replicate]
         split<;>rfl
        simp only[hu]
        split
        ·rw[abQ (by omega),ahe]
         split
         ·exact VR.undef
         ·exact VR.undef
        ·rw[Tr.get_nil];exact VR.undef
      ·unfold HQ
       rw[wT,hJ,if_neg (by omega),Tr.get_nil]
     refine calls_of_wp hf hb (ajv hm gu gj b (an bf) _ _ _ _ H (v,H') hle.2 (hA bf fn b hf hb) hc F W e _ w _ hR hT ?_ ?_ ?_)
     ·intro e' a' w' t' H2 he bJ cZ hd hk
      unfold zA at hk
      obtain⟨vs,sj,fV⟩:=Gc _ _ _ hk
      cases fV
      obtain⟨u,hu,iq⟩:=PH bJ cZ.1 sj
      exact⟨hd,u,hu,e',u,rfl,he,bJ,iq⟩
     ·intro i e' a' w' t' H2 he bJ cZ hd hk
      cases hk
     ·intro e' a' w' t' H2 he bJ cZ hd hk
      unfold zA at hk
      obtain⟨vs,sj,fV⟩:=Gc _ _ _ hk
      cases fV
      obtain⟨u,hu,iq⟩:=PH bJ cZ.1 sj
      exact⟨hd,u,hu,e',u,rfl,he,bJ,iq⟩
    ·rename_i hb
     split at hc
     ·rename_i k hk
      obtain⟨v',w',e',h1,h2,h3,h4⟩:=Tt hR lD hc
      refine .inl ⟨v',w',e',?_,h2,h3,h4⟩
      rw[hE bf k hk,Sem.run_bind,h1]
      rfl
     ·cases hc
   ·cases hc
 ·cases hc
theorem Tf (hm:P.follows .mixedOrders=true) (hN:oz P) (hE:vY P ext) (hP:tU P aU) (gu:B8 P bo) (hA:vL P an):∀ k,rC P (SK P bo ext aU an k)
 | 0=>fun g args H v H' h=>by cases h
 | k+1=>al1 hm hN hE hP gu hA (Tf hm hN hE hP gu hA k)
theorem akY (hm:P.follows .mixedOrders=true) (hN:oz P) (hE:vY P ext) (hP:tU P aU) (gu:B8 P bo) (hA:vL P an):rC P (CK P bo ext aU an):=by
 intro g args H v H' h
 obtain⟨k,hk⟩:=Dg h
 exact Tf hm hN hE hP gu hA k g args H v H' hk
theorem am6 (hm:P.follows .mixedOrders=true) (hN:oz P) (hE:vY P ext) (hP:tU P aU) (gu:B8 P bo) (hA:vL P an) {g:Nat} {args:List AV} {H:Hp} {v:AV} {H':Hp} (h:CK P bo ext aU an (.func (.func g) [] []) args H=some (v,H')) {fn:Func} {b:Code}
  (hf:P.funcs[g]? = some fn) (hb:fn.body=some b) {F:Nat->Prop} {W:World} {e:Em} {w:World} {aY:Array Value} (hR:RH P.globals.size F W e H w) (ha:aP e args aY.toList):Calls P g aY w (De P.globals.size F W e v H'):=by
 obtain⟨bf,first,cap,hg,hs⟩:=akY hm hN hE hP gu hA _ _ _ _ _ h
 cases hg
 rcases hs F W e w aY hR (by simpa using ha) with⟨v',w',e',h1,_⟩ | ⟨_,h2⟩
 ·rw[wJ hN hf hb] at h1
  cases h1
 ·exact h2
end
end K
end Go.Proofs.YtodfajmihkagnaaGreatDoor.Am
