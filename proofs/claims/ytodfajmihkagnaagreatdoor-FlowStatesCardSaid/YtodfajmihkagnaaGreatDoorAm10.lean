/- A closed call run once; the evaluator with continuations, its soundness and its limits (of no program). -/
import Derived.Test.YtodfajmihkagnaaGreatDoorAm9
set_option linter.unusedVariables false
set_option linter.unusedSimpArgs false
namespace Go.Proofs.YtodfajmihkagnaaGreatDoor.Am
open Go.RowKit
section
section
set_option linter.unusedVariables false
set_option linter.unusedSimpArgs false
def Kc (N:Nat):AV->Bool
 | .bool _ | .int _ _ | .str _ | .dR | .ae | .jZ | .nilFunc | .nilIface=>true
 | .ptr i _=>Nat.blt i N
 | .iface _ v=>Kc N v
 | _=>false
def B9 (e:Em)(n:Nat->Nat)(N:Nat):Em:={ b:=e.b,d:=e.d,n:=n,N:=N }
theorem VR.cut {e:Em}{n:Nat->Nat}{N:Nat}{v:AV}{v':Value}(h:VR e v v')(hs:Kc N v=true):VR (B9 e n N) v v':=by
 induction h with
 | bool b=>exact .bool b
 | int k z=>exact .int k z
 | str s=>exact .str s
 | dR=>exact .dR
 | ae=>exact .ae
 | jZ=>exact .jZ
 | nilFunc=>exact .nilFunc
 | nilIface=>exact .nilIface
 | ptr i off o hi ho=>
  have:i<N:=by simpa[Kc,ae2] using hs
  exact .ptr (e:=B9 e n N) i off o this ho
 | iface t v v' _ ih=>exact .iface t v v' (ih hs)
 | _=>cases hs
def AP (H:Hp)(L:List (Nat × List AV)):Prop:=∃ el:Nat->TypeId,∀ g l,(g,l)∈L->H.h.get g=some (.cells (Tr.cJ .nil 0 l) 0 l.length (el g) 2)
noncomputable section
open Classical in
def Gk (L:List (Nat × List AV))(N:Nat):Prim:=fun args H=>if args=[]/\AP H L/\N<=H.next then some (.bool true,H) else none
end
theorem avO {G N:Nat}{F:Nat->Prop}{W:World}{e:Em}{H:Hp}{w:World}(hR:RH G F W e H w){L:List (Nat × List AV)}{el:Nat->TypeId}(hG:G<N)(hle:N<=H.next)
  (hL:∀ g l,(g,l)∈L->g<G/\g<4294967296/\l.length<4294967296/\∀ v∈l,Kc N v=true) (hT:∀ g l,(g,l)∈L->H.h.get g=some (.cells (Tr.cJ .nil 0 l) 0 l.length (el g) 2)) :
  RH G (fun k=>k<w.heap.size) w (B9 e (fun i=>if i=G then w.heap.size else e.n i) N) ⟨qY el L,N⟩ w:=by
 have key:∀ i o,(qY el L).get i=some o->i<G/\H.h.get i=some o/\∃ l,(i,l)∈L/\o = .cells (Tr.cJ .nil 0 l) 0 l.length (el i) 2:=by
  intro i o h
  obtain⟨l,hm,rfl⟩:=Ve _ L (fun x hx=>(hL x.1 x.2 hx).2.1) i o h
  exact⟨(hL i l hm).1,hT i l hm,l,hm,rfl⟩
 refine⟨rfl,?_,?_,?_,fun k hk=>⟨hk,rfl⟩,rfl,rfl,rfl,aaU _,hR.mL.1,hG,by simp[B9]⟩
 ·intro i o h
  obtain⟨hi,hg,l,hm,rfl⟩:=key i o h
  obtain⟨_,ob,ei,eB,_⟩:=hR.obj i _ hg
  refine⟨Nat.lt_trans hi hG,ob,ei,?_,?_⟩
  ·obtain⟨_,_,hl,hs⟩:=hL i l hm
   cases eB with
   | cells _ _ _ _ _ C fz hn jB h0 h1 hd=>
    refine .cells _ 0 l.length _ 2 C fz ?_ ?_ (by simp) (by simp) hd
    ·simp only[B9];rw[if_neg (by omega)];exact hn
    ·intro k v a b hk
     obtain⟨k',h2,v',h3,h4⟩:=jB k v a b hk
     refine⟨k',h2,v',h3,?_⟩
     have hv:v∈l:=by
      rw[Tr.Ee (α:=AV) .nil _ _ _ _ (by omega),if_pos (by omega),aih] at hk
      exact aaO hk
     exact h4.cut (hs v hv)
  ·intro q hF
   rcases q with q | q
   ·cases q
   ·simp[B9] at q
    have:=(adt.1 ei).1
    omega
 ·intro i j oi oj h1 h2 hq e
  obtain⟨hi,hg,l,hm,rfl⟩:=key i oi h1
  obtain⟨_,ob,ei,eB,_⟩:=hR.obj i _ hg
  rcases hq with q | q
  ·cases q
  ·simp[B9] at q
   have:=(adt.1 ei).1
   omega
 ·intro g hg
  obtain⟨a,b,c⟩:=hR.si g hg
  exact⟨Nat.lt_trans hg hG,b,c⟩
theorem auQ {P:Program}{ext:Nat->Option Ext}{aR:Nat->Option Prim}(hm:P.follows .mixedOrders=true)(hN:pD P)(hE:yD P ext)(hP:vF P aR){fuel g N:Nat}{fn:Func}{b:Code}
  (hf:P.funcs[g]? = some fn) (hb:fn.body=some b) {L:List (Nat × List AV)} (hG:P.globals.size<N) (hL:∀ g l,(g,l)∈L->g<P.globals.size/\g<4294967296/\l.length<4294967296/\∀ v∈l,Kc N v=true)
  (h:∀ el,Ol (M9 P ext aR fuel g [] ⟨qY el L,N⟩)=true):yT P g (Gk L N):=by
 intro args H v H' hp F W e w aW hR mw
 unfold Gk at hp
 split at hp
 ·rename_i hc
  obtain⟨rfl,⟨el,hT⟩,hle⟩:=hc
  cases hp
  have has:aW = #[]:=by
   have:=mw.kX
   cases aW;simp_all
  subst has
  refine⟨yc hN hf hb #[] w,?_⟩
  refine (avN hm hN hE hP hf hb (h el) (avO hR hG hle hL hT)).mono fun en w' ⟨h1,h2⟩ => ?_
  exact⟨e,_,h1,e.le_refl,hR.below h2,.bool true⟩
 ·cases hp
set_option linter.unusedVariables false
set_option linter.unusedSimpArgs false
namespace K
abbrev R:=Option (AV × Hp)
def B1 {α:Type}(o:Option α)(k:α->R):R:=match o with | some v=>k v | none=>none
def B2 (o:Option (AV × Hp))(k:AV->Hp->R):R:=match o with | some p=>k p.1 p.2 | none=>none
theorem eK {α:Type}{o:Option α}{k:α->R}{r:AV × Hp}(h:B1 o k=some r):∃ v,o=some v/\k v=some r:=by
 cases o with
 | none=>cases h
 | some v=>exact⟨v,rfl,h⟩
theorem uQ {o:Option (AV × Hp)}{k:AV->Hp->R}{r:AV × Hp}(h:B2 o k=some r):∃ v H,o=some (v,H)/\k v H=some r:=by
 cases o with
 | none=>cases h
 | some p=>exact⟨p.1,p.2,rfl,h⟩
def ld (x:AV)(H:Hp):Option AV:=match x with | .ptr i o=>cellAt H i o | _=>none
def az (n:Nat)(x:AV)(H:Hp):Option AV:=match x with | .ptr i o=>(aq H i o n).map .agg | _=>none
def BN (o:Option (Nat × Hp))(k:Nat->Hp->R):R:=match o with | some p=>k p.1 p.2 | none=>none
theorem Lk {o:Option (Nat × Hp)}{k:Nat->Hp->R}{r:AV × Hp}(h:BN o k=some r):∃ i H,o=some (i,H)/\k i H=some r:=by
 cases o with
 | none=>cases h
 | some p=>exact⟨p.1,p.2,rfl,h⟩
def xc (b:Bool)(x:R):R:=bif b then x else none
@[reducible] def Fn:Nat->Type
 | 0=>Hp->R
 | m+1=>AV->Fn m
def app:(m:Nat)->Fn m->List AV->Hp->R
 | 0,f,l,H=>match l with | []=>f H | _::_=>none
 | m+1,f,l,H=>match l with | []=>none | x::l=>app m (f x) l H
def abs:(m:Nat)->(List AV->Hp->R)->Fn m
 | 0,g=>fun H=>g [] H
 | m+1,g=>fun x=>abs m (fun l=>g (x::l))
theorem Hd:∀ (m:Nat) (g:List AV->Hp->R) (l:List AV) (H:Hp),l.length=m->app m (abs m g) l H=g l H
 | 0,g,[],H,_=>rfl
 | 0,g,_::_,H,h=>by simp at h
 | m+1,g,[],H,h=>by simp at h
 | m+1,g,x::l,H,h=>Hd m (fun l=>g (x::l)) l H (by simpa using h)
def JN (m:Nat)(f:Fn m->R)(k:Fn m):R:=f k
noncomputable section
open Classical in
def lim (f:Nat->R):R:=if h:∃ r L,f L=some r then some h.choose else none
theorem DH {f:Nat->R}{r:AV × Hp}(h:lim f=some r):∃ L,f L=some r:=by
 unfold lim at h
 split at h
 ·rename_i q
  rw[<-ac8 h]
  exact q.choose_spec
 ·cases h
theorem L7 {f:Nat->R}{r:AV × Hp}{L:Nat}(h:f L=some r)(hu:∀ L L' r r',f L=some r->f L'=some r'->r=r'):lim f=some r:=by
 have q:∃ r L,f L=some r:=⟨r,L,h⟩
 unfold lim
 rw[dif_pos q]
 obtain⟨L',Ss⟩:=q.choose_spec
 rw[hu L' L _ _ Ss h]
def iS (m:Nat)(B:Fn m->Fn m):Nat->Fn m
 | 0=>abs m (fun _ _=>none)
 | L+1=>B (iS m B L)
def LP (m:Nat)(B:Fn m->Fn m):Fn m:=abs m (fun l H=>lim (fun L=>app m (iS m B L) l H))
end
def CD (c:AV)(x y:R):R:=match c with | .bool q=>bif q then x else y | _=>none
def aw (lv:List Nat)(t:Tm):List AV:=lv.map fun d=>(t.get d).getD cq
theorem F9 (lv:List Nat)(t:Tm):(aw lv t).length=lv.length:=by simp[aw]
def Pm:List Nat->List AV->Tm->Tm
 | d::lv,v::l,t=>Pm lv l (t.put 34 d v)
 | _,_,t=>t
def dd (n:Nat)(lv:List Nat)(l:List AV):Tm:=Pm lv l (Tr.cJ .nil 0 (List.replicate n .dD))
inductive An where
 | nl
 | sq (j:Option (List Nat)) (a b:An)
 | cd (a b:An)
 | bl (j:Option (List Nat)) (a:An)
 | lp (lv:List Nat) (a:An)
 | pr (lv:List Nat) (p:Tm->Hp->Option Hp)
abbrev KN:=Tm->Hp->R
abbrev sr:=CF->Nat->Array Oper->Bool->Tm->Hp->KN->R
noncomputable section
variable (P:Program)(bo:sr)
def bN (cf:CF)(n:Nat):Code->An->KN->(Nat->KN)->KN->KN
 | .skip,_,kn,_,_=>kn
 | .label _,_,kn,_,_=>kn
 | .seq a b,an,kn,ke,kr=>match an with
  | .sq none x y=>bN cf n a x (bN cf n b y kn ke kr) ke kr
  | .sq (some lv) x y=>fun t H=>JN lv.length (fun k=>bN cf n a x (fun t H=>app lv.length k (aw lv t) H) ke kr t H) (abs lv.length fun l H=>bN cf n b y kn ke kr (dd n lv l) H)
  | .pr lv p=>fun t H=>B1 (p t H) fun H=>kn (dd n lv (aw lv t)) H
  | _=>fun _ _=>none
 | .cond c a b,an,kn,ke,kr=>match an with
  | .cd x y=>fun t H=>CD (ev P.globals.size t c) (bN cf n a x kn ke kr t H) (bN cf n b y kn ke kr t H)
  | _=>fun _ _=>none
 | .block i b,an,kn,ke,kr=>match an with
  | .bl none x=>bN cf n b x kn (fun j t H=>bif Nat.beq j i then kn t H else ke j t H) kr
  | .bl (some lv) x=>fun t H=>JN lv.length (fun k=>bN cf n b x (fun t H=>app lv.length k (aw lv t) H) (fun j t H=>bif Nat.beq j i then app lv.length k (aw lv t) H else ke j t H) kr t H) (abs lv.length fun l H=>kn (dd n lv l) H)
  | _=>fun _ _=>none
 | .loop b,an,kn,ke,kr=>match an with
  | .lp lv x=>fun t H=>app lv.length (LP lv.length (fun k=>abs lv.length fun l H=>bN cf n b x (fun t H=>app lv.length k (aw lv t) H) ke kr (dd n lv l) H)) (aw lv t) H
  | _=>fun _ _=>none
 | .exit i,_,_,ke,_=>ke i
 | .ret,_,_,_,kr=>kr
 | .region _ ops d,_,kn,_,_=>fun t H=>bo cf n ops d t H kn
 | _,_,_,_,_=>fun _ _=>none
end
def FN (P:Program)(bo:sr):Prop:=
 ∀ (cf:CF) (n:Nat) (ops:Array Oper) (d:Bool) (t:Tm) (H:Hp) (k:KN) (r:AV × Hp),bo cf n ops d t H k=some r->
  ∃ t' H',(bif d then Da P cf n ops t H else ub P cf n ops ops.toList t H)=some (t',H')/\k t' H'=some r
def ns (e:Em)(n:Nat)(t:Tm)(a:Act):Prop:=TR e n t a/\∀ d,n<=d->t.get d=none
theorem yK {α:Type}:∀ (l:List α) (t:Tr α) (n m:Nat),(t.cJ n l).get m=if n<=m/\m<n+l.length then l[m-n]? else t.get m
 | [],t,n,m=>by
  rw[if_neg (by simp only[acG];omega)];rfl
 | x::l,t,n,m=>by
  rw[Tr.cJ,yK l,Tr.put,Tr.fH]
  by_cases h1:m=n
  ·subst h1
   rw[if_neg (by omega),if_pos rfl,if_pos (by simp)];simp
  ·by_cases h2:n+1<=m/\m<n+1+l.length
   ·rw[if_pos h2,if_pos (by simp;omega)]
    have:m-n=(m-(n+1))+1:=by omega
    rw[this,adL]
   ·rw[if_neg h2,if_neg h1,if_neg (by simp;omega)]
theorem Ub:∀ (lv:List Nat) (l:List AV) (t:Tm) (d:Nat) (p:Option AV->Prop),(∀ (x:Nat) (v:AV),x∈lv->(∃ i:Nat,lv[i]? = some x/\l[i]? = some v)->x=d->p (some v))->p (t.get d)->p ((Pm lv l t).get d)
 | [],l,t,d,p,_,h=>by cases l<;>exact h
 | x::lv,[],t,d,p,_,h=>h
 | x::lv,v::l,t,d,p,hp,h=>by
  refine Ub lv l (t.put 34 x v) d p (fun y u hy ⟨i,h1,h2⟩ he=>hp y u (.tail _ hy) ⟨i+1,by simpa using h1,by simpa using h2⟩ he) ?_
  rw[Tr.put,Tr.fH]
  by_cases hd:d=x
  ·rw[if_pos hd]
   exact hp x v (.head _) ⟨0,rfl,rfl⟩ hd.symm
  ·rw[if_neg hd];exact h
theorem ns.zz {e:Em}{n:Nat}{t:Tm}{a:Act}(h:ns e n t a){lv:List Nat}(B0:∀ d∈lv,d<n):ns e n (dd n lv (aw lv t)) a:=by
 refine⟨⟨h.1.size,fun d => ?_⟩,fun d hd => ?_⟩
 ·unfold dd
  refine Ub lv (aw lv t) _ d (fun o=>VR e (o.getD cq) (a.tmps.getD d undef)) ?_ ?_
  ·rintro x v _ ⟨i,h1,h2⟩ rfl
   unfold aw at h2
   rw[aeI,h1] at h2
   cases h2
   exact h.1.val x
  ·rw[yK]
   split
   ·rename_i q
    rw[akc]
    simp only[agw,aeJ] at q
    rw[if_pos (by omega)]
    exact .dD _
   ·rename_i q
    simp only[agw,aeJ,ace,true_and,Nat.not_lt] at q
    rw[Tr.get_nil]
    have:=h.1.val d
    rw[h.2 d q] at this
    exact this
 ·unfold dd
  refine Ub lv (aw lv t) _ d (fun o=>o=none) ?_ ?_
  ·intro x v hx _ he
   have:=B0 x hx
   omega
  ·rw[yK,if_neg (by simp;omega),Tr.get_nil]
def An.ok (n:Nat):An->Bool
 | .nl=>true
 | .sq j a b=>(j.getD []).all (fun d=>Nat.blt d n)&&a.ok n&&b.ok n
 | .cd a b=>a.ok n&&b.ok n
 | .bl j a=>(j.getD []).all (fun d=>Nat.blt d n)&&a.ok n
 | .lp lv a=>lv.all (fun d=>Nat.blt d n)&&a.ok n
 | .pr lv _=>lv.all (fun d=>Nat.blt d n)
theorem VD {n:Nat}{lv:List Nat}(h:lv.all (fun d=>Nat.blt d n)=true):∀ d∈lv,d<n:=fun d hd=>by
 have:=aeO.1 h d hd
 rwa[ae2] at this
end K
end
set_option linter.unusedVariables false
set_option linter.unusedSimpArgs false
namespace K
variable {P:Program}{bo:sr}
theorem DL {n:Nat}{dst:Option Tmp}{v:AV}{t t':Tm}(h:gP n dst v t=some t')(ht:∀ d,n<=d->t.get d=none):∀ d,n<=d->t'.get d=none:=by
 intro d hd
 unfold gP at h
 split at h
 ·cases h;exact ht d hd
 ·rename_i x
  cases hb:(Nat.blt x n&&Nat.blt x 4294967296) with
  | false=>rw[hb] at h;cases h
  | true=>
   rw[hb] at h
   cases h
   simp only[aaT,ae2] at hb
   rw[Tr.put,Tr.fH,if_neg (by omega)]
   exact ht d hd
theorem Uz {cf:CF}{n:Nat}{ops:Array Oper}:∀ (l:List Oper) (t t':Tm) (H H':Hp),ub P cf n ops l t H=some (t',H')->(∀ d,n<=d->t.get d=none)->∀ d,n<=d->t'.get d=none
 | [],t,t',H,H',h,ht=>by cases h;exact ht
 | o::l,t,t',H,H',h,ht=>by
  unfold ub at h
  split at h
  ·split at h
   ·split at h
    ·rename_i t1 hp
     exact Uz l _ _ _ _ h (DL hp ht)
    ·cases h
   ·cases h
  ·split at h
   ·rename_i t1 hp
    exact Uz l _ _ _ _ h (DL hp ht)
   ·cases h
  ·cases h
theorem KH {cf:CF}{n:Nat}{ops:Array Oper}:∀ (l:List Oper) (i:Nat) (bs:List Nat) (tp te:Tm) (hb h:Hp) (s:List kH) (t':Tm) (H':Hp),lP P cf n ops i l bs tp te hb h=some (s,t',H')->(∀ d,n<=d->te.get d=none)->∀ d,n<=d->t'.get d=none
 | [],i,bs,tp,te,hb,h,s,t',H',hr,ht=>by unfold lP at hr;cases hr;exact ht
 | o::l,i,[],tp,te,hb,h,s,t',H',hr,ht=>by unfold lP at hr;cases hr
 | o::l,i,b::bs,tp,te,hb,h,s,t',H',hr,ht=>by
  unfold lP at hr
  split at hr
  ·split at hr
   ·split at hr
    ·split at hr
     ·rename_i h1 h2
      simp only[aam] at hr
      obtain⟨⟨s2,t2,H2⟩,h3,h4⟩:=hr
      cases h4
      exact KH l _ _ _ _ _ _ _ _ _ h3 (DL h2 ht)
     ·cases hr
    ·cases hr
   ·split at hr
    ·split at hr
     ·rename_i h1 h2
      simp only[aam] at hr
      obtain⟨⟨s2,t2,H2⟩,h3,h4⟩:=hr
      cases h4
      exact KH l _ _ _ _ _ _ _ _ _ h3 (DL h2 ht)
     ·cases hr
    ·cases hr
   ·split at hr
    ·split at hr
     ·rename_i h1 h2
      simp only[aam] at hr
      obtain⟨⟨s2,t2,H2⟩,h3,h4⟩:=hr
      cases h4
      exact KH l _ _ _ _ _ _ _ _ _ h3 (DL h2 ht)
     ·cases hr
    ·cases hr
  ·split at hr
   ·rename_i h1 h2
    simp only[aam] at hr
    obtain⟨⟨s2,t2,H2⟩,h3,h4⟩:=hr
    cases h4
    exact KH l _ _ _ _ _ _ _ _ _ h3 (DL h2 ht)
   ·cases hr
  ·cases hr
theorem atp {cf:CF}{n:Nat}{ops:Array Oper}{d:Bool}{t t':Tm}{H H':Hp}(h:(bif d then Da P cf n ops t H else ub P cf n ops ops.toList t H)=some (t',H'))(ht:∀ x,n<=x->t.get x=none):∀ x,n<=x->t'.get x=none:=by
 cases d with
 | false=>exact Uz _ _ _ _ _ h ht
 | true=>
  simp only[cond_true] at h
  unfold Da at h
  cases hr:yk ops with
  | false=>rw[hr] at h;cases h
  | true=>
   rw[hr] at h
   simp only[cond_true] at h
   split at h
   ·rename_i l t1 H1 lr
    cases hd:BG P l with
    | false=>rw[hd] at h;cases h
    | true=>
     rw[hd] at h
     cases h
     exact KH _ _ _ _ _ _ _ _ _ _ lr ht
   ·cases h
def AX (P:Program)(r:AV × Hp)(F:Nat->Prop)(W:World)(n:Nat)(e:Em)(ds:List Deferred)(kn:KN)(ex:Exit)(Q:Exit->Act->World->Prop):Prop:=
 ∀ e' a' w' t' H',e.le e'->RH P.globals.size F W e' H' w'->ns e' n t' a'->a'.defers=ds->kn t' H'=some r->Q ex a' w'
theorem AX.mono {r:AV × Hp}{F:Nat->Prop}{W:World}{n:Nat}{e e2:Em}{ds:List Deferred}{kn:KN}{ex:Exit}{Q:Exit->Act->World->Prop}(h:AX P r F W n e ds kn ex Q)(he:e.le e2):AX P r F W n e2 ds kn ex Q:=
 fun e' a' w' t' H' h1=>h e' a' w' t' H' (Em.le_trans he h1)
theorem pR {m n:Nat}{lv:List Nat}{k:List AV->Hp->R}{t:Tm}{H:Hp}(hm:lv.length=m):app m (abs m k) (aw lv t) H=k (aw lv t) H:=Hd m k _ H (by rw[F9];exact hm)
def arj (P:Program)(n:Nat)(c:Code)(lv:List Nat)(p:Tm->Hp->Option Hp):Prop:=
 ∀ t H H2,p t H=some H2->∀ (F:Nat->Prop) (W:World) (e:Em) (a:Act) (w:World) (Q:Exit->Act->World->Prop),RH P.globals.size F W e H w->ns e n t a->
  (∀ e' a' w',e.le e'->RH P.globals.size F W e' H2 w'->ns e' n (dd n lv (aw lv t)) a'->a'.defers=a.defers->Q .normal a' w')->c.wp P Q a w
def oD (P:Program)(n:Nat):Code->An->Prop
 | .seq a b,an=>match an with | .sq _ x y=>oD P n a x/\oD P n b y | .pr lv p=>arj P n (.seq a b) lv p | _=>True
 | .cond _ a b,an=>match an with | .cd x y=>oD P n a x/\oD P n b y | _=>True
 | .block _ b,an=>match an with | .bl _ x=>oD P n b x | _=>True
 | .loop b,an=>match an with | .lp _ x=>oD P n b x | _=>True
 | _,_=>True
def An.plain:An->Bool
 | .nl=>true
 | .sq _ a b=>a.plain&&b.plain
 | .cd a b=>a.plain&&b.plain
 | .bl _ a=>a.plain
 | .lp _ a=>a.plain
 | .pr _ _=>false
theorem oD.plain (P:Program)(n:Nat):∀ (c:Code) (an:An),an.plain=true->oD P n c an:=by
 intro c
 induction c with
 | seq a b ia ib=>
  intro an h
  unfold oD
  cases an with
  | sq j x y=>simp only[An.plain,aaT] at h;exact⟨ia x h.1,ib y h.2⟩
  | pr lv p=>cases h
  | _=>trivial
 | cond q a b ia ib=>
  intro an h
  unfold oD
  cases an with
  | cd x y=>simp only[An.plain,aaT] at h;exact⟨ia x h.1,ib y h.2⟩
  | _=>trivial
 | block i b ib=>
  intro an h
  unfold oD
  cases an with
  | bl j x=>exact ib x h
  | _=>trivial
 | loop b ib=>
  intro an h
  unfold oD
  cases an with
  | lp lv x=>exact ib x h
  | _=>trivial
 | _=>intro an h;unfold oD;trivial
def xA (P:Program)(an:Nat->An):Prop:=∀ bg fn b,P.funcs[bg]? = some fn->fn.body=some b->oD P fn.ntmps b (an bg)
theorem xA.plain {P:Program}{an:Nat->An}(h:∀ g,(an g).plain=true):xA P an:=fun bg fn b _ _=>oD.plain P fn.ntmps b (an bg) (h bg)
def Ob:List (Nat × An)->Nat->An
 | [],_ => .nl
 | p::r,g=>bif Nat.beq g p.1 then p.2 else Ob r g
theorem Z8 {P:Program}:∀ {l:List (Nat × An)},(∀ p∈l,p.2.plain=true\/∀ fn b,P.funcs[p.1]? = some fn->fn.body=some b->oD P fn.ntmps b p.2)->xA P (Ob l)
 | [],h=>xA.plain fun _=>rfl
 | p::r,h=>by
  intro bg fn b h1 h2
  show oD P fn.ntmps b (bif Nat.beq bg p.1 then p.2 else Ob r bg)
  cases hb:Nat.beq bg p.1 with
  | true=>
   obtain rfl:=abI hb
   rcases h p (.head _) with q | q
   ·exact oD.plain P _ _ _ q
   ·exact q fn b h1 h2
  | false=>exact Z8 (fun q hq=>h q (.tail _ hq)) bg fn b h1 h2
theorem as3 (hm:P.follows .mixedOrders=true)(gG:FN P bo){cf:CF}(gK:vO P cf){n:Nat}:∀ (c:Code) (an:An) (kn:KN) (ke:Nat->KN) (kr:KN) (t:Tm) (H:Hp) (r:AV × Hp),an.ok n=true->oD P n c an->bN P bo cf n c an kn ke kr t H=some r->
  ∀ (F:Nat->Prop) (W:World) (e:Em) (a:Act) (w:World) (Q:Exit->Act->World->Prop),RH P.globals.size F W e H w->ns e n t a->
   AX P r F W n e a.defers kn .normal Q->(∀ i,AX P r F W n e a.defers (ke i) (.exit i) Q)->AX P r F W n e a.defers kr .ret Q->c.wp P Q a w:=by
 intro c
 induction c with
 | skip=>
  intro an kn ke kr t H r ha om hc F W e a w Q hR hT gg mn lT
  unfold bN at hc
  exact wp_skip (gg e a w t H e.le_refl hR hT rfl hc)
 | label l=>
  intro an kn ke kr t H r ha om hc F W e a w Q hR hT gg mn lT
  unfold bN at hc
  exact wp_label (gg e a w t H e.le_refl hR hT rfl hc)
 | seq c1 c2 i1 i2=>
  intro an kn ke kr t H r ha om hc F W e a w Q hR hT gg mn lT
  unfold bN at hc
  split at hc
  ·rename_i x y
   refine wp_seq ?_
   simp only[An.ok,aaT] at ha
   refine i1 x _ _ _ t H r ha.1.2 om.1 hc F W e a w _ hR hT ?_ ?_ ?_
   ·intro e' a' w' t' H' he bE cU hd hk
    refine i2 y _ _ _ t' H' r ha.2 om.2 hk F W e' a' w' Q bE cU ?_ ?_ ?_
    ·rw[hd];exact gg.mono he
    ·intro i;rw[hd];exact (mn i).mono he
    ·rw[hd];exact lT.mono he
   ·intro i e' a' w' t' H' he bE cU hd hk
    exact mn i e' a' w' t' H' he bE cU hd hk
   ·intro e' a' w' t' H' he bE cU hd hk
    exact lT e' a' w' t' H' he bE cU hd hk
  ·rename_i lv x y
   refine wp_seq ?_
   simp only[An.ok,aaT,ahb] at ha
   have B0:=VD ha.1.1
   unfold JN at hc
   refine i1 x _ _ _ t H r ha.1.2 om.1 hc F W e a w _ hR hT ?_ ?_ ?_
   ·intro e' a' w' t' H' he bE cU hd hk
    replace hk:=(pR (n:=n) rfl).symm.trans hk
    refine i2 y _ _ _ _ H' r ha.2 om.2 hk F W e' a' w' Q bE (cU.zz B0) ?_ ?_ ?_
    ·rw[hd];exact gg.mono he
    ·intro i;rw[hd];exact (mn i).mono he
    ·rw[hd];exact lT.mono he
   ·intro i e' a' w' t' H' he bE cU hd hk
    exact mn i e' a' w' t' H' he bE cU hd hk
   ·intro e' a' w' t' H' he bE cU hd hk
    exact lT e' a' w' t' H' he bE cU hd hk
  ·rename_i lv p
   obtain⟨H2,h1,h2⟩:=eK hc
   exact om t H H2 h1 F W e a w Q hR hT fun e' a' w' he bE cU hd=>gg e' a' w' _ H2 he bE cU hd h2
  ·cases hc
 | cond x c1 c2 i1 i2=>
  intro an kn ke kr t H r ha om hc F W e a w Q hR hT gg mn lT
  unfold bN at hc
  split at hc
  ·rename_i y z
   simp only[An.ok,aaT] at ha
   unfold CD at hc
   split at hc
   ·rename_i b hb
    have hv:=VR.ev hR hT.1 x
    rw[hb] at hv
    refine wp_cond hv.xj ?_
    cases b with
    | true=>exact i1 y _ _ _ t H r ha.1 om.1 hc F W e a w Q hR hT gg mn lT
    | false=>exact i2 z _ _ _ t H r ha.2 om.2 hc F W e a w Q hR hT gg mn lT
   ·cases hc
  ·cases hc
 | block i b ib=>
  intro an kn ke kr t H r ha om hc F W e a w Q hR hT gg mn lT
  unfold bN at hc
  refine wp_block ?_
  have inb:∀ (j:Nat) (e':Em) (a':Act) (w':World) (t':Tm) (H':Hp) (q:KN),e.le e'->RH P.globals.size F W e' H' w'->ns e' n t' a'->a'.defers=a.defers->
    (∀ e' a' w' t' H',e.le e'->RH P.globals.size F W e' H' w'->ns e' n t' a'->a'.defers=a.defers->q t' H'=some r->Q .normal a' w')->
    (bif Nat.beq j i then q t' H' else ke j t' H')=some r->Exit.inBlock i Q (.exit j) a' w':=by
   intro j e' a' w' t' H' q he bE cU hd hq hk
   show (if j=i then Q .normal a' w' else Q (.exit j) a' w')
   cases hj:Nat.beq j i with
   | true=>
    rw[hj] at hk
    rw[if_pos (abI hj)]
    exact hq e' a' w' t' H' he bE cU hd hk
   | false=>
    rw[hj] at hk
    rw[if_neg (fun q=>by rw[q,aie] at hj;cases hj)]
    exact mn j e' a' w' t' H' he bE cU hd hk
  split at hc
  ·rename_i x
   simp only[An.ok,aaT] at ha
   refine ib x _ _ _ t H r ha.2 om hc F W e a w _ hR hT ?_ ?_ ?_
   ·intro e' a' w' t' H' he bE cU hd hk
    exact gg e' a' w' t' H' he bE cU hd hk
   ·intro j e' a' w' t' H' he bE cU hd hk
    exact inb j e' a' w' t' H' kn he bE cU hd gg hk
   ·intro e' a' w' t' H' he bE cU hd hk
    exact lT e' a' w' t' H' he bE cU hd hk
  ·rename_i lv x
   simp only[An.ok,aaT,ahb] at ha
   have B0:=VD ha.1
   unfold JN at hc
   have hj:∀ e' a' w' t' H',e.le e'->RH P.globals.size F W e' H' w'->ns e' n t' a'->a'.defers=a.defers->app lv.length (abs lv.length fun l H=>kn (dd n lv l) H) (aw lv t') H'=some r->Q .normal a' w':=by
    intro e' a' w' t' H' he bE cU hd hk
    replace hk:=(pR (n:=n) rfl).symm.trans hk
    exact gg e' a' w' _ H' he bE (cU.zz B0) hd hk
   refine ib x _ _ _ t H r ha.2 om hc F W e a w _ hR hT ?_ ?_ ?_
   ·intro e' a' w' t' H' he bE cU hd hk
    exact hj e' a' w' t' H' he bE cU hd hk
   ·intro j e' a' w' t' H' he bE cU hd hk
    exact inb j e' a' w' t' H' (fun t H=>app lv.length (abs lv.length fun l H=>kn (dd n lv l) H) (aw lv t) H) he bE cU hd hj hk
   ·intro e' a' w' t' H' he bE cU hd hk
    exact lT e' a' w' t' H' he bE cU hd hk
  ·cases hc
 | loop b ib=>
  intro an kn ke kr t H r ha om hc F W e a w Q hR hT gg mn lT
  unfold bN at hc
  split at hc
  ·rename_i lv x
   simp only[An.ok,aaT] at ha
   have B0:=VD ha.1
   unfold LP at hc
   replace hc:=(pR (n:=n) rfl).symm.trans hc
   obtain⟨L,hL⟩:=DH hc
   refine WL ?_
   have key:∀ (L:Nat) (e:Em) (a:Act) (w:World) (t:Tm) (H:Hp),app lv.length (iS lv.length (fun k=>abs lv.length fun l H=>bN P bo cf n b x (fun t H=>app lv.length k (aw lv t) H) ke kr (dd n lv l) H) L) (aw lv t) H=some r->
     RH P.globals.size F W e H w->ns e n t a->(∀ i,AX P r F W n e a.defers (ke i) (.exit i) Q)->AX P r F W n e a.defers kr .ret Q->Cp P b Q a w:=by
    intro L
    induction L with
    | zero=>
     intro e a w t H hq _ _ _ _
     replace hq:=(pR (m:=lv.length) (n:=n) (k:=fun _ _=>none) rfl).symm.trans hq
     cases hq
    | succ L ih=>
     intro e a w t H hq hR hT mn lT
     replace hq:=(pR (m:=lv.length) (n:=n) (k:=fun l H=>bN P bo cf n b x (fun t H=>app lv.length (iS lv.length (fun k=>abs lv.length fun l H=>bN P bo cf n b x (fun t H=>app lv.length k (aw lv t) H) ke kr (dd n lv l) H) L) (aw lv t) H) ke kr (dd n lv l) H) rfl).symm.trans hq
     refine ad3 ?_
     refine ib x _ _ _ _ H r ha.2 om hq F W e a w _ hR (hT.zz B0) ?_ ?_ ?_
     ·intro e' a' w' t' H' he bE cU hd hk
      refine ih e' a' w' t' H' hk bE cU ?_ ?_
      ·intro i;rw[hd];exact (mn i).mono he
      ·rw[hd];exact lT.mono he
     ·intro i e' a' w' t' H' he bE cU hd hk
      exact mn i e' a' w' t' H' he bE cU hd hk
     ·intro e' a' w' t' H' he bE cU hd hk
      exact lT e' a' w' t' H' he bE cU hd hk
   exact key L e a w t H hL hR hT mn lT
  ·cases hc
 | exit i=>
  intro an kn ke kr t H r ha om hc F W e a w Q hR hT gg mn lT
  unfold bN at hc
  exact wp_exit (mn i e a w t H e.le_refl hR hT rfl hc)
 | ret=>
  intro an kn ke kr t H r ha om hc F W e a w Q hR hT gg mn lT
  unfold bN at hc
  exact wp_ret (lT e a w t H e.le_refl hR hT rfl hc)
 | region id ops d=>
  intro an kn ke kr t H r ha om hc F W e a w Q hR hT gg mn lT
  unfold bN at hc
  obtain⟨t1,H1,h1,h2⟩:=gG cf n ops d t H kn r hc
  have jJ:=atp h1 hT.2
  have fin:∀ e' a' w',e.le e'->RH P.globals.size F W e' H1 w'->TR e' n t1 a'->a'.defers=a.defers->Q .normal a' w':=fun e' a' w' he bE cU hd=>gg e' a' w' t1 H1 he bE ⟨cU,jJ⟩ hd h2
  cases d with
  | true=>exact Xc hm gK h1 hR hT.1 fin
  | false=>
   refine wp_region ?_
   have:=aeA (Q:=Q) gK ops.toList 0 t H e a w (by simp) h1 hR hT.1 fin
   rw[List.range_eq_range']
   simpa using this
 | _=>
  intro an kn ke kr t H r ha om hc
  unfold bN at hc
  cases hc
def Ev (p:Nat->Prop):Prop:=∃ k0,∀ k,k0<=k->p k
theorem Ev.of {p:Nat->Prop}(h:∀ k,p k):Ev p:=⟨0,fun k _=>h k⟩
def tJ (f:Nat->CF)(g:CF):Prop:=∀ x l H r,g x l H=some r->Ev fun k=>f k x l H=some r
def xW (f:Nat->KN)(g:KN):Prop:=∀ t H r,g t H=some r->Ev fun k=>f k t H=some r
def xU (bo:sr):Prop:=∀ (du:Nat->CF) (cf:CF) (lJ:Nat->KN) (kn:KN) (n:Nat) (ops:Array Oper) (d:Bool) (t:Tm) (H:Hp) (r:AV × Hp),tJ du cf->xW lJ kn->bo cf n ops d t H kn=some r->Ev fun k=>bo (du k) n ops d t H (lJ k)=some r
theorem Nl (gG:xU bo){n:Nat}:∀ (c:Code) (an:An) (du:Nat->CF) (cf:CF) (lJ:Nat->KN) (kn:KN) (mR:Nat->Nat->KN) (ke:Nat->KN) (lY:Nat->KN) (kr:KN) (t:Tm) (H:Hp) (r:AV × Hp),
  tJ du cf->xW lJ kn->(∀ i,xW (fun k=>mR k i) (ke i))->xW lY kr->bN P bo cf n c an kn ke kr t H=some r->Ev fun k=>bN P bo (du k) n c an (lJ k) (mR k) (lY k) t H=some r:=by
 intro c
 induction c with
 | skip=>intro an du cf lJ kn mR ke lY kr t H r h1 h2 h3 h4 hc;unfold bN at hc ⊢;exact h2 t H r hc
 | label l=>intro an du cf lJ kn mR ke lY kr t H r h1 h2 h3 h4 hc;unfold bN at hc ⊢;exact h2 t H r hc
 | seq c1 c2 i1 i2=>
  intro an du cf lJ kn mR ke lY kr t H r h1 h2 h3 h4 hc
  unfold bN at hc ⊢
  cases an with
  | sq j x y=>
   cases j with
   | none=>exact i1 x du cf _ _ mR ke lY kr t H r h1 (fun t H r h=>i2 y du cf lJ kn mR ke lY kr t H r h1 h2 h3 h4 h) h3 h4 hc
   | some lv=>
    simp only[JN] at hc ⊢
    refine i1 x du cf _ _ mR ke lY kr t H r h1 (fun t H r h => ?_) h3 h4 hc
    replace h:=(pR (n:=n) rfl).symm.trans h
    obtain⟨k0,hk⟩:=i2 y du cf lJ kn mR ke lY kr _ H r h1 h2 h3 h4 h
    exact⟨k0,fun k hle=>(pR (n:=n) rfl).trans (hk k hle)⟩
  | pr lv p=>
   simp only at hc ⊢
   obtain⟨H2,q1,q2⟩:=eK hc
   obtain⟨k0,hk⟩:=h2 _ H2 r q2
   exact⟨k0,fun k hle=>by rw[q1];exact hk k hle⟩
  | _=>cases hc
 | cond x c1 c2 i1 i2=>
  intro an du cf lJ kn mR ke lY kr t H r h1 h2 h3 h4 hc
  unfold bN at hc ⊢
  cases an with
  | cd y z=>
   simp only[CD] at hc ⊢
   cases hv:ev P.globals.size t x<;>rw[hv] at hc<;>simp only at hc ⊢ <;> try (cases hc;done)
   rename_i q
   cases q with
   | true=>exact i1 y du cf lJ kn mR ke lY kr t H r h1 h2 h3 h4 hc
   | false=>exact i2 z du cf lJ kn mR ke lY kr t H r h1 h2 h3 h4 hc
  | _=>cases hc
 | block i b ib=>
  intro an du cf lJ kn mR ke lY kr t H r h1 h2 h3 h4 hc
  unfold bN at hc ⊢
  cases an with
  | bl j x=>
   cases j with
   | none=>
    refine ib x du cf lJ kn _ _ lY kr t H r h1 h2 (fun q t H r h => ?_) h4 hc
    cases hq:Nat.beq q i with
    | true=>rw[hq] at h;simp only[hq,cond_true];exact h2 t H r h
    | false=>rw[hq] at h;simp only[hq,cond_false];exact h3 q t H r h
   | some lv=>
    simp only[JN] at hc ⊢
    have hj:xW (fun k=>fun t H=>app lv.length (abs lv.length fun l H=>lJ k (dd n lv l) H) (aw lv t) H) (fun t H=>app lv.length (abs lv.length fun l H=>kn (dd n lv l) H) (aw lv t) H):=by
     intro t H r h
     replace h:=(pR (n:=n) rfl).symm.trans h
     obtain⟨k0,hk⟩:=h2 _ H r h
     exact⟨k0,fun k hle=>(pR (n:=n) rfl).trans (hk k hle)⟩
    refine ib x du cf _ _ _ _ lY kr t H r h1 hj (fun q t H r h => ?_) h4 hc
    cases hq:Nat.beq q i with
    | true=>rw[hq] at h;simp only[hq,cond_true];exact hj t H r h
    | false=>rw[hq] at h;simp only[hq,cond_false];exact h3 q t H r h
  | _=>cases hc
 | loop b ib=>
  intro an du cf lJ kn mR ke lY kr t H r h1 h2 h3 h4 hc
  unfold bN at hc ⊢
  cases an with
  | lp lv x=>
   simp only at hc ⊢
   have const:∀ (f:CF),tJ (fun _=>f) f:=fun f x l H r h=>Ev.of fun _=>h
   have qT:∀ (f:KN),xW (fun _=>f) f:=fun f t H r h=>Ev.of fun _=>h
   have mono:∀ (f:CF) (ke:Nat->KN) (kr:KN) (L L':Nat) (t:Tm) (H:Hp) (r:AV × Hp),L<=L'->app lv.length (iS lv.length (fun k=>abs lv.length fun l H=>bN P bo f n b x (fun t H=>app lv.length k (aw lv t) H) ke kr (dd n lv l) H) L) (aw lv t) H=some r->
     app lv.length (iS lv.length (fun k=>abs lv.length fun l H=>bN P bo f n b x (fun t H=>app lv.length k (aw lv t) H) ke kr (dd n lv l) H) L') (aw lv t) H=some r:=by
    intro f ke kr L
    induction L with
    | zero=>
     intro L' t H r _ h
     rw[show iS lv.length _ 0=abs lv.length (fun _ _=>none) from rfl,pR (n:=n) rfl] at h
     cases h
    | succ L ih=>
     intro L' t H r hle h
     obtain⟨L2,rfl⟩:∃ L2,L'=L2+1:=⟨L'-1,by omega⟩
     rw[show iS lv.length _ (L+1)=abs lv.length _ from rfl,pR (n:=n) rfl] at h
     rw[show iS lv.length _ (L2+1)=abs lv.length _ from rfl,pR (n:=n) rfl]
     obtain⟨k0,hk⟩:=ib x (fun _=>f) f (fun _=>fun t H=>app lv.length (iS lv.length _ L2) (aw lv t) H) (fun t H=>app lv.length (iS lv.length _ L) (aw lv t) H) (fun _=>ke) ke (fun _=>kr) kr _ H r (const f) (fun t H r h=>Ev.of fun _=>ih L2 t H r (by omega) h) (fun i=>qT (ke i)) (qT kr) h
     exact hk k0 (aaU _)
   have uniq:∀ (f:CF) (ke:Nat->KN) (kr:KN) (t:Tm) (H:Hp) (L L':Nat) (r r':AV × Hp),app lv.length (iS lv.length (fun k=>abs lv.length fun l H=>bN P bo f n b x (fun t H=>app lv.length k (aw lv t) H) ke kr (dd n lv l) H) L) (aw lv t) H=some r->
     app lv.length (iS lv.length (fun k=>abs lv.length fun l H=>bN P bo f n b x (fun t H=>app lv.length k (aw lv t) H) ke kr (dd n lv l) H) L') (aw lv t) H=some r'->r=r':=by
    intro f ke kr t H L L' r r' h h'
    rcases Nat.le_total L L' with q | q
    ·have:=mono f ke kr L L' t H r q h
     rw[this] at h';exact ac8 h'
    ·have:=mono f ke kr L' L t H r' q h'
     rw[h] at this;exact ac8 this
   have alj:∀ (f:CF) (ke:Nat->KN) (kr:KN) (t:Tm) (H:Hp) (L:Nat) (r:AV × Hp),app lv.length (iS lv.length (fun k=>abs lv.length fun l H=>bN P bo f n b x (fun t H=>app lv.length k (aw lv t) H) ke kr (dd n lv l) H) L) (aw lv t) H=some r->
     app lv.length (LP lv.length (fun k=>abs lv.length fun l H=>bN P bo f n b x (fun t H=>app lv.length k (aw lv t) H) ke kr (dd n lv l) H)) (aw lv t) H=some r:=by
    intro f ke kr t H L r h
    unfold LP
    rw[pR (n:=n) rfl]
    exact L7 h (uniq f ke kr t H)
   have Wr:∀ (f:CF) (ke:Nat->KN) (kr:KN) (t:Tm) (H:Hp) (r:AV × Hp),app lv.length (LP lv.length (fun k=>abs lv.length fun l H=>bN P bo f n b x (fun t H=>app lv.length k (aw lv t) H) ke kr (dd n lv l) H)) (aw lv t) H=some r->
     ∃ L,app lv.length (iS lv.length (fun k=>abs lv.length fun l H=>bN P bo f n b x (fun t H=>app lv.length k (aw lv t) H) ke kr (dd n lv l) H) L) (aw lv t) H=some r:=by
    intro f ke kr t H r h
    unfold LP at h
    replace h:=(pR (n:=n) rfl).symm.trans h
    exact DH h
   have roll:∀ (f:CF) (ke:Nat->KN) (kr:KN) (t:Tm) (H:Hp) (r:AV × Hp),bN P bo f n b x (fun t H=>app lv.length (LP lv.length (fun k=>abs lv.length fun l H=>bN P bo f n b x (fun t H=>app lv.length k (aw lv t) H) ke kr (dd n lv l) H)) (aw lv t) H) ke kr (dd n lv (aw lv t)) H=some r->
     app lv.length (LP lv.length (fun k=>abs lv.length fun l H=>bN P bo f n b x (fun t H=>app lv.length k (aw lv t) H) ke kr (dd n lv l) H)) (aw lv t) H=some r:=by
    intro f ke kr t H r h
    obtain⟨k0,hk⟩:=ib x (fun _=>f) f (fun L=>fun t H=>app lv.length (iS lv.length (fun k=>abs lv.length fun l H=>bN P bo f n b x (fun t H=>app lv.length k (aw lv t) H) ke kr (dd n lv l) H) L) (aw lv t) H) _ (fun _=>ke) ke (fun _=>kr) kr _ H r (const f)
     (fun t H r h=>by
      obtain⟨L,hL⟩:=Wr f ke kr t H r h
      exact⟨L,fun k hle=>mono f ke kr L k t H r hle hL⟩) (fun i=>qT (ke i)) (qT kr) h
    refine alj f ke kr t H (k0+1) r ?_
    rw[show iS lv.length _ (k0+1)=abs lv.length _ from rfl,pR (n:=n) rfl]
    exact hk k0 (aaU _)
   obtain⟨L,hL⟩:=Wr cf ke kr t H r hc
   clear hc
   induction L generalizing t H r with
   | zero=>
    rw[show iS lv.length _ 0=abs lv.length (fun _ _=>none) from rfl,pR (n:=n) rfl] at hL
    cases hL
   | succ L ih=>
    rw[show iS lv.length _ (L+1)=abs lv.length _ from rfl,pR (n:=n) rfl] at hL
    obtain⟨k0,hk⟩:=ib x du cf (fun k=>fun t H=>app lv.length (LP lv.length (fun q=>abs lv.length fun l H=>bN P bo (du k) n b x (fun t H=>app lv.length q (aw lv t) H) (mR k) (lY k) (dd n lv l) H)) (aw lv t) H) _ mR ke lY kr _ H r h1 (fun t H r h=>ih t H r h) h3 h4 hL
    exact⟨k0,fun k hle=>roll (du k) (mR k) (lY k) t H r (hk k hle)⟩
  | _=>cases hc
 | exit i=>intro an du cf lJ kn mR ke lY kr t H r h1 h2 h3 h4 hc;unfold bN at hc ⊢;exact h3 i t H r hc
 | ret=>intro an du cf lJ kn mR ke lY kr t H r h1 h2 h3 h4 hc;unfold bN at hc ⊢;exact h4 t H r hc
 | region id ops d=>intro an du cf lJ kn mR ke lY kr t H r h1 h2 h3 h4 hc;unfold bN at hc ⊢;exact gG du cf lJ kn n ops d t H r h1 h2 hc
 | _=>
  intro an du cf lJ kn mR ke lY kr t H r h1 h2 h3 h4 hc
  unfold bN at hc
  cases hc
end K
end
set_option linter.unusedVariables false
set_option linter.unusedSimpArgs false
namespace K
section
variable {P:Program}{bo:sr}
theorem ap7 (gG:xU bo)(f:CF)(n:Nat)(b:Code)(x:An)(lv:List Nat)(ke:Nat->KN)(kr:KN)(l:List AV)(hl:l.length=lv.length)(H:Hp) :
  app lv.length (LP lv.length (fun k=>abs lv.length fun l H=>bN P bo f n b x (fun t H=>app lv.length k (aw lv t) H) ke kr (dd n lv l) H)) l H=
   bN P bo f n b x (fun t H=>app lv.length (LP lv.length (fun k=>abs lv.length fun l H=>bN P bo f n b x (fun t H=>app lv.length k (aw lv t) H) ke kr (dd n lv l) H)) (aw lv t) H) ke kr (dd n lv l) H:=by
 have const:tJ (fun _=>f) f:=fun x l H r h=>Ev.of fun _=>h
 have qT:∀ (f:KN),xW (fun _=>f) f:=fun f t H r h=>Ev.of fun _=>h
 have KX:∀ (L:Nat) (l:List AV) (H:Hp),l.length=lv.length->app lv.length (iS lv.length (fun k=>abs lv.length fun l H=>bN P bo f n b x (fun t H=>app lv.length k (aw lv t) H) ke kr (dd n lv l) H) (L+1)) l H=
   bN P bo f n b x (fun t H=>app lv.length (iS lv.length (fun k=>abs lv.length fun l H=>bN P bo f n b x (fun t H=>app lv.length k (aw lv t) H) ke kr (dd n lv l) H) L) (aw lv t) H) ke kr (dd n lv l) H:=fun L l H hl=>by
  rw[show iS lv.length _ (L+1)=abs lv.length _ from rfl,Hd _ _ _ _ hl]
 have zero:∀ (l:List AV) (H:Hp),l.length=lv.length->app lv.length (iS lv.length (fun k=>abs lv.length fun l H=>bN P bo f n b x (fun t H=>app lv.length k (aw lv t) H) ke kr (dd n lv l) H) 0) l H=none:=fun l H hl=>by
  rw[show iS lv.length _ 0=abs lv.length (fun _ _=>none) from rfl,Hd _ _ _ _ hl]
 have mono:∀ (L L':Nat) (l:List AV) (H:Hp) (r:AV × Hp),l.length=lv.length->L<=L'->app lv.length (iS lv.length (fun k=>abs lv.length fun l H=>bN P bo f n b x (fun t H=>app lv.length k (aw lv t) H) ke kr (dd n lv l) H) L) l H=some r->
   app lv.length (iS lv.length (fun k=>abs lv.length fun l H=>bN P bo f n b x (fun t H=>app lv.length k (aw lv t) H) ke kr (dd n lv l) H) L') l H=some r:=by
  intro L
  induction L with
  | zero=>intro L' l H r hl _ h;rw[zero l H hl] at h;cases h
  | succ L ih=>
   intro L' l H r hl hle h
   obtain⟨L2,rfl⟩:∃ L2,L'=L2+1:=⟨L'-1,by omega⟩
   rw[KX L l H hl] at h
   rw[KX L2 l H hl]
   obtain⟨k0,hk⟩:=Nl gG b x (fun _=>f) f (fun _=>_) _ (fun _=>ke) ke (fun _=>kr) kr _ H r const (fun t H r h=>Ev.of fun _=>ih L2 (aw lv t) H r (F9 lv t) (by omega) h) (fun i=>qT (ke i)) (qT kr) h
   exact hk k0 (aaU _)
 have uniq:∀ (l:List AV) (H:Hp),l.length=lv.length->∀ (L L':Nat) (r r':AV × Hp),app lv.length (iS lv.length (fun k=>abs lv.length fun l H=>bN P bo f n b x (fun t H=>app lv.length k (aw lv t) H) ke kr (dd n lv l) H) L) l H=some r->
   app lv.length (iS lv.length (fun k=>abs lv.length fun l H=>bN P bo f n b x (fun t H=>app lv.length k (aw lv t) H) ke kr (dd n lv l) H) L') l H=some r'->r=r':=by
  intro l H hl L L' r r' h h'
  rcases Nat.le_total L L' with q | q
  ·have:=mono L L' l H r hl q h
   rw[this] at h';exact ac8 h'
  ·have:=mono L' L l H r' hl q h'
   rw[h] at this;exact ac8 this
 have Mb:∀ (l:List AV) (H:Hp),l.length=lv.length->app lv.length (LP lv.length (fun k=>abs lv.length fun l H=>bN P bo f n b x (fun t H=>app lv.length k (aw lv t) H) ke kr (dd n lv l) H)) l H=lim (fun L=>app lv.length (iS lv.length (fun k=>abs lv.length fun l H=>bN P bo f n b x (fun t H=>app lv.length k (aw lv t) H) ke kr (dd n lv l) H) L) l H):=fun l H hl=>by
  unfold LP
  rw[Hd _ _ _ _ hl]
 have fwd:∀ (r:AV × Hp),app lv.length (LP lv.length (fun k=>abs lv.length fun l H=>bN P bo f n b x (fun t H=>app lv.length k (aw lv t) H) ke kr (dd n lv l) H)) l H=some r->
   bN P bo f n b x (fun t H=>app lv.length (LP lv.length (fun k=>abs lv.length fun l H=>bN P bo f n b x (fun t H=>app lv.length k (aw lv t) H) ke kr (dd n lv l) H)) (aw lv t) H) ke kr (dd n lv l) H=some r:=by
  intro r h
  rw[Mb l H hl] at h
  obtain⟨L,hL⟩:=DH h
  cases L with
  | zero=>rw[zero l H hl] at hL;cases hL
  | succ L=>
   rw[KX L l H hl] at hL
   obtain⟨k0,hk⟩:=Nl gG b x (fun _=>f) f (fun _=>fun t H=>app lv.length (LP lv.length (fun k=>abs lv.length fun l H=>bN P bo f n b x (fun t H=>app lv.length k (aw lv t) H) ke kr (dd n lv l) H)) (aw lv t) H) _ (fun _=>ke) ke (fun _=>kr) kr _ H r const
    (fun t H r h=>Ev.of fun _=>(Mb _ H (F9 lv t)).trans (L7 h (uniq _ H (F9 lv t)))) (fun i=>qT (ke i)) (qT kr) hL
   exact hk k0 (aaU _)
 have bwd:∀ (r:AV × Hp),bN P bo f n b x (fun t H=>app lv.length (LP lv.length (fun k=>abs lv.length fun l H=>bN P bo f n b x (fun t H=>app lv.length k (aw lv t) H) ke kr (dd n lv l) H)) (aw lv t) H) ke kr (dd n lv l) H=some r->
   app lv.length (LP lv.length (fun k=>abs lv.length fun l H=>bN P bo f n b x (fun t H=>app lv.length k (aw lv t) H) ke kr (dd n lv l) H)) l H=some r:=by
  intro r h
  obtain⟨k0,hk⟩:=Nl gG b x (fun _=>f) f (fun L=>fun t H=>app lv.length (iS lv.length (fun k=>abs lv.length fun l H=>bN P bo f n b x (fun t H=>app lv.length k (aw lv t) H) ke kr (dd n lv l) H) L) (aw lv t) H) _ (fun _=>ke) ke (fun _=>kr) kr _ H r const
   (fun t H r h=>by
    replace h:=(Mb _ H (F9 lv t)).symm.trans h
    obtain⟨L,hL⟩:=DH h
    exact⟨L,fun k hle=>mono L k _ H r (F9 lv t) hle hL⟩) (fun i=>qT (ke i)) (qT kr) h
  rw[Mb l H hl]
  refine L7 (L:=k0+1) ?_ (uniq l H hl)
  rw[KX k0 l H hl]
  exact hk k0 (aaU _)
 cases h1:app lv.length (LP lv.length (fun k=>abs lv.length fun l H=>bN P bo f n b x (fun t H=>app lv.length k (aw lv t) H) ke kr (dd n lv l) H)) l H with
 | some r=>exact (fwd r h1).symm
 | none=>
  cases h2:bN P bo f n b x (fun t H=>app lv.length (LP lv.length (fun k=>abs lv.length fun l H=>bN P bo f n b x (fun t H=>app lv.length k (aw lv t) H) ke kr (dd n lv l) H)) (aw lv t) H) ke kr (dd n lv l) H with
  | none=>rfl
  | some r=>rw[bwd r h2] at h1;cases h1
end
def DB (P:Program)(t:Tm)(H:Hp):List ResultVar->(List AV->R)->R
 | [],k=>k []
 | .tmp x::r,k=>DB P t H r fun l=>k ((t.get x).getD cq::l)
 | .cell a ty::r,k=>match xG P ty,sz P ty with
  | some true,some n=>B1 (az n ((t.get a).getD cq) H) fun v=>DB P t H r fun l=>k (v::l)
  | some false,_=>B1 (ld ((t.get a).getD cq) H) fun v=>DB P t H r fun l=>k (v::l)
  | _,_=>none
def BY (P:Program)(t:Tm)(H:Hp)(l:List ResultVar):R:=DB P t H l fun vs=>some (LL vs,H)
theorem ath {P:Program}{ty:TypeId}{x v:AV}{H:Hp}(ha:xG P ty=some false)(h:ld x H=some v):th P H ty x=some v:=by
 unfold ld at h
 split at h
 ·unfold th
  simp only[ha,acy,acF,abH,if_false,h]
 ·cases h
theorem arX {P:Program}{ty:TypeId}{n:Nat}{x v:AV}{H:Hp}(ha:xG P ty=some true)(hs:sz P ty=some n)(h:az n x H=some v):th P H ty x=some v:=by
 unfold az at h
 split at h
 ·rename_i i off
  unfold th
  simp only[ha,hs,acy,acF,if_true]
  cases hc:aq H i off n with
  | none=>rw[hc] at h;cases h
  | some l=>rw[hc] at h;cases h;rfl
 ·cases h
theorem Ks {P:Program}{t:Tm}{H:Hp}:∀ (l:List ResultVar) (k:List AV->R) (r:AV × Hp),DB P t H l k=some r->∃ vs,uC P t H l=some vs/\k vs=some r
 | [],k,r,h=>⟨[],rfl,h⟩
 | .tmp x::l,k,r,h=>by
  unfold DB at h
  obtain⟨vs,h1,h2⟩:=Ks l _ r h
  exact⟨_,by unfold uC;rw[h1],h2⟩
 | .cell a ty::l,k,r,h=>by
  unfold DB at h
  split at h
  ·rename_i n ha hs
   obtain⟨v,q1,q2⟩:=eK h
   obtain⟨vs,h1,h2⟩:=Ks l _ r q2
   exact⟨_,by unfold uC;rw[arX ha hs q1,h1],h2⟩
  ·rename_i q ha hs
   obtain⟨v,q1,q2⟩:=eK h
   obtain⟨vs,h1,h2⟩:=Ks l _ r q2
   exact⟨_,by unfold uC;rw[ath hs q1,h1],h2⟩
  ·cases h
def Ju (n:Nat)(args:List AV):Tm:=Tr.cJ .nil 0 (args++List.replicate (n-args.length) cq)
noncomputable section
def ass (P:Program)(bo:sr)(cf:CF)(fn:Func)(an:An)(b:Code)(args:List AV)(H:Hp):R:=
 bN P bo cf fn.ntmps b an (fun t H=>BY P t H fn.results.toList) (fun _ _ _=>none) (fun t H=>BY P t H fn.results.toList) (Ju fn.ntmps args) H
def ym (P:Program)(bo:sr)(ext:Nat->Option Ext)(aR:Nat->Option Prim)(an:Nat->An)(cf:CF):CF:=fun g args H=>
 match g with
 | .func (.func bg) first cap=>
  match aR bg with
  | some p=>p (first++args++cap) H
  | none=>match P.funcs[bg]? with
   | some fn=>match fn.body with
    | some b=>bif Nat.ble (first++args++cap).length fn.ntmps&&Nat.blt fn.ntmps 4294967296&&(an bg).ok fn.ntmps then ass P bo cf fn (an bg) b (first++args++cap) H else none
    | none=>match ext bg with
     | some k=>Fq P k (first++args++cap) H
     | none=>none
   | none=>none
 | _=>none
def SK (P:Program)(bo:sr)(ext:Nat->Option Ext)(aR:Nat->Option Prim)(an:Nat->An):Nat->CF
 | 0=>fun _ _ _=>none
 | k+1=>ym P bo ext aR an (SK P bo ext aR an k)
def CK (P:Program)(bo:sr)(ext:Nat->Option Ext)(aR:Nat->Option Prim)(an:Nat->An):CF:=fun g args H=>lim fun k=>SK P bo ext aR an k g args H
end
section
variable {P:Program}{bo:sr}{ext:Nat->Option Ext}{aR:Nat->Option Prim}{an:Nat->An}
theorem acW (gG:xU bo){du:Nat->CF}{cf:CF}(h:tJ du cf):tJ (fun k=>ym P bo ext aR an (du k)) (ym P bo ext aR an cf):=by
 intro g args H r hc
 unfold ym at hc ⊢
 cases g<;>try (cases hc;done)
 rename_i fn first cap
 cases fn<;>try (cases hc;done)
 rename_i bg
 simp only at hc ⊢
 cases hp:aR bg with
 | some p=>rw[hp] at hc;exact Ev.of fun _=>hc
 | none=>
  rw[hp] at hc
  simp only at hc ⊢
  cases hf:P.funcs[bg]? with
  | none=>rw[hf] at hc;cases hc
  | some fn=>
   rw[hf] at hc
   simp only at hc ⊢
   cases hb:fn.body with
   | none=>rw[hb] at hc;exact Ev.of fun _=>hc
   | some b=>
    rw[hb] at hc
    simp only at hc ⊢
    cases hk:(Nat.ble (first++args++cap).length fn.ntmps&&Nat.blt fn.ntmps 4294967296&&(an bg).ok fn.ntmps) with
    | false=>rw[hk] at hc;cases hc
    | true=>
     rw[hk] at hc
     simp only[cond_true] at hc ⊢
     have qT:∀ (f:KN),xW (fun _=>f) f:=fun f t H r h=>Ev.of fun _=>h
     exact Nl gG b (an bg) du cf _ _ _ _ _ _ _ H r h (qT _) (fun i=>qT _) (qT _) hc
theorem V8 (gG:xU bo):∀ k,tJ (fun _=>SK P bo ext aR an (k+1)) (SK P bo ext aR an k)
 | 0=>fun g l H r h=>by cases h
 | k+1=>fun g l H r h=>by
  obtain⟨k0,hk⟩:=acW (P:=P) (ext:=ext) (aR:=aR) (an:=an) gG (V8 gG k) g l H r h
  exact Ev.of fun _=>hk k0 (aaU _)
theorem Qg (gG:xU bo){g:AV}{l:List AV}{H:Hp}{r:AV × Hp}:∀ {j k:Nat},j<=k->SK P bo ext aR an j g l H=some r->SK P bo ext aR an k g l H=some r:=by
 intro j k hle h
 induction hle with
 | refl=>exact h
 | step _ ih=>
  obtain⟨k0,hk⟩:=V8 gG _ g l H r ih
  exact hk k0 (aaU _)
theorem ajA (gG:xU bo){g:AV}{l:List AV}{H:Hp}(j k:Nat)(r r':AV × Hp)(h:SK P bo ext aR an j g l H=some r)(h':SK P bo ext aR an k g l H=some r'):r=r':=by
 rcases Nat.le_total j k with q | q
 ·rw[Qg gG q h] at h';exact ac8 h'
 ·have:=Qg gG q h'
  rw[h] at this;exact ac8 this
theorem ais (gG:xU bo):tJ (SK P bo ext aR an) (CK P bo ext aR an):=by
 intro g l H r h
 obtain⟨k0,hk⟩:=DH h
 exact⟨k0,fun k hle=>Qg gG hle hk⟩
theorem UP (gG:xU bo){g:AV}{l:List AV}{H:Hp}{r:AV × Hp}(h:ym P bo ext aR an (CK P bo ext aR an) g l H=some r):CK P bo ext aR an g l H=some r:=by
 obtain⟨k0,hk⟩:=acW (P:=P) (ext:=ext) (aR:=aR) (an:=an) gG (ais gG) g l H r h
 exact L7 (L:=k0+1) (hk k0 (aaU _)) (fun j k r r'=>ajA gG j k r r')
theorem agR (hm:P.follows .mixedOrders=true)(hN:pD P)(hE:yD P ext)(hP:vF P aR)(gG:FN P bo)(hA:xA P an){cf:CF}(gK:vO P cf):vO P (ym P bo ext aR an cf):=by
 intro g args H v H' hc
 unfold ym at hc
 split at hc
 ·rename_i bg first cap
  refine⟨bg,first,cap,rfl,?_⟩
  intro F W e w aW hR mw
  split at hc
  ·rename_i p hp
   exact .inr (hP bg p hp _ H v H' hc F W e w aW hR mw)
  ·split at hc
   ·rename_i fn hf
    split at hc
    ·rename_i b hb
     cases hle:(Nat.ble (first++args++cap).length fn.ntmps&&Nat.blt fn.ntmps 4294967296&&(an bg).ok fn.ntmps) with
     | false=>rw[hle] at hc;cases hc
     | true=>
     rw[hle] at hc
     simp only[cond_true] at hc
     rw[aaT,aaT,afV,ae2] at hle
     refine .inr ⟨yc hN hf hb aW w,?_⟩
     have hlen:aW.size=(first++args++cap).length:=by have:=mw.1;simpa using this
     have hT:ns e fn.ntmps (Ju fn.ntmps (first++args++cap)) { tmps:=aW++Array.replicate (fn.ntmps-aW.size) undef,defers:=[] }:=by
      have jQ:((first++args++cap)++List.replicate (fn.ntmps-(first++args++cap).length) cq).length=fn.ntmps:=by
       rw[abj,agw];omega
      refine⟨⟨by simp;omega,fun x => ?_⟩,fun x hx => ?_⟩
      ·unfold Ju
       rw[yK]
       simp only[aeJ,ace,true_and,aih,jQ]
       by_cases hx:x<(first++args++cap).length
       ·rw[if_pos (by omega),abX hx]
        have h1:(first++args++cap)[x]? = some (first++args++cap)[x]:=aaC hx
        obtain⟨v',h2,h3⟩:=mw.get h1
        rw[h1,ahb,ag3,Array.getElem?_append_left (by omega),<-afj,h2]
        exact h3
       ·have hu:(aW++Array.replicate (fn.ntmps-aW.size) undef).getD x undef=undef:=by
         rw[ag3,Array.getElem?_append_right (by omega),Array.getElem?_replicate]
         split<;>rfl
        simp only[hu]
        split
        ·rw[ack (by omega),akc]
         split
         ·exact VR.undef
         ·exact VR.undef
        ·rw[Tr.get_nil];exact VR.undef
      ·unfold Ju
       rw[yK,jQ,if_neg (by omega),Tr.get_nil]
     refine calls_of_wp hf hb (as3 hm gG gK b (an bg) _ _ _ _ H (v,H') hle.2 (hA bg fn b hf hb) hc F W e _ w _ hR hT ?_ ?_ ?_)
     ·intro e' a' w' t' H2 he bE cU hd hk
      unfold BY at hk
      obtain⟨vs,tf,gp⟩:=Ks _ _ _ hk
      cases gp
      obtain⟨u,hu,iL⟩:=OS bE cU.1 tf
      exact⟨hd,u,hu,e',u,rfl,he,bE,iL⟩
     ·intro i e' a' w' t' H2 he bE cU hd hk
      cases hk
     ·intro e' a' w' t' H2 he bE cU hd hk
      unfold BY at hk
      obtain⟨vs,tf,gp⟩:=Ks _ _ _ hk
      cases gp
      obtain⟨u,hu,iL⟩:=OS bE cU.1 tf
      exact⟨hd,u,hu,e',u,rfl,he,bE,iL⟩
    ·rename_i hb
     split at hc
     ·rename_i k hk
      obtain⟨v',w',e',h1,h2,h3,h4⟩:=acr hR mw hc
      refine .inl ⟨v',w',e',?_,h2,h3,h4⟩
      rw[hE bg k hk,Sem.run_bind,h1]
      rfl
     ·cases hc
   ·cases hc
 ·cases hc
theorem aa3 (hm:P.follows .mixedOrders=true)(hN:pD P)(hE:yD P ext)(hP:vF P aR)(gG:FN P bo)(hA:xA P an):∀ k,vO P (SK P bo ext aR an k)
 | 0=>fun g args H v H' h=>by cases h
 | k+1=>agR hm hN hE hP gG hA (aa3 hm hN hE hP gG hA k)
theorem ara (hm:P.follows .mixedOrders=true)(hN:pD P)(hE:yD P ext)(hP:vF P aR)(gG:FN P bo)(hA:xA P an):vO P (CK P bo ext aR an):=by
 intro g args H v H' h
 obtain⟨k,hk⟩:=DH h
 exact aa3 hm hN hE hP gG hA k g args H v H' hk
theorem ast (hm:P.follows .mixedOrders=true)(hN:pD P)(hE:yD P ext)(hP:vF P aR)(gG:FN P bo)(hA:xA P an){g:Nat}{args:List AV}{H:Hp}{v:AV}{H':Hp}(h:CK P bo ext aR an (.func (.func g) [] []) args H=some (v,H')){fn:Func}{b:Code}
  (hf:P.funcs[g]? = some fn) (hb:fn.body=some b) {F:Nat->Prop} {W:World} {e:Em} {w:World} {aW:Array Value} (hR:RH P.globals.size F W e H w) (ha:bh e args aW.toList):Calls P g aW w (Fv P.globals.size F W e v H'):=by
 obtain⟨bg,first,cap,hg,hs⟩:=ara hm hN hE hP gG hA _ _ _ _ _ h
 cases hg
 rcases hs F W e w aW hR (by simpa using ha) with⟨v',w',e',h1,_⟩ | ⟨_,h2⟩
 ·rw[yc hN hf hb] at h1
  cases h1
 ·exact h2
end
end K
end Go.Proofs.YtodfajmihkagnaaGreatDoor.Am
