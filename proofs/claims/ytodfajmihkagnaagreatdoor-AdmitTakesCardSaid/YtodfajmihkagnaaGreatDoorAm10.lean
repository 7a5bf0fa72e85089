/- A closed call run once; the evaluator with continuations, its soundness and its limits (of no program). -/
import Derived.Test.YtodfajmihkagnaaGreatDoorAm9
set_option linter.unusedVariables false
set_option linter.unusedSimpArgs false
namespace Go.Proofs.YtodfajmihkagnaaGreatDoor.Am
open Go.RowKit
section
section
set_option linter.unusedVariables false
set_option linter.unusedSimpArgs false
def HN (N:Nat):AV->Bool
 | .bool _ | .int _ _ | .str _ | .fB | .ah | .ja | .nilFunc | .nilIface=>true
 | .ptr i _=>Nat.blt i N
 | .iface _ v=>HN N v
 | _=>false
def zD (e:Em)(n:Nat->Nat)(N:Nat):Em:={ b:=e.b,d:=e.d,n:=n,N:=N }
theorem VR.cut {e:Em}{n:Nat->Nat}{N:Nat}{v:AV}{v':Value}(h:VR e v v')(hs:HN N v=true):VR (zD e n N) v v':=by
 induction h with
 | bool b=>exact .bool b
 | int k z=>exact .int k z
 | str s=>exact .str s
 | fB=>exact .fB
 | ah=>exact .ah
 | ja=>exact .ja
 | nilFunc=>exact .nilFunc
 | nilIface=>exact .nilIface
 | ptr i off o hi ho=>
  have:i<N:=by simpa[HN,ad5] using hs
  exact .ptr (e:=zD e n N) i off o this ho
 | iface t v v' _ ih=>exact .iface t v v' (ih hs)
 | _=>cases hs
def DE (H:Hp)(L:List (Nat × List AV)):Prop:=∃ el:Nat->TypeId,∀ g l,(g,l)∈L->H.h.get g=some (.cells (Tr.bZ .nil 0 l) 0 l.length (el g) 2)
noncomputable section
open Classical in
def Jk (L:List (Nat × List AV))(N:Nat):Prim:=fun args H=>if args=[]/\DE H L/\N<=H.next then some (.bool true,H) else none
end
theorem aeM {G N:Nat}{F:Nat->Prop}{W:World}{e:Em}{H:Hp}{w:World}(hR:RH G F W e H w){L:List (Nat × List AV)}{el:Nat->TypeId}(hG:G<N)(hle:N<=H.next)
  (hL:∀ g l,(g,l)∈L->g<G/\g<4294967296/\l.length<4294967296/\∀ v∈l,HN N v=true) (hT:∀ g l,(g,l)∈L->H.h.get g=some (.cells (Tr.bZ .nil 0 l) 0 l.length (el g) 2)) :
  RH G (fun k=>k<w.heap.size) w (zD e (fun i=>if i=G then w.heap.size else e.n i) N) ⟨qt el L,N⟩ w:=by
 have key:∀ i o,(qt el L).get i=some o->i<G/\H.h.get i=some o/\∃ l,(i,l)∈L/\o = .cells (Tr.bZ .nil 0 l) 0 l.length (el i) 2:=by
  intro i o h
  obtain⟨l,hm,rfl⟩:=MC _ L (fun x hx=>(hL x.1 x.2 hx).2.1) i o h
  exact⟨(hL i l hm).1,hT i l hm,l,hm,rfl⟩
 refine⟨rfl,?_,?_,?_,fun k hk=>⟨hk,rfl⟩,rfl,rfl,rfl,aaH _,hR.lA.1,hG,by simp[zD]⟩
 ·intro i o h
  obtain⟨hi,hg,l,hm,rfl⟩:=key i o h
  obtain⟨_,ob,dP,dK,_⟩:=hR.obj i _ hg
  refine⟨Nat.lt_trans hi hG,ob,dP,?_,?_⟩
  ·obtain⟨_,_,hl,hs⟩:=hL i l hm
   cases dK with
   | cells _ _ _ _ _ C fz hn gZ h0 h1 hd=>
    refine .cells _ 0 l.length _ 2 C fz ?_ ?_ (by simp) (by simp) hd
    ·simp only[zD];rw[if_neg (by omega)];exact hn
    ·intro k v a b hk
     obtain⟨k',h2,v',h3,h4⟩:=gZ k v a b hk
     refine⟨k',h2,v',h3,?_⟩
     have hv:v∈l:=by
      rw[Tr.BF (α:=AV) .nil _ _ _ _ (by omega),if_pos (by omega),agR] at hk
      exact aaF hk
     exact h4.cut (hs v hv)
  ·intro q hF
   rcases q with q | q
   ·cases q
   ·simp[zD] at q
    have:=(acH.1 dP).1
    omega
 ·intro i j oi oj h1 h2 hq e
  obtain⟨hi,hg,l,hm,rfl⟩:=key i oi h1
  obtain⟨_,ob,dP,dK,_⟩:=hR.obj i _ hg
  rcases hq with q | q
  ·cases q
  ·simp[zD] at q
   have:=(acH.1 dP).1
   omega
 ·intro g hg
  obtain⟨a,b,c⟩:=hR.pY g hg
  exact⟨Nat.lt_trans hg hG,b,c⟩
theorem akb {P:Program}{ext:Nat->Option Ext}{aR:Nat->Option Prim}(hm:P.follows .mixedOrders=true)(hN:nX P)(hE:vi P ext)(hP:tD P aR){fuel g N:Nat}{fn:Func}{b:Code}
  (hf:P.funcs[g]? = some fn) (hb:fn.body=some b) {L:List (Nat × List AV)} (hG:P.globals.size<N) (hL:∀ g l,(g,l)∈L->g<P.globals.size/\g<4294967296/\l.length<4294967296/\∀ v∈l,HN N v=true)
  (h:∀ el,Jv (JO P ext aR fuel g [] ⟨qt el L,N⟩)=true):xr P g (Jk L N):=by
 intro args H v H' hp F W e w aS hR kV
 unfold Jk at hp
 split at hp
 ·rename_i hc
  obtain⟨rfl,⟨el,hT⟩,hle⟩:=hc
  cases hp
  have has:aS = #[]:=by
   have:=kV.jP
   cases aS;simp_all
  subst has
  refine⟨vp hN hf hb #[] w,?_⟩
  refine (agP hm hN hE hP hf hb (h el) (aeM hR hG hle hL hT)).mono fun en w' ⟨h1,h2⟩ => ?_
  exact⟨e,_,h1,e.le_refl,hR.below h2,.bool true⟩
 ·cases hp
set_option linter.unusedVariables false
set_option linter.unusedSimpArgs false
namespace K
abbrev R:=Option (AV × Hp)
def B1 {α:Type}(o:Option α)(k:α->R):R:=match o with | some v=>k v | none=>none
def B2 (o:Option (AV × Hp))(k:AV->Hp->R):R:=match o with | some p=>k p.1 p.2 | none=>none
theorem eM {α:Type}{o:Option α}{k:α->R}{r:AV × Hp}(h:B1 o k=some r):∃ v,o=some v/\k v=some r:=by
 cases o with
 | none=>cases h
 | some v=>exact⟨v,rfl,h⟩
theorem tE {o:Option (AV × Hp)}{k:AV->Hp->R}{r:AV × Hp}(h:B2 o k=some r):∃ v H,o=some (v,H)/\k v H=some r:=by
 cases o with
 | none=>cases h
 | some p=>exact⟨p.1,p.2,rfl,h⟩
def ld (x:AV)(H:Hp):Option AV:=match x with | .ptr i o=>cellAt H i o | _=>none
def aA (n:Nat)(x:AV)(H:Hp):Option AV:=match x with | .ptr i o=>(av H i o n).map .agg | _=>none
def BN (o:Option (Nat × Hp))(k:Nat->Hp->R):R:=match o with | some p=>k p.1 p.2 | none=>none
theorem J6 {o:Option (Nat × Hp)}{k:Nat->Hp->R}{r:AV × Hp}(h:BN o k=some r):∃ i H,o=some (i,H)/\k i H=some r:=by
 cases o with
 | none=>cases h
 | some p=>exact⟨p.1,p.2,rfl,h⟩
def qE (b:Bool)(x:R):R:=bif b then x else none
@[reducible] def Fn:Nat->Type
 | 0=>Hp->R
 | m+1=>AV->Fn m
def app:(m:Nat)->Fn m->List AV->Hp->R
 | 0,f,l,H=>match l with | []=>f H | _::_=>none
 | m+1,f,l,H=>match l with | []=>none | x::l=>app m (f x) l H
def abs:(m:Nat)->(List AV->Hp->R)->Fn m
 | 0,g=>fun H=>g [] H
 | m+1,g=>fun x=>abs m (fun l=>g (x::l))
theorem F8:∀ (m:Nat) (g:List AV->Hp->R) (l:List AV) (H:Hp),l.length=m->app m (abs m g) l H=g l H
 | 0,g,[],H,_=>rfl
 | 0,g,_::_,H,h=>by simp at h
 | m+1,g,[],H,h=>by simp at h
 | m+1,g,x::l,H,h=>F8 m (fun l=>g (x::l)) l H (by simpa using h)
def JN (m:Nat)(f:Fn m->R)(k:Fn m):R:=f k
noncomputable section
open Classical in
def lim (f:Nat->R):R:=if h:∃ r L,f L=some r then some h.choose else none
theorem CS {f:Nat->R}{r:AV × Hp}(h:lim f=some r):∃ L,f L=some r:=by
 unfold lim at h
 split at h
 ·rename_i q
  rw[<-adw h]
  exact q.choose_spec
 ·cases h
theorem Js {f:Nat->R}{r:AV × Hp}{L:Nat}(h:f L=some r)(hu:∀ L L' r r',f L=some r->f L'=some r'->r=r'):lim f=some r:=by
 have q:∃ r L,f L=some r:=⟨r,L,h⟩
 unfold lim
 rw[dif_pos q]
 obtain⟨L',Qv⟩:=q.choose_spec
 rw[hu L' L _ _ Qv h]
def iy (m:Nat)(B:Fn m->Fn m):Nat->Fn m
 | 0=>abs m (fun _ _=>none)
 | L+1=>B (iy m B L)
def LP (m:Nat)(B:Fn m->Fn m):Fn m:=abs m (fun l H=>lim (fun L=>app m (iy m B L) l H))
end
def CD (c:AV)(x y:R):R:=match c with | .bool q=>bif q then x else y | _=>none
def ax (lv:List Nat)(t:Tm):List AV:=lv.map fun d=>(t.get d).getD bK
theorem BW (lv:List Nat)(t:Tm):(ax lv t).length=lv.length:=by simp[ax]
def NY:List Nat->List AV->Tm->Tm
 | d::lv,v::l,t=>NY lv l (t.put 34 d v)
 | _,_,t=>t
def cw (n:Nat)(lv:List Nat)(l:List AV):Tm:=NY lv l (Tr.bZ .nil 0 (List.replicate n .cU))
inductive An where
 | nl
 | sq (j:Option (List Nat)) (a b:An)
 | cd (a b:An)
 | bl (j:Option (List Nat)) (a:An)
 | lp (lv:List Nat) (a:An)
 | pr (lv:List Nat) (p:Tm->Hp->Option Hp)
abbrev KN:=Tm->Hp->R
abbrev qS:=CF->Nat->Array Oper->Bool->Tm->Hp->KN->R
noncomputable section
variable (P:Program)(bc:qS)
def bD (cf:CF)(n:Nat):Code->An->KN->(Nat->KN)->KN->KN
 | .skip,_,kn,_,_=>kn
 | .label _,_,kn,_,_=>kn
 | .seq a b,an,kn,ke,kr=>match an with
  | .sq none x y=>bD cf n a x (bD cf n b y kn ke kr) ke kr
  | .sq (some lv) x y=>fun t H=>JN lv.length (fun k=>bD cf n a x (fun t H=>app lv.length k (ax lv t) H) ke kr t H) (abs lv.length fun l H=>bD cf n b y kn ke kr (cw n lv l) H)
  | .pr lv p=>fun t H=>B1 (p t H) fun H=>kn (cw n lv (ax lv t)) H
  | _=>fun _ _=>none
 | .cond c a b,an,kn,ke,kr=>match an with
  | .cd x y=>fun t H=>CD (ev P.globals.size t c) (bD cf n a x kn ke kr t H) (bD cf n b y kn ke kr t H)
  | _=>fun _ _=>none
 | .block i b,an,kn,ke,kr=>match an with
  | .bl none x=>bD cf n b x kn (fun j t H=>bif Nat.beq j i then kn t H else ke j t H) kr
  | .bl (some lv) x=>fun t H=>JN lv.length (fun k=>bD cf n b x (fun t H=>app lv.length k (ax lv t) H) (fun j t H=>bif Nat.beq j i then app lv.length k (ax lv t) H else ke j t H) kr t H) (abs lv.length fun l H=>kn (cw n lv l) H)
  | _=>fun _ _=>none
 | .loop b,an,kn,ke,kr=>match an with
  | .lp lv x=>fun t H=>app lv.length (LP lv.length (fun k=>abs lv.length fun l H=>bD cf n b x (fun t H=>app lv.length k (ax lv t) H) ke kr (cw n lv l) H)) (ax lv t) H
  | _=>fun _ _=>none
 | .exit i,_,_,ke,_=>ke i
 | .ret,_,_,_,kr=>kr
 | .region _ ops d,_,kn,_,_=>fun t H=>bc cf n ops d t H kn
 | _,_,_,_,_=>fun _ _=>none
end
def Ci (P:Program)(bc:qS):Prop:=
 ∀ (cf:CF) (n:Nat) (ops:Array Oper) (d:Bool) (t:Tm) (H:Hp) (k:KN) (r:AV × Hp),bc cf n ops d t H k=some r->
  ∃ t' H',(bif d then zV P cf n ops t H else rS P cf n ops ops.toList t H)=some (t',H')/\k t' H'=some r
def lR (e:Em)(n:Nat)(t:Tm)(a:Act):Prop:=TR e n t a/\∀ d,n<=d->t.get d=none
theorem wY {α:Type}:∀ (l:List α) (t:Tr α) (n m:Nat),(t.bZ n l).get m=if n<=m/\m<n+l.length then l[m-n]? else t.get m
 | [],t,n,m=>by
  rw[if_neg (by simp only[ads];omega)];rfl
 | x::l,t,n,m=>by
  rw[Tr.bZ,wY l,Tr.put,Tr.fj]
  by_cases h1:m=n
  ·subst h1
   rw[if_neg (by omega),if_pos rfl,if_pos (by simp)];simp
  ·by_cases h2:n+1<=m/\m<n+1+l.length
   ·rw[if_pos h2,if_pos (by simp;omega)]
    have:m-n=(m-(n+1))+1:=by omega
    rw[this,adL]
   ·rw[if_neg h2,if_neg h1,if_neg (by simp;omega)]
theorem Nh:∀ (lv:List Nat) (l:List AV) (t:Tm) (d:Nat) (p:Option AV->Prop),(∀ (x:Nat) (v:AV),x∈lv->(∃ i:Nat,lv[i]? = some x/\l[i]? = some v)->x=d->p (some v))->p (t.get d)->p ((NY lv l t).get d)
 | [],l,t,d,p,_,h=>by cases l<;>exact h
 | x::lv,[],t,d,p,_,h=>h
 | x::lv,v::l,t,d,p,hp,h=>by
  refine Nh lv l (t.put 34 x v) d p (fun y u hy ⟨i,h1,h2⟩ he=>hp y u (.tail _ hy) ⟨i+1,by simpa using h1,by simpa using h2⟩ he) ?_
  rw[Tr.put,Tr.fj]
  by_cases hd:d=x
  ·rw[if_pos hd]
   exact hp x v (.head _) ⟨0,rfl,rfl⟩ hd.symm
  ·rw[if_neg hd];exact h
theorem lR.rJ {e:Em}{n:Nat}{t:Tm}{a:Act}(h:lR e n t a){lv:List Nat}(zW:∀ d∈lv,d<n):lR e n (cw n lv (ax lv t)) a:=by
 refine⟨⟨h.1.size,fun d => ?_⟩,fun d hd => ?_⟩
 ·unfold cw
  refine Nh lv (ax lv t) _ d (fun o=>VR e (o.getD bK) (a.tmps.getD d undef)) ?_ ?_
  ·rintro x v _ ⟨i,h1,h2⟩ rfl
   unfold ax at h2
   rw[adX,h1] at h2
   cases h2
   exact h.1.val x
  ·rw[wY]
   split
   ·rename_i q
    rw[ajQ]
    simp only[aeX,ad6] at q
    rw[if_pos (by omega)]
    exact .cU _
   ·rename_i q
    simp only[aeX,ad6,ac4,true_and,Nat.not_lt] at q
    rw[Tr.get_nil]
    have:=h.1.val d
    rw[h.2 d q] at this
    exact this
 ·unfold cw
  refine Nh lv (ax lv t) _ d (fun o=>o=none) ?_ ?_
  ·intro x v hx _ he
   have:=zW x hx
   omega
  ·rw[wY,if_neg (by simp;omega),Tr.get_nil]
def An.ok (n:Nat):An->Bool
 | .nl=>true
 | .sq j a b=>(j.getD []).all (fun d=>Nat.blt d n)&&a.ok n&&b.ok n
 | .cd a b=>a.ok n&&b.ok n
 | .bl j a=>(j.getD []).all (fun d=>Nat.blt d n)&&a.ok n
 | .lp lv a=>lv.all (fun d=>Nat.blt d n)&&a.ok n
 | .pr lv _=>lv.all (fun d=>Nat.blt d n)
theorem Pm {n:Nat}{lv:List Nat}(h:lv.all (fun d=>Nat.blt d n)=true):∀ d∈lv,d<n:=fun d hd=>by
 have:=adY.1 h d hd
 rwa[ad5] at this
end K
end
set_option linter.unusedVariables false
set_option linter.unusedSimpArgs false
namespace K
variable {P:Program}{bc:qS}
theorem BH {n:Nat}{dst:Option Tmp}{v:AV}{t t':Tm}(h:gI n dst v t=some t')(ht:∀ d,n<=d->t.get d=none):∀ d,n<=d->t'.get d=none:=by
 intro d hd
 unfold gI at h
 split at h
 ·cases h;exact ht d hd
 ·rename_i x
  cases hb:(Nat.blt x n&&Nat.blt x 4294967296) with
  | false=>rw[hb] at h;cases h
  | true=>
   rw[hb] at h
   cases h
   simp only[aaG,ad5] at hb
   rw[Tr.put,Tr.fj,if_neg (by omega)]
   exact ht d hd
theorem N0 {cf:CF}{n:Nat}{ops:Array Oper}:∀ (l:List Oper) (t t':Tm) (H H':Hp),rS P cf n ops l t H=some (t',H')->(∀ d,n<=d->t.get d=none)->∀ d,n<=d->t'.get d=none
 | [],t,t',H,H',h,ht=>by cases h;exact ht
 | o::l,t,t',H,H',h,ht=>by
  unfold rS at h
  split at h
  ·split at h
   ·split at h
    ·rename_i t1 hp
     exact N0 l _ _ _ _ h (BH hp ht)
    ·cases h
   ·cases h
  ·split at h
   ·rename_i t1 hp
    exact N0 l _ _ _ _ h (BH hp ht)
   ·cases h
  ·cases h
theorem Ex {cf:CF}{n:Nat}{ops:Array Oper}:∀ (l:List Oper) (i:Nat) (bs:List Nat) (tp te:Tm) (hb h:Hp) (s:List jB) (t':Tm) (H':Hp),ku P cf n ops i l bs tp te hb h=some (s,t',H')->(∀ d,n<=d->te.get d=none)->∀ d,n<=d->t'.get d=none
 | [],i,bs,tp,te,hb,h,s,t',H',hr,ht=>by unfold ku at hr;cases hr;exact ht
 | o::l,i,[],tp,te,hb,h,s,t',H',hr,ht=>by unfold ku at hr;cases hr
 | o::l,i,b::bs,tp,te,hb,h,s,t',H',hr,ht=>by
  unfold ku at hr
  split at hr
  ·split at hr
   ·split at hr
    ·split at hr
     ·rename_i h1 h2
      simp only[aaa] at hr
      obtain⟨⟨s2,t2,H2⟩,h3,h4⟩:=hr
      cases h4
      exact Ex l _ _ _ _ _ _ _ _ _ h3 (BH h2 ht)
     ·cases hr
    ·cases hr
   ·split at hr
    ·split at hr
     ·rename_i h1 h2
      simp only[aaa] at hr
      obtain⟨⟨s2,t2,H2⟩,h3,h4⟩:=hr
      cases h4
      exact Ex l _ _ _ _ _ _ _ _ _ h3 (BH h2 ht)
     ·cases hr
    ·cases hr
   ·split at hr
    ·split at hr
     ·rename_i h1 h2
      simp only[aaa] at hr
      obtain⟨⟨s2,t2,H2⟩,h3,h4⟩:=hr
      cases h4
      exact Ex l _ _ _ _ _ _ _ _ _ h3 (BH h2 ht)
     ·cases hr
    ·cases hr
  ·split at hr
   ·rename_i h1 h2
    simp only[aaa] at hr
    obtain⟨⟨s2,t2,H2⟩,h3,h4⟩:=hr
    cases h4
    exact Ex l _ _ _ _ _ _ _ _ _ h3 (BH h2 ht)
   ·cases hr
  ·cases hr
theorem aps {cf:CF}{n:Nat}{ops:Array Oper}{d:Bool}{t t':Tm}{H H':Hp}(h:(bif d then zV P cf n ops t H else rS P cf n ops ops.toList t H)=some (t',H'))(ht:∀ x,n<=x->t.get x=none):∀ x,n<=x->t'.get x=none:=by
 cases d with
 | false=>exact N0 _ _ _ _ _ h ht
 | true=>
  simp only[cond_true] at h
  unfold zV at h
  cases hr:u9 ops with
  | false=>rw[hr] at h;cases h
  | true=>
   rw[hr] at h
   simp only[cond_true] at h
   split at h
   ·rename_i l t1 H1 iR
    cases hd:Br P l with
    | false=>rw[hd] at h;cases h
    | true=>
     rw[hd] at h
     cases h
     exact Ex _ _ _ _ _ _ _ _ _ _ iR ht
   ·cases h
def zd (P:Program)(r:AV × Hp)(F:Nat->Prop)(W:World)(n:Nat)(e:Em)(ds:List Deferred)(kn:KN)(ex:Exit)(Q:Exit->Act->World->Prop):Prop:=
 ∀ e' a' w' t' H',e.le e'->RH P.globals.size F W e' H' w'->lR e' n t' a'->a'.defers=ds->kn t' H'=some r->Q ex a' w'
theorem zd.mono {r:AV × Hp}{F:Nat->Prop}{W:World}{n:Nat}{e e2:Em}{ds:List Deferred}{kn:KN}{ex:Exit}{Q:Exit->Act->World->Prop}(h:zd P r F W n e ds kn ex Q)(he:e.le e2):zd P r F W n e2 ds kn ex Q:=
 fun e' a' w' t' H' h1=>h e' a' w' t' H' (Em.le_trans he h1)
theorem oG {m n:Nat}{lv:List Nat}{k:List AV->Hp->R}{t:Tm}{H:Hp}(hm:lv.length=m):app m (abs m k) (ax lv t) H=k (ax lv t) H:=F8 m k _ H (by rw[BW];exact hm)
def WX (P:Program)(n:Nat)(c:Code)(lv:List Nat)(p:Tm->Hp->Option Hp):Prop:=
 ∀ t H H2,p t H=some H2->∀ (F:Nat->Prop) (W:World) (e:Em) (a:Act) (w:World) (Q:Exit->Act->World->Prop),RH P.globals.size F W e H w->lR e n t a->
  (∀ e' a' w',e.le e'->RH P.globals.size F W e' H2 w'->lR e' n (cw n lv (ax lv t)) a'->a'.defers=a.defers->Q .normal a' w')->c.wp P Q a w
def jM (P:Program)(n:Nat):Code->An->Prop
 | .seq a b,an=>match an with | .sq _ x y=>jM P n a x/\jM P n b y | .pr lv p=>WX P n (.seq a b) lv p | _=>True
 | .cond _ a b,an=>match an with | .cd x y=>jM P n a x/\jM P n b y | _=>True
 | .block _ b,an=>match an with | .bl _ x=>jM P n b x | _=>True
 | .loop b,an=>match an with | .lp _ x=>jM P n b x | _=>True
 | _,_=>True
def An.plain:An->Bool
 | .nl=>true
 | .sq _ a b=>a.plain&&b.plain
 | .cd a b=>a.plain&&b.plain
 | .bl _ a=>a.plain
 | .lp _ a=>a.plain
 | .pr _ _=>false
theorem jM.plain (P:Program)(n:Nat):∀ (c:Code) (an:An),an.plain=true->jM P n c an:=by
 intro c
 induction c with
 | seq a b ia ib=>
  intro an h
  unfold jM
  cases an with
  | sq j x y=>simp only[An.plain,aaG] at h;exact⟨ia x h.1,ib y h.2⟩
  | pr lv p=>cases h
  | _=>trivial
 | cond q a b ia ib=>
  intro an h
  unfold jM
  cases an with
  | cd x y=>simp only[An.plain,aaG] at h;exact⟨ia x h.1,ib y h.2⟩
  | _=>trivial
 | block i b ib=>
  intro an h
  unfold jM
  cases an with
  | bl j x=>exact ib x h
  | _=>trivial
 | loop b ib=>
  intro an h
  unfold jM
  cases an with
  | lp lv x=>exact ib x h
  | _=>trivial
 | _=>intro an h;unfold jM;trivial
def wh (P:Program)(an:Nat->An):Prop:=∀ aY fn b,P.funcs[aY]? = some fn->fn.body=some b->jM P fn.ntmps b (an aY)
theorem wh.plain {P:Program}{an:Nat->An}(h:∀ g,(an g).plain=true):wh P an:=fun aY fn b _ _=>jM.plain P fn.ntmps b (an aY) (h aY)
def Lb:List (Nat × An)->Nat->An
 | [],_ => .nl
 | p::r,g=>bif Nat.beq g p.1 then p.2 else Lb r g
theorem To {P:Program}:∀ {l:List (Nat × An)},(∀ p∈l,p.2.plain=true\/∀ fn b,P.funcs[p.1]? = some fn->fn.body=some b->jM P fn.ntmps b p.2)->wh P (Lb l)
 | [],h=>wh.plain fun _=>rfl
 | p::r,h=>by
  intro aY fn b h1 h2
  show jM P fn.ntmps b (bif Nat.beq aY p.1 then p.2 else Lb r aY)
  cases hb:Nat.beq aY p.1 with
  | true=>
   obtain rfl:=aa9 hb
   rcases h p (.head _) with q | q
   ·exact jM.plain P _ _ _ q
   ·exact q fn b h1 h2
  | false=>exact To (fun q hq=>h q (.tail _ hq)) aY fn b h1 h2
theorem aeu (hm:P.follows .mixedOrders=true)(gk:Ci P bc){cf:CF}(gr:rX P cf){n:Nat}:∀ (c:Code) (an:An) (kn:KN) (ke:Nat->KN) (kr:KN) (t:Tm) (H:Hp) (r:AV × Hp),an.ok n=true->jM P n c an->bD P bc cf n c an kn ke kr t H=some r->
  ∀ (F:Nat->Prop) (W:World) (e:Em) (a:Act) (w:World) (Q:Exit->Act->World->Prop),RH P.globals.size F W e H w->lR e n t a->
   zd P r F W n e a.defers kn .normal Q->(∀ i,zd P r F W n e a.defers (ke i) (.exit i) Q)->zd P r F W n e a.defers kr .ret Q->c.wp P Q a w:=by
 intro c
 induction c with
 | skip=>
  intro an kn ke kr t H r ha mR hc F W e a w Q hR hT fP kL kH
  unfold bD at hc
  exact wp_skip (fP e a w t H e.le_refl hR hT rfl hc)
 | label l=>
  intro an kn ke kr t H r ha mR hc F W e a w Q hR hT fP kL kH
  unfold bD at hc
  exact wp_label (fP e a w t H e.le_refl hR hT rfl hc)
 | seq c1 c2 i1 i2=>
  intro an kn ke kr t H r ha mR hc F W e a w Q hR hT fP kL kH
  unfold bD at hc
  split at hc
  ·rename_i x y
   refine wp_seq ?_
   simp only[An.ok,aaG] at ha
   refine i1 x _ _ _ t H r ha.1.2 mR.1 hc F W e a w _ hR hT ?_ ?_ ?_
   ·intro e' a' w' t' H' he bA cz hd hk
    refine i2 y _ _ _ t' H' r ha.2 mR.2 hk F W e' a' w' Q bA cz ?_ ?_ ?_
    ·rw[hd];exact fP.mono he
    ·intro i;rw[hd];exact (kL i).mono he
    ·rw[hd];exact kH.mono he
   ·intro i e' a' w' t' H' he bA cz hd hk
    exact kL i e' a' w' t' H' he bA cz hd hk
   ·intro e' a' w' t' H' he bA cz hd hk
    exact kH e' a' w' t' H' he bA cz hd hk
  ·rename_i lv x y
   refine wp_seq ?_
   simp only[An.ok,aaG,afI] at ha
   have zW:=Pm ha.1.1
   unfold JN at hc
   refine i1 x _ _ _ t H r ha.1.2 mR.1 hc F W e a w _ hR hT ?_ ?_ ?_
   ·intro e' a' w' t' H' he bA cz hd hk
    replace hk:=(oG (n:=n) rfl).symm.trans hk
    refine i2 y _ _ _ _ H' r ha.2 mR.2 hk F W e' a' w' Q bA (cz.rJ zW) ?_ ?_ ?_
    ·rw[hd];exact fP.mono he
    ·intro i;rw[hd];exact (kL i).mono he
    ·rw[hd];exact kH.mono he
   ·intro i e' a' w' t' H' he bA cz hd hk
    exact kL i e' a' w' t' H' he bA cz hd hk
   ·intro e' a' w' t' H' he bA cz hd hk
    exact kH e' a' w' t' H' he bA cz hd hk
  ·rename_i lv p
   obtain⟨H2,h1,h2⟩:=eM hc
   exact mR t H H2 h1 F W e a w Q hR hT fun e' a' w' he bA cz hd=>fP e' a' w' _ H2 he bA cz hd h2
  ·cases hc
 | cond x c1 c2 i1 i2=>
  intro an kn ke kr t H r ha mR hc F W e a w Q hR hT fP kL kH
  unfold bD at hc
  split at hc
  ·rename_i y z
   simp only[An.ok,aaG] at ha
   unfold CD at hc
   split at hc
   ·rename_i b hb
    have hv:=VR.ev hR hT.1 x
    rw[hb] at hv
    refine wp_cond hv.rQ ?_
    cases b with
    | true=>exact i1 y _ _ _ t H r ha.1 mR.1 hc F W e a w Q hR hT fP kL kH
    | false=>exact i2 z _ _ _ t H r ha.2 mR.2 hc F W e a w Q hR hT fP kL kH
   ·cases hc
  ·cases hc
 | block i b ib=>
  intro an kn ke kr t H r ha mR hc F W e a w Q hR hT fP kL kH
  unfold bD at hc
  refine wp_block ?_
  have Zm:∀ (j:Nat) (e':Em) (a':Act) (w':World) (t':Tm) (H':Hp) (q:KN),e.le e'->RH P.globals.size F W e' H' w'->lR e' n t' a'->a'.defers=a.defers->
    (∀ e' a' w' t' H',e.le e'->RH P.globals.size F W e' H' w'->lR e' n t' a'->a'.defers=a.defers->q t' H'=some r->Q .normal a' w')->
    (bif Nat.beq j i then q t' H' else ke j t' H')=some r->Exit.inBlock i Q (.exit j) a' w':=by
   intro j e' a' w' t' H' q he bA cz hd hq hk
   show (if j=i then Q .normal a' w' else Q (.exit j) a' w')
   cases hj:Nat.beq j i with
   | true=>
    rw[hj] at hk
    rw[if_pos (aa9 hj)]
    exact hq e' a' w' t' H' he bA cz hd hk
   | false=>
    rw[hj] at hk
    rw[if_neg (fun q=>by rw[q,ahj] at hj;cases hj)]
    exact kL j e' a' w' t' H' he bA cz hd hk
  split at hc
  ·rename_i x
   simp only[An.ok,aaG] at ha
   refine ib x _ _ _ t H r ha.2 mR hc F W e a w _ hR hT ?_ ?_ ?_
   ·intro e' a' w' t' H' he bA cz hd hk
    exact fP e' a' w' t' H' he bA cz hd hk
   ·intro j e' a' w' t' H' he bA cz hd hk
    exact Zm j e' a' w' t' H' kn he bA cz hd fP hk
   ·intro e' a' w' t' H' he bA cz hd hk
    exact kH e' a' w' t' H' he bA cz hd hk
  ·rename_i lv x
   simp only[An.ok,aaG,afI] at ha
   have zW:=Pm ha.1
   unfold JN at hc
   have hj:∀ e' a' w' t' H',e.le e'->RH P.globals.size F W e' H' w'->lR e' n t' a'->a'.defers=a.defers->app lv.length (abs lv.length fun l H=>kn (cw n lv l) H) (ax lv t') H'=some r->Q .normal a' w':=by
    intro e' a' w' t' H' he bA cz hd hk
    replace hk:=(oG (n:=n) rfl).symm.trans hk
    exact fP e' a' w' _ H' he bA (cz.rJ zW) hd hk
   refine ib x _ _ _ t H r ha.2 mR hc F W e a w _ hR hT ?_ ?_ ?_
   ·intro e' a' w' t' H' he bA cz hd hk
    exact hj e' a' w' t' H' he bA cz hd hk
   ·intro j e' a' w' t' H' he bA cz hd hk
    exact Zm j e' a' w' t' H' (fun t H=>app lv.length (abs lv.length fun l H=>kn (cw n lv l) H) (ax lv t) H) he bA cz hd hj hk
   ·intro e' a' w' t' H' he bA cz hd hk
    exact kH e' a' w' t' H' he bA cz hd hk
  ·cases hc
 | loop b ib=>
  intro an kn ke kr t H r ha mR hc F W e a w Q hR hT fP kL kH
  unfold bD at hc
  split at hc
  ·rename_i lv x
   simp only[An.ok,aaG] at ha
   have zW:=Pm ha.1
   unfold LP at hc
   replace hc:=(oG (n:=n) rfl).symm.trans hc
   obtain⟨L,hL⟩:=CS hc
   refine Nb ?_
   have key:∀ (L:Nat) (e:Em) (a:Act) (w:World) (t:Tm) (H:Hp),app lv.length (iy lv.length (fun k=>abs lv.length fun l H=>bD P bc cf n b x (fun t H=>app lv.length k (ax lv t) H) ke kr (cw n lv l) H) L) (ax lv t) H=some r->
     RH P.globals.size F W e H w->lR e n t a->(∀ i,zd P r F W n e a.defers (ke i) (.exit i) Q)->zd P r F W n e a.defers kr .ret Q->xm P b Q a w:=by
    intro L
    induction L with
    | zero=>
     intro e a w t H hq _ _ _ _
     replace hq:=(oG (m:=lv.length) (n:=n) (k:=fun _ _=>none) rfl).symm.trans hq
     cases hq
    | succ L ih=>
     intro e a w t H hq hR hT kL kH
     replace hq:=(oG (m:=lv.length) (n:=n) (k:=fun l H=>bD P bc cf n b x (fun t H=>app lv.length (iy lv.length (fun k=>abs lv.length fun l H=>bD P bc cf n b x (fun t H=>app lv.length k (ax lv t) H) ke kr (cw n lv l) H) L) (ax lv t) H) ke kr (cw n lv l) H) rfl).symm.trans hq
     refine QE ?_
     refine ib x _ _ _ _ H r ha.2 mR hq F W e a w _ hR (hT.rJ zW) ?_ ?_ ?_
     ·intro e' a' w' t' H' he bA cz hd hk
      refine ih e' a' w' t' H' hk bA cz ?_ ?_
      ·intro i;rw[hd];exact (kL i).mono he
      ·rw[hd];exact kH.mono he
     ·intro i e' a' w' t' H' he bA cz hd hk
      exact kL i e' a' w' t' H' he bA cz hd hk
     ·intro e' a' w' t' H' he bA cz hd hk
      exact kH e' a' w' t' H' he bA cz hd hk
   exact key L e a w t H hL hR hT kL kH
  ·cases hc
 | exit i=>
  intro an kn ke kr t H r ha mR hc F W e a w Q hR hT fP kL kH
  unfold bD at hc
  exact wp_exit (kL i e a w t H e.le_refl hR hT rfl hc)
 | ret=>
  intro an kn ke kr t H r ha mR hc F W e a w Q hR hT fP kL kH
  unfold bD at hc
  exact wp_ret (kH e a w t H e.le_refl hR hT rfl hc)
 | region id ops d=>
  intro an kn ke kr t H r ha mR hc F W e a w Q hR hT fP kL kH
  unfold bD at hc
  obtain⟨t1,H1,h1,h2⟩:=gk cf n ops d t H kn r hc
  have je:=aps h1 hT.2
  have fin:∀ e' a' w',e.le e'->RH P.globals.size F W e' H1 w'->TR e' n t1 a'->a'.defers=a.defers->Q .normal a' w':=fun e' a' w' he bA cz hd=>fP e' a' w' t1 H1 he bA ⟨cz,je⟩ hd h2
  cases d with
  | true=>exact Za hm gr h1 hR hT.1 fin
  | false=>
   refine wp_region ?_
   have:=Yh (Q:=Q) gr ops.toList 0 t H e a w (by simp) h1 hR hT.1 fin
   rw[List.range_eq_range']
   simpa using this
 | _=>
  intro an kn ke kr t H r ha mR hc
  unfold bD at hc
  cases hc
def Ev (p:Nat->Prop):Prop:=∃ k0,∀ k,k0<=k->p k
theorem Ev.of {p:Nat->Prop}(h:∀ k,p k):Ev p:=⟨0,fun k _=>h k⟩
def sE (f:Nat->CF)(g:CF):Prop:=∀ x l H r,g x l H=some r->Ev fun k=>f k x l H=some r
def wk (f:Nat->KN)(g:KN):Prop:=∀ t H r,g t H=some r->Ev fun k=>f k t H=some r
def u7 (bc:qS):Prop:=∀ (cP:Nat->CF) (cf:CF) (kK:Nat->KN) (kn:KN) (n:Nat) (ops:Array Oper) (d:Bool) (t:Tm) (H:Hp) (r:AV × Hp),sE cP cf->wk kK kn->bc cf n ops d t H kn=some r->Ev fun k=>bc (cP k) n ops d t H (kK k)=some r
theorem Jr (gk:u7 bc){n:Nat}:∀ (c:Code) (an:An) (cP:Nat->CF) (cf:CF) (kK:Nat->KN) (kn:KN) (lO:Nat->Nat->KN) (ke:Nat->KN) (kE:Nat->KN) (kr:KN) (t:Tm) (H:Hp) (r:AV × Hp),
  sE cP cf->wk kK kn->(∀ i,wk (fun k=>lO k i) (ke i))->wk kE kr->bD P bc cf n c an kn ke kr t H=some r->Ev fun k=>bD P bc (cP k) n c an (kK k) (lO k) (kE k) t H=some r:=by
 intro c
 induction c with
 | skip=>intro an cP cf kK kn lO ke kE kr t H r h1 h2 h3 h4 hc;unfold bD at hc ⊢;exact h2 t H r hc
 | label l=>intro an cP cf kK kn lO ke kE kr t H r h1 h2 h3 h4 hc;unfold bD at hc ⊢;exact h2 t H r hc
 | seq c1 c2 i1 i2=>
  intro an cP cf kK kn lO ke kE kr t H r h1 h2 h3 h4 hc
  unfold bD at hc ⊢
  cases an with
  | sq j x y=>
   cases j with
   | none=>exact i1 x cP cf _ _ lO ke kE kr t H r h1 (fun t H r h=>i2 y cP cf kK kn lO ke kE kr t H r h1 h2 h3 h4 h) h3 h4 hc
   | some lv=>
    simp only[JN] at hc ⊢
    refine i1 x cP cf _ _ lO ke kE kr t H r h1 (fun t H r h => ?_) h3 h4 hc
    replace h:=(oG (n:=n) rfl).symm.trans h
    obtain⟨k0,hk⟩:=i2 y cP cf kK kn lO ke kE kr _ H r h1 h2 h3 h4 h
    exact⟨k0,fun k hle=>(oG (n:=n) rfl).trans (hk k hle)⟩
  | pr lv p=>
   simp only at hc ⊢
   obtain⟨H2,q1,q2⟩:=eM hc
   obtain⟨k0,hk⟩:=h2 _ H2 r q2
   exact⟨k0,fun k hle=>by rw[q1];exact hk k hle⟩
  | _=>cases hc
 | cond x c1 c2 i1 i2=>
  intro an cP cf kK kn lO ke kE kr t H r h1 h2 h3 h4 hc
  unfold bD at hc ⊢
  cases an with
  | cd y z=>
   simp only[CD] at hc ⊢
   cases hv:ev P.globals.size t x<;>rw[hv] at hc<;>simp only at hc ⊢ <;> try (cases hc;done)
   rename_i q
   cases q with
   | true=>exact i1 y cP cf kK kn lO ke kE kr t H r h1 h2 h3 h4 hc
   | false=>exact i2 z cP cf kK kn lO ke kE kr t H r h1 h2 h3 h4 hc
  | _=>cases hc
 | block i b ib=>
  intro an cP cf kK kn lO ke kE kr t H r h1 h2 h3 h4 hc
  unfold bD at hc ⊢
  cases an with
  | bl j x=>
   cases j with
   | none=>
    refine ib x cP cf kK kn _ _ kE kr t H r h1 h2 (fun q t H r h => ?_) h4 hc
    cases hq:Nat.beq q i with
    | true=>rw[hq] at h;simp only[hq,cond_true];exact h2 t H r h
    | false=>rw[hq] at h;simp only[hq,cond_false];exact h3 q t H r h
   | some lv=>
    simp only[JN] at hc ⊢
    have hj:wk (fun k=>fun t H=>app lv.length (abs lv.length fun l H=>kK k (cw n lv l) H) (ax lv t) H) (fun t H=>app lv.length (abs lv.length fun l H=>kn (cw n lv l) H) (ax lv t) H):=by
     intro t H r h
     replace h:=(oG (n:=n) rfl).symm.trans h
     obtain⟨k0,hk⟩:=h2 _ H r h
     exact⟨k0,fun k hle=>(oG (n:=n) rfl).trans (hk k hle)⟩
    refine ib x cP cf _ _ _ _ kE kr t H r h1 hj (fun q t H r h => ?_) h4 hc
    cases hq:Nat.beq q i with
    | true=>rw[hq] at h;simp only[hq,cond_true];exact hj t H r h
    | false=>rw[hq] at h;simp only[hq,cond_false];exact h3 q t H r h
  | _=>cases hc
 | loop b ib=>
  intro an cP cf kK kn lO ke kE kr t H r h1 h2 h3 h4 hc
  unfold bD at hc ⊢
  cases an with
  | lp lv x=>
   simp only at hc ⊢
   have const:∀ (f:CF),sE (fun _=>f) f:=fun f x l H r h=>Ev.of fun _=>h
   have pQ:∀ (f:KN),wk (fun _=>f) f:=fun f t H r h=>Ev.of fun _=>h
   have mono:∀ (f:CF) (ke:Nat->KN) (kr:KN) (L L':Nat) (t:Tm) (H:Hp) (r:AV × Hp),L<=L'->app lv.length (iy lv.length (fun k=>abs lv.length fun l H=>bD P bc f n b x (fun t H=>app lv.length k (ax lv t) H) ke kr (cw n lv l) H) L) (ax lv t) H=some r->
     app lv.length (iy lv.length (fun k=>abs lv.length fun l H=>bD P bc f n b x (fun t H=>app lv.length k (ax lv t) H) ke kr (cw n lv l) H) L') (ax lv t) H=some r:=by
    intro f ke kr L
    induction L with
    | zero=>
     intro L' t H r _ h
     rw[show iy lv.length _ 0=abs lv.length (fun _ _=>none) from rfl,oG (n:=n) rfl] at h
     cases h
    | succ L ih=>
     intro L' t H r hle h
     obtain⟨L2,rfl⟩:∃ L2,L'=L2+1:=⟨L'-1,by omega⟩
     rw[show iy lv.length _ (L+1)=abs lv.length _ from rfl,oG (n:=n) rfl] at h
     rw[show iy lv.length _ (L2+1)=abs lv.length _ from rfl,oG (n:=n) rfl]
     obtain⟨k0,hk⟩:=ib x (fun _=>f) f (fun _=>fun t H=>app lv.length (iy lv.length _ L2) (ax lv t) H) (fun t H=>app lv.length (iy lv.length _ L) (ax lv t) H) (fun _=>ke) ke (fun _=>kr) kr _ H r (const f) (fun t H r h=>Ev.of fun _=>ih L2 t H r (by omega) h) (fun i=>pQ (ke i)) (pQ kr) h
     exact hk k0 (aaH _)
   have uniq:∀ (f:CF) (ke:Nat->KN) (kr:KN) (t:Tm) (H:Hp) (L L':Nat) (r r':AV × Hp),app lv.length (iy lv.length (fun k=>abs lv.length fun l H=>bD P bc f n b x (fun t H=>app lv.length k (ax lv t) H) ke kr (cw n lv l) H) L) (ax lv t) H=some r->
     app lv.length (iy lv.length (fun k=>abs lv.length fun l H=>bD P bc f n b x (fun t H=>app lv.length k (ax lv t) H) ke kr (cw n lv l) H) L') (ax lv t) H=some r'->r=r':=by
    intro f ke kr t H L L' r r' h h'
    rcases Nat.le_total L L' with q | q
    ·have:=mono f ke kr L L' t H r q h
     rw[this] at h';exact adw h'
    ·have:=mono f ke kr L' L t H r' q h'
     rw[h] at this;exact adw this
   have apB:∀ (f:CF) (ke:Nat->KN) (kr:KN) (t:Tm) (H:Hp) (L:Nat) (r:AV × Hp),app lv.length (iy lv.length (fun k=>abs lv.length fun l H=>bD P bc f n b x (fun t H=>app lv.length k (ax lv t) H) ke kr (cw n lv l) H) L) (ax lv t) H=some r->
     app lv.length (LP lv.length (fun k=>abs lv.length fun l H=>bD P bc f n b x (fun t H=>app lv.length k (ax lv t) H) ke kr (cw n lv l) H)) (ax lv t) H=some r:=by
    intro f ke kr t H L r h
    unfold LP
    rw[oG (n:=n) rfl]
    exact Js h (uniq f ke kr t H)
   have Ye:∀ (f:CF) (ke:Nat->KN) (kr:KN) (t:Tm) (H:Hp) (r:AV × Hp),app lv.length (LP lv.length (fun k=>abs lv.length fun l H=>bD P bc f n b x (fun t H=>app lv.length k (ax lv t) H) ke kr (cw n lv l) H)) (ax lv t) H=some r->
     ∃ L,app lv.length (iy lv.length (fun k=>abs lv.length fun l H=>bD P bc f n b x (fun t H=>app lv.length k (ax lv t) H) ke kr (cw n lv l) H) L) (ax lv t) H=some r:=by
    intro f ke kr t H r h
    unfold LP at h
    replace h:=(oG (n:=n) rfl).symm.trans h
    exact CS h
   have roll:∀ (f:CF) (ke:Nat->KN) (kr:KN) (t:Tm) (H:Hp) (r:AV × Hp),bD P bc f n b x (fun t H=>app lv.length (LP lv.length (fun k=>abs lv.length fun l H=>bD P bc f n b x (fun t H=>app lv.length k (ax lv t) H) ke kr (cw n lv l) H)) (ax lv t) H) ke kr (cw n lv (ax lv t)) H=some r->
     app lv.length (LP lv.length (fun k=>abs lv.length fun l H=>bD P bc f n b x (fun t H=>app lv.length k (ax lv t) H) ke kr (cw n lv l) H)) (ax lv t) H=some r:=by
    intro f ke kr t H r h
    obtain⟨k0,hk⟩:=ib x (fun _=>f) f (fun L=>fun t H=>app lv.length (iy lv.length (fun k=>abs lv.length fun l H=>bD P bc f n b x (fun t H=>app lv.length k (ax lv t) H) ke kr (cw n lv l) H) L) (ax lv t) H) _ (fun _=>ke) ke (fun _=>kr) kr _ H r (const f)
     (fun t H r h=>by
      obtain⟨L,hL⟩:=Ye f ke kr t H r h
      exact⟨L,fun k hle=>mono f ke kr L k t H r hle hL⟩) (fun i=>pQ (ke i)) (pQ kr) h
    refine apB f ke kr t H (k0+1) r ?_
    rw[show iy lv.length _ (k0+1)=abs lv.length _ from rfl,oG (n:=n) rfl]
    exact hk k0 (aaH _)
   obtain⟨L,hL⟩:=Ye cf ke kr t H r hc
   clear hc
   induction L generalizing t H r with
   | zero=>
    rw[show iy lv.length _ 0=abs lv.length (fun _ _=>none) from rfl,oG (n:=n) rfl] at hL
    cases hL
   | succ L ih=>
    rw[show iy lv.length _ (L+1)=abs lv.length _ from rfl,oG (n:=n) rfl] at hL
    obtain⟨k0,hk⟩:=ib x cP cf (fun k=>fun t H=>app lv.length (LP lv.length (fun q=>abs lv.length fun l H=>bD P bc (cP k) n b x (fun t H=>app lv.length q (ax lv t) H) (lO k) (kE k) (cw n lv l) H)) (ax lv t) H) _ lO ke kE kr _ H r h1 (fun t H r h=>ih t H r h) h3 h4 hL
    exact⟨k0,fun k hle=>roll (cP k) (lO k) (kE k) t H r (hk k hle)⟩
  | _=>cases hc
 | exit i=>intro an cP cf kK kn lO ke kE kr t H r h1 h2 h3 h4 hc;unfold bD at hc ⊢;exact h3 i t H r hc
 | ret=>intro an cP cf kK kn lO ke kE kr t H r h1 h2 h3 h4 hc;unfold bD at hc ⊢;exact h4 t H r hc
 | region id ops d=>intro an cP cf kK kn lO ke kE kr t H r h1 h2 h3 h4 hc;unfold bD at hc ⊢;exact gk cP cf kK kn n ops d t H r h1 h2 hc
 | _=>
  intro an cP cf kK kn lO ke kE kr t H r h1 h2 h3 h4 hc
  unfold bD at hc
  cases hc
end K
end
set_option linter.unusedVariables false
set_option linter.unusedSimpArgs false
namespace K
section
variable {P:Program}{bc:qS}
theorem ahb (gk:u7 bc)(f:CF)(n:Nat)(b:Code)(x:An)(lv:List Nat)(ke:Nat->KN)(kr:KN)(l:List AV)(hl:l.length=lv.length)(H:Hp) :
  app lv.length (LP lv.length (fun k=>abs lv.length fun l H=>bD P bc f n b x (fun t H=>app lv.length k (ax lv t) H) ke kr (cw n lv l) H)) l H=
   bD P bc f n b x (fun t H=>app lv.length (LP lv.length (fun k=>abs lv.length fun l H=>bD P bc f n b x (fun t H=>app lv.length k (ax lv t) H) ke kr (cw n lv l) H)) (ax lv t) H) ke kr (cw n lv l) H:=by
 have const:sE (fun _=>f) f:=fun x l H r h=>Ev.of fun _=>h
 have pQ:∀ (f:KN),wk (fun _=>f) f:=fun f t H r h=>Ev.of fun _=>h
 have Ks:∀ (L:Nat) (l:List AV) (H:Hp),l.length=lv.length->app lv.length (iy lv.length (fun k=>abs lv.length fun l H=>bD P bc f n b x (fun t H=>app lv.length k (ax lv t) H) ke kr (cw n lv l) H) (L+1)) l H=
   bD P bc f n b x (fun t H=>app lv.length (iy lv.length (fun k=>abs lv.length fun l H=>bD P bc f n b x (fun t H=>app lv.length k (ax lv t) H) ke kr (cw n lv l) H) L) (ax lv t) H) ke kr (cw n lv l) H:=fun L l H hl=>by
  rw[show iy lv.length _ (L+1)=abs lv.length _ from rfl,F8 _ _ _ _ hl]
 have zero:∀ (l:List AV) (H:Hp),l.length=lv.length->app lv.length (iy lv.length (fun k=>abs lv.length fun l H=>bD P bc f n b x (fun t H=>app lv.length k (ax lv t) H) ke kr (cw n lv l) H) 0) l H=none:=fun l H hl=>by
  rw[show iy lv.length _ 0=abs lv.length (fun _ _=>none) from rfl,F8 _ _ _ _ hl]
 have mono:∀ (L L':Nat) (l:List AV) (H:Hp) (r:AV × Hp),l.length=lv.length->L<=L'->app lv.length (iy lv.length (fun k=>abs lv.length fun l H=>bD P bc f n b x (fun t H=>app lv.length k (ax lv t) H) ke kr (cw n lv l) H) L) l H=some r->
   app lv.length (iy lv.length (fun k=>abs lv.length fun l H=>bD P bc f n b x (fun t H=>app lv.length k (ax lv t) H) ke kr (cw n lv l) H) L') l H=some r:=by
  intro L
  induction L with
  | zero=>intro L' l H r hl _ h;rw[zero l H hl] at h;cases h
  | succ L ih=>
   intro L' l H r hl hle h
   obtain⟨L2,rfl⟩:∃ L2,L'=L2+1:=⟨L'-1,by omega⟩
   rw[Ks L l H hl] at h
   rw[Ks L2 l H hl]
   obtain⟨k0,hk⟩:=Jr gk b x (fun _=>f) f (fun _=>_) _ (fun _=>ke) ke (fun _=>kr) kr _ H r const (fun t H r h=>Ev.of fun _=>ih L2 (ax lv t) H r (BW lv t) (by omega) h) (fun i=>pQ (ke i)) (pQ kr) h
   exact hk k0 (aaH _)
 have uniq:∀ (l:List AV) (H:Hp),l.length=lv.length->∀ (L L':Nat) (r r':AV × Hp),app lv.length (iy lv.length (fun k=>abs lv.length fun l H=>bD P bc f n b x (fun t H=>app lv.length k (ax lv t) H) ke kr (cw n lv l) H) L) l H=some r->
   app lv.length (iy lv.length (fun k=>abs lv.length fun l H=>bD P bc f n b x (fun t H=>app lv.length k (ax lv t) H) ke kr (cw n lv l) H) L') l H=some r'->r=r':=by
  intro l H hl L L' r r' h h'
  rcases Nat.le_total L L' with q | q
  ·have:=mono L L' l H r hl q h
   rw[this] at h';exact adw h'
  ·have:=mono L' L l H r' hl q h'
   rw[h] at this;exact adw this
 have IN:∀ (l:List AV) (H:Hp),l.length=lv.length->app lv.length (LP lv.length (fun k=>abs lv.length fun l H=>bD P bc f n b x (fun t H=>app lv.length k (ax lv t) H) ke kr (cw n lv l) H)) l H=lim (fun L=>app lv.length (iy lv.length (fun k=>abs lv.length fun l H=>bD P bc f n b x (fun t H=>app lv.length k (ax lv t) H) ke kr (cw n lv l) H) L) l H):=fun l H hl=>by
  unfold LP
  rw[F8 _ _ _ _ hl]
 have fwd:∀ (r:AV × Hp),app lv.length (LP lv.length (fun k=>abs lv.length fun l H=>bD P bc f n b x (fun t H=>app lv.length k (ax lv t) H) ke kr (cw n lv l) H)) l H=some r->
   bD P bc f n b x (fun t H=>app lv.length (LP lv.length (fun k=>abs lv.length fun l H=>bD P bc f n b x (fun t H=>app lv.length k (ax lv t) H) ke kr (cw n lv l) H)) (ax lv t) H) ke kr (cw n lv l) H=some r:=by
  intro r h
  rw[IN l H hl] at h
  obtain⟨L,hL⟩:=CS h
  cases L with
  | zero=>rw[zero l H hl] at hL;cases hL
  | succ L=>
   rw[Ks L l H hl] at hL
   obtain⟨k0,hk⟩:=Jr gk b x (fun _=>f) f (fun _=>fun t H=>app lv.length (LP lv.length (fun k=>abs lv.length fun l H=>bD P bc f n b x (fun t H=>app lv.length k (ax lv t) H) ke kr (cw n lv l) H)) (ax lv t) H) _ (fun _=>ke) ke (fun _=>kr) kr _ H r const
    (fun t H r h=>Ev.of fun _=>(IN _ H (BW lv t)).trans (Js h (uniq _ H (BW lv t)))) (fun i=>pQ (ke i)) (pQ kr) hL
   exact hk k0 (aaH _)
 have bwd:∀ (r:AV × Hp),bD P bc f n b x (fun t H=>app lv.length (LP lv.length (fun k=>abs lv.length fun l H=>bD P bc f n b x (fun t H=>app lv.length k (ax lv t) H) ke kr (cw n lv l) H)) (ax lv t) H) ke kr (cw n lv l) H=some r->
   app lv.length (LP lv.length (fun k=>abs lv.length fun l H=>bD P bc f n b x (fun t H=>app lv.length k (ax lv t) H) ke kr (cw n lv l) H)) l H=some r:=by
  intro r h
  obtain⟨k0,hk⟩:=Jr gk b x (fun _=>f) f (fun L=>fun t H=>app lv.length (iy lv.length (fun k=>abs lv.length fun l H=>bD P bc f n b x (fun t H=>app lv.length k (ax lv t) H) ke kr (cw n lv l) H) L) (ax lv t) H) _ (fun _=>ke) ke (fun _=>kr) kr _ H r const
   (fun t H r h=>by
    replace h:=(IN _ H (BW lv t)).symm.trans h
    obtain⟨L,hL⟩:=CS h
    exact⟨L,fun k hle=>mono L k _ H r (BW lv t) hle hL⟩) (fun i=>pQ (ke i)) (pQ kr) h
  rw[IN l H hl]
  refine Js (L:=k0+1) ?_ (uniq l H hl)
  rw[Ks k0 l H hl]
  exact hk k0 (aaH _)
 cases h1:app lv.length (LP lv.length (fun k=>abs lv.length fun l H=>bD P bc f n b x (fun t H=>app lv.length k (ax lv t) H) ke kr (cw n lv l) H)) l H with
 | some r=>exact (fwd r h1).symm
 | none=>
  cases h2:bD P bc f n b x (fun t H=>app lv.length (LP lv.length (fun k=>abs lv.length fun l H=>bD P bc f n b x (fun t H=>app lv.length k (ax lv t) H) ke kr (cw n lv l) H)) (ax lv t) H) ke kr (cw n lv l) H with
  | none=>rfl
  | some r=>rw[bwd r h2] at h1;cases h1
end
def zK (P:Program)(t:Tm)(H:Hp):List ResultVar->(List AV->R)->R
 | [],k=>k []
 | .tmp x::r,k=>zK P t H r fun l=>k ((t.get x).getD bK::l)
 | .cell a ty::r,k=>match wu P ty,sz P ty with
  | some true,some n=>B1 (aA n ((t.get a).getD bK) H) fun v=>zK P t H r fun l=>k (v::l)
  | some false,_=>B1 (ld ((t.get a).getD bK) H) fun v=>zK P t H r fun l=>k (v::l)
  | _,_=>none
def Ax (P:Program)(t:Tm)(H:Hp)(l:List ResultVar):R:=zK P t H l fun vs=>some (JH vs,H)
theorem ag7 {P:Program}{ty:TypeId}{x v:AV}{H:Hp}(ha:wu P ty=some false)(h:ld x H=some v):rL P H ty x=some v:=by
 unfold ld at h
 split at h
 ·unfold rL
  simp only[ha,acX,adu,abz,if_false,h]
 ·cases h
theorem alY {P:Program}{ty:TypeId}{n:Nat}{x v:AV}{H:Hp}(ha:wu P ty=some true)(hs:sz P ty=some n)(h:aA n x H=some v):rL P H ty x=some v:=by
 unfold aA at h
 split at h
 ·rename_i i off
  unfold rL
  simp only[ha,hs,acX,adu,if_true]
  cases hc:av H i off n with
  | none=>rw[hc] at h;cases h
  | some l=>rw[hc] at h;cases h;rfl
 ·cases h
theorem GR {P:Program}{t:Tm}{H:Hp}:∀ (l:List ResultVar) (k:List AV->R) (r:AV × Hp),zK P t H l k=some r->∃ vs,sH P t H l=some vs/\k vs=some r
 | [],k,r,h=>⟨[],rfl,h⟩
 | .tmp x::l,k,r,h=>by
  unfold zK at h
  obtain⟨vs,h1,h2⟩:=GR l _ r h
  exact⟨_,by unfold sH;rw[h1],h2⟩
 | .cell a ty::l,k,r,h=>by
  unfold zK at h
  split at h
  ·rename_i n ha hs
   obtain⟨v,q1,q2⟩:=eM h
   obtain⟨vs,h1,h2⟩:=GR l _ r q2
   exact⟨_,by unfold sH;rw[alY ha hs q1,h1],h2⟩
  ·rename_i q ha hs
   obtain⟨v,q1,q2⟩:=eM h
   obtain⟨vs,h1,h2⟩:=GR l _ r q2
   exact⟨_,by unfold sH;rw[ag7 hs q1,h1],h2⟩
  ·cases h
def HE (n:Nat)(args:List AV):Tm:=Tr.bZ .nil 0 (args++List.replicate (n-args.length) bK)
noncomputable section
def al7 (P:Program)(bc:qS)(cf:CF)(fn:Func)(an:An)(b:Code)(args:List AV)(H:Hp):R:=
 bD P bc cf fn.ntmps b an (fun t H=>Ax P t H fn.results.toList) (fun _ _ _=>none) (fun t H=>Ax P t H fn.results.toList) (HE fn.ntmps args) H
def vu (P:Program)(bc:qS)(ext:Nat->Option Ext)(aR:Nat->Option Prim)(an:Nat->An)(cf:CF):CF:=fun g args H=>
 match g with
 | .func (.func aY) first cap=>
  match aR aY with
  | some p=>p (first++args++cap) H
  | none=>match P.funcs[aY]? with
   | some fn=>match fn.body with
    | some b=>bif Nat.ble (first++args++cap).length fn.ntmps&&Nat.blt fn.ntmps 4294967296&&(an aY).ok fn.ntmps then al7 P bc cf fn (an aY) b (first++args++cap) H else none
    | none=>match ext aY with
     | some k=>BJ P k (first++args++cap) H
     | none=>none
   | none=>none
 | _=>none
def SK (P:Program)(bc:qS)(ext:Nat->Option Ext)(aR:Nat->Option Prim)(an:Nat->An):Nat->CF
 | 0=>fun _ _ _=>none
 | k+1=>vu P bc ext aR an (SK P bc ext aR an k)
def CK (P:Program)(bc:qS)(ext:Nat->Option Ext)(aR:Nat->Option Prim)(an:Nat->An):CF:=fun g args H=>lim fun k=>SK P bc ext aR an k g args H
end
section
variable {P:Program}{bc:qS}{ext:Nat->Option Ext}{aR:Nat->Option Prim}{an:Nat->An}
theorem abN (gk:u7 bc){cP:Nat->CF}{cf:CF}(h:sE cP cf):sE (fun k=>vu P bc ext aR an (cP k)) (vu P bc ext aR an cf):=by
 intro g args H r hc
 unfold vu at hc ⊢
 cases g<;>try (cases hc;done)
 rename_i fn first cap
 cases fn<;>try (cases hc;done)
 rename_i aY
 simp only at hc ⊢
 cases hp:aR aY with
 | some p=>rw[hp] at hc;exact Ev.of fun _=>hc
 | none=>
  rw[hp] at hc
  simp only at hc ⊢
  cases hf:P.funcs[aY]? with
  | none=>rw[hf] at hc;cases hc
  | some fn=>
   rw[hf] at hc
   simp only at hc ⊢
   cases hb:fn.body with
   | none=>rw[hb] at hc;exact Ev.of fun _=>hc
   | some b=>
    rw[hb] at hc
    simp only at hc ⊢
    cases hk:(Nat.ble (first++args++cap).length fn.ntmps&&Nat.blt fn.ntmps 4294967296&&(an aY).ok fn.ntmps) with
    | false=>rw[hk] at hc;cases hc
    | true=>
     rw[hk] at hc
     simp only[cond_true] at hc ⊢
     have pQ:∀ (f:KN),wk (fun _=>f) f:=fun f t H r h=>Ev.of fun _=>h
     exact Jr gk b (an aY) cP cf _ _ _ _ _ _ _ H r h (pQ _) (fun i=>pQ _) (pQ _) hc
theorem Ww (gk:u7 bc):∀ k,sE (fun _=>SK P bc ext aR an (k+1)) (SK P bc ext aR an k)
 | 0=>fun g l H r h=>by cases h
 | k+1=>fun g l H r h=>by
  obtain⟨k0,hk⟩:=abN (P:=P) (ext:=ext) (aR:=aR) (an:=an) gk (Ww gk k) g l H r h
  exact Ev.of fun _=>hk k0 (aaH _)
theorem RF (gk:u7 bc){g:AV}{l:List AV}{H:Hp}{r:AV × Hp}:∀ {j k:Nat},j<=k->SK P bc ext aR an j g l H=some r->SK P bc ext aR an k g l H=some r:=by
 intro j k hle h
 induction hle with
 | refl=>exact h
 | step _ ih=>
  obtain⟨k0,hk⟩:=Ww gk _ g l H r ih
  exact hk k0 (aaH _)
theorem aoC (gk:u7 bc){g:AV}{l:List AV}{H:Hp}(j k:Nat)(r r':AV × Hp)(h:SK P bc ext aR an j g l H=some r)(h':SK P bc ext aR an k g l H=some r'):r=r':=by
 rcases Nat.le_total j k with q | q
 ·rw[RF gk q h] at h';exact adw h'
 ·have:=RF gk q h'
  rw[h] at this;exact adw this
theorem agU (gk:u7 bc):sE (SK P bc ext aR an) (CK P bc ext aR an):=by
 intro g l H r h
 obtain⟨k0,hk⟩:=CS h
 exact⟨k0,fun k hle=>RF gk hle hk⟩
theorem Rm (gk:u7 bc){g:AV}{l:List AV}{H:Hp}{r:AV × Hp}(h:vu P bc ext aR an (CK P bc ext aR an) g l H=some r):CK P bc ext aR an g l H=some r:=by
 obtain⟨k0,hk⟩:=abN (P:=P) (ext:=ext) (aR:=aR) (an:=an) gk (agU gk) g l H r h
 exact Js (L:=k0+1) (hk k0 (aaH _)) (fun j k r r'=>aoC gk j k r r')
theorem al5 (hm:P.follows .mixedOrders=true)(hN:nX P)(hE:vi P ext)(hP:tD P aR)(gk:Ci P bc)(hA:wh P an){cf:CF}(gr:rX P cf):rX P (vu P bc ext aR an cf):=by
 intro g args H v H' hc
 unfold vu at hc
 split at hc
 ·rename_i aY first cap
  refine⟨aY,first,cap,rfl,?_⟩
  intro F W e w aS hR kV
  split at hc
  ·rename_i p hp
   exact .inr (hP aY p hp _ H v H' hc F W e w aS hR kV)
  ·split at hc
   ·rename_i fn hf
    split at hc
    ·rename_i b hb
     cases hle:(Nat.ble (first++args++cap).length fn.ntmps&&Nat.blt fn.ntmps 4294967296&&(an aY).ok fn.ntmps) with
     | false=>rw[hle] at hc;cases hc
     | true=>
     rw[hle] at hc
     simp only[cond_true] at hc
     rw[aaG,aaG,aez,ad5] at hle
     refine .inr ⟨vp hN hf hb aS w,?_⟩
     have hlen:aS.size=(first++args++cap).length:=by have:=kV.1;simpa using this
     have hT:lR e fn.ntmps (HE fn.ntmps (first++args++cap)) { tmps:=aS++Array.replicate (fn.ntmps-aS.size) undef,defers:=[] }:=by
      have gj:((first++args++cap)++List.replicate (fn.ntmps-(first++args++cap).length) bK).length=fn.ntmps:=by
       rw[aa0,aeX];omega
      refine⟨⟨by simp;omega,fun x => ?_⟩,fun x hx => ?_⟩
      ·unfold HE
       rw[wY]
       simp only[ad6,ac4,true_and,agR,gj]
       by_cases hx:x<(first++args++cap).length
       ·rw[if_pos (by omega),abD hx]
        have h1:(first++args++cap)[x]? = some (first++args++cap)[x]:=aau hx
        obtain⟨v',h2,h3⟩:=kV.get h1
        rw[h1,afI,afh,Array.getElem?_append_left (by omega),<-aeg,h2]
        exact h3
       ·have hu:(aS++Array.replicate (fn.ntmps-aS.size) undef).getD x undef=undef:=by
         rw[afh,Array.getElem?_append_right (by omega),Array.getElem?_replicate]
         split<;>rfl
        simp only[hu]
        split
        ·rw[ab7 (by omega),ajQ]
         split
         ·exact VR.undef
         ·exact VR.undef
        ·rw[Tr.get_nil];exact VR.undef
      ·unfold HE
       rw[wY,gj,if_neg (by omega),Tr.get_nil]
     refine calls_of_wp hf hb (aeu hm gk gr b (an aY) _ _ _ _ H (v,H') hle.2 (hA aY fn b hf hb) hc F W e _ w _ hR hT ?_ ?_ ?_)
     ·intro e' a' w' t' H2 he bA cz hd hk
      unfold Ax at hk
      obtain⟨vs,rD,fR⟩:=GR _ _ _ hk
      cases fR
      obtain⟨u,hu,ij⟩:=PB bA cz.1 rD
      exact⟨hd,u,hu,e',u,rfl,he,bA,ij⟩
     ·intro i e' a' w' t' H2 he bA cz hd hk
      cases hk
     ·intro e' a' w' t' H2 he bA cz hd hk
      unfold Ax at hk
      obtain⟨vs,rD,fR⟩:=GR _ _ _ hk
      cases fR
      obtain⟨u,hu,ij⟩:=PB bA cz.1 rD
      exact⟨hd,u,hu,e',u,rfl,he,bA,ij⟩
    ·rename_i hb
     split at hc
     ·rename_i k hk
      obtain⟨v',w',e',h1,h2,h3,h4⟩:=aax hR kV hc
      refine .inl ⟨v',w',e',?_,h2,h3,h4⟩
      rw[hE aY k hk,Sem.run_bind,h1]
      rfl
     ·cases hc
   ·cases hc
 ·cases hc
theorem U4 (hm:P.follows .mixedOrders=true)(hN:nX P)(hE:vi P ext)(hP:tD P aR)(gk:Ci P bc)(hA:wh P an):∀ k,rX P (SK P bc ext aR an k)
 | 0=>fun g args H v H' h=>by cases h
 | k+1=>al5 hm hN hE hP gk hA (U4 hm hN hE hP gk hA k)
theorem amc (hm:P.follows .mixedOrders=true)(hN:nX P)(hE:vi P ext)(hP:tD P aR)(gk:Ci P bc)(hA:wh P an):rX P (CK P bc ext aR an):=by
 intro g args H v H' h
 obtain⟨k,hk⟩:=CS h
 exact U4 hm hN hE hP gk hA k g args H v H' hk
theorem acN (hm:P.follows .mixedOrders=true)(hN:nX P)(hE:vi P ext)(hP:tD P aR)(gk:Ci P bc)(hA:wh P an){g:Nat}{args:List AV}{H:Hp}{v:AV}{H':Hp}(h:CK P bc ext aR an (.func (.func g) [] []) args H=some (v,H')){fn:Func}{b:Code}
  (hf:P.funcs[g]? = some fn) (hb:fn.body=some b) {F:Nat->Prop} {W:World} {e:Em} {w:World} {aS:Array Value} (hR:RH P.globals.size F W e H w) (ha:aQ e args aS.toList):Calls P g aS w (Bv P.globals.size F W e v H'):=by
 obtain⟨aY,first,cap,hg,hs⟩:=amc hm hN hE hP gk hA _ _ _ _ _ h
 cases hg
 rcases hs F W e w aS hR (by simpa using ha) with⟨v',w',e',h1,_⟩ | ⟨_,h2⟩
 ·rw[vp hN hf hb] at h1
  cases h1
 ·exact h2
end
end K
end Go.Proofs.YtodfajmihkagnaaGreatDoor.Am
