/- Laws that the proof uses. -/
import Derived.Test.YtehhgkgeldinkaaGreatDoorAm9
set_option linter.unusedVariables false
set_option linter.unusedSimpArgs false
namespace Go.Proofs.YtehhgkgeldinkaaGreatDoor.Am
open Go.RowKit
section
section
def vt (N:Nat):AV->Bool
 | .bool _ | .int _ _ | .str _ | .aC | .ae | .iF | .nilFunc | .nilIface=>true
 | .ptr i _=>Nat.blt i N
 | .iface _ v=>vt N v
 | _=>false
def Af (e:Em)(n:Nat->Nat)(N:Nat):Em:={ b:=e.b,d:=e.d,n:=n,N:=N }
theorem VR.cut {e:Em}{n:Nat->Nat}{N:Nat}{v:AV}{v':Value}(h:VR e v v')(hs:vt N v=true):VR (Af e n N) v v':=by
 induction h with
 | bool b=>exact .bool b
 | int k z=>exact .int k z
 | str s=>exact .str s
 | aC=>exact .aC
 | ae=>exact .ae
 | iF=>exact .iF
 | nilFunc=>exact .nilFunc
 | nilIface=>exact .nilIface
 | ptr i off o hi ho=>
  have:i<N:=by simpa[vt,adn] using hs
  exact .ptr (e:=Af e n N) i off o this ho
 | iface t v v' _ ih=>exact .iface t v v' (ih hs)
 | _=>cases hs
def ez (H:Hp)(L:List (Nat × List AV)):Prop:=∃ el:Nat->TypeId,∀ g l,(g,l)∈L->H.h.get g=some (.cells (Tr.dh .nil 0 l) 0 l.length (el g) 2)
noncomputable section
open Classical in
def CT (L:List (Nat × List AV))(N:Nat):Prim:=fun args H=>if args=[]/\ez H L/\N<=H.next then some (.bool true,H) else none
end
theorem ab7 {G N:Nat}{F:Nat->Prop}{W:World}{e:Em}{H:Hp}{w:World}(hR:RH G F W e H w){L:List (Nat × List AV)}{el:Nat->TypeId}(hG:G<N)(hle:N<=H.next)
  (hL:∀ g l,(g,l)∈L->g<G/\g<4294967296/\l.length<4294967296/\∀ v∈l,vt N v=true) (hT:∀ g l,(g,l)∈L->H.h.get g=some (.cells (Tr.dh .nil 0 l) 0 l.length (el g) 2)) :
  RH G (fun k=>k<w.heap.size) w (Af e (fun i=>if i=G then w.heap.size else e.n i) N) ⟨lh el L,N⟩ w:=by
 have key:∀ i o,(lh el L).get i=some o->i<G/\H.h.get i=some o/\∃ l,(i,l)∈L/\o = .cells (Tr.dh .nil 0 l) 0 l.length (el i) 2:=by
  intro i o h
  obtain⟨l,hm,rfl⟩:=OF _ L (fun x hx=>(hL x.1 x.2 hx).2.1) i o h
  exact⟨(hL i l hm).1,hT i l hm,l,hm,rfl⟩
 refine⟨rfl,?_,?_,?_,fun k hk=>⟨hk,rfl⟩,rfl,rfl,rfl,aar _,hR.jy.1,hG,by simp[Af]⟩
 ·intro i o h
  obtain⟨hi,hg,l,hm,rfl⟩:=key i o h
  obtain⟨_,ob,dP,dH,_⟩:=hR.obj i _ hg
  refine⟨Nat.lt_trans hi hG,ob,dP,?_,?_⟩
  ·obtain⟨_,_,hl,hs⟩:=hL i l hm
   cases dH with
   | cells _ _ _ _ _ C fz hn gi h0 h1 hd=>
    refine .cells _ 0 l.length _ 2 C fz ?_ ?_ (by simp) (by simp) hd
    ·simp only[Af];rw[if_neg (by omega)];exact hn
    ·intro k v a b hk
     obtain⟨k',h2,v',h3,h4⟩:=gi k v a b hk
     refine⟨k',h2,v',h3,?_⟩
     have hv:v∈l:=by
      rw[Tr.D5 (α:=AV) .nil _ _ _ _ (by omega),if_pos (by omega),ae9] at hk
      exact acx hk
     exact h4.cut (hs v hv)
  ·intro q hF
   rcases q with q | q
   ·cases q
   ·simp[Af] at q
    have:=(abM.1 dP).1
    omega
 ·intro i j oi oj h1 h2 hq e
  obtain⟨hi,hg,l,hm,rfl⟩:=key i oi h1
  obtain⟨_,ob,dP,dH,_⟩:=hR.obj i _ hg
  rcases hq with q | q
  ·cases q
  ·simp[Af] at q
   have:=(abM.1 dP).1
   omega
 ·intro g hg
  obtain⟨a,b,c⟩:=hR.nW g hg
  exact⟨Nat.lt_trans hg hG,b,c⟩
theorem al0 {P:Program}{ext:Nat->Option Ext}{aw:Nat->Option Prim}(hm:P.follows .mixedOrders=true)(hN:jY P)(hE:tZ P ext)(hP:qW P aw){fuel g N:Nat}{fn:Func}{b:Code}
  (hf:P.funcs[g]? = some fn) (hb:fn.body=some b) {L:List (Nat × List AV)} (hG:P.globals.size<N) (hL:∀ g l,(g,l)∈L->g<P.globals.size/\g<4294967296/\l.length<4294967296/\∀ v∈l,vt N v=true)
  (h:∀ el,Lw (tT P ext aw fuel g [] ⟨lh el L,N⟩)=true):pt P g (CT L N):=by
 intro args H v H' hp F W e w ar hR lx
 unfold CT at hp
 split at hp
 ·rename_i hc
  obtain⟨rfl,⟨el,hT⟩,hle⟩:=hc
  cases hp
  have has:ar = #[]:=by
   have:=lx.iW
   cases ar;simp_all
  subst has
  refine⟨rF hN hf hb #[] w,?_⟩
  refine (arR hm hN hE hP hf hb (h el) (ab7 hR hG hle hL hT)).mono fun en w' ⟨h1,h2⟩ => ?_
  exact⟨e,_,h1,e.le_refl,hR.below h2,.bool true⟩
 ·cases hp
namespace K
abbrev R:=Option (AV × Hp)
def B1 {α:Type}(o:Option α)(k:α->R):R:=match o with | some v=>k v | none=>none
def B2 (o:Option (AV × Hp))(k:AV->Hp->R):R:=match o with | some p=>k p.1 p.2 | none=>none
theorem fu {α:Type}{o:Option α}{k:α->R}{r:AV × Hp}(h:B1 o k=some r):∃ v,o=some v/\k v=some r:=by
 cases o with
 | none=>cases h
 | some v=>exact⟨v,rfl,h⟩
theorem tn {o:Option (AV × Hp)}{k:AV->Hp->R}{r:AV × Hp}(h:B2 o k=some r):∃ v H,o=some (v,H)/\k v H=some r:=by
 cases o with
 | none=>cases h
 | some p=>exact⟨p.1,p.2,rfl,h⟩
def ld (x:AV)(H:Hp):Option AV:=match x with | .ptr i o=>cellAt H i o | _=>none
def af (n:Nat)(x:AV)(H:Hp):Option AV:=match x with | .ptr i o=>(dQ H i o n).map .agg | _=>none
def BN (o:Option (Nat × Hp))(k:Nat->Hp->R):R:=match o with | some p=>k p.1 p.2 | none=>none
theorem Lv {o:Option (Nat × Hp)}{k:Nat->Hp->R}{r:AV × Hp}(h:BN o k=some r):∃ i H,o=some (i,H)/\k i H=some r:=by
 cases o with
 | none=>cases h
 | some p=>exact⟨p.1,p.2,rfl,h⟩
def Iw (b:Bool)(x:R):R:=bif b then x else none
@[reducible] def Fn:Nat->Type
 | 0=>Hp->R
 | m+1=>AV->Fn m
def app:(m:Nat)->Fn m->List AV->Hp->R
 | 0,f,l,H=>match l with | []=>f H | _::_=>none
 | m+1,f,l,H=>match l with | []=>none | x::l=>app m (f x) l H
def abs:(m:Nat)->(List AV->Hp->R)->Fn m
 | 0,g=>fun H=>g [] H
 | m+1,g=>fun x=>abs m (fun l=>g (x::l))
theorem Fh:∀ (m:Nat) (g:List AV->Hp->R) (l:List AV) (H:Hp),l.length=m->app m (abs m g) l H=g l H
 | 0,g,[],H,_=>rfl
 | 0,g,_::_,H,h=>by simp at h
 | m+1,g,[],H,h=>by simp at h
 | m+1,g,x::l,H,h=>Fh m (fun l=>g (x::l)) l H (by simpa using h)
def JN (m:Nat)(f:Fn m->R)(k:Fn m):R:=f k
noncomputable section
open Classical in
def lim (f:Nat->R):R:=if h:∃ r L,f L=some r then some h.choose else none
theorem DU {f:Nat->R}{r:AV × Hp}(h:lim f=some r):∃ L,f L=some r:=by
 unfold lim at h
 split at h
 ·rename_i q
  rw[<-adz h]
  exact q.choose_spec
 ·cases h
theorem KW {f:Nat->R}{r:AV × Hp}{L:Nat}(h:f L=some r)(hu:∀ L L' r r',f L=some r->f L'=some r'->r=r'):lim f=some r:=by
 have q:∃ r L,f L=some r:=⟨r,L,h⟩
 unfold lim
 rw[dif_pos q]
 obtain⟨L',DA⟩:=q.choose_spec
 rw[hu L' L _ _ DA h]
def iN (m:Nat)(B:Fn m->Fn m):Nat->Fn m
 | 0=>abs m (fun _ _=>none)
 | L+1=>B (iN m B L)
def LP (m:Nat)(B:Fn m->Fn m):Fn m:=abs m (fun l H=>lim (fun L=>app m (iN m B L) l H))
end
def CD (c:AV)(x y:R):R:=match c with | .bool q=>bif q then x else y | _=>none
def ai (lv:List Nat)(t:Tm):List AV:=lv.map fun d=>(t.get d).getD cP
theorem Eb (lv:List Nat)(t:Tm):(ai lv t).length=lv.length:=by simp[ai]
def Tb:List Nat->List AV->Tm->Tm
 | d::lv,v::l,t=>Tb lv l (t.put 34 d v)
 | _,_,t=>t
def dF (n:Nat)(lv:List Nat)(l:List AV):Tm:=Tb lv l (Tr.dh .nil 0 (List.replicate n .dT))
inductive An where
 | nl
 | sq (j:Option (List Nat)) (a b:An)
 | cd (a b:An)
 | bl (j:Option (List Nat)) (a:An)
 | lp (lv:List Nat) (a:An)
 | pr (lv:List Nat) (p:Tm->Hp->Option Hp)
abbrev KN:=Tm->Hp->R
abbrev rO:=CF->Nat->Array Oper->Bool->Tm->Hp->KN->R
noncomputable section
variable (P:Program)(reg:rO)
def cO (cf:CF)(n:Nat):Code->An->KN->(Nat->KN)->KN->KN
 | .skip,_,kn,_,_=>kn
 | .label _,_,kn,_,_=>kn
 | .seq a b,an,kn,ke,kr=>match an with
  | .sq none x y=>cO cf n a x (cO cf n b y kn ke kr) ke kr
  | .sq (some lv) x y=>fun t H=>JN lv.length (fun k=>cO cf n a x (fun t H=>app lv.length k (ai lv t) H) ke kr t H) (abs lv.length fun l H=>cO cf n b y kn ke kr (dF n lv l) H)
  | .pr lv p=>fun t H=>B1 (p t H) fun H=>kn (dF n lv (ai lv t)) H
  | _=>fun _ _=>none
 | .cond c a b,an,kn,ke,kr=>match an with
  | .cd x y=>fun t H=>CD (ev P.globals.size t c) (cO cf n a x kn ke kr t H) (cO cf n b y kn ke kr t H)
  | _=>fun _ _=>none
 | .block i b,an,kn,ke,kr=>match an with
  | .bl none x=>cO cf n b x kn (fun j t H=>bif Nat.beq j i then kn t H else ke j t H) kr
  | .bl (some lv) x=>fun t H=>JN lv.length (fun k=>cO cf n b x (fun t H=>app lv.length k (ai lv t) H) (fun j t H=>bif Nat.beq j i then app lv.length k (ai lv t) H else ke j t H) kr t H) (abs lv.length fun l H=>kn (dF n lv l) H)
  | _=>fun _ _=>none
 | .loop b,an,kn,ke,kr=>match an with
  | .lp lv x=>fun t H=>app lv.length (LP lv.length (fun k=>abs lv.length fun l H=>cO cf n b x (fun t H=>app lv.length k (ai lv t) H) ke kr (dF n lv l) H)) (ai lv t) H
  | _=>fun _ _=>none
 | .exit i,_,_,ke,_=>ke i
 | .ret,_,_,_,kr=>kr
 | .region _ ops d,_,kn,_,_=>fun t H=>reg cf n ops d t H kn
 | _,_,_,_,_=>fun _ _=>none
end
def En (P:Program)(reg:rO):Prop:=
 ∀ (cf:CF) (n:Nat) (ops:Array Oper) (d:Bool) (t:Tm) (H:Hp) (k:KN) (r:AV × Hp),reg cf n ops d t H k=some r->
  ∃ t' H',(bif d then Bf P cf n ops t H else lN P cf n ops ops.toList t H)=some (t',H')/\k t' H'=some r
def oC (e:Em)(n:Nat)(t:Tm)(a:Act):Prop:=TR e n t a/\∀ d,n<=d->t.get d=none
theorem Cz {α:Type}:∀ (l:List α) (t:Tr α) (n m:Nat),(t.dh n l).get m=if n<=m/\m<n+l.length then l[m-n]? else t.get m
 | [],t,n,m=>by
  rw[if_neg (by simp only[abY];omega)];rfl
 | x::l,t,n,m=>by
  rw[Tr.dh,Cz l,Tr.put,Tr.fE]
  by_cases h1:m=n
  ·subst h1
   rw[if_neg (by omega),if_pos rfl,if_pos (by simp)];simp
  ·by_cases h2:n+1<=m/\m<n+1+l.length
   ·rw[if_pos h2,if_pos (by simp;omega)]
    have:m-n=(m-(n+1))+1:=by omega
    rw[this,gk]
   ·rw[if_neg h2,if_neg h1,if_neg (by simp;omega)]
theorem Te:∀ (lv:List Nat) (l:List AV) (t:Tm) (d:Nat) (p:Option AV->Prop),(∀ (x:Nat) (v:AV),x∈lv->(∃ i:Nat,lv[i]? = some x/\l[i]? = some v)->x=d->p (some v))->p (t.get d)->p ((Tb lv l t).get d)
 | [],l,t,d,p,_,h=>by cases l<;>exact h
 | x::lv,[],t,d,p,_,h=>h
 | x::lv,v::l,t,d,p,hp,h=>by
  refine Te lv l (t.put 34 x v) d p (fun y u hy ⟨i,h1,h2⟩ he=>hp y u (.tail _ hy) ⟨i+1,by simpa using h1,by simpa using h2⟩ he) ?_
  rw[Tr.put,Tr.fE]
  by_cases hd:d=x
  ·rw[if_pos hd]
   exact hp x v (.head _) ⟨0,rfl,rfl⟩ hd.symm
  ·rw[if_neg hd];exact h
theorem oC.dA {e:Em}{n:Nat}{t:Tm}{a:Act}(h:oC e n t a){lv:List Nat}(B6:∀ d∈lv,d<n):oC e n (dF n lv (ai lv t)) a:=by
 refine⟨⟨h.1.size,fun d => ?_⟩,fun d hd => ?_⟩
 ·unfold dF
  refine Te lv (ai lv t) _ d (fun o=>VR e (o.getD cP) (a.tmps.getD d undef)) ?_ ?_
  ·rintro x v _ ⟨i,h1,h2⟩ rfl
   unfold ai at h2
   rw[adh,h1] at h2
   cases h2
   exact h.1.val x
  ·rw[Cz]
   split
   ·rename_i q
    rw[agO]
    simp only[aeg,yS] at q
    rw[if_pos (by omega)]
    exact .dT _
   ·rename_i q
    simp only[aeg,yS,adf,true_and,Nat.not_lt] at q
    rw[Tr.get_nil]
    have:=h.1.val d
    rw[h.2 d q] at this
    exact this
 ·unfold dF
  refine Te lv (ai lv t) _ d (fun o=>o=none) ?_ ?_
  ·intro x v hx _ he
   have:=B6 x hx
   omega
  ·rw[Cz,if_neg (by simp;omega),Tr.get_nil]
def An.ok (n:Nat):An->Bool
 | .nl=>true
 | .sq j a b=>(j.getD []).all (fun d=>Nat.blt d n)&&a.ok n&&b.ok n
 | .cd a b=>a.ok n&&b.ok n
 | .bl j a=>(j.getD []).all (fun d=>Nat.blt d n)&&a.ok n
 | .lp lv a=>lv.all (fun d=>Nat.blt d n)&&a.ok n
 | .pr lv _=>lv.all (fun d=>Nat.blt d n)
theorem OW {n:Nat}{lv:List Nat}(h:lv.all (fun d=>Nat.blt d n)=true):∀ d∈lv,d<n:=fun d hd=>by
 have:=ac6.1 h d hd
 rwa[adn] at this
end K
end
namespace K
variable {P:Program}{reg:rO}
theorem DW {n:Nat}{dst:Option Tmp}{v:AV}{t t':Tm}(h:hZ n dst v t=some t')(ht:∀ d,n<=d->t.get d=none):∀ d,n<=d->t'.get d=none:=by
 intro d hd
 unfold hZ at h
 split at h
 ·cases h;exact ht d hd
 ·rename_i x
  cases hb:(Nat.blt x n&&Nat.blt x 4294967296) with
  | false=>rw[hb] at h;cases h
  | true=>
   rw[hb] at h
   cases h
   simp only[zf,adn] at hb
   rw[Tr.put,Tr.fE,if_neg (by omega)]
   exact ht d hd
theorem QH {cf:CF}{n:Nat}{ops:Array Oper}:∀ (l:List Oper) (t t':Tm) (H H':Hp),lN P cf n ops l t H=some (t',H')->(∀ d,n<=d->t.get d=none)->∀ d,n<=d->t'.get d=none
 | [],t,t',H,H',h,ht=>by cases h;exact ht
 | o::l,t,t',H,H',h,ht=>by
  unfold lN at h
  split at h
  ·split at h
   ·split at h
    ·rename_i t1 hp
     exact QH l _ _ _ _ h (DW hp ht)
    ·cases h
   ·cases h
  ·split at h
   ·rename_i t1 hp
    exact QH l _ _ _ _ h (DW hp ht)
   ·cases h
  ·cases h
theorem E9 {cf:CF}{n:Nat}{ops:Array Oper}:∀ (l:List Oper) (i:Nat) (bs:List Nat) (tp te:Tm) (hb h:Hp) (s:List jW) (t':Tm) (H':Hp),kV P cf n ops i l bs tp te hb h=some (s,t',H')->(∀ d,n<=d->te.get d=none)->∀ d,n<=d->t'.get d=none
 | [],i,bs,tp,te,hb,h,s,t',H',hr,ht=>by unfold kV at hr;cases hr;exact ht
 | o::l,i,[],tp,te,hb,h,s,t',H',hr,ht=>by unfold kV at hr;cases hr
 | o::l,i,b::bs,tp,te,hb,h,s,t',H',hr,ht=>by
  unfold kV at hr
  split at hr
  ·split at hr
   ·split at hr
    ·split at hr
     ·rename_i h1 h2
      simp only[yB] at hr
      obtain⟨⟨s2,t2,H2⟩,h3,h4⟩:=hr
      cases h4
      exact E9 l _ _ _ _ _ _ _ _ _ h3 (DW h2 ht)
     ·cases hr
    ·cases hr
   ·split at hr
    ·split at hr
     ·rename_i h1 h2
      simp only[yB] at hr
      obtain⟨⟨s2,t2,H2⟩,h3,h4⟩:=hr
      cases h4
      exact E9 l _ _ _ _ _ _ _ _ _ h3 (DW h2 ht)
     ·cases hr
    ·cases hr
   ·split at hr
    ·split at hr
     ·rename_i h1 h2
      simp only[yB] at hr
      obtain⟨⟨s2,t2,H2⟩,h3,h4⟩:=hr
      cases h4
      exact E9 l _ _ _ _ _ _ _ _ _ h3 (DW h2 ht)
     ·cases hr
    ·cases hr
  ·split at hr
   ·rename_i h1 h2
    simp only[yB] at hr
    obtain⟨⟨s2,t2,H2⟩,h3,h4⟩:=hr
    cases h4
    exact E9 l _ _ _ _ _ _ _ _ _ h3 (DW h2 ht)
   ·cases hr
  ·cases hr
theorem aqn {cf:CF}{n:Nat}{ops:Array Oper}{d:Bool}{t t':Tm}{H H':Hp}(h:(bif d then Bf P cf n ops t H else lN P cf n ops ops.toList t H)=some (t',H'))(ht:∀ x,n<=x->t.get x=none):∀ x,n<=x->t'.get x=none:=by
 cases d with
 | false=>exact QH _ _ _ _ _ h ht
 | true=>
  simp only[cond_true] at h
  unfold Bf at h
  cases hr:uI ops with
  | false=>rw[hr] at h;cases h
  | true=>
   rw[hr] at h
   simp only[cond_true] at h
   split at h
   ·rename_i l t1 H1 kS
    cases hd:Bm P l with
    | false=>rw[hd] at h;cases h
    | true=>
     rw[hd] at h
     cases h
     exact E9 _ _ _ _ _ _ _ _ _ _ kS ht
   ·cases h
def zA (P:Program)(r:AV × Hp)(F:Nat->Prop)(W:World)(n:Nat)(e:Em)(ds:List Deferred)(kn:KN)(ex:Exit)(Q:Exit->Act->World->Prop):Prop:=
 ∀ e' a' w' t' H',e.le e'->RH P.globals.size F W e' H' w'->oC e' n t' a'->a'.defers=ds->kn t' H'=some r->Q ex a' w'
theorem zA.mono {r:AV × Hp}{F:Nat->Prop}{W:World}{n:Nat}{e e2:Em}{ds:List Deferred}{kn:KN}{ex:Exit}{Q:Exit->Act->World->Prop}(h:zA P r F W n e ds kn ex Q)(he:e.le e2):zA P r F W n e2 ds kn ex Q:=
 fun e' a' w' t' H' h1=>h e' a' w' t' H' (Em.le_trans he h1)
theorem oU {m n:Nat}{lv:List Nat}{k:List AV->Hp->R}{t:Tm}{H:Hp}(hm:lv.length=m):app m (abs m k) (ai lv t) H=k (ai lv t) H:=Fh m k _ H (by rw[Eb];exact hm)
def anX (P:Program)(n:Nat)(c:Code)(lv:List Nat)(p:Tm->Hp->Option Hp):Prop:=
 ∀ t H H2,p t H=some H2->∀ (F:Nat->Prop) (W:World) (e:Em) (a:Act) (w:World) (Q:Exit->Act->World->Prop),RH P.globals.size F W e H w->oC e n t a->
  (∀ e' a' w',e.le e'->RH P.globals.size F W e' H2 w'->oC e' n (dF n lv (ai lv t)) a'->a'.defers=a.defers->Q .normal a' w')->c.wp P Q a w
def mR (P:Program)(n:Nat):Code->An->Prop
 | .seq a b,an=>match an with | .sq _ x y=>mR P n a x/\mR P n b y | .pr lv p=>anX P n (.seq a b) lv p | _=>True
 | .cond _ a b,an=>match an with | .cd x y=>mR P n a x/\mR P n b y | _=>True
 | .block _ b,an=>match an with | .bl _ x=>mR P n b x | _=>True
 | .loop b,an=>match an with | .lp _ x=>mR P n b x | _=>True
 | _,_=>True
def An.plain:An->Bool
 | .nl=>true
 | .sq _ a b=>a.plain&&b.plain
 | .cd a b=>a.plain&&b.plain
 | .bl _ a=>a.plain
 | .lp _ a=>a.plain
 | .pr _ _=>false
theorem mR.plain (P:Program)(n:Nat):∀ (c:Code) (an:An),an.plain=true->mR P n c an:=by
 intro c
 induction c with
 | seq a b ia ib=>
  intro an h
  unfold mR
  cases an with
  | sq j x y=>simp only[An.plain,zf] at h;exact⟨ia x h.1,ib y h.2⟩
  | pr lv p=>cases h
  | _=>trivial
 | cond q a b ia ib=>
  intro an h
  unfold mR
  cases an with
  | cd x y=>simp only[An.plain,zf] at h;exact⟨ia x h.1,ib y h.2⟩
  | _=>trivial
 | block i b ib=>
  intro an h
  unfold mR
  cases an with
  | bl j x=>exact ib x h
  | _=>trivial
 | loop b ib=>
  intro an h
  unfold mR
  cases an with
  | lp lv x=>exact ib x h
  | _=>trivial
 | _=>intro an h;unfold mR;trivial
def uK (P:Program)(an:Nat->An):Prop:=∀ aB fn b,P.funcs[aB]? = some fn->fn.body=some b->mR P fn.ntmps b (an aB)
theorem uK.plain {P:Program}{an:Nat->An}(h:∀ g,(an g).plain=true):uK P an:=fun aB fn b _ _=>mR.plain P fn.ntmps b (an aB) (h aB)
def Fu:List (Nat × An)->Nat->An
 | [],_ => .nl
 | p::r,g=>bif Nat.beq g p.1 then p.2 else Fu r g
theorem XQ {P:Program}:∀ {l:List (Nat × An)},(∀ p∈l,p.2.plain=true\/∀ fn b,P.funcs[p.1]? = some fn->fn.body=some b->mR P fn.ntmps b p.2)->uK P (Fu l)
 | [],h=>uK.plain fun _=>rfl
 | p::r,h=>by
  intro aB fn b h1 h2
  show mR P fn.ntmps b (bif Nat.beq aB p.1 then p.2 else Fu r aB)
  cases hb:Nat.beq aB p.1 with
  | true=>
   obtain rfl:=aba hb
   rcases h p (.head _) with q | q
   ·exact mR.plain P _ _ _ q
   ·exact q fn b h1 h2
  | false=>exact XQ (fun q hq=>h q (.tail _ hq)) aB fn b h1 h2
theorem aoO {P:Program}{l:List (Nat × An)}(h:l.all (fun p=>p.2.plain)=true):uK P (Fu l):=XQ fun p hp => .inl (ac6.1 h p hp)
theorem aiU (hm:P.follows .mixedOrders=true)(gZ:En P reg){cf:CF}(gm:rC P cf){n:Nat}:∀ (c:Code) (an:An) (kn:KN) (ke:Nat->KN) (kr:KN) (t:Tm) (H:Hp) (r:AV × Hp),an.ok n=true->mR P n c an->cO P reg cf n c an kn ke kr t H=some r->
  ∀ (F:Nat->Prop) (W:World) (e:Em) (a:Act) (w:World) (Q:Exit->Act->World->Prop),RH P.globals.size F W e H w->oC e n t a->
   zA P r F W n e a.defers kn .normal Q->(∀ i,zA P r F W n e a.defers (ke i) (.exit i) Q)->zA P r F W n e a.defers kr .ret Q->c.wp P Q a w:=by
 intro c
 induction c with
 | skip=>
  intro an kn ke kr t H r ha mS hc F W e a w Q hR hT fP mN lY
  unfold cO at hc
  exact wp_skip (fP e a w t H e.le_refl hR hT rfl hc)
 | label l=>
  intro an kn ke kr t H r ha mS hc F W e a w Q hR hT fP mN lY
  unfold cO at hc
  exact wp_label (fP e a w t H e.le_refl hR hT rfl hc)
 | seq c1 c2 i1 i2=>
  intro an kn ke kr t H r ha mS hc F W e a w Q hR hT fP mN lY
  unfold cO at hc
  split at hc
  ·rename_i x y
   refine wp_seq ?_
   simp only[An.ok,zf] at ha
   refine i1 x _ _ _ t H r ha.1.2 mS.1 hc F W e a w _ hR hT ?_ ?_ ?_
   ·intro e' a' w' t' H' he cH dE hd hk
    refine i2 y _ _ _ t' H' r ha.2 mS.2 hk F W e' a' w' Q cH dE ?_ ?_ ?_
    ·rw[hd];exact fP.mono he
    ·intro i;rw[hd];exact (mN i).mono he
    ·rw[hd];exact lY.mono he
   ·intro i e' a' w' t' H' he cH dE hd hk
    exact mN i e' a' w' t' H' he cH dE hd hk
   ·intro e' a' w' t' H' he cH dE hd hk
    exact lY e' a' w' t' H' he cH dE hd hk
  ·rename_i lv x y
   refine wp_seq ?_
   simp only[An.ok,zf,agy] at ha
   have B6:=OW ha.1.1
   unfold JN at hc
   refine i1 x _ _ _ t H r ha.1.2 mS.1 hc F W e a w _ hR hT ?_ ?_ ?_
   ·intro e' a' w' t' H' he cH dE hd hk
    replace hk:=(oU (n:=n) rfl).symm.trans hk
    refine i2 y _ _ _ _ H' r ha.2 mS.2 hk F W e' a' w' Q cH (dE.dA B6) ?_ ?_ ?_
    ·rw[hd];exact fP.mono he
    ·intro i;rw[hd];exact (mN i).mono he
    ·rw[hd];exact lY.mono he
   ·intro i e' a' w' t' H' he cH dE hd hk
    exact mN i e' a' w' t' H' he cH dE hd hk
   ·intro e' a' w' t' H' he cH dE hd hk
    exact lY e' a' w' t' H' he cH dE hd hk
  ·rename_i lv p
   obtain⟨H2,h1,h2⟩:=fu hc
   exact mS t H H2 h1 F W e a w Q hR hT fun e' a' w' he cH dE hd=>fP e' a' w' _ H2 he cH dE hd h2
  ·cases hc
 | cond x c1 c2 i1 i2=>
  intro an kn ke kr t H r ha mS hc F W e a w Q hR hT fP mN lY
  unfold cO at hc
  split at hc
  ·rename_i y z
   simp only[An.ok,zf] at ha
   unfold CD at hc
   split at hc
   ·rename_i b hb
    have hv:=VR.ev hR hT.1 x
    rw[hb] at hv
    refine wp_cond hv.uU ?_
    cases b with
    | true=>exact i1 y _ _ _ t H r ha.1 mS.1 hc F W e a w Q hR hT fP mN lY
    | false=>exact i2 z _ _ _ t H r ha.2 mS.2 hc F W e a w Q hR hT fP mN lY
   ·cases hc
  ·cases hc
 | block i b ib=>
  intro an kn ke kr t H r ha mS hc F W e a w Q hR hT fP mN lY
  unfold cO at hc
  refine wp_block ?_
  have VJ:∀ (j:Nat) (e':Em) (a':Act) (w':World) (t':Tm) (H':Hp) (q:KN),e.le e'->RH P.globals.size F W e' H' w'->oC e' n t' a'->a'.defers=a.defers->
    (∀ e' a' w' t' H',e.le e'->RH P.globals.size F W e' H' w'->oC e' n t' a'->a'.defers=a.defers->q t' H'=some r->Q .normal a' w')->
    (bif Nat.beq j i then q t' H' else ke j t' H')=some r->Exit.inBlock i Q (.exit j) a' w':=by
   intro j e' a' w' t' H' q he cH dE hd hq hk
   show (if j=i then Q .normal a' w' else Q (.exit j) a' w')
   cases hj:Nat.beq j i with
   | true=>
    rw[hj] at hk
    rw[if_pos (aba hj)]
    exact hq e' a' w' t' H' he cH dE hd hk
   | false=>
    rw[hj] at hk
    rw[if_neg (fun q=>by rw[q,agU] at hj;cases hj)]
    exact mN j e' a' w' t' H' he cH dE hd hk
  split at hc
  ·rename_i x
   simp only[An.ok,zf] at ha
   refine ib x _ _ _ t H r ha.2 mS hc F W e a w _ hR hT ?_ ?_ ?_
   ·intro e' a' w' t' H' he cH dE hd hk
    exact fP e' a' w' t' H' he cH dE hd hk
   ·intro j e' a' w' t' H' he cH dE hd hk
    exact VJ j e' a' w' t' H' kn he cH dE hd fP hk
   ·intro e' a' w' t' H' he cH dE hd hk
    exact lY e' a' w' t' H' he cH dE hd hk
  ·rename_i lv x
   simp only[An.ok,zf,agy] at ha
   have B6:=OW ha.1
   unfold JN at hc
   have hj:∀ e' a' w' t' H',e.le e'->RH P.globals.size F W e' H' w'->oC e' n t' a'->a'.defers=a.defers->app lv.length (abs lv.length fun l H=>kn (dF n lv l) H) (ai lv t') H'=some r->Q .normal a' w':=by
    intro e' a' w' t' H' he cH dE hd hk
    replace hk:=(oU (n:=n) rfl).symm.trans hk
    exact fP e' a' w' _ H' he cH (dE.dA B6) hd hk
   refine ib x _ _ _ t H r ha.2 mS hc F W e a w _ hR hT ?_ ?_ ?_
   ·intro e' a' w' t' H' he cH dE hd hk
    exact hj e' a' w' t' H' he cH dE hd hk
   ·intro j e' a' w' t' H' he cH dE hd hk
    exact VJ j e' a' w' t' H' (fun t H=>app lv.length (abs lv.length fun l H=>kn (dF n lv l) H) (ai lv t) H) he cH dE hd hj hk
   ·intro e' a' w' t' H' he cH dE hd hk
    exact lY e' a' w' t' H' he cH dE hd hk
  ·cases hc
 | loop b ib=>
  intro an kn ke kr t H r ha mS hc F W e a w Q hR hT fP mN lY
  unfold cO at hc
  split at hc
  ·rename_i lv x
   simp only[An.ok,zf] at ha
   have B6:=OW ha.1
   unfold LP at hc
   replace hc:=(oU (n:=n) rfl).symm.trans hc
   obtain⟨L,hL⟩:=DU hc
   refine ZM ?_
   have key:∀ (L:Nat) (e:Em) (a:Act) (w:World) (t:Tm) (H:Hp),app lv.length (iN lv.length (fun k=>abs lv.length fun l H=>cO P reg cf n b x (fun t H=>app lv.length k (ai lv t) H) ke kr (dF n lv l) H) L) (ai lv t) H=some r->
     RH P.globals.size F W e H w->oC e n t a->(∀ i,zA P r F W n e a.defers (ke i) (.exit i) Q)->zA P r F W n e a.defers kr .ret Q->AP P b Q a w:=by
    intro L
    induction L with
    | zero=>
     intro e a w t H hq _ _ _ _
     replace hq:=(oU (m:=lv.length) (n:=n) (k:=fun _ _=>none) rfl).symm.trans hq
     cases hq
    | succ L ih=>
     intro e a w t H hq hR hT mN lY
     replace hq:=(oU (m:=lv.length) (n:=n) (k:=fun l H=>cO P reg cf n b x (fun t H=>app lv.length (iN lv.length (fun k=>abs lv.length fun l H=>cO P reg cf n b x (fun t H=>app lv.length k (ai lv t) H) ke kr (dF n lv l) H) L) (ai lv t) H) ke kr (dF n lv l) H) rfl).symm.trans hq
     refine VZ ?_
     refine ib x _ _ _ _ H r ha.2 mS hq F W e a w _ hR (hT.dA B6) ?_ ?_ ?_
     ·intro e' a' w' t' H' he cH dE hd hk
      refine ih e' a' w' t' H' hk cH dE ?_ ?_
      ·intro i;rw[hd];exact (mN i).mono he
      ·rw[hd];exact lY.mono he
     ·intro i e' a' w' t' H' he cH dE hd hk
      exact mN i e' a' w' t' H' he cH dE hd hk
     ·intro e' a' w' t' H' he cH dE hd hk
      exact lY e' a' w' t' H' he cH dE hd hk
   exact key L e a w t H hL hR hT mN lY
  ·cases hc
 | exit i=>
  intro an kn ke kr t H r ha mS hc F W e a w Q hR hT fP mN lY
  unfold cO at hc
  exact wp_exit (mN i e a w t H e.le_refl hR hT rfl hc)
 | ret=>
  intro an kn ke kr t H r ha mS hc F W e a w Q hR hT fP mN lY
  unfold cO at hc
  exact wp_ret (lY e a w t H e.le_refl hR hT rfl hc)
 | region id ops d=>
  intro an kn ke kr t H r ha mS hc F W e a w Q hR hT fP mN lY
  unfold cO at hc
  obtain⟨t1,H1,h1,h2⟩:=gZ cf n ops d t H kn r hc
  have gp:=aqn h1 hT.2
  have fin:∀ e' a' w',e.le e'->RH P.globals.size F W e' H1 w'->TR e' n t1 a'->a'.defers=a.defers->Q .normal a' w':=fun e' a' w' he cH dE hd=>fP e' a' w' t1 H1 he cH ⟨dE,gp⟩ hd h2
  cases d with
  | true=>exact YY hm gm h1 hR hT.1 fin
  | false=>
   refine wp_region ?_
   have:=U8 (Q:=Q) gm ops.toList 0 t H e a w (by simp) h1 hR hT.1 fin
   rw[List.range_eq_range']
   simpa using this
 | _=>
  intro an kn ke kr t H r ha mS hc
  unfold cO at hc
  cases hc
def Ev (p:Nat->Prop):Prop:=∃ k0,∀ k,k0<=k->p k
theorem Ev.of {p:Nat->Prop}(h:∀ k,p k):Ev p:=⟨0,fun k _=>h k⟩
def sY (f:Nat->CF)(g:CF):Prop:=∀ x l H r,g x l H=some r->Ev fun k=>f k x l H=some r
def wK (f:Nat->KN)(g:KN):Prop:=∀ t H r,g t H=some r->Ev fun k=>f k t H=some r
def wi (reg:rO):Prop:=∀ (dM:Nat->CF) (cf:CF) (kT:Nat->KN) (kn:KN) (n:Nat) (ops:Array Oper) (d:Bool) (t:Tm) (H:Hp) (r:AV × Hp),sY dM cf->wK kT kn->reg cf n ops d t H kn=some r->Ev fun k=>reg (dM k) n ops d t H (kT k)=some r
theorem Jx (gZ:wi reg){n:Nat}:∀ (c:Code) (an:An) (dM:Nat->CF) (cf:CF) (kT:Nat->KN) (kn:KN) (lK:Nat->Nat->KN) (ke:Nat->KN) (kN:Nat->KN) (kr:KN) (t:Tm) (H:Hp) (r:AV × Hp),
  sY dM cf->wK kT kn->(∀ i,wK (fun k=>lK k i) (ke i))->wK kN kr->cO P reg cf n c an kn ke kr t H=some r->Ev fun k=>cO P reg (dM k) n c an (kT k) (lK k) (kN k) t H=some r:=by
 intro c
 induction c with
 | skip=>intro an dM cf kT kn lK ke kN kr t H r h1 h2 h3 h4 hc;unfold cO at hc ⊢;exact h2 t H r hc
 | label l=>intro an dM cf kT kn lK ke kN kr t H r h1 h2 h3 h4 hc;unfold cO at hc ⊢;exact h2 t H r hc
 | seq c1 c2 i1 i2=>
  intro an dM cf kT kn lK ke kN kr t H r h1 h2 h3 h4 hc
  unfold cO at hc ⊢
  cases an with
  | sq j x y=>
   cases j with
   | none=>exact i1 x dM cf _ _ lK ke kN kr t H r h1 (fun t H r h=>i2 y dM cf kT kn lK ke kN kr t H r h1 h2 h3 h4 h) h3 h4 hc
   | some lv=>
    simp only[JN] at hc ⊢
    refine i1 x dM cf _ _ lK ke kN kr t H r h1 (fun t H r h => ?_) h3 h4 hc
    replace h:=(oU (n:=n) rfl).symm.trans h
    obtain⟨k0,hk⟩:=i2 y dM cf kT kn lK ke kN kr _ H r h1 h2 h3 h4 h
    exact⟨k0,fun k hle=>(oU (n:=n) rfl).trans (hk k hle)⟩
  | pr lv p=>
   simp only at hc ⊢
   obtain⟨H2,q1,q2⟩:=fu hc
   obtain⟨k0,hk⟩:=h2 _ H2 r q2
   exact⟨k0,fun k hle=>by rw[q1];exact hk k hle⟩
  | _=>cases hc
 | cond x c1 c2 i1 i2=>
  intro an dM cf kT kn lK ke kN kr t H r h1 h2 h3 h4 hc
  unfold cO at hc ⊢
  cases an with
  | cd y z=>
   simp only[CD] at hc ⊢
   cases hv:ev P.globals.size t x<;>rw[hv] at hc<;>simp only at hc ⊢ <;> try (cases hc;done)
   rename_i q
   cases q with
   | true=>exact i1 y dM cf kT kn lK ke kN kr t H r h1 h2 h3 h4 hc
   | false=>exact i2 z dM cf kT kn lK ke kN kr t H r h1 h2 h3 h4 hc
  | _=>cases hc
 | block i b ib=>
  intro an dM cf kT kn lK ke kN kr t H r h1 h2 h3 h4 hc
  unfold cO at hc ⊢
  cases an with
  | bl j x=>
   cases j with
   | none=>
    refine ib x dM cf kT kn _ _ kN kr t H r h1 h2 (fun q t H r h => ?_) h4 hc
    cases hq:Nat.beq q i with
    | true=>rw[hq] at h;simp only[hq,cond_true];exact h2 t H r h
    | false=>rw[hq] at h;simp only[hq,cond_false];exact h3 q t H r h
   | some lv=>
    simp only[JN] at hc ⊢
    have hj:wK (fun k=>fun t H=>app lv.length (abs lv.length fun l H=>kT k (dF n lv l) H) (ai lv t) H) (fun t H=>app lv.length (abs lv.length fun l H=>kn (dF n lv l) H) (ai lv t) H):=by
     intro t H r h
     replace h:=(oU (n:=n) rfl).symm.trans h
     obtain⟨k0,hk⟩:=h2 _ H r h
     exact⟨k0,fun k hle=>(oU (n:=n) rfl).trans (hk k hle)⟩
    refine ib x dM cf _ _ _ _ kN kr t H r h1 hj (fun q t H r h => ?_) h4 hc
    cases hq:Nat.beq q i with
    | true=>rw[hq] at h;simp only[hq,cond_true];exact hj t H r h
    | false=>rw[hq] at h;simp only[hq,cond_false];exact h3 q t H r h
  | _=>cases hc
 | loop b ib=>
  intro an dM cf kT kn lK ke kN kr t H r h1 h2 h3 h4 hc
  unfold cO at hc ⊢
  cases an with
  | lp lv x=>
   simp only at hc ⊢
   have const:∀ (f:CF),sY (fun _=>f) f:=fun f x l H r h=>Ev.of fun _=>h
   have qE:∀ (f:KN),wK (fun _=>f) f:=fun f t H r h=>Ev.of fun _=>h
   have mono:∀ (f:CF) (ke:Nat->KN) (kr:KN) (L L':Nat) (t:Tm) (H:Hp) (r:AV × Hp),L<=L'->app lv.length (iN lv.length (fun k=>abs lv.length fun l H=>cO P reg f n b x (fun t H=>app lv.length k (ai lv t) H) ke kr (dF n lv l) H) L) (ai lv t) H=some r->
     app lv.length (iN lv.length (fun k=>abs lv.length fun l H=>cO P reg f n b x (fun t H=>app lv.length k (ai lv t) H) ke kr (dF n lv l) H) L') (ai lv t) H=some r:=by
    intro f ke kr L
    induction L with
    | zero=>
     intro L' t H r _ h
     rw[show iN lv.length _ 0=abs lv.length (fun _ _=>none) from rfl,oU (n:=n) rfl] at h
     cases h
    | succ L ih=>
     intro L' t H r hle h
     obtain⟨L2,rfl⟩:∃ L2,L'=L2+1:=⟨L'-1,by omega⟩
     rw[show iN lv.length _ (L+1)=abs lv.length _ from rfl,oU (n:=n) rfl] at h
     rw[show iN lv.length _ (L2+1)=abs lv.length _ from rfl,oU (n:=n) rfl]
     obtain⟨k0,hk⟩:=ib x (fun _=>f) f (fun _=>fun t H=>app lv.length (iN lv.length _ L2) (ai lv t) H) (fun t H=>app lv.length (iN lv.length _ L) (ai lv t) H) (fun _=>ke) ke (fun _=>kr) kr _ H r (const f) (fun t H r h=>Ev.of fun _=>ih L2 t H r (by omega) h) (fun i=>qE (ke i)) (qE kr) h
     exact hk k0 (aar _)
   have uniq:∀ (f:CF) (ke:Nat->KN) (kr:KN) (t:Tm) (H:Hp) (L L':Nat) (r r':AV × Hp),app lv.length (iN lv.length (fun k=>abs lv.length fun l H=>cO P reg f n b x (fun t H=>app lv.length k (ai lv t) H) ke kr (dF n lv l) H) L) (ai lv t) H=some r->
     app lv.length (iN lv.length (fun k=>abs lv.length fun l H=>cO P reg f n b x (fun t H=>app lv.length k (ai lv t) H) ke kr (dF n lv l) H) L') (ai lv t) H=some r'->r=r':=by
    intro f ke kr t H L L' r r' h h'
    rcases Nat.le_total L L' with q | q
    ·have:=mono f ke kr L L' t H r q h
     rw[this] at h';exact adz h'
    ·have:=mono f ke kr L' L t H r' q h'
     rw[h] at this;exact adz this
   have afC:∀ (f:CF) (ke:Nat->KN) (kr:KN) (t:Tm) (H:Hp) (L:Nat) (r:AV × Hp),app lv.length (iN lv.length (fun k=>abs lv.length fun l H=>cO P reg f n b x (fun t H=>app lv.length k (ai lv t) H) ke kr (dF n lv l) H) L) (ai lv t) H=some r->
     app lv.length (LP lv.length (fun k=>abs lv.length fun l H=>cO P reg f n b x (fun t H=>app lv.length k (ai lv t) H) ke kr (dF n lv l) H)) (ai lv t) H=some r:=by
    intro f ke kr t H L r h
    unfold LP
    rw[oU (n:=n) rfl]
    exact KW h (uniq f ke kr t H)
   have ZA:∀ (f:CF) (ke:Nat->KN) (kr:KN) (t:Tm) (H:Hp) (r:AV × Hp),app lv.length (LP lv.length (fun k=>abs lv.length fun l H=>cO P reg f n b x (fun t H=>app lv.length k (ai lv t) H) ke kr (dF n lv l) H)) (ai lv t) H=some r->
     ∃ L,app lv.length (iN lv.length (fun k=>abs lv.length fun l H=>cO P reg f n b x (fun t H=>app lv.length k (ai lv t) H) ke kr (dF n lv l) H) L) (ai lv t) H=some r:=by
    intro f ke kr t H r h
    unfold LP at h
    replace h:=(oU (n:=n) rfl).symm.trans h
    exact DU h
   have roll:∀ (f:CF) (ke:Nat->KN) (kr:KN) (t:Tm) (H:Hp) (r:AV × Hp),cO P reg f n b x (fun t H=>app lv.length (LP lv.length (fun k=>abs lv.length fun l H=>cO P reg f n b x (fun t H=>app lv.length k (ai lv t) H) ke kr (dF n lv l) H)) (ai lv t) H) ke kr (dF n lv (ai lv t)) H=some r->
     app lv.length (LP lv.length (fun k=>abs lv.length fun l H=>cO P reg f n b x (fun t H=>app lv.length k (ai lv t) H) ke kr (dF n lv l) H)) (ai lv t) H=some r:=by
    intro f ke kr t H r h
    obtain⟨k0,hk⟩:=ib x (fun _=>f) f (fun L=>fun t H=>app lv.length (iN lv.length (fun k=>abs lv.length fun l H=>cO P reg f n b x (fun t H=>app lv.length k (ai lv t) H) ke kr (dF n lv l) H) L) (ai lv t) H) _ (fun _=>ke) ke (fun _=>kr) kr _ H r (const f)
     (fun t H r h=>by
      obtain⟨L,hL⟩:=ZA f ke kr t H r h
      exact⟨L,fun k hle=>mono f ke kr L k t H r hle hL⟩) (fun i=>qE (ke i)) (qE kr) h
    refine afC f ke kr t H (k0+1) r ?_
    rw[show iN lv.length _ (k0+1)=abs lv.length _ from rfl,oU (n:=n) rfl]
    exact hk k0 (aar _)
   obtain⟨L,hL⟩:=ZA cf ke kr t H r hc
   clear hc
   induction L generalizing t H r with
   | zero=>
    rw[show iN lv.length _ 0=abs lv.length (fun _ _=>none) from rfl,oU (n:=n) rfl] at hL
    cases hL
   | succ L ih=>
    rw[show iN lv.length _ (L+1)=abs lv.length _ from rfl,oU (n:=n) rfl] at hL
    obtain⟨k0,hk⟩:=ib x dM cf (fun k=>fun t H=>app lv.length (LP lv.length (fun q=>abs lv.length fun l H=>cO P reg (dM k) n b x (fun t H=>app lv.length q (ai lv t) H) (lK k) (kN k) (dF n lv l) H)) (ai lv t) H) _ lK ke kN kr _ H r h1 (fun t H r h=>ih t H r h) h3 h4 hL
    exact⟨k0,fun k hle=>roll (dM k) (lK k) (kN k) t H r (hk k hle)⟩
  | _=>cases hc
 | exit i=>intro an dM cf kT kn lK ke kN kr t H r h1 h2 h3 h4 hc;unfold cO at hc ⊢;exact h3 i t H r hc
 | ret=>intro an dM cf kT kn lK ke kN kr t H r h1 h2 h3 h4 hc;unfold cO at hc ⊢;exact h4 t H r hc
 | region id ops d=>intro an dM cf kT kn lK ke kN kr t H r h1 h2 h3 h4 hc;unfold cO at hc ⊢;exact gZ dM cf kT kn n ops d t H r h1 h2 hc
 | _=>
  intro an dM cf kT kn lK ke kN kr t H r h1 h2 h3 h4 hc
  unfold cO at hc
  cases hc
end K
end
namespace K
section
variable {P:Program}{reg:rO}
theorem acy (gZ:wi reg)(f:CF)(n:Nat)(b:Code)(x:An)(lv:List Nat)(ke:Nat->KN)(kr:KN)(l:List AV)(hl:l.length=lv.length)(H:Hp) :
  app lv.length (LP lv.length (fun k=>abs lv.length fun l H=>cO P reg f n b x (fun t H=>app lv.length k (ai lv t) H) ke kr (dF n lv l) H)) l H=
   cO P reg f n b x (fun t H=>app lv.length (LP lv.length (fun k=>abs lv.length fun l H=>cO P reg f n b x (fun t H=>app lv.length k (ai lv t) H) ke kr (dF n lv l) H)) (ai lv t) H) ke kr (dF n lv l) H:=by
 have const:sY (fun _=>f) f:=fun x l H r h=>Ev.of fun _=>h
 have qE:∀ (f:KN),wK (fun _=>f) f:=fun f t H r h=>Ev.of fun _=>h
 have Ko:∀ (L:Nat) (l:List AV) (H:Hp),l.length=lv.length->app lv.length (iN lv.length (fun k=>abs lv.length fun l H=>cO P reg f n b x (fun t H=>app lv.length k (ai lv t) H) ke kr (dF n lv l) H) (L+1)) l H=
   cO P reg f n b x (fun t H=>app lv.length (iN lv.length (fun k=>abs lv.length fun l H=>cO P reg f n b x (fun t H=>app lv.length k (ai lv t) H) ke kr (dF n lv l) H) L) (ai lv t) H) ke kr (dF n lv l) H:=fun L l H hl=>by
  rw[show iN lv.length _ (L+1)=abs lv.length _ from rfl,Fh _ _ _ _ hl]
 have zero:∀ (l:List AV) (H:Hp),l.length=lv.length->app lv.length (iN lv.length (fun k=>abs lv.length fun l H=>cO P reg f n b x (fun t H=>app lv.length k (ai lv t) H) ke kr (dF n lv l) H) 0) l H=none:=fun l H hl=>by
  rw[show iN lv.length _ 0=abs lv.length (fun _ _=>none) from rfl,Fh _ _ _ _ hl]
 have mono:∀ (L L':Nat) (l:List AV) (H:Hp) (r:AV × Hp),l.length=lv.length->L<=L'->app lv.length (iN lv.length (fun k=>abs lv.length fun l H=>cO P reg f n b x (fun t H=>app lv.length k (ai lv t) H) ke kr (dF n lv l) H) L) l H=some r->
   app lv.length (iN lv.length (fun k=>abs lv.length fun l H=>cO P reg f n b x (fun t H=>app lv.length k (ai lv t) H) ke kr (dF n lv l) H) L') l H=some r:=by
  intro L
  induction L with
  | zero=>intro L' l H r hl _ h;rw[zero l H hl] at h;cases h
  | succ L ih=>
   intro L' l H r hl hle h
   obtain⟨L2,rfl⟩:∃ L2,L'=L2+1:=⟨L'-1,by omega⟩
   rw[Ko L l H hl] at h
   rw[Ko L2 l H hl]
   obtain⟨k0,hk⟩:=Jx gZ b x (fun _=>f) f (fun _=>_) _ (fun _=>ke) ke (fun _=>kr) kr _ H r const (fun t H r h=>Ev.of fun _=>ih L2 (ai lv t) H r (Eb lv t) (by omega) h) (fun i=>qE (ke i)) (qE kr) h
   exact hk k0 (aar _)
 have uniq:∀ (l:List AV) (H:Hp),l.length=lv.length->∀ (L L':Nat) (r r':AV × Hp),app lv.length (iN lv.length (fun k=>abs lv.length fun l H=>cO P reg f n b x (fun t H=>app lv.length k (ai lv t) H) ke kr (dF n lv l) H) L) l H=some r->
   app lv.length (iN lv.length (fun k=>abs lv.length fun l H=>cO P reg f n b x (fun t H=>app lv.length k (ai lv t) H) ke kr (dF n lv l) H) L') l H=some r'->r=r':=by
  intro l H hl L L' r r' h h'
  rcases Nat.le_total L L' with q | q
  ·have:=mono L L' l H r hl q h
   rw[this] at h';exact adz h'
  ·have:=mono L' L l H r' hl q h'
   rw[h] at this;exact adz this
 have ET:∀ (l:List AV) (H:Hp),l.length=lv.length->app lv.length (LP lv.length (fun k=>abs lv.length fun l H=>cO P reg f n b x (fun t H=>app lv.length k (ai lv t) H) ke kr (dF n lv l) H)) l H=lim (fun L=>app lv.length (iN lv.length (fun k=>abs lv.length fun l H=>cO P reg f n b x (fun t H=>app lv.length k (ai lv t) H) ke kr (dF n lv l) H) L) l H):=fun l H hl=>by
  unfold LP
  rw[Fh _ _ _ _ hl]
 have fwd:∀ (r:AV × Hp),app lv.length (LP lv.length (fun k=>abs lv.length fun l H=>cO P reg f n b x (fun t H=>app lv.length k (ai lv t) H) ke kr (dF n lv l) H)) l H=some r->
   cO P reg f n b x (fun t H=>app lv.length (LP lv.length (fun k=>abs lv.length fun l H=>cO P reg f n b x (fun t H=>app lv.length k (ai lv t) H) ke kr (dF n lv l) H)) (ai lv t) H) ke kr (dF n lv l) H=some r:=by
  intro r h
  rw[ET l H hl] at h
  obtain⟨L,hL⟩:=DU h
  cases L with
  | zero=>rw[zero l H hl] at hL;cases hL
  | succ L=>
   rw[Ko L l H hl] at hL
   obtain⟨k0,hk⟩:=Jx gZ b x (fun _=>f) f (fun _=>fun t H=>app lv.length (LP lv.length (fun k=>abs lv.length fun l H=>cO P reg f n b x (fun t H=>app lv.length k (ai lv t) H) ke kr (dF n lv l) H)) (ai lv t) H) _ (fun _=>ke) ke (fun _=>kr) kr _ H r const
    (fun t H r h=>Ev.of fun _=>(ET _ H (Eb lv t)).trans (KW h (uniq _ H (Eb lv t)))) (fun i=>qE (ke i)) (qE kr) hL
   exact hk k0 (aar _)
 have bwd:∀ (r:AV × Hp),cO P reg f n b x (fun t H=>app lv.length (LP lv.length (fun k=>abs lv.length fun l H=>cO P reg f n b x (fun t H=>app lv.length k (ai lv t) H) ke kr (dF n lv l) H)) (ai lv t) H) ke kr (dF n lv l) H=some r->
   app lv.length (LP lv.length (fun k=>abs lv.length fun l H=>cO P reg f n b x (fun t H=>app lv.length k (ai lv t) H) ke kr (dF n lv l) H)) l H=some r:=by
  intro r h
  obtain⟨k0,hk⟩:=Jx gZ b x (fun _=>f) f (fun L=>fun t H=>app lv.length (iN lv.length (fun k=>abs lv.length fun l H=>cO P reg f n b x (fun t H=>app lv.length k (ai lv t) H) ke kr (dF n lv l) H) L) (ai lv t) H) _ (fun _=>ke) ke (fun _=>kr) kr _ H r const
   (fun t H r h=>by
    replace h:=(ET _ H (Eb lv t)).symm.trans h
    obtain⟨L,hL⟩:=DU h
    exact⟨L,fun k hle=>mono L k _ H r (Eb lv t) hle hL⟩) (fun i=>qE (ke i)) (qE kr) h
  rw[ET l H hl]
  refine KW (L:=k0+1) ?_ (uniq l H hl)
  rw[Ko k0 l H hl]
  exact hk k0 (aar _)
 cases h1:app lv.length (LP lv.length (fun k=>abs lv.length fun l H=>cO P reg f n b x (fun t H=>app lv.length k (ai lv t) H) ke kr (dF n lv l) H)) l H with
 | some r=>exact (fwd r h1).symm
 | none=>
  cases h2:cO P reg f n b x (fun t H=>app lv.length (LP lv.length (fun k=>abs lv.length fun l H=>cO P reg f n b x (fun t H=>app lv.length k (ai lv t) H) ke kr (dF n lv l) H)) (ai lv t) H) ke kr (dF n lv l) H with
  | none=>rfl
  | some r=>rw[bwd r h2] at h1;cases h1
end
def Cd (P:Program)(t:Tm)(H:Hp):List ResultVar->(List AV->R)->R
 | [],k=>k []
 | .tmp x::r,k=>Cd P t H r fun l=>k ((t.get x).getD cP::l)
 | .cell a ty::r,k=>match xe P ty,sz P ty with
  | some true,some n=>B1 (af n ((t.get a).getD cP) H) fun v=>Cd P t H r fun l=>k (v::l)
  | some false,_=>B1 (ld ((t.get a).getD cP) H) fun v=>Cd P t H r fun l=>k (v::l)
  | _,_=>none
def A5 (P:Program)(t:Tm)(H:Hp)(l:List ResultVar):R:=Cd P t H l fun vs=>some (J6 vs,H)
theorem aiZ {P:Program}{ty:TypeId}{x v:AV}{H:Hp}(ha:xe P ty=some false)(h:ld x H=some v):sO P H ty x=some v:=by
 unfold ld at h
 split at h
 ·unfold sO
  simp only[ha,acT,ac0,abZ,if_false,h]
 ·cases h
theorem ady {P:Program}{ty:TypeId}{n:Nat}{x v:AV}{H:Hp}(ha:xe P ty=some true)(hs:sz P ty=some n)(h:af n x H=some v):sO P H ty x=some v:=by
 unfold af at h
 split at h
 ·rename_i i off
  unfold sO
  simp only[ha,hs,acT,ac0,if_true]
  cases hc:dQ H i off n with
  | none=>rw[hc] at h;cases h
  | some l=>rw[hc] at h;cases h;rfl
 ·cases h
theorem Ih {P:Program}{t:Tm}{H:Hp}:∀ (l:List ResultVar) (k:List AV->R) (r:AV × Hp),Cd P t H l k=some r->∃ vs,tH P t H l=some vs/\k vs=some r
 | [],k,r,h=>⟨[],rfl,h⟩
 | .tmp x::l,k,r,h=>by
  unfold Cd at h
  obtain⟨vs,h1,h2⟩:=Ih l _ r h
  exact⟨_,by unfold tH;rw[h1],h2⟩
 | .cell a ty::l,k,r,h=>by
  unfold Cd at h
  split at h
  ·rename_i n ha hs
   obtain⟨v,q1,q2⟩:=fu h
   obtain⟨vs,h1,h2⟩:=Ih l _ r q2
   exact⟨_,by unfold tH;rw[ady ha hs q1,h1],h2⟩
  ·rename_i q ha hs
   obtain⟨v,q1,q2⟩:=fu h
   obtain⟨vs,h1,h2⟩:=Ih l _ r q2
   exact⟨_,by unfold tH;rw[aiZ hs q1,h1],h2⟩
  ·cases h
def Hu (n:Nat)(args:List AV):Tm:=Tr.dh .nil 0 (args++List.replicate (n-args.length) cP)
noncomputable section
def aey (P:Program)(reg:rO)(cf:CF)(fn:Func)(an:An)(b:Code)(args:List AV)(H:Hp):R:=
 cO P reg cf fn.ntmps b an (fun t H=>A5 P t H fn.results.toList) (fun _ _ _=>none) (fun t H=>A5 P t H fn.results.toList) (Hu fn.ntmps args) H
def vU (P:Program)(reg:rO)(ext:Nat->Option Ext)(aw:Nat->Option Prim)(an:Nat->An)(cf:CF):CF:=fun g args H=>
 match g with
 | .func (.func aB) first cap=>
  match aw aB with
  | some p=>p (first++args++cap) H
  | none=>match P.funcs[aB]? with
   | some fn=>match fn.body with
    | some b=>bif Nat.ble (first++args++cap).length fn.ntmps&&Nat.blt fn.ntmps 4294967296&&(an aB).ok fn.ntmps then aey P reg cf fn (an aB) b (first++args++cap) H else none
    | none=>match ext aB with
     | some k=>C3 P k (first++args++cap) H
     | none=>none
   | none=>none
 | _=>none
def SK (P:Program)(reg:rO)(ext:Nat->Option Ext)(aw:Nat->Option Prim)(an:Nat->An):Nat->CF
 | 0=>fun _ _ _=>none
 | k+1=>vU P reg ext aw an (SK P reg ext aw an k)
def CK (P:Program)(reg:rO)(ext:Nat->Option Ext)(aw:Nat->Option Prim)(an:Nat->An):CF:=fun g args H=>lim fun k=>SK P reg ext aw an k g args H
end
section
variable {P:Program}{reg:rO}{ext:Nat->Option Ext}{aw:Nat->Option Prim}{an:Nat->An}
theorem abN (gZ:wi reg){dM:Nat->CF}{cf:CF}(h:sY dM cf):sY (fun k=>vU P reg ext aw an (dM k)) (vU P reg ext aw an cf):=by
 intro g args H r hc
 unfold vU at hc ⊢
 cases g<;>try (cases hc;done)
 rename_i fn first cap
 cases fn<;>try (cases hc;done)
 rename_i aB
 simp only at hc ⊢
 cases hp:aw aB with
 | some p=>rw[hp] at hc;exact Ev.of fun _=>hc
 | none=>
  rw[hp] at hc
  simp only at hc ⊢
  cases hf:P.funcs[aB]? with
  | none=>rw[hf] at hc;cases hc
  | some fn=>
   rw[hf] at hc
   simp only at hc ⊢
   cases hb:fn.body with
   | none=>rw[hb] at hc;exact Ev.of fun _=>hc
   | some b=>
    rw[hb] at hc
    simp only at hc ⊢
    cases hk:(Nat.ble (first++args++cap).length fn.ntmps&&Nat.blt fn.ntmps 4294967296&&(an aB).ok fn.ntmps) with
    | false=>rw[hk] at hc;cases hc
    | true=>
     rw[hk] at hc
     simp only[cond_true] at hc ⊢
     have qE:∀ (f:KN),wK (fun _=>f) f:=fun f t H r h=>Ev.of fun _=>h
     exact Jx gZ b (an aB) dM cf _ _ _ _ _ _ _ H r h (qE _) (fun i=>qE _) (qE _) hc
theorem Zi (gZ:wi reg):∀ k,sY (fun _=>SK P reg ext aw an (k+1)) (SK P reg ext aw an k)
 | 0=>fun g l H r h=>by cases h
 | k+1=>fun g l H r h=>by
  obtain⟨k0,hk⟩:=abN (P:=P) (ext:=ext) (aw:=aw) (an:=an) gZ (Zi gZ k) g l H r h
  exact Ev.of fun _=>hk k0 (aar _)
theorem PS (gZ:wi reg){g:AV}{l:List AV}{H:Hp}{r:AV × Hp}:∀ {j k:Nat},j<=k->SK P reg ext aw an j g l H=some r->SK P reg ext aw an k g l H=some r:=by
 intro j k hle h
 induction hle with
 | refl=>exact h
 | step _ ih=>
  obtain⟨k0,hk⟩:=Zi gZ _ g l H r ih
  exact hk k0 (aar _)
theorem aqu (gZ:wi reg){g:AV}{l:List AV}{H:Hp}(j k:Nat)(r r':AV × Hp)(h:SK P reg ext aw an j g l H=some r)(h':SK P reg ext aw an k g l H=some r'):r=r':=by
 rcases Nat.le_total j k with q | q
 ·rw[PS gZ q h] at h';exact adz h'
 ·have:=PS gZ q h'
  rw[h] at this;exact adz this
theorem ah9 (gZ:wi reg):sY (SK P reg ext aw an) (CK P reg ext aw an):=by
 intro g l H r h
 obtain⟨k0,hk⟩:=DU h
 exact⟨k0,fun k hle=>PS gZ hle hk⟩
theorem Qz (gZ:wi reg){g:AV}{l:List AV}{H:Hp}{r:AV × Hp}(h:vU P reg ext aw an (CK P reg ext aw an) g l H=some r):CK P reg ext aw an g l H=some r:=by
 obtain⟨k0,hk⟩:=abN (P:=P) (ext:=ext) (aw:=aw) (an:=an) gZ (ah9 gZ) g l H r h
 exact KW (L:=k0+1) (hk k0 (aar _)) (fun j k r r'=>aqu gZ j k r r')
theorem apx (hm:P.follows .mixedOrders=true)(hN:jY P)(hE:tZ P ext)(hP:qW P aw)(gZ:En P reg)(hA:uK P an){cf:CF}(gm:rC P cf):rC P (vU P reg ext aw an cf):=by
 intro g args H v H' hc
 unfold vU at hc
 split at hc
 ·rename_i aB first cap
  refine⟨aB,first,cap,rfl,?_⟩
  intro F W e w ar hR lx
  split at hc
  ·rename_i p hp
   exact .inr (hP aB p hp _ H v H' hc F W e w ar hR lx)
  ·split at hc
   ·rename_i fn hf
    split at hc
    ·rename_i b hb
     cases hle:(Nat.ble (first++args++cap).length fn.ntmps&&Nat.blt fn.ntmps 4294967296&&(an aB).ok fn.ntmps) with
     | false=>rw[hle] at hc;cases hc
     | true=>
     rw[hle] at hc
     simp only[cond_true] at hc
     rw[zf,zf,ado,adn] at hle
     refine .inr ⟨rF hN hf hb ar w,?_⟩
     have hlen:ar.size=(first++args++cap).length:=by have:=lx.1;simpa using this
     have hT:oC e fn.ntmps (Hu fn.ntmps (first++args++cap)) { tmps:=ar++Array.replicate (fn.ntmps-ar.size) undef,defers:=[] }:=by
      have qG:((first++args++cap)++List.replicate (fn.ntmps-(first++args++cap).length) cP).length=fn.ntmps:=by
       rw[abz,aeg];omega
      refine⟨⟨by simp;omega,fun x => ?_⟩,fun x hx => ?_⟩
      ·unfold Hu
       rw[Cz]
       simp only[yS,adf,true_and,ae9,qG]
       by_cases hx:x<(first++args++cap).length
       ·rw[if_pos (by omega),abU hx]
        have h1:(first++args++cap)[x]? = some (first++args++cap)[x]:=aax hx
        obtain⟨v',h2,h3⟩:=lx.get h1
        rw[h1,agy,adt,Array.getElem?_append_left (by omega),<-adm,h2]
        exact h3
       ·have hu:(ar++Array.replicate (fn.ntmps-ar.size) undef).getD x undef=undef:=by
         rw[adt,Array.getElem?_append_right (by omega),Array.getElem?_replicate]
         split<;>rfl
        simp only[hu]
        split
        ·rw[acs (by omega),agO]
         split
         ·exact VR.undef
         ·exact VR.undef
        ·rw[Tr.get_nil];exact VR.undef
      ·unfold Hu
       rw[Cz,qG,if_neg (by omega),Tr.get_nil]
     refine calls_of_wp hf hb (aiU hm gZ gm b (an aB) _ _ _ _ H (v,H') hle.2 (hA aB fn b hf hb) hc F W e _ w _ hR hT ?_ ?_ ?_)
     ·intro e' a' w' t' H2 he cH dE hd hk
      unfold A5 at hk
      obtain⟨vs,su,jm⟩:=Ih _ _ _ hk
      cases jm
      obtain⟨u,hu,gu⟩:=SW cH dE.1 su
      exact⟨hd,u,hu,e',u,rfl,he,cH,gu⟩
     ·intro i e' a' w' t' H2 he cH dE hd hk
      cases hk
     ·intro e' a' w' t' H2 he cH dE hd hk
      unfold A5 at hk
      obtain⟨vs,su,jm⟩:=Ih _ _ _ hk
      cases jm
      obtain⟨u,hu,gu⟩:=SW cH dE.1 su
      exact⟨hd,u,hu,e',u,rfl,he,cH,gu⟩
    ·rename_i hb
     split at hc
     ·rename_i k hk
      obtain⟨v',w',e',h1,h2,h3,h4⟩:=aaU hR lx hc
      refine .inl ⟨v',w',e',?_,h2,h3,h4⟩
      rw[hE aB k hk,Sem.run_bind,h1]
      rfl
     ·cases hc
   ·cases hc
 ·cases hc
theorem WU (hm:P.follows .mixedOrders=true)(hN:jY P)(hE:tZ P ext)(hP:qW P aw)(gZ:En P reg)(hA:uK P an):∀ k,rC P (SK P reg ext aw an k)
 | 0=>fun g args H v H' h=>by cases h
 | k+1=>apx hm hN hE hP gZ hA (WU hm hN hE hP gZ hA k)
theorem alG (hm:P.follows .mixedOrders=true)(hN:jY P)(hE:tZ P ext)(hP:qW P aw)(gZ:En P reg)(hA:uK P an):rC P (CK P reg ext aw an):=by
 intro g args H v H' h
 obtain⟨k,hk⟩:=DU h
 exact WU hm hN hE hP gZ hA k g args H v H' hk
theorem afR (hm:P.follows .mixedOrders=true)(hN:jY P)(hE:tZ P ext)(hP:qW P aw)(gZ:En P reg)(hA:uK P an){g:Nat}{args:List AV}{H:Hp}{v:AV}{H':Hp}(h:CK P reg ext aw an (.func (.func g) [] []) args H=some (v,H')){fn:Func}{b:Code}
  (hf:P.funcs[g]? = some fn) (hb:fn.body=some b) {F:Nat->Prop} {W:World} {e:Em} {w:World} {ar:Array Value} (hR:RH P.globals.size F W e H w) (ha:az e args ar.toList):Calls P g ar w (Dw P.globals.size F W e v H'):=by
 obtain⟨aB,first,cap,hg,hs⟩:=alG hm hN hE hP gZ hA _ _ _ _ _ h
 cases hg
 rcases hs F W e w ar hR (by simpa using ha) with⟨v',w',e',h1,_⟩ | ⟨_,h2⟩
 ·rw[rF hN hf hb] at h1
  cases h1
 ·exact h2
end
end K
end Go.Proofs.YtehhgkgeldinkaaGreatDoor.Am
