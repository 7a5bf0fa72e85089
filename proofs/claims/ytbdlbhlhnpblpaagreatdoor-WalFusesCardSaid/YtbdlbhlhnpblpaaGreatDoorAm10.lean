/- Laws that the proof uses. -/
import Derived.Test.YtbdlbhlhnpblpaaGreatDoorAm9
set_option linter.unusedVariables false
set_option linter.unusedSimpArgs false
namespace Go.Proofs.YtbdlbhlhnpblpaaGreatDoor.Am
open Go.RowKit
section
section
def GX (N:Nat):AV->Bool
 | .bool _ | .int _ _ | .str _ | .cD | .ae | .jt | .nilFunc | .nilIface=>true
 | .ptr i _=>Nat.blt i N
 | .iface _ v=>GX N v
 | _=>false
def AE (e:Em)(n:Nat->Nat)(N:Nat):Em:={ b:=e.b,d:=e.d,n:=n,N:=N }
theorem VR.cut {e:Em}{n:Nat->Nat}{N:Nat}{v:AV}{v':Value}(h:VR e v v')(hs:GX N v=true):VR (AE e n N) v v':=by
 induction h with
 | bool b=>exact .bool b
 | int k z=>exact .int k z
 | str s=>exact .str s
 | cD=>exact .cD
 | ae=>exact .ae
 | jt=>exact .jt
 | nilFunc=>exact .nilFunc
 | nilIface=>exact .nilIface
 | ptr i off o hi ho=>
  have:i<N:=by simpa[GX,acY] using hs
  exact .ptr (e:=AE e n N) i off o this ho
 | iface t v v' _ ih=>exact .iface t v v' (ih hs)
 | _=>cases hs
def fY (H:Hp)(L:List (Nat × List AV)):Prop:=∃ el:Nat->TypeId,∀ g l,(g,l)∈L->H.h.get g=some (.cells (Tr.cR .nil 0 l) 0 l.length (el g) 2)
noncomputable section
open Classical in
def BL (L:List (Nat × List AV))(N:Nat):Prim:=fun args H=>if args=[]/\fY H L/\N<=H.next then some (.bool true,H) else none
end
theorem amJ {G N:Nat}{F:Nat->Prop}{W:World}{e:Em}{H:Hp}{w:World}(hR:RH G F W e H w){L:List (Nat × List AV)}{el:Nat->TypeId}(hG:G<N)(hle:N<=H.next)
  (hL:∀ g l,(g,l)∈L->g<G/\g<4294967296/\l.length<4294967296/\∀ v∈l,GX N v=true) (hT:∀ g l,(g,l)∈L->H.h.get g=some (.cells (Tr.cR .nil 0 l) 0 l.length (el g) 2)) :
  RH G (fun k=>k<w.heap.size) w (AE e (fun i=>if i=G then w.heap.size else e.n i) N) ⟨oe el L,N⟩ w:=by
 have key:∀ i o,(oe el L).get i=some o->i<G/\H.h.get i=some o/\∃ l,(i,l)∈L/\o = .cells (Tr.cR .nil 0 l) 0 l.length (el i) 2:=by
  intro i o h
  obtain⟨l,hm,rfl⟩:=NR _ L (fun x hx=>(hL x.1 x.2 hx).2.1) i o h
  exact⟨(hL i l hm).1,hT i l hm,l,hm,rfl⟩
 refine⟨rfl,?_,?_,?_,fun k hk=>⟨hk,rfl⟩,rfl,rfl,rfl,zf _,hR.iw.1,hG,by simp[AE]⟩
 ·intro i o h
  obtain⟨hi,hg,l,hm,rfl⟩:=key i o h
  obtain⟨_,ob,db,da,_⟩:=hR.obj i _ hg
  refine⟨ahZ hi hG,ob,db,?_,?_⟩
  ·obtain⟨_,_,hl,hs⟩:=hL i l hm
   cases da with
   | cells _ _ _ _ _ C fz hn eO h0 h1 hd=>
    refine .cells _ 0 l.length _ 2 C fz ?_ ?_ (by simp) (by simp) hd
    ·simp only[AE];rw[if_neg (by omega)];exact hn
    ·intro k v a b hk
     obtain⟨k',h2,v',h3,h4⟩:=eO k v a b hk
     refine⟨k',h2,v',h3,?_⟩
     have hv:v∈l:=by
      rw[Tr.CP (α:=AV) .nil _ _ _ _ (by omega),if_pos (by omega),adD] at hk
      exact abY hk
     exact h4.cut (hs v hv)
  ·intro q hF
   rcases q with q | q
   ·cases q
   ·simp[AE] at q
    have:=(abH.1 db).1
    omega
 ·intro i j oi oj h1 h2 hq e
  obtain⟨hi,hg,l,hm,rfl⟩:=key i oi h1
  obtain⟨_,ob,db,da,_⟩:=hR.obj i _ hg
  rcases hq with q | q
  ·cases q
  ·simp[AE] at q
   have:=(abH.1 db).1
   omega
 ·intro g hg
  obtain⟨a,b,c⟩:=hR.mG g hg
  exact⟨ahZ hg hG,b,c⟩
theorem aiu {P:Program}{ext:Nat->Option Ext}{b7:Nat->Option Prim}(hm:P.follows .mixedOrders=true)(hN:jA P)(hE:uy P ext)(hP:ot P b7){fuel g N:Nat}{fn:Func}{b:Code}
  (hf:P.funcs[g]? = some fn) (hb:fn.body=some b) {L:List (Nat × List AV)} (hG:P.globals.size<N) (hL:∀ g l,(g,l)∈L->g<P.globals.size/\g<4294967296/\l.length<4294967296/\∀ v∈l,GX N v=true)
  (h:∀ el,KE (JE P ext b7 fuel g [] ⟨oe el L,N⟩)=true):od P g (BL L N):=by
 intro args H v H' hp F W e w bV hR jy
 unfold BL at hp
 split at hp
 ·rename_i hc
  obtain⟨rfl,⟨el,hT⟩,hle⟩:=hc
  cases hp
  have has:bV = #[]:=by
   have:=jy.gg
   cases bV;simp_all
  subst has
  refine⟨nM hN hf hb #[] w,?_⟩
  refine (am7 hm hN hE hP hf hb (h el) (amJ hR hG hle hL hT)).mono fun en w' ⟨h1,h2⟩ => ?_
  exact⟨e,_,h1,e.le_refl,hR.below h2,.bool true⟩
 ·cases hp
namespace K
abbrev R:=Option (AV × Hp)
def B1 {α:Type}(o:Option α)(k:α->R):R:=match o with | some v=>k v | none=>none
def B2 (o:Option (AV × Hp))(k:AV->Hp->R):R:=match o with | some p=>k p.1 p.2 | none=>none
theorem dQ {α:Type}{o:Option α}{k:α->R}{r:AV × Hp}(h:B1 o k=some r):∃ v,o=some v/\k v=some r:=by
 cases o with
 | none=>cases h
 | some v=>exact⟨v,rfl,h⟩
theorem qG {o:Option (AV × Hp)}{k:AV->Hp->R}{r:AV × Hp}(h:B2 o k=some r):∃ v H,o=some (v,H)/\k v H=some r:=by
 cases o with
 | none=>cases h
 | some p=>exact⟨p.1,p.2,rfl,h⟩
def ld (x:AV)(H:Hp):Option AV:=match x with | .ptr i o=>cellAt H i o | _=>none
def cn (n:Nat)(x:AV)(H:Hp):Option AV:=match x with | .ptr i o=>(cU H i o n).map .agg | _=>none
def BN (o:Option (Nat × Hp))(k:Nat->Hp->R):R:=match o with | some p=>k p.1 p.2 | none=>none
theorem KC {o:Option (Nat × Hp)}{k:Nat->Hp->R}{r:AV × Hp}(h:BN o k=some r):∃ i H,o=some (i,H)/\k i H=some r:=by
 cases o with
 | none=>cases h
 | some p=>exact⟨p.1,p.2,rfl,h⟩
def TW (b:Bool)(x:R):R:=bif b then x else none
@[reducible] def Fn:Nat->Type
 | 0=>Hp->R
 | m+1=>AV->Fn m
def app:(m:Nat)->Fn m->List AV->Hp->R
 | 0,f,l,H=>match l with | []=>f H | _::_=>none
 | m+1,f,l,H=>match l with | []=>none | x::l=>app m (f x) l H
def abs:(m:Nat)->(List AV->Hp->R)->Fn m
 | 0,g=>fun H=>g [] H
 | m+1,g=>fun x=>abs m (fun l=>g (x::l))
theorem D7:∀ (m:Nat) (g:List AV->Hp->R) (l:List AV) (H:Hp),l.length=m->app m (abs m g) l H=g l H
 | 0,g,[],H,_=>rfl
 | 0,g,_::_,H,h=>by simp at h
 | m+1,g,[],H,h=>by simp at h
 | m+1,g,x::l,H,h=>D7 m (fun l=>g (x::l)) l H (by simpa using h)
def JN (m:Nat)(f:Fn m->R)(k:Fn m):R:=f k
noncomputable section
open Classical in
def lim (f:Nat->R):R:=if h:∃ r L,f L=some r then some h.choose else none
theorem Cz {f:Nat->R}{r:AV × Hp}(h:lim f=some r):∃ L,f L=some r:=by
 unfold lim at h
 split at h
 ·rename_i q
  rw[<-ada h]
  exact q.choose_spec
 ·cases h
theorem Kf {f:Nat->R}{r:AV × Hp}{L:Nat}(h:f L=some r)(hu:∀ L L' r r',f L=some r->f L'=some r'->r=r'):lim f=some r:=by
 have q:∃ r L,f L=some r:=⟨r,L,h⟩
 unfold lim
 rw[dif_pos q]
 obtain⟨L',Po⟩:=q.choose_spec
 rw[hu L' L _ _ Po h]
def gm (m:Nat)(B:Fn m->Fn m):Nat->Fn m
 | 0=>abs m (fun _ _=>none)
 | L+1=>B (gm m B L)
def LP (m:Nat)(B:Fn m->Fn m):Fn m:=abs m (fun l H=>lim (fun L=>app m (gm m B L) l H))
end
def CD (c:AV)(x y:R):R:=match c with | .bool q=>bif q then x else y | _=>none
def b6 (lv:List Nat)(t:Tm):List AV:=lv.map fun d=>(t.get d).getD cF
theorem CT (lv:List Nat)(t:Tm):(b6 lv t).length=lv.length:=by simp[b6]
def S2:List Nat->List AV->Tm->Tm
 | d::lv,v::l,t=>S2 lv l (t.put 34 d v)
 | _,_,t=>t
def cW (n:Nat)(lv:List Nat)(l:List AV):Tm:=S2 lv l (Tr.cR .nil 0 (List.replicate n .dE))
inductive An where
 | nl
 | sq (j:Option (List Nat)) (a b:An)
 | cd (a b:An)
 | bl (j:Option (List Nat)) (a:An)
 | lp (lv:List Nat) (a:An)
 | pr (lv:List Nat) (p:Tm->Hp->Option Hp)
abbrev KN:=Tm->Hp->R
abbrev pq:=CF->Nat->Array Oper->Bool->Tm->Hp->KN->R
noncomputable section
variable (P:Program)(reg:pq)
def cu (cf:CF)(n:Nat):Code->An->KN->(Nat->KN)->KN->KN
 | .skip,_,kn,_,_=>kn
 | .label _,_,kn,_,_=>kn
 | .seq a b,an,kn,ke,kr=>match an with
  | .sq none x y=>cu cf n a x (cu cf n b y kn ke kr) ke kr
  | .sq (some lv) x y=>fun t H=>JN lv.length (fun k=>cu cf n a x (fun t H=>app lv.length k (b6 lv t) H) ke kr t H) (abs lv.length fun l H=>cu cf n b y kn ke kr (cW n lv l) H)
  | .pr lv p=>fun t H=>B1 (p t H) fun H=>kn (cW n lv (b6 lv t)) H
  | _=>fun _ _=>none
 | .cond c a b,an,kn,ke,kr=>match an with
  | .cd x y=>fun t H=>CD (ev P.globals.size t c) (cu cf n a x kn ke kr t H) (cu cf n b y kn ke kr t H)
  | _=>fun _ _=>none
 | .block i b,an,kn,ke,kr=>match an with
  | .bl none x=>cu cf n b x kn (fun j t H=>bif Nat.beq j i then kn t H else ke j t H) kr
  | .bl (some lv) x=>fun t H=>JN lv.length (fun k=>cu cf n b x (fun t H=>app lv.length k (b6 lv t) H) (fun j t H=>bif Nat.beq j i then app lv.length k (b6 lv t) H else ke j t H) kr t H) (abs lv.length fun l H=>kn (cW n lv l) H)
  | _=>fun _ _=>none
 | .loop b,an,kn,ke,kr=>match an with
  | .lp lv x=>fun t H=>app lv.length (LP lv.length (fun k=>abs lv.length fun l H=>cu cf n b x (fun t H=>app lv.length k (b6 lv t) H) ke kr (cW n lv l) H)) (b6 lv t) H
  | _=>fun _ _=>none
 | .exit i,_,_,ke,_=>ke i
 | .ret,_,_,_,kr=>kr
 | .region _ ops d,_,kn,_,_=>fun t H=>reg cf n ops d t H kn
 | _,_,_,_,_=>fun _ _=>none
end
def C5 (P:Program)(reg:pq):Prop:=
 ∀ (cf:CF) (n:Nat) (ops:Array Oper) (d:Bool) (t:Tm) (H:Hp) (k:KN) (r:AV × Hp),reg cf n ops d t H k=some r->
  ∃ t' H',(bif d then zx P cf n ops t H else pU P cf n ops ops.toList t H)=some (t',H')/\k t' H'=some r
def rS (e:Em)(n:Nat)(t:Tm)(a:Act):Prop:=TR e n t a/\∀ d,n<=d->t.get d=none
theorem Bf {α:Type}:∀ (l:List α) (t:Tr α) (n m:Nat),(t.cR n l).get m=if n<=m/\m<n+l.length then l[m-n]? else t.get m
 | [],t,n,m=>by
  rw[if_neg (by simp only[abQ];omega)];rfl
 | x::l,t,n,m=>by
  rw[Tr.cR,Bf l,Tr.put,Tr.eS]
  by_cases h1:m=n
  ·subst h1
   rw[if_neg (by omega),if_pos rfl,if_pos (by simp)];simp
  ·by_cases h2:n+1<=m/\m<n+1+l.length
   ·rw[if_pos h2,if_pos (by simp;omega)]
    have:m-n=(m-(n+1))+1:=by omega
    rw[this,gk]
   ·rw[if_neg h2,if_neg h1,if_neg (by simp;omega)]
theorem S7:∀ (lv:List Nat) (l:List AV) (t:Tm) (d:Nat) (p:Option AV->Prop),(∀ (x:Nat) (v:AV),x∈lv->(∃ i:Nat,lv[i]? = some x/\l[i]? = some v)->x=d->p (some v))->p (t.get d)->p ((S2 lv l t).get d)
 | [],l,t,d,p,_,h=>by cases l<;>exact h
 | x::lv,[],t,d,p,_,h=>h
 | x::lv,v::l,t,d,p,hp,h=>by
  refine S7 lv l (t.put 34 x v) d p (fun y u hy ⟨i,h1,h2⟩ he=>hp y u (.tail _ hy) ⟨i+1,by simpa using h1,by simpa using h2⟩ he) ?_
  rw[Tr.put,Tr.eS]
  by_cases hd:d=x
  ·rw[if_pos hd]
   exact hp x v (.head _) ⟨0,rfl,rfl⟩ hd.symm
  ·rw[if_neg hd];exact h
theorem rS.cp {e:Em}{n:Nat}{t:Tm}{a:Act}(h:rS e n t a){lv:List Nat}(Ay:∀ d∈lv,d<n):rS e n (cW n lv (b6 lv t)) a:=by
 refine⟨⟨h.1.size,fun d => ?_⟩,fun d hd => ?_⟩
 ·unfold cW
  refine S7 lv (b6 lv t) _ d (fun o=>VR e (o.getD cF) (a.tmps.getD d undef)) ?_ ?_
  ·rintro x v _ ⟨i,h1,h2⟩ rfl
   unfold b6 at h2
   rw[acD,h1] at h2
   cases h2
   exact h.1.val x
  ·rw[Bf]
   split
   ·rename_i q
    rw[ahl]
    simp only[afW,wc] at q
    rw[if_pos (by omega)]
    exact .dE _
   ·rename_i q
    simp only[afW,wc,ack,true_and,Nat.not_lt] at q
    rw[Tr.get_nil]
    have:=h.1.val d
    rw[h.2 d q] at this
    exact this
 ·unfold cW
  refine S7 lv (b6 lv t) _ d (fun o=>o=none) ?_ ?_
  ·intro x v hx _ he
   have:=Ay x hx
   omega
  ·rw[Bf,if_neg (by simp;omega),Tr.get_nil]
def An.ok (n:Nat):An->Bool
 | .nl=>true
 | .sq j a b=>(j.getD []).all (fun d=>Nat.blt d n)&&a.ok n&&b.ok n
 | .cd a b=>a.ok n&&b.ok n
 | .bl j a=>(j.getD []).all (fun d=>Nat.blt d n)&&a.ok n
 | .lp lv a=>lv.all (fun d=>Nat.blt d n)&&a.ok n
 | .pr lv _=>lv.all (fun d=>Nat.blt d n)
theorem N4 {n:Nat}{lv:List Nat}(h:lv.all (fun d=>Nat.blt d n)=true):∀ d∈lv,d<n:=fun d hd=>by
 have:=adh.1 h d hd
 rwa[acY] at this
end K
end
namespace K
variable {P:Program}{reg:pq}
theorem CG {n:Nat}{dst:Option Tmp}{v:AV}{t t':Tm}(h:gr n dst v t=some t')(ht:∀ d,n<=d->t.get d=none):∀ d,n<=d->t'.get d=none:=by
 intro d hd
 unfold gr at h
 split at h
 ·cases h;exact ht d hd
 ·rename_i x
  cases hb:(Nat.blt x n&&Nat.blt x 4294967296) with
  | false=>rw[hb] at h;cases h
  | true=>
   rw[hb] at h
   cases h
   simp only[aaK,acY] at hb
   rw[Tr.put,Tr.eS,if_neg (by omega)]
   exact ht d hd
theorem Qd {cf:CF}{n:Nat}{ops:Array Oper}:∀ (l:List Oper) (t t':Tm) (H H':Hp),pU P cf n ops l t H=some (t',H')->(∀ d,n<=d->t.get d=none)->∀ d,n<=d->t'.get d=none
 | [],t,t',H,H',h,ht=>by cases h;exact ht
 | o::l,t,t',H,H',h,ht=>by
  unfold pU at h
  split at h
  ·split at h
   ·split at h
    ·rename_i t1 hp
     exact Qd l _ _ _ _ h (CG hp ht)
    ·cases h
   ·cases h
  ·split at h
   ·rename_i t1 hp
    exact Qd l _ _ _ _ h (CG hp ht)
   ·cases h
  ·cases h
theorem DT {cf:CF}{n:Nat}{ops:Array Oper}:∀ (l:List Oper) (i:Nat) (bs:List Nat) (tp te:Tm) (hb h:Hp) (s:List iv) (t':Tm) (H':Hp),iY P cf n ops i l bs tp te hb h=some (s,t',H')->(∀ d,n<=d->te.get d=none)->∀ d,n<=d->t'.get d=none
 | [],i,bs,tp,te,hb,h,s,t',H',hr,ht=>by unfold iY at hr;cases hr;exact ht
 | o::l,i,[],tp,te,hb,h,s,t',H',hr,ht=>by unfold iY at hr;cases hr
 | o::l,i,b::bs,tp,te,hb,h,s,t',H',hr,ht=>by
  unfold iY at hr
  split at hr
  ·split at hr
   ·split at hr
    ·split at hr
     ·rename_i h1 h2
      simp only[yS] at hr
      obtain⟨⟨s2,t2,H2⟩,h3,h4⟩:=hr
      cases h4
      exact DT l _ _ _ _ _ _ _ _ _ h3 (CG h2 ht)
     ·cases hr
    ·cases hr
   ·split at hr
    ·split at hr
     ·rename_i h1 h2
      simp only[yS] at hr
      obtain⟨⟨s2,t2,H2⟩,h3,h4⟩:=hr
      cases h4
      exact DT l _ _ _ _ _ _ _ _ _ h3 (CG h2 ht)
     ·cases hr
    ·cases hr
   ·split at hr
    ·split at hr
     ·rename_i h1 h2
      simp only[yS] at hr
      obtain⟨⟨s2,t2,H2⟩,h3,h4⟩:=hr
      cases h4
      exact DT l _ _ _ _ _ _ _ _ _ h3 (CG h2 ht)
     ·cases hr
    ·cases hr
  ·split at hr
   ·rename_i h1 h2
    simp only[yS] at hr
    obtain⟨⟨s2,t2,H2⟩,h3,h4⟩:=hr
    cases h4
    exact DT l _ _ _ _ _ _ _ _ _ h3 (CG h2 ht)
   ·cases hr
  ·cases hr
theorem alV {cf:CF}{n:Nat}{ops:Array Oper}{d:Bool}{t t':Tm}{H H':Hp}(h:(bif d then zx P cf n ops t H else pU P cf n ops ops.toList t H)=some (t',H'))(ht:∀ x,n<=x->t.get x=none):∀ x,n<=x->t'.get x=none:=by
 cases d with
 | false=>exact Qd _ _ _ _ _ h ht
 | true=>
  simp only[cond_true] at h
  unfold zx at h
  cases hr:tZ ops with
  | false=>rw[hr] at h;cases h
  | true=>
   rw[hr] at h
   simp only[cond_true] at h
   split at h
   ·rename_i l t1 H1 iT
    cases hd:zF P l with
    | false=>rw[hd] at h;cases h
    | true=>
     rw[hd] at h
     cases h
     exact DT _ _ _ _ _ _ _ _ _ _ iT ht
   ·cases h
def xJ (P:Program)(r:AV × Hp)(F:Nat->Prop)(W:World)(n:Nat)(e:Em)(ds:List Deferred)(kn:KN)(ex:Exit)(Q:Exit->Act->World->Prop):Prop:=
 ∀ e' a' w' t' H',e.le e'->RH P.globals.size F W e' H' w'->rS e' n t' a'->a'.defers=ds->kn t' H'=some r->Q ex a' w'
theorem xJ.mono {r:AV × Hp}{F:Nat->Prop}{W:World}{n:Nat}{e e2:Em}{ds:List Deferred}{kn:KN}{ex:Exit}{Q:Exit->Act->World->Prop}(h:xJ P r F W n e ds kn ex Q)(he:e.le e2):xJ P r F W n e2 ds kn ex Q:=
 fun e' a' w' t' H' h1=>h e' a' w' t' H' (Em.le_trans he h1)
theorem lZ {m n:Nat}{lv:List Nat}{k:List AV->Hp->R}{t:Tm}{H:Hp}(hm:lv.length=m):app m (abs m k) (b6 lv t) H=k (b6 lv t) H:=D7 m k _ H (by rw[CT];exact hm)
def aj6 (P:Program)(n:Nat)(c:Code)(lv:List Nat)(p:Tm->Hp->Option Hp):Prop:=
 ∀ t H H2,p t H=some H2->∀ (F:Nat->Prop) (W:World) (e:Em) (a:Act) (w:World) (Q:Exit->Act->World->Prop),RH P.globals.size F W e H w->rS e n t a->
  (∀ e' a' w',e.le e'->RH P.globals.size F W e' H2 w'->rS e' n (cW n lv (b6 lv t)) a'->a'.defers=a.defers->Q .normal a' w')->c.wp P Q a w
def kB (P:Program)(n:Nat):Code->An->Prop
 | .seq a b,an=>match an with | .sq _ x y=>kB P n a x/\kB P n b y | .pr lv p=>aj6 P n (.seq a b) lv p | _=>True
 | .cond _ a b,an=>match an with | .cd x y=>kB P n a x/\kB P n b y | _=>True
 | .block _ b,an=>match an with | .bl _ x=>kB P n b x | _=>True
 | .loop b,an=>match an with | .lp _ x=>kB P n b x | _=>True
 | _,_=>True
def An.plain:An->Bool
 | .nl=>true
 | .sq _ a b=>a.plain&&b.plain
 | .cd a b=>a.plain&&b.plain
 | .bl _ a=>a.plain
 | .lp _ a=>a.plain
 | .pr _ _=>false
theorem kB.plain (P:Program)(n:Nat):∀ (c:Code) (an:An),an.plain=true->kB P n c an:=by
 intro c
 induction c with
 | seq a b ia ib=>
  intro an h
  unfold kB
  cases an with
  | sq j x y=>simp only[An.plain,aaK] at h;exact⟨ia x h.1,ib y h.2⟩
  | pr lv p=>cases h
  | _=>trivial
 | cond q a b ia ib=>
  intro an h
  unfold kB
  cases an with
  | cd x y=>simp only[An.plain,aaK] at h;exact⟨ia x h.1,ib y h.2⟩
  | _=>trivial
 | block i b ib=>
  intro an h
  unfold kB
  cases an with
  | bl j x=>exact ib x h
  | _=>trivial
 | loop b ib=>
  intro an h
  unfold kB
  cases an with
  | lp lv x=>exact ib x h
  | _=>trivial
 | _=>intro an h;unfold kB;trivial
def qQ (P:Program)(an:Nat->An):Prop:=∀ cl fn b,P.funcs[cl]? = some fn->fn.body=some b->kB P fn.ntmps b (an cl)
theorem qQ.plain {P:Program}{an:Nat->An}(h:∀ g,(an g).plain=true):qQ P an:=fun cl fn b _ _=>kB.plain P fn.ntmps b (an cl) (h cl)
def BI:List (Nat × An)->Nat->An
 | [],_ => .nl
 | p::r,g=>bif Nat.beq g p.1 then p.2 else BI r g
theorem XG {P:Program}:∀ {l:List (Nat × An)},(∀ p∈l,p.2.plain=true\/∀ fn b,P.funcs[p.1]? = some fn->fn.body=some b->kB P fn.ntmps b p.2)->qQ P (BI l)
 | [],h=>qQ.plain fun _=>rfl
 | p::r,h=>by
  intro cl fn b h1 h2
  show kB P fn.ntmps b (bif Nat.beq cl p.1 then p.2 else BI r cl)
  cases hb:Nat.beq cl p.1 with
  | true=>
   obtain rfl:=aaV hb
   rcases h p (.head _) with q | q
   ·exact kB.plain P _ _ _ q
   ·exact q fn b h1 h2
  | false=>exact XG (fun q hq=>h q (.tail _ hq)) cl fn b h1 h2
theorem Z9 {P:Program}{l:List (Nat × An)}(h:l.all (fun p=>p.2.plain)=true):qQ P (BI l):=XG fun p hp => .inl (adh.1 h p hp)
theorem af7 (hm:P.follows .mixedOrders=true)(fy:C5 P reg){cf:CF}(fj:sO P cf){n:Nat}:∀ (c:Code) (an:An) (kn:KN) (ke:Nat->KN) (kr:KN) (t:Tm) (H:Hp) (r:AV × Hp),an.ok n=true->kB P n c an->cu P reg cf n c an kn ke kr t H=some r->
  ∀ (F:Nat->Prop) (W:World) (e:Em) (a:Act) (w:World) (Q:Exit->Act->World->Prop),RH P.globals.size F W e H w->rS e n t a->
   xJ P r F W n e a.defers kn .normal Q->(∀ i,xJ P r F W n e a.defers (ke i) (.exit i) Q)->xJ P r F W n e a.defers kr .ret Q->c.wp P Q a w:=by
 intro c
 induction c with
 | skip=>
  intro an kn ke kr t H r ha kC hc F W e a w Q hR hT eD jv jQ
  unfold cu at hc
  exact wp_skip (eD e a w t H e.le_refl hR hT rfl hc)
 | label l=>
  intro an kn ke kr t H r ha kC hc F W e a w Q hR hT eD jv jQ
  unfold cu at hc
  exact wp_label (eD e a w t H e.le_refl hR hT rfl hc)
 | seq c1 c2 i1 i2=>
  intro an kn ke kr t H r ha kC hc F W e a w Q hR hT eD jv jQ
  unfold cu at hc
  split at hc
  ·rename_i x y
   refine wp_seq ?_
   simp only[An.ok,aaK] at ha
   refine i1 x _ _ _ t H r ha.1.2 kC.1 hc F W e a w _ hR hT ?_ ?_ ?_
   ·intro e' a' w' t' H' he cA cV hd hk
    refine i2 y _ _ _ t' H' r ha.2 kC.2 hk F W e' a' w' Q cA cV ?_ ?_ ?_
    ·rw[hd];exact eD.mono he
    ·intro i;rw[hd];exact (jv i).mono he
    ·rw[hd];exact jQ.mono he
   ·intro i e' a' w' t' H' he cA cV hd hk
    exact jv i e' a' w' t' H' he cA cV hd hk
   ·intro e' a' w' t' H' he cA cV hd hk
    exact jQ e' a' w' t' H' he cA cV hd hk
  ·rename_i lv x y
   refine wp_seq ?_
   simp only[An.ok,aaK,afy] at ha
   have Ay:=N4 ha.1.1
   unfold JN at hc
   refine i1 x _ _ _ t H r ha.1.2 kC.1 hc F W e a w _ hR hT ?_ ?_ ?_
   ·intro e' a' w' t' H' he cA cV hd hk
    replace hk:=(lZ (n:=n) rfl).symm.trans hk
    refine i2 y _ _ _ _ H' r ha.2 kC.2 hk F W e' a' w' Q cA (cV.cp Ay) ?_ ?_ ?_
    ·rw[hd];exact eD.mono he
    ·intro i;rw[hd];exact (jv i).mono he
    ·rw[hd];exact jQ.mono he
   ·intro i e' a' w' t' H' he cA cV hd hk
    exact jv i e' a' w' t' H' he cA cV hd hk
   ·intro e' a' w' t' H' he cA cV hd hk
    exact jQ e' a' w' t' H' he cA cV hd hk
  ·rename_i lv p
   obtain⟨H2,h1,h2⟩:=dQ hc
   exact kC t H H2 h1 F W e a w Q hR hT fun e' a' w' he cA cV hd=>eD e' a' w' _ H2 he cA cV hd h2
  ·cases hc
 | cond x c1 c2 i1 i2=>
  intro an kn ke kr t H r ha kC hc F W e a w Q hR hT eD jv jQ
  unfold cu at hc
  split at hc
  ·rename_i y z
   simp only[An.ok,aaK] at ha
   unfold CD at hc
   split at hc
   ·rename_i b hb
    have hv:=VR.ev hR hT.1 x
    rw[hb] at hv
    refine wp_cond hv.sH ?_
    cases b with
    | true=>exact i1 y _ _ _ t H r ha.1 kC.1 hc F W e a w Q hR hT eD jv jQ
    | false=>exact i2 z _ _ _ t H r ha.2 kC.2 hc F W e a w Q hR hT eD jv jQ
   ·cases hc
  ·cases hc
 | block i b ib=>
  intro an kn ke kr t H r ha kC hc F W e a w Q hR hT eD jv jQ
  unfold cu at hc
  refine wp_block ?_
  have Vv:∀ (j:Nat) (e':Em) (a':Act) (w':World) (t':Tm) (H':Hp) (q:KN),e.le e'->RH P.globals.size F W e' H' w'->rS e' n t' a'->a'.defers=a.defers->
    (∀ e' a' w' t' H',e.le e'->RH P.globals.size F W e' H' w'->rS e' n t' a'->a'.defers=a.defers->q t' H'=some r->Q .normal a' w')->
    (bif Nat.beq j i then q t' H' else ke j t' H')=some r->Exit.inBlock i Q (.exit j) a' w':=by
   intro j e' a' w' t' H' q he cA cV hd hq hk
   show (if j=i then Q .normal a' w' else Q (.exit j) a' w')
   cases hj:Nat.beq j i with
   | true=>
    rw[hj] at hk
    rw[if_pos (aaV hj)]
    exact hq e' a' w' t' H' he cA cV hd hk
   | false=>
    rw[hj] at hk
    rw[if_neg (fun q=>by rw[q,Nat.beq_refl] at hj;cases hj)]
    exact jv j e' a' w' t' H' he cA cV hd hk
  split at hc
  ·rename_i x
   simp only[An.ok,aaK] at ha
   refine ib x _ _ _ t H r ha.2 kC hc F W e a w _ hR hT ?_ ?_ ?_
   ·intro e' a' w' t' H' he cA cV hd hk
    exact eD e' a' w' t' H' he cA cV hd hk
   ·intro j e' a' w' t' H' he cA cV hd hk
    exact Vv j e' a' w' t' H' kn he cA cV hd eD hk
   ·intro e' a' w' t' H' he cA cV hd hk
    exact jQ e' a' w' t' H' he cA cV hd hk
  ·rename_i lv x
   simp only[An.ok,aaK,afy] at ha
   have Ay:=N4 ha.1
   unfold JN at hc
   have hj:∀ e' a' w' t' H',e.le e'->RH P.globals.size F W e' H' w'->rS e' n t' a'->a'.defers=a.defers->app lv.length (abs lv.length fun l H=>kn (cW n lv l) H) (b6 lv t') H'=some r->Q .normal a' w':=by
    intro e' a' w' t' H' he cA cV hd hk
    replace hk:=(lZ (n:=n) rfl).symm.trans hk
    exact eD e' a' w' _ H' he cA (cV.cp Ay) hd hk
   refine ib x _ _ _ t H r ha.2 kC hc F W e a w _ hR hT ?_ ?_ ?_
   ·intro e' a' w' t' H' he cA cV hd hk
    exact hj e' a' w' t' H' he cA cV hd hk
   ·intro j e' a' w' t' H' he cA cV hd hk
    exact Vv j e' a' w' t' H' (fun t H=>app lv.length (abs lv.length fun l H=>kn (cW n lv l) H) (b6 lv t) H) he cA cV hd hj hk
   ·intro e' a' w' t' H' he cA cV hd hk
    exact jQ e' a' w' t' H' he cA cV hd hk
  ·cases hc
 | loop b ib=>
  intro an kn ke kr t H r ha kC hc F W e a w Q hR hT eD jv jQ
  unfold cu at hc
  split at hc
  ·rename_i lv x
   simp only[An.ok,aaK] at ha
   have Ay:=N4 ha.1
   unfold LP at hc
   replace hc:=(lZ (n:=n) rfl).symm.trans hc
   obtain⟨L,hL⟩:=Cz hc
   refine Zl ?_
   have key:∀ (L:Nat) (e:Em) (a:Act) (w:World) (t:Tm) (H:Hp),app lv.length (gm lv.length (fun k=>abs lv.length fun l H=>cu P reg cf n b x (fun t H=>app lv.length k (b6 lv t) H) ke kr (cW n lv l) H) L) (b6 lv t) H=some r->
     RH P.globals.size F W e H w->rS e n t a->(∀ i,xJ P r F W n e a.defers (ke i) (.exit i) Q)->xJ P r F W n e a.defers kr .ret Q->yO P b Q a w:=by
    intro L
    induction L with
    | zero=>
     intro e a w t H hq _ _ _ _
     replace hq:=(lZ (m:=lv.length) (n:=n) (k:=fun _ _=>none) rfl).symm.trans hq
     cases hq
    | succ L ih=>
     intro e a w t H hq hR hT jv jQ
     replace hq:=(lZ (m:=lv.length) (n:=n) (k:=fun l H=>cu P reg cf n b x (fun t H=>app lv.length (gm lv.length (fun k=>abs lv.length fun l H=>cu P reg cf n b x (fun t H=>app lv.length k (b6 lv t) H) ke kr (cW n lv l) H) L) (b6 lv t) H) ke kr (cW n lv l) H) rfl).symm.trans hq
     refine VH ?_
     refine ib x _ _ _ _ H r ha.2 kC hq F W e a w _ hR (hT.cp Ay) ?_ ?_ ?_
     ·intro e' a' w' t' H' he cA cV hd hk
      refine ih e' a' w' t' H' hk cA cV ?_ ?_
      ·intro i;rw[hd];exact (jv i).mono he
      ·rw[hd];exact jQ.mono he
     ·intro i e' a' w' t' H' he cA cV hd hk
      exact jv i e' a' w' t' H' he cA cV hd hk
     ·intro e' a' w' t' H' he cA cV hd hk
      exact jQ e' a' w' t' H' he cA cV hd hk
   exact key L e a w t H hL hR hT jv jQ
  ·cases hc
 | exit i=>
  intro an kn ke kr t H r ha kC hc F W e a w Q hR hT eD jv jQ
  unfold cu at hc
  exact wp_exit (jv i e a w t H e.le_refl hR hT rfl hc)
 | ret=>
  intro an kn ke kr t H r ha kC hc F W e a w Q hR hT eD jv jQ
  unfold cu at hc
  exact wp_ret (jQ e a w t H e.le_refl hR hT rfl hc)
 | region id ops d=>
  intro an kn ke kr t H r ha kC hc F W e a w Q hR hT eD jv jQ
  unfold cu at hc
  obtain⟨t1,H1,h1,h2⟩:=fy cf n ops d t H kn r hc
  have eg:=alV h1 hT.2
  have fin:∀ e' a' w',e.le e'->RH P.globals.size F W e' H1 w'->TR e' n t1 a'->a'.defers=a.defers->Q .normal a' w':=fun e' a' w' he cA cV hd=>eD e' a' w' t1 H1 he cA ⟨cV,eg⟩ hd h2
  cases d with
  | true=>exact YM hm fj h1 hR hT.1 fin
  | false=>
   refine wp_region ?_
   have:=UW (Q:=Q) fj ops.toList 0 t H e a w (by simp) h1 hR hT.1 fin
   rw[List.range_eq_range']
   simpa using this
 | _=>
  intro an kn ke kr t H r ha kC hc
  unfold cu at hc
  cases hc
def Ev (p:Nat->Prop):Prop:=∃ k0,∀ k,k0<=k->p k
theorem Ev.of {p:Nat->Prop}(h:∀ k,p k):Ev p:=⟨0,fun k _=>h k⟩
def qn (f:Nat->CF)(g:CF):Prop:=∀ x l H r,g x l H=some r->Ev fun k=>f k x l H=some r
def uE (f:Nat->KN)(g:KN):Prop:=∀ t H r,g t H=some r->Ev fun k=>f k t H=some r
def uc (reg:pq):Prop:=∀ (cZ:Nat->CF) (cf:CF) (iW:Nat->KN) (kn:KN) (n:Nat) (ops:Array Oper) (d:Bool) (t:Tm) (H:Hp) (r:AV × Hp),qn cZ cf->uE iW kn->reg cf n ops d t H kn=some r->Ev fun k=>reg (cZ k) n ops d t H (iW k)=some r
theorem I2 (fy:uc reg){n:Nat}:∀ (c:Code) (an:An) (cZ:Nat->CF) (cf:CF) (iW:Nat->KN) (kn:KN) (jF:Nat->Nat->KN) (ke:Nat->KN) (iP:Nat->KN) (kr:KN) (t:Tm) (H:Hp) (r:AV × Hp),
  qn cZ cf->uE iW kn->(∀ i,uE (fun k=>jF k i) (ke i))->uE iP kr->cu P reg cf n c an kn ke kr t H=some r->Ev fun k=>cu P reg (cZ k) n c an (iW k) (jF k) (iP k) t H=some r:=by
 intro c
 induction c with
 | skip=>intro an cZ cf iW kn jF ke iP kr t H r h1 h2 h3 h4 hc;unfold cu at hc ⊢;exact h2 t H r hc
 | label l=>intro an cZ cf iW kn jF ke iP kr t H r h1 h2 h3 h4 hc;unfold cu at hc ⊢;exact h2 t H r hc
 | seq c1 c2 i1 i2=>
  intro an cZ cf iW kn jF ke iP kr t H r h1 h2 h3 h4 hc
  unfold cu at hc ⊢
  cases an with
  | sq j x y=>
   cases j with
   | none=>exact i1 x cZ cf _ _ jF ke iP kr t H r h1 (fun t H r h=>i2 y cZ cf iW kn jF ke iP kr t H r h1 h2 h3 h4 h) h3 h4 hc
   | some lv=>
    simp only[JN] at hc ⊢
    refine i1 x cZ cf _ _ jF ke iP kr t H r h1 (fun t H r h => ?_) h3 h4 hc
    replace h:=(lZ (n:=n) rfl).symm.trans h
    obtain⟨k0,hk⟩:=i2 y cZ cf iW kn jF ke iP kr _ H r h1 h2 h3 h4 h
    exact⟨k0,fun k hle=>(lZ (n:=n) rfl).trans (hk k hle)⟩
  | pr lv p=>
   simp only at hc ⊢
   obtain⟨H2,q1,q2⟩:=dQ hc
   obtain⟨k0,hk⟩:=h2 _ H2 r q2
   exact⟨k0,fun k hle=>by rw[q1];exact hk k hle⟩
  | _=>cases hc
 | cond x c1 c2 i1 i2=>
  intro an cZ cf iW kn jF ke iP kr t H r h1 h2 h3 h4 hc
  unfold cu at hc ⊢
  cases an with
  | cd y z=>
   simp only[CD] at hc ⊢
   cases hv:ev P.globals.size t x<;>rw[hv] at hc<;>simp only at hc ⊢ <;> try (cases hc;done)
   rename_i q
   cases q with
   | true=>exact i1 y cZ cf iW kn jF ke iP kr t H r h1 h2 h3 h4 hc
   | false=>exact i2 z cZ cf iW kn jF ke iP kr t H r h1 h2 h3 h4 hc
  | _=>cases hc
 | block i b ib=>
  intro an cZ cf iW kn jF ke iP kr t H r h1 h2 h3 h4 hc
  unfold cu at hc ⊢
  cases an with
  | bl j x=>
   cases j with
   | none=>
    refine ib x cZ cf iW kn _ _ iP kr t H r h1 h2 (fun q t H r h => ?_) h4 hc
    cases hq:Nat.beq q i with
    | true=>rw[hq] at h;simp only[hq,cond_true];exact h2 t H r h
    | false=>rw[hq] at h;simp only[hq,cond_false];exact h3 q t H r h
   | some lv=>
    simp only[JN] at hc ⊢
    have hj:uE (fun k=>fun t H=>app lv.length (abs lv.length fun l H=>iW k (cW n lv l) H) (b6 lv t) H) (fun t H=>app lv.length (abs lv.length fun l H=>kn (cW n lv l) H) (b6 lv t) H):=by
     intro t H r h
     replace h:=(lZ (n:=n) rfl).symm.trans h
     obtain⟨k0,hk⟩:=h2 _ H r h
     exact⟨k0,fun k hle=>(lZ (n:=n) rfl).trans (hk k hle)⟩
    refine ib x cZ cf _ _ _ _ iP kr t H r h1 hj (fun q t H r h => ?_) h4 hc
    cases hq:Nat.beq q i with
    | true=>rw[hq] at h;simp only[hq,cond_true];exact hj t H r h
    | false=>rw[hq] at h;simp only[hq,cond_false];exact h3 q t H r h
  | _=>cases hc
 | loop b ib=>
  intro an cZ cf iW kn jF ke iP kr t H r h1 h2 h3 h4 hc
  unfold cu at hc ⊢
  cases an with
  | lp lv x=>
   simp only at hc ⊢
   have const:∀ (f:CF),qn (fun _=>f) f:=fun f x l H r h=>Ev.of fun _=>h
   have nL:∀ (f:KN),uE (fun _=>f) f:=fun f t H r h=>Ev.of fun _=>h
   have mono:∀ (f:CF) (ke:Nat->KN) (kr:KN) (L L':Nat) (t:Tm) (H:Hp) (r:AV × Hp),L<=L'->app lv.length (gm lv.length (fun k=>abs lv.length fun l H=>cu P reg f n b x (fun t H=>app lv.length k (b6 lv t) H) ke kr (cW n lv l) H) L) (b6 lv t) H=some r->
     app lv.length (gm lv.length (fun k=>abs lv.length fun l H=>cu P reg f n b x (fun t H=>app lv.length k (b6 lv t) H) ke kr (cW n lv l) H) L') (b6 lv t) H=some r:=by
    intro f ke kr L
    induction L with
    | zero=>
     intro L' t H r _ h
     rw[show gm lv.length _ 0=abs lv.length (fun _ _=>none) from rfl,lZ (n:=n) rfl] at h
     cases h
    | succ L ih=>
     intro L' t H r hle h
     obtain⟨L2,rfl⟩:∃ L2,L'=L2+1:=⟨L'-1,by omega⟩
     rw[show gm lv.length _ (L+1)=abs lv.length _ from rfl,lZ (n:=n) rfl] at h
     rw[show gm lv.length _ (L2+1)=abs lv.length _ from rfl,lZ (n:=n) rfl]
     obtain⟨k0,hk⟩:=ib x (fun _=>f) f (fun _=>fun t H=>app lv.length (gm lv.length _ L2) (b6 lv t) H) (fun t H=>app lv.length (gm lv.length _ L) (b6 lv t) H) (fun _=>ke) ke (fun _=>kr) kr _ H r (const f) (fun t H r h=>Ev.of fun _=>ih L2 t H r (by omega) h) (fun i=>nL (ke i)) (nL kr) h
     exact hk k0 (zf _)
   have uniq:∀ (f:CF) (ke:Nat->KN) (kr:KN) (t:Tm) (H:Hp) (L L':Nat) (r r':AV × Hp),app lv.length (gm lv.length (fun k=>abs lv.length fun l H=>cu P reg f n b x (fun t H=>app lv.length k (b6 lv t) H) ke kr (cW n lv l) H) L) (b6 lv t) H=some r->
     app lv.length (gm lv.length (fun k=>abs lv.length fun l H=>cu P reg f n b x (fun t H=>app lv.length k (b6 lv t) H) ke kr (cW n lv l) H) L') (b6 lv t) H=some r'->r=r':=by
    intro f ke kr t H L L' r r' h h'
    rcases Nat.le_total L L' with q | q
    ·have:=mono f ke kr L L' t H r q h
     rw[this] at h';exact ada h'
    ·have:=mono f ke kr L' L t H r' q h'
     rw[h] at this;exact ada this
   have ad1:∀ (f:CF) (ke:Nat->KN) (kr:KN) (t:Tm) (H:Hp) (L:Nat) (r:AV × Hp),app lv.length (gm lv.length (fun k=>abs lv.length fun l H=>cu P reg f n b x (fun t H=>app lv.length k (b6 lv t) H) ke kr (cW n lv l) H) L) (b6 lv t) H=some r->
     app lv.length (LP lv.length (fun k=>abs lv.length fun l H=>cu P reg f n b x (fun t H=>app lv.length k (b6 lv t) H) ke kr (cW n lv l) H)) (b6 lv t) H=some r:=by
    intro f ke kr t H L r h
    unfold LP
    rw[lZ (n:=n) rfl]
    exact Kf h (uniq f ke kr t H)
   have Zd:∀ (f:CF) (ke:Nat->KN) (kr:KN) (t:Tm) (H:Hp) (r:AV × Hp),app lv.length (LP lv.length (fun k=>abs lv.length fun l H=>cu P reg f n b x (fun t H=>app lv.length k (b6 lv t) H) ke kr (cW n lv l) H)) (b6 lv t) H=some r->
     ∃ L,app lv.length (gm lv.length (fun k=>abs lv.length fun l H=>cu P reg f n b x (fun t H=>app lv.length k (b6 lv t) H) ke kr (cW n lv l) H) L) (b6 lv t) H=some r:=by
    intro f ke kr t H r h
    unfold LP at h
    replace h:=(lZ (n:=n) rfl).symm.trans h
    exact Cz h
   have roll:∀ (f:CF) (ke:Nat->KN) (kr:KN) (t:Tm) (H:Hp) (r:AV × Hp),cu P reg f n b x (fun t H=>app lv.length (LP lv.length (fun k=>abs lv.length fun l H=>cu P reg f n b x (fun t H=>app lv.length k (b6 lv t) H) ke kr (cW n lv l) H)) (b6 lv t) H) ke kr (cW n lv (b6 lv t)) H=some r->
     app lv.length (LP lv.length (fun k=>abs lv.length fun l H=>cu P reg f n b x (fun t H=>app lv.length k (b6 lv t) H) ke kr (cW n lv l) H)) (b6 lv t) H=some r:=by
    intro f ke kr t H r h
    obtain⟨k0,hk⟩:=ib x (fun _=>f) f (fun L=>fun t H=>app lv.length (gm lv.length (fun k=>abs lv.length fun l H=>cu P reg f n b x (fun t H=>app lv.length k (b6 lv t) H) ke kr (cW n lv l) H) L) (b6 lv t) H) _ (fun _=>ke) ke (fun _=>kr) kr _ H r (const f)
     (fun t H r h=>by
      obtain⟨L,hL⟩:=Zd f ke kr t H r h
      exact⟨L,fun k hle=>mono f ke kr L k t H r hle hL⟩) (fun i=>nL (ke i)) (nL kr) h
    refine ad1 f ke kr t H (k0+1) r ?_
    rw[show gm lv.length _ (k0+1)=abs lv.length _ from rfl,lZ (n:=n) rfl]
    exact hk k0 (zf _)
   obtain⟨L,hL⟩:=Zd cf ke kr t H r hc
   clear hc
   induction L generalizing t H r with
   | zero=>
    rw[show gm lv.length _ 0=abs lv.length (fun _ _=>none) from rfl,lZ (n:=n) rfl] at hL
    cases hL
   | succ L ih=>
    rw[show gm lv.length _ (L+1)=abs lv.length _ from rfl,lZ (n:=n) rfl] at hL
    obtain⟨k0,hk⟩:=ib x cZ cf (fun k=>fun t H=>app lv.length (LP lv.length (fun q=>abs lv.length fun l H=>cu P reg (cZ k) n b x (fun t H=>app lv.length q (b6 lv t) H) (jF k) (iP k) (cW n lv l) H)) (b6 lv t) H) _ jF ke iP kr _ H r h1 (fun t H r h=>ih t H r h) h3 h4 hL
    exact⟨k0,fun k hle=>roll (cZ k) (jF k) (iP k) t H r (hk k hle)⟩
  | _=>cases hc
 | exit i=>intro an cZ cf iW kn jF ke iP kr t H r h1 h2 h3 h4 hc;unfold cu at hc ⊢;exact h3 i t H r hc
 | ret=>intro an cZ cf iW kn jF ke iP kr t H r h1 h2 h3 h4 hc;unfold cu at hc ⊢;exact h4 t H r hc
 | region id ops d=>intro an cZ cf iW kn jF ke iP kr t H r h1 h2 h3 h4 hc;unfold cu at hc ⊢;exact fy cZ cf iW kn n ops d t H r h1 h2 hc
 | _=>
  intro an cZ cf iW kn jF ke iP kr t H r h1 h2 h3 h4 hc
  unfold cu at hc
  cases hc
end K
end
namespace K
section
variable {P:Program}{reg:pq}
theorem abJ (fy:uc reg)(f:CF)(n:Nat)(b:Code)(x:An)(lv:List Nat)(ke:Nat->KN)(kr:KN)(l:List AV)(hl:l.length=lv.length)(H:Hp) :
  app lv.length (LP lv.length (fun k=>abs lv.length fun l H=>cu P reg f n b x (fun t H=>app lv.length k (b6 lv t) H) ke kr (cW n lv l) H)) l H=
   cu P reg f n b x (fun t H=>app lv.length (LP lv.length (fun k=>abs lv.length fun l H=>cu P reg f n b x (fun t H=>app lv.length k (b6 lv t) H) ke kr (cW n lv l) H)) (b6 lv t) H) ke kr (cW n lv l) H:=by
 have const:qn (fun _=>f) f:=fun x l H r h=>Ev.of fun _=>h
 have nL:∀ (f:KN),uE (fun _=>f) f:=fun f t H r h=>Ev.of fun _=>h
 have JH:∀ (L:Nat) (l:List AV) (H:Hp),l.length=lv.length->app lv.length (gm lv.length (fun k=>abs lv.length fun l H=>cu P reg f n b x (fun t H=>app lv.length k (b6 lv t) H) ke kr (cW n lv l) H) (L+1)) l H=
   cu P reg f n b x (fun t H=>app lv.length (gm lv.length (fun k=>abs lv.length fun l H=>cu P reg f n b x (fun t H=>app lv.length k (b6 lv t) H) ke kr (cW n lv l) H) L) (b6 lv t) H) ke kr (cW n lv l) H:=fun L l H hl=>by
  rw[show gm lv.length _ (L+1)=abs lv.length _ from rfl,D7 _ _ _ _ hl]
 have zero:∀ (l:List AV) (H:Hp),l.length=lv.length->app lv.length (gm lv.length (fun k=>abs lv.length fun l H=>cu P reg f n b x (fun t H=>app lv.length k (b6 lv t) H) ke kr (cW n lv l) H) 0) l H=none:=fun l H hl=>by
  rw[show gm lv.length _ 0=abs lv.length (fun _ _=>none) from rfl,D7 _ _ _ _ hl]
 have mono:∀ (L L':Nat) (l:List AV) (H:Hp) (r:AV × Hp),l.length=lv.length->L<=L'->app lv.length (gm lv.length (fun k=>abs lv.length fun l H=>cu P reg f n b x (fun t H=>app lv.length k (b6 lv t) H) ke kr (cW n lv l) H) L) l H=some r->
   app lv.length (gm lv.length (fun k=>abs lv.length fun l H=>cu P reg f n b x (fun t H=>app lv.length k (b6 lv t) H) ke kr (cW n lv l) H) L') l H=some r:=by
  intro L
  induction L with
  | zero=>intro L' l H r hl _ h;rw[zero l H hl] at h;cases h
  | succ L ih=>
   intro L' l H r hl hle h
   obtain⟨L2,rfl⟩:∃ L2,L'=L2+1:=⟨L'-1,by omega⟩
   rw[JH L l H hl] at h
   rw[JH L2 l H hl]
   obtain⟨k0,hk⟩:=I2 fy b x (fun _=>f) f (fun _=>_) _ (fun _=>ke) ke (fun _=>kr) kr _ H r const (fun t H r h=>Ev.of fun _=>ih L2 (b6 lv t) H r (CT lv t) (by omega) h) (fun i=>nL (ke i)) (nL kr) h
   exact hk k0 (zf _)
 have uniq:∀ (l:List AV) (H:Hp),l.length=lv.length->∀ (L L':Nat) (r r':AV × Hp),app lv.length (gm lv.length (fun k=>abs lv.length fun l H=>cu P reg f n b x (fun t H=>app lv.length k (b6 lv t) H) ke kr (cW n lv l) H) L) l H=some r->
   app lv.length (gm lv.length (fun k=>abs lv.length fun l H=>cu P reg f n b x (fun t H=>app lv.length k (b6 lv t) H) ke kr (cW n lv l) H) L') l H=some r'->r=r':=by
  intro l H hl L L' r r' h h'
  rcases Nat.le_total L L' with q | q
  ·have:=mono L L' l H r hl q h
   rw[this] at h';exact ada h'
  ·have:=mono L' L l H r' hl q h'
   rw[h] at this;exact ada this
 have Lm:∀ (l:List AV) (H:Hp),l.length=lv.length->app lv.length (LP lv.length (fun k=>abs lv.length fun l H=>cu P reg f n b x (fun t H=>app lv.length k (b6 lv t) H) ke kr (cW n lv l) H)) l H=lim (fun L=>app lv.length (gm lv.length (fun k=>abs lv.length fun l H=>cu P reg f n b x (fun t H=>app lv.length k (b6 lv t) H) ke kr (cW n lv l) H) L) l H):=fun l H hl=>by
  unfold LP
  rw[D7 _ _ _ _ hl]
 have fwd:∀ (r:AV × Hp),app lv.length (LP lv.length (fun k=>abs lv.length fun l H=>cu P reg f n b x (fun t H=>app lv.length k (b6 lv t) H) ke kr (cW n lv l) H)) l H=some r->
   cu P reg f n b x (fun t H=>app lv.length (LP lv.length (fun k=>abs lv.length fun l H=>cu P reg f n b x (fun t H=>app lv.length k (b6 lv t) H) ke kr (cW n lv l) H)) (b6 lv t) H) ke kr (cW n lv l) H=some r:=by
  intro r h
  rw[Lm l H hl] at h
  obtain⟨L,hL⟩:=Cz h
  cases L with
  | zero=>rw[zero l H hl] at hL;cases hL
  | succ L=>
   rw[JH L l H hl] at hL
   obtain⟨k0,hk⟩:=I2 fy b x (fun _=>f) f (fun _=>fun t H=>app lv.length (LP lv.length (fun k=>abs lv.length fun l H=>cu P reg f n b x (fun t H=>app lv.length k (b6 lv t) H) ke kr (cW n lv l) H)) (b6 lv t) H) _ (fun _=>ke) ke (fun _=>kr) kr _ H r const
    (fun t H r h=>Ev.of fun _=>(Lm _ H (CT lv t)).trans (Kf h (uniq _ H (CT lv t)))) (fun i=>nL (ke i)) (nL kr) hL
   exact hk k0 (zf _)
 have bwd:∀ (r:AV × Hp),cu P reg f n b x (fun t H=>app lv.length (LP lv.length (fun k=>abs lv.length fun l H=>cu P reg f n b x (fun t H=>app lv.length k (b6 lv t) H) ke kr (cW n lv l) H)) (b6 lv t) H) ke kr (cW n lv l) H=some r->
   app lv.length (LP lv.length (fun k=>abs lv.length fun l H=>cu P reg f n b x (fun t H=>app lv.length k (b6 lv t) H) ke kr (cW n lv l) H)) l H=some r:=by
  intro r h
  obtain⟨k0,hk⟩:=I2 fy b x (fun _=>f) f (fun L=>fun t H=>app lv.length (gm lv.length (fun k=>abs lv.length fun l H=>cu P reg f n b x (fun t H=>app lv.length k (b6 lv t) H) ke kr (cW n lv l) H) L) (b6 lv t) H) _ (fun _=>ke) ke (fun _=>kr) kr _ H r const
   (fun t H r h=>by
    replace h:=(Lm _ H (CT lv t)).symm.trans h
    obtain⟨L,hL⟩:=Cz h
    exact⟨L,fun k hle=>mono L k _ H r (CT lv t) hle hL⟩) (fun i=>nL (ke i)) (nL kr) h
  rw[Lm l H hl]
  refine Kf (L:=k0+1) ?_ (uniq l H hl)
  rw[JH k0 l H hl]
  exact hk k0 (zf _)
 cases h1:app lv.length (LP lv.length (fun k=>abs lv.length fun l H=>cu P reg f n b x (fun t H=>app lv.length k (b6 lv t) H) ke kr (cW n lv l) H)) l H with
 | some r=>exact (fwd r h1).symm
 | none=>
  cases h2:cu P reg f n b x (fun t H=>app lv.length (LP lv.length (fun k=>abs lv.length fun l H=>cu P reg f n b x (fun t H=>app lv.length k (b6 lv t) H) ke kr (cW n lv l) H)) (b6 lv t) H) ke kr (cW n lv l) H with
  | none=>rfl
  | some r=>rw[bwd r h2] at h1;cases h1
end
def AL (P:Program)(t:Tm)(H:Hp):List ResultVar->(List AV->R)->R
 | [],k=>k []
 | .tmp x::r,k=>AL P t H r fun l=>k ((t.get x).getD cF::l)
 | .cell a ty::r,k=>match uV P ty,sz P ty with
  | some true,some n=>B1 (cn n ((t.get a).getD cF) H) fun v=>AL P t H r fun l=>k (v::l)
  | some false,_=>B1 (ld ((t.get a).getD cF) H) fun v=>AL P t H r fun l=>k (v::l)
  | _,_=>none
def ze (P:Program)(t:Tm)(H:Hp)(l:List ResultVar):R:=AL P t H l fun vs=>some (Jv vs,H)
theorem age {P:Program}{ty:TypeId}{x v:AV}{H:Hp}(ha:uV P ty=some false)(h:ld x H=some v):p9 P H ty x=some v:=by
 unfold ld at h
 split at h
 ·unfold p9
  simp only[ha,ace,ach,abP,if_false,h]
 ·cases h
theorem acu {P:Program}{ty:TypeId}{n:Nat}{x v:AV}{H:Hp}(ha:uV P ty=some true)(hs:sz P ty=some n)(h:cn n x H=some v):p9 P H ty x=some v:=by
 unfold cn at h
 split at h
 ·rename_i i off
  unfold p9
  simp only[ha,hs,ace,ach,if_true]
  cases hc:cU H i off n with
  | none=>rw[hc] at h;cases h
  | some l=>rw[hc] at h;cases h;rfl
 ·cases h
theorem Ht {P:Program}{t:Tm}{H:Hp}:∀ (l:List ResultVar) (k:List AV->R) (r:AV × Hp),AL P t H l k=some r->∃ vs,qS P t H l=some vs/\k vs=some r
 | [],k,r,h=>⟨[],rfl,h⟩
 | .tmp x::l,k,r,h=>by
  unfold AL at h
  obtain⟨vs,h1,h2⟩:=Ht l _ r h
  exact⟨_,by unfold qS;rw[h1],h2⟩
 | .cell a ty::l,k,r,h=>by
  unfold AL at h
  split at h
  ·rename_i n ha hs
   obtain⟨v,q1,q2⟩:=dQ h
   obtain⟨vs,h1,h2⟩:=Ht l _ r q2
   exact⟨_,by unfold qS;rw[acu ha hs q1,h1],h2⟩
  ·rename_i q ha hs
   obtain⟨v,q1,q2⟩:=dQ h
   obtain⟨vs,h1,h2⟩:=Ht l _ r q2
   exact⟨_,by unfold qS;rw[age hs q1,h1],h2⟩
  ·cases h
def GQ (n:Nat)(args:List AV):Tm:=Tr.cR .nil 0 (args++List.replicate (n-args.length) cF)
noncomputable section
def ado (P:Program)(reg:pq)(cf:CF)(fn:Func)(an:An)(b:Code)(args:List AV)(H:Hp):R:=
 cu P reg cf fn.ntmps b an (fun t H=>ze P t H fn.results.toList) (fun _ _ _=>none) (fun t H=>ze P t H fn.results.toList) (GQ fn.ntmps args) H
def va (P:Program)(reg:pq)(ext:Nat->Option Ext)(b7:Nat->Option Prim)(an:Nat->An)(cf:CF):CF:=fun g args H=>
 match g with
 | .func (.func cl) first cap=>
  match b7 cl with
  | some p=>p (first++args++cap) H
  | none=>match P.funcs[cl]? with
   | some fn=>match fn.body with
    | some b=>bif Nat.ble (first++args++cap).length fn.ntmps&&Nat.blt fn.ntmps 4294967296&&(an cl).ok fn.ntmps then ado P reg cf fn (an cl) b (first++args++cap) H else none
    | none=>match ext cl with
     | some k=>IV P k (first++args++cap) H
     | none=>none
   | none=>none
 | _=>none
def SK (P:Program)(reg:pq)(ext:Nat->Option Ext)(b7:Nat->Option Prim)(an:Nat->An):Nat->CF
 | 0=>fun _ _ _=>none
 | k+1=>va P reg ext b7 an (SK P reg ext b7 an k)
def CK (P:Program)(reg:pq)(ext:Nat->Option Ext)(b7:Nat->Option Prim)(an:Nat->An):CF:=fun g args H=>lim fun k=>SK P reg ext b7 an k g args H
end
section
variable {P:Program}{reg:pq}{ext:Nat->Option Ext}{b7:Nat->Option Prim}{an:Nat->An}
theorem aa6 (fy:uc reg){cZ:Nat->CF}{cf:CF}(h:qn cZ cf):qn (fun k=>va P reg ext b7 an (cZ k)) (va P reg ext b7 an cf):=by
 intro g args H r hc
 unfold va at hc ⊢
 cases g<;>try (cases hc;done)
 rename_i fn first cap
 cases fn<;>try (cases hc;done)
 rename_i cl
 simp only at hc ⊢
 cases hp:b7 cl with
 | some p=>rw[hp] at hc;exact Ev.of fun _=>hc
 | none=>
  rw[hp] at hc
  simp only at hc ⊢
  cases hf:P.funcs[cl]? with
  | none=>rw[hf] at hc;cases hc
  | some fn=>
   rw[hf] at hc
   simp only at hc ⊢
   cases hb:fn.body with
   | none=>rw[hb] at hc;exact Ev.of fun _=>hc
   | some b=>
    rw[hb] at hc
    simp only at hc ⊢
    cases hk:(Nat.ble (first++args++cap).length fn.ntmps&&Nat.blt fn.ntmps 4294967296&&(an cl).ok fn.ntmps) with
    | false=>rw[hk] at hc;cases hc
    | true=>
     rw[hk] at hc
     simp only[cond_true] at hc ⊢
     have nL:∀ (f:KN),uE (fun _=>f) f:=fun f t H r h=>Ev.of fun _=>h
     exact I2 fy b (an cl) cZ cf _ _ _ _ _ _ _ H r h (nL _) (fun i=>nL _) (nL _) hc
theorem Y3 (fy:uc reg):∀ k,qn (fun _=>SK P reg ext b7 an (k+1)) (SK P reg ext b7 an k)
 | 0=>fun g l H r h=>by cases h
 | k+1=>fun g l H r h=>by
  obtain⟨k0,hk⟩:=aa6 (P:=P) (ext:=ext) (b7:=b7) (an:=an) fy (Y3 fy k) g l H r h
  exact Ev.of fun _=>hk k0 (zf _)
theorem Pu (fy:uc reg){g:AV}{l:List AV}{H:Hp}{r:AV × Hp}:∀ {j k:Nat},j<=k->SK P reg ext b7 an j g l H=some r->SK P reg ext b7 an k g l H=some r:=by
 intro j k hle h
 induction hle with
 | refl=>exact h
 | step _ ih=>
  obtain⟨k0,hk⟩:=Y3 fy _ g l H r ih
  exact hk k0 (zf _)
theorem alZ (fy:uc reg){g:AV}{l:List AV}{H:Hp}(j k:Nat)(r r':AV × Hp)(h:SK P reg ext b7 an j g l H=some r)(h':SK P reg ext b7 an k g l H=some r'):r=r':=by
 rcases Nat.le_total j k with q | q
 ·rw[Pu fy q h] at h';exact ada h'
 ·have:=Pu fy q h'
  rw[h] at this;exact ada this
theorem afB (fy:uc reg):qn (SK P reg ext b7 an) (CK P reg ext b7 an):=by
 intro g l H r h
 obtain⟨k0,hk⟩:=Cz h
 exact⟨k0,fun k hle=>Pu fy hle hk⟩
theorem Yd (fy:uc reg){g:AV}{l:List AV}{H:Hp}{r:AV × Hp}(h:va P reg ext b7 an (CK P reg ext b7 an) g l H=some r):CK P reg ext b7 an g l H=some r:=by
 obtain⟨k0,hk⟩:=aa6 (P:=P) (ext:=ext) (b7:=b7) (an:=an) fy (afB fy) g l H r h
 exact Kf (L:=k0+1) (hk k0 (zf _)) (fun j k r r'=>alZ fy j k r r')
theorem alb (hm:P.follows .mixedOrders=true)(hN:jA P)(hE:uy P ext)(hP:ot P b7)(fy:C5 P reg)(hA:qQ P an){cf:CF}(fj:sO P cf):sO P (va P reg ext b7 an cf):=by
 intro g args H v H' hc
 unfold va at hc
 split at hc
 ·rename_i cl first cap
  refine⟨cl,first,cap,rfl,?_⟩
  intro F W e w bV hR jy
  split at hc
  ·rename_i p hp
   exact .inr (hP cl p hp _ H v H' hc F W e w bV hR jy)
  ·split at hc
   ·rename_i fn hf
    split at hc
    ·rename_i b hb
     cases hle:(Nat.ble (first++args++cap).length fn.ntmps&&Nat.blt fn.ntmps 4294967296&&(an cl).ok fn.ntmps) with
     | false=>rw[hle] at hc;cases hc
     | true=>
     rw[hle] at hc
     simp only[cond_true] at hc
     rw[aaK,aaK,acN,acY] at hle
     refine .inr ⟨nM hN hf hb bV w,?_⟩
     have hlen:bV.size=(first++args++cap).length:=by have:=jy.1;simpa using this
     have hT:rS e fn.ntmps (GQ fn.ntmps (first++args++cap)) { tmps:=bV++Array.replicate (fn.ntmps-bV.size) undef,defers:=[] }:=by
      have jr:((first++args++cap)++List.replicate (fn.ntmps-(first++args++cap).length) cF).length=fn.ntmps:=by
       rw[aaO,afW];omega
      refine⟨⟨by simp;omega,fun x => ?_⟩,fun x hx => ?_⟩
      ·unfold GQ
       rw[Bf]
       simp only[wc,ack,true_and,adD,jr]
       by_cases hx:x<(first++args++cap).length
       ·rw[if_pos (by omega),abi hx]
        have h1:(first++args++cap)[x]? = some (first++args++cap)[x]:=abb hx
        obtain⟨v',h2,h3⟩:=jy.get h1
        rw[h1,afy,ads,Array.getElem?_append_left (by omega),<-acF,h2]
        exact h3
       ·have hu:(bV++Array.replicate (fn.ntmps-bV.size) undef).getD x undef=undef:=by
         rw[ads,Array.getElem?_append_right (by omega),Array.getElem?_replicate]
         split<;>rfl
        simp only[hu]
        split
        ·rw[abM (by omega),ahl]
         split
         ·exact VR.undef
         ·exact VR.undef
        ·rw[Tr.get_nil];exact VR.undef
      ·unfold GQ
       rw[Bf,jr,if_neg (by omega),Tr.get_nil]
     refine calls_of_wp hf hb (af7 hm fy fj b (an cl) _ _ _ _ H (v,H') hle.2 (hA cl fn b hf hb) hc F W e _ w _ hR hT ?_ ?_ ?_)
     ·intro e' a' w' t' H2 he cA cV hd hk
      unfold ze at hk
      obtain⟨vs,mF,gj⟩:=Ht _ _ _ hk
      cases gj
      obtain⟨u,hu,dT⟩:=SC cA cV.1 mF
      exact⟨hd,u,hu,e',u,rfl,he,cA,dT⟩
     ·intro i e' a' w' t' H2 he cA cV hd hk
      cases hk
     ·intro e' a' w' t' H2 he cA cV hd hk
      unfold ze at hk
      obtain⟨vs,mF,gj⟩:=Ht _ _ _ hk
      cases gj
      obtain⟨u,hu,dT⟩:=SC cA cV.1 mF
      exact⟨hd,u,hu,e',u,rfl,he,cA,dT⟩
    ·rename_i hb
     split at hc
     ·rename_i k hk
      obtain⟨v',w',e',h1,h2,h3,h4⟩:=aar hR jy hc
      refine .inl ⟨v',w',e',?_,h2,h3,h4⟩
      rw[hE cl k hk,Sem.run_bind,h1]
      rfl
     ·cases hc
   ·cases hc
 ·cases hc
theorem WB (hm:P.follows .mixedOrders=true)(hN:jA P)(hE:uy P ext)(hP:ot P b7)(fy:C5 P reg)(hA:qQ P an):∀ k,sO P (SK P reg ext b7 an k)
 | 0=>fun g args H v H' h=>by cases h
 | k+1=>alb hm hN hE hP fy hA (WB hm hN hE hP fy hA k)
theorem aic (hm:P.follows .mixedOrders=true)(hN:jA P)(hE:uy P ext)(hP:ot P b7)(fy:C5 P reg)(hA:qQ P an):sO P (CK P reg ext b7 an):=by
 intro g args H v H' h
 obtain⟨k,hk⟩:=Cz h
 exact WB hm hN hE hP fy hA k g args H v H' hk
theorem IN (hm:P.follows .mixedOrders=true)(hN:jA P)(hE:uy P ext)(hP:ot P b7)(fy:C5 P reg)(hA:qQ P an){g:Nat}{args:List AV}{H:Hp}{v:AV}{H':Hp}(h:CK P reg ext b7 an (.func (.func g) [] []) args H=some (v,H')){fn:Func}{b:Code}
  (hf:P.funcs[g]? = some fn) (hb:fn.body=some b) {F:Nat->Prop} {W:World} {e:Em} {w:World} {bV:Array Value} (hR:RH P.globals.size F W e H w) (ha:cj e args bV.toList):Calls P g bV w (xF P.globals.size F W e v H'):=by
 obtain⟨cl,first,cap,hg,hs⟩:=aic hm hN hE hP fy hA _ _ _ _ _ h
 cases hg
 rcases hs F W e w bV hR (by simpa using ha) with⟨v',w',e',h1,_⟩ | ⟨_,h2⟩
 ·rw[nM hN hf hb] at h1
  cases h1
 ·exact h2
end
end K
end Go.Proofs.YtbdlbhlhnpblpaaGreatDoor.Am
