/- Laws that the proof uses. -/
import Derived.Test.YtodfajmihkagnaaGreatDoorAm9
set_option linter.unusedVariables false
set_option linter.unusedSimpArgs false
namespace Go.Proofs.YtodfajmihkagnaaGreatDoor.Am
open Go.RowKit
section
section
section
def N9 (N:Nat):AV->Bool
 |.bool _|.int _ _|.str _|.da|.ah|.lG|.nilFunc|.nilIface=>true|.ptr i _=>Nat.blt i N|.iface _ v=>N9 N v|_=>false
def G9 (e:Em)(n:Nat->Nat)(N:Nat):Em:={b:=e.b,d:=e.d,n:=n,N:=N}
theorem VR.cut {e:Em}{n:Nat->Nat}{N:Nat}{v:AV}{v':Value}(h:VR e v v')(hs:N9 N v=true):VR (G9 e n N) v v':=by
 induction h with
 |bool b=>exact .bool b|int k z=>exact .int k z|str s=>exact .str s|da=>exact .da|ah=>exact .ah|lG=>exact .lG|nilFunc=>exact .nilFunc|nilIface=>exact .nilIface|ptr i off o hi ho=>
  have:i<N:=by simpa[N9,adW] using hs
  exact .ptr (e:=G9 e n N) i off o this ho
 |iface t v v' _ ih=>exact .iface t v v' (ih hs)|_=>cases hs
def CQ (H:Hp)(L:List (Nat×List AV)):Prop:=∃el:Nat->TypeId,∀g l,(g,l)∈L->H.h.get g=some (.cells (Tr.cl .nil 0 l) 0 l.length (el g) 2)
noncomputable section
open Classical in
def Qj (L:List (Nat×List AV))(N:Nat):Prim:=λargs H=>if args=[]/\CQ H L/\N<=H.next then some (.bool true,H) else none
end
section
variable {F:Nat->Prop}{H:Hp}{L:List (Nat×List AV)}{N:Nat}{W w:World}{e:Em}{fn:Func}
theorem aH2 {G:Nat}(hR:RH G F W e H w){el:Nat->TypeId}(hG:G<N)(hle:N<=H.next)
  (hL:∀g l,(g,l)∈L->g<G/\g<4294967296/\l.length<4294967296/\∀v∈l,N9 N v=true) (hT:∀g l,(g,l)∈L->H.h.get g=some (.cells (Tr.cl .nil 0 l) 0 l.length (el g) 2)):
  RH G (λk=>k<w.heap.size) w (G9 e (λi=>if i=G then w.heap.size else e.n i) N) ⟨um el L,N⟩ w:=by
 have key:∀i o,(um el L).get i=some o->i<G/\H.h.get i=some o/\∃l,(i,l)∈L/\o=.cells (Tr.cl .nil 0 l) 0 l.length (el i) 2:=by intro i o h;obtain⟨l,hm,rfl⟩:=WA _ L (λx hx=>(hL x.1 x.2 hx).2.1) i o h;exact⟨(hL i l hm).1,hT i l hm,l,hm,rfl⟩
 refine⟨rfl,?_,?_,?_,λk hk=>⟨hk,rfl⟩,rfl,rfl,rfl,aaO _,hR.ou.1,hG,by simp[G9]⟩
 ·intro i o h;obtain⟨hi,hg,l,hm,rfl⟩:=key i o h;obtain⟨_,ob,eW,fj,_⟩:=hR.obj i _ hg;refine⟨Nat.lt_trans hi hG,ob,eW,?_,?_⟩
  ·obtain⟨_,_,hl,hs⟩:=hL i l hm;cases fj with
   |cells _ _ _ _ _ C fz hn kO h0 h1 hd=>
    refine .cells _ 0 l.length _ 2 C fz ?_ ?_ zzy zzy hd;·simp only[G9];rw[zz1 zzz];exact hn
    ·intro k v a b hk;obtain⟨k',h2,v',h3,h4⟩:=kO k v a b hk;refine⟨k',h2,v',h3,?_⟩;have hv:v∈l:=by rw[Tr.JH (α:=AV) .nil _ _ _ _ zzz,zz2 zzz,agA] at hk;exact aac hk
     exact h4.cut (hs v hv)
  ·intro q hF;rcases q with q|q;·cases q
   ·simp[G9] at q;have:=(acA.1 eW).1;omega
 ·intro i j oi oj h1 h2 hq e;obtain⟨hi,hg,l,hm,rfl⟩:=key i oi h1;obtain⟨_,ob,eW,fj,_⟩:=hR.obj i _ hg;rcases hq with q|q;·cases q
  ·simp[G9] at q;have:=(acA.1 eW).1;omega
 ·intro g hg;obtain⟨a,b,c⟩:=hR.uH g hg;exact⟨Nat.lt_trans hg hG,b,c⟩
theorem aBG {P:Program}{ext:Nat->Option Ext}{bH:Nat->Option Prim}(hm:P.follows .mixedOrders=true)(hN:qR P)(hE:Bg P ext)(hP:xe P bH){fuel g:Nat}{b:Code}
  (hf:P.funcs[g]?=some fn) (hb:fn.body=some b) (hG:P.globals.size<N) (hL:∀g l,(g,l)∈L->g<P.globals.size/\g<4294967296/\l.length<4294967296/\∀v∈l,N9 N v=true)
  (h:∀el,Tw (Rx P ext bH fuel g [] ⟨um el L,N⟩)=true):CY P g (Qj L N):=by
 intro args H v H' hp F W e w as' hR nH;unfold Qj at hp;split at hp
 ·rename_i hc;obtain⟨rfl,⟨el,hT⟩,hle⟩:=hc;cases hp;have has:as'=#[]:=by have:=nH.mh;cases as';simp_all
  subst has;refine⟨Ba hN hf hb #[] w,?_⟩;refine (aIx hm hN hE hP hf hb (h el) (aH2 hR hG hle hL hT)).mono λen w' ⟨h1,h2⟩=>?_;exact⟨e,_,h1,e.le_refl,hR.below h2,.bool true⟩
 ·cases hp
end
end
namespace K
abbrev R:=Option (AV×Hp)
def B1 {α:Type}(o:Option α)(k:α->R):R:=match o with|some v=>k v|none=>none
def B2 (o:Option (AV×Hp))(k:AV->Hp->R):R:=match o with|some p=>k p.1 p.2|none=>none
section
variable {r:AV×Hp}
theorem fR {α:Type}{o:Option α}{k:α->R}(h:B1 o k=some r):∃v,o=some v/\k v=some r:=by
 cases o with
 |none=>cases h
 |some v=>exact⟨v,rfl,h⟩
theorem xv {o:Option (AV×Hp)}{k:AV->Hp->R}(h:B2 o k=some r):∃v H,o=some (v,H)/\k v H=some r:=by
 cases o with
 |none=>cases h
 |some p=>exact⟨p.1,p.2,rfl,h⟩
def ld (x:AV)(H:Hp):Option AV:=match x with|.ptr i o=>cellAt H i o|_=>none
def aB (n:Nat)(x:AV)(H:Hp):Option AV:=match x with|.ptr i o=>(av H i o n).map .agg|_=>none
def BN (o:Option (Nat×Hp))(k:Nat->Hp->R):R:=match o with|some p=>k p.1 p.2|none=>none
theorem Ts {o:Option (Nat×Hp)}{k:Nat->Hp->R}(h:BN o k=some r):∃i H,o=some (i,H)/\k i H=some r:=by
 cases o with
 |none=>cases h
 |some p=>exact⟨p.1,p.2,rfl,h⟩
def yr (b:Bool)(x:R):R:=bif b then x else none
@[reducible] def Fn:Nat->Type
 |0=>Hp->R|m+1=>AV->Fn m
def app:(m:Nat)->Fn m->List AV->Hp->R
 |0,f,l,H=>match l with|[]=>f H|_::_=>none
 |m+1,f,l,H=>match l with|[]=>none|x::l=>app m (f x) l H
def abs:(m:Nat)->(List AV->Hp->R)->Fn m
 |0,g=>λH=>g [] H
 |m+1,g=>λx=>abs m (λl=>g (x::l))
theorem Lf:∀(m:Nat) (g:List AV->Hp->R) (l:List AV) (H:Hp),l.length=m->app m (abs m g) l H=g l H
 |0,g,[],H,_=>rfl|0,g,_::_,H,h=>by simp at h
 |m+1,g,[],H,h=>by simp at h
 |m+1,g,x::l,H,h=>Lf m (λl=>g (x::l)) l H (by simpa using h)
def JN (m:Nat)(f:Fn m->R)(k:Fn m):R:=f k
end
noncomputable section
open Classical in
def lim (f:Nat->R):R:=if h:∃r L,f L=some r then some h.choose else none
section
variable {f:Nat->R}{r:AV×Hp}
theorem Jo (h:lim f=some r):∃L,f L=some r:=by
 unfold lim at h;split at h;·rename_i q;rw[<-acd h];exact q.choose_spec
 ·cases h
theorem Ss {L:Nat}(h:f L=some r)(hu:∀L L' r r',f L=some r->f L'=some r'->r=r'):lim f=some r:=by have q:∃r L,f L=some r:=⟨r,L,h⟩;unfold lim;rw[dif_pos q];obtain⟨L',X4⟩:=q.choose_spec;rw[hu L' L _ _ X4 h]
def jK (m:Nat)(B:Fn m->Fn m):Nat->Fn m
 |0=>abs m (λ_ _=>none)|L+1=>B (jK m B L)
def LP (m:Nat)(B:Fn m->Fn m):Fn m:=abs m (λl H=>lim (λL=>app m (jK m B L) l H))
end
end
def CD (c:AV)(x y:R):R:=match c with|.bool q=>bif q then x else y|_=>none
def aI (lv:List Nat)(t:Tm):List AV:=lv.map λd=>(t.get d).getD bS
theorem JO (lv:List Nat)(t:Tm):(aI lv t).length=lv.length:=by simp[aI]
def ab5:List Nat->List AV->Tm->Tm
 |d::lv,v::l,t=>ab5 lv l (t.put 34 d v)|_,_,t=>t
def cU (n:Nat)(lv:List Nat)(l:List AV):Tm:=ab5 lv l (Tr.cl .nil 0 (List.replicate n .dG))
inductive An where
 |nl
 |sq (j:Option (List Nat)) (a b:An)
 |cd (a b:An)
 |bl (j:Option (List Nat)) (a:An)
 |lp (lv:List Nat) (a:An)
 |pr (lv:List Nat) (p:Tm->Hp->Option Hp)
abbrev KN:=Tm->Hp->R
abbrev u6:=CF->Nat->Array Oper->Bool->Tm->Hp->KN->R
noncomputable section
variable (P:Program)(reg:u6)
def bE (cf:CF)(n:Nat):Code->An->KN->(Nat->KN)->KN->KN
 |.skip,_,kn,_,_=>kn|.label _,_,kn,_,_=>kn|.seq a b,an,kn,ke,kr=>match an with
  |.sq none x y=>bE cf n a x (bE cf n b y kn ke kr) ke kr|.sq (some lv) x y=>λt H=>JN lv.length (λk=>bE cf n a x (λt H=>app lv.length k (aI lv t) H) ke kr t H) (abs lv.length λl H=>bE cf n b y kn ke kr (cU n lv l) H)
  |.pr lv p=>λt H=>B1 (p t H) λH=>kn (cU n lv (aI lv t)) H
  |_=>λ_ _=>none
 |.cond c a b,an,kn,ke,kr=>match an with
  |.cd x y=>λt H=>CD (ev P.globals.size t c) (bE cf n a x kn ke kr t H) (bE cf n b y kn ke kr t H)
  |_=>λ_ _=>none
 |.block i b,an,kn,ke,kr=>match an with
  |.bl none x=>bE cf n b x kn (λj t H=>bif Nat.beq j i then kn t H else ke j t H) kr|.bl (some lv) x=>λt H=>JN lv.length (λk=>bE cf n b x (λt H=>app lv.length k (aI lv t) H) (λj t H=>bif Nat.beq j i then app lv.length k (aI lv t) H else ke j t H) kr t H) (abs lv.length λl H=>kn (cU n lv l) H)
  |_=>λ_ _=>none
 |.loop b,an,kn,ke,kr=>match an with
  |.lp lv x=>λt H=>app lv.length (LP lv.length (λk=>abs lv.length λl H=>bE cf n b x (λt H=>app lv.length k (aI lv t) H) ke kr (cU n lv l) H)) (aI lv t) H
  |_=>λ_ _=>none
 |.exit i,_,_,ke,_=>ke i|.ret,_,_,_,kr=>kr|.region _ ops d,_,kn,_,_=>λt H=>reg cf n ops d t H kn
 |_,_,_,_,_=>λ_ _=>none
end
def J0 (P:Program)(reg:u6):Prop:=
 ∀(cf:CF) (n:Nat) (ops:Array Oper) (d:Bool) (t:Tm) (H:Hp) (k:KN) (r:AV×Hp),reg cf n ops d t H k=some r->
  ∃t' H',(bif d then F7 P cf n ops t H else vV P cf n ops ops.toList t H)=some (t',H')/\k t' H'=some r
def pJ (e:Em)(n:Nat)(t:Tm)(a:Act):Prop:=TR e n t a/\∀d,n<=d->t.get d=none
theorem C9 {α:Type}:∀(l:List α) (t:Tr α) (n m:Nat),(t.cl n l).get m=if n<=m/\m<n+l.length then l[m-n]? else t.get m
 |[],t,n,m=>by rw[zz1 (by simp only[ach];omega)];rfl
 |x::l,t,n,m=>by
  rw[Tr.cl,C9 l,Tr.put,Tr.gL];by_cases h1:m=n;·subst h1;rw[zz1 zzz,zz2 rfl,zz2 zzy];simp
  ·by_cases h2:n+1<=m/\m<n+1+l.length;·rw[zz2 h2,zz2 (by simp;omega)];have:m-n=(m-(n+1))+1:=zzz;rw[this,acJ]
   ·rw[zz1 h2,zz1 h1,zz1 (by simp;omega)]
theorem ab7:∀(lv:List Nat) (l:List AV) (t:Tm) (d:Nat) (p:Option AV->Prop),(∀(x:Nat) (v:AV),x∈lv->(∃i:Nat,lv[i]?=some x/\l[i]?=some v)->x=d->p (some v))->p (t.get d)->p ((ab5 lv l t).get d)
 |[],l,t,d,p,_,h=>by cases l<;>exact h
 |x::lv,[],t,d,p,_,h=>h|x::lv,v::l,t,d,p,hp,h=>by
  refine ab7 lv l (t.put 34 x v) d p (λy u hy ⟨i,h1,h2⟩ he=>hp y u (.tail _ hy) ⟨i+1,by simpa using h1,by simpa using h2⟩ he) ?_;rw[Tr.put,Tr.gL];by_cases hd:d=x;·rw[zz2 hd];exact hp x v (.head _) ⟨0,rfl,rfl⟩ hd.symm
  ·rw[zz1 hd];exact h
theorem pJ.BS {e:Em}{n:Nat}{t:Tm}{a:Act}(h:pJ e n t a){lv:List Nat}(G5:∀d∈lv,d<n):pJ e n (cU n lv (aI lv t)) a:=by
 refine⟨⟨h.1.size,λd=>?_⟩,λd hd=>?_⟩
 ·unfold cU;refine ab7 lv (aI lv t) _ d (λo=>VR e (o.getD bS) (a.tmps.getD d undef)) ?_ ?_;·rintro x v _ ⟨i,h1,h2⟩ rfl;unfold aI at h2;rw[ab9,h1] at h2;cases h2;exact h.1.val x
  ·rw[C9];split;·rename_i q;rw[amt];simp only[afg,ade] at q;rw[zz2 zzz];exact .dG _
   ·rename_i q;simp only[afg,ade,aa7,true_and,Nat.not_lt] at q;rw[Tr.get_nil];have:=h.1.val d;rw[h.2 d q] at this;exact this
 ·unfold cU;refine ab7 lv (aI lv t) _ d (λo=>o=none) ?_ ?_;·intro x v hx _ he;have:=G5 x hx;omega
  ·rw[C9,zz1 (by simp;omega),Tr.get_nil]
def An.ok (n:Nat):An->Bool
 |.nl=>true|.sq j a b=>(j.getD []).all (λd=>Nat.blt d n)&&a.ok n&&b.ok n|.cd a b=>a.ok n&&b.ok n|.bl j a=>(j.getD []).all (λd=>Nat.blt d n)&&a.ok n|.lp lv a=>lv.all (λd=>Nat.blt d n)&&a.ok n|.pr lv _=>lv.all (λd=>Nat.blt d n)
theorem WM {n:Nat}{lv:List Nat}(h:lv.all (λd=>Nat.blt d n)=true):∀d∈lv,d<n:=λd hd=>by have:=acT.1 h d hd;rwa[adW] at this
end K
end
namespace K
variable {P:Program}{reg:u6}
theorem Jt {n:Nat}{dst:Option Tmp}{v:AV}{t t':Tm}(h:je n dst v t=some t')(ht:∀d,n<=d->t.get d=none):∀d,n<=d->t'.get d=none:=by
 intro d hd;unfold je at h;split at h;·cases h;exact ht d hd
 ·rename_i x;cases hb:(Nat.blt x n&&Nat.blt x 4294967296) with
  |false=>rw[hb] at h;cases h
  |true=>
   rw[hb] at h;cases h;simp only[aaM,adW] at hb;rw[Tr.put,Tr.gL,zz1 zzz];exact ht d hd
theorem Zk {cf:CF}{n:Nat}{ops:Array Oper}:∀(l:List Oper) (t t':Tm) (H H':Hp),vV P cf n ops l t H=some (t',H')->(∀d,n<=d->t.get d=none)->∀d,n<=d->t'.get d=none
 |[],t,t',H,H',h,ht=>by cases h;exact ht
 |o::l,t,t',H,H',h,ht=>by
  unfold vV at h;split at h
  ·split at h
   ·split at h;·rename_i t1 hp;exact Zk l _ _ _ _ h (Jt hp ht)
    ·cases h
   ·cases h
  ·split at h;·rename_i t1 hp;exact Zk l _ _ _ _ h (Jt hp ht)
   ·cases h
  ·cases h
theorem KW {cf:CF}{n:Nat}{ops:Array Oper}:∀(l:List Oper) (i:Nat) (bs:List Nat) (tp te:Tm) (hb h:Hp) (s:List me) (t':Tm) (H':Hp),nh P cf n ops i l bs tp te hb h=some (s,t',H')->(∀d,n<=d->te.get d=none)->∀d,n<=d->t'.get d=none
 |[],i,bs,tp,te,hb,h,s,t',H',hr,ht=>by unfold nh at hr;cases hr;exact ht
 |o::l,i,[],tp,te,hb,h,s,t',H',hr,ht=>by unfold nh at hr;cases hr
 |o::l,i,b::bs,tp,te,hb,h,s,t',H',hr,ht=>by
  unfold nh at hr;split at hr
  ·split at hr
   ·split at hr
    ·split at hr;·rename_i h1 h2;simp only[aaq] at hr;obtain⟨⟨s2,t2,H2⟩,h3,h4⟩:=hr;cases h4;exact KW l _ _ _ _ _ _ _ _ _ h3 (Jt h2 ht)
     ·cases hr
    ·cases hr
   ·split at hr
    ·split at hr;·rename_i h1 h2;simp only[aaq] at hr;obtain⟨⟨s2,t2,H2⟩,h3,h4⟩:=hr;cases h4;exact KW l _ _ _ _ _ _ _ _ _ h3 (Jt h2 ht)
     ·cases hr
    ·cases hr
   ·split at hr
    ·split at hr;·rename_i h1 h2;simp only[aaq] at hr;obtain⟨⟨s2,t2,H2⟩,h3,h4⟩:=hr;cases h4;exact KW l _ _ _ _ _ _ _ _ _ h3 (Jt h2 ht)
     ·cases hr
    ·cases hr
  ·split at hr;·rename_i h1 h2;simp only[aaq] at hr;obtain⟨⟨s2,t2,H2⟩,h3,h4⟩:=hr;cases h4;exact KW l _ _ _ _ _ _ _ _ _ h3 (Jt h2 ht)
   ·cases hr
  ·cases hr
theorem aGR {cf:CF}{n:Nat}{ops:Array Oper}{d:Bool}{t t':Tm}{H H':Hp}(h:(bif d then F7 P cf n ops t H else vV P cf n ops ops.toList t H)=some (t',H'))(ht:∀x,n<=x->t.get x=none):∀x,n<=x->t'.get x=none:=by
 cases d with
 |false=>exact Zk _ _ _ _ _ h ht|true=>
  simp only[cond_true] at h;unfold F7 at h;cases hr:AL ops with
  |false=>rw[hr] at h;cases h
  |true=>
   rw[hr] at h;simp only[cond_true] at h;split at h
   ·rename_i l t1 H1 mK;cases hd:Gd P l with
    |false=>rw[hd] at h;cases h
    |true=>
     rw[hd] at h;cases h;exact KW _ _ _ _ _ _ _ _ _ _ mK ht
   ·cases h
def D7 (P:Program)(r:AV×Hp)(F:Nat->Prop)(W:World)(n:Nat)(e:Em)(ds:List Deferred)(kn:KN)(ex:Exit)(Q:Exit->Act->World->Prop):Prop:=
 ∀e' a' w' t' H',e.le e'->RH P.globals.size F W e' H' w'->pJ e' n t' a'->a'.defers=ds->kn t' H'=some r->Q ex a' w'
theorem D7.mono {r:AV×Hp}{F:Nat->Prop}{W:World}{n:Nat}{e e2:Em}{ds:List Deferred}{kn:KN}{ex:Exit}{Q:Exit->Act->World->Prop}(h:D7 P r F W n e ds kn ex Q)(he:e.le e2):D7 P r F W n e2 ds kn ex Q:=
 λe' a' w' t' H' h1=>h e' a' w' t' H' (Em.le_trans he h1)
theorem rq {m n:Nat}{lv:List Nat}{k:List AV->Hp->R}{t:Tm}{H:Hp}(hm:lv.length=m):app m (abs m k) (aI lv t) H=k (aI lv t) H:=Lf m k _ H (by rw[JO];exact hm)
def aDZ (P:Program)(n:Nat)(c:Code)(lv:List Nat)(p:Tm->Hp->Option Hp):Prop:=
 ∀t H H2,p t H=some H2->∀(F:Nat->Prop) (W:World) (e:Em) (a:Act) (w:World) (Q:Exit->Act->World->Prop),RH P.globals.size F W e H w->pJ e n t a->
  (∀e' a' w',e.le e'->RH P.globals.size F W e' H2 w'->pJ e' n (cU n lv (aI lv t)) a'->a'.defers=a.defers->Q .normal a' w')->c.wp P Q a w
def pM (P:Program)(n:Nat):Code->An->Prop
 |.seq a b,an=>match an with|.sq _ x y=>pM P n a x/\pM P n b y|.pr lv p=>aDZ P n (.seq a b) lv p|_=>True
 |.cond _ a b,an=>match an with|.cd x y=>pM P n a x/\pM P n b y|_=>True
 |.block _ b,an=>match an with|.bl _ x=>pM P n b x|_=>True
 |.loop b,an=>match an with|.lp _ x=>pM P n b x|_=>True
 |_,_=>True
def An.plain:An->Bool
 |.nl=>true|.sq _ a b=>a.plain&&b.plain|.cd a b=>a.plain&&b.plain|.bl _ a=>a.plain|.lp _ a=>a.plain|.pr _ _=>false
theorem pM.plain (P:Program)(n:Nat):∀(c:Code) (an:An),an.plain=true->pM P n c an:=by
 intro c;induction c with
 |seq a b ia ib=>
  intro an h;unfold pM;cases an with
  |sq j x y=>simp only[An.plain,aaM] at h;exact⟨ia x h.1,ib y h.2⟩|pr lv p=>cases h
  |_=>trivial
 |cond q a b ia ib=>
  intro an h;unfold pM;cases an with
  |cd x y=>simp only[An.plain,aaM] at h;exact⟨ia x h.1,ib y h.2⟩|_=>trivial
 |block i b ib=>
  intro an h;unfold pM;cases an with
  |bl j x=>exact ib x h|_=>trivial
 |loop b ib=>
  intro an h;unfold pM;cases an with
  |lp lv x=>exact ib x h|_=>trivial
 |_=>intro an h;unfold pM;trivial
def AN (P:Program)(an:Nat->An):Prop:=∀aU fn b,P.funcs[aU]?=some fn->fn.body=some b->pM P fn.ntmps b (an aU)
theorem AN.plain {P:Program}{an:Nat->An}(h:∀g,(an g).plain=true):AN P an:=λaU fn b _ _=>pM.plain P fn.ntmps b (an aU) (h aU)
def Qc:List (Nat×An)->Nat->An
 |[],_=>.nl|p::r,g=>bif Nat.beq g p.1 then p.2 else Qc r g
theorem aiA {P:Program}:∀{l:List (Nat×An)},(∀p∈l,p.2.plain=true\/∀fn b,P.funcs[p.1]?=some fn->fn.body=some b->pM P fn.ntmps b p.2)->AN P (Qc l)
 |[],h=>AN.plain λ_=>rfl
 |p::r,h=>by
  intro aU fn b h1 h2;show pM P fn.ntmps b (bif Nat.beq aU p.1 then p.2 else Qc r aU);cases hb:Nat.beq aU p.1 with
  |true=>
   obtain rfl:=aa9 hb;rcases h p (.head _) with q|q;·exact pM.plain P _ _ _ q
   ·exact q fn b h1 h2
  |false=>exact aiA (λq hq=>h q (.tail _ hq)) aU fn b h1 h2
theorem axQ (hm:P.follows .mixedOrders=true)(ja:J0 P reg){cf:CF}(iZ:xN P cf){n:Nat}:∀(c:Code) (an:An) (kn:KN) (ke:Nat->KN) (kr:KN) (t:Tm) (H:Hp) (r:AV×Hp),an.ok n=true->pM P n c an->bE P reg cf n c an kn ke kr t H=some r->
  ∀(F:Nat->Prop) (W:World) (e:Em) (a:Act) (w:World) (Q:Exit->Act->World->Prop),RH P.globals.size F W e H w->pJ e n t a->
   D7 P r F W n e a.defers kn .normal Q->(∀i,D7 P r F W n e a.defers (ke i) (.exit i) Q)->D7 P r F W n e a.defers kr .ret Q->c.wp P Q a w:=by
 intro c;induction c with
 |skip=>
  intro an kn ke kr t H r ha pO hc F W e a w Q hR hT hU nE nA;unfold bE at hc;exact wp_skip (hU e a w t H e.le_refl hR hT rfl hc)
 |label l=>
  intro an kn ke kr t H r ha pO hc F W e a w Q hR hT hU nE nA;unfold bE at hc;exact wp_label (hU e a w t H e.le_refl hR hT rfl hc)
 |seq c1 c2 i1 i2=>
  intro an kn ke kr t H r ha pO hc F W e a w Q hR hT hU nE nA;unfold bE at hc;split at hc
  ·rename_i x y;refine wp_seq ?_;simp only[An.ok,aaM] at ha;refine i1 x _ _ _ t H r ha.1.2 pO.1 hc F W e a w _ hR hT ?_ ?_ ?_
   ·intro e' a' w' t' H' he bp cC hd hk;refine i2 y _ _ _ t' H' r ha.2 pO.2 hk F W e' a' w' Q bp cC ?_ ?_ ?_;·rw[hd];exact hU.mono he
    ·intro i;rw[hd];exact (nE i).mono he
    ·rw[hd];exact nA.mono he
   ·intro i e' a' w' t' H' he bp cC hd hk;exact nE i e' a' w' t' H' he bp cC hd hk
   ·intro e' a' w' t' H' he bp cC hd hk;exact nA e' a' w' t' H' he bp cC hd hk
  ·rename_i lv x y;refine wp_seq ?_;simp only[An.ok,aaM,af7] at ha;have G5:=WM ha.1.1;unfold JN at hc;refine i1 x _ _ _ t H r ha.1.2 pO.1 hc F W e a w _ hR hT ?_ ?_ ?_
   ·intro e' a' w' t' H' he bp cC hd hk
    replace hk:=(rq (n:=n) rfl).symm.trans hk
    refine i2 y _ _ _ _ H' r ha.2 pO.2 hk F W e' a' w' Q bp (cC.BS G5) ?_ ?_ ?_;·rw[hd];exact hU.mono he
    ·intro i;rw[hd];exact (nE i).mono he
    ·rw[hd];exact nA.mono he
   ·intro i e' a' w' t' H' he bp cC hd hk;exact nE i e' a' w' t' H' he bp cC hd hk
   ·intro e' a' w' t' H' he bp cC hd hk;exact nA e' a' w' t' H' he bp cC hd hk
  ·rename_i lv p;obtain⟨H2,h1,h2⟩:=fR hc;exact pO t H H2 h1 F W e a w Q hR hT λe' a' w' he bp cC hd=>hU e' a' w' _ H2 he bp cC hd h2
  ·cases hc
 |cond x c1 c2 i1 i2=>
  intro an kn ke kr t H r ha pO hc F W e a w Q hR hT hU nE nA;unfold bE at hc;split at hc
  ·rename_i y z;simp only[An.ok,aaM] at ha;unfold CD at hc;split at hc
   ·rename_i b hb;have hv:=VR.ev hR hT.1 x;rw[hb] at hv;refine wp_cond hv.y7 ?_;cases b with
    |true=>exact i1 y _ _ _ t H r ha.1 pO.1 hc F W e a w Q hR hT hU nE nA|false=>exact i2 z _ _ _ t H r ha.2 pO.2 hc F W e a w Q hR hT hU nE nA
   ·cases hc
  ·cases hc
 |block i b ib=>
  intro an kn ke kr t H r ha pO hc F W e a w Q hR hT hU nE nA;unfold bE at hc;refine wp_block ?_;have inb:∀(j:Nat) (e':Em) (a':Act) (w':World) (t':Tm) (H':Hp) (q:KN),e.le e'->RH P.globals.size F W e' H' w'->pJ e' n t' a'->a'.defers=a.defers->
    (∀e' a' w' t' H',e.le e'->RH P.globals.size F W e' H' w'->pJ e' n t' a'->a'.defers=a.defers->q t' H'=some r->Q .normal a' w')->
    (bif Nat.beq j i then q t' H' else ke j t' H')=some r->Exit.inBlock i Q (.exit j) a' w':=by
   intro j e' a' w' t' H' q he bp cC hd hq hk;show (if j=i then Q .normal a' w' else Q (.exit j) a' w');cases hj:Nat.beq j i with
   |true=>
    rw[hj] at hk;rw[zz2 (aa9 hj)];exact hq e' a' w' t' H' he bp cC hd hk
   |false=>
    rw[hj] at hk;rw[zz1 (λq=>by rw[q,ait] at hj;cases hj)];exact nE j e' a' w' t' H' he bp cC hd hk
  split at hc
  ·rename_i x;simp only[An.ok,aaM] at ha;refine ib x _ _ _ t H r ha.2 pO hc F W e a w _ hR hT ?_ ?_ ?_;·intro e' a' w' t' H' he bp cC hd hk;exact hU e' a' w' t' H' he bp cC hd hk
   ·intro j e' a' w' t' H' he bp cC hd hk;exact inb j e' a' w' t' H' kn he bp cC hd hU hk
   ·intro e' a' w' t' H' he bp cC hd hk;exact nA e' a' w' t' H' he bp cC hd hk
  ·rename_i lv x;simp only[An.ok,aaM,af7] at ha;have G5:=WM ha.1;unfold JN at hc;have hj:∀e' a' w' t' H',e.le e'->RH P.globals.size F W e' H' w'->pJ e' n t' a'->a'.defers=a.defers->app lv.length (abs lv.length λl H=>kn (cU n lv l) H) (aI lv t') H'=some r->Q .normal a' w':=by
    intro e' a' w' t' H' he bp cC hd hk
    replace hk:=(rq (n:=n) rfl).symm.trans hk
    exact hU e' a' w' _ H' he bp (cC.BS G5) hd hk
   refine ib x _ _ _ t H r ha.2 pO hc F W e a w _ hR hT ?_ ?_ ?_;·intro e' a' w' t' H' he bp cC hd hk;exact hj e' a' w' t' H' he bp cC hd hk
   ·intro j e' a' w' t' H' he bp cC hd hk;exact inb j e' a' w' t' H' (λt H=>app lv.length (abs lv.length λl H=>kn (cU n lv l) H) (aI lv t) H) he bp cC hd hj hk
   ·intro e' a' w' t' H' he bp cC hd hk;exact nA e' a' w' t' H' he bp cC hd hk
  ·cases hc
 |loop b ib=>
  intro an kn ke kr t H r ha pO hc F W e a w Q hR hT hU nE nA;unfold bE at hc;split at hc
  ·rename_i lv x;simp only[An.ok,aaM] at ha;have G5:=WM ha.1;unfold LP at hc
   replace hc:=(rq (n:=n) rfl).symm.trans hc
   obtain⟨L,hL⟩:=Jo hc;refine alQ ?_;have key:∀(L:Nat) (e:Em) (a:Act) (w:World) (t:Tm) (H:Hp),app lv.length (jK lv.length (λk=>abs lv.length λl H=>bE P reg cf n b x (λt H=>app lv.length k (aI lv t) H) ke kr (cU n lv l) H) L) (aI lv t) H=some r->
     RH P.globals.size F W e H w->pJ e n t a->(∀i,D7 P r F W n e a.defers (ke i) (.exit i) Q)->D7 P r F W n e a.defers kr .ret Q->Fi P b Q a w:=by
    intro L;induction L with
    |zero=>
     intro e a w t H hq _ _ _ _
     replace hq:=(rq (m:=lv.length) (n:=n) (k:=λ_ _=>none) rfl).symm.trans hq
     cases hq
    |succ L ih=>
     intro e a w t H hq hR hT nE nA
     replace hq:=(rq (m:=lv.length) (n:=n) (k:=λl H=>bE P reg cf n b x (λt H=>app lv.length (jK lv.length (λk=>abs lv.length λl H=>bE P reg cf n b x (λt H=>app lv.length k (aI lv t) H) ke kr (cU n lv l) H) L) (aI lv t) H) ke kr (cU n lv l) H) rfl).symm.trans hq
     refine afh ?_;refine ib x _ _ _ _ H r ha.2 pO hq F W e a w _ hR (hT.BS G5) ?_ ?_ ?_
     ·intro e' a' w' t' H' he bp cC hd hk;refine ih e' a' w' t' H' hk bp cC ?_ ?_;·intro i;rw[hd];exact (nE i).mono he
      ·rw[hd];exact nA.mono he
     ·intro i e' a' w' t' H' he bp cC hd hk;exact nE i e' a' w' t' H' he bp cC hd hk
     ·intro e' a' w' t' H' he bp cC hd hk;exact nA e' a' w' t' H' he bp cC hd hk
   exact key L e a w t H hL hR hT nE nA
  ·cases hc
 |exit i=>
  intro an kn ke kr t H r ha pO hc F W e a w Q hR hT hU nE nA;unfold bE at hc;exact wp_exit (nE i e a w t H e.le_refl hR hT rfl hc)
 |ret=>
  intro an kn ke kr t H r ha pO hc F W e a w Q hR hT hU nE nA;unfold bE at hc;exact wp_ret (nA e a w t H e.le_refl hR hT rfl hc)
 |region id ops d=>
  intro an kn ke kr t H r ha pO hc F W e a w Q hR hT hU nE nA;unfold bE at hc;obtain⟨t1,H1,h1,h2⟩:=ja cf n ops d t H kn r hc;have lK:=aGR h1 hT.2;have fin:∀e' a' w',e.le e'->RH P.globals.size F W e' H1 w'->TR e' n t1 a'->a'.defers=a.defers->Q .normal a' w':=λe' a' w' he bp cC hd=>hU e' a' w' t1 H1 he bp ⟨cC,lK⟩ hd h2;cases d with
  |true=>exact akH hm iZ h1 hR hT.1 fin|false=>
   refine wp_region ?_;have:=aec (Q:=Q) iZ ops.toList 0 t H e a w zzy h1 hR hT.1 fin;rw[List.range_eq_range'];simpa using this
 |_=>
  intro an kn ke kr t H r ha pO hc;unfold bE at hc;cases hc
def Ev (p:Nat->Prop):Prop:=∃k0,∀k,k0<=k->p k
theorem Ev.of {p:Nat->Prop}(h:∀k,p k):Ev p:=⟨0,λk _=>h k⟩
def wU (f:Nat->CF)(g:CF):Prop:=∀x l H r,g x l H=some r->Ev λk=>f k x l H=some r
def Bs (f:Nat->KN)(g:KN):Prop:=∀t H r,g t H=some r->Ev λk=>f k t H=some r
def AW (reg:u6):Prop:=∀(dq:Nat->CF) (cf:CF) (ng:Nat->KN) (kn:KN) (n:Nat) (ops:Array Oper) (d:Bool) (t:Tm) (H:Hp) (r:AV×Hp),wU dq cf->Bs ng kn->reg cf n ops d t H kn=some r->Ev λk=>reg (dq k) n ops d t H (ng k)=some r
theorem QO (ja:AW reg){n:Nat}:∀(c:Code) (an:An) (dq:Nat->CF) (cf:CF) (ng:Nat->KN) (kn:KN) (om:Nat->Nat->KN) (ke:Nat->KN) (mZ:Nat->KN) (kr:KN) (t:Tm) (H:Hp) (r:AV×Hp),
  wU dq cf->Bs ng kn->(∀i,Bs (λk=>om k i) (ke i))->Bs mZ kr->bE P reg cf n c an kn ke kr t H=some r->Ev λk=>bE P reg (dq k) n c an (ng k) (om k) (mZ k) t H=some r:=by
 intro c;induction c with
 |skip=>intro an dq cf ng kn om ke mZ kr t H r h1 h2 h3 h4 hc;unfold bE at hc⊢;exact h2 t H r hc|label l=>intro an dq cf ng kn om ke mZ kr t H r h1 h2 h3 h4 hc;unfold bE at hc⊢;exact h2 t H r hc|seq c1 c2 i1 i2=>
  intro an dq cf ng kn om ke mZ kr t H r h1 h2 h3 h4 hc;unfold bE at hc⊢;cases an with
  |sq j x y=>
   cases j with
   |none=>exact i1 x dq cf _ _ om ke mZ kr t H r h1 (λt H r h=>i2 y dq cf ng kn om ke mZ kr t H r h1 h2 h3 h4 h) h3 h4 hc|some lv=>
    simp only[JN] at hc⊢;refine i1 x dq cf _ _ om ke mZ kr t H r h1 (λt H r h=>?_) h3 h4 hc
    replace h:=(rq (n:=n) rfl).symm.trans h
    obtain⟨k0,hk⟩:=i2 y dq cf ng kn om ke mZ kr _ H r h1 h2 h3 h4 h;exact⟨k0,λk hle=>(rq (n:=n) rfl).trans (hk k hle)⟩
  |pr lv p=>
   simp only at hc⊢;obtain⟨H2,q1,q2⟩:=fR hc;obtain⟨k0,hk⟩:=h2 _ H2 r q2;exact⟨k0,λk hle=>by rw[q1];exact hk k hle⟩
  |_=>cases hc
 |cond x c1 c2 i1 i2=>
  intro an dq cf ng kn om ke mZ kr t H r h1 h2 h3 h4 hc;unfold bE at hc⊢;cases an with
  |cd y z=>
   simp only[CD] at hc⊢;cases hv:ev P.globals.size t x<;>rw[hv] at hc<;>simp only at hc⊢ <;> try (cases hc;done)
   rename_i q;cases q with
   |true=>exact i1 y dq cf ng kn om ke mZ kr t H r h1 h2 h3 h4 hc|false=>exact i2 z dq cf ng kn om ke mZ kr t H r h1 h2 h3 h4 hc
  |_=>cases hc
 |block i b ib=>
  intro an dq cf ng kn om ke mZ kr t H r h1 h2 h3 h4 hc;unfold bE at hc⊢;cases an with
  |bl j x=>
   cases j with
   |none=>
    refine ib x dq cf ng kn _ _ mZ kr t H r h1 h2 (λq t H r h=>?_) h4 hc;cases hq:Nat.beq q i with
    |true=>rw[hq] at h;simp only[hq,cond_true];exact h2 t H r h|false=>rw[hq] at h;simp only[hq,cond_false];exact h3 q t H r h
   |some lv=>
    simp only[JN] at hc⊢;have hj:Bs (λk=>λt H=>app lv.length (abs lv.length λl H=>ng k (cU n lv l) H) (aI lv t) H) (λt H=>app lv.length (abs lv.length λl H=>kn (cU n lv l) H) (aI lv t) H):=by
     intro t H r h
     replace h:=(rq (n:=n) rfl).symm.trans h
     obtain⟨k0,hk⟩:=h2 _ H r h;exact⟨k0,λk hle=>(rq (n:=n) rfl).trans (hk k hle)⟩
    refine ib x dq cf _ _ _ _ mZ kr t H r h1 hj (λq t H r h=>?_) h4 hc;cases hq:Nat.beq q i with
    |true=>rw[hq] at h;simp only[hq,cond_true];exact hj t H r h|false=>rw[hq] at h;simp only[hq,cond_false];exact h3 q t H r h
  |_=>cases hc
 |loop b ib=>
  intro an dq cf ng kn om ke mZ kr t H r h1 h2 h3 h4 hc;unfold bE at hc⊢;cases an with
  |lp lv x=>
   simp only at hc⊢;have const:∀(f:CF),wU (λ_=>f) f:=λf x l H r h=>Ev.of λ_=>h;have tO:∀(f:KN),Bs (λ_=>f) f:=λf t H r h=>Ev.of λ_=>h;have mono:∀(f:CF) (ke:Nat->KN) (kr:KN) (L L':Nat) (t:Tm) (H:Hp) (r:AV×Hp),L<=L'->app lv.length (jK lv.length (λk=>abs lv.length λl H=>bE P reg f n b x (λt H=>app lv.length k (aI lv t) H) ke kr (cU n lv l) H) L) (aI lv t) H=some r->
     app lv.length (jK lv.length (λk=>abs lv.length λl H=>bE P reg f n b x (λt H=>app lv.length k (aI lv t) H) ke kr (cU n lv l) H) L') (aI lv t) H=some r:=by
    intro f ke kr L;induction L with
    |zero=>
     intro L' t H r _ h;rw[show jK lv.length _ 0=abs lv.length (λ_ _=>none) from rfl,rq (n:=n) rfl] at h;cases h
    |succ L ih=>
     intro L' t H r hle h;obtain⟨L2,rfl⟩:∃L2,L'=L2+1:=⟨L'-1,zzz⟩;rw[show jK lv.length _ (L+1)=abs lv.length _ from rfl,rq (n:=n) rfl] at h;rw[show jK lv.length _ (L2+1)=abs lv.length _ from rfl,rq (n:=n) rfl];obtain⟨k0,hk⟩:=ib x (λ_=>f) f (λ_=>λt H=>app lv.length (jK lv.length _ L2) (aI lv t) H) (λt H=>app lv.length (jK lv.length _ L) (aI lv t) H) (λ_=>ke) ke (λ_=>kr) kr _ H r (const f) (λt H r h=>Ev.of λ_=>ih L2 t H r zzz h) (λi=>tO (ke i)) (tO kr) h;exact hk k0 (aaO _)
   have uniq:∀(f:CF) (ke:Nat->KN) (kr:KN) (t:Tm) (H:Hp) (L L':Nat) (r r':AV×Hp),app lv.length (jK lv.length (λk=>abs lv.length λl H=>bE P reg f n b x (λt H=>app lv.length k (aI lv t) H) ke kr (cU n lv l) H) L) (aI lv t) H=some r->
     app lv.length (jK lv.length (λk=>abs lv.length λl H=>bE P reg f n b x (λt H=>app lv.length k (aI lv t) H) ke kr (cU n lv l) H) L') (aI lv t) H=some r'->r=r':=by
    intro f ke kr t H L L' r r' h h';rcases Nat.le_total L L' with q|q;·have:=mono f ke kr L L' t H r q h;rw[this] at h';exact acd h'
    ·have:=mono f ke kr L' L t H r' q h';rw[h] at this;exact acd this
   have aug:∀(f:CF) (ke:Nat->KN) (kr:KN) (t:Tm) (H:Hp) (L:Nat) (r:AV×Hp),app lv.length (jK lv.length (λk=>abs lv.length λl H=>bE P reg f n b x (λt H=>app lv.length k (aI lv t) H) ke kr (cU n lv l) H) L) (aI lv t) H=some r->
     app lv.length (LP lv.length (λk=>abs lv.length λl H=>bE P reg f n b x (λt H=>app lv.length k (aI lv t) H) ke kr (cU n lv l) H)) (aI lv t) H=some r:=by
    intro f ke kr t H L r h;unfold LP;rw[rq (n:=n) rfl];exact Ss h (uniq f ke kr t H)
   have alz:∀(f:CF) (ke:Nat->KN) (kr:KN) (t:Tm) (H:Hp) (r:AV×Hp),app lv.length (LP lv.length (λk=>abs lv.length λl H=>bE P reg f n b x (λt H=>app lv.length k (aI lv t) H) ke kr (cU n lv l) H)) (aI lv t) H=some r->
     ∃L,app lv.length (jK lv.length (λk=>abs lv.length λl H=>bE P reg f n b x (λt H=>app lv.length k (aI lv t) H) ke kr (cU n lv l) H) L) (aI lv t) H=some r:=by
    intro f ke kr t H r h;unfold LP at h
    replace h:=(rq (n:=n) rfl).symm.trans h
    exact Jo h
   have roll:∀(f:CF) (ke:Nat->KN) (kr:KN) (t:Tm) (H:Hp) (r:AV×Hp),bE P reg f n b x (λt H=>app lv.length (LP lv.length (λk=>abs lv.length λl H=>bE P reg f n b x (λt H=>app lv.length k (aI lv t) H) ke kr (cU n lv l) H)) (aI lv t) H) ke kr (cU n lv (aI lv t)) H=some r->
     app lv.length (LP lv.length (λk=>abs lv.length λl H=>bE P reg f n b x (λt H=>app lv.length k (aI lv t) H) ke kr (cU n lv l) H)) (aI lv t) H=some r:=by
    intro f ke kr t H r h;obtain⟨k0,hk⟩:=ib x (λ_=>f) f (λL=>λt H=>app lv.length (jK lv.length (λk=>abs lv.length λl H=>bE P reg f n b x (λt H=>app lv.length k (aI lv t) H) ke kr (cU n lv l) H) L) (aI lv t) H) _ (λ_=>ke) ke (λ_=>kr) kr _ H r (const f)
     (fun t H r h=>by
      obtain⟨L,hL⟩:=alz f ke kr t H r h;exact⟨L,λk hle=>mono f ke kr L k t H r hle hL⟩) (λi=>tO (ke i)) (tO kr) h
    refine aug f ke kr t H (k0+1) r ?_;rw[show jK lv.length _ (k0+1)=abs lv.length _ from rfl,rq (n:=n) rfl];exact hk k0 (aaO _)
   obtain⟨L,hL⟩:=alz cf ke kr t H r hc;clear hc;induction L generalizing t H r with
   |zero=>
    rw[show jK lv.length _ 0=abs lv.length (λ_ _=>none) from rfl,rq (n:=n) rfl] at hL;cases hL
   |succ L ih=>
    rw[show jK lv.length _ (L+1)=abs lv.length _ from rfl,rq (n:=n) rfl] at hL;obtain⟨k0,hk⟩:=ib x dq cf (λk=>λt H=>app lv.length (LP lv.length (λq=>abs lv.length λl H=>bE P reg (dq k) n b x (λt H=>app lv.length q (aI lv t) H) (om k) (mZ k) (cU n lv l) H)) (aI lv t) H) _ om ke mZ kr _ H r h1 (λt H r h=>ih t H r h) h3 h4 hL;exact⟨k0,λk hle=>roll (dq k) (om k) (mZ k) t H r (hk k hle)⟩
  |_=>cases hc
 |exit i=>intro an dq cf ng kn om ke mZ kr t H r h1 h2 h3 h4 hc;unfold bE at hc⊢;exact h3 i t H r hc|ret=>intro an dq cf ng kn om ke mZ kr t H r h1 h2 h3 h4 hc;unfold bE at hc⊢;exact h4 t H r hc|region id ops d=>intro an dq cf ng kn om ke mZ kr t H r h1 h2 h3 h4 hc;unfold bE at hc⊢;exact ja dq cf ng kn n ops d t H r h1 h2 hc|_=>
  intro an dq cf ng kn om ke mZ kr t H r h1 h2 h3 h4 hc;unfold bE at hc;cases hc
end K
end
namespace K
section
variable {P:Program}{reg:u6}
theorem apT (ja:AW reg)(f:CF)(n:Nat)(b:Code)(x:An)(lv:List Nat)(ke:Nat->KN)(kr:KN)(l:List AV)(hl:l.length=lv.length)(H:Hp):
  app lv.length (LP lv.length (λk=>abs lv.length λl H=>bE P reg f n b x (λt H=>app lv.length k (aI lv t) H) ke kr (cU n lv l) H)) l H=
   bE P reg f n b x (λt H=>app lv.length (LP lv.length (λk=>abs lv.length λl H=>bE P reg f n b x (λt H=>app lv.length k (aI lv t) H) ke kr (cU n lv l) H)) (aI lv t) H) ke kr (cU n lv l) H:=by
 have const:wU (λ_=>f) f:=λx l H r h=>Ev.of λ_=>h;have tO:∀(f:KN),Bs (λ_=>f) f:=λf t H r h=>Ev.of λ_=>h;have RC:∀(L:Nat) (l:List AV) (H:Hp),l.length=lv.length->app lv.length (jK lv.length (λk=>abs lv.length λl H=>bE P reg f n b x (λt H=>app lv.length k (aI lv t) H) ke kr (cU n lv l) H) (L+1)) l H=
   bE P reg f n b x (λt H=>app lv.length (jK lv.length (λk=>abs lv.length λl H=>bE P reg f n b x (λt H=>app lv.length k (aI lv t) H) ke kr (cU n lv l) H) L) (aI lv t) H) ke kr (cU n lv l) H:=λL l H hl=>by
  rw[show jK lv.length _ (L+1)=abs lv.length _ from rfl,Lf _ _ _ _ hl]
 have zero:∀(l:List AV) (H:Hp),l.length=lv.length->app lv.length (jK lv.length (λk=>abs lv.length λl H=>bE P reg f n b x (λt H=>app lv.length k (aI lv t) H) ke kr (cU n lv l) H) 0) l H=none:=λl H hl=>by rw[show jK lv.length _ 0=abs lv.length (λ_ _=>none) from rfl,Lf _ _ _ _ hl]
 have mono:∀(L L':Nat) (l:List AV) (H:Hp) (r:AV×Hp),l.length=lv.length->L<=L'->app lv.length (jK lv.length (λk=>abs lv.length λl H=>bE P reg f n b x (λt H=>app lv.length k (aI lv t) H) ke kr (cU n lv l) H) L) l H=some r->
   app lv.length (jK lv.length (λk=>abs lv.length λl H=>bE P reg f n b x (λt H=>app lv.length k (aI lv t) H) ke kr (cU n lv l) H) L') l H=some r:=by
  intro L;induction L with
  |zero=>intro L' l H r hl _ h;rw[zero l H hl] at h;cases h
  |succ L ih=>
   intro L' l H r hl hle h;obtain⟨L2,rfl⟩:∃L2,L'=L2+1:=⟨L'-1,zzz⟩;rw[RC L l H hl] at h;rw[RC L2 l H hl];obtain⟨k0,hk⟩:=QO ja b x (λ_=>f) f (λ_=>_) _ (λ_=>ke) ke (λ_=>kr) kr _ H r const (λt H r h=>Ev.of λ_=>ih L2 (aI lv t) H r (JO lv t) zzz h) (λi=>tO (ke i)) (tO kr) h;exact hk k0 (aaO _)
 have uniq:∀(l:List AV) (H:Hp),l.length=lv.length->∀(L L':Nat) (r r':AV×Hp),app lv.length (jK lv.length (λk=>abs lv.length λl H=>bE P reg f n b x (λt H=>app lv.length k (aI lv t) H) ke kr (cU n lv l) H) L) l H=some r->
   app lv.length (jK lv.length (λk=>abs lv.length λl H=>bE P reg f n b x (λt H=>app lv.length k (aI lv t) H) ke kr (cU n lv l) H) L') l H=some r'->r=r':=by
  intro l H hl L L' r r' h h';rcases Nat.le_total L L' with q|q;·have:=mono L L' l H r hl q h;rw[this] at h';exact acd h'
  ·have:=mono L' L l H r' hl q h';rw[h] at this;exact acd this
 have Uw:∀(l:List AV) (H:Hp),l.length=lv.length->app lv.length (LP lv.length (λk=>abs lv.length λl H=>bE P reg f n b x (λt H=>app lv.length k (aI lv t) H) ke kr (cU n lv l) H)) l H=lim (λL=>app lv.length (jK lv.length (λk=>abs lv.length λl H=>bE P reg f n b x (λt H=>app lv.length k (aI lv t) H) ke kr (cU n lv l) H) L) l H):=λl H hl=>by unfold LP;rw[Lf _ _ _ _ hl]
 have fwd:∀(r:AV×Hp),app lv.length (LP lv.length (λk=>abs lv.length λl H=>bE P reg f n b x (λt H=>app lv.length k (aI lv t) H) ke kr (cU n lv l) H)) l H=some r->
   bE P reg f n b x (λt H=>app lv.length (LP lv.length (λk=>abs lv.length λl H=>bE P reg f n b x (λt H=>app lv.length k (aI lv t) H) ke kr (cU n lv l) H)) (aI lv t) H) ke kr (cU n lv l) H=some r:=by
  intro r h;rw[Uw l H hl] at h;obtain⟨L,hL⟩:=Jo h;cases L with
  |zero=>rw[zero l H hl] at hL;cases hL
  |succ L=>
   rw[RC L l H hl] at hL;obtain⟨k0,hk⟩:=QO ja b x (λ_=>f) f (λ_=>λt H=>app lv.length (LP lv.length (λk=>abs lv.length λl H=>bE P reg f n b x (λt H=>app lv.length k (aI lv t) H) ke kr (cU n lv l) H)) (aI lv t) H) _ (λ_=>ke) ke (λ_=>kr) kr _ H r const
    (λt H r h=>Ev.of λ_=>(Uw _ H (JO lv t)).trans (Ss h (uniq _ H (JO lv t)))) (λi=>tO (ke i)) (tO kr) hL
   exact hk k0 (aaO _)
 have bwd:∀(r:AV×Hp),bE P reg f n b x (λt H=>app lv.length (LP lv.length (λk=>abs lv.length λl H=>bE P reg f n b x (λt H=>app lv.length k (aI lv t) H) ke kr (cU n lv l) H)) (aI lv t) H) ke kr (cU n lv l) H=some r->
   app lv.length (LP lv.length (λk=>abs lv.length λl H=>bE P reg f n b x (λt H=>app lv.length k (aI lv t) H) ke kr (cU n lv l) H)) l H=some r:=by
  intro r h;obtain⟨k0,hk⟩:=QO ja b x (λ_=>f) f (λL=>λt H=>app lv.length (jK lv.length (λk=>abs lv.length λl H=>bE P reg f n b x (λt H=>app lv.length k (aI lv t) H) ke kr (cU n lv l) H) L) (aI lv t) H) _ (λ_=>ke) ke (λ_=>kr) kr _ H r const
   (fun t H r h=>by
    replace h:=(Uw _ H (JO lv t)).symm.trans h
    obtain⟨L,hL⟩:=Jo h;exact⟨L,λk hle=>mono L k _ H r (JO lv t) hle hL⟩) (λi=>tO (ke i)) (tO kr) h
  rw[Uw l H hl];refine Ss (L:=k0+1) ?_ (uniq l H hl);rw[RC k0 l H hl];exact hk k0 (aaO _)
 cases h1:app lv.length (LP lv.length (λk=>abs lv.length λl H=>bE P reg f n b x (λt H=>app lv.length k (aI lv t) H) ke kr (cU n lv l) H)) l H with
 |some r=>exact (fwd r h1).symm|none=>
  cases h2:bE P reg f n b x (λt H=>app lv.length (LP lv.length (λk=>abs lv.length λl H=>bE P reg f n b x (λt H=>app lv.length k (aI lv t) H) ke kr (cU n lv l) H)) (aI lv t) H) ke kr (cU n lv l) H with
  |none=>rfl|some r=>rw[bwd r h2] at h1;cases h1
end
def Hg (P:Program)(t:Tm)(H:Hp):List ResultVar->(List AV->R)->R
 |[],k=>k []|.tmp x::r,k=>Hg P t H r λl=>k ((t.get x).getD bS::l)
 |.cell a ty::r,k=>match As P ty,sz P ty with
  |some true,some n=>B1 (aB n ((t.get a).getD bS) H) λv=>Hg P t H r λl=>k (v::l)
  |some false,_=>B1 (ld ((t.get a).getD bS) H) λv=>Hg P t H r λl=>k (v::l)
  |_,_=>none
def FD (P:Program)(t:Tm)(H:Hp)(l:List ResultVar):R:=Hg P t H l λvs=>some (Rm vs,H)
theorem axZ {P:Program}{ty:TypeId}{x v:AV}{H:Hp}(ha:As P ty=some false)(h:ld x H=some v):wC P H ty x=some v:=by
 unfold ld at h;split at h;·unfold wC;simp only[ha,abY,acf,aa8,if_false,h]
 ·cases h
theorem arn {P:Program}{ty:TypeId}{n:Nat}{x v:AV}{H:Hp}(ha:As P ty=some true)(hs:sz P ty=some n)(h:aB n x H=some v):wC P H ty x=some v:=by
 unfold aB at h;split at h
 ·rename_i i off;unfold wC;simp only[ha,hs,abY,acf,if_true];cases hc:av H i off n with
  |none=>rw[hc] at h;cases h
  |some l=>rw[hc] at h;cases h;rfl
 ·cases h
theorem OH {P:Program}{t:Tm}{H:Hp}:∀(l:List ResultVar) (k:List AV->R) (r:AV×Hp),Hg P t H l k=some r->∃vs,xF P t H l=some vs/\k vs=some r
 |[],k,r,h=>⟨[],rfl,h⟩|.tmp x::l,k,r,h=>by unfold Hg at h;obtain⟨vs,h1,h2⟩:=OH l _ r h;exact⟨_,by unfold xF;rw[h1],h2⟩
 |.cell a ty::l,k,r,h=>by
  unfold Hg at h;split at h;·rename_i n ha hs;obtain⟨v,q1,q2⟩:=fR h;obtain⟨vs,h1,h2⟩:=OH l _ r q2;exact⟨_,by unfold xF;rw[arn ha hs q1,h1],h2⟩
  ·rename_i q ha hs;obtain⟨v,q1,q2⟩:=fR h;obtain⟨vs,h1,h2⟩:=OH l _ r q2;exact⟨_,by unfold xF;rw[axZ hs q1,h1],h2⟩
  ·cases h
def N7 (n:Nat)(args:List AV):Tm:=Tr.cl .nil 0 (args++List.replicate (n-args.length) bS)
noncomputable section
def as7 (P:Program)(reg:u6)(cf:CF)(fn:Func)(an:An)(b:Code)(args:List AV)(H:Hp):R:=
 bE P reg cf fn.ntmps b an (λt H=>FD P t H fn.results.toList) (λ_ _ _=>none) (λt H=>FD P t H fn.results.toList) (N7 fn.ntmps args) H
def AB (P:Program)(reg:u6)(ext:Nat->Option Ext)(bH:Nat->Option Prim)(an:Nat->An)(cf:CF):CF:=λg args H=>
 match g with
 |.func (.func aU) first cap=>
  match bH aU with
  |some p=>p (first++args++cap) H|none=>match P.funcs[aU]? with
   |some fn=>match fn.body with
    |some b=>bif Nat.ble (first++args++cap).length fn.ntmps&&Nat.blt fn.ntmps 4294967296&&(an aU).ok fn.ntmps then as7 P reg cf fn (an aU) b (first++args++cap) H else none
    |none=>match ext aU with
     |some k=>ID P k (first++args++cap) H|none=>none
   |none=>none
 |_=>none
def SK (P:Program)(reg:u6)(ext:Nat->Option Ext)(bH:Nat->Option Prim)(an:Nat->An):Nat->CF
 |0=>λ_ _ _=>none
 |k+1=>AB P reg ext bH an (SK P reg ext bH an k)
def CK (P:Program)(reg:u6)(ext:Nat->Option Ext)(bH:Nat->Option Prim)(an:Nat->An):CF:=λg args H=>lim λk=>SK P reg ext bH an k g args H
end
section
variable {P:Program}{reg:u6}{ext:Nat->Option Ext}{bH:Nat->Option Prim}{an:Nat->An}
section
variable {F:Nat->Prop}{H H':Hp}{W w:World}{cf:CF}{e:Em}{fn:Func}{g:AV}{l:List AV}{r:AV×Hp}
theorem aoH (ja:AW reg){dq:Nat->CF}(h:wU dq cf):wU (λk=>AB P reg ext bH an (dq k)) (AB P reg ext bH an cf):=by
 intro g args H r hc;unfold AB at hc⊢;cases g<;>try (cases hc;done)
 rename_i fn first cap
 cases fn<;>try (cases hc;done)
 rename_i aU;simp only at hc⊢;cases hp:bH aU with
 |some p=>rw[hp] at hc;exact Ev.of λ_=>hc
 |none=>
  rw[hp] at hc;simp only at hc⊢;cases hf:P.funcs[aU]? with
  |none=>rw[hf] at hc;cases hc
  |some fn=>
   rw[hf] at hc;simp only at hc⊢;cases hb:fn.body with
   |none=>rw[hb] at hc;exact Ev.of λ_=>hc
   |some b=>
    rw[hb] at hc;simp only at hc⊢;cases hk:(Nat.ble (first++args++cap).length fn.ntmps&&Nat.blt fn.ntmps 4294967296&&(an aU).ok fn.ntmps) with
    |false=>rw[hk] at hc;cases hc
    |true=>
     rw[hk] at hc;simp only[cond_true] at hc⊢;have tO:∀(f:KN),Bs (λ_=>f) f:=λf t H r h=>Ev.of λ_=>h;exact QO ja b (an aU) dq cf _ _ _ _ _ _ _ H r h (tO _) (λi=>tO _) (tO _) hc
theorem ak3 (ja:AW reg):∀k,wU (λ_=>SK P reg ext bH an (k+1)) (SK P reg ext bH an k)
 |0=>λg l H r h=>by cases h
 |k+1=>λg l H r h=>by obtain⟨k0,hk⟩:=aoH (P:=P) (ext:=ext) (bH:=bH) (an:=an) ja (ak3 ja k) g l H r h;exact Ev.of λ_=>hk k0 (aaO _)
theorem X9 (ja:AW reg):∀{j k:Nat},j<=k->SK P reg ext bH an j g l H=some r->SK P reg ext bH an k g l H=some r:=by
 intro j k hle h;induction hle with
 |refl=>exact h|step _ ih=>
  obtain⟨k0,hk⟩:=ak3 ja _ g l H r ih;exact hk k0 (aaO _)
theorem aGX (ja:AW reg)(j k:Nat)(r r':AV×Hp)(h:SK P reg ext bH an j g l H=some r)(h':SK P reg ext bH an k g l H=some r'):r=r':=by
 rcases Nat.le_total j k with q|q;·rw[X9 ja q h] at h';exact acd h'
 ·have:=X9 ja q h';rw[h] at this;exact acd this
theorem aw1 (ja:AW reg):wU (SK P reg ext bH an) (CK P reg ext bH an):=by intro g l H r h;obtain⟨k0,hk⟩:=Jo h;exact⟨k0,λk hle=>X9 ja hle hk⟩
theorem Y3 (ja:AW reg)(h:AB P reg ext bH an (CK P reg ext bH an) g l H=some r):CK P reg ext bH an g l H=some r:=by obtain⟨k0,hk⟩:=aoH (P:=P) (ext:=ext) (bH:=bH) (an:=an) ja (aw1 ja) g l H r h;exact Ss (L:=k0+1) (hk k0 (aaO _)) (λj k r r'=>aGX ja j k r r')
theorem aFX (hm:P.follows .mixedOrders=true)(hN:qR P)(hE:Bg P ext)(hP:xe P bH)(ja:J0 P reg)(hA:AN P an)(iZ:xN P cf):xN P (AB P reg ext bH an cf):=by
 intro g args H v H' hc;unfold AB at hc;split at hc
 ·rename_i aU first cap
  refine⟨aU,first,cap,rfl,?_⟩;intro F W e w as' hR nH;split at hc;·rename_i p hp;exact .inr (hP aU p hp _ H v H' hc F W e w as' hR nH)
  ·split at hc
   ·rename_i fn hf;split at hc
    ·rename_i b hb;cases hle:(Nat.ble (first++args++cap).length fn.ntmps&&Nat.blt fn.ntmps 4294967296&&(an aU).ok fn.ntmps) with
     |false=>rw[hle] at hc;cases hc
     |true=>
     rw[hle] at hc;simp only[cond_true] at hc;rw[aaM,aaM,ae2,adW] at hle;refine .inr ⟨Ba hN hf hb as' w,?_⟩;have hlen:as'.size=(first++args++cap).length:=by have:=nH.1;simpa using this
     have hT:pJ e fn.ntmps (N7 fn.ntmps (first++args++cap)) {tmps:=as'++Array.replicate (fn.ntmps-as'.size) undef,defers:=[]}:=by
      have kM:((first++args++cap)++List.replicate (fn.ntmps-(first++args++cap).length) bS).length=fn.ntmps:=by rw[aal,afg];omega
      refine⟨⟨by simp;omega,λx=>?_⟩,λx hx=>?_⟩
      ·unfold N7;rw[C9];simp only[ade,aa7,true_and,agA,kM];by_cases hx:x<(first++args++cap).length;·rw[zz2 zzz,abd hx];have h1:(first++args++cap)[x]?=some (first++args++cap)[x]:=aaC hx;obtain⟨v',h2,h3⟩:=nH.get h1;rw[h1,af7,afI,Array.getElem?_append_left zzz,<-ad6,h2];exact h3
       ·have hu:(as'++Array.replicate (fn.ntmps-as'.size) undef).getD x undef=undef:=by rw[afI,Array.getElem?_append_right zzz,Array.getElem?_replicate];split<;>rfl
        simp only[hu];split
        ·rw[abk zzz,amt];split;·exact VR.undef
         ·exact VR.undef
        ·rw[Tr.get_nil];exact VR.undef
      ·unfold N7;rw[C9,kM,zz1 zzz,Tr.get_nil]
     refine calls_of_wp hf hb (axQ hm ja iZ b (an aU) _ _ _ _ H (v,H') hle.2 (hA aU fn b hf hb) hc F W e _ w _ hR hT ?_ ?_ ?_);·intro e' a' w' t' H2 he bp cC hd hk;unfold FD at hk;obtain⟨vs,vN,iu⟩:=OH _ _ _ hk;cases iu;obtain⟨u,hu,jt⟩:=abG bp cC.1 vN;exact⟨hd,u,hu,e',u,rfl,he,bp,jt⟩
     ·intro i e' a' w' t' H2 he bp cC hd hk;cases hk
     ·intro e' a' w' t' H2 he bp cC hd hk;unfold FD at hk;obtain⟨vs,vN,iu⟩:=OH _ _ _ hk;cases iu;obtain⟨u,hu,jt⟩:=abG bp cC.1 vN;exact⟨hd,u,hu,e',u,rfl,he,bp,jt⟩
    ·rename_i hb;split at hc;·rename_i k hk;obtain⟨v',w',e',h1,h2,h3,h4⟩:=ans hR nH hc;refine .inl ⟨v',w',e',?_,h2,h3,h4⟩;rw[hE aU k hk,Sem.run_bind,h1];rfl
     ·cases hc
   ·cases hc
 ·cases hc
theorem agI (hm:P.follows .mixedOrders=true)(hN:qR P)(hE:Bg P ext)(hP:xe P bH)(ja:J0 P reg)(hA:AN P an):∀k,xN P (SK P reg ext bH an k)
 |0=>λg args H v H' h=>by cases h
 |k+1=>aFX hm hN hE hP ja hA (agI hm hN hE hP ja hA k)
theorem aBb (hm:P.follows .mixedOrders=true)(hN:qR P)(hE:Bg P ext)(hP:xe P bH)(ja:J0 P reg)(hA:AN P an):xN P (CK P reg ext bH an):=by intro g args H v H' h;obtain⟨k,hk⟩:=Jo h;exact agI hm hN hE hP ja hA k g args H v H' hk
theorem auz (hm:P.follows .mixedOrders=true)(hN:qR P)(hE:Bg P ext)(hP:xe P bH)(ja:J0 P reg)(hA:AN P an){g:Nat}{args:List AV}{v:AV}(h:CK P reg ext bH an (.func (.func g) [] []) args H=some (v,H')){b:Code}
  (hf:P.funcs[g]?=some fn) (hb:fn.body=some b) {as':Array Value} (hR:RH P.globals.size F W e H w) (ha:aW e args as'.toList):Calls P g as' w (I5 P.globals.size F W e v H'):=by
 obtain⟨aU,first,cap,hg,hs⟩:=aBb hm hN hE hP ja hA _ _ _ _ _ h;cases hg;rcases hs F W e w as' hR (by simpa using ha) with⟨v',w',e',h1,_⟩|⟨_,h2⟩;·rw[Ba hN hf hb] at h1;cases h1
 ·exact h2
end
end
end K
end Go.Proofs.YtodfajmihkagnaaGreatDoor.Am
