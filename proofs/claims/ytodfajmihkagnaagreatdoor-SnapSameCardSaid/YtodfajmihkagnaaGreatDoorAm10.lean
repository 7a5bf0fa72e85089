/- Laws that the proof uses. -/
import Derived.Test.YtodfajmihkagnaaGreatDoorAm9
set_option linter.unusedVariables false
set_option linter.unusedSimpArgs false
namespace Go.Proofs.YtodfajmihkagnaaGreatDoor.Am
open Go.RowKit
section
section
section
def NU (N:Nat):AV->Bool
 |.bool _|.int _ _|.str _|.dE|.ah|.lz|.nilFunc|.nilIface=>true|.ptr i _=>Nat.blt i N|.iface _ v=>NU N v|_=>false
def GY (e:Em)(n:Nat->Nat)(N:Nat):Em:={b:=e.b,d:=e.d,n:=n,N:=N}
theorem VR.cut {e:Em}{n:Nat->Nat}{N:Nat}{v:AV}{v':Value}(h:VR e v v')(hs:NU N v=true):VR (GY e n N) v v':=by
 induction h with
 |bool b=>exact .bool b|int k z=>exact .int k z|str s=>exact .str s|dE=>exact .dE|ah=>exact .ah|lz=>exact .lz|nilFunc=>exact .nilFunc|nilIface=>exact .nilIface|ptr i off o hi ho=>
  have:i<N:=by simpa[NU,aeg] using hs
  exact .ptr (e:=GY e n N) i off o this ho
 |iface t v v' _ ih=>exact .iface t v v' (ih hs)|_=>cases hs
def G4 (H:Hp)(L:List (Nat×List AV)):Prop:=∃el:Nat->TypeId,∀g l,(g,l)∈L->H.h.get g=some (.cells (Tr.cz .nil 0 l) 0 l.length (el g) 2)
noncomputable section
open Classical in
def P2 (L:List (Nat×List AV))(N:Nat):Prim:=λargs H=>if args=[]/\G4 H L/\N<=H.next then some (.bool true,H) else none
end
section
variable {F:Nat->Prop}{H:Hp}{L:List (Nat×List AV)}{N:Nat}{W w:World}{e:Em}{fn:Func}
theorem aHo {G:Nat}(hR:RH G F W e H w){el:Nat->TypeId}(hG:G<N)(hle:N<=H.next)
  (hL:∀g l,(g,l)∈L->g<G/\g<4294967296/\l.length<4294967296/\∀v∈l,NU N v=true) (hT:∀g l,(g,l)∈L->H.h.get g=some (.cells (Tr.cz .nil 0 l) 0 l.length (el g) 2)):
  RH G (λk=>k<w.heap.size) w (GY e (λi=>if i=G then w.heap.size else e.n i) N) ⟨uz el L,N⟩ w:=by
 have key:∀i o,(uz el L).get i=some o->i<G/\H.h.get i=some o/\∃l,(i,l)∈L/\o=.cells (Tr.cz .nil 0 l) 0 l.length (el i) 2:=by intro i o h;obtain⟨l,hm,rfl⟩:=V4 _ L (λx hx=>(hL x.1 x.2 hx).2.1) i o h;exact⟨(hL i l hm).1,hT i l hm,l,hm,rfl⟩
 refine⟨rfl,?_,?_,?_,λk hk=>⟨hk,rfl⟩,rfl,rfl,rfl,aaq _,hR.nK.1,hG,by simp[GY]⟩
 ·intro i o h;obtain⟨hi,hg,l,hm,rfl⟩:=key i o h;obtain⟨_,ob,eW,eN,_⟩:=hR.obj i _ hg;refine⟨Nat.lt_trans hi hG,ob,eW,?_,?_⟩
  ·obtain⟨_,_,hl,hs⟩:=hL i l hm;cases eN with
   |cells _ _ _ _ _ C fz hn jI h0 h1 hd=>
    refine .cells _ 0 l.length _ 2 C fz ?_ ?_ zzy zzy hd;·simp only[GY];rw[zz1 zzz];exact hn
    ·intro k v a b hk;obtain⟨k',h2,v',h3,h4⟩:=jI k v a b hk;refine⟨k',h2,v',h3,?_⟩;have hv:v∈l:=by rw[Tr.Jv (α:=AV) .nil _ _ _ _ zzz,zz2 zzz,agN] at hk;exact aab hk
     exact h4.cut (hs v hv)
  ·intro q hF;rcases q with q|q;·cases q
   ·simp[GY] at q;have:=(abW.1 eW).1;omega
 ·intro i j oi oj h1 h2 hq e;obtain⟨hi,hg,l,hm,rfl⟩:=key i oi h1;obtain⟨_,ob,eW,eN,_⟩:=hR.obj i _ hg;rcases hq with q|q;·cases q
  ·simp[GY] at q;have:=(abW.1 eW).1;omega
 ·intro g hg;obtain⟨a,b,c⟩:=hR.tI g hg;exact⟨Nat.lt_trans hg hG,b,c⟩
theorem aAS {P:Program}{ext:Nat->Option Ext}{bH:Nat->Option Prim}(hm:P.follows .mixedOrders=true)(hN:qQ P)(hE:A7 P ext)(hP:xm P bH){fuel g:Nat}{b:Code}
  (hf:P.funcs[g]?=some fn) (hb:fn.body=some b) (hG:P.globals.size<N) (hL:∀g l,(g,l)∈L->g<P.globals.size/\g<4294967296/\l.length<4294967296/\∀v∈l,NU N v=true)
  (h:∀el,S4 (Q7 P ext bH fuel g [] ⟨uz el L,N⟩)=true):CZ P g (P2 L N):=by
 intro args H v H' hp F W e w as' hR nX;unfold P2 at hp;split at hp
 ·rename_i hc;obtain⟨rfl,⟨el,hT⟩,hle⟩:=hc;cases hp;have has:as'=#[]:=by have:=nX.mc;cases as';simp_all
  subst has;refine⟨AW hN hf hb #[] w,?_⟩;refine (aHS hm hN hE hP hf hb (h el) (aHo hR hG hle hL hT)).mono λen w' ⟨h1,h2⟩=>?_;exact⟨e,_,h1,e.le_refl,hR.below h2,.bool true⟩
 ·cases hp
end
end
namespace K
abbrev R:=Option (AV×Hp)
def B1 {α:Type}(o:Option α)(k:α->R):R:=match o with|some v=>k v|none=>none
def B2 (o:Option (AV×Hp))(k:AV->Hp->R):R:=match o with|some p=>k p.1 p.2|none=>none
section
variable {r:AV×Hp}
theorem fR {α:Type}{o:Option α}{k:α->R}(h:B1 o k=some r):∃v,o=some v/\k v=some r:=by
 cases o with
 |none=>cases h
 |some v=>exact⟨v,rfl,h⟩
theorem xA {o:Option (AV×Hp)}{k:AV->Hp->R}(h:B2 o k=some r):∃v H,o=some (v,H)/\k v H=some r:=by
 cases o with
 |none=>cases h
 |some p=>exact⟨p.1,p.2,rfl,h⟩
def ld (x:AV)(H:Hp):Option AV:=match x with|.ptr i o=>cellAt H i o|_=>none
def aB (n:Nat)(x:AV)(H:Hp):Option AV:=match x with|.ptr i o=>(av H i o n).map .agg|_=>none
def BN (o:Option (Nat×Hp))(k:Nat->Hp->R):R:=match o with|some p=>k p.1 p.2|none=>none
theorem SY {o:Option (Nat×Hp)}{k:Nat->Hp->R}(h:BN o k=some r):∃i H,o=some (i,H)/\k i H=some r:=by
 cases o with
 |none=>cases h
 |some p=>exact⟨p.1,p.2,rfl,h⟩
def xi (b:Bool)(x:R):R:=bif b then x else none
@[reducible] def Fn:Nat->Type
 |0=>Hp->R|m+1=>AV->Fn m
def app:(m:Nat)->Fn m->List AV->Hp->R
 |0,f,l,H=>match l with|[]=>f H|_::_=>none
 |m+1,f,l,H=>match l with|[]=>none|x::l=>app m (f x) l H
def abs:(m:Nat)->(List AV->Hp->R)->Fn m
 |0,g=>λH=>g [] H
 |m+1,g=>λx=>abs m (λl=>g (x::l))
theorem K6:∀(m:Nat) (g:List AV->Hp->R) (l:List AV) (H:Hp),l.length=m->app m (abs m g) l H=g l H
 |0,g,[],H,_=>rfl|0,g,_::_,H,h=>by simp at h
 |m+1,g,[],H,h=>by simp at h
 |m+1,g,x::l,H,h=>K6 m (λl=>g (x::l)) l H (by simpa using h)
def JN (m:Nat)(f:Fn m->R)(k:Fn m):R:=f k
end
noncomputable section
open Classical in
def lim (f:Nat->R):R:=if h:∃r L,f L=some r then some h.choose else none
section
variable {f:Nat->R}{r:AV×Hp}
theorem Jf (h:lim f=some r):∃L,f L=some r:=by
 unfold lim at h;split at h;·rename_i q;rw[<-ab0 h];exact q.choose_spec
 ·cases h
theorem R0 {L:Nat}(h:f L=some r)(hu:∀L L' r r',f L=some r->f L'=some r'->r=r'):lim f=some r:=by have q:∃r L,f L=some r:=⟨r,L,h⟩;unfold lim;rw[dif_pos q];obtain⟨L',Xp⟩:=q.choose_spec;rw[hu L' L _ _ Xp h]
def jU (m:Nat)(B:Fn m->Fn m):Nat->Fn m
 |0=>abs m (λ_ _=>none)|L+1=>B (jU m B L)
def LP (m:Nat)(B:Fn m->Fn m):Fn m:=abs m (λl H=>lim (λL=>app m (jU m B L) l H))
end
end
def CD (c:AV)(x y:R):R:=match c with|.bool q=>bif q then x else y|_=>none
def aH (lv:List Nat)(t:Tm):List AV:=lv.map λd=>(t.get d).getD bP
theorem JD (lv:List Nat)(t:Tm):(aH lv t).length=lv.length:=by simp[aH]
def abc:List Nat->List AV->Tm->Tm
 |d::lv,v::l,t=>abc lv l (t.put 34 d v)|_,_,t=>t
def cJ (n:Nat)(lv:List Nat)(l:List AV):Tm:=abc lv l (Tr.cz .nil 0 (List.replicate n .dG))
inductive An where
 |nl
 |sq (j:Option (List Nat)) (a b:An)
 |cd (a b:An)
 |bl (j:Option (List Nat)) (a:An)
 |lp (lv:List Nat) (a:An)
 |pr (lv:List Nat) (p:Tm->Hp->Option Hp)
abbrev KN:=Tm->Hp->R
abbrev vg:=CF->Nat->Array Oper->Bool->Tm->Hp->KN->R
noncomputable section
variable (P:Program)(reg:vg)
def bD (cf:CF)(n:Nat):Code->An->KN->(Nat->KN)->KN->KN
 |.skip,_,kn,_,_=>kn|.label _,_,kn,_,_=>kn|.seq a b,an,kn,ke,kr=>match an with
  |.sq none x y=>bD cf n a x (bD cf n b y kn ke kr) ke kr|.sq (some lv) x y=>λt H=>JN lv.length (λk=>bD cf n a x (λt H=>app lv.length k (aH lv t) H) ke kr t H) (abs lv.length λl H=>bD cf n b y kn ke kr (cJ n lv l) H)
  |.pr lv p=>λt H=>B1 (p t H) λH=>kn (cJ n lv (aH lv t)) H
  |_=>λ_ _=>none
 |.cond c a b,an,kn,ke,kr=>match an with
  |.cd x y=>λt H=>CD (ev P.globals.size t c) (bD cf n a x kn ke kr t H) (bD cf n b y kn ke kr t H)
  |_=>λ_ _=>none
 |.block i b,an,kn,ke,kr=>match an with
  |.bl none x=>bD cf n b x kn (λj t H=>bif Nat.beq j i then kn t H else ke j t H) kr|.bl (some lv) x=>λt H=>JN lv.length (λk=>bD cf n b x (λt H=>app lv.length k (aH lv t) H) (λj t H=>bif Nat.beq j i then app lv.length k (aH lv t) H else ke j t H) kr t H) (abs lv.length λl H=>kn (cJ n lv l) H)
  |_=>λ_ _=>none
 |.loop b,an,kn,ke,kr=>match an with
  |.lp lv x=>λt H=>app lv.length (LP lv.length (λk=>abs lv.length λl H=>bD cf n b x (λt H=>app lv.length k (aH lv t) H) ke kr (cJ n lv l) H)) (aH lv t) H
  |_=>λ_ _=>none
 |.exit i,_,_,ke,_=>ke i|.ret,_,_,_,kr=>kr|.region _ ops d,_,kn,_,_=>λt H=>reg cf n ops d t H kn
 |_,_,_,_,_=>λ_ _=>none
end
def JP (P:Program)(reg:vg):Prop:=
 ∀(cf:CF) (n:Nat) (ops:Array Oper) (d:Bool) (t:Tm) (H:Hp) (k:KN) (r:AV×Hp),reg cf n ops d t H k=some r->
  ∃t' H',(bif d then FQ P cf n ops t H else wg P cf n ops ops.toList t H)=some (t',H')/\k t' H'=some r
def oM (e:Em)(n:Nat)(t:Tm)(a:Act):Prop:=TR e n t a/\∀d,n<=d->t.get d=none
theorem Dc {α:Type}:∀(l:List α) (t:Tr α) (n m:Nat),(t.cz n l).get m=if n<=m/\m<n+l.length then l[m-n]? else t.get m
 |[],t,n,m=>by rw[zz1 (by simp only[acj];omega)];rfl
 |x::l,t,n,m=>by
  rw[Tr.cz,Dc l,Tr.put,Tr.gE];by_cases h1:m=n;·subst h1;rw[zz1 zzz,zz2 rfl,zz2 zzy];simp
  ·by_cases h2:n+1<=m/\m<n+1+l.length;·rw[zz2 h2,zz2 (by simp;omega)];have:m-n=(m-(n+1))+1:=zzz;rw[this,adb]
   ·rw[zz1 h2,zz1 h1,zz1 (by simp;omega)]
theorem abe:∀(lv:List Nat) (l:List AV) (t:Tm) (d:Nat) (p:Option AV->Prop),(∀(x:Nat) (v:AV),x∈lv->(∃i:Nat,lv[i]?=some x/\l[i]?=some v)->x=d->p (some v))->p (t.get d)->p ((abc lv l t).get d)
 |[],l,t,d,p,_,h=>by cases l<;>exact h
 |x::lv,[],t,d,p,_,h=>h|x::lv,v::l,t,d,p,hp,h=>by
  refine abe lv l (t.put 34 x v) d p (λy u hy ⟨i,h1,h2⟩ he=>hp y u (.tail _ hy) ⟨i+1,by simpa using h1,by simpa using h2⟩ he) ?_;rw[Tr.put,Tr.gE];by_cases hd:d=x;·rw[zz2 hd];exact hp x v (.head _) ⟨0,rfl,rfl⟩ hd.symm
  ·rw[zz1 hd];exact h
theorem oM.vO {e:Em}{n:Nat}{t:Tm}{a:Act}(h:oM e n t a){lv:List Nat}(GU:∀d∈lv,d<n):oM e n (cJ n lv (aH lv t)) a:=by
 refine⟨⟨h.1.size,λd=>?_⟩,λd hd=>?_⟩
 ·unfold cJ;refine abe lv (aH lv t) _ d (λo=>VR e (o.getD bP) (a.tmps.getD d undef)) ?_ ?_;·rintro x v _ ⟨i,h1,h2⟩ rfl;unfold aH at h2;rw[acd,h1] at h2;cases h2;exact h.1.val x
  ·rw[Dc];split;·rename_i q;rw[alR];simp only[afc,adn] at q;rw[zz2 zzz];exact .dG _
   ·rename_i q;simp only[afc,adn,abg,true_and,Nat.not_lt] at q;rw[Tr.get_nil];have:=h.1.val d;rw[h.2 d q] at this;exact this
 ·unfold cJ;refine abe lv (aH lv t) _ d (λo=>o=none) ?_ ?_;·intro x v hx _ he;have:=GU x hx;omega
  ·rw[Dc,zz1 (by simp;omega),Tr.get_nil]
def An.ok (n:Nat):An->Bool
 |.nl=>true|.sq j a b=>(j.getD []).all (λd=>Nat.blt d n)&&a.ok n&&b.ok n|.cd a b=>a.ok n&&b.ok n|.bl j a=>(j.getD []).all (λd=>Nat.blt d n)&&a.ok n|.lp lv a=>lv.all (λd=>Nat.blt d n)&&a.ok n|.pr lv _=>lv.all (λd=>Nat.blt d n)
theorem Wc {n:Nat}{lv:List Nat}(h:lv.all (λd=>Nat.blt d n)=true):∀d∈lv,d<n:=λd hd=>by have:=adP.1 h d hd;rwa[aeg] at this
end K
end
namespace K
variable {P:Program}{reg:vg}
theorem Jj {n:Nat}{dst:Option Tmp}{v:AV}{t t':Tm}(h:jk n dst v t=some t')(ht:∀d,n<=d->t.get d=none):∀d,n<=d->t'.get d=none:=by
 intro d hd;unfold jk at h;split at h;·cases h;exact ht d hd
 ·rename_i x;cases hb:(Nat.blt x n&&Nat.blt x 4294967296) with
  |false=>rw[hb] at h;cases h
  |true=>
   rw[hb] at h;cases h;simp only[aam,aeg] at hb;rw[Tr.put,Tr.gE,zz1 zzz];exact ht d hd
theorem Yy {cf:CF}{n:Nat}{ops:Array Oper}:∀(l:List Oper) (t t':Tm) (H H':Hp),wg P cf n ops l t H=some (t',H')->(∀d,n<=d->t.get d=none)->∀d,n<=d->t'.get d=none
 |[],t,t',H,H',h,ht=>by cases h;exact ht
 |o::l,t,t',H,H',h,ht=>by
  unfold wg at h;split at h
  ·split at h
   ·split at h;·rename_i t1 hp;exact Yy l _ _ _ _ h (Jj hp ht)
    ·cases h
   ·cases h
  ·split at h;·rename_i t1 hp;exact Yy l _ _ _ _ h (Jj hp ht)
   ·cases h
  ·cases h
theorem KQ {cf:CF}{n:Nat}{ops:Array Oper}:∀(l:List Oper) (i:Nat) (bs:List Nat) (tp te:Tm) (hb h:Hp) (s:List lX) (t':Tm) (H':Hp),nf P cf n ops i l bs tp te hb h=some (s,t',H')->(∀d,n<=d->te.get d=none)->∀d,n<=d->t'.get d=none
 |[],i,bs,tp,te,hb,h,s,t',H',hr,ht=>by unfold nf at hr;cases hr;exact ht
 |o::l,i,[],tp,te,hb,h,s,t',H',hr,ht=>by unfold nf at hr;cases hr
 |o::l,i,b::bs,tp,te,hb,h,s,t',H',hr,ht=>by
  unfold nf at hr;split at hr
  ·split at hr
   ·split at hr
    ·split at hr;·rename_i h1 h2;simp only[aag] at hr;obtain⟨⟨s2,t2,H2⟩,h3,h4⟩:=hr;cases h4;exact KQ l _ _ _ _ _ _ _ _ _ h3 (Jj h2 ht)
     ·cases hr
    ·cases hr
   ·split at hr
    ·split at hr;·rename_i h1 h2;simp only[aag] at hr;obtain⟨⟨s2,t2,H2⟩,h3,h4⟩:=hr;cases h4;exact KQ l _ _ _ _ _ _ _ _ _ h3 (Jj h2 ht)
     ·cases hr
    ·cases hr
   ·split at hr
    ·split at hr;·rename_i h1 h2;simp only[aag] at hr;obtain⟨⟨s2,t2,H2⟩,h3,h4⟩:=hr;cases h4;exact KQ l _ _ _ _ _ _ _ _ _ h3 (Jj h2 ht)
     ·cases hr
    ·cases hr
  ·split at hr;·rename_i h1 h2;simp only[aag] at hr;obtain⟨⟨s2,t2,H2⟩,h3,h4⟩:=hr;cases h4;exact KQ l _ _ _ _ _ _ _ _ _ h3 (Jj h2 ht)
   ·cases hr
  ·cases hr
theorem aGj {cf:CF}{n:Nat}{ops:Array Oper}{d:Bool}{t t':Tm}{H H':Hp}(h:(bif d then FQ P cf n ops t H else wg P cf n ops ops.toList t H)=some (t',H'))(ht:∀x,n<=x->t.get x=none):∀x,n<=x->t'.get x=none:=by
 cases d with
 |false=>exact Yy _ _ _ _ _ h ht|true=>
  simp only[cond_true] at h;unfold FQ at h;cases hr:AD ops with
  |false=>rw[hr] at h;cases h
  |true=>
   rw[hr] at h;simp only[cond_true] at h;split at h
   ·rename_i l t1 H1 kF;cases hd:FZ P l with
    |false=>rw[hd] at h;cases h
    |true=>
     rw[hd] at h;cases h;exact KQ _ _ _ _ _ _ _ _ _ _ kF ht
   ·cases h
def D7 (P:Program)(r:AV×Hp)(F:Nat->Prop)(W:World)(n:Nat)(e:Em)(ds:List Deferred)(kn:KN)(ex:Exit)(Q:Exit->Act->World->Prop):Prop:=
 ∀e' a' w' t' H',e.le e'->RH P.globals.size F W e' H' w'->oM e' n t' a'->a'.defers=ds->kn t' H'=some r->Q ex a' w'
theorem D7.mono {r:AV×Hp}{F:Nat->Prop}{W:World}{n:Nat}{e e2:Em}{ds:List Deferred}{kn:KN}{ex:Exit}{Q:Exit->Act->World->Prop}(h:D7 P r F W n e ds kn ex Q)(he:e.le e2):D7 P r F W n e2 ds kn ex Q:=
 λe' a' w' t' H' h1=>h e' a' w' t' H' (Em.le_trans he h1)
theorem ru {m n:Nat}{lv:List Nat}{k:List AV->Hp->R}{t:Tm}{H:Hp}(hm:lv.length=m):app m (abs m k) (aH lv t) H=k (aH lv t) H:=K6 m k _ H (by rw[JD];exact hm)
def alE (P:Program)(n:Nat)(c:Code)(lv:List Nat)(p:Tm->Hp->Option Hp):Prop:=
 ∀t H H2,p t H=some H2->∀(F:Nat->Prop) (W:World) (e:Em) (a:Act) (w:World) (Q:Exit->Act->World->Prop),RH P.globals.size F W e H w->oM e n t a->
  (∀e' a' w',e.le e'->RH P.globals.size F W e' H2 w'->oM e' n (cJ n lv (aH lv t)) a'->a'.defers=a.defers->Q .normal a' w')->c.wp P Q a w
def mb (P:Program)(n:Nat):Code->An->Prop
 |.seq a b,an=>match an with|.sq _ x y=>mb P n a x/\mb P n b y|.pr lv p=>alE P n (.seq a b) lv p|_=>True
 |.cond _ a b,an=>match an with|.cd x y=>mb P n a x/\mb P n b y|_=>True
 |.block _ b,an=>match an with|.bl _ x=>mb P n b x|_=>True
 |.loop b,an=>match an with|.lp _ x=>mb P n b x|_=>True
 |_,_=>True
def An.plain:An->Bool
 |.nl=>true|.sq _ a b=>a.plain&&b.plain|.cd a b=>a.plain&&b.plain|.bl _ a=>a.plain|.lp _ a=>a.plain|.pr _ _=>false
theorem mb.plain (P:Program)(n:Nat):∀(c:Code) (an:An),an.plain=true->mb P n c an:=by
 intro c;induction c with
 |seq a b ia ib=>
  intro an h;unfold mb;cases an with
  |sq j x y=>simp only[An.plain,aam] at h;exact⟨ia x h.1,ib y h.2⟩|pr lv p=>cases h
  |_=>trivial
 |cond q a b ia ib=>
  intro an h;unfold mb;cases an with
  |cd x y=>simp only[An.plain,aam] at h;exact⟨ia x h.1,ib y h.2⟩|_=>trivial
 |block i b ib=>
  intro an h;unfold mb;cases an with
  |bl j x=>exact ib x h|_=>trivial
 |loop b ib=>
  intro an h;unfold mb;cases an with
  |lp lv x=>exact ib x h|_=>trivial
 |_=>intro an h;unfold mb;trivial
def AF (P:Program)(an:Nat->An):Prop:=∀aV fn b,P.funcs[aV]?=some fn->fn.body=some b->mb P fn.ntmps b (an aV)
theorem AF.plain {P:Program}{an:Nat->An}(h:∀g,(an g).plain=true):AF P an:=λaV fn b _ _=>mb.plain P fn.ntmps b (an aV) (h aV)
def PQ:List (Nat×An)->Nat->An
 |[],_=>.nl|p::r,g=>bif Nat.beq g p.1 then p.2 else PQ r g
theorem ahK {P:Program}:∀{l:List (Nat×An)},(∀p∈l,p.2.plain=true\/∀fn b,P.funcs[p.1]?=some fn->fn.body=some b->mb P fn.ntmps b p.2)->AF P (PQ l)
 |[],h=>AF.plain λ_=>rfl
 |p::r,h=>by
  intro aV fn b h1 h2;show mb P fn.ntmps b (bif Nat.beq aV p.1 then p.2 else PQ r aV);cases hb:Nat.beq aV p.1 with
  |true=>
   obtain rfl:=aaY hb;rcases h p (.head _) with q|q;·exact mb.plain P _ _ _ q
   ·exact q fn b h1 h2
  |false=>exact ahK (λq hq=>h q (.tail _ hq)) aV fn b h1 h2
theorem aw3 (hm:P.follows .mixedOrders=true)(je:JP P reg){cf:CF}(jb:wz P cf){n:Nat}:∀(c:Code) (an:An) (kn:KN) (ke:Nat->KN) (kr:KN) (t:Tm) (H:Hp) (r:AV×Hp),an.ok n=true->mb P n c an->bD P reg cf n c an kn ke kr t H=some r->
  ∀(F:Nat->Prop) (W:World) (e:Em) (a:Act) (w:World) (Q:Exit->Act->World->Prop),RH P.globals.size F W e H w->oM e n t a->
   D7 P r F W n e a.defers kn .normal Q->(∀i,D7 P r F W n e a.defers (ke i) (.exit i) Q)->D7 P r F W n e a.defers kr .ret Q->c.wp P Q a w:=by
 intro c;induction c with
 |skip=>
  intro an kn ke kr t H r ha pI hc F W e a w Q hR hT ie nF nA;unfold bD at hc;exact wp_skip (ie e a w t H e.le_refl hR hT rfl hc)
 |label l=>
  intro an kn ke kr t H r ha pI hc F W e a w Q hR hT ie nF nA;unfold bD at hc;exact wp_label (ie e a w t H e.le_refl hR hT rfl hc)
 |seq c1 c2 i1 i2=>
  intro an kn ke kr t H r ha pI hc F W e a w Q hR hT ie nF nA;unfold bD at hc;split at hc
  ·rename_i x y;refine wp_seq ?_;simp only[An.ok,aam] at ha;refine i1 x _ _ _ t H r ha.1.2 pI.1 hc F W e a w _ hR hT ?_ ?_ ?_
   ·intro e' a' w' t' H' he bp cI hd hk;refine i2 y _ _ _ t' H' r ha.2 pI.2 hk F W e' a' w' Q bp cI ?_ ?_ ?_;·rw[hd];exact ie.mono he
    ·intro i;rw[hd];exact (nF i).mono he
    ·rw[hd];exact nA.mono he
   ·intro i e' a' w' t' H' he bp cI hd hk;exact nF i e' a' w' t' H' he bp cI hd hk
   ·intro e' a' w' t' H' he bp cI hd hk;exact nA e' a' w' t' H' he bp cI hd hk
  ·rename_i lv x y;refine wp_seq ?_;simp only[An.ok,aam,afK] at ha;have GU:=Wc ha.1.1;unfold JN at hc;refine i1 x _ _ _ t H r ha.1.2 pI.1 hc F W e a w _ hR hT ?_ ?_ ?_
   ·intro e' a' w' t' H' he bp cI hd hk
    replace hk:=(ru (n:=n) rfl).symm.trans hk
    refine i2 y _ _ _ _ H' r ha.2 pI.2 hk F W e' a' w' Q bp (cI.vO GU) ?_ ?_ ?_;·rw[hd];exact ie.mono he
    ·intro i;rw[hd];exact (nF i).mono he
    ·rw[hd];exact nA.mono he
   ·intro i e' a' w' t' H' he bp cI hd hk;exact nF i e' a' w' t' H' he bp cI hd hk
   ·intro e' a' w' t' H' he bp cI hd hk;exact nA e' a' w' t' H' he bp cI hd hk
  ·rename_i lv p;obtain⟨H2,h1,h2⟩:=fR hc;exact pI t H H2 h1 F W e a w Q hR hT λe' a' w' he bp cI hd=>ie e' a' w' _ H2 he bp cI hd h2
  ·cases hc
 |cond x c1 c2 i1 i2=>
  intro an kn ke kr t H r ha pI hc F W e a w Q hR hT ie nF nA;unfold bD at hc;split at hc
  ·rename_i y z;simp only[An.ok,aam] at ha;unfold CD at hc;split at hc
   ·rename_i b hb;have hv:=VR.ev hR hT.1 x;rw[hb] at hv;refine wp_cond hv.wj ?_;cases b with
    |true=>exact i1 y _ _ _ t H r ha.1 pI.1 hc F W e a w Q hR hT ie nF nA|false=>exact i2 z _ _ _ t H r ha.2 pI.2 hc F W e a w Q hR hT ie nF nA
   ·cases hc
  ·cases hc
 |block i b ib=>
  intro an kn ke kr t H r ha pI hc F W e a w Q hR hT ie nF nA;unfold bD at hc;refine wp_block ?_;have inb:∀(j:Nat) (e':Em) (a':Act) (w':World) (t':Tm) (H':Hp) (q:KN),e.le e'->RH P.globals.size F W e' H' w'->oM e' n t' a'->a'.defers=a.defers->
    (∀e' a' w' t' H',e.le e'->RH P.globals.size F W e' H' w'->oM e' n t' a'->a'.defers=a.defers->q t' H'=some r->Q .normal a' w')->
    (bif Nat.beq j i then q t' H' else ke j t' H')=some r->Exit.inBlock i Q (.exit j) a' w':=by
   intro j e' a' w' t' H' q he bp cI hd hq hk;show (if j=i then Q .normal a' w' else Q (.exit j) a' w');cases hj:Nat.beq j i with
   |true=>
    rw[hj] at hk;rw[zz2 (aaY hj)];exact hq e' a' w' t' H' he bp cI hd hk
   |false=>
    rw[hj] at hk;rw[zz1 (λq=>by rw[q,aiw] at hj;cases hj)];exact nF j e' a' w' t' H' he bp cI hd hk
  split at hc
  ·rename_i x;simp only[An.ok,aam] at ha;refine ib x _ _ _ t H r ha.2 pI hc F W e a w _ hR hT ?_ ?_ ?_;·intro e' a' w' t' H' he bp cI hd hk;exact ie e' a' w' t' H' he bp cI hd hk
   ·intro j e' a' w' t' H' he bp cI hd hk;exact inb j e' a' w' t' H' kn he bp cI hd ie hk
   ·intro e' a' w' t' H' he bp cI hd hk;exact nA e' a' w' t' H' he bp cI hd hk
  ·rename_i lv x;simp only[An.ok,aam,afK] at ha;have GU:=Wc ha.1;unfold JN at hc;have hj:∀e' a' w' t' H',e.le e'->RH P.globals.size F W e' H' w'->oM e' n t' a'->a'.defers=a.defers->app lv.length (abs lv.length λl H=>kn (cJ n lv l) H) (aH lv t') H'=some r->Q .normal a' w':=by
    intro e' a' w' t' H' he bp cI hd hk
    replace hk:=(ru (n:=n) rfl).symm.trans hk
    exact ie e' a' w' _ H' he bp (cI.vO GU) hd hk
   refine ib x _ _ _ t H r ha.2 pI hc F W e a w _ hR hT ?_ ?_ ?_;·intro e' a' w' t' H' he bp cI hd hk;exact hj e' a' w' t' H' he bp cI hd hk
   ·intro j e' a' w' t' H' he bp cI hd hk;exact inb j e' a' w' t' H' (λt H=>app lv.length (abs lv.length λl H=>kn (cJ n lv l) H) (aH lv t) H) he bp cI hd hj hk
   ·intro e' a' w' t' H' he bp cI hd hk;exact nA e' a' w' t' H' he bp cI hd hk
  ·cases hc
 |loop b ib=>
  intro an kn ke kr t H r ha pI hc F W e a w Q hR hT ie nF nA;unfold bD at hc;split at hc
  ·rename_i lv x;simp only[An.ok,aam] at ha;have GU:=Wc ha.1;unfold LP at hc
   replace hc:=(ru (n:=n) rfl).symm.trans hc
   obtain⟨L,hL⟩:=Jf hc;refine ZO ?_;have key:∀(L:Nat) (e:Em) (a:Act) (w:World) (t:Tm) (H:Hp),app lv.length (jU lv.length (λk=>abs lv.length λl H=>bD P reg cf n b x (λt H=>app lv.length k (aH lv t) H) ke kr (cJ n lv l) H) L) (aH lv t) H=some r->
     RH P.globals.size F W e H w->oM e n t a->(∀i,D7 P r F W n e a.defers (ke i) (.exit i) Q)->D7 P r F W n e a.defers kr .ret Q->BJ P b Q a w:=by
    intro L;induction L with
    |zero=>
     intro e a w t H hq _ _ _ _
     replace hq:=(ru (m:=lv.length) (n:=n) (k:=λ_ _=>none) rfl).symm.trans hq
     cases hq
    |succ L ih=>
     intro e a w t H hq hR hT nF nA
     replace hq:=(ru (m:=lv.length) (n:=n) (k:=λl H=>bD P reg cf n b x (λt H=>app lv.length (jU lv.length (λk=>abs lv.length λl H=>bD P reg cf n b x (λt H=>app lv.length k (aH lv t) H) ke kr (cJ n lv l) H) L) (aH lv t) H) ke kr (cJ n lv l) H) rfl).symm.trans hq
     refine Vw ?_;refine ib x _ _ _ _ H r ha.2 pI hq F W e a w _ hR (hT.vO GU) ?_ ?_ ?_
     ·intro e' a' w' t' H' he bp cI hd hk;refine ih e' a' w' t' H' hk bp cI ?_ ?_;·intro i;rw[hd];exact (nF i).mono he
      ·rw[hd];exact nA.mono he
     ·intro i e' a' w' t' H' he bp cI hd hk;exact nF i e' a' w' t' H' he bp cI hd hk
     ·intro e' a' w' t' H' he bp cI hd hk;exact nA e' a' w' t' H' he bp cI hd hk
   exact key L e a w t H hL hR hT nF nA
  ·cases hc
 |exit i=>
  intro an kn ke kr t H r ha pI hc F W e a w Q hR hT ie nF nA;unfold bD at hc;exact wp_exit (nF i e a w t H e.le_refl hR hT rfl hc)
 |ret=>
  intro an kn ke kr t H r ha pI hc F W e a w Q hR hT ie nF nA;unfold bD at hc;exact wp_ret (nA e a w t H e.le_refl hR hT rfl hc)
 |region id ops d=>
  intro an kn ke kr t H r ha pI hc F W e a w Q hR hT ie nF nA;unfold bD at hc;obtain⟨t1,H1,h1,h2⟩:=je cf n ops d t H kn r hc;have lD:=aGj h1 hT.2;have fin:∀e' a' w',e.le e'->RH P.globals.size F W e' H1 w'->TR e' n t1 a'->a'.defers=a.defers->Q .normal a' w':=λe' a' w' he bp cI hd=>ie e' a' w' t1 H1 he bp ⟨cI,lD⟩ hd h2;cases d with
  |true=>exact ajS hm jb h1 hR hT.1 fin|false=>
   refine wp_region ?_;have:=adm (Q:=Q) jb ops.toList 0 t H e a w zzy h1 hR hT.1 fin;rw[List.range_eq_range'];simpa using this
 |_=>
  intro an kn ke kr t H r ha pI hc;unfold bD at hc;cases hc
def Ev (p:Nat->Prop):Prop:=∃k0,∀k,k0<=k->p k
theorem Ev.of {p:Nat->Prop}(h:∀k,p k):Ev p:=⟨0,λk _=>h k⟩
def wZ (f:Nat->CF)(g:CF):Prop:=∀x l H r,g x l H=some r->Ev λk=>f k x l H=some r
def Bk (f:Nat->KN)(g:KN):Prop:=∀t H r,g t H=some r->Ev λk=>f k t H=some r
def AN (reg:vg):Prop:=∀(du:Nat->CF) (cf:CF) (na:Nat->KN) (kn:KN) (n:Nat) (ops:Array Oper) (d:Bool) (t:Tm) (H:Hp) (r:AV×Hp),wZ du cf->Bk na kn->reg cf n ops d t H kn=some r->Ev λk=>reg (du k) n ops d t H (na k)=some r
theorem Qv (je:AN reg){n:Nat}:∀(c:Code) (an:An) (du:Nat->CF) (cf:CF) (na:Nat->KN) (kn:KN) (og:Nat->Nat->KN) (ke:Nat->KN) (mT:Nat->KN) (kr:KN) (t:Tm) (H:Hp) (r:AV×Hp),
  wZ du cf->Bk na kn->(∀i,Bk (λk=>og k i) (ke i))->Bk mT kr->bD P reg cf n c an kn ke kr t H=some r->Ev λk=>bD P reg (du k) n c an (na k) (og k) (mT k) t H=some r:=by
 intro c;induction c with
 |skip=>intro an du cf na kn og ke mT kr t H r h1 h2 h3 h4 hc;unfold bD at hc⊢;exact h2 t H r hc|label l=>intro an du cf na kn og ke mT kr t H r h1 h2 h3 h4 hc;unfold bD at hc⊢;exact h2 t H r hc|seq c1 c2 i1 i2=>
  intro an du cf na kn og ke mT kr t H r h1 h2 h3 h4 hc;unfold bD at hc⊢;cases an with
  |sq j x y=>
   cases j with
   |none=>exact i1 x du cf _ _ og ke mT kr t H r h1 (λt H r h=>i2 y du cf na kn og ke mT kr t H r h1 h2 h3 h4 h) h3 h4 hc|some lv=>
    simp only[JN] at hc⊢;refine i1 x du cf _ _ og ke mT kr t H r h1 (λt H r h=>?_) h3 h4 hc
    replace h:=(ru (n:=n) rfl).symm.trans h
    obtain⟨k0,hk⟩:=i2 y du cf na kn og ke mT kr _ H r h1 h2 h3 h4 h;exact⟨k0,λk hle=>(ru (n:=n) rfl).trans (hk k hle)⟩
  |pr lv p=>
   simp only at hc⊢;obtain⟨H2,q1,q2⟩:=fR hc;obtain⟨k0,hk⟩:=h2 _ H2 r q2;exact⟨k0,λk hle=>by rw[q1];exact hk k hle⟩
  |_=>cases hc
 |cond x c1 c2 i1 i2=>
  intro an du cf na kn og ke mT kr t H r h1 h2 h3 h4 hc;unfold bD at hc⊢;cases an with
  |cd y z=>
   simp only[CD] at hc⊢;cases hv:ev P.globals.size t x<;>rw[hv] at hc<;>simp only at hc⊢ <;> try (cases hc;done)
   rename_i q;cases q with
   |true=>exact i1 y du cf na kn og ke mT kr t H r h1 h2 h3 h4 hc|false=>exact i2 z du cf na kn og ke mT kr t H r h1 h2 h3 h4 hc
  |_=>cases hc
 |block i b ib=>
  intro an du cf na kn og ke mT kr t H r h1 h2 h3 h4 hc;unfold bD at hc⊢;cases an with
  |bl j x=>
   cases j with
   |none=>
    refine ib x du cf na kn _ _ mT kr t H r h1 h2 (λq t H r h=>?_) h4 hc;cases hq:Nat.beq q i with
    |true=>rw[hq] at h;simp only[hq,cond_true];exact h2 t H r h|false=>rw[hq] at h;simp only[hq,cond_false];exact h3 q t H r h
   |some lv=>
    simp only[JN] at hc⊢;have hj:Bk (λk=>λt H=>app lv.length (abs lv.length λl H=>na k (cJ n lv l) H) (aH lv t) H) (λt H=>app lv.length (abs lv.length λl H=>kn (cJ n lv l) H) (aH lv t) H):=by
     intro t H r h
     replace h:=(ru (n:=n) rfl).symm.trans h
     obtain⟨k0,hk⟩:=h2 _ H r h;exact⟨k0,λk hle=>(ru (n:=n) rfl).trans (hk k hle)⟩
    refine ib x du cf _ _ _ _ mT kr t H r h1 hj (λq t H r h=>?_) h4 hc;cases hq:Nat.beq q i with
    |true=>rw[hq] at h;simp only[hq,cond_true];exact hj t H r h|false=>rw[hq] at h;simp only[hq,cond_false];exact h3 q t H r h
  |_=>cases hc
 |loop b ib=>
  intro an du cf na kn og ke mT kr t H r h1 h2 h3 h4 hc;unfold bD at hc⊢;cases an with
  |lp lv x=>
   simp only at hc⊢;have const:∀(f:CF),wZ (λ_=>f) f:=λf x l H r h=>Ev.of λ_=>h;have tY:∀(f:KN),Bk (λ_=>f) f:=λf t H r h=>Ev.of λ_=>h;have mono:∀(f:CF) (ke:Nat->KN) (kr:KN) (L L':Nat) (t:Tm) (H:Hp) (r:AV×Hp),L<=L'->app lv.length (jU lv.length (λk=>abs lv.length λl H=>bD P reg f n b x (λt H=>app lv.length k (aH lv t) H) ke kr (cJ n lv l) H) L) (aH lv t) H=some r->
     app lv.length (jU lv.length (λk=>abs lv.length λl H=>bD P reg f n b x (λt H=>app lv.length k (aH lv t) H) ke kr (cJ n lv l) H) L') (aH lv t) H=some r:=by
    intro f ke kr L;induction L with
    |zero=>
     intro L' t H r _ h;rw[show jU lv.length _ 0=abs lv.length (λ_ _=>none) from rfl,ru (n:=n) rfl] at h;cases h
    |succ L ih=>
     intro L' t H r hle h;obtain⟨L2,rfl⟩:∃L2,L'=L2+1:=⟨L'-1,zzz⟩;rw[show jU lv.length _ (L+1)=abs lv.length _ from rfl,ru (n:=n) rfl] at h;rw[show jU lv.length _ (L2+1)=abs lv.length _ from rfl,ru (n:=n) rfl];obtain⟨k0,hk⟩:=ib x (λ_=>f) f (λ_=>λt H=>app lv.length (jU lv.length _ L2) (aH lv t) H) (λt H=>app lv.length (jU lv.length _ L) (aH lv t) H) (λ_=>ke) ke (λ_=>kr) kr _ H r (const f) (λt H r h=>Ev.of λ_=>ih L2 t H r zzz h) (λi=>tY (ke i)) (tY kr) h;exact hk k0 (aaq _)
   have uniq:∀(f:CF) (ke:Nat->KN) (kr:KN) (t:Tm) (H:Hp) (L L':Nat) (r r':AV×Hp),app lv.length (jU lv.length (λk=>abs lv.length λl H=>bD P reg f n b x (λt H=>app lv.length k (aH lv t) H) ke kr (cJ n lv l) H) L) (aH lv t) H=some r->
     app lv.length (jU lv.length (λk=>abs lv.length λl H=>bD P reg f n b x (λt H=>app lv.length k (aH lv t) H) ke kr (cJ n lv l) H) L') (aH lv t) H=some r'->r=r':=by
    intro f ke kr t H L L' r r' h h';rcases Nat.le_total L L' with q|q;·have:=mono f ke kr L L' t H r q h;rw[this] at h';exact ab0 h'
    ·have:=mono f ke kr L' L t H r' q h';rw[h] at this;exact ab0 this
   have att:∀(f:CF) (ke:Nat->KN) (kr:KN) (t:Tm) (H:Hp) (L:Nat) (r:AV×Hp),app lv.length (jU lv.length (λk=>abs lv.length λl H=>bD P reg f n b x (λt H=>app lv.length k (aH lv t) H) ke kr (cJ n lv l) H) L) (aH lv t) H=some r->
     app lv.length (LP lv.length (λk=>abs lv.length λl H=>bD P reg f n b x (λt H=>app lv.length k (aH lv t) H) ke kr (cJ n lv l) H)) (aH lv t) H=some r:=by
    intro f ke kr t H L r h;unfold LP;rw[ru (n:=n) rfl];exact R0 h (uniq f ke kr t H)
   have akK:∀(f:CF) (ke:Nat->KN) (kr:KN) (t:Tm) (H:Hp) (r:AV×Hp),app lv.length (LP lv.length (λk=>abs lv.length λl H=>bD P reg f n b x (λt H=>app lv.length k (aH lv t) H) ke kr (cJ n lv l) H)) (aH lv t) H=some r->
     ∃L,app lv.length (jU lv.length (λk=>abs lv.length λl H=>bD P reg f n b x (λt H=>app lv.length k (aH lv t) H) ke kr (cJ n lv l) H) L) (aH lv t) H=some r:=by
    intro f ke kr t H r h;unfold LP at h
    replace h:=(ru (n:=n) rfl).symm.trans h
    exact Jf h
   have roll:∀(f:CF) (ke:Nat->KN) (kr:KN) (t:Tm) (H:Hp) (r:AV×Hp),bD P reg f n b x (λt H=>app lv.length (LP lv.length (λk=>abs lv.length λl H=>bD P reg f n b x (λt H=>app lv.length k (aH lv t) H) ke kr (cJ n lv l) H)) (aH lv t) H) ke kr (cJ n lv (aH lv t)) H=some r->
     app lv.length (LP lv.length (λk=>abs lv.length λl H=>bD P reg f n b x (λt H=>app lv.length k (aH lv t) H) ke kr (cJ n lv l) H)) (aH lv t) H=some r:=by
    intro f ke kr t H r h;obtain⟨k0,hk⟩:=ib x (λ_=>f) f (λL=>λt H=>app lv.length (jU lv.length (λk=>abs lv.length λl H=>bD P reg f n b x (λt H=>app lv.length k (aH lv t) H) ke kr (cJ n lv l) H) L) (aH lv t) H) _ (λ_=>ke) ke (λ_=>kr) kr _ H r (const f)
     (fun t H r h=>by
      obtain⟨L,hL⟩:=akK f ke kr t H r h;exact⟨L,λk hle=>mono f ke kr L k t H r hle hL⟩) (λi=>tY (ke i)) (tY kr) h
    refine att f ke kr t H (k0+1) r ?_;rw[show jU lv.length _ (k0+1)=abs lv.length _ from rfl,ru (n:=n) rfl];exact hk k0 (aaq _)
   obtain⟨L,hL⟩:=akK cf ke kr t H r hc;clear hc;induction L generalizing t H r with
   |zero=>
    rw[show jU lv.length _ 0=abs lv.length (λ_ _=>none) from rfl,ru (n:=n) rfl] at hL;cases hL
   |succ L ih=>
    rw[show jU lv.length _ (L+1)=abs lv.length _ from rfl,ru (n:=n) rfl] at hL;obtain⟨k0,hk⟩:=ib x du cf (λk=>λt H=>app lv.length (LP lv.length (λq=>abs lv.length λl H=>bD P reg (du k) n b x (λt H=>app lv.length q (aH lv t) H) (og k) (mT k) (cJ n lv l) H)) (aH lv t) H) _ og ke mT kr _ H r h1 (λt H r h=>ih t H r h) h3 h4 hL;exact⟨k0,λk hle=>roll (du k) (og k) (mT k) t H r (hk k hle)⟩
  |_=>cases hc
 |exit i=>intro an du cf na kn og ke mT kr t H r h1 h2 h3 h4 hc;unfold bD at hc⊢;exact h3 i t H r hc|ret=>intro an du cf na kn og ke mT kr t H r h1 h2 h3 h4 hc;unfold bD at hc⊢;exact h4 t H r hc|region id ops d=>intro an du cf na kn og ke mT kr t H r h1 h2 h3 h4 hc;unfold bD at hc⊢;exact je du cf na kn n ops d t H r h1 h2 hc|_=>
  intro an du cf na kn og ke mT kr t H r h1 h2 h3 h4 hc;unfold bD at hc;cases hc
end K
end
namespace K
section
variable {P:Program}{reg:vg}
theorem ao6 (je:AN reg)(f:CF)(n:Nat)(b:Code)(x:An)(lv:List Nat)(ke:Nat->KN)(kr:KN)(l:List AV)(hl:l.length=lv.length)(H:Hp):
  app lv.length (LP lv.length (λk=>abs lv.length λl H=>bD P reg f n b x (λt H=>app lv.length k (aH lv t) H) ke kr (cJ n lv l) H)) l H=
   bD P reg f n b x (λt H=>app lv.length (LP lv.length (λk=>abs lv.length λl H=>bD P reg f n b x (λt H=>app lv.length k (aH lv t) H) ke kr (cJ n lv l) H)) (aH lv t) H) ke kr (cJ n lv l) H:=by
 have const:wZ (λ_=>f) f:=λx l H r h=>Ev.of λ_=>h;have tY:∀(f:KN),Bk (λ_=>f) f:=λf t H r h=>Ev.of λ_=>h;have Ra:∀(L:Nat) (l:List AV) (H:Hp),l.length=lv.length->app lv.length (jU lv.length (λk=>abs lv.length λl H=>bD P reg f n b x (λt H=>app lv.length k (aH lv t) H) ke kr (cJ n lv l) H) (L+1)) l H=
   bD P reg f n b x (λt H=>app lv.length (jU lv.length (λk=>abs lv.length λl H=>bD P reg f n b x (λt H=>app lv.length k (aH lv t) H) ke kr (cJ n lv l) H) L) (aH lv t) H) ke kr (cJ n lv l) H:=λL l H hl=>by
  rw[show jU lv.length _ (L+1)=abs lv.length _ from rfl,K6 _ _ _ _ hl]
 have zero:∀(l:List AV) (H:Hp),l.length=lv.length->app lv.length (jU lv.length (λk=>abs lv.length λl H=>bD P reg f n b x (λt H=>app lv.length k (aH lv t) H) ke kr (cJ n lv l) H) 0) l H=none:=λl H hl=>by rw[show jU lv.length _ 0=abs lv.length (λ_ _=>none) from rfl,K6 _ _ _ _ hl]
 have mono:∀(L L':Nat) (l:List AV) (H:Hp) (r:AV×Hp),l.length=lv.length->L<=L'->app lv.length (jU lv.length (λk=>abs lv.length λl H=>bD P reg f n b x (λt H=>app lv.length k (aH lv t) H) ke kr (cJ n lv l) H) L) l H=some r->
   app lv.length (jU lv.length (λk=>abs lv.length λl H=>bD P reg f n b x (λt H=>app lv.length k (aH lv t) H) ke kr (cJ n lv l) H) L') l H=some r:=by
  intro L;induction L with
  |zero=>intro L' l H r hl _ h;rw[zero l H hl] at h;cases h
  |succ L ih=>
   intro L' l H r hl hle h;obtain⟨L2,rfl⟩:∃L2,L'=L2+1:=⟨L'-1,zzz⟩;rw[Ra L l H hl] at h;rw[Ra L2 l H hl];obtain⟨k0,hk⟩:=Qv je b x (λ_=>f) f (λ_=>_) _ (λ_=>ke) ke (λ_=>kr) kr _ H r const (λt H r h=>Ev.of λ_=>ih L2 (aH lv t) H r (JD lv t) zzz h) (λi=>tY (ke i)) (tY kr) h;exact hk k0 (aaq _)
 have uniq:∀(l:List AV) (H:Hp),l.length=lv.length->∀(L L':Nat) (r r':AV×Hp),app lv.length (jU lv.length (λk=>abs lv.length λl H=>bD P reg f n b x (λt H=>app lv.length k (aH lv t) H) ke kr (cJ n lv l) H) L) l H=some r->
   app lv.length (jU lv.length (λk=>abs lv.length λl H=>bD P reg f n b x (λt H=>app lv.length k (aH lv t) H) ke kr (cJ n lv l) H) L') l H=some r'->r=r':=by
  intro l H hl L L' r r' h h';rcases Nat.le_total L L' with q|q;·have:=mono L L' l H r hl q h;rw[this] at h';exact ab0 h'
  ·have:=mono L' L l H r' hl q h';rw[h] at this;exact ab0 this
 have TS:∀(l:List AV) (H:Hp),l.length=lv.length->app lv.length (LP lv.length (λk=>abs lv.length λl H=>bD P reg f n b x (λt H=>app lv.length k (aH lv t) H) ke kr (cJ n lv l) H)) l H=lim (λL=>app lv.length (jU lv.length (λk=>abs lv.length λl H=>bD P reg f n b x (λt H=>app lv.length k (aH lv t) H) ke kr (cJ n lv l) H) L) l H):=λl H hl=>by unfold LP;rw[K6 _ _ _ _ hl]
 have fwd:∀(r:AV×Hp),app lv.length (LP lv.length (λk=>abs lv.length λl H=>bD P reg f n b x (λt H=>app lv.length k (aH lv t) H) ke kr (cJ n lv l) H)) l H=some r->
   bD P reg f n b x (λt H=>app lv.length (LP lv.length (λk=>abs lv.length λl H=>bD P reg f n b x (λt H=>app lv.length k (aH lv t) H) ke kr (cJ n lv l) H)) (aH lv t) H) ke kr (cJ n lv l) H=some r:=by
  intro r h;rw[TS l H hl] at h;obtain⟨L,hL⟩:=Jf h;cases L with
  |zero=>rw[zero l H hl] at hL;cases hL
  |succ L=>
   rw[Ra L l H hl] at hL;obtain⟨k0,hk⟩:=Qv je b x (λ_=>f) f (λ_=>λt H=>app lv.length (LP lv.length (λk=>abs lv.length λl H=>bD P reg f n b x (λt H=>app lv.length k (aH lv t) H) ke kr (cJ n lv l) H)) (aH lv t) H) _ (λ_=>ke) ke (λ_=>kr) kr _ H r const
    (λt H r h=>Ev.of λ_=>(TS _ H (JD lv t)).trans (R0 h (uniq _ H (JD lv t)))) (λi=>tY (ke i)) (tY kr) hL
   exact hk k0 (aaq _)
 have bwd:∀(r:AV×Hp),bD P reg f n b x (λt H=>app lv.length (LP lv.length (λk=>abs lv.length λl H=>bD P reg f n b x (λt H=>app lv.length k (aH lv t) H) ke kr (cJ n lv l) H)) (aH lv t) H) ke kr (cJ n lv l) H=some r->
   app lv.length (LP lv.length (λk=>abs lv.length λl H=>bD P reg f n b x (λt H=>app lv.length k (aH lv t) H) ke kr (cJ n lv l) H)) l H=some r:=by
  intro r h;obtain⟨k0,hk⟩:=Qv je b x (λ_=>f) f (λL=>λt H=>app lv.length (jU lv.length (λk=>abs lv.length λl H=>bD P reg f n b x (λt H=>app lv.length k (aH lv t) H) ke kr (cJ n lv l) H) L) (aH lv t) H) _ (λ_=>ke) ke (λ_=>kr) kr _ H r const
   (fun t H r h=>by
    replace h:=(TS _ H (JD lv t)).symm.trans h
    obtain⟨L,hL⟩:=Jf h;exact⟨L,λk hle=>mono L k _ H r (JD lv t) hle hL⟩) (λi=>tY (ke i)) (tY kr) h
  rw[TS l H hl];refine R0 (L:=k0+1) ?_ (uniq l H hl);rw[Ra k0 l H hl];exact hk k0 (aaq _)
 cases h1:app lv.length (LP lv.length (λk=>abs lv.length λl H=>bD P reg f n b x (λt H=>app lv.length k (aH lv t) H) ke kr (cJ n lv l) H)) l H with
 |some r=>exact (fwd r h1).symm|none=>
  cases h2:bD P reg f n b x (λt H=>app lv.length (LP lv.length (λk=>abs lv.length λl H=>bD P reg f n b x (λt H=>app lv.length k (aH lv t) H) ke kr (cJ n lv l) H)) (aH lv t) H) ke kr (cJ n lv l) H with
  |none=>rfl|some r=>rw[bwd r h2] at h1;cases h1
end
def G3 (P:Program)(t:Tm)(H:Hp):List ResultVar->(List AV->R)->R
 |[],k=>k []|.tmp x::r,k=>G3 P t H r λl=>k ((t.get x).getD bP::l)
 |.cell a ty::r,k=>match Ah P ty,sz P ty with
  |some true,some n=>B1 (aB n ((t.get a).getD bP) H) λv=>G3 P t H r λl=>k (v::l)
  |some false,_=>B1 (ld ((t.get a).getD bP) H) λv=>G3 P t H r λl=>k (v::l)
  |_,_=>none
def Fu (P:Program)(t:Tm)(H:Hp)(l:List ResultVar):R:=G3 P t H l λvs=>some (QY vs,H)
theorem axd {P:Program}{ty:TypeId}{x v:AV}{H:Hp}(ha:Ah P ty=some false)(h:ld x H=some v):wH P H ty x=some v:=by
 unfold ld at h;split at h;·unfold wH;simp only[ha,abY,acf,aa4,if_false,h]
 ·cases h
theorem aqE {P:Program}{ty:TypeId}{n:Nat}{x v:AV}{H:Hp}(ha:Ah P ty=some true)(hs:sz P ty=some n)(h:aB n x H=some v):wH P H ty x=some v:=by
 unfold aB at h;split at h
 ·rename_i i off;unfold wH;simp only[ha,hs,abY,acf,if_true];cases hc:av H i off n with
  |none=>rw[hc] at h;cases h
  |some l=>rw[hc] at h;cases h;rfl
 ·cases h
theorem Ol {P:Program}{t:Tm}{H:Hp}:∀(l:List ResultVar) (k:List AV->R) (r:AV×Hp),G3 P t H l k=some r->∃vs,xK P t H l=some vs/\k vs=some r
 |[],k,r,h=>⟨[],rfl,h⟩|.tmp x::l,k,r,h=>by unfold G3 at h;obtain⟨vs,h1,h2⟩:=Ol l _ r h;exact⟨_,by unfold xK;rw[h1],h2⟩
 |.cell a ty::l,k,r,h=>by
  unfold G3 at h;split at h;·rename_i n ha hs;obtain⟨v,q1,q2⟩:=fR h;obtain⟨vs,h1,h2⟩:=Ol l _ r q2;exact⟨_,by unfold xK;rw[aqE ha hs q1,h1],h2⟩
  ·rename_i q ha hs;obtain⟨v,q1,q2⟩:=fR h;obtain⟨vs,h1,h2⟩:=Ol l _ r q2;exact⟨_,by unfold xK;rw[axd hs q1,h1],h2⟩
  ·cases h
def NS (n:Nat)(args:List AV):Tm:=Tr.cz .nil 0 (args++List.replicate (n-args.length) bP)
noncomputable section
def asi (P:Program)(reg:vg)(cf:CF)(fn:Func)(an:An)(b:Code)(args:List AV)(H:Hp):R:=
 bD P reg cf fn.ntmps b an (λt H=>Fu P t H fn.results.toList) (λ_ _ _=>none) (λt H=>Fu P t H fn.results.toList) (NS fn.ntmps args) H
def Au (P:Program)(reg:vg)(ext:Nat->Option Ext)(bH:Nat->Option Prim)(an:Nat->An)(cf:CF):CF:=λg args H=>
 match g with
 |.func (.func aV) first cap=>
  match bH aV with
  |some p=>p (first++args++cap) H|none=>match P.funcs[aV]? with
   |some fn=>match fn.body with
    |some b=>bif Nat.ble (first++args++cap).length fn.ntmps&&Nat.blt fn.ntmps 4294967296&&(an aV).ok fn.ntmps then asi P reg cf fn (an aV) b (first++args++cap) H else none
    |none=>match ext aV with
     |some k=>Iq P k (first++args++cap) H|none=>none
   |none=>none
 |_=>none
def SK (P:Program)(reg:vg)(ext:Nat->Option Ext)(bH:Nat->Option Prim)(an:Nat->An):Nat->CF
 |0=>λ_ _ _=>none
 |k+1=>Au P reg ext bH an (SK P reg ext bH an k)
def CK (P:Program)(reg:vg)(ext:Nat->Option Ext)(bH:Nat->Option Prim)(an:Nat->An):CF:=λg args H=>lim λk=>SK P reg ext bH an k g args H
end
section
variable {P:Program}{reg:vg}{ext:Nat->Option Ext}{bH:Nat->Option Prim}{an:Nat->An}
section
variable {F:Nat->Prop}{H H':Hp}{W w:World}{cf:CF}{e:Em}{fn:Func}{g:AV}{l:List AV}{r:AV×Hp}
theorem anV (je:AN reg){du:Nat->CF}(h:wZ du cf):wZ (λk=>Au P reg ext bH an (du k)) (Au P reg ext bH an cf):=by
 intro g args H r hc;unfold Au at hc⊢;cases g<;>try (cases hc;done)
 rename_i fn first cap
 cases fn<;>try (cases hc;done)
 rename_i aV;simp only at hc⊢;cases hp:bH aV with
 |some p=>rw[hp] at hc;exact Ev.of λ_=>hc
 |none=>
  rw[hp] at hc;simp only at hc⊢;cases hf:P.funcs[aV]? with
  |none=>rw[hf] at hc;cases hc
  |some fn=>
   rw[hf] at hc;simp only at hc⊢;cases hb:fn.body with
   |none=>rw[hb] at hc;exact Ev.of λ_=>hc
   |some b=>
    rw[hb] at hc;simp only at hc⊢;cases hk:(Nat.ble (first++args++cap).length fn.ntmps&&Nat.blt fn.ntmps 4294967296&&(an aV).ok fn.ntmps) with
    |false=>rw[hk] at hc;cases hc
    |true=>
     rw[hk] at hc;simp only[cond_true] at hc⊢;have tY:∀(f:KN),Bk (λ_=>f) f:=λf t H r h=>Ev.of λ_=>h;exact Qv je b (an aV) du cf _ _ _ _ _ _ _ H r h (tY _) (λi=>tY _) (tY _) hc
theorem ake (je:AN reg):∀k,wZ (λ_=>SK P reg ext bH an (k+1)) (SK P reg ext bH an k)
 |0=>λg l H r h=>by cases h
 |k+1=>λg l H r h=>by obtain⟨k0,hk⟩:=anV (P:=P) (ext:=ext) (bH:=bH) (an:=an) je (ake je k) g l H r h;exact Ev.of λ_=>hk k0 (aaq _)
theorem Xs (je:AN reg):∀{j k:Nat},j<=k->SK P reg ext bH an j g l H=some r->SK P reg ext bH an k g l H=some r:=by
 intro j k hle h;induction hle with
 |refl=>exact h|step _ ih=>
  obtain⟨k0,hk⟩:=ake je _ g l H r ih;exact hk k0 (aaq _)
theorem aGp (je:AN reg)(j k:Nat)(r r':AV×Hp)(h:SK P reg ext bH an j g l H=some r)(h':SK P reg ext bH an k g l H=some r'):r=r':=by
 rcases Nat.le_total j k with q|q;·rw[Xs je q h] at h';exact ab0 h'
 ·have:=Xs je q h';rw[h] at this;exact ab0 this
theorem awe (je:AN reg):wZ (SK P reg ext bH an) (CK P reg ext bH an):=by intro g l H r h;obtain⟨k0,hk⟩:=Jf h;exact⟨k0,λk hle=>Xs je hle hk⟩
theorem Yg (je:AN reg)(h:Au P reg ext bH an (CK P reg ext bH an) g l H=some r):CK P reg ext bH an g l H=some r:=by obtain⟨k0,hk⟩:=anV (P:=P) (ext:=ext) (bH:=bH) (an:=an) je (awe je) g l H r h;exact R0 (L:=k0+1) (hk k0 (aaq _)) (λj k r r'=>aGp je j k r r')
theorem aFh (hm:P.follows .mixedOrders=true)(hN:qQ P)(hE:A7 P ext)(hP:xm P bH)(je:JP P reg)(hA:AF P an)(jb:wz P cf):wz P (Au P reg ext bH an cf):=by
 intro g args H v H' hc;unfold Au at hc;split at hc
 ·rename_i aV first cap
  refine⟨aV,first,cap,rfl,?_⟩;intro F W e w as' hR nX;split at hc;·rename_i p hp;exact .inr (hP aV p hp _ H v H' hc F W e w as' hR nX)
  ·split at hc
   ·rename_i fn hf;split at hc
    ·rename_i b hb;cases hle:(Nat.ble (first++args++cap).length fn.ntmps&&Nat.blt fn.ntmps 4294967296&&(an aV).ok fn.ntmps) with
     |false=>rw[hle] at hc;cases hc
     |true=>
     rw[hle] at hc;simp only[cond_true] at hc;rw[aam,aam,aeF,aeg] at hle;refine .inr ⟨AW hN hf hb as' w,?_⟩;have hlen:as'.size=(first++args++cap).length:=by have:=nX.1;simpa using this
     have hT:oM e fn.ntmps (NS fn.ntmps (first++args++cap)) {tmps:=as'++Array.replicate (fn.ntmps-as'.size) undef,defers:=[]}:=by
      have jj:((first++args++cap)++List.replicate (fn.ntmps-(first++args++cap).length) bP).length=fn.ntmps:=by rw[aah,afc];omega
      refine⟨⟨by simp;omega,λx=>?_⟩,λx hx=>?_⟩
      ·unfold NS;rw[Dc];simp only[adn,abg,true_and,agN,jj];by_cases hx:x<(first++args++cap).length;·rw[zz2 zzz,abi hx];have h1:(first++args++cap)[x]?=some (first++args++cap)[x]:=aai hx;obtain⟨v',h2,h3⟩:=nX.get h1;rw[h1,afK,afG,Array.getElem?_append_left zzz,<-aeq,h2];exact h3
       ·have hu:(as'++Array.replicate (fn.ntmps-as'.size) undef).getD x undef=undef:=by rw[afG,Array.getElem?_append_right zzz,Array.getElem?_replicate];split<;>rfl
        simp only[hu];split
        ·rw[abm zzz,alR];split;·exact VR.undef
         ·exact VR.undef
        ·rw[Tr.get_nil];exact VR.undef
      ·unfold NS;rw[Dc,jj,zz1 zzz,Tr.get_nil]
     refine calls_of_wp hf hb (aw3 hm je jb b (an aV) _ _ _ _ H (v,H') hle.2 (hA aV fn b hf hb) hc F W e _ w _ hR hT ?_ ?_ ?_);·intro e' a' w' t' H2 he bp cI hd hk;unfold Fu at hk;obtain⟨vs,vR,iw⟩:=Ol _ _ _ hk;cases iw;obtain⟨u,hu,jy⟩:=aaO bp cI.1 vR;exact⟨hd,u,hu,e',u,rfl,he,bp,jy⟩
     ·intro i e' a' w' t' H2 he bp cI hd hk;cases hk
     ·intro e' a' w' t' H2 he bp cI hd hk;unfold Fu at hk;obtain⟨vs,vR,iw⟩:=Ol _ _ _ hk;cases iw;obtain⟨u,hu,jy⟩:=aaO bp cI.1 vR;exact⟨hd,u,hu,e',u,rfl,he,bp,jy⟩
    ·rename_i hb;split at hc;·rename_i k hk;obtain⟨v',w',e',h1,h2,h3,h4⟩:=amF hR nX hc;refine .inl ⟨v',w',e',?_,h2,h3,h4⟩;rw[hE aV k hk,Sem.run_bind,h1];rfl
     ·cases hc
   ·cases hc
 ·cases hc
theorem afS (hm:P.follows .mixedOrders=true)(hN:qQ P)(hE:A7 P ext)(hP:xm P bH)(je:JP P reg)(hA:AF P an):∀k,wz P (SK P reg ext bH an k)
 |0=>λg args H v H' h=>by cases h
 |k+1=>aFh hm hN hE hP je hA (afS hm hN hE hP je hA k)
theorem aAp (hm:P.follows .mixedOrders=true)(hN:qQ P)(hE:A7 P ext)(hP:xm P bH)(je:JP P reg)(hA:AF P an):wz P (CK P reg ext bH an):=by intro g args H v H' h;obtain⟨k,hk⟩:=Jf h;exact afS hm hN hE hP je hA k g args H v H' hk
theorem atN (hm:P.follows .mixedOrders=true)(hN:qQ P)(hE:A7 P ext)(hP:xm P bH)(je:JP P reg)(hA:AF P an){g:Nat}{args:List AV}{v:AV}(h:CK P reg ext bH an (.func (.func g) [] []) args H=some (v,H')){b:Code}
  (hf:P.funcs[g]?=some fn) (hb:fn.body=some b) {as':Array Value} (hR:RH P.globals.size F W e H w) (ha:aR e args as'.toList):Calls P g as' w (IY P.globals.size F W e v H'):=by
 obtain⟨aV,first,cap,hg,hs⟩:=aAp hm hN hE hP je hA _ _ _ _ _ h;cases hg;rcases hs F W e w as' hR (by simpa using ha) with⟨v',w',e',h1,_⟩|⟨_,h2⟩;·rw[AW hN hf hb] at h1;cases h1
 ·exact h2
end
end
end K
end Go.Proofs.YtodfajmihkagnaaGreatDoor.Am
