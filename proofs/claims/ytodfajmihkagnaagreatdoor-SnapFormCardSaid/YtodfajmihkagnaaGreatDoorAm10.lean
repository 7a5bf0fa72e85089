/- Laws that the proof uses. -/
import Derived.Test.YtodfajmihkagnaaGreatDoorAm9
set_option linter.unusedVariables false
set_option linter.unusedSimpArgs false
namespace Go.Proofs.YtodfajmihkagnaaGreatDoor.Am
open Go.RowKit
section
section
section
def MJ (N:Nat):AV->Bool
 |.bool _|.int _ _|.str _|.db|.ah|.kP|.nilFunc|.nilIface=>true|.ptr i _=>Nat.blt i N|.iface _ v=>MJ N v|_=>false
def Gc (e:Em)(n:Nat->Nat)(N:Nat):Em:={b:=e.b,d:=e.d,n:=n,N:=N}
theorem VR.cut {e:Em}{n:Nat->Nat}{N:Nat}{v:AV}{v':Value}(h:VR e v v')(hs:MJ N v=true):VR (Gc e n N) v v':=by
 induction h with
 |bool b=>exact .bool b|int k z=>exact .int k z|str s=>exact .str s|db=>exact .db|ah=>exact .ah|kP=>exact .kP|nilFunc=>exact .nilFunc|nilIface=>exact .nilIface|ptr i off o hi ho=>
  have:i<N:=by simpa[MJ,aeI] using hs
  exact .ptr (e:=Gc e n N) i off o this ho
 |iface t v v' _ ih=>exact .iface t v v' (ih hs)|_=>cases hs
def Gh (H:Hp)(L:List (Nat×List AV)):Prop:=∃el:Nat->TypeId,∀g l,(g,l)∈L->H.h.get g=some (.cells (Tr.bZ .nil 0 l) 0 l.length (el g) 2)
noncomputable section
open Classical in
def Oy (L:List (Nat×List AV))(N:Nat):Prim:=λargs H=>if args=[]/\Gh H L/\N<=H.next then some (.bool true,H) else none
end
section
variable {F:Nat->Prop}{H:Hp}{L:List (Nat×List AV)}{N:Nat}{W w:World}{e:Em}{fn:Func}
theorem aEu {G:Nat}(hR:RH G F W e H w){el:Nat->TypeId}(hG:G<N)(hle:N<=H.next)
  (hL:∀g l,(g,l)∈L->g<G/\g<4294967296/\l.length<4294967296/\∀v∈l,MJ N v=true) (hT:∀g l,(g,l)∈L->H.h.get g=some (.cells (Tr.bZ .nil 0 l) 0 l.length (el g) 2)):
  RH G (λk=>k<w.heap.size) w (Gc e (λi=>if i=G then w.heap.size else e.n i) N) ⟨tI el L,N⟩ w:=by
 have key:∀i o,(tI el L).get i=some o->i<G/\H.h.get i=some o/\∃l,(i,l)∈L/\o=.cells (Tr.bZ .nil 0 l) 0 l.length (el i) 2:=by intro i o h;obtain⟨l,hm,rfl⟩:=Uy _ L (λx hx=>(hL x.1 x.2 hx).2.1) i o h;exact⟨(hL i l hm).1,hT i l hm,l,hm,rfl⟩
 refine⟨rfl,?_,?_,?_,λk hk=>⟨hk,rfl⟩,rfl,rfl,rfl,aaC _,hR.nL.1,hG,by simp[Gc]⟩
 ·intro i o h;obtain⟨hi,hg,l,hm,rfl⟩:=key i o h;obtain⟨_,ob,eN,eT,_⟩:=hR.obj i _ hg;refine⟨Nat.lt_trans hi hG,ob,eN,?_,?_⟩
  ·obtain⟨_,_,hl,hs⟩:=hL i l hm;cases eT with
   |cells _ _ _ _ _ C fz hn ka h0 h1 hd=>
    refine .cells _ 0 l.length _ 2 C fz ?_ ?_ zzy zzy hd;·simp only[Gc];rw[zz1 zzz];exact hn
    ·intro k v a b hk;obtain⟨k',h2,v',h3,h4⟩:=ka k v a b hk;refine⟨k',h2,v',h3,?_⟩;have hv:v∈l:=by rw[Tr.IB (α:=AV) .nil _ _ _ _ zzz,zz2 zzz,aij] at hk;exact aad hk
     exact h4.cut (hs v hv)
  ·intro q hF;rcases q with q|q;·cases q
   ·simp[Gc] at q;have:=(adh.1 eN).1;omega
 ·intro i j oi oj h1 h2 hq e;obtain⟨hi,hg,l,hm,rfl⟩:=key i oi h1;obtain⟨_,ob,eN,eT,_⟩:=hR.obj i _ hg;rcases hq with q|q;·cases q
  ·simp[Gc] at q;have:=(adh.1 eN).1;omega
 ·intro g hg;obtain⟨a,b,c⟩:=hR.ub g hg;exact⟨Nat.lt_trans hg hG,b,c⟩
theorem ayh {P:Program}{ext:Nat->Option Ext}{bE:Nat->Option Prim}(hm:P.follows .mixedOrders=true)(hN:qg P)(hE:Aw P ext)(hP:wB P bE){fuel g:Nat}{b:Code}
  (hf:P.funcs[g]?=some fn) (hb:fn.body=some b) (hG:P.globals.size<N) (hL:∀g l,(g,l)∈L->g<P.globals.size/\g<4294967296/\l.length<4294967296/\∀v∈l,MJ N v=true)
  (h:∀el,Rg (PN P ext bE fuel g [] ⟨tI el L,N⟩)=true):Cf P g (Oy L N):=by
 intro args H v H' hp F W e w as' hR nz;unfold Oy at hp;split at hp
 ·rename_i hc;obtain⟨rfl,⟨el,hT⟩,hle⟩:=hc;cases hp;have has:as'=#[]:=by have:=nz.lH;cases as';simp_all
  subst has;refine⟨Aq hN hf hb #[] w,?_⟩;refine (aEY hm hN hE hP hf hb (h el) (aEu hR hG hle hL hT)).mono λen w' ⟨h1,h2⟩=>?_;exact⟨e,_,h1,e.le_refl,hR.below h2,.bool true⟩
 ·cases hp
end
end
namespace K
abbrev R:=Option (AV×Hp)
def B1 {α:Type}(o:Option α)(k:α->R):R:=match o with|some v=>k v|none=>none
def B2 (o:Option (AV×Hp))(k:AV->Hp->R):R:=match o with|some p=>k p.1 p.2|none=>none
section
variable {r:AV×Hp}
theorem fG {α:Type}{o:Option α}{k:α->R}(h:B1 o k=some r):∃v,o=some v/\k v=some r:=by
 cases o with
 |none=>cases h
 |some v=>exact⟨v,rfl,h⟩
theorem wP {o:Option (AV×Hp)}{k:AV->Hp->R}(h:B2 o k=some r):∃v H,o=some (v,H)/\k v H=some r:=by
 cases o with
 |none=>cases h
 |some p=>exact⟨p.1,p.2,rfl,h⟩
def ld (x:AV)(H:Hp):Option AV:=match x with|.ptr i o=>cellAt H i o|_=>none
def aB (n:Nat)(x:AV)(H:Hp):Option AV:=match x with|.ptr i o=>(au H i o n).map .agg|_=>none
def BN (o:Option (Nat×Hp))(k:Nat->Hp->R):R:=match o with|some p=>k p.1 p.2|none=>none
theorem Rb {o:Option (Nat×Hp)}{k:Nat->Hp->R}(h:BN o k=some r):∃i H,o=some (i,H)/\k i H=some r:=by
 cases o with
 |none=>cases h
 |some p=>exact⟨p.1,p.2,rfl,h⟩
def xT (b:Bool)(x:R):R:=bif b then x else none
@[reducible] def Fn:Nat->Type
 |0=>Hp->R|m+1=>AV->Fn m
def app:(m:Nat)->Fn m->List AV->Hp->R
 |0,f,l,H=>match l with|[]=>f H|_::_=>none
 |m+1,f,l,H=>match l with|[]=>none|x::l=>app m (f x) l H
def abs:(m:Nat)->(List AV->Hp->R)->Fn m
 |0,g=>λH=>g [] H
 |m+1,g=>λx=>abs m (λl=>g (x::l))
theorem J1:∀(m:Nat) (g:List AV->Hp->R) (l:List AV) (H:Hp),l.length=m->app m (abs m g) l H=g l H
 |0,g,[],H,_=>rfl|0,g,_::_,H,h=>by simp at h
 |m+1,g,[],H,h=>by simp at h
 |m+1,g,x::l,H,h=>J1 m (λl=>g (x::l)) l H (by simpa using h)
def JN (m:Nat)(f:Fn m->R)(k:Fn m):R:=f k
end
noncomputable section
open Classical in
def lim (f:Nat->R):R:=if h:∃r L,f L=some r then some h.choose else none
section
variable {f:Nat->R}{r:AV×Hp}
theorem Ii (h:lim f=some r):∃L,f L=some r:=by
 unfold lim at h;split at h;·rename_i q;rw[<-ac0 h];exact q.choose_spec
 ·cases h
theorem Qr {L:Nat}(h:f L=some r)(hu:∀L L' r r',f L=some r->f L'=some r'->r=r'):lim f=some r:=by have q:∃r L,f L=some r:=⟨r,L,h⟩;unfold lim;rw[dif_pos q];obtain⟨L',VI⟩:=q.choose_spec;rw[hu L' L _ _ VI h]
def jB (m:Nat)(B:Fn m->Fn m):Nat->Fn m
 |0=>abs m (λ_ _=>none)|L+1=>B (jB m B L)
def LP (m:Nat)(B:Fn m->Fn m):Fn m:=abs m (λl H=>lim (λL=>app m (jB m B L) l H))
end
end
def CD (c:AV)(x y:R):R:=match c with|.bool q=>bif q then x else y|_=>none
def aI (lv:List Nat)(t:Tm):List AV:=lv.map λd=>(t.get d).getD bP
theorem IJ (lv:List Nat)(t:Tm):(aI lv t).length=lv.length:=by simp[aI]
def ZD:List Nat->List AV->Tm->Tm
 |d::lv,v::l,t=>ZD lv l (t.put 34 d v)|_,_,t=>t
def cJ (n:Nat)(lv:List Nat)(l:List AV):Tm:=ZD lv l (Tr.bZ .nil 0 (List.replicate n .du))
inductive An where
 |nl
 |sq (j:Option (List Nat)) (a b:An)
 |cd (a b:An)
 |bl (j:Option (List Nat)) (a:An)
 |lp (lv:List Nat) (a:An)
 |pr (lv:List Nat) (p:Tm->Hp->Option Hp)
abbrev KN:=Tm->Hp->R
abbrev uy:=CF->Nat->Array Oper->Bool->Tm->Hp->KN->R
noncomputable section
variable (P:Program)(reg:uy)
def bw (cf:CF)(n:Nat):Code->An->KN->(Nat->KN)->KN->KN
 |.skip,_,kn,_,_=>kn|.label _,_,kn,_,_=>kn|.seq a b,an,kn,ke,kr=>match an with
  |.sq none x y=>bw cf n a x (bw cf n b y kn ke kr) ke kr|.sq (some lv) x y=>λt H=>JN lv.length (λk=>bw cf n a x (λt H=>app lv.length k (aI lv t) H) ke kr t H) (abs lv.length λl H=>bw cf n b y kn ke kr (cJ n lv l) H)
  |.pr lv p=>λt H=>B1 (p t H) λH=>kn (cJ n lv (aI lv t)) H
  |_=>λ_ _=>none
 |.cond c a b,an,kn,ke,kr=>match an with
  |.cd x y=>λt H=>CD (ev P.globals.size t c) (bw cf n a x kn ke kr t H) (bw cf n b y kn ke kr t H)
  |_=>λ_ _=>none
 |.block i b,an,kn,ke,kr=>match an with
  |.bl none x=>bw cf n b x kn (λj t H=>bif Nat.beq j i then kn t H else ke j t H) kr|.bl (some lv) x=>λt H=>JN lv.length (λk=>bw cf n b x (λt H=>app lv.length k (aI lv t) H) (λj t H=>bif Nat.beq j i then app lv.length k (aI lv t) H else ke j t H) kr t H) (abs lv.length λl H=>kn (cJ n lv l) H)
  |_=>λ_ _=>none
 |.loop b,an,kn,ke,kr=>match an with
  |.lp lv x=>λt H=>app lv.length (LP lv.length (λk=>abs lv.length λl H=>bw cf n b x (λt H=>app lv.length k (aI lv t) H) ke kr (cJ n lv l) H)) (aI lv t) H
  |_=>λ_ _=>none
 |.exit i,_,_,ke,_=>ke i|.ret,_,_,_,kr=>kr|.region _ ops d,_,kn,_,_=>λt H=>reg cf n ops d t H kn
 |_,_,_,_,_=>λ_ _=>none
end
def IV (P:Program)(reg:uy):Prop:=
 ∀(cf:CF) (n:Nat) (ops:Array Oper) (d:Bool) (t:Tm) (H:Hp) (k:KN) (r:AV×Hp),reg cf n ops d t H k=some r->
  ∃t' H',(bif d then EP P cf n ops t H else vl P cf n ops ops.toList t H)=some (t',H')/\k t' H'=some r
def oQ (e:Em)(n:Nat)(t:Tm)(a:Act):Prop:=TR e n t a/\∀d,n<=d->t.get d=none
theorem Co {α:Type}:∀(l:List α) (t:Tr α) (n m:Nat),(t.bZ n l).get m=if n<=m/\m<n+l.length then l[m-n]? else t.get m
 |[],t,n,m=>by rw[zz1 (by simp only[acU];omega)];rfl
 |x::l,t,n,m=>by
  rw[Tr.bZ,Co l,Tr.put,Tr.gw];by_cases h1:m=n;·subst h1;rw[zz1 zzz,zz2 rfl,zz2 zzy];simp
  ·by_cases h2:n+1<=m/\m<n+1+l.length;·rw[zz2 h2,zz2 (by simp;omega)];have:m-n=(m-(n+1))+1:=zzz;rw[this,adr]
   ·rw[zz1 h2,zz1 h1,zz1 (by simp;omega)]
theorem ZF:∀(lv:List Nat) (l:List AV) (t:Tm) (d:Nat) (p:Option AV->Prop),(∀(x:Nat) (v:AV),x∈lv->(∃i:Nat,lv[i]?=some x/\l[i]?=some v)->x=d->p (some v))->p (t.get d)->p ((ZD lv l t).get d)
 |[],l,t,d,p,_,h=>by cases l<;>exact h
 |x::lv,[],t,d,p,_,h=>h|x::lv,v::l,t,d,p,hp,h=>by
  refine ZF lv l (t.put 34 x v) d p (λy u hy ⟨i,h1,h2⟩ he=>hp y u (.tail _ hy) ⟨i+1,by simpa using h1,by simpa using h2⟩ he) ?_;rw[Tr.put,Tr.gw];by_cases hd:d=x;·rw[zz2 hd];exact hp x v (.head _) ⟨0,rfl,rfl⟩ hd.symm
  ·rw[zz1 hd];exact h
theorem oQ.Bg {e:Em}{n:Nat}{t:Tm}{a:Act}(h:oQ e n t a){lv:List Nat}(F9:∀d∈lv,d<n):oQ e n (cJ n lv (aI lv t)) a:=by
 refine⟨⟨h.1.size,λd=>?_⟩,λd hd=>?_⟩
 ·unfold cJ;refine ZF lv (aI lv t) _ d (λo=>VR e (o.getD bP) (a.tmps.getD d undef)) ?_ ?_;·rintro x v _ ⟨i,h1,h2⟩ rfl;unfold aI at h2;rw[acV,h1] at h2;cases h2;exact h.1.val x
  ·rw[Co];split;·rename_i q;rw[anf];simp only[agK,ad0] at q;rw[zz2 zzz];exact .du _
   ·rename_i q;simp only[agK,ad0,abz,true_and,Nat.not_lt] at q;rw[Tr.get_nil];have:=h.1.val d;rw[h.2 d q] at this;exact this
 ·unfold cJ;refine ZF lv (aI lv t) _ d (λo=>o=none) ?_ ?_;·intro x v hx _ he;have:=F9 x hx;omega
  ·rw[Co,zz1 (by simp;omega),Tr.get_nil]
def An.ok (n:Nat):An->Bool
 |.nl=>true|.sq j a b=>(j.getD []).all (λd=>Nat.blt d n)&&a.ok n&&b.ok n|.cd a b=>a.ok n&&b.ok n|.bl j a=>(j.getD []).all (λd=>Nat.blt d n)&&a.ok n|.lp lv a=>lv.all (λd=>Nat.blt d n)&&a.ok n|.pr lv _=>lv.all (λd=>Nat.blt d n)
theorem UI {n:Nat}{lv:List Nat}(h:lv.all (λd=>Nat.blt d n)=true):∀d∈lv,d<n:=λd hd=>by have:=aeh.1 h d hd;rwa[aeI] at this
end K
end
namespace K
variable {P:Program}{reg:uy}
theorem Io {n:Nat}{dst:Option Tmp}{v:AV}{t t':Tm}(h:iU n dst v t=some t')(ht:∀d,n<=d->t.get d=none):∀d,n<=d->t'.get d=none:=by
 intro d hd;unfold iU at h;split at h;·cases h;exact ht d hd
 ·rename_i x;cases hb:(Nat.blt x n&&Nat.blt x 4294967296) with
  |false=>rw[hb] at h;cases h
  |true=>
   rw[hb] at h;cases h;simp only[aaA,aeI] at hb;rw[Tr.put,Tr.gw,zz1 zzz];exact ht d hd
theorem WY {cf:CF}{n:Nat}{ops:Array Oper}:∀(l:List Oper) (t t':Tm) (H H':Hp),vl P cf n ops l t H=some (t',H')->(∀d,n<=d->t.get d=none)->∀d,n<=d->t'.get d=none
 |[],t,t',H,H',h,ht=>by cases h;exact ht
 |o::l,t,t',H,H',h,ht=>by
  unfold vl at h;split at h
  ·split at h
   ·split at h;·rename_i t1 hp;exact WY l _ _ _ _ h (Io hp ht)
    ·cases h
   ·cases h
  ·split at h;·rename_i t1 hp;exact WY l _ _ _ _ h (Io hp ht)
   ·cases h
  ·cases h
theorem JK {cf:CF}{n:Nat}{ops:Array Oper}:∀(l:List Oper) (i:Nat) (bs:List Nat) (tp te:Tm) (hb h:Hp) (s:List lD) (t':Tm) (H':Hp),mL P cf n ops i l bs tp te hb h=some (s,t',H')->(∀d,n<=d->te.get d=none)->∀d,n<=d->t'.get d=none
 |[],i,bs,tp,te,hb,h,s,t',H',hr,ht=>by unfold mL at hr;cases hr;exact ht
 |o::l,i,[],tp,te,hb,h,s,t',H',hr,ht=>by unfold mL at hr;cases hr
 |o::l,i,b::bs,tp,te,hb,h,s,t',H',hr,ht=>by
  unfold mL at hr;split at hr
  ·split at hr
   ·split at hr
    ·split at hr;·rename_i h1 h2;simp only[aal] at hr;obtain⟨⟨s2,t2,H2⟩,h3,h4⟩:=hr;cases h4;exact JK l _ _ _ _ _ _ _ _ _ h3 (Io h2 ht)
     ·cases hr
    ·cases hr
   ·split at hr
    ·split at hr;·rename_i h1 h2;simp only[aal] at hr;obtain⟨⟨s2,t2,H2⟩,h3,h4⟩:=hr;cases h4;exact JK l _ _ _ _ _ _ _ _ _ h3 (Io h2 ht)
     ·cases hr
    ·cases hr
   ·split at hr
    ·split at hr;·rename_i h1 h2;simp only[aal] at hr;obtain⟨⟨s2,t2,H2⟩,h3,h4⟩:=hr;cases h4;exact JK l _ _ _ _ _ _ _ _ _ h3 (Io h2 ht)
     ·cases hr
    ·cases hr
  ·split at hr;·rename_i h1 h2;simp only[aal] at hr;obtain⟨⟨s2,t2,H2⟩,h3,h4⟩:=hr;cases h4;exact JK l _ _ _ _ _ _ _ _ _ h3 (Io h2 ht)
   ·cases hr
  ·cases hr
theorem aDt {cf:CF}{n:Nat}{ops:Array Oper}{d:Bool}{t t':Tm}{H H':Hp}(h:(bif d then EP P cf n ops t H else vl P cf n ops ops.toList t H)=some (t',H'))(ht:∀x,n<=x->t.get x=none):∀x,n<=x->t'.get x=none:=by
 cases d with
 |false=>exact WY _ _ _ _ _ h ht|true=>
  simp only[cond_true] at h;unfold EP at h;cases hr:z6 ops with
  |false=>rw[hr] at h;cases h
  |true=>
   rw[hr] at h;simp only[cond_true] at h;split at h
   ·rename_i l t1 H1 mg;cases hd:E9 P l with
    |false=>rw[hd] at h;cases h
    |true=>
     rw[hd] at h;cases h;exact JK _ _ _ _ _ _ _ _ _ _ mg ht
   ·cases h
def Dg (P:Program)(r:AV×Hp)(F:Nat->Prop)(W:World)(n:Nat)(e:Em)(ds:List Deferred)(kn:KN)(ex:Exit)(Q:Exit->Act->World->Prop):Prop:=
 ∀e' a' w' t' H',e.le e'->RH P.globals.size F W e' H' w'->oQ e' n t' a'->a'.defers=ds->kn t' H'=some r->Q ex a' w'
theorem Dg.mono {r:AV×Hp}{F:Nat->Prop}{W:World}{n:Nat}{e e2:Em}{ds:List Deferred}{kn:KN}{ex:Exit}{Q:Exit->Act->World->Prop}(h:Dg P r F W n e ds kn ex Q)(he:e.le e2):Dg P r F W n e2 ds kn ex Q:=
 λe' a' w' t' H' h1=>h e' a' w' t' H' (Em.le_trans he h1)
theorem qB {m n:Nat}{lv:List Nat}{k:List AV->Hp->R}{t:Tm}{H:Hp}(hm:lv.length=m):app m (abs m k) (aI lv t) H=k (aI lv t) H:=J1 m k _ H (by rw[IJ];exact hm)
def aAz (P:Program)(n:Nat)(c:Code)(lv:List Nat)(p:Tm->Hp->Option Hp):Prop:=
 ∀t H H2,p t H=some H2->∀(F:Nat->Prop) (W:World) (e:Em) (a:Act) (w:World) (Q:Exit->Act->World->Prop),RH P.globals.size F W e H w->oQ e n t a->
  (∀e' a' w',e.le e'->RH P.globals.size F W e' H2 w'->oQ e' n (cJ n lv (aI lv t)) a'->a'.defers=a.defers->Q .normal a' w')->c.wp P Q a w
def oU (P:Program)(n:Nat):Code->An->Prop
 |.seq a b,an=>match an with|.sq _ x y=>oU P n a x/\oU P n b y|.pr lv p=>aAz P n (.seq a b) lv p|_=>True
 |.cond _ a b,an=>match an with|.cd x y=>oU P n a x/\oU P n b y|_=>True
 |.block _ b,an=>match an with|.bl _ x=>oU P n b x|_=>True
 |.loop b,an=>match an with|.lp _ x=>oU P n b x|_=>True
 |_,_=>True
def An.plain:An->Bool
 |.nl=>true|.sq _ a b=>a.plain&&b.plain|.cd a b=>a.plain&&b.plain|.bl _ a=>a.plain|.lp _ a=>a.plain|.pr _ _=>false
theorem oU.plain (P:Program)(n:Nat):∀(c:Code) (an:An),an.plain=true->oU P n c an:=by
 intro c;induction c with
 |seq a b ia ib=>
  intro an h;unfold oU;cases an with
  |sq j x y=>simp only[An.plain,aaA] at h;exact⟨ia x h.1,ib y h.2⟩|pr lv p=>cases h
  |_=>trivial
 |cond q a b ia ib=>
  intro an h;unfold oU;cases an with
  |cd x y=>simp only[An.plain,aaA] at h;exact⟨ia x h.1,ib y h.2⟩|_=>trivial
 |block i b ib=>
  intro an h;unfold oU;cases an with
  |bl j x=>exact ib x h|_=>trivial
 |loop b ib=>
  intro an h;unfold oU;cases an with
  |lp lv x=>exact ib x h|_=>trivial
 |_=>intro an h;unfold oU;trivial
def z8 (P:Program)(an:Nat->An):Prop:=∀aU fn b,P.funcs[aU]?=some fn->fn.body=some b->oU P fn.ntmps b (an aU)
theorem z8.plain {P:Program}{an:Nat->An}(h:∀g,(an g).plain=true):z8 P an:=λaU fn b _ _=>oU.plain P fn.ntmps b (an aU) (h aU)
def On:List (Nat×An)->Nat->An
 |[],_=>.nl|p::r,g=>bif Nat.beq g p.1 then p.2 else On r g
theorem afW {P:Program}:∀{l:List (Nat×An)},(∀p∈l,p.2.plain=true\/∀fn b,P.funcs[p.1]?=some fn->fn.body=some b->oU P fn.ntmps b p.2)->z8 P (On l)
 |[],h=>z8.plain λ_=>rfl
 |p::r,h=>by
  intro aU fn b h1 h2;show oU P fn.ntmps b (bif Nat.beq aU p.1 then p.2 else On r aU);cases hb:Nat.beq aU p.1 with
  |true=>
   obtain rfl:=abx hb;rcases h p (.head _) with q|q;·exact oU.plain P _ _ _ q
   ·exact q fn b h1 h2
  |false=>exact afW (λq hq=>h q (.tail _ hq)) aU fn b h1 h2
theorem auG (hm:P.follows .mixedOrders=true)(iN:IV P reg){cf:CF}(iM:xm P cf){n:Nat}:∀(c:Code) (an:An) (kn:KN) (ke:Nat->KN) (kr:KN) (t:Tm) (H:Hp) (r:AV×Hp),an.ok n=true->oU P n c an->bw P reg cf n c an kn ke kr t H=some r->
  ∀(F:Nat->Prop) (W:World) (e:Em) (a:Act) (w:World) (Q:Exit->Act->World->Prop),RH P.globals.size F W e H w->oQ e n t a->
   Dg P r F W n e a.defers kn .normal Q->(∀i,Dg P r F W n e a.defers (ke i) (.exit i) Q)->Dg P r F W n e a.defers kr .ret Q->c.wp P Q a w:=by
 intro c;induction c with
 |skip=>
  intro an kn ke kr t H r ha oV hc F W e a w Q hR hT gT mV mT;unfold bw at hc;exact wp_skip (gT e a w t H e.le_refl hR hT rfl hc)
 |label l=>
  intro an kn ke kr t H r ha oV hc F W e a w Q hR hT gT mV mT;unfold bw at hc;exact wp_label (gT e a w t H e.le_refl hR hT rfl hc)
 |seq c1 c2 i1 i2=>
  intro an kn ke kr t H r ha oV hc F W e a w Q hR hT gT mV mT;unfold bw at hc;split at hc
  ·rename_i x y;refine wp_seq ?_;simp only[An.ok,aaA] at ha;refine i1 x _ _ _ t H r ha.1.2 oV.1 hc F W e a w _ hR hT ?_ ?_ ?_
   ·intro e' a' w' t' H' he bg cq hd hk;refine i2 y _ _ _ t' H' r ha.2 oV.2 hk F W e' a' w' Q bg cq ?_ ?_ ?_;·rw[hd];exact gT.mono he
    ·intro i;rw[hd];exact (mV i).mono he
    ·rw[hd];exact mT.mono he
   ·intro i e' a' w' t' H' he bg cq hd hk;exact mV i e' a' w' t' H' he bg cq hd hk
   ·intro e' a' w' t' H' he bg cq hd hk;exact mT e' a' w' t' H' he bg cq hd hk
  ·rename_i lv x y;refine wp_seq ?_;simp only[An.ok,aaA,ahr] at ha;have F9:=UI ha.1.1;unfold JN at hc;refine i1 x _ _ _ t H r ha.1.2 oV.1 hc F W e a w _ hR hT ?_ ?_ ?_
   ·intro e' a' w' t' H' he bg cq hd hk
    replace hk:=(qB (n:=n) rfl).symm.trans hk
    refine i2 y _ _ _ _ H' r ha.2 oV.2 hk F W e' a' w' Q bg (cq.Bg F9) ?_ ?_ ?_;·rw[hd];exact gT.mono he
    ·intro i;rw[hd];exact (mV i).mono he
    ·rw[hd];exact mT.mono he
   ·intro i e' a' w' t' H' he bg cq hd hk;exact mV i e' a' w' t' H' he bg cq hd hk
   ·intro e' a' w' t' H' he bg cq hd hk;exact mT e' a' w' t' H' he bg cq hd hk
  ·rename_i lv p;obtain⟨H2,h1,h2⟩:=fG hc;exact oV t H H2 h1 F W e a w Q hR hT λe' a' w' he bg cq hd=>gT e' a' w' _ H2 he bg cq hd h2
  ·cases hc
 |cond x c1 c2 i1 i2=>
  intro an kn ke kr t H r ha oV hc F W e a w Q hR hT gT mV mT;unfold bw at hc;split at hc
  ·rename_i y z;simp only[An.ok,aaA] at ha;unfold CD at hc;split at hc
   ·rename_i b hb;have hv:=VR.ev hR hT.1 x;rw[hb] at hv;refine wp_cond hv.yu ?_;cases b with
    |true=>exact i1 y _ _ _ t H r ha.1 oV.1 hc F W e a w Q hR hT gT mV mT|false=>exact i2 z _ _ _ t H r ha.2 oV.2 hc F W e a w Q hR hT gT mV mT
   ·cases hc
  ·cases hc
 |block i b ib=>
  intro an kn ke kr t H r ha oV hc F W e a w Q hR hT gT mV mT;unfold bw at hc;refine wp_block ?_;have inb:∀(j:Nat) (e':Em) (a':Act) (w':World) (t':Tm) (H':Hp) (q:KN),e.le e'->RH P.globals.size F W e' H' w'->oQ e' n t' a'->a'.defers=a.defers->
    (∀e' a' w' t' H',e.le e'->RH P.globals.size F W e' H' w'->oQ e' n t' a'->a'.defers=a.defers->q t' H'=some r->Q .normal a' w')->
    (bif Nat.beq j i then q t' H' else ke j t' H')=some r->Exit.inBlock i Q (.exit j) a' w':=by
   intro j e' a' w' t' H' q he bg cq hd hq hk;show (if j=i then Q .normal a' w' else Q (.exit j) a' w');cases hj:Nat.beq j i with
   |true=>
    rw[hj] at hk;rw[zz2 (abx hj)];exact hq e' a' w' t' H' he bg cq hd hk
   |false=>
    rw[hj] at hk;rw[zz1 (λq=>by rw[q,aju] at hj;cases hj)];exact mV j e' a' w' t' H' he bg cq hd hk
  split at hc
  ·rename_i x;simp only[An.ok,aaA] at ha;refine ib x _ _ _ t H r ha.2 oV hc F W e a w _ hR hT ?_ ?_ ?_;·intro e' a' w' t' H' he bg cq hd hk;exact gT e' a' w' t' H' he bg cq hd hk
   ·intro j e' a' w' t' H' he bg cq hd hk;exact inb j e' a' w' t' H' kn he bg cq hd gT hk
   ·intro e' a' w' t' H' he bg cq hd hk;exact mT e' a' w' t' H' he bg cq hd hk
  ·rename_i lv x;simp only[An.ok,aaA,ahr] at ha;have F9:=UI ha.1;unfold JN at hc;have hj:∀e' a' w' t' H',e.le e'->RH P.globals.size F W e' H' w'->oQ e' n t' a'->a'.defers=a.defers->app lv.length (abs lv.length λl H=>kn (cJ n lv l) H) (aI lv t') H'=some r->Q .normal a' w':=by
    intro e' a' w' t' H' he bg cq hd hk
    replace hk:=(qB (n:=n) rfl).symm.trans hk
    exact gT e' a' w' _ H' he bg (cq.Bg F9) hd hk
   refine ib x _ _ _ t H r ha.2 oV hc F W e a w _ hR hT ?_ ?_ ?_;·intro e' a' w' t' H' he bg cq hd hk;exact hj e' a' w' t' H' he bg cq hd hk
   ·intro j e' a' w' t' H' he bg cq hd hk;exact inb j e' a' w' t' H' (λt H=>app lv.length (abs lv.length λl H=>kn (cJ n lv l) H) (aI lv t) H) he bg cq hd hj hk
   ·intro e' a' w' t' H' he bg cq hd hk;exact mT e' a' w' t' H' he bg cq hd hk
  ·cases hc
 |loop b ib=>
  intro an kn ke kr t H r ha oV hc F W e a w Q hR hT gT mV mT;unfold bw at hc;split at hc
  ·rename_i lv x;simp only[An.ok,aaA] at ha;have F9:=UI ha.1;unfold LP at hc
   replace hc:=(qB (n:=n) rfl).symm.trans hc
   obtain⟨L,hL⟩:=Ii hc;refine ai5 ?_;have key:∀(L:Nat) (e:Em) (a:Act) (w:World) (t:Tm) (H:Hp),app lv.length (jB lv.length (λk=>abs lv.length λl H=>bw P reg cf n b x (λt H=>app lv.length k (aI lv t) H) ke kr (cJ n lv l) H) L) (aI lv t) H=some r->
     RH P.globals.size F W e H w->oQ e n t a->(∀i,Dg P r F W n e a.defers (ke i) (.exit i) Q)->Dg P r F W n e a.defers kr .ret Q->Ee P b Q a w:=by
    intro L;induction L with
    |zero=>
     intro e a w t H hq _ _ _ _
     replace hq:=(qB (m:=lv.length) (n:=n) (k:=λ_ _=>none) rfl).symm.trans hq
     cases hq
    |succ L ih=>
     intro e a w t H hq hR hT mV mT
     replace hq:=(qB (m:=lv.length) (n:=n) (k:=λl H=>bw P reg cf n b x (λt H=>app lv.length (jB lv.length (λk=>abs lv.length λl H=>bw P reg cf n b x (λt H=>app lv.length k (aI lv t) H) ke kr (cJ n lv l) H) L) (aI lv t) H) ke kr (cJ n lv l) H) rfl).symm.trans hq
     refine acK ?_;refine ib x _ _ _ _ H r ha.2 oV hq F W e a w _ hR (hT.Bg F9) ?_ ?_ ?_
     ·intro e' a' w' t' H' he bg cq hd hk;refine ih e' a' w' t' H' hk bg cq ?_ ?_;·intro i;rw[hd];exact (mV i).mono he
      ·rw[hd];exact mT.mono he
     ·intro i e' a' w' t' H' he bg cq hd hk;exact mV i e' a' w' t' H' he bg cq hd hk
     ·intro e' a' w' t' H' he bg cq hd hk;exact mT e' a' w' t' H' he bg cq hd hk
   exact key L e a w t H hL hR hT mV mT
  ·cases hc
 |exit i=>
  intro an kn ke kr t H r ha oV hc F W e a w Q hR hT gT mV mT;unfold bw at hc;exact wp_exit (mV i e a w t H e.le_refl hR hT rfl hc)
 |ret=>
  intro an kn ke kr t H r ha oV hc F W e a w Q hR hT gT mV mT;unfold bw at hc;exact wp_ret (mT e a w t H e.le_refl hR hT rfl hc)
 |region id ops d=>
  intro an kn ke kr t H r ha oV hc F W e a w Q hR hT gT mV mT;unfold bw at hc;obtain⟨t1,H1,h1,h2⟩:=iN cf n ops d t H kn r hc;have kW:=aDt h1 hT.2;have fin:∀e' a' w',e.le e'->RH P.globals.size F W e' H1 w'->TR e' n t1 a'->a'.defers=a.defers->Q .normal a' w':=λe' a' w' he bg cq hd=>gT e' a' w' t1 H1 he bg ⟨cq,kW⟩ hd h2;cases d with
  |true=>exact ahY hm iM h1 hR hT.1 fin|false=>
   refine wp_region ?_;have:=abD (Q:=Q) iM ops.toList 0 t H e a w zzy h1 hR hT.1 fin;rw[List.range_eq_range'];simpa using this
 |_=>
  intro an kn ke kr t H r ha oV hc;unfold bw at hc;cases hc
def Ev (p:Nat->Prop):Prop:=∃k0,∀k,k0<=k->p k
theorem Ev.of {p:Nat->Prop}(h:∀k,p k):Ev p:=⟨0,λk _=>h k⟩
def wh (f:Nat->CF)(g:CF):Prop:=∀x l H r,g x l H=some r->Ev λk=>f k x l H=some r
def AI (f:Nat->KN)(g:KN):Prop:=∀t H r,g t H=some r->Ev λk=>f k t H=some r
def Ah (reg:uy):Prop:=∀(dd:Nat->CF) (cf:CF) (mK:Nat->KN) (kn:KN) (n:Nat) (ops:Array Oper) (d:Bool) (t:Tm) (H:Hp) (r:AV×Hp),wh dd cf->AI mK kn->reg cf n ops d t H kn=some r->Ev λk=>reg (dd k) n ops d t H (mK k)=some r
theorem Pe (iN:Ah reg){n:Nat}:∀(c:Code) (an:An) (dd:Nat->CF) (cf:CF) (mK:Nat->KN) (kn:KN) (nF:Nat->Nat->KN) (ke:Nat->KN) (mE:Nat->KN) (kr:KN) (t:Tm) (H:Hp) (r:AV×Hp),
  wh dd cf->AI mK kn->(∀i,AI (λk=>nF k i) (ke i))->AI mE kr->bw P reg cf n c an kn ke kr t H=some r->Ev λk=>bw P reg (dd k) n c an (mK k) (nF k) (mE k) t H=some r:=by
 intro c;induction c with
 |skip=>intro an dd cf mK kn nF ke mE kr t H r h1 h2 h3 h4 hc;unfold bw at hc⊢;exact h2 t H r hc|label l=>intro an dd cf mK kn nF ke mE kr t H r h1 h2 h3 h4 hc;unfold bw at hc⊢;exact h2 t H r hc|seq c1 c2 i1 i2=>
  intro an dd cf mK kn nF ke mE kr t H r h1 h2 h3 h4 hc;unfold bw at hc⊢;cases an with
  |sq j x y=>
   cases j with
   |none=>exact i1 x dd cf _ _ nF ke mE kr t H r h1 (λt H r h=>i2 y dd cf mK kn nF ke mE kr t H r h1 h2 h3 h4 h) h3 h4 hc|some lv=>
    simp only[JN] at hc⊢;refine i1 x dd cf _ _ nF ke mE kr t H r h1 (λt H r h=>?_) h3 h4 hc
    replace h:=(qB (n:=n) rfl).symm.trans h
    obtain⟨k0,hk⟩:=i2 y dd cf mK kn nF ke mE kr _ H r h1 h2 h3 h4 h;exact⟨k0,λk hle=>(qB (n:=n) rfl).trans (hk k hle)⟩
  |pr lv p=>
   simp only at hc⊢;obtain⟨H2,q1,q2⟩:=fG hc;obtain⟨k0,hk⟩:=h2 _ H2 r q2;exact⟨k0,λk hle=>by rw[q1];exact hk k hle⟩
  |_=>cases hc
 |cond x c1 c2 i1 i2=>
  intro an dd cf mK kn nF ke mE kr t H r h1 h2 h3 h4 hc;unfold bw at hc⊢;cases an with
  |cd y z=>
   simp only[CD] at hc⊢;cases hv:ev P.globals.size t x<;>rw[hv] at hc<;>simp only at hc⊢ <;> try (cases hc;done)
   rename_i q;cases q with
   |true=>exact i1 y dd cf mK kn nF ke mE kr t H r h1 h2 h3 h4 hc|false=>exact i2 z dd cf mK kn nF ke mE kr t H r h1 h2 h3 h4 hc
  |_=>cases hc
 |block i b ib=>
  intro an dd cf mK kn nF ke mE kr t H r h1 h2 h3 h4 hc;unfold bw at hc⊢;cases an with
  |bl j x=>
   cases j with
   |none=>
    refine ib x dd cf mK kn _ _ mE kr t H r h1 h2 (λq t H r h=>?_) h4 hc;cases hq:Nat.beq q i with
    |true=>rw[hq] at h;simp only[hq,cond_true];exact h2 t H r h|false=>rw[hq] at h;simp only[hq,cond_false];exact h3 q t H r h
   |some lv=>
    simp only[JN] at hc⊢;have hj:AI (λk=>λt H=>app lv.length (abs lv.length λl H=>mK k (cJ n lv l) H) (aI lv t) H) (λt H=>app lv.length (abs lv.length λl H=>kn (cJ n lv l) H) (aI lv t) H):=by
     intro t H r h
     replace h:=(qB (n:=n) rfl).symm.trans h
     obtain⟨k0,hk⟩:=h2 _ H r h;exact⟨k0,λk hle=>(qB (n:=n) rfl).trans (hk k hle)⟩
    refine ib x dd cf _ _ _ _ mE kr t H r h1 hj (λq t H r h=>?_) h4 hc;cases hq:Nat.beq q i with
    |true=>rw[hq] at h;simp only[hq,cond_true];exact hj t H r h|false=>rw[hq] at h;simp only[hq,cond_false];exact h3 q t H r h
  |_=>cases hc
 |loop b ib=>
  intro an dd cf mK kn nF ke mE kr t H r h1 h2 h3 h4 hc;unfold bw at hc⊢;cases an with
  |lp lv x=>
   simp only at hc⊢;have const:∀(f:CF),wh (λ_=>f) f:=λf x l H r h=>Ev.of λ_=>h;have sR:∀(f:KN),AI (λ_=>f) f:=λf t H r h=>Ev.of λ_=>h;have mono:∀(f:CF) (ke:Nat->KN) (kr:KN) (L L':Nat) (t:Tm) (H:Hp) (r:AV×Hp),L<=L'->app lv.length (jB lv.length (λk=>abs lv.length λl H=>bw P reg f n b x (λt H=>app lv.length k (aI lv t) H) ke kr (cJ n lv l) H) L) (aI lv t) H=some r->
     app lv.length (jB lv.length (λk=>abs lv.length λl H=>bw P reg f n b x (λt H=>app lv.length k (aI lv t) H) ke kr (cJ n lv l) H) L') (aI lv t) H=some r:=by
    intro f ke kr L;induction L with
    |zero=>
     intro L' t H r _ h;rw[show jB lv.length _ 0=abs lv.length (λ_ _=>none) from rfl,qB (n:=n) rfl] at h;cases h
    |succ L ih=>
     intro L' t H r hle h;obtain⟨L2,rfl⟩:∃L2,L'=L2+1:=⟨L'-1,zzz⟩;rw[show jB lv.length _ (L+1)=abs lv.length _ from rfl,qB (n:=n) rfl] at h;rw[show jB lv.length _ (L2+1)=abs lv.length _ from rfl,qB (n:=n) rfl];obtain⟨k0,hk⟩:=ib x (λ_=>f) f (λ_=>λt H=>app lv.length (jB lv.length _ L2) (aI lv t) H) (λt H=>app lv.length (jB lv.length _ L) (aI lv t) H) (λ_=>ke) ke (λ_=>kr) kr _ H r (const f) (λt H r h=>Ev.of λ_=>ih L2 t H r zzz h) (λi=>sR (ke i)) (sR kr) h;exact hk k0 (aaC _)
   have uniq:∀(f:CF) (ke:Nat->KN) (kr:KN) (t:Tm) (H:Hp) (L L':Nat) (r r':AV×Hp),app lv.length (jB lv.length (λk=>abs lv.length λl H=>bw P reg f n b x (λt H=>app lv.length k (aI lv t) H) ke kr (cJ n lv l) H) L) (aI lv t) H=some r->
     app lv.length (jB lv.length (λk=>abs lv.length λl H=>bw P reg f n b x (λt H=>app lv.length k (aI lv t) H) ke kr (cJ n lv l) H) L') (aI lv t) H=some r'->r=r':=by
    intro f ke kr t H L L' r r' h h';rcases Nat.le_total L L' with q|q;·have:=mono f ke kr L L' t H r q h;rw[this] at h';exact ac0 h'
    ·have:=mono f ke kr L' L t H r' q h';rw[h] at this;exact ac0 this
   have aq3:∀(f:CF) (ke:Nat->KN) (kr:KN) (t:Tm) (H:Hp) (L:Nat) (r:AV×Hp),app lv.length (jB lv.length (λk=>abs lv.length λl H=>bw P reg f n b x (λt H=>app lv.length k (aI lv t) H) ke kr (cJ n lv l) H) L) (aI lv t) H=some r->
     app lv.length (LP lv.length (λk=>abs lv.length λl H=>bw P reg f n b x (λt H=>app lv.length k (aI lv t) H) ke kr (cJ n lv l) H)) (aI lv t) H=some r:=by
    intro f ke kr t H L r h;unfold LP;rw[qB (n:=n) rfl];exact Qr h (uniq f ke kr t H)
   have aiO:∀(f:CF) (ke:Nat->KN) (kr:KN) (t:Tm) (H:Hp) (r:AV×Hp),app lv.length (LP lv.length (λk=>abs lv.length λl H=>bw P reg f n b x (λt H=>app lv.length k (aI lv t) H) ke kr (cJ n lv l) H)) (aI lv t) H=some r->
     ∃L,app lv.length (jB lv.length (λk=>abs lv.length λl H=>bw P reg f n b x (λt H=>app lv.length k (aI lv t) H) ke kr (cJ n lv l) H) L) (aI lv t) H=some r:=by
    intro f ke kr t H r h;unfold LP at h
    replace h:=(qB (n:=n) rfl).symm.trans h
    exact Ii h
   have roll:∀(f:CF) (ke:Nat->KN) (kr:KN) (t:Tm) (H:Hp) (r:AV×Hp),bw P reg f n b x (λt H=>app lv.length (LP lv.length (λk=>abs lv.length λl H=>bw P reg f n b x (λt H=>app lv.length k (aI lv t) H) ke kr (cJ n lv l) H)) (aI lv t) H) ke kr (cJ n lv (aI lv t)) H=some r->
     app lv.length (LP lv.length (λk=>abs lv.length λl H=>bw P reg f n b x (λt H=>app lv.length k (aI lv t) H) ke kr (cJ n lv l) H)) (aI lv t) H=some r:=by
    intro f ke kr t H r h;obtain⟨k0,hk⟩:=ib x (λ_=>f) f (λL=>λt H=>app lv.length (jB lv.length (λk=>abs lv.length λl H=>bw P reg f n b x (λt H=>app lv.length k (aI lv t) H) ke kr (cJ n lv l) H) L) (aI lv t) H) _ (λ_=>ke) ke (λ_=>kr) kr _ H r (const f)
     (fun t H r h=>by
      obtain⟨L,hL⟩:=aiO f ke kr t H r h;exact⟨L,λk hle=>mono f ke kr L k t H r hle hL⟩) (λi=>sR (ke i)) (sR kr) h
    refine aq3 f ke kr t H (k0+1) r ?_;rw[show jB lv.length _ (k0+1)=abs lv.length _ from rfl,qB (n:=n) rfl];exact hk k0 (aaC _)
   obtain⟨L,hL⟩:=aiO cf ke kr t H r hc;clear hc;induction L generalizing t H r with
   |zero=>
    rw[show jB lv.length _ 0=abs lv.length (λ_ _=>none) from rfl,qB (n:=n) rfl] at hL;cases hL
   |succ L ih=>
    rw[show jB lv.length _ (L+1)=abs lv.length _ from rfl,qB (n:=n) rfl] at hL;obtain⟨k0,hk⟩:=ib x dd cf (λk=>λt H=>app lv.length (LP lv.length (λq=>abs lv.length λl H=>bw P reg (dd k) n b x (λt H=>app lv.length q (aI lv t) H) (nF k) (mE k) (cJ n lv l) H)) (aI lv t) H) _ nF ke mE kr _ H r h1 (λt H r h=>ih t H r h) h3 h4 hL;exact⟨k0,λk hle=>roll (dd k) (nF k) (mE k) t H r (hk k hle)⟩
  |_=>cases hc
 |exit i=>intro an dd cf mK kn nF ke mE kr t H r h1 h2 h3 h4 hc;unfold bw at hc⊢;exact h3 i t H r hc|ret=>intro an dd cf mK kn nF ke mE kr t H r h1 h2 h3 h4 hc;unfold bw at hc⊢;exact h4 t H r hc|region id ops d=>intro an dd cf mK kn nF ke mE kr t H r h1 h2 h3 h4 hc;unfold bw at hc⊢;exact iN dd cf mK kn n ops d t H r h1 h2 hc|_=>
  intro an dd cf mK kn nF ke mE kr t H r h1 h2 h3 h4 hc;unfold bw at hc;cases hc
end K
end
namespace K
section
variable {P:Program}{reg:uy}
theorem am2 (iN:Ah reg)(f:CF)(n:Nat)(b:Code)(x:An)(lv:List Nat)(ke:Nat->KN)(kr:KN)(l:List AV)(hl:l.length=lv.length)(H:Hp):
  app lv.length (LP lv.length (λk=>abs lv.length λl H=>bw P reg f n b x (λt H=>app lv.length k (aI lv t) H) ke kr (cJ n lv l) H)) l H=
   bw P reg f n b x (λt H=>app lv.length (LP lv.length (λk=>abs lv.length λl H=>bw P reg f n b x (λt H=>app lv.length k (aI lv t) H) ke kr (cJ n lv l) H)) (aI lv t) H) ke kr (cJ n lv l) H:=by
 have const:wh (λ_=>f) f:=λx l H r h=>Ev.of λ_=>h;have sR:∀(f:KN),AI (λ_=>f) f:=λf t H r h=>Ev.of λ_=>h;have PT:∀(L:Nat) (l:List AV) (H:Hp),l.length=lv.length->app lv.length (jB lv.length (λk=>abs lv.length λl H=>bw P reg f n b x (λt H=>app lv.length k (aI lv t) H) ke kr (cJ n lv l) H) (L+1)) l H=
   bw P reg f n b x (λt H=>app lv.length (jB lv.length (λk=>abs lv.length λl H=>bw P reg f n b x (λt H=>app lv.length k (aI lv t) H) ke kr (cJ n lv l) H) L) (aI lv t) H) ke kr (cJ n lv l) H:=λL l H hl=>by
  rw[show jB lv.length _ (L+1)=abs lv.length _ from rfl,J1 _ _ _ _ hl]
 have zero:∀(l:List AV) (H:Hp),l.length=lv.length->app lv.length (jB lv.length (λk=>abs lv.length λl H=>bw P reg f n b x (λt H=>app lv.length k (aI lv t) H) ke kr (cJ n lv l) H) 0) l H=none:=λl H hl=>by rw[show jB lv.length _ 0=abs lv.length (λ_ _=>none) from rfl,J1 _ _ _ _ hl]
 have mono:∀(L L':Nat) (l:List AV) (H:Hp) (r:AV×Hp),l.length=lv.length->L<=L'->app lv.length (jB lv.length (λk=>abs lv.length λl H=>bw P reg f n b x (λt H=>app lv.length k (aI lv t) H) ke kr (cJ n lv l) H) L) l H=some r->
   app lv.length (jB lv.length (λk=>abs lv.length λl H=>bw P reg f n b x (λt H=>app lv.length k (aI lv t) H) ke kr (cJ n lv l) H) L') l H=some r:=by
  intro L;induction L with
  |zero=>intro L' l H r hl _ h;rw[zero l H hl] at h;cases h
  |succ L ih=>
   intro L' l H r hl hle h;obtain⟨L2,rfl⟩:∃L2,L'=L2+1:=⟨L'-1,zzz⟩;rw[PT L l H hl] at h;rw[PT L2 l H hl];obtain⟨k0,hk⟩:=Pe iN b x (λ_=>f) f (λ_=>_) _ (λ_=>ke) ke (λ_=>kr) kr _ H r const (λt H r h=>Ev.of λ_=>ih L2 (aI lv t) H r (IJ lv t) zzz h) (λi=>sR (ke i)) (sR kr) h;exact hk k0 (aaC _)
 have uniq:∀(l:List AV) (H:Hp),l.length=lv.length->∀(L L':Nat) (r r':AV×Hp),app lv.length (jB lv.length (λk=>abs lv.length λl H=>bw P reg f n b x (λt H=>app lv.length k (aI lv t) H) ke kr (cJ n lv l) H) L) l H=some r->
   app lv.length (jB lv.length (λk=>abs lv.length λl H=>bw P reg f n b x (λt H=>app lv.length k (aI lv t) H) ke kr (cJ n lv l) H) L') l H=some r'->r=r':=by
  intro l H hl L L' r r' h h';rcases Nat.le_total L L' with q|q;·have:=mono L L' l H r hl q h;rw[this] at h';exact ac0 h'
  ·have:=mono L' L l H r' hl q h';rw[h] at this;exact ac0 this
 have Sb:∀(l:List AV) (H:Hp),l.length=lv.length->app lv.length (LP lv.length (λk=>abs lv.length λl H=>bw P reg f n b x (λt H=>app lv.length k (aI lv t) H) ke kr (cJ n lv l) H)) l H=lim (λL=>app lv.length (jB lv.length (λk=>abs lv.length λl H=>bw P reg f n b x (λt H=>app lv.length k (aI lv t) H) ke kr (cJ n lv l) H) L) l H):=λl H hl=>by unfold LP;rw[J1 _ _ _ _ hl]
 have fwd:∀(r:AV×Hp),app lv.length (LP lv.length (λk=>abs lv.length λl H=>bw P reg f n b x (λt H=>app lv.length k (aI lv t) H) ke kr (cJ n lv l) H)) l H=some r->
   bw P reg f n b x (λt H=>app lv.length (LP lv.length (λk=>abs lv.length λl H=>bw P reg f n b x (λt H=>app lv.length k (aI lv t) H) ke kr (cJ n lv l) H)) (aI lv t) H) ke kr (cJ n lv l) H=some r:=by
  intro r h;rw[Sb l H hl] at h;obtain⟨L,hL⟩:=Ii h;cases L with
  |zero=>rw[zero l H hl] at hL;cases hL
  |succ L=>
   rw[PT L l H hl] at hL;obtain⟨k0,hk⟩:=Pe iN b x (λ_=>f) f (λ_=>λt H=>app lv.length (LP lv.length (λk=>abs lv.length λl H=>bw P reg f n b x (λt H=>app lv.length k (aI lv t) H) ke kr (cJ n lv l) H)) (aI lv t) H) _ (λ_=>ke) ke (λ_=>kr) kr _ H r const
    (λt H r h=>Ev.of λ_=>(Sb _ H (IJ lv t)).trans (Qr h (uniq _ H (IJ lv t)))) (λi=>sR (ke i)) (sR kr) hL
   exact hk k0 (aaC _)
 have bwd:∀(r:AV×Hp),bw P reg f n b x (λt H=>app lv.length (LP lv.length (λk=>abs lv.length λl H=>bw P reg f n b x (λt H=>app lv.length k (aI lv t) H) ke kr (cJ n lv l) H)) (aI lv t) H) ke kr (cJ n lv l) H=some r->
   app lv.length (LP lv.length (λk=>abs lv.length λl H=>bw P reg f n b x (λt H=>app lv.length k (aI lv t) H) ke kr (cJ n lv l) H)) l H=some r:=by
  intro r h;obtain⟨k0,hk⟩:=Pe iN b x (λ_=>f) f (λL=>λt H=>app lv.length (jB lv.length (λk=>abs lv.length λl H=>bw P reg f n b x (λt H=>app lv.length k (aI lv t) H) ke kr (cJ n lv l) H) L) (aI lv t) H) _ (λ_=>ke) ke (λ_=>kr) kr _ H r const
   (fun t H r h=>by
    replace h:=(Sb _ H (IJ lv t)).symm.trans h
    obtain⟨L,hL⟩:=Ii h;exact⟨L,λk hle=>mono L k _ H r (IJ lv t) hle hL⟩) (λi=>sR (ke i)) (sR kr) h
  rw[Sb l H hl];refine Qr (L:=k0+1) ?_ (uniq l H hl);rw[PT k0 l H hl];exact hk k0 (aaC _)
 cases h1:app lv.length (LP lv.length (λk=>abs lv.length λl H=>bw P reg f n b x (λt H=>app lv.length k (aI lv t) H) ke kr (cJ n lv l) H)) l H with
 |some r=>exact (fwd r h1).symm|none=>
  cases h2:bw P reg f n b x (λt H=>app lv.length (LP lv.length (λk=>abs lv.length λl H=>bw P reg f n b x (λt H=>app lv.length k (aI lv t) H) ke kr (cJ n lv l) H)) (aI lv t) H) ke kr (cJ n lv l) H with
  |none=>rfl|some r=>rw[bwd r h2] at h1;cases h1
end
def Gg (P:Program)(t:Tm)(H:Hp):List ResultVar->(List AV->R)->R
 |[],k=>k []|.tmp x::r,k=>Gg P t H r λl=>k ((t.get x).getD bP::l)
 |.cell a ty::r,k=>match zG P ty,sz P ty with
  |some true,some n=>B1 (aB n ((t.get a).getD bP) H) λv=>Gg P t H r λl=>k (v::l)
  |some false,_=>B1 (ld ((t.get a).getD bP) H) λv=>Gg P t H r λl=>k (v::l)
  |_,_=>none
def Ew (P:Program)(t:Tm)(H:Hp)(l:List ResultVar):R:=Gg P t H l λvs=>some (PH vs,H)
theorem auQ {P:Program}{ty:TypeId}{x v:AV}{H:Hp}(ha:zG P ty=some false)(h:ld x H=some v):vH P H ty x=some v:=by
 unfold ld at h;split at h;·unfold vH;simp only[ha,acH,acQ,abu,if_false,h]
 ·cases h
theorem aow {P:Program}{ty:TypeId}{n:Nat}{x v:AV}{H:Hp}(ha:zG P ty=some true)(hs:sz P ty=some n)(h:aB n x H=some v):vH P H ty x=some v:=by
 unfold aB at h;split at h
 ·rename_i i off;unfold vH;simp only[ha,hs,acH,acQ,if_true];cases hc:au H i off n with
  |none=>rw[hc] at h;cases h
  |some l=>rw[hc] at h;cases h;rfl
 ·cases h
theorem M8 {P:Program}{t:Tm}{H:Hp}:∀(l:List ResultVar) (k:List AV->R) (r:AV×Hp),Gg P t H l k=some r->∃vs,wY P t H l=some vs/\k vs=some r
 |[],k,r,h=>⟨[],rfl,h⟩|.tmp x::l,k,r,h=>by unfold Gg at h;obtain⟨vs,h1,h2⟩:=M8 l _ r h;exact⟨_,by unfold wY;rw[h1],h2⟩
 |.cell a ty::l,k,r,h=>by
  unfold Gg at h;split at h;·rename_i n ha hs;obtain⟨v,q1,q2⟩:=fG h;obtain⟨vs,h1,h2⟩:=M8 l _ r q2;exact⟨_,by unfold wY;rw[aow ha hs q1,h1],h2⟩
  ·rename_i q ha hs;obtain⟨v,q1,q2⟩:=fG h;obtain⟨vs,h1,h2⟩:=M8 l _ r q2;exact⟨_,by unfold wY;rw[auQ hs q1,h1],h2⟩
  ·cases h
def MH (n:Nat)(args:List AV):Tm:=Tr.bZ .nil 0 (args++List.replicate (n-args.length) bP)
noncomputable section
def ap5 (P:Program)(reg:uy)(cf:CF)(fn:Func)(an:An)(b:Code)(args:List AV)(H:Hp):R:=
 bw P reg cf fn.ntmps b an (λt H=>Ew P t H fn.results.toList) (λ_ _ _=>none) (λt H=>Ew P t H fn.results.toList) (MH fn.ntmps args) H
def zQ (P:Program)(reg:uy)(ext:Nat->Option Ext)(bE:Nat->Option Prim)(an:Nat->An)(cf:CF):CF:=λg args H=>
 match g with
 |.func (.func aU) first cap=>
  match bE aU with
  |some p=>p (first++args++cap) H|none=>match P.funcs[aU]? with
   |some fn=>match fn.body with
    |some b=>bif Nat.ble (first++args++cap).length fn.ntmps&&Nat.blt fn.ntmps 4294967296&&(an aU).ok fn.ntmps then ap5 P reg cf fn (an aU) b (first++args++cap) H else none
    |none=>match ext aU with
     |some k=>Hj P k (first++args++cap) H|none=>none
   |none=>none
 |_=>none
def SK (P:Program)(reg:uy)(ext:Nat->Option Ext)(bE:Nat->Option Prim)(an:Nat->An):Nat->CF
 |0=>λ_ _ _=>none
 |k+1=>zQ P reg ext bE an (SK P reg ext bE an k)
def CK (P:Program)(reg:uy)(ext:Nat->Option Ext)(bE:Nat->Option Prim)(an:Nat->An):CF:=λg args H=>lim λk=>SK P reg ext bE an k g args H
end
section
variable {P:Program}{reg:uy}{ext:Nat->Option Ext}{bE:Nat->Option Prim}{an:Nat->An}
section
variable {F:Nat->Prop}{H H':Hp}{W w:World}{cf:CF}{e:Em}{fn:Func}{g:AV}{l:List AV}{r:AV×Hp}
theorem alR (iN:Ah reg){dd:Nat->CF}(h:wh dd cf):wh (λk=>zQ P reg ext bE an (dd k)) (zQ P reg ext bE an cf):=by
 intro g args H r hc;unfold zQ at hc⊢;cases g<;>try (cases hc;done)
 rename_i fn first cap
 cases fn<;>try (cases hc;done)
 rename_i aU;simp only at hc⊢;cases hp:bE aU with
 |some p=>rw[hp] at hc;exact Ev.of λ_=>hc
 |none=>
  rw[hp] at hc;simp only at hc⊢;cases hf:P.funcs[aU]? with
  |none=>rw[hf] at hc;cases hc
  |some fn=>
   rw[hf] at hc;simp only at hc⊢;cases hb:fn.body with
   |none=>rw[hb] at hc;exact Ev.of λ_=>hc
   |some b=>
    rw[hb] at hc;simp only at hc⊢;cases hk:(Nat.ble (first++args++cap).length fn.ntmps&&Nat.blt fn.ntmps 4294967296&&(an aU).ok fn.ntmps) with
    |false=>rw[hk] at hc;cases hc
    |true=>
     rw[hk] at hc;simp only[cond_true] at hc⊢;have sR:∀(f:KN),AI (λ_=>f) f:=λf t H r h=>Ev.of λ_=>h;exact Pe iN b (an aU) dd cf _ _ _ _ _ _ _ H r h (sR _) (λi=>sR _) (sR _) hc
theorem aik (iN:Ah reg):∀k,wh (λ_=>SK P reg ext bE an (k+1)) (SK P reg ext bE an k)
 |0=>λg l H r h=>by cases h
 |k+1=>λg l H r h=>by obtain⟨k0,hk⟩:=alR (P:=P) (ext:=ext) (bE:=bE) (an:=an) iN (aik iN k) g l H r h;exact Ev.of λ_=>hk k0 (aaC _)
theorem VK (iN:Ah reg):∀{j k:Nat},j<=k->SK P reg ext bE an j g l H=some r->SK P reg ext bE an k g l H=some r:=by
 intro j k hle h;induction hle with
 |refl=>exact h|step _ ih=>
  obtain⟨k0,hk⟩:=aik iN _ g l H r ih;exact hk k0 (aaC _)
theorem aDz (iN:Ah reg)(j k:Nat)(r r':AV×Hp)(h:SK P reg ext bE an j g l H=some r)(h':SK P reg ext bE an k g l H=some r'):r=r':=by
 rcases Nat.le_total j k with q|q;·rw[VK iN q h] at h';exact ac0 h'
 ·have:=VK iN q h';rw[h] at this;exact ac0 this
theorem atO (iN:Ah reg):wh (SK P reg ext bE an) (CK P reg ext bE an):=by intro g l H r h;obtain⟨k0,hk⟩:=Ii h;exact⟨k0,λk hle=>VK iN hle hk⟩
theorem WB (iN:Ah reg)(h:zQ P reg ext bE an (CK P reg ext bE an) g l H=some r):CK P reg ext bE an g l H=some r:=by obtain⟨k0,hk⟩:=alR (P:=P) (ext:=ext) (bE:=bE) (an:=an) iN (atO iN) g l H r h;exact Qr (L:=k0+1) (hk k0 (aaC _)) (λj k r r'=>aDz iN j k r r')
theorem aCz (hm:P.follows .mixedOrders=true)(hN:qg P)(hE:Aw P ext)(hP:wB P bE)(iN:IV P reg)(hA:z8 P an)(iM:xm P cf):xm P (zQ P reg ext bE an cf):=by
 intro g args H v H' hc;unfold zQ at hc;split at hc
 ·rename_i aU first cap
  refine⟨aU,first,cap,rfl,?_⟩;intro F W e w as' hR nz;split at hc;·rename_i p hp;exact .inr (hP aU p hp _ H v H' hc F W e w as' hR nz)
  ·split at hc
   ·rename_i fn hf;split at hc
    ·rename_i b hb;cases hle:(Nat.ble (first++args++cap).length fn.ntmps&&Nat.blt fn.ntmps 4294967296&&(an aU).ok fn.ntmps) with
     |false=>rw[hle] at hc;cases hc
     |true=>
     rw[hle] at hc;simp only[cond_true] at hc;rw[aaA,aaA,af1,aeI] at hle;refine .inr ⟨Aq hN hf hb as' w,?_⟩;have hlen:as'.size=(first++args++cap).length:=by have:=nz.1;simpa using this
     have hT:oQ e fn.ntmps (MH fn.ntmps (first++args++cap)) {tmps:=as'++Array.replicate (fn.ntmps-as'.size) undef,defers:=[]}:=by
      have jY:((first++args++cap)++List.replicate (fn.ntmps-(first++args++cap).length) bP).length=fn.ntmps:=by rw[aam,agK];omega
      refine⟨⟨by simp;omega,λx=>?_⟩,λx hx=>?_⟩
      ·unfold MH;rw[Co];simp only[ad0,abz,true_and,aij,jY];by_cases hx:x<(first++args++cap).length;·rw[zz2 zzz,abE hx];have h1:(first++args++cap)[x]?=some (first++args++cap)[x]:=aap hx;obtain⟨v',h2,h3⟩:=nz.get h1;rw[h1,ahr,ahi,Array.getElem?_append_left zzz,<-aeW,h2];exact h3
       ·have hu:(as'++Array.replicate (fn.ntmps-as'.size) undef).getD x undef=undef:=by rw[ahi,Array.getElem?_append_right zzz,Array.getElem?_replicate];split<;>rfl
        simp only[hu];split
        ·rw[ab4 zzz,anf];split;·exact VR.undef
         ·exact VR.undef
        ·rw[Tr.get_nil];exact VR.undef
      ·unfold MH;rw[Co,jY,zz1 zzz,Tr.get_nil]
     refine calls_of_wp hf hb (auG hm iN iM b (an aU) _ _ _ _ H (v,H') hle.2 (hA aU fn b hf hb) hc F W e _ w _ hR hT ?_ ?_ ?_);·intro e' a' w' t' H2 he bg cq hd hk;unfold Ew at hk;obtain⟨vs,u9,gZ⟩:=M8 _ _ _ hk;cases gZ;obtain⟨u,hu,jh⟩:=Ze bg cq.1 u9;exact⟨hd,u,hu,e',u,rfl,he,bg,jh⟩
     ·intro i e' a' w' t' H2 he bg cq hd hk;cases hk
     ·intro e' a' w' t' H2 he bg cq hd hk;unfold Ew at hk;obtain⟨vs,u9,gZ⟩:=M8 _ _ _ hk;cases gZ;obtain⟨u,hu,jh⟩:=Ze bg cq.1 u9;exact⟨hd,u,hu,e',u,rfl,he,bg,jh⟩
    ·rename_i hb;split at hc;·rename_i k hk;obtain⟨v',w',e',h1,h2,h3,h4⟩:=akF hR nz hc;refine .inl ⟨v',w',e',?_,h2,h3,h4⟩;rw[hE aU k hk,Sem.run_bind,h1];rfl
     ·cases hc
   ·cases hc
 ·cases hc
theorem ad9 (hm:P.follows .mixedOrders=true)(hN:qg P)(hE:Aw P ext)(hP:wB P bE)(iN:IV P reg)(hA:z8 P an):∀k,xm P (SK P reg ext bE an k)
 |0=>λg args H v H' h=>by cases h
 |k+1=>aCz hm hN hE hP iN hA (ad9 hm hN hE hP iN hA k)
theorem axQ (hm:P.follows .mixedOrders=true)(hN:qg P)(hE:Aw P ext)(hP:wB P bE)(iN:IV P reg)(hA:z8 P an):xm P (CK P reg ext bE an):=by intro g args H v H' h;obtain⟨k,hk⟩:=Ii h;exact ad9 hm hN hE hP iN hA k g args H v H' hk
theorem arn (hm:P.follows .mixedOrders=true)(hN:qg P)(hE:Aw P ext)(hP:wB P bE)(iN:IV P reg)(hA:z8 P an){g:Nat}{args:List AV}{v:AV}(h:CK P reg ext bE an (.func (.func g) [] []) args H=some (v,H')){b:Code}
  (hf:P.funcs[g]?=some fn) (hb:fn.body=some b) {as':Array Value} (hR:RH P.globals.size F W e H w) (ha:aV e args as'.toList):Calls P g as' w (HP P.globals.size F W e v H'):=by
 obtain⟨aU,first,cap,hg,hs⟩:=axQ hm hN hE hP iN hA _ _ _ _ _ h;cases hg;rcases hs F W e w as' hR (by simpa using ha) with⟨v',w',e',h1,_⟩|⟨_,h2⟩;·rw[Aq hN hf hb] at h1;cases h1
 ·exact h2
end
end
end K
end Go.Proofs.YtodfajmihkagnaaGreatDoor.Am
