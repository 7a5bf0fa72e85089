/- A closed call run once; the evaluator with continuations, its soundness and its limits (of no program). -/
import Derived.Test.YtodfajmihkagnaaGreatDoorAm9
set_option linter.unusedVariables false
set_option linter.unusedSimpArgs false
namespace Go.Proofs.YtodfajmihkagnaaGreatDoor.Am
open Go.RowKit
section
section
set_option linter.unusedVariables false
set_option linter.unusedSimpArgs false
def FZ (N:Nat):AV->Bool
 | .bool _ | .int _ _ | .str _ | .fD | .ah | .jk | .nilFunc | .nilIface=>true
 | .ptr i _=>Nat.blt i N
 | .iface _ v=>FZ N v
 | _=>false
def Au (e:Em)(n:Nat->Nat)(N:Nat):Em:={ b:=e.b,d:=e.d,n:=n,N:=N }
theorem VR.cut {e:Em}{n:Nat->Nat}{N:Nat}{v:AV}{v':Value}(h:VR e v v')(hs:FZ N v=true):VR (Au e n N) v v':=by
 induction h with
 | bool b=>exact .bool b
 | int k z=>exact .int k z
 | str s=>exact .str s
 | fD=>exact .fD
 | ah=>exact .ah
 | jk=>exact .jk
 | nilFunc=>exact .nilFunc
 | nilIface=>exact .nilIface
 | ptr i off o hi ho=>
  have:i<N:=by simpa[FZ,adE] using hs
  exact .ptr (e:=Au e n N) i off o this ho
 | iface t v v' _ ih=>exact .iface t v v' (ih hs)
 | _=>cases hs
def BY (H:Hp)(L:List (Nat × List AV)):Prop:=∃ el:Nat->TypeId,∀ g l,(g,l)∈L->H.h.get g=some (.cells (Tr.bY .nil 0 l) 0 l.length (el g) 2)
noncomputable section
open Classical in
def JC (L:List (Nat × List AV))(N:Nat):Prim:=fun args H=>if args=[]/\BY H L/\N<=H.next then some (.bool true,H) else none
end
theorem apy {G N:Nat}{F:Nat->Prop}{W:World}{e:Em}{H:Hp}{w:World}(hR:RH G F W e H w){L:List (Nat × List AV)}{el:Nat->TypeId}(hG:G<N)(hle:N<=H.next)
  (hL:∀ g l,(g,l)∈L->g<G/\g<4294967296/\l.length<4294967296/\∀ v∈l,FZ N v=true) (hT:∀ g l,(g,l)∈L->H.h.get g=some (.cells (Tr.bY .nil 0 l) 0 l.length (el g) 2)) :
  RH G (fun k=>k<w.heap.size) w (Au e (fun i=>if i=G then w.heap.size else e.n i) N) ⟨qw el L,N⟩ w:=by
 have key:∀ i o,(qw el L).get i=some o->i<G/\H.h.get i=some o/\∃ l,(i,l)∈L/\o = .cells (Tr.bY .nil 0 l) 0 l.length (el i) 2:=by
  intro i o h
  obtain⟨l,hm,rfl⟩:=Om _ L (fun x hx=>(hL x.1 x.2 hx).2.1) i o h
  exact⟨(hL i l hm).1,hT i l hm,l,hm,rfl⟩
 refine⟨rfl,?_,?_,?_,fun k hk=>⟨hk,rfl⟩,rfl,rfl,rfl,aaC _,hR.lC.1,hG,by simp[Au]⟩
 ·intro i o h
  obtain⟨hi,hg,l,hm,rfl⟩:=key i o h
  obtain⟨_,ob,dV,dO,_⟩:=hR.obj i _ hg
  refine⟨Nat.lt_trans hi hG,ob,dV,?_,?_⟩
  ·obtain⟨_,_,hl,hs⟩:=hL i l hm
   cases dO with
   | cells _ _ _ _ _ C fz hn ic h0 h1 hd=>
    refine .cells _ 0 l.length _ 2 C fz ?_ ?_ (by simp) (by simp) hd
    ·simp only[Au];rw[if_neg (by omega)];exact hn
    ·intro k v a b hk
     obtain⟨k',h2,v',h3,h4⟩:=ic k v a b hk
     refine⟨k',h2,v',h3,?_⟩
     have hv:v∈l:=by
      rw[Tr.Cl (α:=AV) .nil _ _ _ _ (by omega),if_pos (by omega),agq] at hk
      exact aao hk
     exact h4.cut (hs v hv)
  ·intro q hF
   rcases q with q | q
   ·cases q
   ·simp[Au] at q
    have:=(abZ.1 dV).1
    omega
 ·intro i j oi oj h1 h2 hq e
  obtain⟨hi,hg,l,hm,rfl⟩:=key i oi h1
  obtain⟨_,ob,dV,dO,_⟩:=hR.obj i _ hg
  rcases hq with q | q
  ·cases q
  ·simp[Au] at q
   have:=(abZ.1 dV).1
   omega
 ·intro g hg
  obtain⟨a,b,c⟩:=hR.pK g hg
  exact⟨Nat.lt_trans hg hG,b,c⟩
theorem adb {P:Program}{ext:Nat->Option Ext}{aQ:Nat->Option Prim}(hm:P.follows .mixedOrders=true)(hN:od P)(hE:wC P ext)(hP:tn P aQ){fuel g N:Nat}{fn:Func}{b:Code}
  (hf:P.funcs[g]? = some fn) (hb:fn.body=some b) {L:List (Nat × List AV)} (hG:P.globals.size<N) (hL:∀ g l,(g,l)∈L->g<P.globals.size/\g<4294967296/\l.length<4294967296/\∀ v∈l,FZ N v=true)
  (h:∀ el,KX (Jr P ext aQ fuel g [] ⟨qw el L,N⟩)=true):xn P g (JC L N):=by
 intro args H v H' hp F W e w aR hR lh
 unfold JC at hp
 split at hp
 ·rename_i hc
  obtain⟨rfl,⟨el,hT⟩,hle⟩:=hc
  cases hp
  have has:aR = #[]:=by
   have:=lh.jE
   cases aR;simp_all
  subst has
  refine⟨vq hN hf hb #[] w,?_⟩
  refine (akk hm hN hE hP hf hb (h el) (apy hR hG hle hL hT)).mono fun en w' ⟨h1,h2⟩ => ?_
  exact⟨e,_,h1,e.le_refl,hR.below h2,.bool true⟩
 ·cases hp
set_option linter.unusedVariables false
set_option linter.unusedSimpArgs false
namespace K
abbrev R:=Option (AV × Hp)
def B1 {α:Type}(o:Option α)(k:α->R):R:=match o with | some v=>k v | none=>none
def B2 (o:Option (AV × Hp))(k:AV->Hp->R):R:=match o with | some p=>k p.1 p.2 | none=>none
theorem eE {α:Type}{o:Option α}{k:α->R}{r:AV × Hp}(h:B1 o k=some r):∃ v,o=some v/\k v=some r:=by
 cases o with
 | none=>cases h
 | some v=>exact⟨v,rfl,h⟩
theorem tV {o:Option (AV × Hp)}{k:AV->Hp->R}{r:AV × Hp}(h:B2 o k=some r):∃ v H,o=some (v,H)/\k v H=some r:=by
 cases o with
 | none=>cases h
 | some p=>exact⟨p.1,p.2,rfl,h⟩
def ld (x:AV)(H:Hp):Option AV:=match x with | .ptr i o=>cellAt H i o | _=>none
def aA (n:Nat)(x:AV)(H:Hp):Option AV:=match x with | .ptr i o=>(ar H i o n).map .agg | _=>none
def BN (o:Option (Nat × Hp))(k:Nat->Hp->R):R:=match o with | some p=>k p.1 p.2 | none=>none
theorem Jk {o:Option (Nat × Hp)}{k:Nat->Hp->R}{r:AV × Hp}(h:BN o k=some r):∃ i H,o=some (i,H)/\k i H=some r:=by
 cases o with
 | none=>cases h
 | some p=>exact⟨p.1,p.2,rfl,h⟩
def sJ (b:Bool)(x:R):R:=bif b then x else none
@[reducible] def Fn:Nat->Type
 | 0=>Hp->R
 | m+1=>AV->Fn m
def app:(m:Nat)->Fn m->List AV->Hp->R
 | 0,f,l,H=>match l with | []=>f H | _::_=>none
 | m+1,f,l,H=>match l with | []=>none | x::l=>app m (f x) l H
def abs:(m:Nat)->(List AV->Hp->R)->Fn m
 | 0,g=>fun H=>g [] H
 | m+1,g=>fun x=>abs m (fun l=>g (x::l))
theorem Ey:∀ (m:Nat) (g:List AV->Hp->R) (l:List AV) (H:Hp),l.length=m->app m (abs m g) l H=g l H
 | 0,g,[],H,_=>rfl
 | 0,g,_::_,H,h=>by simp at h
 | m+1,g,[],H,h=>by simp at h
 | m+1,g,x::l,H,h=>Ey m (fun l=>g (x::l)) l H (by simpa using h)
def JN (m:Nat)(f:Fn m->R)(k:Fn m):R:=f k
noncomputable section
open Classical in
def lim (f:Nat->R):R:=if h:∃ r L,f L=some r then some h.choose else none
theorem Ck {f:Nat->R}{r:AV × Hp}(h:lim f=some r):∃ L,f L=some r:=by
 unfold lim at h
 split at h
 ·rename_i q
  rw[<-acN h]
  exact q.choose_spec
 ·cases h
theorem I4 {f:Nat->R}{r:AV × Hp}{L:Nat}(h:f L=some r)(hu:∀ L L' r r',f L=some r->f L'=some r'->r=r'):lim f=some r:=by
 have q:∃ r L,f L=some r:=⟨r,L,h⟩
 unfold lim
 rw[dif_pos q]
 obtain⟨L',Mi⟩:=q.choose_spec
 rw[hu L' L _ _ Mi h]
def iv (m:Nat)(B:Fn m->Fn m):Nat->Fn m
 | 0=>abs m (fun _ _=>none)
 | L+1=>B (iv m B L)
def LP (m:Nat)(B:Fn m->Fn m):Fn m:=abs m (fun l H=>lim (fun L=>app m (iv m B L) l H))
end
def CD (c:AV)(x y:R):R:=match c with | .bool q=>bif q then x else y | _=>none
def ax (lv:List Nat)(t:Tm):List AV:=lv.map fun d=>(t.get d).getD bJ
theorem BL (lv:List Nat)(t:Tm):(ax lv t).length=lv.length:=by simp[ax]
def N6:List Nat->List AV->Tm->Tm
 | d::lv,v::l,t=>N6 lv l (t.put 34 d v)
 | _,_,t=>t
def cz (n:Nat)(lv:List Nat)(l:List AV):Tm:=N6 lv l (Tr.bY .nil 0 (List.replicate n .cP))
inductive An where
 | nl
 | sq (j:Option (List Nat)) (a b:An)
 | cd (a b:An)
 | bl (j:Option (List Nat)) (a:An)
 | lp (lv:List Nat) (a:An)
 | pr (lv:List Nat) (p:Tm->Hp->Option Hp)
abbrev KN:=Tm->Hp->R
abbrev qO:=CF->Nat->Array Oper->Bool->Tm->Hp->KN->R
noncomputable section
variable (P:Program)(aZ:qO)
def bA (cf:CF)(n:Nat):Code->An->KN->(Nat->KN)->KN->KN
 | .skip,_,kn,_,_=>kn
 | .label _,_,kn,_,_=>kn
 | .seq a b,an,kn,ke,kr=>match an with
  | .sq none x y=>bA cf n a x (bA cf n b y kn ke kr) ke kr
  | .sq (some lv) x y=>fun t H=>JN lv.length (fun k=>bA cf n a x (fun t H=>app lv.length k (ax lv t) H) ke kr t H) (abs lv.length fun l H=>bA cf n b y kn ke kr (cz n lv l) H)
  | .pr lv p=>fun t H=>B1 (p t H) fun H=>kn (cz n lv (ax lv t)) H
  | _=>fun _ _=>none
 | .cond c a b,an,kn,ke,kr=>match an with
  | .cd x y=>fun t H=>CD (ev P.globals.size t c) (bA cf n a x kn ke kr t H) (bA cf n b y kn ke kr t H)
  | _=>fun _ _=>none
 | .block i b,an,kn,ke,kr=>match an with
  | .bl none x=>bA cf n b x kn (fun j t H=>bif Nat.beq j i then kn t H else ke j t H) kr
  | .bl (some lv) x=>fun t H=>JN lv.length (fun k=>bA cf n b x (fun t H=>app lv.length k (ax lv t) H) (fun j t H=>bif Nat.beq j i then app lv.length k (ax lv t) H else ke j t H) kr t H) (abs lv.length fun l H=>kn (cz n lv l) H)
  | _=>fun _ _=>none
 | .loop b,an,kn,ke,kr=>match an with
  | .lp lv x=>fun t H=>app lv.length (LP lv.length (fun k=>abs lv.length fun l H=>bA cf n b x (fun t H=>app lv.length k (ax lv t) H) ke kr (cz n lv l) H)) (ax lv t) H
  | _=>fun _ _=>none
 | .exit i,_,_,ke,_=>ke i
 | .ret,_,_,_,kr=>kr
 | .region _ ops d,_,kn,_,_=>fun t H=>aZ cf n ops d t H kn
 | _,_,_,_,_=>fun _ _=>none
end
def BG (P:Program)(aZ:qO):Prop:=
 ∀ (cf:CF) (n:Nat) (ops:Array Oper) (d:Bool) (t:Tm) (H:Hp) (k:KN) (r:AV × Hp),aZ cf n ops d t H k=some r->
  ∃ t' H',(bif d then zY P cf n ops t H else sj P cf n ops ops.toList t H)=some (t',H')/\k t' H'=some r
def lJ (e:Em)(n:Nat)(t:Tm)(a:Act):Prop:=TR e n t a/\∀ d,n<=d->t.get d=none
theorem xB {α:Type}:∀ (l:List α) (t:Tr α) (n m:Nat),(t.bY n l).get m=if n<=m/\m<n+l.length then l[m-n]? else t.get m
 | [],t,n,m=>by
  rw[if_neg (by simp only[acG];omega)];rfl
 | x::l,t,n,m=>by
  rw[Tr.bY,xB l,Tr.put,Tr.fj]
  by_cases h1:m=n
  ·subst h1
   rw[if_neg (by omega),if_pos rfl,if_pos (by simp)];simp
  ·by_cases h2:n+1<=m/\m<n+1+l.length
   ·rw[if_pos h2,if_pos (by simp;omega)]
    have:m-n=(m-(n+1))+1:=by omega
    rw[this,ac1]
   ·rw[if_neg h2,if_neg h1,if_neg (by simp;omega)]
theorem NJ:∀ (lv:List Nat) (l:List AV) (t:Tm) (d:Nat) (p:Option AV->Prop),(∀ (x:Nat) (v:AV),x∈lv->(∃ i:Nat,lv[i]? = some x/\l[i]? = some v)->x=d->p (some v))->p (t.get d)->p ((N6 lv l t).get d)
 | [],l,t,d,p,_,h=>by cases l<;>exact h
 | x::lv,[],t,d,p,_,h=>h
 | x::lv,v::l,t,d,p,hp,h=>by
  refine NJ lv l (t.put 34 x v) d p (fun y u hy ⟨i,h1,h2⟩ he=>hp y u (.tail _ hy) ⟨i+1,by simpa using h1,by simpa using h2⟩ he) ?_
  rw[Tr.put,Tr.fj]
  by_cases hd:d=x
  ·rw[if_pos hd]
   exact hp x v (.head _) ⟨0,rfl,rfl⟩ hd.symm
  ·rw[if_neg hd];exact h
theorem lJ.rZ {e:Em}{n:Nat}{t:Tm}{a:Act}(h:lJ e n t a){lv:List Nat}(AQ:∀ d∈lv,d<n):lJ e n (cz n lv (ax lv t)) a:=by
 refine⟨⟨h.1.size,fun d => ?_⟩,fun d hd => ?_⟩
 ·unfold cz
  refine NJ lv (ax lv t) _ d (fun o=>VR e (o.getD bJ) (a.tmps.getD d undef)) ?_ ?_
  ·rintro x v _ ⟨i,h1,h2⟩ rfl
   unfold ax at h2
   rw[adL,h1] at h2
   cases h2
   exact h.1.val x
  ·rw[xB]
   split
   ·rename_i q
    rw[aif]
    simp only[aeF,adG] at q
    rw[if_pos (by omega)]
    exact .cP _
   ·rename_i q
    simp only[aeF,adG,acD,true_and,Nat.not_lt] at q
    rw[Tr.get_nil]
    have:=h.1.val d
    rw[h.2 d q] at this
    exact this
 ·unfold cz
  refine NJ lv (ax lv t) _ d (fun o=>o=none) ?_ ?_
  ·intro x v hx _ he
   have:=AQ x hx
   omega
  ·rw[xB,if_neg (by simp;omega),Tr.get_nil]
def An.ok (n:Nat):An->Bool
 | .nl=>true
 | .sq j a b=>(j.getD []).all (fun d=>Nat.blt d n)&&a.ok n&&b.ok n
 | .cd a b=>a.ok n&&b.ok n
 | .bl j a=>(j.getD []).all (fun d=>Nat.blt d n)&&a.ok n
 | .lp lv a=>lv.all (fun d=>Nat.blt d n)&&a.ok n
 | .pr lv _=>lv.all (fun d=>Nat.blt d n)
theorem Q2 {n:Nat}{lv:List Nat}(h:lv.all (fun d=>Nat.blt d n)=true):∀ d∈lv,d<n:=fun d hd=>by
 have:=adA.1 h d hd
 rwa[adE] at this
end K
end
set_option linter.unusedVariables false
set_option linter.unusedSimpArgs false
namespace K
variable {P:Program}{aZ:qO}
theorem BJ {n:Nat}{dst:Option Tmp}{v:AV}{t t':Tm}(h:gF n dst v t=some t')(ht:∀ d,n<=d->t.get d=none):∀ d,n<=d->t'.get d=none:=by
 intro d hd
 unfold gF at h
 split at h
 ·cases h;exact ht d hd
 ·rename_i x
  cases hb:(Nat.blt x n&&Nat.blt x 4294967296) with
  | false=>rw[hb] at h;cases h
  | true=>
   rw[hb] at h
   cases h
   simp only[aau,adE] at hb
   rw[Tr.put,Tr.fj,if_neg (by omega)]
   exact ht d hd
theorem Rk {cf:CF}{n:Nat}{ops:Array Oper}:∀ (l:List Oper) (t t':Tm) (H H':Hp),sj P cf n ops l t H=some (t',H')->(∀ d,n<=d->t.get d=none)->∀ d,n<=d->t'.get d=none
 | [],t,t',H,H',h,ht=>by cases h;exact ht
 | o::l,t,t',H,H',h,ht=>by
  unfold sj at h
  split at h
  ·split at h
   ·split at h
    ·rename_i t1 hp
     exact Rk l _ _ _ _ h (BJ hp ht)
    ·cases h
   ·cases h
  ·split at h
   ·rename_i t1 hp
    exact Rk l _ _ _ _ h (BJ hp ht)
   ·cases h
  ·cases h
theorem Fq {cf:CF}{n:Nat}{ops:Array Oper}:∀ (l:List Oper) (i:Nat) (bs:List Nat) (tp te:Tm) (hb h:Hp) (s:List jA) (t':Tm) (H':Hp),kA P cf n ops i l bs tp te hb h=some (s,t',H')->(∀ d,n<=d->te.get d=none)->∀ d,n<=d->t'.get d=none
 | [],i,bs,tp,te,hb,h,s,t',H',hr,ht=>by unfold kA at hr;cases hr;exact ht
 | o::l,i,[],tp,te,hb,h,s,t',H',hr,ht=>by unfold kA at hr;cases hr
 | o::l,i,b::bs,tp,te,hb,h,s,t',H',hr,ht=>by
  unfold kA at hr
  split at hr
  ·split at hr
   ·split at hr
    ·split at hr
     ·rename_i h1 h2
      simp only[aaa] at hr
      obtain⟨⟨s2,t2,H2⟩,h3,h4⟩:=hr
      cases h4
      exact Fq l _ _ _ _ _ _ _ _ _ h3 (BJ h2 ht)
     ·cases hr
    ·cases hr
   ·split at hr
    ·split at hr
     ·rename_i h1 h2
      simp only[aaa] at hr
      obtain⟨⟨s2,t2,H2⟩,h3,h4⟩:=hr
      cases h4
      exact Fq l _ _ _ _ _ _ _ _ _ h3 (BJ h2 ht)
     ·cases hr
    ·cases hr
   ·split at hr
    ·split at hr
     ·rename_i h1 h2
      simp only[aaa] at hr
      obtain⟨⟨s2,t2,H2⟩,h3,h4⟩:=hr
      cases h4
      exact Fq l _ _ _ _ _ _ _ _ _ h3 (BJ h2 ht)
     ·cases hr
    ·cases hr
  ·split at hr
   ·rename_i h1 h2
    simp only[aaa] at hr
    obtain⟨⟨s2,t2,H2⟩,h3,h4⟩:=hr
    cases h4
    exact Fq l _ _ _ _ _ _ _ _ _ h3 (BJ h2 ht)
   ·cases hr
  ·cases hr
theorem ain {cf:CF}{n:Nat}{ops:Array Oper}{d:Bool}{t t':Tm}{H H':Hp}(h:(bif d then zY P cf n ops t H else sj P cf n ops ops.toList t H)=some (t',H'))(ht:∀ x,n<=x->t.get x=none):∀ x,n<=x->t'.get x=none:=by
 cases d with
 | false=>exact Rk _ _ _ _ _ h ht
 | true=>
  simp only[cond_true] at h
  unfold zY at h
  cases hr:wg ops with
  | false=>rw[hr] at h;cases h
  | true=>
   rw[hr] at h
   simp only[cond_true] at h
   split at h
   ·rename_i l t1 H1 iW
    cases hd:zv P l with
    | false=>rw[hd] at h;cases h
    | true=>
     rw[hd] at h
     cases h
     exact Fq _ _ _ _ _ _ _ _ _ _ iW ht
   ·cases h
def ze (P:Program)(r:AV × Hp)(F:Nat->Prop)(W:World)(n:Nat)(e:Em)(ds:List Deferred)(kn:KN)(ex:Exit)(Q:Exit->Act->World->Prop):Prop:=
 ∀ e' a' w' t' H',e.le e'->RH P.globals.size F W e' H' w'->lJ e' n t' a'->a'.defers=ds->kn t' H'=some r->Q ex a' w'
theorem ze.mono {r:AV × Hp}{F:Nat->Prop}{W:World}{n:Nat}{e e2:Em}{ds:List Deferred}{kn:KN}{ex:Exit}{Q:Exit->Act->World->Prop}(h:ze P r F W n e ds kn ex Q)(he:e.le e2):ze P r F W n e2 ds kn ex Q:=
 fun e' a' w' t' H' h1=>h e' a' w' t' H' (Em.le_trans he h1)
theorem ot {m n:Nat}{lv:List Nat}{k:List AV->Hp->R}{t:Tm}{H:Hp}(hm:lv.length=m):app m (abs m k) (ax lv t) H=k (ax lv t) H:=Ey m k _ H (by rw[BL];exact hm)
def Ul (P:Program)(n:Nat)(c:Code)(lv:List Nat)(p:Tm->Hp->Option Hp):Prop:=
 ∀ t H H2,p t H=some H2->∀ (F:Nat->Prop) (W:World) (e:Em) (a:Act) (w:World) (Q:Exit->Act->World->Prop),RH P.globals.size F W e H w->lJ e n t a->
  (∀ e' a' w',e.le e'->RH P.globals.size F W e' H2 w'->lJ e' n (cz n lv (ax lv t)) a'->a'.defers=a.defers->Q .normal a' w')->c.wp P Q a w
def jL (P:Program)(n:Nat):Code->An->Prop
 | .seq a b,an=>match an with | .sq _ x y=>jL P n a x/\jL P n b y | .pr lv p=>Ul P n (.seq a b) lv p | _=>True
 | .cond _ a b,an=>match an with | .cd x y=>jL P n a x/\jL P n b y | _=>True
 | .block _ b,an=>match an with | .bl _ x=>jL P n b x | _=>True
 | .loop b,an=>match an with | .lp _ x=>jL P n b x | _=>True
 | _,_=>True
def An.plain:An->Bool
 | .nl=>true
 | .sq _ a b=>a.plain&&b.plain
 | .cd a b=>a.plain&&b.plain
 | .bl _ a=>a.plain
 | .lp _ a=>a.plain
 | .pr _ _=>false
theorem jL.plain (P:Program)(n:Nat):∀ (c:Code) (an:An),an.plain=true->jL P n c an:=by
 intro c
 induction c with
 | seq a b ia ib=>
  intro an h
  unfold jL
  cases an with
  | sq j x y=>simp only[An.plain,aau] at h;exact⟨ia x h.1,ib y h.2⟩
  | pr lv p=>cases h
  | _=>trivial
 | cond q a b ia ib=>
  intro an h
  unfold jL
  cases an with
  | cd x y=>simp only[An.plain,aau] at h;exact⟨ia x h.1,ib y h.2⟩
  | _=>trivial
 | block i b ib=>
  intro an h
  unfold jL
  cases an with
  | bl j x=>exact ib x h
  | _=>trivial
 | loop b ib=>
  intro an h
  unfold jL
  cases an with
  | lp lv x=>exact ib x h
  | _=>trivial
 | _=>intro an h;unfold jL;trivial
def vT (P:Program)(an:Nat->An):Prop:=∀ aX fn b,P.funcs[aX]? = some fn->fn.body=some b->jL P fn.ntmps b (an aX)
theorem vT.plain {P:Program}{an:Nat->An}(h:∀ g,(an g).plain=true):vT P an:=fun aX fn b _ _=>jL.plain P fn.ntmps b (an aX) (h aX)
def Jp:List (Nat × An)->Nat->An
 | [],_ => .nl
 | p::r,g=>bif Nat.beq g p.1 then p.2 else Jp r g
theorem Wq {P:Program}:∀ {l:List (Nat × An)},(∀ p∈l,p.2.plain=true\/∀ fn b,P.funcs[p.1]? = some fn->fn.body=some b->jL P fn.ntmps b p.2)->vT P (Jp l)
 | [],h=>vT.plain fun _=>rfl
 | p::r,h=>by
  intro aX fn b h1 h2
  show jL P fn.ntmps b (bif Nat.beq aX p.1 then p.2 else Jp r aX)
  cases hb:Nat.beq aX p.1 with
  | true=>
   obtain rfl:=abp hb
   rcases h p (.head _) with q | q
   ·exact jL.plain P _ _ _ q
   ·exact q fn b h1 h2
  | false=>exact Wq (fun q hq=>h q (.tail _ hq)) aX fn b h1 h2
theorem aox (hm:P.follows .mixedOrders=true)(gw:BG P aZ){cf:CF}(gr:sy P cf){n:Nat}:∀ (c:Code) (an:An) (kn:KN) (ke:Nat->KN) (kr:KN) (t:Tm) (H:Hp) (r:AV × Hp),an.ok n=true->jL P n c an->bA P aZ cf n c an kn ke kr t H=some r->
  ∀ (F:Nat->Prop) (W:World) (e:Em) (a:Act) (w:World) (Q:Exit->Act->World->Prop),RH P.globals.size F W e H w->lJ e n t a->
   ze P r F W n e a.defers kn .normal Q->(∀ i,ze P r F W n e a.defers (ke i) (.exit i) Q)->ze P r F W n e a.defers kr .ret Q->c.wp P Q a w:=by
 intro c
 induction c with
 | skip=>
  intro an kn ke kr t H r ha mV hc F W e a w Q hR hT fP kD ku
  unfold bA at hc
  exact wp_skip (fP e a w t H e.le_refl hR hT rfl hc)
 | label l=>
  intro an kn ke kr t H r ha mV hc F W e a w Q hR hT fP kD ku
  unfold bA at hc
  exact wp_label (fP e a w t H e.le_refl hR hT rfl hc)
 | seq c1 c2 i1 i2=>
  intro an kn ke kr t H r ha mV hc F W e a w Q hR hT fP kD ku
  unfold bA at hc
  split at hc
  ·rename_i x y
   refine wp_seq ?_
   simp only[An.ok,aau] at ha
   refine i1 x _ _ _ t H r ha.1.2 mV.1 hc F W e a w _ hR hT ?_ ?_ ?_
   ·intro e' a' w' t' H' he bw cC hd hk
    refine i2 y _ _ _ t' H' r ha.2 mV.2 hk F W e' a' w' Q bw cC ?_ ?_ ?_
    ·rw[hd];exact fP.mono he
    ·intro i;rw[hd];exact (kD i).mono he
    ·rw[hd];exact ku.mono he
   ·intro i e' a' w' t' H' he bw cC hd hk
    exact kD i e' a' w' t' H' he bw cC hd hk
   ·intro e' a' w' t' H' he bw cC hd hk
    exact ku e' a' w' t' H' he bw cC hd hk
  ·rename_i lv x y
   refine wp_seq ?_
   simp only[An.ok,aau,afG] at ha
   have AQ:=Q2 ha.1.1
   unfold JN at hc
   refine i1 x _ _ _ t H r ha.1.2 mV.1 hc F W e a w _ hR hT ?_ ?_ ?_
   ·intro e' a' w' t' H' he bw cC hd hk
    replace hk:=(ot (n:=n) rfl).symm.trans hk
    refine i2 y _ _ _ _ H' r ha.2 mV.2 hk F W e' a' w' Q bw (cC.rZ AQ) ?_ ?_ ?_
    ·rw[hd];exact fP.mono he
    ·intro i;rw[hd];exact (kD i).mono he
    ·rw[hd];exact ku.mono he
   ·intro i e' a' w' t' H' he bw cC hd hk
    exact kD i e' a' w' t' H' he bw cC hd hk
   ·intro e' a' w' t' H' he bw cC hd hk
    exact ku e' a' w' t' H' he bw cC hd hk
  ·rename_i lv p
   obtain⟨H2,h1,h2⟩:=eE hc
   exact mV t H H2 h1 F W e a w Q hR hT fun e' a' w' he bw cC hd=>fP e' a' w' _ H2 he bw cC hd h2
  ·cases hc
 | cond x c1 c2 i1 i2=>
  intro an kn ke kr t H r ha mV hc F W e a w Q hR hT fP kD ku
  unfold bA at hc
  split at hc
  ·rename_i y z
   simp only[An.ok,aau] at ha
   unfold CD at hc
   split at hc
   ·rename_i b hb
    have hv:=VR.ev hR hT.1 x
    rw[hb] at hv
    refine wp_cond hv.sw ?_
    cases b with
    | true=>exact i1 y _ _ _ t H r ha.1 mV.1 hc F W e a w Q hR hT fP kD ku
    | false=>exact i2 z _ _ _ t H r ha.2 mV.2 hc F W e a w Q hR hT fP kD ku
   ·cases hc
  ·cases hc
 | block i b ib=>
  intro an kn ke kr t H r ha mV hc F W e a w Q hR hT fP kD ku
  unfold bA at hc
  refine wp_block ?_
  have SH:∀ (j:Nat) (e':Em) (a':Act) (w':World) (t':Tm) (H':Hp) (q:KN),e.le e'->RH P.globals.size F W e' H' w'->lJ e' n t' a'->a'.defers=a.defers->
    (∀ e' a' w' t' H',e.le e'->RH P.globals.size F W e' H' w'->lJ e' n t' a'->a'.defers=a.defers->q t' H'=some r->Q .normal a' w')->
    (bif Nat.beq j i then q t' H' else ke j t' H')=some r->Exit.inBlock i Q (.exit j) a' w':=by
   intro j e' a' w' t' H' q he bw cC hd hq hk
   show (if j=i then Q .normal a' w' else Q (.exit j) a' w')
   cases hj:Nat.beq j i with
   | true=>
    rw[hj] at hk
    rw[if_pos (abp hj)]
    exact hq e' a' w' t' H' he bw cC hd hk
   | false=>
    rw[hj] at hk
    rw[if_neg (fun q=>by rw[q,agQ] at hj;cases hj)]
    exact kD j e' a' w' t' H' he bw cC hd hk
  split at hc
  ·rename_i x
   simp only[An.ok,aau] at ha
   refine ib x _ _ _ t H r ha.2 mV hc F W e a w _ hR hT ?_ ?_ ?_
   ·intro e' a' w' t' H' he bw cC hd hk
    exact fP e' a' w' t' H' he bw cC hd hk
   ·intro j e' a' w' t' H' he bw cC hd hk
    exact SH j e' a' w' t' H' kn he bw cC hd fP hk
   ·intro e' a' w' t' H' he bw cC hd hk
    exact ku e' a' w' t' H' he bw cC hd hk
  ·rename_i lv x
   simp only[An.ok,aau,afG] at ha
   have AQ:=Q2 ha.1
   unfold JN at hc
   have hj:∀ e' a' w' t' H',e.le e'->RH P.globals.size F W e' H' w'->lJ e' n t' a'->a'.defers=a.defers->app lv.length (abs lv.length fun l H=>kn (cz n lv l) H) (ax lv t') H'=some r->Q .normal a' w':=by
    intro e' a' w' t' H' he bw cC hd hk
    replace hk:=(ot (n:=n) rfl).symm.trans hk
    exact fP e' a' w' _ H' he bw (cC.rZ AQ) hd hk
   refine ib x _ _ _ t H r ha.2 mV hc F W e a w _ hR hT ?_ ?_ ?_
   ·intro e' a' w' t' H' he bw cC hd hk
    exact hj e' a' w' t' H' he bw cC hd hk
   ·intro j e' a' w' t' H' he bw cC hd hk
    exact SH j e' a' w' t' H' (fun t H=>app lv.length (abs lv.length fun l H=>kn (cz n lv l) H) (ax lv t) H) he bw cC hd hj hk
   ·intro e' a' w' t' H' he bw cC hd hk
    exact ku e' a' w' t' H' he bw cC hd hk
  ·cases hc
 | loop b ib=>
  intro an kn ke kr t H r ha mV hc F W e a w Q hR hT fP kD ku
  unfold bA at hc
  split at hc
  ·rename_i lv x
   simp only[An.ok,aau] at ha
   have AQ:=Q2 ha.1
   unfold LP at hc
   replace hc:=(ot (n:=n) rfl).symm.trans hc
   obtain⟨L,hL⟩:=Ck hc
   refine PB ?_
   have key:∀ (L:Nat) (e:Em) (a:Act) (w:World) (t:Tm) (H:Hp),app lv.length (iv lv.length (fun k=>abs lv.length fun l H=>bA P aZ cf n b x (fun t H=>app lv.length k (ax lv t) H) ke kr (cz n lv l) H) L) (ax lv t) H=some r->
     RH P.globals.size F W e H w->lJ e n t a->(∀ i,ze P r F W n e a.defers (ke i) (.exit i) Q)->ze P r F W n e a.defers kr .ret Q->xv P b Q a w:=by
    intro L
    induction L with
    | zero=>
     intro e a w t H hq _ _ _ _
     replace hq:=(ot (m:=lv.length) (n:=n) (k:=fun _ _=>none) rfl).symm.trans hq
     cases hq
    | succ L ih=>
     intro e a w t H hq hR hT kD ku
     replace hq:=(ot (m:=lv.length) (n:=n) (k:=fun l H=>bA P aZ cf n b x (fun t H=>app lv.length (iv lv.length (fun k=>abs lv.length fun l H=>bA P aZ cf n b x (fun t H=>app lv.length k (ax lv t) H) ke kr (cz n lv l) H) L) (ax lv t) H) ke kr (cz n lv l) H) rfl).symm.trans hq
     refine PJ ?_
     refine ib x _ _ _ _ H r ha.2 mV hq F W e a w _ hR (hT.rZ AQ) ?_ ?_ ?_
     ·intro e' a' w' t' H' he bw cC hd hk
      refine ih e' a' w' t' H' hk bw cC ?_ ?_
      ·intro i;rw[hd];exact (kD i).mono he
      ·rw[hd];exact ku.mono he
     ·intro i e' a' w' t' H' he bw cC hd hk
      exact kD i e' a' w' t' H' he bw cC hd hk
     ·intro e' a' w' t' H' he bw cC hd hk
      exact ku e' a' w' t' H' he bw cC hd hk
   exact key L e a w t H hL hR hT kD ku
  ·cases hc
 | exit i=>
  intro an kn ke kr t H r ha mV hc F W e a w Q hR hT fP kD ku
  unfold bA at hc
  exact wp_exit (kD i e a w t H e.le_refl hR hT rfl hc)
 | ret=>
  intro an kn ke kr t H r ha mV hc F W e a w Q hR hT fP kD ku
  unfold bA at hc
  exact wp_ret (ku e a w t H e.le_refl hR hT rfl hc)
 | region id ops d=>
  intro an kn ke kr t H r ha mV hc F W e a w Q hR hT fP kD ku
  unfold bA at hc
  obtain⟨t1,H1,h1,h2⟩:=gw cf n ops d t H kn r hc
  have jd:=ain h1 hT.2
  have fin:∀ e' a' w',e.le e'->RH P.globals.size F W e' H1 w'->TR e' n t1 a'->a'.defers=a.defers->Q .normal a' w':=fun e' a' w' he bw cC hd=>fP e' a' w' t1 H1 he bw ⟨cC,jd⟩ hd h2
  cases d with
  | true=>exact TG hm gr h1 hR hT.1 fin
  | false=>
   refine wp_region ?_
   have:=T7 (Q:=Q) gr ops.toList 0 t H e a w (by simp) h1 hR hT.1 fin
   rw[List.range_eq_range']
   simpa using this
 | _=>
  intro an kn ke kr t H r ha mV hc
  unfold bA at hc
  cases hc
def Ev (p:Nat->Prop):Prop:=∃ k0,∀ k,k0<=k->p k
theorem Ev.of {p:Nat->Prop}(h:∀ k,p k):Ev p:=⟨0,fun k _=>h k⟩
def rz (f:Nat->CF)(g:CF):Prop:=∀ x l H r,g x l H=some r->Ev fun k=>f k x l H=some r
def vR (f:Nat->KN)(g:KN):Prop:=∀ t H r,g t H=some r->Ev fun k=>f k t H=some r
def vL (aZ:qO):Prop:=∀ (cO:Nat->CF) (cf:CF) (kJ:Nat->KN) (kn:KN) (n:Nat) (ops:Array Oper) (d:Bool) (t:Tm) (H:Hp) (r:AV × Hp),rz cO cf->vR kJ kn->aZ cf n ops d t H kn=some r->Ev fun k=>aZ (cO k) n ops d t H (kJ k)=some r
theorem Jo (gw:vL aZ){n:Nat}:∀ (c:Code) (an:An) (cO:Nat->CF) (cf:CF) (kJ:Nat->KN) (kn:KN) (lX:Nat->Nat->KN) (ke:Nat->KN) (kG:Nat->KN) (kr:KN) (t:Tm) (H:Hp) (r:AV × Hp),
  rz cO cf->vR kJ kn->(∀ i,vR (fun k=>lX k i) (ke i))->vR kG kr->bA P aZ cf n c an kn ke kr t H=some r->Ev fun k=>bA P aZ (cO k) n c an (kJ k) (lX k) (kG k) t H=some r:=by
 intro c
 induction c with
 | skip=>intro an cO cf kJ kn lX ke kG kr t H r h1 h2 h3 h4 hc;unfold bA at hc ⊢;exact h2 t H r hc
 | label l=>intro an cO cf kJ kn lX ke kG kr t H r h1 h2 h3 h4 hc;unfold bA at hc ⊢;exact h2 t H r hc
 | seq c1 c2 i1 i2=>
  intro an cO cf kJ kn lX ke kG kr t H r h1 h2 h3 h4 hc
  unfold bA at hc ⊢
  cases an with
  | sq j x y=>
   cases j with
   | none=>exact i1 x cO cf _ _ lX ke kG kr t H r h1 (fun t H r h=>i2 y cO cf kJ kn lX ke kG kr t H r h1 h2 h3 h4 h) h3 h4 hc
   | some lv=>
    simp only[JN] at hc ⊢
    refine i1 x cO cf _ _ lX ke kG kr t H r h1 (fun t H r h => ?_) h3 h4 hc
    replace h:=(ot (n:=n) rfl).symm.trans h
    obtain⟨k0,hk⟩:=i2 y cO cf kJ kn lX ke kG kr _ H r h1 h2 h3 h4 h
    exact⟨k0,fun k hle=>(ot (n:=n) rfl).trans (hk k hle)⟩
  | pr lv p=>
   simp only at hc ⊢
   obtain⟨H2,q1,q2⟩:=eE hc
   obtain⟨k0,hk⟩:=h2 _ H2 r q2
   exact⟨k0,fun k hle=>by rw[q1];exact hk k hle⟩
  | _=>cases hc
 | cond x c1 c2 i1 i2=>
  intro an cO cf kJ kn lX ke kG kr t H r h1 h2 h3 h4 hc
  unfold bA at hc ⊢
  cases an with
  | cd y z=>
   simp only[CD] at hc ⊢
   cases hv:ev P.globals.size t x<;>rw[hv] at hc<;>simp only at hc ⊢ <;> try (cases hc;done)
   rename_i q
   cases q with
   | true=>exact i1 y cO cf kJ kn lX ke kG kr t H r h1 h2 h3 h4 hc
   | false=>exact i2 z cO cf kJ kn lX ke kG kr t H r h1 h2 h3 h4 hc
  | _=>cases hc
 | block i b ib=>
  intro an cO cf kJ kn lX ke kG kr t H r h1 h2 h3 h4 hc
  unfold bA at hc ⊢
  cases an with
  | bl j x=>
   cases j with
   | none=>
    refine ib x cO cf kJ kn _ _ kG kr t H r h1 h2 (fun q t H r h => ?_) h4 hc
    cases hq:Nat.beq q i with
    | true=>rw[hq] at h;simp only[hq,cond_true];exact h2 t H r h
    | false=>rw[hq] at h;simp only[hq,cond_false];exact h3 q t H r h
   | some lv=>
    simp only[JN] at hc ⊢
    have hj:vR (fun k=>fun t H=>app lv.length (abs lv.length fun l H=>kJ k (cz n lv l) H) (ax lv t) H) (fun t H=>app lv.length (abs lv.length fun l H=>kn (cz n lv l) H) (ax lv t) H):=by
     intro t H r h
     replace h:=(ot (n:=n) rfl).symm.trans h
     obtain⟨k0,hk⟩:=h2 _ H r h
     exact⟨k0,fun k hle=>(ot (n:=n) rfl).trans (hk k hle)⟩
    refine ib x cO cf _ _ _ _ kG kr t H r h1 hj (fun q t H r h => ?_) h4 hc
    cases hq:Nat.beq q i with
    | true=>rw[hq] at h;simp only[hq,cond_true];exact hj t H r h
    | false=>rw[hq] at h;simp only[hq,cond_false];exact h3 q t H r h
  | _=>cases hc
 | loop b ib=>
  intro an cO cf kJ kn lX ke kG kr t H r h1 h2 h3 h4 hc
  unfold bA at hc ⊢
  cases an with
  | lp lv x=>
   simp only at hc ⊢
   have const:∀ (f:CF),rz (fun _=>f) f:=fun f x l H r h=>Ev.of fun _=>h
   have qp:∀ (f:KN),vR (fun _=>f) f:=fun f t H r h=>Ev.of fun _=>h
   have mono:∀ (f:CF) (ke:Nat->KN) (kr:KN) (L L':Nat) (t:Tm) (H:Hp) (r:AV × Hp),L<=L'->app lv.length (iv lv.length (fun k=>abs lv.length fun l H=>bA P aZ f n b x (fun t H=>app lv.length k (ax lv t) H) ke kr (cz n lv l) H) L) (ax lv t) H=some r->
     app lv.length (iv lv.length (fun k=>abs lv.length fun l H=>bA P aZ f n b x (fun t H=>app lv.length k (ax lv t) H) ke kr (cz n lv l) H) L') (ax lv t) H=some r:=by
    intro f ke kr L
    induction L with
    | zero=>
     intro L' t H r _ h
     rw[show iv lv.length _ 0=abs lv.length (fun _ _=>none) from rfl,ot (n:=n) rfl] at h
     cases h
    | succ L ih=>
     intro L' t H r hle h
     obtain⟨L2,rfl⟩:∃ L2,L'=L2+1:=⟨L'-1,by omega⟩
     rw[show iv lv.length _ (L+1)=abs lv.length _ from rfl,ot (n:=n) rfl] at h
     rw[show iv lv.length _ (L2+1)=abs lv.length _ from rfl,ot (n:=n) rfl]
     obtain⟨k0,hk⟩:=ib x (fun _=>f) f (fun _=>fun t H=>app lv.length (iv lv.length _ L2) (ax lv t) H) (fun t H=>app lv.length (iv lv.length _ L) (ax lv t) H) (fun _=>ke) ke (fun _=>kr) kr _ H r (const f) (fun t H r h=>Ev.of fun _=>ih L2 t H r (by omega) h) (fun i=>qp (ke i)) (qp kr) h
     exact hk k0 (aaC _)
   have uniq:∀ (f:CF) (ke:Nat->KN) (kr:KN) (t:Tm) (H:Hp) (L L':Nat) (r r':AV × Hp),app lv.length (iv lv.length (fun k=>abs lv.length fun l H=>bA P aZ f n b x (fun t H=>app lv.length k (ax lv t) H) ke kr (cz n lv l) H) L) (ax lv t) H=some r->
     app lv.length (iv lv.length (fun k=>abs lv.length fun l H=>bA P aZ f n b x (fun t H=>app lv.length k (ax lv t) H) ke kr (cz n lv l) H) L') (ax lv t) H=some r'->r=r':=by
    intro f ke kr t H L L' r r' h h'
    rcases Nat.le_total L L' with q | q
    ·have:=mono f ke kr L L' t H r q h
     rw[this] at h';exact acN h'
    ·have:=mono f ke kr L' L t H r' q h'
     rw[h] at this;exact acN this
   have afT:∀ (f:CF) (ke:Nat->KN) (kr:KN) (t:Tm) (H:Hp) (L:Nat) (r:AV × Hp),app lv.length (iv lv.length (fun k=>abs lv.length fun l H=>bA P aZ f n b x (fun t H=>app lv.length k (ax lv t) H) ke kr (cz n lv l) H) L) (ax lv t) H=some r->
     app lv.length (LP lv.length (fun k=>abs lv.length fun l H=>bA P aZ f n b x (fun t H=>app lv.length k (ax lv t) H) ke kr (cz n lv l) H)) (ax lv t) H=some r:=by
    intro f ke kr t H L r h
    unfold LP
    rw[ot (n:=n) rfl]
    exact I4 h (uniq f ke kr t H)
   have ZH:∀ (f:CF) (ke:Nat->KN) (kr:KN) (t:Tm) (H:Hp) (r:AV × Hp),app lv.length (LP lv.length (fun k=>abs lv.length fun l H=>bA P aZ f n b x (fun t H=>app lv.length k (ax lv t) H) ke kr (cz n lv l) H)) (ax lv t) H=some r->
     ∃ L,app lv.length (iv lv.length (fun k=>abs lv.length fun l H=>bA P aZ f n b x (fun t H=>app lv.length k (ax lv t) H) ke kr (cz n lv l) H) L) (ax lv t) H=some r:=by
    intro f ke kr t H r h
    unfold LP at h
    replace h:=(ot (n:=n) rfl).symm.trans h
    exact Ck h
   have roll:∀ (f:CF) (ke:Nat->KN) (kr:KN) (t:Tm) (H:Hp) (r:AV × Hp),bA P aZ f n b x (fun t H=>app lv.length (LP lv.length (fun k=>abs lv.length fun l H=>bA P aZ f n b x (fun t H=>app lv.length k (ax lv t) H) ke kr (cz n lv l) H)) (ax lv t) H) ke kr (cz n lv (ax lv t)) H=some r->
     app lv.length (LP lv.length (fun k=>abs lv.length fun l H=>bA P aZ f n b x (fun t H=>app lv.length k (ax lv t) H) ke kr (cz n lv l) H)) (ax lv t) H=some r:=by
    intro f ke kr t H r h
    obtain⟨k0,hk⟩:=ib x (fun _=>f) f (fun L=>fun t H=>app lv.length (iv lv.length (fun k=>abs lv.length fun l H=>bA P aZ f n b x (fun t H=>app lv.length k (ax lv t) H) ke kr (cz n lv l) H) L) (ax lv t) H) _ (fun _=>ke) ke (fun _=>kr) kr _ H r (const f)
     (fun t H r h=>by
      obtain⟨L,hL⟩:=ZH f ke kr t H r h
      exact⟨L,fun k hle=>mono f ke kr L k t H r hle hL⟩) (fun i=>qp (ke i)) (qp kr) h
    refine afT f ke kr t H (k0+1) r ?_
    rw[show iv lv.length _ (k0+1)=abs lv.length _ from rfl,ot (n:=n) rfl]
    exact hk k0 (aaC _)
   obtain⟨L,hL⟩:=ZH cf ke kr t H r hc
   clear hc
   induction L generalizing t H r with
   | zero=>
    rw[show iv lv.length _ 0=abs lv.length (fun _ _=>none) from rfl,ot (n:=n) rfl] at hL
    cases hL
   | succ L ih=>
    rw[show iv lv.length _ (L+1)=abs lv.length _ from rfl,ot (n:=n) rfl] at hL
    obtain⟨k0,hk⟩:=ib x cO cf (fun k=>fun t H=>app lv.length (LP lv.length (fun q=>abs lv.length fun l H=>bA P aZ (cO k) n b x (fun t H=>app lv.length q (ax lv t) H) (lX k) (kG k) (cz n lv l) H)) (ax lv t) H) _ lX ke kG kr _ H r h1 (fun t H r h=>ih t H r h) h3 h4 hL
    exact⟨k0,fun k hle=>roll (cO k) (lX k) (kG k) t H r (hk k hle)⟩
  | _=>cases hc
 | exit i=>intro an cO cf kJ kn lX ke kG kr t H r h1 h2 h3 h4 hc;unfold bA at hc ⊢;exact h3 i t H r hc
 | ret=>intro an cO cf kJ kn lX ke kG kr t H r h1 h2 h3 h4 hc;unfold bA at hc ⊢;exact h4 t H r hc
 | region id ops d=>intro an cO cf kJ kn lX ke kG kr t H r h1 h2 h3 h4 hc;unfold bA at hc ⊢;exact gw cO cf kJ kn n ops d t H r h1 h2 hc
 | _=>
  intro an cO cf kJ kn lX ke kG kr t H r h1 h2 h3 h4 hc
  unfold bA at hc
  cases hc
end K
end
set_option linter.unusedVariables false
set_option linter.unusedSimpArgs false
namespace K
section
variable {P:Program}{aZ:qO}
theorem anh (gw:vL aZ)(f:CF)(n:Nat)(b:Code)(x:An)(lv:List Nat)(ke:Nat->KN)(kr:KN)(l:List AV)(hl:l.length=lv.length)(H:Hp) :
  app lv.length (LP lv.length (fun k=>abs lv.length fun l H=>bA P aZ f n b x (fun t H=>app lv.length k (ax lv t) H) ke kr (cz n lv l) H)) l H=
   bA P aZ f n b x (fun t H=>app lv.length (LP lv.length (fun k=>abs lv.length fun l H=>bA P aZ f n b x (fun t H=>app lv.length k (ax lv t) H) ke kr (cz n lv l) H)) (ax lv t) H) ke kr (cz n lv l) H:=by
 have const:rz (fun _=>f) f:=fun x l H r h=>Ev.of fun _=>h
 have qp:∀ (f:KN),vR (fun _=>f) f:=fun f t H r h=>Ev.of fun _=>h
 have Lu:∀ (L:Nat) (l:List AV) (H:Hp),l.length=lv.length->app lv.length (iv lv.length (fun k=>abs lv.length fun l H=>bA P aZ f n b x (fun t H=>app lv.length k (ax lv t) H) ke kr (cz n lv l) H) (L+1)) l H=
   bA P aZ f n b x (fun t H=>app lv.length (iv lv.length (fun k=>abs lv.length fun l H=>bA P aZ f n b x (fun t H=>app lv.length k (ax lv t) H) ke kr (cz n lv l) H) L) (ax lv t) H) ke kr (cz n lv l) H:=fun L l H hl=>by
  rw[show iv lv.length _ (L+1)=abs lv.length _ from rfl,Ey _ _ _ _ hl]
 have zero:∀ (l:List AV) (H:Hp),l.length=lv.length->app lv.length (iv lv.length (fun k=>abs lv.length fun l H=>bA P aZ f n b x (fun t H=>app lv.length k (ax lv t) H) ke kr (cz n lv l) H) 0) l H=none:=fun l H hl=>by
  rw[show iv lv.length _ 0=abs lv.length (fun _ _=>none) from rfl,Ey _ _ _ _ hl]
 have mono:∀ (L L':Nat) (l:List AV) (H:Hp) (r:AV × Hp),l.length=lv.length->L<=L'->app lv.length (iv lv.length (fun k=>abs lv.length fun l H=>bA P aZ f n b x (fun t H=>app lv.length k (ax lv t) H) ke kr (cz n lv l) H) L) l H=some r->
   app lv.length (iv lv.length (fun k=>abs lv.length fun l H=>bA P aZ f n b x (fun t H=>app lv.length k (ax lv t) H) ke kr (cz n lv l) H) L') l H=some r:=by
  intro L
  induction L with
  | zero=>intro L' l H r hl _ h;rw[zero l H hl] at h;cases h
  | succ L ih=>
   intro L' l H r hl hle h
   obtain⟨L2,rfl⟩:∃ L2,L'=L2+1:=⟨L'-1,by omega⟩
   rw[Lu L l H hl] at h
   rw[Lu L2 l H hl]
   obtain⟨k0,hk⟩:=Jo gw b x (fun _=>f) f (fun _=>_) _ (fun _=>ke) ke (fun _=>kr) kr _ H r const (fun t H r h=>Ev.of fun _=>ih L2 (ax lv t) H r (BL lv t) (by omega) h) (fun i=>qp (ke i)) (qp kr) h
   exact hk k0 (aaC _)
 have uniq:∀ (l:List AV) (H:Hp),l.length=lv.length->∀ (L L':Nat) (r r':AV × Hp),app lv.length (iv lv.length (fun k=>abs lv.length fun l H=>bA P aZ f n b x (fun t H=>app lv.length k (ax lv t) H) ke kr (cz n lv l) H) L) l H=some r->
   app lv.length (iv lv.length (fun k=>abs lv.length fun l H=>bA P aZ f n b x (fun t H=>app lv.length k (ax lv t) H) ke kr (cz n lv l) H) L') l H=some r'->r=r':=by
  intro l H hl L L' r r' h h'
  rcases Nat.le_total L L' with q | q
  ·have:=mono L L' l H r hl q h
   rw[this] at h';exact acN h'
  ·have:=mono L' L l H r' hl q h'
   rw[h] at this;exact acN this
 have Je:∀ (l:List AV) (H:Hp),l.length=lv.length->app lv.length (LP lv.length (fun k=>abs lv.length fun l H=>bA P aZ f n b x (fun t H=>app lv.length k (ax lv t) H) ke kr (cz n lv l) H)) l H=lim (fun L=>app lv.length (iv lv.length (fun k=>abs lv.length fun l H=>bA P aZ f n b x (fun t H=>app lv.length k (ax lv t) H) ke kr (cz n lv l) H) L) l H):=fun l H hl=>by
  unfold LP
  rw[Ey _ _ _ _ hl]
 have fwd:∀ (r:AV × Hp),app lv.length (LP lv.length (fun k=>abs lv.length fun l H=>bA P aZ f n b x (fun t H=>app lv.length k (ax lv t) H) ke kr (cz n lv l) H)) l H=some r->
   bA P aZ f n b x (fun t H=>app lv.length (LP lv.length (fun k=>abs lv.length fun l H=>bA P aZ f n b x (fun t H=>app lv.length k (ax lv t) H) ke kr (cz n lv l) H)) (ax lv t) H) ke kr (cz n lv l) H=some r:=by
  intro r h
  rw[Je l H hl] at h
  obtain⟨L,hL⟩:=Ck h
  cases L with
  | zero=>rw[zero l H hl] at hL;cases hL
  | succ L=>
   rw[Lu L l H hl] at hL
   obtain⟨k0,hk⟩:=Jo gw b x (fun _=>f) f (fun _=>fun t H=>app lv.length (LP lv.length (fun k=>abs lv.length fun l H=>bA P aZ f n b x (fun t H=>app lv.length k (ax lv t) H) ke kr (cz n lv l) H)) (ax lv t) H) _ (fun _=>ke) ke (fun _=>kr) kr _ H r const
    (fun t H r h=>Ev.of fun _=>(Je _ H (BL lv t)).trans (I4 h (uniq _ H (BL lv t)))) (fun i=>qp (ke i)) (qp kr) hL
   exact hk k0 (aaC _)
 have bwd:∀ (r:AV × Hp),bA P aZ f n b x (fun t H=>app lv.length (LP lv.length (fun k=>abs lv.length fun l H=>bA P aZ f n b x (fun t H=>app lv.length k (ax lv t) H) ke kr (cz n lv l) H)) (ax lv t) H) ke kr (cz n lv l) H=some r->
   app lv.length (LP lv.length (fun k=>abs lv.length fun l H=>bA P aZ f n b x (fun t H=>app lv.length k (ax lv t) H) ke kr (cz n lv l) H)) l H=some r:=by
  intro r h
  obtain⟨k0,hk⟩:=Jo gw b x (fun _=>f) f (fun L=>fun t H=>app lv.length (iv lv.length (fun k=>abs lv.length fun l H=>bA P aZ f n b x (fun t H=>app lv.length k (ax lv t) H) ke kr (cz n lv l) H) L) (ax lv t) H) _ (fun _=>ke) ke (fun _=>kr) kr _ H r const
   (fun t H r h=>by
    replace h:=(Je _ H (BL lv t)).symm.trans h
    obtain⟨L,hL⟩:=Ck h
    exact⟨L,fun k hle=>mono L k _ H r (BL lv t) hle hL⟩) (fun i=>qp (ke i)) (qp kr) h
  rw[Je l H hl]
  refine I4 (L:=k0+1) ?_ (uniq l H hl)
  rw[Lu k0 l H hl]
  exact hk k0 (aaC _)
 cases h1:app lv.length (LP lv.length (fun k=>abs lv.length fun l H=>bA P aZ f n b x (fun t H=>app lv.length k (ax lv t) H) ke kr (cz n lv l) H)) l H with
 | some r=>exact (fwd r h1).symm
 | none=>
  cases h2:bA P aZ f n b x (fun t H=>app lv.length (LP lv.length (fun k=>abs lv.length fun l H=>bA P aZ f n b x (fun t H=>app lv.length k (ax lv t) H) ke kr (cz n lv l) H)) (ax lv t) H) ke kr (cz n lv l) H with
  | none=>rfl
  | some r=>rw[bwd r h2] at h1;cases h1
end
def Az (P:Program)(t:Tm)(H:Hp):List ResultVar->(List AV->R)->R
 | [],k=>k []
 | .tmp x::r,k=>Az P t H r fun l=>k ((t.get x).getD bJ::l)
 | .cell a ty::r,k=>match va P ty,sz P ty with
  | some true,some n=>B1 (aA n ((t.get a).getD bJ) H) fun v=>Az P t H r fun l=>k (v::l)
  | some false,_=>B1 (ld ((t.get a).getD bJ) H) fun v=>Az P t H r fun l=>k (v::l)
  | _,_=>none
def Bt (P:Program)(t:Tm)(H:Hp)(l:List ResultVar):R:=Az P t H l fun vs=>some (KK vs,H)
theorem amE {P:Program}{ty:TypeId}{x v:AV}{H:Hp}(ha:va P ty=some false)(h:ld x H=some v):rJ P H ty x=some v:=by
 unfold ld at h
 split at h
 ·unfold rJ
  simp only[ha,acC,acK,aby,if_false,h]
 ·cases h
theorem aop {P:Program}{ty:TypeId}{n:Nat}{x v:AV}{H:Hp}(ha:va P ty=some true)(hs:sz P ty=some n)(h:aA n x H=some v):rJ P H ty x=some v:=by
 unfold aA at h
 split at h
 ·rename_i i off
  unfold rJ
  simp only[ha,hs,acC,acK,if_true]
  cases hc:ar H i off n with
  | none=>rw[hc] at h;cases h
  | some l=>rw[hc] at h;cases h;rfl
 ·cases h
theorem HD {P:Program}{t:Tm}{H:Hp}:∀ (l:List ResultVar) (k:List AV->R) (r:AV × Hp),Az P t H l k=some r->∃ vs,sS P t H l=some vs/\k vs=some r
 | [],k,r,h=>⟨[],rfl,h⟩
 | .tmp x::l,k,r,h=>by
  unfold Az at h
  obtain⟨vs,h1,h2⟩:=HD l _ r h
  exact⟨_,by unfold sS;rw[h1],h2⟩
 | .cell a ty::l,k,r,h=>by
  unfold Az at h
  split at h
  ·rename_i n ha hs
   obtain⟨v,q1,q2⟩:=eE h
   obtain⟨vs,h1,h2⟩:=HD l _ r q2
   exact⟨_,by unfold sS;rw[aop ha hs q1,h1],h2⟩
  ·rename_i q ha hs
   obtain⟨v,q1,q2⟩:=eE h
   obtain⟨vs,h1,h2⟩:=HD l _ r q2
   exact⟨_,by unfold sS;rw[amE hs q1,h1],h2⟩
  ·cases h
def Gk (n:Nat)(args:List AV):Tm:=Tr.bY .nil 0 (args++List.replicate (n-args.length) bJ)
noncomputable section
def afS (P:Program)(aZ:qO)(cf:CF)(fn:Func)(an:An)(b:Code)(args:List AV)(H:Hp):R:=
 bA P aZ cf fn.ntmps b an (fun t H=>Bt P t H fn.results.toList) (fun _ _ _=>none) (fun t H=>Bt P t H fn.results.toList) (Gk fn.ntmps args) H
def vD (P:Program)(aZ:qO)(ext:Nat->Option Ext)(aQ:Nat->Option Prim)(an:Nat->An)(cf:CF):CF:=fun g args H=>
 match g with
 | .func (.func aX) first cap=>
  match aQ aX with
  | some p=>p (first++args++cap) H
  | none=>match P.funcs[aX]? with
   | some fn=>match fn.body with
    | some b=>bif Nat.ble (first++args++cap).length fn.ntmps&&Nat.blt fn.ntmps 4294967296&&(an aX).ok fn.ntmps then afS P aZ cf fn (an aX) b (first++args++cap) H else none
    | none=>match ext aX with
     | some k=>DN P k (first++args++cap) H
     | none=>none
   | none=>none
 | _=>none
def SK (P:Program)(aZ:qO)(ext:Nat->Option Ext)(aQ:Nat->Option Prim)(an:Nat->An):Nat->CF
 | 0=>fun _ _ _=>none
 | k+1=>vD P aZ ext aQ an (SK P aZ ext aQ an k)
def CK (P:Program)(aZ:qO)(ext:Nat->Option Ext)(aQ:Nat->Option Prim)(an:Nat->An):CF:=fun g args H=>lim fun k=>SK P aZ ext aQ an k g args H
end
section
variable {P:Program}{aZ:qO}{ext:Nat->Option Ext}{aQ:Nat->Option Prim}{an:Nat->An}
theorem Yz (gw:vL aZ){cO:Nat->CF}{cf:CF}(h:rz cO cf):rz (fun k=>vD P aZ ext aQ an (cO k)) (vD P aZ ext aQ an cf):=by
 intro g args H r hc
 unfold vD at hc ⊢
 cases g<;>try (cases hc;done)
 rename_i fn first cap
 cases fn<;>try (cases hc;done)
 rename_i aX
 simp only at hc ⊢
 cases hp:aQ aX with
 | some p=>rw[hp] at hc;exact Ev.of fun _=>hc
 | none=>
  rw[hp] at hc
  simp only at hc ⊢
  cases hf:P.funcs[aX]? with
  | none=>rw[hf] at hc;cases hc
  | some fn=>
   rw[hf] at hc
   simp only at hc ⊢
   cases hb:fn.body with
   | none=>rw[hb] at hc;exact Ev.of fun _=>hc
   | some b=>
    rw[hb] at hc
    simp only at hc ⊢
    cases hk:(Nat.ble (first++args++cap).length fn.ntmps&&Nat.blt fn.ntmps 4294967296&&(an aX).ok fn.ntmps) with
    | false=>rw[hk] at hc;cases hc
    | true=>
     rw[hk] at hc
     simp only[cond_true] at hc ⊢
     have qp:∀ (f:KN),vR (fun _=>f) f:=fun f t H r h=>Ev.of fun _=>h
     exact Jo gw b (an aX) cO cf _ _ _ _ _ _ _ H r h (qp _) (fun i=>qp _) (qp _) hc
theorem XV (gw:vL aZ):∀ k,rz (fun _=>SK P aZ ext aQ an (k+1)) (SK P aZ ext aQ an k)
 | 0=>fun g l H r h=>by cases h
 | k+1=>fun g l H r h=>by
  obtain⟨k0,hk⟩:=Yz (P:=P) (ext:=ext) (aQ:=aQ) (an:=an) gw (XV gw k) g l H r h
  exact Ev.of fun _=>hk k0 (aaC _)
theorem Ou (gw:vL aZ){g:AV}{l:List AV}{H:Hp}{r:AV × Hp}:∀ {j k:Nat},j<=k->SK P aZ ext aQ an j g l H=some r->SK P aZ ext aQ an k g l H=some r:=by
 intro j k hle h
 induction hle with
 | refl=>exact h
 | step _ ih=>
  obtain⟨k0,hk⟩:=XV gw _ g l H r ih
  exact hk k0 (aaC _)
theorem apv (gw:vL aZ){g:AV}{l:List AV}{H:Hp}(j k:Nat)(r r':AV × Hp)(h:SK P aZ ext aQ an j g l H=some r)(h':SK P aZ ext aQ an k g l H=some r'):r=r':=by
 rcases Nat.le_total j k with q | q
 ·rw[Ou gw q h] at h';exact acN h'
 ·have:=Ou gw q h'
  rw[h] at this;exact acN this
theorem ao4 (gw:vL aZ):rz (SK P aZ ext aQ an) (CK P aZ ext aQ an):=by
 intro g l H r h
 obtain⟨k0,hk⟩:=Ck h
 exact⟨k0,fun k hle=>Ou gw hle hk⟩
theorem MQ (gw:vL aZ){g:AV}{l:List AV}{H:Hp}{r:AV × Hp}(h:vD P aZ ext aQ an (CK P aZ ext aQ an) g l H=some r):CK P aZ ext aQ an g l H=some r:=by
 obtain⟨k0,hk⟩:=Yz (P:=P) (ext:=ext) (aQ:=aQ) (an:=an) gw (ao4 gw) g l H r h
 exact I4 (L:=k0+1) (hk k0 (aaC _)) (fun j k r r'=>apv gw j k r r')
theorem ahT (hm:P.follows .mixedOrders=true)(hN:od P)(hE:wC P ext)(hP:tn P aQ)(gw:BG P aZ)(hA:vT P an){cf:CF}(gr:sy P cf):sy P (vD P aZ ext aQ an cf):=by
 intro g args H v H' hc
 unfold vD at hc
 split at hc
 ·rename_i aX first cap
  refine⟨aX,first,cap,rfl,?_⟩
  intro F W e w aR hR lh
  split at hc
  ·rename_i p hp
   exact .inr (hP aX p hp _ H v H' hc F W e w aR hR lh)
  ·split at hc
   ·rename_i fn hf
    split at hc
    ·rename_i b hb
     cases hle:(Nat.ble (first++args++cap).length fn.ntmps&&Nat.blt fn.ntmps 4294967296&&(an aX).ok fn.ntmps) with
     | false=>rw[hle] at hc;cases hc
     | true=>
     rw[hle] at hc
     simp only[cond_true] at hc
     rw[aau,aau,aer,adE] at hle
     refine .inr ⟨vq hN hf hb aR w,?_⟩
     have hlen:aR.size=(first++args++cap).length:=by have:=lh.1;simpa using this
     have hT:lJ e fn.ntmps (Gk fn.ntmps (first++args++cap)) { tmps:=aR++Array.replicate (fn.ntmps-aR.size) undef,defers:=[] }:=by
      have fT:((first++args++cap)++List.replicate (fn.ntmps-(first++args++cap).length) bJ).length=fn.ntmps:=by
       rw[aaX,aeF];omega
      refine⟨⟨by simp;omega,fun x => ?_⟩,fun x hx => ?_⟩
      ·unfold Gk
       rw[xB]
       simp only[adG,acD,true_and,agq,fT]
       by_cases hx:x<(first++args++cap).length
       ·rw[if_pos (by omega),abO hx]
        have h1:(first++args++cap)[x]? = some (first++args++cap)[x]:=aai hx
        obtain⟨v',h2,h3⟩:=lh.get h1
        rw[h1,afG,ae2,Array.getElem?_append_left (by omega),<-adS,h2]
        exact h3
       ·have hu:(aR++Array.replicate (fn.ntmps-aR.size) undef).getD x undef=undef:=by
         rw[ae2,Array.getElem?_append_right (by omega),Array.getElem?_replicate]
         split<;>rfl
        simp only[hu]
        split
        ·rw[abT (by omega),aif]
         split
         ·exact VR.undef
         ·exact VR.undef
        ·rw[Tr.get_nil];exact VR.undef
      ·unfold Gk
       rw[xB,fT,if_neg (by omega),Tr.get_nil]
     refine calls_of_wp hf hb (aox hm gw gr b (an aX) _ _ _ _ H (v,H') hle.2 (hA aX fn b hf hb) hc F W e _ w _ hR hT ?_ ?_ ?_)
     ·intro e' a' w' t' H2 he bw cC hd hk
      unfold Bt at hk
      obtain⟨vs,rF,fN⟩:=HD _ _ _ hk
      cases fN
      obtain⟨u,hu,gZ⟩:=Qt bw cC.1 rF
      exact⟨hd,u,hu,e',u,rfl,he,bw,gZ⟩
     ·intro i e' a' w' t' H2 he bw cC hd hk
      cases hk
     ·intro e' a' w' t' H2 he bw cC hd hk
      unfold Bt at hk
      obtain⟨vs,rF,fN⟩:=HD _ _ _ hk
      cases fN
      obtain⟨u,hu,gZ⟩:=Qt bw cC.1 rF
      exact⟨hd,u,hu,e',u,rfl,he,bw,gZ⟩
    ·rename_i hb
     split at hc
     ·rename_i k hk
      obtain⟨v',w',e',h1,h2,h3,h4⟩:=U2 hR lh hc
      refine .inl ⟨v',w',e',?_,h2,h3,h4⟩
      rw[hE aX k hk,Sem.run_bind,h1]
      rfl
     ·cases hc
   ·cases hc
 ·cases hc
theorem XP (hm:P.follows .mixedOrders=true)(hN:od P)(hE:wC P ext)(hP:tn P aQ)(gw:BG P aZ)(hA:vT P an):∀ k,sy P (SK P aZ ext aQ an k)
 | 0=>fun g args H v H' h=>by cases h
 | k+1=>ahT hm hN hE hP gw hA (XP hm hN hE hP gw hA k)
theorem ak4 (hm:P.follows .mixedOrders=true)(hN:od P)(hE:wC P ext)(hP:tn P aQ)(gw:BG P aZ)(hA:vT P an):sy P (CK P aZ ext aQ an):=by
 intro g args H v H' h
 obtain⟨k,hk⟩:=Ck h
 exact XP hm hN hE hP gw hA k g args H v H' hk
theorem ag2 (hm:P.follows .mixedOrders=true)(hN:od P)(hE:wC P ext)(hP:tn P aQ)(gw:BG P aZ)(hA:vT P an){g:Nat}{args:List AV}{H:Hp}{v:AV}{H':Hp}(h:CK P aZ ext aQ an (.func (.func g) [] []) args H=some (v,H')){fn:Func}{b:Code}
  (hf:P.funcs[g]? = some fn) (hb:fn.body=some b) {F:Nat->Prop} {W:World} {e:Em} {w:World} {aR:Array Value} (hR:RH P.globals.size F W e H w) (ha:aP e args aR.toList):Calls P g aR w (DH P.globals.size F W e v H'):=by
 obtain⟨aX,first,cap,hg,hs⟩:=ak4 hm hN hE hP gw hA _ _ _ _ _ h
 cases hg
 rcases hs F W e w aR hR (by simpa using ha) with⟨v',w',e',h1,_⟩ | ⟨_,h2⟩
 ·rw[vq hN hf hb] at h1
  cases h1
 ·exact h2
end
end K
end Go.Proofs.YtodfajmihkagnaaGreatDoor.Am
