/- Laws that the proof uses. -/
import Derived.Test.YtehhgkgeldinkaaGreatDoorAm15
set_option linter.unusedVariables false
set_option linter.unusedSimpArgs false
namespace Go.Proofs.YtehhgkgeldinkaaGreatDoor.Am
namespace Tr
variable {α:Type}
end Tr
namespace K
def al (H:Hp)(l:List AV)(el fl:Nat):Hp:=⟨H.h.put 34 H.next (.cells (Tr.dh .nil 0 l) 0 l.length el fl),H.next+1⟩
theorem Ns {H:Hp}{l:List AV}{el fl:Nat}(h:l.length<=16777216):cI H l el fl=some (H.next,al H l el fl):=by
 unfold cI alloc
 have:Nat.ble l.length 16777216=true:=ado.mpr h
 rw[this];rfl
theorem zC (H:Hp)(l:List AV)(el fl:Nat):(al H l el fl).next=H.next+1:=No rfl (id rfl)
theorem Y9 (H:Hp)(l:List AV)(el fl i:Nat):(al H l el fl).h.get i=if i=H.next then some (.cells (Tr.dh .nil 0 l) 0 l.length el fl) else H.h.get i:=Tr.fE _ _ _ _
theorem J8 (H:Hp)(l:List AV)(el fl:Nat):Cs (al H l el fl) H.next l el fl:=by
 refine⟨aeX _,Tr.dh .nil 0 l,by rw[Y9,if_pos rfl],fun k v hk => ?_⟩
 have:=(abf.1 hk).1
 rw[Cz,if_pos (by omega)];exact hk
theorem ES (H:Hp)(l:List AV)(el fl:Nat):Out [] H (al H l el fl):=⟨Nat.le_succ _,fun j hj _=>by rw[Y9,if_neg (by omega)]⟩
theorem Out.al {S:List Nat}{H H':Hp}(h:Out S H H')(l:List AV)(el fl:Nat):Out S H (al H' l el fl):=h.then (ES H' l el fl) fun j hj=>by cases hj
theorem YR {H H':Hp}{i o:Nat}(h:H'.h.get i=H.h.get i):cellAt H' i o=cellAt H i o:=by unfold cellAt;rw[h]
theorem Wo {H H':Hp}{i:Nat}(h:H'.h.get i=H.h.get i):∀ (n o:Nat),dQ H' i o n=dQ H i o n
 | 0,o=>rfl
 | n+1,o=>by unfold dQ;rw[YR h,Wo h n]
theorem Out.cellAt {S:List Nat}{H H':Hp}(h:Out S H H'){i o:Nat}(hi:i<H.next)(hs:i∉S):cellAt H' i o=Am.cellAt H i o:=YR (h.2 i hi hs)
theorem Out.dQ {S:List Nat}{H H':Hp}(h:Out S H H'){i o n:Nat}(hi:i<H.next)(hs:i∉S):dQ H' i o n=Am.dQ H i o n:=Wo (h.2 i hi hs) _ _
def lW (l:List AV)(o:Nat):List AV->List AV
 | []=>l
 | v::vs=>lW (l.set o v) (o+1) vs
theorem Th:∀ (vs l:List AV) (o:Nat),(lW l o vs).length=l.length
 | [],l,o=>rfl
 | v::vs,l,o=>by rw[lW,Th vs,ahm]
theorem OM:∀ (vs l:List AV) (o k:Nat),o+vs.length<=l.length->(lW l o vs)[k]? = if o<=k/\k<o+vs.length then vs[k-o]? else l[k]?
 | [],l,o,k,h=>by rw[if_neg (by simp only[abY];omega)];rfl
 | v::vs,l,o,k,h=>by
  simp only[abn] at h ⊢
  rw[lW,OM vs _ _ _ (by rw[ahm];omega)]
  by_cases h1:o+1<=k/\k<o+1+vs.length
  ·rw[if_pos h1,if_pos (by omega),show k-o=(k-(o+1))+1 by omega,gk]
  ·rw[if_neg h1]
   by_cases h2:k=o
   ·subst h2
    rw[if_pos (by omega),aja,List.getElem?_set_self (by omega)];rfl
   ·rw[if_neg (by omega),List.getElem?_set_ne (fun q=>h2 q.symm)]
theorem Vp {v:AV}(h:db v=true):jX v=some [v]:=by cases v<;>first | rfl | cases h
theorem WW {z:List AV}{off:Nat}{v:AV}{r:List (Nat × Nat × AV)}(hv:db v=true)(h:off+1<=z.length):fl z ((off,1,v)::r)=fl (z.set off v) r:=by
 have e:z.take off++[v]++z.drop (off+1)=z.set off v:=by
  rw[List.set_eq_take_append_cons_drop,if_pos (by omega)];simp
 show (match jX v with | some cs=>if cs.length=1/\off+1<=z.length then fl (z.take off++cs++z.drop (off+1)) r else none | none=>none)=_
 rw[Vp hv]
 simp only
 rw[if_pos ⟨rfl,h⟩,e]
theorem Rw.one {H:Hp}{es:Nat}{x:AV}{l:List AV}(h:Rw H es x l):db x=true:=by cases h<;>rfl
theorem Ow.Br {H:Hp}{el es:Nat}{x:AV}{l:List AV}(h:Ow H el es x l):db x=true:=h.rw.one
theorem ani {H:Hp}{el es mD:Nat}{z:List AV}{s:AV}{l vs:List AV}(h:Ow H el es s l)(hv:vs.all db=true)(hn:vs.length=es)(dC:0<es)(hlen:l.length+vs.length<=16777216) :
  ∃ s' H',(∀ i,i=H.next->fZ el es z false s (.slice i 0 1 1 true es) (al H vs mD 0)=some (s',H'))/\Ow H' el es s' (l++vs)/\Out (aa s) H H'/\(∀ j∈aa s',j∈aa s\/H.next<=j)/\db s'=true:=by
 have c:=J8 H vs mD 0
 have hr:Rw (al H vs mD 0) es (.slice H.next 0 1 1 true es) vs := .mk c.ro (by rw[hn,ahp]) (aar _) rfl
 have ho:Ow (al H vs mD 0) el es s l:=h.out (ES H vs mD 0) fun j hj=>by simp
 obtain⟨s',H',h1,h2,h3,h4⟩:=wU (z:=z) ho hr (ac6.1 hv) dC hlen
 refine⟨s',H',fun i hi=>by subst hi;exact h1,h2,((ES H vs mD 0).mono (S':=aa s) (fun j hj=>by cases hj)).then h3 (fun j hj => .inl hj),fun j hj=>(h4 j hj).imp id fun q=>by rw[zC] at q;omega,h2.Br⟩
theorem ajB {s:List Nat}{m:Nat}(k:IntKind)(h:m<=s.length):sU (.str s) none (some (.int k m))=some (.str (s.take m)):=by
 unfold sU
 simp only[uY (adf m) h (aar _) (Bd.no 0) (Bd.yes k m _),ahk,afO,ae9]
theorem WQ {s:List Nat}{m:Nat}(k:IntKind)(h:m<=s.length):sU (.str s) (some (.int k m)) none=some (.str (s.drop m)):=by
 unfold sU
 simp only[uY h (aar _) (aar _) (Bd.yes k m 0) (Bd.no _),ahk]
 rw[aea (by rw[aef];omega)]
theorem apP {s:List Nat}{i b:Nat}(k:IntKind)(h:s[i]? = some b):td (.str s) (.int k i)=some (.int .u8 b):=by
 unfold td
 simp only
 rw[if_pos (by omega),aeq,h];rfl
theorem N8 {s:List Nat}{b:Nat}(k:IntKind)(h:s[0]? = some b):td (.str s) (.int k 0)=some (.int .u8 b):=apP (i:=0) k h
theorem Rw.ia {H:Hp}{es n:Nat}{x:AV}{l:List AV}(h:Rw H es x l)(hl:l.length=n*es)(dC:0<es){i:Nat}(hi:i<n):∃ b o,(∀ k,ia es x (.int k i)=some (.ptr b o))/\b∈aa x/\b<H.next/\
  (∀ k v,l[i*es+k]? = some v->k<es->cellAt H b (o+k)=some v)/\dQ H b o es=some ((l.drop (i*es)).take es):=by
 cases h with
 | nil=>
  simp only[abY] at hl
  rcases aji.1 hl.symm with q | q<;>omega
 | emp=>
  simp only[abY] at hl
  rcases aji.1 hl.symm with q | q<;>omega
 | @mk j off m cap ex l hr hn hc he=>
  have hm:m=n:=ahD dC (hn.symm.trans hl)
  subst hm
  have hle:(i+1)*es<=m*es:=ad4 _ hi
  rw[aeS,ahp] at hle
  refine⟨j,off+i*es,fun k=>we hi,by rw[mP he];exact .head _,hr.1,fun k v hk _ => ?_,?_⟩
  ·rw[afj];exact hr.cellAt hk
  ·have h1:=((hr.drop (i*es) (by omega)).take es).dQ
   rw[afi,aef,aiK (by omega)] at h1
   exact h1
def RL (H:Hp)(es:Nat)(x:AV)(L:List (List AV)):Prop:=Rw H es x L.flatten/\∀ c∈L,c.length=es
def OL (H:Hp)(el es:Nat)(x:AV)(L:List (List AV)):Prop:=Ow H el es x L.flatten/\∀ c∈L,c.length=es
theorem EE {es:Nat}:∀ {L:List (List AV)},(∀ c∈L,c.length=es)->L.flatten.length=L.length*es
 | [],_=>by simp
 | c::L,h=>by
  rw[af4,abz,h c (.head _),EE fun d hd=>h d (.tail _ hd),abn,aeS];omega
theorem aa3 {es:Nat}:∀ {L:List (List AV)} {i:Nat} {c:List AV},(∀ c∈L,c.length=es)->L[i]? = some c->(L.flatten.drop (i*es)).take es=c
 | [],i,c,_,h=>by simp at h
 | a::L,0,c,hl,h=>by
  simp only[nq,acS] at h
  subst h
  have:=hl a (.head _)
  rw[afB,afO,af4,List.take_append_of_le_length (by omega),aea (by omega)]
 | a::L,i+1,c,hl,h=>by
  simp only[gk] at h
  have ha:=hl a (.head _)
  rw[af4,aeS,ahp,List.drop_append,afn (by omega),afE,ha,aio]
  exact aa3 (fun d hd=>hl d (.tail _ hd)) h
theorem OL.rl {H:Hp}{el es:Nat}{x:AV}{L:List (List AV)}(h:OL H el es x L):RL H es x L:=⟨h.1.rw,h.2⟩
theorem RL.out {H H':Hp}{es:Nat}{x:AV}{L:List (List AV)}{S:List Nat}(h:RL H es x L)(k:Out S H H')(hi:∀ j∈aa x,j∉S):RL H' es x L:=⟨h.1.out k hi,h.2⟩
theorem RL.eR {H H':Hp}{es:Nat}{x:AV}{L:List (List AV)}(h:RL H es x L)(k:Out [] H H'):RL H' es x L:=h.out k fun _ _ q=>by cases q
theorem Rw.eR {H H':Hp}{es:Nat}{x:AV}{l:List AV}(h:Rw H es x l)(k:Out [] H H'):Rw H' es x l:=h.out k fun _ _ q=>by cases q
theorem OL.out {H H':Hp}{el es:Nat}{x:AV}{L:List (List AV)}{S:List Nat}(h:OL H el es x L)(k:Out S H H')(hi:∀ j∈aa x,j∉S):OL H' el es x L:=⟨h.1.out k hi,h.2⟩
theorem RL.one {H:Hp}{es:Nat}{x:AV}{L:List (List AV)}(h:RL H es x L):db x=true:=h.1.one
theorem RL.len {H:Hp}{es:Nat}{x:AV}{L:List (List AV)}(h:RL H es x L)(dC:0<es):cJ x=some (.int .i64 (L.length:Nat)):=by
 obtain⟨n,h1,h2⟩:=h.1.len
 rw[EE h.2] at h2
 rw[h1,ahD dC h2]
theorem RL.at {H:Hp}{es:Nat}{x:AV}{L:List (List AV)}(h:RL H es x L)(dC:0<es){i:Nat}{c:List AV}(hi:L[i]? = some c):∃ b o,(∀ k,ia es x (.int k i)=some (.ptr b o))/\b∈aa x/\b<H.next/\dQ H b o es=some c/\∀ k v,c[k]? = some v->cellAt H b (o+k)=some v:=by
 have mC:=(abf.1 hi).1
 obtain⟨b,o,h1,h2,h3,h4,h5⟩:=h.1.ia (EE h.2) dC mC
 have hf:=aa3 h.2 hi
 rw[hf] at h5
 refine⟨b,o,h1,h2,h3,h5,fun k v hv => ?_⟩
 have hk:k<es:=by have:=(abf.1 hv).1;rw[h.2 c (acx hi)] at this;exact this
 refine h4 k v ?_ hk
 rw[<-hf,adM,if_pos hk,adG] at hv
 exact hv
theorem OL.nil (H:Hp)(el es:Nat):OL H el es .ae []:=⟨.nil,fun c hc=>by cases hc⟩
theorem RL.nil (H:Hp)(es:Nat):RL H es .ae []:=⟨.nil,fun c hc=>by cases hc⟩
theorem OL.push {H:Hp}{el es mD:Nat}{z:List AV}{s:AV}{L:List (List AV)}{vs:List AV}(h:OL H el es s L)(hv:vs.all db=true)(hn:vs.length=es)(dC:0<es)(hlen:(L.length+1)*es<=16777216) :
  ∃ s' H',(∀ i,i=H.next->fZ el es z false s (.slice i 0 1 1 true es) (al H vs mD 0)=some (s',H'))/\OL H' el es s' (L++[vs])/\Out (aa s) H H'/\(∀ j∈aa s',j∈aa s\/H.next<=j)/\db s'=true:=by
 obtain⟨s',H',h1,h2,h3⟩:=ani (mD:=mD) (z:=z) h.1 hv hn dC (by rw[EE h.2,hn];rw[aeS,ahp] at hlen;exact hlen)
 refine⟨s',H',h1,⟨by rw[List.flatten_append];simpa using h2,fun c hc => ?_⟩,h3⟩
 rcases aal.1 hc with hc | hc
 ·exact h.2 c hc
 ·rw[wc] at hc;subst hc;exact hn
theorem OL.one {H:Hp}{el es:Nat}{x:AV}{L:List (List AV)}(h:OL H el es x L):∀ c∈L,c.all db=true:=fun c hc=>by
 rw[ac6]
 intro v hv
 exact h.1.one v (List.mem_flatten.2 ⟨c,hc,hv⟩)
theorem zr {α:Type}{l r:List α}{i:Nat}{a:α}(h:l.drop i=a::r):i<l.length/\l[i]? = some a/\l.drop (i+1)=r:=by
 have h1:i<l.length:=by
  have:=congrArg List.length h
  rw[aef,abn] at this;omega
 refine⟨h1,?_,?_⟩
 ·have:=adG (xs:=l) (i:=i) (j:=0)
  rw[h,ae6] at this
  rw[<-this];rfl
 ·have:=aib (l:=l) (i:=1) (j:=i)
  rw[h] at this
  rw[<-this];rfl
theorem Out.nx {S:List Nat}{H H':Hp}(h:Out S H H'):H.next<=H'.next:=h.1
theorem UK {n s i off z:Nat}(k:IntKind)(h:z<n):pK n s (.ptr i off) (.int k z)=some (.ptr i (off+z*s)):=by
 unfold pK
 simp only
 rw[if_pos (by omega),aeq]
theorem LY {n s i off:Nat}(k:IntKind)(h:0<n):pK n s (.ptr i off) (.int k 0)=some (.ptr i off):=by
 have:=UK (s:=s) (i:=i) (off:=off) k h
 rw[afB] at this
 exact this
theorem JS {n i off:Nat}(k:IntKind)(h:1<n):pK n 1 (.ptr i off) (.int k 1)=some (.ptr i (off+1)):=by
 have:=UK (s:=1) (i:=i) (off:=off) k h
 exact this
theorem Y3 (k:IntKind)(n:Int):db (.int k n)=true:=No rfl (id rfl)
theorem aaw (s:List Nat):db (.str s)=true:=No rfl (id rfl)
theorem Y5 (b:Bool):db (.bool b)=true:=No rfl (id rfl)
theorem aaZ (i o:Nat):db (.ptr i o)=true:=No rfl (id rfl)
theorem V0:db .aC=true:=No rfl (id rfl)
theorem abD (i o n c:Nat)(x:Bool)(es:Nat):db (.slice i o n c x es)=true:=No rfl (id rfl)
theorem V4:db .ae=true:=No rfl (id rfl)
theorem T1 (i:Nat):db (.map i)=true:=No rfl (id rfl)
theorem aan:db .iF=true:=No rfl (id rfl)
theorem aa9 (f:Go.Fn)(a b:List AV):db (.func f a b)=true:=No rfl (id rfl)
theorem ZI:db .nilFunc=true:=No rfl (id rfl)
theorem abO:db .nilIface=true:=No rfl (id rfl)
theorem Y4 (t:TypeId)(v:AV):db (.iface t v)=true:=No rfl (id rfl)
theorem aj:type_of% (And.intro @UE (And.intro @Wa (And.intro @abV (And.intro @aN (And.intro @bH (And.intro @aL (And.intro @aK (And.intro @cj (And.intro @aV (And.intro @aJ (And.intro @aG (And.intro @aZ (And.intro @aO (And.intro @bh (And.intro @cq (And.intro @aS (And.intro @cx (And.intro @bV (And.intro @bo (And.intro @bR (And.intro @aM (And.intro @cg (And.intro @br (And.intro @aQ (And.intro @bO (And.intro @bu (And.intro @cn (And.intro @cu (And.intro @bG (And.intro @aW (And.intro @bB (And.intro @bk (And.intro @aI (And.intro @bA (And.intro @bE (And.intro @cB (And.intro @aT (And.intro @bf (And.intro @bQ (And.intro @cp (And.intro @bd (And.intro @bc (And.intro @aR (And.intro @bU (And.intro @bP (And.intro @bC (And.intro @cz (And.intro @cC (And.intro @bK (And.intro @cl (And.intro @aA (And.intro @bN (And.intro @aD (And.intro @cy (And.intro @bW (And.intro @aP (And.intro @aU (And.intro @bS (And.intro @bT (And.intro @cA (And.intro @ba (And.intro @cw (And.intro @bY (And.intro @bM (And.intro @aF (And.intro @bJ (And.intro @bI (And.intro @aH (And.intro @ck (And.intro @bq (And.intro @bF (And.intro @bD (And.intro @bZ @aY))))))))))))))))))))))))))))))))))))))))))))))))))))))))))))))))))))))))):=And.intro @UE (And.intro @Wa (And.intro @abV (And.intro @aN (And.intro @bH (And.intro @aL (And.intro @aK (And.intro @cj (And.intro @aV (And.intro @aJ (And.intro @aG (And.intro @aZ (And.intro @aO (And.intro @bh (And.intro @cq (And.intro @aS (And.intro @cx (And.intro @bV (And.intro @bo (And.intro @bR (And.intro @aM (And.intro @cg (And.intro @br (And.intro @aQ (And.intro @bO (And.intro @bu (And.intro @cn (And.intro @cu (And.intro @bG (And.intro @aW (And.intro @bB (And.intro @bk (And.intro @aI (And.intro @bA (And.intro @bE (And.intro @cB (And.intro @aT (And.intro @bf (And.intro @bQ (And.intro @cp (And.intro @bd (And.intro @bc (And.intro @aR (And.intro @bU (And.intro @bP (And.intro @bC (And.intro @cz (And.intro @cC (And.intro @bK (And.intro @cl (And.intro @aA (And.intro @bN (And.intro @aD (And.intro @cy (And.intro @bW (And.intro @aP (And.intro @aU (And.intro @bS (And.intro @bT (And.intro @cA (And.intro @ba (And.intro @cw (And.intro @bY (And.intro @bM (And.intro @aF (And.intro @bJ (And.intro @bI (And.intro @aH (And.intro @ck (And.intro @bq (And.intro @bF (And.intro @bD (And.intro @bZ @aY))))))))))))))))))))))))))))))))))))))))))))))))))))))))))))))))))))))))
theorem K8:type_of% (And.intro @Y3 (And.intro @aaw (And.intro @Y5 (And.intro @aaZ (And.intro @V0 (And.intro @abD (And.intro @V4 (And.intro @T1 (And.intro @aan (And.intro @aa9 (And.intro @ZI (And.intro @abO (And.intro @Y4 @zC))))))))))))):=And.intro @Y3 (And.intro @aaw (And.intro @Y5 (And.intro @aaZ (And.intro @V0 (And.intro @abD (And.intro @V4 (And.intro @T1 (And.intro @aan (And.intro @aa9 (And.intro @ZI (And.intro @abO (And.intro @Y4 @zC))))))))))))
theorem ak:(∀ (a:AV) (l:List AV),(a::l)[0]? = some a)/\(∀ (a:AV) (l:List AV) (i:Nat),(a::l)[i+1]? = l[i]?)/\(∀ n:Nat,0+n=n)/\((!true)=false)/\((!false)=true)/\(∀ h:Decidable True,@decide True h=true)/\(∀ h:Decidable False,@decide False h=false)/\(∀ a:Int,(a==a)=true)/\(∀ a:List Nat,(a==a)=true)/\(∀ a:Int,(a != a)=false)/\(∀ a:List Nat,(a != a)=false)/\(∀ a b:Int,(a ≥ b)=(b<=a))/\(∀ a b:Int,(a>b)=(b<a)):=
 ⟨fun _ _=>rfl,fun _ _ _=>rfl,yS,rfl,rfl,fun _=>decide_eq_true trivial,fun _=>decide_eq_false id,fun _=>beq_self_eq_true _,fun _=>beq_self_eq_true _,fun _=>bne_self_eq_false _,fun _=>bne_self_eq_false _,fun _ _=>rfl,fun _ _=>rfl⟩
theorem Ds:(∀ (H:Hp) (l:List AV) (el fl:Nat),(al H l el fl).next=H.next+1)/\(∀ (a:AV) (l:List AV),(a::l).length=l.length+1)/\(([]:List AV).length=0)/\(∀ (p:AV->Bool) (a:AV) (l:List AV),(a::l).all p=(p a&&l.all p))/\(∀ p:AV->Bool,([]:List AV).all p=true)/\(∀ b:Bool,(b&&true)=b)/\(∀ b:Bool,(true&&b)=b)/\(∀ b:Bool,(b&&b)=b)/\(∀ n:Nat,0+n=n)/\(∀ n:Nat,(n<=n)=True):=
 ⟨fun _ _ _ _=>rfl,fun _ _=>rfl,rfl,fun _ _ _=>rfl,fun _=>rfl,Bool.and_true,Bool.true_and,Bool.and_self,yS,fun n=>eq_true (aar n)⟩
end K
end Go.Proofs.YtehhgkgeldinkaaGreatDoor.Am
