/- Laws that the proof uses. -/
import Derived.Test.YtbdlbhlhnpblpaaGreatDoorAm15
set_option linter.unusedVariables false
set_option linter.unusedSimpArgs false
namespace Go.Proofs.YtbdlbhlhnpblpaaGreatDoor.Am
namespace Tr
variable {α:Type}
end Tr
namespace K
def al (H:Hp)(l:List AV)(el fl:Nat):Hp:=⟨H.h.put 34 H.next (.cells (Tr.cR .nil 0 l) 0 l.length el fl),H.next+1⟩
theorem agO (H:Hp)(l:List AV)(el fl:Nat):(al H l el fl).next=H.next+1:=aaM rfl (id rfl)
theorem YR (H:Hp)(l:List AV)(el fl i:Nat):(al H l el fl).h.get i=if i=H.next then some (.cells (Tr.cR .nil 0 l) 0 l.length el fl) else H.h.get i:=Tr.eS _ _ _ _
theorem agz (H:Hp)(l:List AV)(el fl:Nat):Cs (al H l el fl) H.next l el fl:=by
 refine⟨aeE _,Tr.cR .nil 0 l,by rw[YR,if_pos rfl],fun k v hk => ?_⟩
 have:=(aaL.1 hk).1
 rw[Bf,if_pos (by omega)];exact hk
theorem TU (H:Hp)(l:List AV)(el fl:Nat):Out [] H (al H l el fl):=⟨Nat.le_succ _,fun j hj _=>by rw[YR,if_neg (by omega)]⟩
theorem Out.al {S:List Nat}{H H':Hp}(h:Out S H H')(l:List AV)(el fl:Nat):Out S H (al H' l el fl):=h.then (TU H' l el fl) fun j hj=>by cases hj
theorem YC {H H':Hp}{i o:Nat}(h:H'.h.get i=H.h.get i):cellAt H' i o=cellAt H i o:=by unfold cellAt;rw[h]
theorem V5 {H H':Hp}{i:Nat}(h:H'.h.get i=H.h.get i):∀ (n o:Nat),cU H' i o n=cU H i o n
 | 0,o=>rfl
 | n+1,o=>by unfold cU;rw[YC h,V5 h n]
theorem Out.cellAt {S:List Nat}{H H':Hp}(h:Out S H H'){i o:Nat}(hi:i<H.next)(hs:i∉S):cellAt H' i o=Am.cellAt H i o:=YC (h.2 i hi hs)
theorem Out.cU {S:List Nat}{H H':Hp}(h:Out S H H'){i o n:Nat}(hi:i<H.next)(hs:i∉S):cU H' i o n=Am.cU H i o n:=V5 (h.2 i hi hs) _ _
def jN (l:List AV)(o:Nat):List AV->List AV
 | []=>l
 | v::vs=>jN (l.set o v) (o+1) vs
theorem Ta:∀ (vs l:List AV) (o:Nat),(jN l o vs).length=l.length
 | [],l,o=>rfl
 | v::vs,l,o=>by rw[jN,Ta vs,List.length_set]
theorem NW:∀ (vs l:List AV) (o k:Nat),o+vs.length<=l.length->(jN l o vs)[k]? = if o<=k/\k<o+vs.length then vs[k-o]? else l[k]?
 | [],l,o,k,h=>by rw[if_neg (by simp only[abQ];omega)];rfl
 | v::vs,l,o,k,h=>by
  simp only[abg] at h ⊢
  rw[jN,NW vs _ _ _ (by rw[List.length_set];omega)]
  by_cases h1:o+1<=k/\k<o+1+vs.length
  ·rw[if_pos h1,if_pos (by omega),show k-o=(k-(o+1))+1 by omega,gk]
  ·rw[if_neg h1]
   by_cases h2:k=o
   ·subst h2
    rw[if_pos (by omega),ahr,List.getElem?_set_self (by omega)];rfl
   ·rw[if_neg (by omega),List.getElem?_set_ne (fun q=>h2 q.symm)]
theorem acW {v:AV}(h:dF v=true):kx v=some [v]:=by cases v<;>first | rfl | cases h
theorem Rw.one {H:Hp}{es:Nat}{x:AV}{l:List AV}(h:Rw H es x l):dF x=true:=by cases h<;>rfl
theorem Ow.af3 {H:Hp}{el es:Nat}{x:AV}{l:List AV}(h:Ow H el es x l):dF x=true:=h.rw.one
theorem ajB {H:Hp}{el es lx:Nat}{z:List AV}{s:AV}{l vs:List AV}(h:Ow H el es s l)(hv:vs.all dF=true)(hn:vs.length=es)(di:0<es)(hlen:l.length+vs.length<=16777216) :
  ∃ s' H',(∀ i,i=H.next->fQ el es z false s (.slice i 0 1 1 true es) (al H vs lx 0)=some (s',H'))/\Ow H' el es s' (l++vs)/\Out (aa s) H H'/\(∀ j∈aa s',j∈aa s\/H.next<=j)/\dF s'=true:=by
 have c:=agz H vs lx 0
 have hr:Rw (al H vs lx 0) es (.slice H.next 0 1 1 true es) vs := .mk c.ro (by rw[hn,ag0]) (zf _) rfl
 have ho:Ow (al H vs lx 0) el es s l:=h.out (TU H vs lx 0) fun j hj=>by simp
 obtain⟨s',H',h1,h2,h3,h4⟩:=tJ (z:=z) ho hr (adh.1 hv) di hlen
 refine⟨s',H',fun i hi=>by subst hi;exact h1,h2,((TU H vs lx 0).mono (S':=aa s) (fun j hj=>by cases hj)).then h3 (fun j hj => .inl hj),fun j hj=>(h4 j hj).imp id fun q=>by rw[agO] at q;omega,h2.af3⟩
theorem Rw.ia {H:Hp}{es n:Nat}{x:AV}{l:List AV}(h:Rw H es x l)(hl:l.length=n*es)(di:0<es){i:Nat}(hi:i<n):∃ b o,(∀ k,ia es x (.int k i)=some (.ptr b o))/\b∈aa x/\b<H.next/\
  (∀ k v,l[i*es+k]? = some v->k<es->cellAt H b (o+k)=some v)/\cU H b o es=some ((l.drop (i*es)).take es):=by
 cases h with
 | nil=>
  simp only[abQ] at hl
  rcases ahI.1 hl.symm with q | q<;>omega
 | emp=>
  simp only[abQ] at hl
  rcases ahI.1 hl.symm with q | q<;>omega
 | @mk j off m cap ex l hr hn hc he=>
  have hm:m=n:=agC di (hn.symm.trans hl)
  subst hm
  have hle:(i+1)*es<=m*es:=ac2 _ hi
  rw[adC,ag0] at hle
  refine⟨j,off+i*es,fun k=>xt hi,by rw[pH he];exact .head _,hr.1,fun k v hk _ => ?_,?_⟩
  ·rw[aeh];exact hr.cellAt hk
  ·have h1:=((hr.drop (i*es) (by omega)).take es).cU
   rw[abN,adi,ad3 (by omega)] at h1
   exact h1
def RL (H:Hp)(es:Nat)(x:AV)(L:List (List AV)):Prop:=Rw H es x L.flatten/\∀ c∈L,c.length=es
def OL (H:Hp)(el es:Nat)(x:AV)(L:List (List AV)):Prop:=Ow H el es x L.flatten/\∀ c∈L,c.length=es
theorem A2 {es:Nat}:∀ {L:List (List AV)},(∀ c∈L,c.length=es)->L.flatten.length=L.length*es
 | [],_=>by simp
 | c::L,h=>by
  rw[ae0,aaO,h c (.head _),A2 fun d hd=>h d (.tail _ hd),abg,adC];omega
theorem aay {es:Nat}:∀ {L:List (List AV)} {i:Nat} {c:List AV},(∀ c∈L,c.length=es)->L[i]? = some c->(L.flatten.drop (i*es)).take es=c
 | [],i,c,_,h=>by simp at h
 | a::L,0,c,hl,h=>by
  simp only[nq,acf] at h
  subst h
  have:=hl a (.head _)
  rw[aeT,adE,ae0,aek (by omega),acI (by omega)]
 | a::L,i+1,c,hl,h=>by
  simp only[gk] at h
  have ha:=hl a (.head _)
  rw[ae0,adC,ag0,List.drop_append,ae8 (by omega),adt,ha,ahB]
  exact aay (fun d hd=>hl d (.tail _ hd)) h
theorem OL.rl {H:Hp}{el es:Nat}{x:AV}{L:List (List AV)}(h:OL H el es x L):RL H es x L:=⟨h.1.rw,h.2⟩
theorem RL.out {H H':Hp}{es:Nat}{x:AV}{L:List (List AV)}{S:List Nat}(h:RL H es x L)(k:Out S H H')(hi:∀ j∈aa x,j∉S):RL H' es x L:=⟨h.1.out k hi,h.2⟩
theorem RL.gR {H H':Hp}{es:Nat}{x:AV}{L:List (List AV)}(h:RL H es x L)(k:Out [] H H'):RL H' es x L:=h.out k fun _ _ q=>by cases q
theorem Rw.gR {H H':Hp}{es:Nat}{x:AV}{l:List AV}(h:Rw H es x l)(k:Out [] H H'):Rw H' es x l:=h.out k fun _ _ q=>by cases q
theorem OL.out {H H':Hp}{el es:Nat}{x:AV}{L:List (List AV)}{S:List Nat}(h:OL H el es x L)(k:Out S H H')(hi:∀ j∈aa x,j∉S):OL H' el es x L:=⟨h.1.out k hi,h.2⟩
theorem RL.one {H:Hp}{es:Nat}{x:AV}{L:List (List AV)}(h:RL H es x L):dF x=true:=h.1.one
theorem RL.len {H:Hp}{es:Nat}{x:AV}{L:List (List AV)}(h:RL H es x L)(di:0<es):cy x=some (.int .i64 (L.length:Nat)):=by
 obtain⟨n,h1,h2⟩:=h.1.len
 rw[A2 h.2] at h2
 rw[h1,agC di h2]
theorem RL.at {H:Hp}{es:Nat}{x:AV}{L:List (List AV)}(h:RL H es x L)(di:0<es){i:Nat}{c:List AV}(hi:L[i]? = some c):∃ b o,(∀ k,ia es x (.int k i)=some (.ptr b o))/\b∈aa x/\b<H.next/\cU H b o es=some c/\∀ k v,c[k]? = some v->cellAt H b (o+k)=some v:=by
 have B8:=(aaL.1 hi).1
 obtain⟨b,o,h1,h2,h3,h4,h5⟩:=h.1.ia (A2 h.2) di B8
 have hf:=aay h.2 hi
 rw[hf] at h5
 refine⟨b,o,h1,h2,h3,h5,fun k v hv => ?_⟩
 have hk:k<es:=by have:=(aaL.1 hv).1;rw[h.2 c (abY hi)] at this;exact this
 refine h4 k v ?_ hk
 rw[<-hf,ac1,if_pos hk,acL] at hv
 exact hv
theorem OL.nil (H:Hp)(el es:Nat):OL H el es .ae []:=⟨.nil,fun c hc=>by cases hc⟩
theorem RL.nil (H:Hp)(es:Nat):RL H es .ae []:=⟨.nil,fun c hc=>by cases hc⟩
theorem OL.push {H:Hp}{el es lx:Nat}{z:List AV}{s:AV}{L:List (List AV)}{vs:List AV}(h:OL H el es s L)(hv:vs.all dF=true)(hn:vs.length=es)(di:0<es)(hlen:(L.length+1)*es<=16777216) :
  ∃ s' H',(∀ i,i=H.next->fQ el es z false s (.slice i 0 1 1 true es) (al H vs lx 0)=some (s',H'))/\OL H' el es s' (L++[vs])/\Out (aa s) H H'/\(∀ j∈aa s',j∈aa s\/H.next<=j)/\dF s'=true:=by
 obtain⟨s',H',h1,h2,h3⟩:=ajB (lx:=lx) (z:=z) h.1 hv hn di (by rw[A2 h.2,hn];rw[adC,ag0] at hlen;exact hlen)
 refine⟨s',H',h1,⟨by rw[List.flatten_append];simpa using h2,fun c hc => ?_⟩,h3⟩
 rcases aac.1 hc with hc | hc
 ·exact h.2 c hc
 ·rw[yX] at hc;subst hc;exact hn
theorem OL.one {H:Hp}{el es:Nat}{x:AV}{L:List (List AV)}(h:OL H el es x L):∀ c∈L,c.all dF=true:=fun c hc=>by
 rw[adh]
 intro v hv
 exact h.1.one v (List.mem_flatten.2 ⟨c,hc,hv⟩)
theorem xq {α:Type}{l r:List α}{i:Nat}{a:α}(h:l.drop i=a::r):i<l.length/\l[i]? = some a/\l.drop (i+1)=r:=by
 have h1:i<l.length:=by
  have:=congrArg List.length h
  rw[adi,abg] at this;omega
 refine⟨h1,?_,?_⟩
 ·have:=acL (xs:=l) (i:=i) (j:=0)
  rw[h,acJ] at this
  rw[<-this];rfl
 ·have:=ago (l:=l) (i:=1) (j:=i)
  rw[h] at this
  rw[<-this];rfl
theorem Out.nx {S:List Nat}{H H':Hp}(h:Out S H H'):H.next<=H'.next:=h.1
theorem tL:type_of% (And.intro @Uv (And.intro @VQ (And.intro @abd (And.intro @az (And.intro @bd (And.intro @aw (And.intro @av (And.intro @bG (And.intro @aH (And.intro @au (And.intro @ak (And.intro @aK (And.intro @aA (And.intro @aP (And.intro @bK (And.intro @aE (And.intro @bO (And.intro @bC (And.intro @aR (And.intro @bu (And.intro @ay (And.intro @bF (And.intro @aT (And.intro @aC (And.intro @bq (And.intro @aU (And.intro @bI (And.intro @bM (And.intro @ba (And.intro @aI (And.intro @aW (And.intro @aQ (And.intro @ar (And.intro @aV (And.intro @a7 (And.intro @bS (And.intro @aF (And.intro @aO (And.intro @bt (And.intro @bJ (And.intro @aN (And.intro @aM (And.intro @aD (And.intro @bB (And.intro @br (And.intro @aY (And.intro @bQ (And.intro @bT (And.intro @bk (And.intro @bH (And.intro @af (And.intro @bp (And.intro @ag (And.intro @bP (And.intro @ah (And.intro @aB (And.intro @aG (And.intro @bw (And.intro @bA (And.intro @bR (And.intro @aL (And.intro @bN (And.intro @bD (And.intro @bo (And.intro @aj (And.intro @bh (And.intro @bg (And.intro @aq (And.intro @ai (And.intro @aS (And.intro @a8 (And.intro @aZ (And.intro @bE @aJ))))))))))))))))))))))))))))))))))))))))))))))))))))))))))))))))))))))))):=And.intro @Uv (And.intro @VQ (And.intro @abd (And.intro @az (And.intro @bd (And.intro @aw (And.intro @av (And.intro @bG (And.intro @aH (And.intro @au (And.intro @ak (And.intro @aK (And.intro @aA (And.intro @aP (And.intro @bK (And.intro @aE (And.intro @bO (And.intro @bC (And.intro @aR (And.intro @bu (And.intro @ay (And.intro @bF (And.intro @aT (And.intro @aC (And.intro @bq (And.intro @aU (And.intro @bI (And.intro @bM (And.intro @ba (And.intro @aI (And.intro @aW (And.intro @aQ (And.intro @ar (And.intro @aV (And.intro @a7 (And.intro @bS (And.intro @aF (And.intro @aO (And.intro @bt (And.intro @bJ (And.intro @aN (And.intro @aM (And.intro @aD (And.intro @bB (And.intro @br (And.intro @aY (And.intro @bQ (And.intro @bT (And.intro @bk (And.intro @bH (And.intro @af (And.intro @bp (And.intro @ag (And.intro @bP (And.intro @ah (And.intro @aB (And.intro @aG (And.intro @bw (And.intro @bA (And.intro @bR (And.intro @aL (And.intro @bN (And.intro @bD (And.intro @bo (And.intro @aj (And.intro @bh (And.intro @bg (And.intro @aq (And.intro @ai (And.intro @aS (And.intro @a8 (And.intro @aZ (And.intro @bE @aJ))))))))))))))))))))))))))))))))))))))))))))))))))))))))))))))))))))))))
theorem ur:(∀ (a:AV) (l:List AV),(a::l)[0]? = some a)/\(∀ (a:AV) (l:List AV) (i:Nat),(a::l)[i+1]? = l[i]?)/\(∀ n:Nat,0+n=n)/\((!true)=false)/\((!false)=true)/\(∀ h:Decidable True,@decide True h=true)/\(∀ h:Decidable False,@decide False h=false)/\(∀ a:Int,(a==a)=true)/\(∀ a:List Nat,(a==a)=true)/\(∀ a:Int,(a != a)=false)/\(∀ a:List Nat,(a != a)=false)/\(∀ a b:Int,(a ≥ b)=(b<=a))/\(∀ a b:Int,(a>b)=(b<a)):=
 ⟨fun _ _=>rfl,fun _ _ _=>rfl,wc,rfl,rfl,fun _=>decide_eq_true trivial,fun _=>decide_eq_false id,fun _=>beq_self_eq_true _,fun _=>beq_self_eq_true _,fun _=>bne_self_eq_false _,fun _=>bne_self_eq_false _,fun _ _=>rfl,fun _ _=>rfl⟩
end K
end Go.Proofs.YtbdlbhlhnpblpaaGreatDoor.Am
