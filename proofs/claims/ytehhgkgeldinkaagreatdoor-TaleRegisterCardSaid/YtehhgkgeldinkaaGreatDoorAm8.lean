/- Laws that the proof uses. -/
import Derived.Test.YtehhgkgeldinkaaGreatDoorAm7
import Derived.Lib.SlTrimSet
set_option linter.unusedVariables false
set_option linter.unusedSimpArgs false
namespace Go.Proofs.YtehhgkgeldinkaaGreatDoor.Am
open Go.RowKit
section
section
variable {P:Program}{G:Nat}{F:Nat->Prop}{W:World}{e:Em}{H:Hp}{w:World}
theorem RH.below (h : RH G F W e H w){w' : World}(hb : Below w.heap.size w w') : RH G F W e H w' :=
  ⟨h.N, fun i o ho => let ⟨a, ob, b, c, d⟩ := h.obj i o ho;⟨a, ob, (hb.block _ (abM.1 b).1).trans b, c, d⟩, h.inj, h.nW,
   fun k hk => ⟨adi (h.frame k hk).1 hb.size, (hb.block k (h.frame k hk).1).trans (h.frame k hk).2⟩, hb.os.trans h.os, hb.tape.trans h.tape, hb.output.trans h.output, abS h.size hb.size, by obtain⟨g1, g2, g3⟩ := h.jy;have := hb.size;omega⟩
def pt (P:Program)(aB:Nat)(p:Prim):Prop:=
 ∀ (args:List AV) (H:Hp) (v:AV) (H':Hp),p args H=some (v,H')->
  ∀ (F:Nat->Prop) (W:World) (e:Em) (w:World) (ar:Array Value),RH P.globals.size F W e H w->az e args ar.toList->
   (callFunc aB ar).run P w = .ok (.enter aB ar) w/\Calls P aB ar w (Dw P.globals.size F W e v H')
end
noncomputable section
def Lq (c:Nat)(l:List Nat):Bool:=List.rec false (fun b _ ih=>Bool.rec ih true (Nat.beq b c)) l
def LR (cs:List Nat)(l:List Nat):List Nat:=List.rec [] (fun b r ih=>Bool.rec (b::r) ih (Lq b cs)) l
def Jt (l:List Nat):List Nat->List Nat:=List.rec (motive:=fun _=>List Nat->List Nat) (fun a=>a) (fun b _ ih a=>ih (b::a)) l
def Ax (s cs:List Nat):List Nat:=LR cs (Jt (LR cs (Jt s [])) [])
def Ey (l:List Nat):Bool:=List.rec true (fun b _ ih=>Bool.rec false ih (Nat.blt b 128)) l
def I9 (H:Hp)(s c:List Nat):Option (AV × Hp):=Bool.rec none (some (.str (Ax s c),H)) (F.cW (Ey c) (F.cW (Nat.ble (F.iJ s) 4294967296) (Nat.ble (F.iJ c) 4294967280)))
def F7:Prim:=fun args H=>match args with
 | [a,b]=>(match a with | .str s=>(match b with | .str c=>I9 H s c | _=>none) | _=>none)
 | _=>none
end
theorem Xk (c:Nat):∀ l:List Nat,Lq c l=l.contains c
 | []=>rfl
 | b::l=>by
  show @Bool.rec (fun _=>Bool) (Lq c l) true (Nat.beq b c)=_
  rw[Xk c l,List.contains_cons]
  by_cases h:b=c
  ·subst h;rw[sZ];simp
  ·rw[oa h]
   have:(c==b)=false:=by simp;exact fun q=>h q.symm
   rw[this];rfl
theorem QB (cs:List Nat):∀ l:List Nat,LR cs l=l.dropWhile (cs.contains ·)
 | []=>rfl
 | b::l=>by
  show @Bool.rec (fun _=>List Nat) (b::l) (LR cs l) (Lq b cs)=_
  rw[Xk,QB cs l,List.dropWhile_cons]
  cases cs.contains b<;>rfl
theorem Nb:∀ (l a:List Nat),Jt l a=l.reverse++a
 | [],a=>rfl
 | b::l,a=>by
  show Jt l (b::a)=_
  rw[Nb l];simp
theorem VN (s cs:List Nat):Ax s cs=((s.reverse.dropWhile (cs.contains ·)).reverse).dropWhile (cs.contains ·):=by
 unfold Ax
 rw[QB,QB,Nb,Nb,afD,afD]
theorem contains_map (cs:List UInt8)(b:UInt8):(cs.map (·.toNat)).contains b.toNat=cs.contains b:=by
 induction cs with
 | nil=>rfl
 | cons c cs ih=>
  rw[ab8,List.contains_cons,List.contains_cons,ih]
  congr 1
  rw[aiL];simp[UInt8.toNat_inj]
theorem dropWhile_map (cs l:List UInt8):(l.map (·.toNat)).dropWhile ((cs.map (·.toNat)).contains ·)=(l.dropWhile (cs.contains ·)).map (·.toNat):=by
 induction l with
 | nil=>rfl
 | cons b l ih=>
  rw[ab8,List.dropWhile_cons,List.dropWhile_cons,contains_map,ih]
  cases cs.contains b<;>rfl
theorem acI (s cs:List UInt8):Ax (s.map (·.toNat)) (cs.map (·.toNat))=(Lib.trimS s cs).map (·.toNat):=by
 rw[VN,<-List.map_reverse,dropWhile_map,<-List.map_reverse,dropWhile_map]
 rfl
theorem XO:∀ l:List Nat,Ey l=true->∀ x∈l,x<128
 | [],_,x,hx=>by cases hx
 | b::l,h,x,hx=>by
  have h':@Bool.rec (fun _=>Bool) false (Ey l) (Nat.blt b 128)=true:=h
  cases hb:Nat.blt b 128 with
  | false=>rw[hb] at h';cases h'
  | true=>
   rw[hb] at h'
   rcases yL.1 hx with rfl | q
   ·rw[adn] at hb;exact hb
   ·exact XO l h' x q
theorem aeM {P:Program}{f:Nat}(tB:∀ ar w,(callFunc f ar).run P w = .ok (.enter f ar) w)
  (hC:∀ (s c:ByteArray) (w:World),s.size<=9223372036854775807->c.size<4294967281->(∀ (j:Nat) b,c.data.toList[j]? = some b->b.toNat<128)->
   Calls P f #[.string s,.string c] w fun e w'=>e = .returned (.string ⟨(Lib.trimS s.data.toList c.data.toList).toArray⟩)/\Below w.heap.size w w'):pt P f F7:=by
 intro args H v H' hp Fr W e w ar hR ha
 unfold F7 at hp
 split at hp
 ·rename_i a b
  split at hp
  ·rename_i s
   split at hp
   ·rename_i c
    unfold I9 at hp
    rw[F.jq,F.jq,F.nj,F.nj] at hp
    cases hk:(Ey c&&(Nat.ble s.length 4294967296&&Nat.ble c.length 4294967280)) with
    | false=>rw[hk] at hp;cases hp
    | true=>
     rw[hk] at hp
     cases hp
     simp only[zf,ado] at hk
     obtain⟨h1,h2,h3⟩:=hk
     obtain⟨a',r1,e1,iI,gG⟩:=ha.cons_inv
     obtain⟨b',r2,e2,xz,tc⟩:=gG.cons_inv
     have e3:=tc.iW
     subst e3
     subst e2
     obtain⟨s',rfl,rfl⟩:=iI.lj
     obtain⟨c',rfl,rfl⟩:=xz.lj
     obtain rfl:ar = #[.string s',.string c']:=adl.1 e1
     refine⟨tB _ _,(hC s' c' w ?_ ?_ ?_).mono ?_⟩
     ·have:s'.size=(bytes s').length:=by simp[bytes]
      omega
     ·have:c'.size=(bytes c').length:=by simp[bytes]
      omega
     ·intro j b hb
      exact XO _ h1 b.toNat (by unfold bytes;exact adj.2 ⟨b,acx hb,rfl⟩)
     ·rintro en w' ⟨rfl,qG⟩
      refine⟨e,_,rfl,e.le_refl,hR.below qG,?_⟩
      have:Ax (bytes s') (bytes c')=bytes ⟨(Lib.trimS s'.data.toList c'.data.toList).toArray⟩:=by
       unfold bytes
       rw[acI]
      rw[this]
      exact .str _
   ·cases hp
  ·cases hp
 ·cases hp
end
inductive LO where
 | cells (lo:Nat) (el:TypeId) (fl:Nat) (vs:List AV)
 | bytes (lo:Nat) (el:TypeId) (fl:Nat) (bs:List Nat)
 | map (es:List ME) (clock:Nat)
noncomputable section
def Ed (bs:List Nat):List AV:=F.EV (fun (b:Nat)=>AV.int .u8 b) bs
def Gg (o:LO):AO:=match o with
 | .cells lo el fl vs => .cells (F.dh vs .nil lo) lo (Nat.add lo (F.iJ vs)) el fl
 | .bytes lo el fl bs => .cells (F.dh (Ed bs) .nil lo) lo (Nat.add lo (F.iJ bs)) el fl
 | .map es c => .map es c
def Tl (el:Nat->TypeId)(gl:List (Nat × List AV)):Tr AO->Tr AO:=List.rec (motive:=fun _=>Tr AO->Tr AO) (fun t=>t) (fun x _ ih t=>F.put 34 (ih t) x.1 (.cells (F.dh x.2 .nil 0) 0 (F.iJ x.2) (el x.1) 2)) gl
def Qn (L:List (Nat × LO)):Tr AO->Tr AO:=List.rec (motive:=fun _=>Tr AO->Tr AO) (fun t=>t) (fun x _ ih t=>F.put 34 (ih t) x.1 (Gg x.2)) L
def aa0 (el:Nat->TypeId)(gl:List (Nat × List AV))(L:List (Nat × LO))(next:Nat):Hp:=⟨Qn L (Tl el gl .nil),next⟩
def vO (f:AV->AV->Bool)(a:List AV):List AV->Bool:=List.rec (motive:=fun _=>List AV->Bool) (fun b=>List.rec true (fun _ _ _=>false) b) (fun x _ ih b=>List.rec false (fun y r _=>F.cW (f x y) (ih r)) b) a
def Wq (a b:Fn):Bool:=match a with
 | .func i=>(match b with | .func j=>Nat.beq i j | _=>false)
 | _=>false
def ab5 (ih:AV->AV->Bool)(a b:AV):Bool:=match a with
 | .dT=>true
 | .bool x=>(match b with | .bool y=>F.po x y | _=>false)
 | .int k x=>(match b with | .int j y=>F.cW (F.Fp k j) (F.Q4 x y) | _=>false)
 | .str s=>(match b with | .str u=>F.D1 s u | _=>false)
 | .aC=>(match b with | .aC=>true | _=>false)
 | .ptr i o=>(match b with | .ptr j p=>F.cW (Nat.beq i j) (Nat.beq o p) | _=>false)
 | .ae=>(match b with | .ae=>true | _=>false)
 | .slice i o l c x e=>(match b with | .slice j p m d y f=>F.cW (Nat.beq i j) (F.cW (Nat.beq o p) (F.cW (Nat.beq l m) (F.cW (Nat.beq c d) (F.cW (F.po x y) (Nat.beq e f))))) | _=>false)
 | .iF=>(match b with | .iF=>true | _=>false)
 | .map i=>(match b with | .map j=>Nat.beq i j | _=>false)
 | .func fn x c=>(match b with | .func gn y d=>F.cW (Wq fn gn) (F.cW (vO ih x y) (vO ih c d)) | _=>false)
 | .yield _=>false
 | .nilFunc=>(match b with | .nilFunc=>true | _=>false)
 | .nilIface=>(match b with | .nilIface=>true | _=>false)
 | .iface t v=>(match b with | .iface u w=>F.cW (Nat.beq t u) (ih v w) | _=>false)
 | .agg l=>(match b with | .agg m=>vO ih l m | _=>false)
 | .tuple l=>(match b with | .tuple m=>vO ih l m | _=>false)
def sC (n:Nat):AV->AV->Bool:=Nat.rec (motive:=fun _=>AV->AV->Bool) (fun _ _=>false) (fun _ ih=>ab5 ih) n
def yv (vs:List AV):Tr AV->Nat->Bool:=List.rec (motive:=fun _=>Tr AV->Nat->Bool) (fun _ _=>true) (fun v _ ih c k=>F.cW (Option.rec false (sC 8 v) (F.get c k)) (ih c (Nat.succ k))) vs
def KK (a:List ME):List ME->Bool:=List.rec (motive:=fun _=>List ME->Bool) (fun b=>List.rec true (fun _ _ _=>false) b) (fun x _ ih b=>List.rec false (fun y r _=>F.cW (sC 8 x.key y.key) (F.cW (sC 8 x.val y.val) (F.cW (Nat.beq x.born y.born) (ih r)))) b) a
def Jv (l:LO)(o:AO):Bool:=match l with
 | .cells lo el fl vs=>(match o with | .cells c a b e f=>F.cW (Nat.beq lo a) (F.cW (Nat.beq (Nat.add lo (F.iJ vs)) b) (F.cW (Nat.beq el e) (F.cW (Nat.beq fl f) (yv vs c lo)))) | _=>false)
 | .bytes lo el fl bs=>(match o with | .cells c a b e f=>F.cW (Nat.beq lo a) (F.cW (Nat.beq (Nat.add lo (F.iJ bs)) b) (F.cW (Nat.beq el e) (F.cW (Nat.beq fl f) (yv (Ed bs) c lo)))) | _=>false)
 | .map es c=>(match o with | .map fs d=>F.cW (Nat.beq c d) (KK es fs) | _=>false)
def S7 (h:Tr AO)(L:List (Nat × LO)):Bool:=List.rec true (fun x _ ih=>F.cW (Option.rec false (Jv x.2) (F.get h x.1)) ih) L
def Sy (vs:List AV)(o:AO):Bool:=match o with | .cells c a b e f=>F.cW (Nat.beq 0 a) (F.cW (Nat.beq (F.iJ vs) b) (F.cW (Nat.beq 2 f) (yv vs c 0))) | _=>false
def Sw (h:Tr AO)(gl:List (Nat × List AV)):Bool:=List.rec true (fun x _ ih=>F.cW (Option.rec false (Sy x.2) (F.get h x.1)) ih) gl
def elO (o:AO):TypeId:=match o with | .cells _ _ _ e _=>e | _=>0
def Zc (h:Tr AO)(g:Nat):TypeId:=Option.rec 0 elO (F.get h g)
end
theorem FV {f:AV->AV->Bool}{e:Em}(hf:∀ a b,f a b=true->∀ v,VR e b v->VR e a v):∀ (a b:List AV),vO f a b=true->a.length=b.length/\∀ (i:Nat) (x y:AV),a[i]? = some x->b[i]? = some y->∀ v,VR e y v->VR e x v
 | [],[],_=>⟨rfl,by simp⟩
 | [],_::_,h=>by cases h
 | _::_,[],h=>by cases h
 | x::a,y::b,h=>by
  have h':F.cW (f x y) (vO f a b)=true:=h
  rw[F.jq,zf] at h'
  obtain⟨h1,h2⟩:=h'
  obtain⟨l,r⟩:=FV hf a b h2
  refine⟨by simp[l],fun i => ?_⟩
  cases i with
  | zero=>
   intro p q hp hq
   simp only[nq,acS] at hp hq
   subst hp;subst hq
   exact hf _ _ h1
  | succ i=>
   intro p q hp hq
   simp only[gk] at hp hq
   exact r i p q hp hq
theorem Ma (e : Em) : ∀ (n : Nat) (a b : AV), sC n a b = true -> ∀ v, VR e b v -> VR e a v
  | 0, a, b, h => by cases h
  | n+1, a, b, h => by
    have ih := Ma e n
    have h' : ab5 (sC n) a b = true := h
    intro v hv
    cases a with
    | dT => exact .dT v
    | bool x => cases b<;>first | (cases h';done) | skip
                rename_i y
                have h2 : F.po x y = true := h'
                rw[F.abL, beq_iff_eq] at h2;subst h2;exact hv
    | int k x => cases b<;>first | (cases h';done) | skip
                 rename_i j y
                 have h2 : F.cW (F.Fp k j) (F.Q4 x y) = true := h'
                 rw[F.jq, F.aav, F.ahj, zf, decide_eq_true_iff, decide_eq_true_iff] at h2
                 obtain⟨rfl, rfl⟩ := h2;exact hv
    | str s => cases b<;>first | (cases h';done) | skip
               rename_i u
               have h2 : F.D1 s u = true := h'
               rw[F.NT, beq_iff_eq] at h2;subst h2;exact hv
    | aC => cases b<;>first | (cases h';done) | exact hv
    | ptr i o => cases b<;>first | (cases h';done) | skip
                 rename_i j p
                 have h2 : F.cW (Nat.beq i j) (Nat.beq o p) = true := h'
                 rw[F.jq, zf, afS, afS] at h2
                 obtain⟨rfl, rfl⟩ := h2;exact hv
    | ae => cases b<;>first | (cases h';done) | exact hv
    | slice i o l c x f => cases b<;>first | (cases h';done) | skip
                           rename_i j p m d y g
                           have h2 : F.cW (Nat.beq i j) (F.cW (Nat.beq o p) (F.cW (Nat.beq l m) (F.cW (Nat.beq c d) (F.cW (F.po x y) (Nat.beq f g))))) = true := h'
                           simp only[F.jq, F.abL, zf, afS, beq_iff_eq] at h2
                           obtain⟨rfl, rfl, rfl, rfl, rfl, rfl⟩ := h2;exact hv
    | iF => cases b<;>first | (cases h';done) | exact hv
    | map i => cases b<;>first | (cases h';done) | skip
               rename_i j
               have h2 : Nat.beq i j = true := h'
               rw[afS] at h2;subst h2;exact hv
    | func fn x c => cases b<;>first | (cases h';done) | skip
                     rename_i gn y d
                     have h2 : F.cW (Wq fn gn) (F.cW (vO (sC n) x y) (vO (sC n) c d)) = true := h'
                     simp only[F.jq, zf] at h2
                     obtain⟨q1, q2, q3⟩ := h2
                     have HU : fn = gn := by
                       cases fn<;>first | (cases q1;done) | skip
                       cases gn<;>first | (cases q1;done) | skip
                       have : Nat.beq _ _ = true := q1
                       rw[afS] at this;rw[this]
                     subst HU
                     cases hv with
                     | func _ hf _ _ a' c' ha hc h1 h2 =>
                       obtain⟨l1, r1⟩ := FV ih x y q2
                       obtain⟨l2, r2⟩ := FV ih c d q3
                       refine .func _ hf _ _ a' c' (ha.trans l1.symm) (hc.trans l2.symm) ?_ ?_
                       · intro i p p' hp wB
                         have hi : i<y.length := by rw[<-l1];exact (abf.1 hp).1
                         exact r1 i p _ hp (aax hi) _ (h1 i _ p' (aax hi) wB)
                       · intro i p p' hp wB
                         have hi : i<d.length := by rw[<-l2];exact (abf.1 hp).1
                         exact r2 i p _ hp (aax hi) _ (h2 i _ p' (aax hi) wB)
    | yield l => cases h'
    | nilFunc => cases b<;>first | (cases h';done) | exact hv
    | nilIface => cases b<;>first | (cases h';done) | exact hv
    | iface t x => cases b<;>first | (cases h';done) | skip
                   rename_i u y
                   have h2 : F.cW (Nat.beq t u) (sC n x y) = true := h'
                   rw[F.jq, zf, afS] at h2
                   obtain⟨rfl, q⟩ := h2
                   cases hv with
                   | iface _ _ v' cQ => exact .iface _ _ _ (ih _ _ q _ cQ)
    | agg l => cases b<;>first | (cases h';done) | skip
               rename_i m
               have h2 : vO (sC n) l m = true := h'
               obtain⟨l1, r1⟩ := FV ih l m h2
               cases hv with
               | agg _ vs hl hh =>
                 refine .agg _ vs (hl.trans l1.symm) ?_
                 intro i p p' hp wB
                 have hi : i<m.length := by rw[<-l1];exact (abf.1 hp).1
                 exact r1 i p _ hp (aax hi) _ (hh i _ p' (aax hi) wB)
    | tuple l => cases b<;>first | (cases h';done) | skip
                 rename_i m
                 have h2 : vO (sC n) l m = true := h'
                 obtain⟨l1, r1⟩ := FV ih l m h2
                 cases hv with
                 | tuple _ vs hl hh =>
                   refine .tuple _ vs (hl.trans l1.symm) ?_
                   intro i p p' hp wB
                   have hi : i<m.length := by rw[<-l1];exact (abf.1 hp).1
                   exact r1 i p _ hp (aax hi) _ (hh i _ p' (aax hi) wB)
theorem G8 {α:Type}:∀ (l:List α) (t:Tr α) (n m:Nat),(t.dh n l).get m=if n<=m/\m<n+l.length then l[m-n]? else t.get m
 | [],t,n,m=>by
  rw[if_neg (by simp only[abY];omega)];rfl
 | x::l,t,n,m=>by
  rw[Tr.dh,G8 l,Tr.put,Tr.fE]
  by_cases h1:m=n
  ·subst h1
   rw[if_neg (by omega),if_pos rfl,if_pos (by simp)];simp
  ·by_cases h2:n+1<=m/\m<n+1+l.length
   ·rw[if_pos h2,if_pos (by simp;omega)]
    have:m-n=(m-(n+1))+1:=by omega
    rw[this,gk]
   ·rw[if_neg h2,if_neg h1,if_neg (by simp;omega)]
theorem Xy (e:Em)(c:Tr AV):∀ (vs:List AV) (k:Nat),yv vs c k=true->∀ (j:Nat) (v:AV),vs[j]? = some v->∃ v',c.get (k+j)=some v'/\∀ x,VR e v' x->VR e v x
 | [],_,_,j,v,hj=>by simp at hj
 | u::vs,k,h,j,v,hj=>by
  have h':F.cW (@Option.rec AV (fun _=>Bool) false (sC 8 u) (F.get c k)) (yv vs c (k+1))=true:=h
  rw[F.jq,zf] at h'
  obtain⟨h1,h2⟩:=h'
  cases j with
  | zero=>
   simp only[nq,acS] at hj
   subst hj
   rw[F.get_eq] at h1
   rw[ae6]
   cases hg:c.get k with
   | none=>rw[hg] at h1;cases h1
   | some v'=>
    rw[hg] at h1
    exact⟨v',rfl,Ma e 8 u v' h1⟩
  | succ j=>
   simp only[gk] at hj
   have:=Xy e c vs (k+1) h2 j v hj
   rw[show k+(j+1)=k+1+j by omega]
   exact this
theorem XW (e:Em):∀ (a b:List ME),KK a b=true->a.length=b.length/\∀ (i:Nat) (x y:ME),a[i]? = some x->b[i]? = some y->(∀ v,VR e y.key v->VR e x.key v)/\(∀ v,VR e y.val v->VR e x.val v)/\x.born=y.born
 | [],[],_=>⟨rfl,by simp⟩
 | [],_::_,h=>by cases h
 | _::_,[],h=>by cases h
 | x::a,y::b,h=>by
  have h':F.cW (sC 8 x.key y.key) (F.cW (sC 8 x.val y.val) (F.cW (Nat.beq x.born y.born) (KK a b)))=true:=h
  simp only[F.jq,zf,afS] at h'
  obtain⟨h1,h2,h3,h4⟩:=h'
  obtain⟨l,r⟩:=XW e a b h4
  refine⟨by simp[l],fun i => ?_⟩
  cases i with
  | zero=>
   intro p q hp hq
   simp only[nq,acS] at hp hq
   subst hp;subst hq
   exact⟨Ma e 8 _ _ h1,Ma e 8 _ _ h2,h3⟩
  | succ i=>
   intro p q hp hq
   simp only[gk] at hp hq
   exact r i p q hp hq
theorem Se {e:Em}{i:Nat}{c:Tr AV}{lo hi:Nat}{el:TypeId}{fl:Nat}{vs:List AV}{ob:Obj}(hh:yv vs c lo=true)(gp:lo+vs.length=hi)(h:OR e i (.cells c lo hi el fl) ob) :
  OR e i (.cells (F.dh vs .nil lo) lo (Nat.add lo (F.iJ vs)) el fl) ob:=by
 cases h with
 | cells _ _ _ _ _ C fz hn hc h0 h1 hd=>
  refine .cells _ _ _ _ _ C fz hn ?_ h0 h1 hd
  intro k v fG hk hg
  rw[F.SQ,G8] at hg
  rw[F.nj] at hk
  have lJ:k<lo+vs.length:=hk
  rw[if_pos ⟨fG,lJ⟩] at hg
  obtain⟨v',cQ,hle⟩:=Xy e c vs lo hh (k-lo) v hg
  rw[show lo+(k-lo)=k by omega] at cQ
  obtain⟨k',jm,u,hu,hr⟩:=hc k v' fG (by omega) cQ
  exact⟨k',jm,u,hu,hle _ hr⟩
theorem aaS {e:Em}{i:Nat}{l:LO}{o:AO}{ob:Obj}(hh:Jv l o=true)(h:OR e i o ob):OR e i (Gg l) ob/\wr (Gg l)=wr o:=by
 cases l with
 | cells lo el fl vs=>
  cases o<;>first | (cases hh;done) | skip
  rename_i c a b nM Cg
  have h2:F.cW (Nat.beq lo a) (F.cW (Nat.beq (Nat.add lo (F.iJ vs)) b) (F.cW (Nat.beq el nM) (F.cW (Nat.beq fl Cg) (yv vs c lo))))=true:=hh
  simp only[F.jq,zf,afS,F.nj] at h2
  obtain⟨rfl,rfl,rfl,rfl,h3⟩:=h2
  exact⟨Se h3 rfl h,rfl⟩
 | bytes lo el fl bs=>
  cases o<;>first | (cases hh;done) | skip
  rename_i c a b nM Cg
  have h2:F.cW (Nat.beq lo a) (F.cW (Nat.beq (Nat.add lo (F.iJ bs)) b) (F.cW (Nat.beq el nM) (F.cW (Nat.beq fl Cg) (yv (Ed bs) c lo))))=true:=hh
  simp only[F.jq,zf,afS,F.nj] at h2
  obtain⟨rfl,rfl,rfl,rfl,h3⟩:=h2
  have hlen:(Ed bs).length=bs.length:=by unfold Ed;rw[F.M0];simp
  have:=Se h3 (by rw[hlen];rfl) h
  refine⟨?_,rfl⟩
  rw[F.nj,hlen] at this
  show OR e i (.cells (F.dh (Ed bs) .nil lo) lo (Nat.add lo (F.iJ bs)) el fl) ob
  rw[F.nj]
  exact this
 | map es c=>
  cases o<;>first | (cases hh;done) | skip
  rename_i fs d
  have h2:F.cW (Nat.beq c d) (KK es fs)=true:=hh
  simp only[F.jq,zf,afS] at h2
  obtain⟨rfl,h3⟩:=h2
  obtain⟨ln,r⟩:=XW e es fs h3
  cases h with
  | map _ _ aq c' gs hp hm hn hb=>
   refine⟨.map _ _ aq c' gs hp ⟨hm.1.trans ln.symm,?_⟩ hn hb,rfl⟩
   intro j m m' hj iU
   have hi:j<fs.length:=by rw[<-ln];exact (abf.1 hj).1
   obtain⟨a1,a2,a3⟩:=r j m _ hj (aax hi)
   obtain⟨b1,b2⟩:=hm.2 j _ m' (aax hi) iU
   exact⟨a1 _ b1,a2 _ b2⟩
theorem Vu:∀ (L:List (Nat × LO)) (t:Tr AO) (i:Nat) (o:AO),(Qn L t).get i=some o->(∃ l,(i,l)∈L/\o=Gg l)\/t.get i=some o
 | [],t,i,o,h => .inr h
 | (j,l)::L,t,i,o,h=>by
  have h':(F.put 34 (Qn L t) j (Gg l)).get i=some o:=h
  rw[F.put_eq,Tr.put,Tr.fE] at h'
  by_cases tG:i=j
  ·subst tG
   rw[if_pos rfl] at h'
   exact .inl ⟨l,.head _,(adz h').symm⟩
  ·rw[if_neg tG] at h'
   rcases Vu L t i o h' with⟨l',a,b⟩ | q
   ·exact .inl ⟨l',.tail _ a,b⟩
   ·exact .inr q
theorem V1 (el:Nat->TypeId):∀ (L:List (Nat × List AV)) (t:Tr AO) (i:Nat) (o:AO),(Tl el L t).get i=some o->(∃ vs,(i,vs)∈L/\o = .cells (F.dh vs .nil 0) 0 (F.iJ vs) (el i) 2)\/t.get i=some o
 | [],t,i,o,h => .inr h
 | (j,vs)::L,t,i,o,h=>by
  have h':(F.put 34 (Tl el L t) j (.cells (F.dh vs .nil 0) 0 (F.iJ vs) (el j) 2)).get i=some o:=h
  rw[F.put_eq,Tr.put,Tr.fE] at h'
  by_cases tG:i=j
  ·subst tG
   rw[if_pos rfl] at h'
   exact .inl ⟨vs,.head _,(adz h').symm⟩
  ·rw[if_neg tG] at h'
   rcases V1 el L t i o h' with⟨l',a,b⟩ | q
   ·exact .inl ⟨l',.tail _ a,b⟩
   ·exact .inr q
theorem UT (h:Tr AO):∀ (L:List (Nat × LO)),S7 h L=true->∀ (i:Nat) (l:LO),(i,l)∈L->∃ o,h.get i=some o/\Jv l o=true
 | [],_,i,l,hm=>by cases hm
 | (j,m)::L,hh,i,l,hm=>by
  have h':F.cW (@Option.rec AO (fun _=>Bool) false (Jv m) (F.get h j)) (S7 h L)=true:=hh
  rw[F.jq,zf,F.get_eq] at h'
  obtain⟨h1,h2⟩:=h'
  rcases yL.1 hm with q | q
  ·obtain⟨rfl,rfl⟩:=Prod.mk.inj q
   cases hg:h.get i with
   | none=>rw[hg] at h1;cases h1
   | some o=>rw[hg] at h1;exact⟨o,rfl,h1⟩
  ·exact UT h L h2 i l q
theorem Yp (h:Tr AO):∀ (L:List (Nat × List AV)),Sw h L=true->∀ (i:Nat) (vs:List AV),(i,vs)∈L->∃ o,h.get i=some o/\Sy vs o=true
 | [],_,i,l,hm=>by cases hm
 | (j,m)::L,hh,i,l,hm=>by
  have h':F.cW (@Option.rec AO (fun _=>Bool) false (Sy m) (F.get h j)) (Sw h L)=true:=hh
  rw[F.jq,zf,F.get_eq] at h'
  obtain⟨h1,h2⟩:=h'
  rcases yL.1 hm with q | q
  ·obtain⟨rfl,rfl⟩:=Prod.mk.inj q
   cases hg:h.get i with
   | none=>rw[hg] at h1;cases h1
   | some o=>rw[hg] at h1;exact⟨o,rfl,h1⟩
  ·exact Yp h L h2 i l q
theorem RH.sub {G:Nat}{F':Nat->Prop}{W:World}{e:Em}{H:Hp}{w:World}(hR:RH G F' W e H w){el:Nat->TypeId}{gl:List (Nat × List AV)}{L:List (Nat × LO)}{next:Nat}(hn:next=H.next)(hL:S7 H.h L=true)(hG:Sw H.h gl=true)
  (pJ:∀ x∈gl,el x.1=Zc H.h x.1):RH G F' W e (aa0 el gl L next) w:=by
 have key:∀ i o,(aa0 el gl L next).h.get i=some o->∃ o',H.h.get i=some o'/\wr o=wr o'/\∀ ob,OR e i o' ob->OR e i o ob:=by
  intro i o h
  rcases Vu L _ i o h with⟨l,hm,rfl⟩ | h
  ·obtain⟨o',fh,hh⟩:=UT H.h L hL i l hm
   refine⟨o',fh,?_,fun ob dP=>(aaS hh dP).1⟩
   obtain⟨_,ob,_,dP,_⟩:=hR.obj i o' fh
   exact (aaS hh dP).2
  ·rcases V1 el gl _ i o h with⟨vs,hm,rfl⟩ | h
   ·obtain⟨o',fh,hh⟩:=Yp H.h gl hG i vs hm
    have he:=pJ _ hm
    simp only[Zc,F.get_eq,fh] at he
    cases o'<;>first | (cases hh;done) | skip
    rename_i c a b nM Cg
    have h2:F.cW (Nat.beq 0 a) (F.cW (Nat.beq (F.iJ vs) b) (F.cW (Nat.beq 2 Cg) (yv vs c 0)))=true:=hh
    simp only[F.jq,zf,afS,F.nj] at h2
    obtain⟨rfl,rfl,rfl,h3⟩:=h2
    have xi:el i=nM:=he
    subst xi
    refine⟨_,fh,rfl,fun ob dP => ?_⟩
    have:=Se h3 (yS _) dP
    rw[F.nj] at this ⊢
    rw[show Nat.add 0 vs.length=vs.length from yS _] at this
    exact this
   ·rw[Tr.get_nil] at h;cases h
 refine⟨hR.N.trans hn.symm,?_,?_,hR.nW,hR.frame,hR.os,hR.tape,hR.output,hR.size,hR.jy⟩
 ·intro i o h
  obtain⟨o',fh,hw,hle⟩:=key i o h
  obtain⟨a,ob,b,c,d⟩:=hR.obj i o' fh
  exact⟨a,ob,b,hle _ c,by rw[hw];exact d⟩
 ·intro i j oi oj h1 h2
  obtain⟨oi',gS,hwi,_⟩:=key i oi h1
  obtain⟨oI,iU,_⟩:=key j oj h2
  rw[hwi]
  exact hR.inj i j oi' oI gS iU
noncomputable section
end
end Go.Proofs.YtehhgkgeldinkaaGreatDoor.Am
