/- Laws that the proof uses. -/
import Derived.Test.YtehhgkgeldinkaaGreatDoorAm8
import Derived.Sort.KeysCollected
import Derived.WideShapes
set_option linter.unusedVariables false
set_option linter.unusedSimpArgs false
namespace Go.Proofs.YtehhgkgeldinkaaGreatDoor.Am
open Go.RowKit
section
section
variable {P:Program}{G:Nat}{F':Nat->Prop}{W:World}{e:Em}{H:Hp}{w:World}
theorem RH.V6 (h:RH G F' W e H w){w':World}(hb:Below w.heap.size w w'){g:Nat}(hg:w.heap.size<=g){ob:Obj}(dP:w'.heap[g]? = some ob){o:AO}{i:Nat}{H':Hp}(ha:Am.alloc H o=some (i,H')){d:Int}{n:Nat}
  (dH:OR (e.ext g d n) i o ob):i=e.N/\RH G F' W (e.ext g d n) H' w':=by
 obtain⟨rfl,ah,rfl⟩:=qz ha
 have hN:=h.N
 have eF:∀ j,(H.h.put 34 H.next o).get j=if j=H.next then some o else H.h.get j:=fun j=>Tr.fE _ _ _ _
 have hle:=Em.nf e g d n
 have old:∀ j oj,H.h.get j=some oj->(e.ext g d n).b j=e.b j/\e.b j<w.heap.size:=by
  intro j oj hj
  obtain⟨a,nH,b2,_,_⟩:=h.obj j oj hj
  exact⟨(hle.2 j a).1,(abM.1 b2).1⟩
 refine⟨hN.symm,?_,?_,?_,?_,?_,hb.os.trans h.os,hb.tape.trans h.tape,hb.output.trans h.output,abS h.size hb.size,by obtain⟨g1,g2,g3⟩:=h.jy;have:=hb.size;rw[(hle.2 G g2).2.2];simp[Em.ext];omega⟩
 ·simp[Em.ext,hN]
 ·intro j oj hj
  simp only at hj
  rw[eF] at hj
  by_cases ej:j=H.next
  ·subst ej
   rw[if_pos rfl] at hj
   cases hj
   refine⟨by simp[Em.ext,hN],ob,?_,dH,?_⟩
   ·rw[<-hN,Em.jL];exact dP
   ·intro _ hF
    rw[<-hN,Em.jL] at hF
    have:=(h.frame _ hF).1
    omega
  ·rw[if_neg ej] at hj
   obtain⟨a,nH,b2,c2,d2⟩:=h.obj j oj hj
   obtain⟨q,r⟩:=old j oj hj
   refine⟨by simp[Em.ext];omega,nH,?_,c2.mono hle a,?_⟩
   ·rw[q,hb.block _ r];exact b2
   ·intro hw;rw[q,(hle.2 G h.jy.2.1).2.2] at hw;rw[q];exact d2 hw
 ·intro j k oj ok hj hk hq he
  simp only at hj hk
  rw[eF] at hj hk
  by_cases ej:j=H.next<;>by_cases ek:k=H.next
  ·omega
  ·rw[if_neg ek] at hk
   obtain⟨q,r⟩:=old k ok hk
   rw[q,ej,<-hN,Em.jL] at he
   omega
  ·rw[if_neg ej] at hj
   obtain⟨q,r⟩:=old j oj hj
   rw[q,ek,<-hN,Em.jL] at he
   omega
  ·rw[if_neg ej] at hj
   rw[if_neg ek] at hk
   rw[(old j oj hj).1,(hle.2 G h.jy.2.1).2.2] at hq
   rw[(old j oj hj).1,(old k ok hk).1] at he
   exact h.inj j k oj ok hj hk hq he
 ·intro g' oe
  obtain⟨a,b,c⟩:=h.nW g' oe
  obtain⟨x,y,_⟩:=hle.2 g' a
  exact⟨by simp[Em.ext];omega,x.trans b,y.trans c⟩
 ·intro k hk
  obtain⟨a,b⟩:=h.frame k hk
  exact⟨adi a hb.size,(hb.block k a).trans b⟩
end
noncomputable section
def pz (c:Nat)(es:List ME):Nat->Bool:=List.rec (motive:=fun _=>Nat->Bool) (fun _=>true) (fun x _ ih p=>F.cW (Nat.ble p x.born) (F.cW (Nat.blt x.born c) (ih (Nat.succ x.born)))) es
def EH (v:AV):Option Nat:=match v with | .ae=>some 0 | .slice _ _ l _ _ _=>some l | _=>none
def F9 (H:Hp)(v:AV):Option Nat:=F.C4 (fun j k=>F.oE EH (F.cellAt H j k)) v
def LQ (r:Option Nat)(a:Nat):Option Nat:=Option.rec none (fun b=>F.vo some (Nat.add a b)) r
def zF (H:Hp)(es:List ME):Option Nat:=List.rec (some 0) (fun x _ ih=>F.oE (LQ ih) (F9 H x.val)) es
def D8 (H:Hp)(room:Int)(n:Nat):Option (AV × Hp):=F.oP H (F.YM .i64 room (.ofNat n))
def EL (H:Hp)(room:Int)(o:AO):Option (AV × Hp):=match o with
 | .map es c=>Bool.rec none (F.oE (D8 H room) (zF H es)) (pz c es 0)
 | _=>none
def Sp (z:Int):Bool:=Int.rec (fun n=>Nat.ble n 9223372036854775807) (fun _=>false) z
def FH (H:Hp)(r m:AV):Option (AV × Hp):=match r with
 | .int k room=>(match m with | .map j=>Bool.rec none (F.oE (EL H room) (F.get H.1 j)) (F.cW (F.Fp k .i64) (Sp room)) | _=>none)
 | _=>none
def KE (H:Hp)(i o:Nat):Option (AV × Hp):=Option.rec none (fun r=>Option.rec none (fun m=>FH H r m) (F.cellAt H i (Nat.succ o))) (F.cellAt H i o)
def Fj:Prim:=fun args H=>match args with
 | [a]=>F.C4 (KE H) a
 | _=>none
end
noncomputable def D9 (w:World)(x:MapEntry):Int:=match x.val with
 | .pointer (some a)=>(match w.cell? a with | some (.slice _ n _)=>(n:Int) | _=>0)
 | _=>0
section
variable {P:Program}{G:Nat}{F':Nat->Prop}{W:World}{e:Em}{H:Hp}{w:World}
theorem aai (hR:RH G F' W e H w):∀ (es:List ME) (aq:List MapEntry) (n:Nat),iQ e es aq->zF H es=some n->
  (aq.map (D9 w)).sum=(n:Int)/\∀ x∈aq,∃ b k s n c,x.val = .pointer (some ⟨b,k,none⟩)/\w.cell? ⟨b,k,none⟩=some (.slice s n c)/\D9 w x=(n:Int)
 | [],[],n,_,h=>by cases h;exact⟨rfl,by simp⟩
 | [],y::ys,n,hm,_=>by have:=hm.1;simp at this
 | x::es,[],n,hm,_=>by have:=hm.1;simp at this
 | x::es,y::ys,n,hm,h=>by
  have oF:iQ e es ys:=⟨by have:=hm.1;simpa using this,fun i a b ha hb=>hm.2 (i+1) a b (by simpa using ha) (by simpa using hb)⟩
  obtain⟨_,hv⟩:=hm.2 0 x y rfl rfl
  have h':F.oE (LQ (zF H es)) (F9 H x.val)=some n:=h
  rw[F.tV,aa6] at h'
  obtain⟨a,h1,h2⟩:=h'
  unfold LQ at h2
  cases hs:zF H es with
  | none=>rw[hs] at h2;cases h2
  | some b=>
   rw[hs] at h2
   have h3:F.vo some (Nat.add a b)=some n:=h2
   rw[F.Dl] at h3
   cases h3
   obtain⟨i1,i2⟩:=aai hR es ys b oF hs
   unfold F9 F.C4 at h1
   split at h1
   ·rename_i j k hj
    rw[hj] at hv
    simp only[] at h1
    rw[F.tV,F.Al,aa6] at h1
    obtain⟨cv,p9,hl⟩:=h1
    obtain⟨o',hi,ho,rM⟩:=hv.pA
    obtain⟨_,o2,vl,v2,oG,gu⟩:=hR.load p9
    have:o'=o2:=by omega
    subst this
    have rD:∃ s c,v2 = .slice s a c:=by
     unfold EH at hl
     split at hl
     ·cases hl;cases gu;exact⟨_,_,rfl⟩
     ·cases hl;cases gu<;>exact⟨_,_,rfl⟩
     ·cases hl
    obtain⟨s,c,rfl⟩:=rD
    have Wv:D9 w y=(a:Int):=by
     unfold D9
     rw[rM]
     simp only[oG]
    refine⟨?_,?_⟩
    ·rw[ab8,ah6,Wv,i1]
     show (a:Int)+(b:Int)=((a+b:Nat):Int)
     omega
    ·intro z hz
     rcases yL.1 hz with rfl | q
     ·exact⟨_,_,s,a,c,rM,oG,Wv⟩
     ·exact i2 z q
   ·cases h1
theorem afb {l l':List Int}(h:l.Perm l'):l.sum=l'.sum:=by
 induction h with
 | nil=>rfl
 | cons x _ ih=>rw[ah6,ah6,ih]
 | swap x y l=>simp only[ah6];omega
 | trans _ _ h1 h2=>exact h1.trans h2
theorem adZ {f:Nat}(tB:∀ ar w,(callFunc f ar).run P w = .ok (.enter f ar) w)
  (hC:∀ (bs o:Nat) (room:Int) (bm:Nat) (es:Array MapEntry) (clock:Nat) (g:MapEntry->Int) (w:World),0<=room->room<=9223372036854775807->w.cell? ⟨bs,o,none⟩=some (.int .i64 room)->w.cell? ⟨bs,o+1,none⟩=some (.map (some bm))->
   w.heap[bm]? = some (.map es clock)->(∀ x∈es.toList,x.born<clock)->(es.toList.map (·.born)).Nodup->(∀ x∈es.toList,∃ b k s n c,x.val = .pointer (some ⟨b,k,none⟩)/\w.cell? ⟨b,k,none⟩=some (.slice s n c)/\g x=(n:Int))->
   Calls P f #[.pointer (some ⟨bs,o,none⟩)] w fun e w'=>e = .returned (.int .i64 (wrap64 (room-(es.toList.map g).sum)))/\Below w.heap.size w w'):pt P f Fj:=by
 intro args H v H' hp Fr W e w ar hR ha
 unfold Fj at hp
 split at hp
 ·rename_i a
  unfold F.C4 at hp
  split at hp
  ·rename_i i o
   obtain⟨a',r1,e1,iI,gG⟩:=ha.cons_inv
   have e3:=gG.iW
   subst e3
   obtain⟨o',hi,ho,rfl⟩:=iI.pA
   obtain rfl:ar = #[.pointer (some ⟨e.b i,o',none⟩)]:=adl.1 e1
   refine⟨tB _ _,?_⟩
   unfold KE at hp
   rw[F.Al,F.Al] at hp
   cases oW:cellAt H i o with
   | none=>rw[oW] at hp;cases hp
   | some r=>
    rw[oW] at hp
    cases p8:cellAt H i (o+1) with
    | none=>rw[show Nat.succ o=o+1 from rfl,p8] at hp;cases hp
    | some m=>
     rw[show Nat.succ o=o+1 from rfl,p8] at hp
     have qU:FH H r m=some (v,H'):=hp
     unfold FH at qU
     split at qU
     ·rename_i k room
      split at qU
      ·rename_i j
       cases hk:F.cW (F.Fp k .i64) (Sp room) with
       | false=>rw[hk] at qU;cases qU
       | true=>
        rw[hk] at qU
        rw[F.jq,zf,F.aav,decide_eq_true_iff] at hk
        obtain⟨rfl,Az⟩:=hk
        have V2:0<=room/\room<=9223372036854775807:=by
         cases room with
         | ofNat n=>
          have h1:Nat.ble n 9223372036854775807=true:=Az
          rw[ado] at h1
          have h2:(Int.ofNat n)=(n:Int):=rfl
          rw[h2];omega
         | negSucc n=>cases Az
        have tN:F.oE (EL H room) (F.get H.1 j)=some (v,H'):=qU
        rw[F.tV,F.get_eq,aa6] at tN
        obtain⟨ob,hj,sE⟩:=tN
        unfold EL at sE
        split at sE
        ·rename_i es c
         cases gH:pz c es 0 with
         | false=>rw[gH] at sE;cases sE
         | true=>
          rw[gH] at sE
          have yw:F.oE (D8 H room) (zF H es)=some (v,H'):=sE
          rw[F.tV,aa6] at yw
          obtain⟨n,hn,zY⟩:=yw
          unfold D8 at zY
          rw[F.VV] at zY
          cases zY
          obtain⟨_,o2,vl,v0,adA,alm⟩:=hR.load oW
          obtain⟨_,o3,CS,v1,TZ,PA⟩:=hR.load p8
          have h2:o'=o2:=by omega
          have h3:o3=o'+1:=by omega
          subst h2;subst h3
          cases alm.gQ
          obtain⟨hjN,obj,MQ,dH,_⟩:=hR.obj j _ hj
          have Oj:v1 = .map (some (e.b j)):=by cases PA;rfl
          subst Oj
          cases dH with
          | map _ _ aq c' fs uA kQ Oa je=>
           obtain⟨q1,q2⟩:=aai hR es fs n kQ hn
           refine (hC (e.b i) o' room (e.b j) aq c' (D9 w) w V2.1 V2.2 adA TZ MQ (fun x hx=>je x (uA.mem_iff.2 hx)) ((uA.map _).nodup_iff.1 Oa) (fun x hx=>q2 x (uA.mem_iff.2 hx))).mono ?_
           rintro en w' ⟨rfl,qG⟩
           refine⟨e,_,rfl,e.le_refl,hR.below qG,?_⟩
           rw[<-afb (uA.map (D9 w)),q1,<-IntWalk.i64_left]
           exact .int _ _
        ·cases sE
      ·cases qU
     ·cases qU
  ·cases hp
 ·cases hp
end
end
open Go.Maps Go.Sort Go.Proofs
noncomputable section
def Ac (a:List Nat):List Nat->Bool:=List.rec (motive:=fun _=>List Nat->Bool) (fun b=>List.rec false (fun _ _ _=>true) b) (fun x _ ih b=>List.rec false (fun y r _=>Bool.rec (Bool.rec false (ih r) (Nat.beq x y)) true (Nat.blt x y)) b) a
def tA (x:List Nat)(l:List (List Nat)):List (List Nat):=List.rec [x] (fun y r ih=>Bool.rec (x::y::r) (y::ih) (Ac y x)) l
def nY (l:List (List Nat)):List (List Nat):=List.rec [] (fun x _ ih=>tA x ih) l
def xU (x:List Nat)(l:List (List Nat)):Bool:=List.rec false (fun y _ ih=>Bool.rec ih true (F.D1 y x)) l
def D2 (l:List (List Nat)):Bool:=List.rec true (fun x r ih=>Bool.rec ih false (xU x r)) l
def LS (r:Option (List (List Nat)))(v:AV):Option (List (List Nat)):=match v with | .str s=>Option.rec none (fun l=>some (s::l)) r | _=>none
def AU (es:List ME):Option (List (List Nat)):=List.rec (some []) (fun x _ ih=>LS ih x.key) es
def Bs (n i:Nat):AV := .slice i 0 n n false 1
def RO (ty:TypeId)(H:Hp)(l:List (List Nat)):Option (AV × Hp):=List.rec (some (.ae,H)) (fun _ _ _=>F.GZ H ty 0 (Bs (F.iJ l)) (F.EV AV.str l)) l
def Dy (l:List (List Nat)):Bool:=List.rec true (fun x _ ih=>F.cW (Nat.ble (F.iJ x) 16777216) ih) l
def GR (ty:TypeId)(H:Hp)(c:Nat)(es:List ME)(ks:List (List Nat)):Option (AV × Hp):=Bool.rec none (RO ty H (nY ks)) (F.cW (pz c es 0) (F.cW (D2 ks) (F.cW (Dy ks) (Nat.ble (F.iJ es) 16777216))))
def Lx (ty:TypeId)(H:Hp)(o:AO):Option (AV × Hp):=match o with
 | .map es c=>F.oE (GR ty H c es) (AU es)
 | _=>none
def IZ (ty:TypeId)(H:Hp)(i o:Nat):Option (AV × Hp):=Option.rec none (fun m=>match m with | .map j=>F.oE (Lx ty H) (F.get H.1 j) | _=>none) (F.cellAt H i (Nat.succ o))
def CG (ty:TypeId):Prim:=fun args H=>match args with
 | [a]=>F.C4 (IZ ty H) a
 | _=>none
end
def ic (s:List UInt8):List Nat:=s.map (·.toNat)
theorem aaL:∀ a b:List UInt8,Ac (ic a) (ic b)=decide (a<b)
 | [],[]=>by simp[ic];rfl
 | [],y::b=>by simp[ic];rfl
 | x::a,[]=>by simp[ic];rfl
 | x::a,y::b=>by
  show @Bool.rec (fun _=>Bool) (@Bool.rec (fun _=>Bool) false (Ac (ic a) (ic b)) (Nat.beq x.toNat y.toNat)) true (Nat.blt x.toNat y.toNat)=_
  rw[aaL a b]
  have key:(x::a<y::b)↔(x<y\/x=y/\a<b):=List.cons_lt_cons_iff
  by_cases h1:x.toNat<y.toNat
  ·have:Nat.blt x.toNat y.toNat=true:=by rw[adn];exact h1
   rw[this]
   symm
   rw[decide_eq_true_iff,key]
   exact .inl (ajs.2 h1)
  ·have:Nat.blt x.toNat y.toNat=false:=by rw[<-Bool.not_eq_true,adn];exact h1
   rw[this]
   by_cases h2:x=y
   ·subst h2
    rw[sZ]
    show decide (a<b)=_
    rw[decide_eq_decide,key]
    constructor
    ·exact fun q => .inr ⟨rfl,q⟩
    ·rintro (q | ⟨_,q⟩)
     ·exact absurd (ajs.1 q) h1
     ·exact q
   ·have h3:¬ x.toNat=y.toNat:=fun q=>h2 (UInt8.toNat_inj.1 q)
    rw[oa h3]
    symm
    rw[decide_eq_false_iff_not,key]
    rintro (q | ⟨q,_⟩)
    ·exact h1 (ajs.1 q)
    ·exact h2 q
def wo (x:List UInt8):List (List UInt8)->List (List UInt8)
 | []=>[x]
 | y::r=>if y<x then y::wo x r else x::y::r
def vm:List (List UInt8)->List (List UInt8)
 | []=>[]
 | x::r=>wo x (vm r)
theorem Xb (x:List UInt8):∀ l:List (List UInt8),tA (ic x) (l.map ic)=(wo x l).map ic
 | []=>rfl
 | y::r=>by
  show @Bool.rec (fun _=>List (List Nat)) (ic x::ic y::r.map ic) (ic y::tA (ic x) (r.map ic)) (Ac (ic y) (ic x))=_
  rw[Xb x r,aaL]
  have hi:wo x (y::r)=if y<x then y::wo x r else x::y::r:=rfl
  rw[hi]
  by_cases h:y<x
  ·rw[if_pos h,decide_eq_true h];rfl
  ·rw[if_neg h,decide_eq_false h];rfl
theorem Vq:∀ l:List (List UInt8),nY (l.map ic)=(vm l).map ic
 | []=>rfl
 | x::r=>by
  show tA (ic x) (nY (r.map ic))=_
  rw[Vq r,Xb];rfl
theorem Ts (x:List UInt8):∀ l,(wo x l).Perm (x::l)
 | [] => .refl _
 | y::r=>by
  unfold wo
  split
  ·exact ((Ts x r).cons y).trans (.swap x y r)
  ·exact .refl _
theorem OQ:∀ l,(vm l).Perm l
 | [] => .refl _
 | x::r=>(Ts x (vm r)).trans ((OQ r).cons x)
theorem W3 (x:List UInt8):∀ l:List (List UInt8),l.Pairwise (fun a b=>a<=b)->(wo x l).Pairwise (fun a b=>a<=b)
 | [],_=>by simp[wo]
 | y::r,h=>by
  unfold wo
  rw[List.pairwise_cons] at h
  split
  ·rename_i ah
   rw[List.pairwise_cons]
   refine⟨fun z hz => ?_,W3 x r h.2⟩
   rcases yL.1 ((Ts x r).mem_iff.1 hz) with rfl | q
   ·exact List.le_of_lt ah
   ·exact h.1 z q
  ·rename_i ah
   have hle:x<=y:=List.not_lt.1 ah
   rw[List.pairwise_cons,List.pairwise_cons]
   refine⟨fun z hz => ?_,h.1,h.2⟩
   rcases yL.1 hz with rfl | q
   ·exact hle
   ·exact List.le_trans hle (h.1 z q)
theorem VH:∀ l,(vm l).Pairwise (fun a b=>a<=b)
 | [] => .nil
 | x::r=>W3 x _ (VH r)
theorem akR (l:List (List UInt8)):l.mergeSort (fun x y=>decide (x<=y))=vm l:=by
 have h:=mergeSort_of_perm (OQ l).symm
 have h2:(vm l).mergeSort leB=vm l:=List.mergeSort_of_pairwise ((VH l).imp fun {a b} zd=>decide_eq_true zd)
 exact h.trans h2
def pH (x:MapEntry):List UInt8:=match x.key with | .string s=>s.data.toList | _=>[]
section
variable {P:Program}{e:Em}
theorem X2:∀ (es:List ME) (aq:List MapEntry) (ks:List (List Nat)),iQ e es aq->AU es=some ks->aq.map (fun x=>ic (pH x))=ks/\∀ x∈aq,∃ s:ByteArray,x.key = .string s/\ic s.data.toList∈ks
 | [],[],ks,_,h=>by cases h;exact⟨rfl,by simp⟩
 | [],y::ys,ks,hm,_=>by have:=hm.1;simp at this
 | x::es,[],ks,hm,_=>by have:=hm.1;simp at this
 | x::es,y::ys,ks,hm,h=>by
  have oF:iQ e es ys:=⟨by have:=hm.1;simpa using this,fun i a b ha hb=>hm.2 (i+1) a b (by simpa using ha) (by simpa using hb)⟩
  obtain⟨hk,_⟩:=hm.2 0 x y rfl rfl
  have h':LS (AU es) x.key=some ks:=h
  unfold LS at h'
  split at h'
  ·rename_i s hs
   cases hr:AU es with
   | none=>rw[hr] at h';cases h'
   | some l=>
    rw[hr] at h'
    have h2:some (s::l)=some ks:=h'
    cases h2
    obtain⟨i1,i2⟩:=X2 es ys l oF hr
    rw[hs] at hk
    obtain⟨s',wL,Ju⟩:=hk.lj
    have hb:ic s'.data.toList=s:=by rw[wL];rfl
    refine⟨?_,?_⟩
    ·rw[ab8,i1]
     have:ic (pH y)=s:=by unfold pH;rw[Ju];exact hb
     rw[this]
    ·intro z hz
     rcases yL.1 hz with rfl | q
     ·exact⟨s',Ju,by rw[hb];exact .head _⟩
     ·obtain⟨s2,a,b⟩:=i2 z q
      exact⟨s2,a,.tail _ b⟩
  ·cases h'
theorem Sh (x:List Nat):∀ l,xU x l=true↔x∈l
 | []=>by simp[xU]
 | y::r=>by
  have:xU x (y::r) = @Bool.rec (fun _=>Bool) (xU x r) true (F.D1 y x):=rfl
  rw[this,F.NT]
  have ih:=Sh x r
  by_cases h:y=x
  ·subst h;simp
  ·have:(y==x)=false:=by simp[h]
   rw[this]
   simp only
   rw[ih,yL]
   exact⟨.inr,fun q=>q.resolve_left (fun z=>h z.symm)⟩
theorem W6:∀ l,D2 l=true->l.Nodup
 | [],_ => .nil
 | x::r,h=>by
  have h':@Bool.rec (fun _=>Bool) (D2 r) false (xU x r)=true:=h
  cases hm:xU x r with
  | true=>rw[hm] at h';cases h'
  | false=>
   rw[hm] at h'
   rw[acB]
   refine⟨fun q => ?_,W6 r h'⟩
   rw[(Sh x r).2 q] at hm
   cases hm
theorem VU:∀ l,Dy l=true->∀ x∈l,x.length<=16777216
 | [],_,x,hx=>by cases hx
 | y::r,h,x,hx=>by
  have h':F.cW (Nat.ble (F.iJ y) 16777216) (Dy r)=true:=h
  rw[F.jq,zf,ado,F.nj] at h'
  rcases yL.1 hx with rfl | q
  ·exact h'.1
  ·exact VU r h'.2 x q
def Ae (_:Value):Option (DataW Unit × List MemPlace):=some (.lit (.bool true),[])
theorem aqJ {f ty:Nat}(tB:∀ ar w,(callFunc f ar).run P w = .ok (.enter f ar) w)(hu:P.underlying ty=some .string)
  (hC:∀ (bs o bm nn:Nat) (D0:DataW Unit) (R:Value->Option (DataW Unit × List MemPlace)) (w:World),w.cell? ⟨bs,o+1,none⟩=some (.map (some bm))->w.ownsMap P ty R bm nn D0->Maps.size D0<=maxLen->Maps.size D0*16<=140737488355328->
   Calls P f #[.pointer (some ⟨bs,o,none⟩)] w fun e w'=>∃ (v:Value) (ss:List (List UInt8)),e = .returned v/\ss.Perm (strKeys D0)/\w'.ownsRow w.heap.size ty 1 v ss.length ((ss.mergeSort (fun x y=>decide (x<=y))).map encStr)/\(v = .slice none 0 0↔ss=[])/\Below w.heap.size w w') :
  pt P f (CG ty):=by
 intro args H v H' hp Fr W e w ar hR ha
 unfold CG at hp
 split at hp
 ·rename_i a
  unfold F.C4 at hp
  split at hp
  ·rename_i i o
   obtain⟨a',r1,e1,iI,gG⟩:=ha.cons_inv
   have e3:=gG.iW
   subst e3
   obtain⟨o',hi,ho,rfl⟩:=iI.pA
   obtain rfl:ar = #[.pointer (some ⟨e.b i,o',none⟩)]:=adl.1 e1
   refine⟨tB _ _,?_⟩
   unfold IZ at hp
   rw[F.Al] at hp
   cases p8:cellAt H i (o+1) with
   | none=>rw[show Nat.succ o=o+1 from rfl,p8] at hp;cases hp
   | some m=>
    rw[show Nat.succ o=o+1 from rfl,p8] at hp
    simp only at hp
    split at hp
    ·rename_i j
     rw[F.tV,F.get_eq,aa6] at hp
     obtain⟨ob,hj,sE⟩:=hp
     unfold Lx at sE
     split at sE
     ·rename_i es c
      rw[F.tV,aa6] at sE
      obtain⟨ks,hks,yw⟩:=sE
      unfold GR at yw
      simp only[F.jq,F.nj] at yw
      cases JQ:(pz c es 0&&(D2 ks&&(Dy ks&&Nat.ble es.length 16777216))) with
      | false=>rw[JQ] at yw;cases yw
      | true=>
       rw[JQ] at yw
       simp only[zf,ado] at JQ
       obtain⟨k1,k2,k3,k4⟩:=JQ
       have zY:RO ty H (nY ks)=some (v,H'):=yw
       obtain⟨_,o3,CS,v1,TZ,PA⟩:=hR.load p8
       have h3:o3=o'+1:=by omega
       subst h3
       obtain⟨hjN,obj,MQ,dH,_⟩:=hR.obj j _ hj
       have Oj:v1 = .map (some (e.b j)):=by cases PA;rfl
       subst Oj
       cases dH with
       | map _ _ aq c' fs uA kQ Oa je=>
        obtain⟨m1,m2'⟩:=X2 es fs ks kQ hks
        have m2:=fun x (hx:x∈aq.toList)=>m2' x (uA.mem_iff.2 hx)
        have ah:∀ x∈aq.toList,x.born<c':=fun x hx=>je x (uA.mem_iff.2 hx)
        have dI:=W6 ks k2
        have Ju:∀ x∈aq.toList,x.key = .string ⟨(pH x).toArray⟩/\(pH x).length<=maxLen:=by
         intro x hx
         obtain⟨s,hs,gH⟩:=m2 x hx
         have hkb:pH x=s.data.toList:=by unfold pH;rw[hs]
         refine⟨by rw[hkb,hs],?_⟩
         rw[hkb]
         have:=VU ks k3 _ gH
         have hl:(ic s.data.toList).length=s.data.toList.length:=by simp[ic]
         rw[hl] at this
         unfold maxLen
         omega
        have am6:(aq.toList.map (·.key)).Nodup:=by
         have h1:(aq.toList.map (fun x=>ic (pH x))).Nodup:=(uA.map _).nodup_iff.1 (by rw[m1];exact dI)
         rw[List.Nodup,List.pairwise_map] at h1 ⊢
         refine h1.imp_of_mem ?_
         intro x y hx hy cL he
         exact cL (by unfold pH;rw[he])
        have fW:MapKept.Stamped aq c':=⟨ah,(uA.map _).nodup_iff.1 Oa,am6⟩
        have jh:∀ x∈aq.toList,WideElems.rd P ty Ae x=some (.string (pH x),.lit (.bool true)):=by
         intro x hx
         obtain⟨q1,q2⟩:=Ju x hx
         unfold WideElems.rd
         have dp:(⟨(pH x).toArray⟩:ByteArray).size<=maxLen:=by simpa[ByteArray.size] using q2
         rw[q1,WideMaps.keyOf_string_mk hu dp]
         rfl
        have hlen:aq.size=es.length:=by have h1:=kQ.1;have h2:=uA.length_eq;have h3:aq.toList.length=aq.size:=af0;omega
        have wM:w.ownsMap P ty Ae (e.b j) aq.size (.map ((aq.toList.map (WideElems.rg P ty Ae)).foldr DataW.insert [])):=
         ⟨aq,c',MQ,⟨by unfold maxLen;omega,fW,fun x hx=>⟨_,jh x hx⟩⟩,aar _,rfl⟩
        have pO:(strKeys (H:=Unit) (.map ((aq.toList.map (WideElems.rg P ty Ae)).foldr DataW.insert []))).Perm (aq.toList.map pH):=by
         unfold strKeys
         refine (WideShapes.sorted_perm (aq.toList.map (WideElems.rg P ty Ae))).map _ |>.trans ?_
         rw[agx]
         refine .of_eq (ag4 fun x hx => ?_)
         simp only[Function.comp,WideElems.rg,jh x hx,agy]
         rfl
        have LJ:Maps.size (H:=Unit) (.map ((aq.toList.map (WideElems.rg P ty Ae)).foldr DataW.insert []))=aq.size:=by
         show ((aq.toList.map (WideElems.rg P ty Ae)).foldr DataW.insert []).length=aq.size
         rw[(WideShapes.sorted_perm _).length_eq];simp
        refine (hC (e.b i) o' (e.b j) _ _ Ae w TZ wM (by rw[LJ];unfold maxLen;omega) (by rw[LJ];omega)).mono ?_
        rintro en w' ⟨v',ss,rfl,hss,jC,lS,qG⟩
        have Im:ss.Perm (fs.map pH):=(hss.trans pO).trans (uA.symm.map _)
        have Ix:ss.mergeSort (fun x y=>decide (x<=y))=vm (fs.map pH):=(mergeSort_of_perm Im).trans (akR _)
        have yj:nY ks=(vm (fs.map pH)).map ic:=by
         rw[<-Vq,agx,<-m1];rfl
        rw[Ix] at jC
        have PM:(vm (fs.map pH)).length=ss.length:=by rw[(OQ _).length_eq,Im.length_eq]
        cases xt:nY ks with
        | nil=>
         rw[xt] at zY
         cases zY
         have:ss=[]:=by
          rw[xt] at yj
          have:=congrArg List.length yj
          rw[adg,PM] at this
          exact List.length_eq_zero_iff.1 this.symm
         refine⟨e,v',rfl,e.le_refl,hR.below qG,?_⟩
         rw[lS.2 this]
         exact .ae
        | cons k0 kr=>
         have VG:F.GZ H ty 0 (Bs (F.iJ (nY ks))) (F.EV AV.str (nY ks))=some (v,H'):=by
          rw[xt] at zY ⊢;exact zY
         rw[F.YK,yB] at VG
         obtain⟨⟨ni,H2⟩,jz,kF⟩:=VG
         cases kF
         have cL:ss≠[]:=by
          intro q
          rw[xt] at yj
          have:=congrArg List.length yj
          rw[adg,PM,q] at this
          simp at this
         obtain⟨dW,NZ⟩:=jC
         rcases NZ with⟨rfl,h0⟩ | ⟨g,cap,cur,rfl,S4,N5,fe,apB,KJ,Qs⟩
         ·exact absurd (lS.1 rfl) cL
         obtain⟨oX,ff⟩:=El jz
         rw[F.M0] at ff oX
         have al1:(F.iJ (nY ks))=ss.length:=by rw[F.nj,yj,adg,PM]
         have gS:ni=e.N:=(qz ff).1.trans hR.N.symm
         have hle:=Em.nf e g 0 cur.size
         have dH:OR (e.ext g 0 cur.size) ni (.cells (Tr.dh .nil 0 ((nY ks).map AV.str)) 0 ((nY ks).map AV.str).length ty 0) (.cells cur ty (0,0)):=by
          subst gS
          refine .cells _ _ _ _ _ _ (0,0) (by simp[Em.qt]) ?_ (fun _=>rfl) (by simp) (fun _=>Em.jN ..)
          intro k v _ hk hg
          rw[G8,if_pos ⟨adf _,by simpa using hk⟩,ae9] at hg
          rw[adh,yj,adh,Option.map_map,yB] at hg
          obtain⟨u,uD,rfl⟩:=hg
          refine⟨k,by rw[Em.jN];omega,encStr u,?_,?_⟩
          ·have h1:(cur.toList.take (ss.length*1))[k]? = some (encStr u):=by rw[Qs,adh,uD];rfl
           rw[adM] at h1
           split at h1
           ·rw[<-adm];exact h1
           ·cases h1
          ·have hb:AV.str (ic u)=AV.str (bytes (⟨u.toArray⟩:ByteArray)):=by simp[ic,bytes]
           show VR _ (AV.str (ic u)) _
           rw[hb]
           exact VR.str (⟨u.toArray⟩:ByteArray)
         obtain⟨gH,sR⟩:=hR.V6 qG S4 N5 ff dH
         refine⟨_,_,rfl,hle,sR,?_⟩
         subst gH
         show VR _ (Bs (F.iJ (nY ks)) e.N) _
         unfold Bs
         rw[al1]
         have je:(e.ext g 0 cur.size).b e.N=g:=Em.jL ..
         have hv:=VR.slice (e:=e.ext g 0 cur.size) e.N 0 ss.length ss.length false 1 0 cap (aeX e.N) (by rw[Em.jN];rfl) fe fe (by simp) (by rw[Em.qt,KJ];omega)
         rw[je] at hv
         exact hv
     ·cases sE
    ·cases hp
  ·cases hp
 ·cases hp
end
end Go.Proofs.YtehhgkgeldinkaaGreatDoor.Am
