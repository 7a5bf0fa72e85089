/- Laws that the proof uses. -/
import Derived.Test.YtbdlbhlhnpblpaaGreatDoorAm8
import Derived.Sort.KeysCollected
import Derived.WideShapes
set_option linter.unusedVariables false
set_option linter.unusedSimpArgs false
namespace Go.Proofs.YtbdlbhlhnpblpaaGreatDoor.Am
open Go.RowKit
section
section
variable {P:Program}{G:Nat}{F':Nat->Prop}{W:World}{e:Em}{H:Hp}{w:World}
theorem RH.VM (h:RH G F' W e H w){w':World}(hb:Below w.heap.size w w'){g:Nat}(hg:w.heap.size<=g){ob:Obj}(db:w'.heap[g]? = some ob){o:AO}{i:Nat}{H':Hp}(ha:Am.alloc H o=some (i,H')){d:Int}{n:Nat}
  (da:OR (e.ext g d n) i o ob):i=e.N/\RH G F' W (e.ext g d n) H' w':=by
 obtain⟨rfl,bW,rfl⟩:=oV ha
 have hN:=h.N
 have dM:∀ j,(H.h.put 34 H.next o).get j=if j=H.next then some o else H.h.get j:=fun j=>Tr.eS _ _ _ _
 have hle:=Em.kK e g d n
 have old:∀ j oj,H.h.get j=some oj->(e.ext g d n).b j=e.b j/\e.b j<w.heap.size:=by
  intro j oj hj
  obtain⟨a,kW,b2,_,_⟩:=h.obj j oj hj
  exact⟨(hle.2 j a).1,(abH.1 b2).1⟩
 refine⟨hN.symm,?_,?_,?_,?_,?_,hb.os.trans h.os,hb.tape.trans h.tape,hb.output.trans h.output,abl h.size hb.size,by obtain⟨g1,g2,g3⟩:=h.iw;have:=hb.size;rw[(hle.2 G g2).2.2];simp[Em.ext];omega⟩
 ·simp[Em.ext,hN]
 ·intro j oj hj
  simp only at hj
  rw[dM] at hj
  by_cases ej:j=H.next
  ·subst ej
   rw[if_pos rfl] at hj
   cases hj
   refine⟨by simp[Em.ext,hN],ob,?_,da,?_⟩
   ·rw[<-hN,Em.ig];exact db
   ·intro _ hF
    rw[<-hN,Em.ig] at hF
    have:=(h.frame _ hF).1
    omega
  ·rw[if_neg ej] at hj
   obtain⟨a,kW,b2,c2,d2⟩:=h.obj j oj hj
   obtain⟨q,r⟩:=old j oj hj
   refine⟨by simp[Em.ext];omega,kW,?_,c2.mono hle a,?_⟩
   ·rw[q,hb.block _ r];exact b2
   ·intro hw;rw[q,(hle.2 G h.iw.2.1).2.2] at hw;rw[q];exact d2 hw
 ·intro j k oj ok hj hk hq he
  simp only at hj hk
  rw[dM] at hj hk
  by_cases ej:j=H.next<;>by_cases ek:k=H.next
  ·omega
  ·rw[if_neg ek] at hk
   obtain⟨q,r⟩:=old k ok hk
   rw[q,ej,<-hN,Em.ig] at he
   omega
  ·rw[if_neg ej] at hj
   obtain⟨q,r⟩:=old j oj hj
   rw[q,ek,<-hN,Em.ig] at he
   omega
  ·rw[if_neg ej] at hj
   rw[if_neg ek] at hk
   rw[(old j oj hj).1,(hle.2 G h.iw.2.1).2.2] at hq
   rw[(old j oj hj).1,(old k ok hk).1] at he
   exact h.inj j k oj ok hj hk hq he
 ·intro g' mU
  obtain⟨a,b,c⟩:=h.mG g' mU
  obtain⟨x,y,_⟩:=hle.2 g' a
  exact⟨by simp[Em.ext];omega,x.trans b,y.trans c⟩
 ·intro k hk
  obtain⟨a,b⟩:=h.frame k hk
  exact⟨aci a hb.size,(hb.block k a).trans b⟩
end
noncomputable section
def ou (c:Nat)(es:List ME):Nat->Bool:=List.rec (motive:=fun _=>Nat->Bool) (fun _=>true) (fun x _ ih p=>F.lW (Nat.ble p x.born) (F.lW (Nat.blt x.born c) (ih (Nat.succ x.born)))) es
def Dr (v:AV):Option Nat:=match v with | .ae=>some 0 | .slice _ _ l _ _ _=>some l | _=>none
def Ff (H:Hp)(v:AV):Option Nat:=F.BV (fun j k=>F.oE Dr (F.cellAt H j k)) v
def KZ (r:Option Nat)(a:Nat):Option Nat:=Option.rec none (fun b=>F.tu some (Nat.add a b)) r
def xQ (H:Hp)(es:List ME):Option Nat:=List.rec (some 0) (fun x _ ih=>F.oE (KZ ih) (Ff H x.val)) es
def CQ (H:Hp)(room:Int)(n:Nat):Option (AV × Hp):=F.oP H (F.Yy .i64 room (.ofNat n))
def Du (H:Hp)(room:Int)(o:AO):Option (AV × Hp):=match o with
 | .map es c=>Bool.rec none (F.oE (CQ H room) (xQ H es)) (ou c es 0)
 | _=>none
def RW (z:Int):Bool:=Int.rec (fun n=>Nat.ble n 9223372036854775807) (fun _=>false) z
def EF (H:Hp)(r m:AV):Option (AV × Hp):=match r with
 | .int k room=>(match m with | .map j=>Bool.rec none (F.oE (Du H room) (F.get H.1 j)) (F.lW (F.MN k .i64) (RW room)) | _=>none)
 | _=>none
def JV (H:Hp)(i o:Nat):Option (AV × Hp):=Option.rec none (fun r=>Option.rec none (fun m=>EF H r m) (F.cellAt H i (Nat.succ o))) (F.cellAt H i o)
def D8:Prim:=fun args H=>match args with
 | [a]=>F.BV (JV H) a
 | _=>none
end
noncomputable def CR (w:World)(x:MapEntry):Int:=match x.val with
 | .pointer (some a)=>(match w.cell? a with | some (.slice _ n _)=>(n:Int) | _=>0)
 | _=>0
section
variable {P:Program}{G:Nat}{F':Nat->Prop}{W:World}{e:Em}{H:Hp}{w:World}
theorem ZS (hR:RH G F' W e H w):∀ (es:List ME) (bZ:List MapEntry) (n:Nat),gw e es bZ->xQ H es=some n->
  (bZ.map (CR w)).sum=(n:Int)/\∀ x∈bZ,∃ b k s n c,x.val = .pointer (some ⟨b,k,none⟩)/\w.cell? ⟨b,k,none⟩=some (.slice s n c)/\CR w x=(n:Int)
 | [],[],n,_,h=>by cases h;exact⟨rfl,by simp⟩
 | [],y::ys,n,hm,_=>by have:=hm.1;simp at this
 | x::es,[],n,hm,_=>by have:=hm.1;simp at this
 | x::es,y::ys,n,hm,h=>by
  have lL:gw e es ys:=⟨by have:=hm.1;simpa using this,fun i a b ha hb=>hm.2 (i+1) a b (by simpa using ha) (by simpa using hb)⟩
  obtain⟨_,hv⟩:=hm.2 0 x y rfl rfl
  have h':F.oE (KZ (xQ H es)) (Ff H x.val)=some n:=h
  rw[F.ru,aaF] at h'
  obtain⟨a,h1,h2⟩:=h'
  unfold KZ at h2
  cases hs:xQ H es with
  | none=>rw[hs] at h2;cases h2
  | some b=>
   rw[hs] at h2
   have h3:F.tu some (Nat.add a b)=some n:=h2
   rw[F.Cb] at h3
   cases h3
   obtain⟨i1,i2⟩:=ZS hR es ys b lL hs
   unfold Ff F.BV at h1
   split at h1
   ·rename_i j k hj
    rw[hj] at hv
    simp only[] at h1
    rw[F.ru,F.yv,aaF] at h1
    obtain⟨cv,tA,hl⟩:=h1
    obtain⟨o',hi,ho,nQ⟩:=hv.jX
    obtain⟨_,o2,qf,v2,fR,dT⟩:=hR.load tA
    have:o'=o2:=by omega
    subst this
    have mN:∃ s c,v2 = .slice s a c:=by
     unfold Dr at hl
     split at hl
     ·cases hl;cases dT;exact⟨_,_,rfl⟩
     ·cases hl;cases dT<;>exact⟨_,_,rfl⟩
     ·cases hl
    obtain⟨s,c,rfl⟩:=mN
    have Wf:CR w y=(a:Int):=by
     unfold CR
     rw[nQ]
     simp only[fR]
    refine⟨?_,?_⟩
    ·rw[abc,List.sum_cons,Wf,i1]
     show (a:Int)+(b:Int)=((a+b:Nat):Int)
     omega
    ·intro z hz
     rcases aap.1 hz with rfl | q
     ·exact⟨_,_,s,a,c,nQ,fR,Wf⟩
     ·exact i2 z q
   ·cases h1
theorem adJ {l l':List Int}(h:l.Perm l'):l.sum=l'.sum:=by
 induction h with
 | nil=>rfl
 | cons x _ ih=>rw[List.sum_cons,List.sum_cons,ih]
 | swap x y l=>simp only[List.sum_cons];omega
 | trans _ _ h1 h2=>exact h1.trans h2
theorem acX {f:Nat}(nA:∀ bV w,(callFunc f bV).run P w = .ok (.enter f bV) w)
  (hC:∀ (bs o:Nat) (room:Int) (bm:Nat) (es:Array MapEntry) (clock:Nat) (g:MapEntry->Int) (w:World),0<=room->room<=9223372036854775807->w.cell? ⟨bs,o,none⟩=some (.int .i64 room)->w.cell? ⟨bs,o+1,none⟩=some (.map (some bm))->
   w.heap[bm]? = some (.map es clock)->(∀ x∈es.toList,x.born<clock)->(es.toList.map (·.born)).Nodup->(∀ x∈es.toList,∃ b k s n c,x.val = .pointer (some ⟨b,k,none⟩)/\w.cell? ⟨b,k,none⟩=some (.slice s n c)/\g x=(n:Int))->
   Calls P f #[.pointer (some ⟨bs,o,none⟩)] w fun e w'=>e = .returned (.int .i64 (wrap64 (room-(es.toList.map g).sum)))/\Below w.heap.size w w'):od P f D8:=by
 intro args H v H' hp Fr W e w bV hR ha
 unfold D8 at hp
 split at hp
 ·rename_i a
  unfold F.BV at hp
  split at hp
  ·rename_i i o
   obtain⟨a',r1,e1,fu,ei⟩:=ha.cons_inv
   have e3:=ei.gg
   subst e3
   obtain⟨o',hi,ho,rfl⟩:=fu.jX
   obtain rfl:bV = #[.pointer (some ⟨e.b i,o',none⟩)]:=acB.1 e1
   refine⟨nA _ _,?_⟩
   unfold JV at hp
   rw[F.yv,F.yv] at hp
   cases nO:cellAt H i o with
   | none=>rw[nO] at hp;cases hp
   | some r=>
    rw[nO] at hp
    cases rK:cellAt H i (o+1) with
    | none=>rw[show Nat.succ o=o+1 from rfl,rK] at hp;cases hp
    | some m=>
     rw[show Nat.succ o=o+1 from rfl,rK] at hp
     have oq:EF H r m=some (v,H'):=hp
     unfold EF at oq
     split at oq
     ·rename_i k room
      split at oq
      ·rename_i j
       cases hk:F.lW (F.MN k .i64) (RW room) with
       | false=>rw[hk] at oq;cases oq
       | true=>
        rw[hk] at oq
        rw[F.pA,aaK,F.akn,decide_eq_true_iff] at hk
        obtain⟨rfl,yE⟩:=hk
        have VI:0<=room/\room<=9223372036854775807:=by
         cases room with
         | ofNat n=>
          have h1:Nat.ble n 9223372036854775807=true:=yE
          rw[acN] at h1
          have h2:(Int.ofNat n)=(n:Int):=rfl
          rw[h2];omega
         | negSucc n=>cases yE
        have qZ:F.oE (Du H room) (F.get H.1 j)=some (v,H'):=oq
        rw[F.ru,F.get_eq,aaF] at qZ
        obtain⟨ob,hj,pY⟩:=qZ
        unfold Du at pY
        split at pY
        ·rename_i es c
         cases ea:ou c es 0 with
         | false=>rw[ea] at pY;cases pY
         | true=>
          rw[ea] at pY
          have wE:F.oE (CQ H room) (xQ H es)=some (v,H'):=pY
          rw[F.ru,aaF] at wE
          obtain⟨n,hn,yc⟩:=wE
          unfold CQ at yc
          rw[F.VE] at yc
          cases yc
          obtain⟨_,o2,qf,v0,acv,ah4⟩:=hR.load nO
          obtain⟨_,o3,jV,v1,T2,O3⟩:=hR.load rK
          have h2:o'=o2:=by omega
          have h3:o3=o'+1:=by omega
          subst h2;subst h3
          cases ah4.fh
          obtain⟨hjN,obj,LI,da,_⟩:=hR.obj j _ hj
          have Nw:v1 = .map (some (e.b j)):=by cases O3;rfl
          subst Nw
          cases da with
          | map _ _ bZ c' fs oF jD Nc gF=>
           obtain⟨q1,q2⟩:=ZS hR es fs n jD hn
           refine (hC (e.b i) o' room (e.b j) bZ c' (CR w) w VI.1 VI.2 acv T2 LI (fun x hx=>gF x (oF.mem_iff.2 hx)) ((oF.map _).nodup_iff.1 Nc) (fun x hx=>q2 x (oF.mem_iff.2 hx))).mono ?_
           rintro en w' ⟨rfl,jr⟩
           refine⟨e,_,rfl,e.le_refl,hR.below jr,?_⟩
           rw[<-adJ (oF.map (CR w)),q1,<-IntWalk.i64_left]
           exact .int _ _
        ·cases pY
      ·cases oq
     ·cases oq
  ·cases hp
 ·cases hp
end
end
open Go.Maps Go.Sort Go.Proofs
noncomputable section
def yj (a:List Nat):List Nat->Bool:=List.rec (motive:=fun _=>List Nat->Bool) (fun b=>List.rec false (fun _ _ _=>true) b) (fun x _ ih b=>List.rec false (fun y r _=>Bool.rec (Bool.rec false (ih r) (Nat.beq x y)) true (Nat.blt x y)) b) a
def qK (x:List Nat)(l:List (List Nat)):List (List Nat):=List.rec [x] (fun y r ih=>Bool.rec (x::y::r) (y::ih) (yj y x)) l
def lq (l:List (List Nat)):List (List Nat):=List.rec [] (fun x _ ih=>qK x ih) l
def vO (x:List Nat)(l:List (List Nat)):Bool:=List.rec false (fun y _ ih=>Bool.rec ih true (F.J8 y x)) l
def CI (l:List (List Nat)):Bool:=List.rec true (fun x r ih=>Bool.rec ih false (vO x r)) l
def K3 (r:Option (List (List Nat)))(v:AV):Option (List (List Nat)):=match v with | .str s=>Option.rec none (fun l=>some (s::l)) r | _=>none
def yW (es:List ME):Option (List (List Nat)):=List.rec (some []) (fun x _ ih=>K3 ih x.key) es
def Fi (n i:Nat):AV := .slice i 0 n n false 1
def Rm (ty:TypeId)(H:Hp)(l:List (List Nat)):Option (AV × Hp):=List.rec (some (.ae,H)) (fun _ _ _=>F.Gg H ty 0 (Fi (F.lP l)) (F.HQ AV.str l)) l
def Ch (l:List (List Nat)):Bool:=List.rec true (fun x _ ih=>F.lW (Nat.ble (F.lP x) 16777216) ih) l
def F7 (ty:TypeId)(H:Hp)(c:Nat)(es:List ME)(ks:List (List Nat)):Option (AV × Hp):=Bool.rec none (Rm ty H (lq ks)) (F.lW (ou c es 0) (F.lW (CI ks) (F.lW (Ch ks) (Nat.ble (F.lP es) 16777216))))
def KF (ty:TypeId)(H:Hp)(o:AO):Option (AV × Hp):=match o with
 | .map es c=>F.oE (F7 ty H c es) (yW es)
 | _=>none
def Iv (ty:TypeId)(H:Hp)(i o:Nat):Option (AV × Hp):=Option.rec none (fun m=>match m with | .map j=>F.oE (KF ty H) (F.get H.1 j) | _=>none) (F.cellAt H i (Nat.succ o))
def Bz (ty:TypeId):Prim:=fun args H=>match args with
 | [a]=>F.BV (Iv ty H) a
 | _=>none
end
def fE (s:List UInt8):List Nat:=s.map (·.toNat)
theorem aam:∀ a b:List UInt8,yj (fE a) (fE b)=decide (a<b)
 | [],[]=>by simp[fE];rfl
 | [],y::b=>by simp[fE];rfl
 | x::a,[]=>by simp[fE];rfl
 | x::a,y::b=>by
  show @Bool.rec (fun _=>Bool) (@Bool.rec (fun _=>Bool) false (yj (fE a) (fE b)) (Nat.beq x.toNat y.toNat)) true (Nat.blt x.toNat y.toNat)=_
  rw[aam a b]
  have key:(x::a<y::b)↔(x<y\/x=y/\a<b):=List.cons_lt_cons_iff
  by_cases h1:x.toNat<y.toNat
  ·have:Nat.blt x.toNat y.toNat=true:=by rw[acY];exact h1
   rw[this]
   symm
   rw[decide_eq_true_iff,key]
   exact .inl (ahP.2 h1)
  ·have:Nat.blt x.toNat y.toNat=false:=by rw[<-Bool.not_eq_true,acY];exact h1
   rw[this]
   by_cases h2:x=y
   ·subst h2
    rw[qt]
    show decide (a<b)=_
    rw[decide_eq_decide,key]
    constructor
    ·exact fun q => .inr ⟨rfl,q⟩
    ·rintro (q | ⟨_,q⟩)
     ·exact absurd (ahP.1 q) h1
     ·exact q
   ·have h3:¬ x.toNat=y.toNat:=fun q=>h2 (UInt8.toNat_inj.1 q)
    rw[lY h3]
    symm
    rw[decide_eq_false_iff_not,key]
    rintro (q | ⟨q,_⟩)
    ·exact h1 (ahP.1 q)
    ·exact h2 q
def ui (x:List UInt8):List (List UInt8)->List (List UInt8)
 | []=>[x]
 | y::r=>if y<x then y::ui x r else x::y::r
def tl:List (List UInt8)->List (List UInt8)
 | []=>[]
 | x::r=>ui x (tl r)
theorem WV (x:List UInt8):∀ l:List (List UInt8),qK (fE x) (l.map fE)=(ui x l).map fE
 | []=>rfl
 | y::r=>by
  show @Bool.rec (fun _=>List (List Nat)) (fE x::fE y::r.map fE) (fE y::qK (fE x) (r.map fE)) (yj (fE y) (fE x))=_
  rw[WV x r,aam]
  have hi:ui x (y::r)=if y<x then y::ui x r else x::y::r:=rfl
  rw[hi]
  by_cases h:y<x
  ·rw[if_pos h,decide_eq_true h];rfl
  ·rw[if_neg h,decide_eq_false h];rfl
theorem Va:∀ l:List (List UInt8),lq (l.map fE)=(tl l).map fE
 | []=>rfl
 | x::r=>by
  show qK (fE x) (lq (r.map fE))=_
  rw[Va r,WV];rfl
theorem Th (x:List UInt8):∀ l,(ui x l).Perm (x::l)
 | [] => .refl _
 | y::r=>by
  unfold ui
  split
  ·exact ((Th x r).cons y).trans (.swap x y r)
  ·exact .refl _
theorem N1:∀ l,(tl l).Perm l
 | [] => .refl _
 | x::r=>(Th x (tl r)).trans ((N1 r).cons x)
theorem WM (x:List UInt8):∀ l:List (List UInt8),l.Pairwise (fun a b=>a<=b)->(ui x l).Pairwise (fun a b=>a<=b)
 | [],_=>by simp[ui]
 | y::r,h=>by
  unfold ui
  rw[afb] at h
  split
  ·rename_i bW
   rw[afb]
   refine⟨fun z hz => ?_,WM x r h.2⟩
   rcases aap.1 ((Th x r).mem_iff.1 hz) with rfl | q
   ·exact List.le_of_lt bW
   ·exact h.1 z q
  ·rename_i bW
   have hle:x<=y:=List.not_lt.1 bW
   rw[afb,afb]
   refine⟨fun z hz => ?_,h.1,h.2⟩
   rcases aap.1 hz with rfl | q
   ·exact hle
   ·exact List.le_trans hle (h.1 z q)
theorem Vq:∀ l,(tl l).Pairwise (fun a b=>a<=b)
 | [] => .nil
 | x::r=>WM x _ (Vq r)
theorem ahv (l:List (List UInt8)):l.mergeSort (fun x y=>decide (x<=y))=tl l:=by
 have h:=mergeSort_of_perm (N1 l).symm
 have h2:(tl l).mergeSort leB=tl l:=List.mergeSort_of_pairwise ((Vq l).imp fun {a b} qO=>decide_eq_true qO)
 exact h.trans h2
def mJ (x:MapEntry):List UInt8:=match x.key with | .string s=>s.data.toList | _=>[]
section
variable {P:Program}{e:Em}
theorem XS:∀ (es:List ME) (bZ:List MapEntry) (ks:List (List Nat)),gw e es bZ->yW es=some ks->bZ.map (fun x=>fE (mJ x))=ks/\∀ x∈bZ,∃ s:ByteArray,x.key = .string s/\fE s.data.toList∈ks
 | [],[],ks,_,h=>by cases h;exact⟨rfl,by simp⟩
 | [],y::ys,ks,hm,_=>by have:=hm.1;simp at this
 | x::es,[],ks,hm,_=>by have:=hm.1;simp at this
 | x::es,y::ys,ks,hm,h=>by
  have lL:gw e es ys:=⟨by have:=hm.1;simpa using this,fun i a b ha hb=>hm.2 (i+1) a b (by simpa using ha) (by simpa using hb)⟩
  obtain⟨hk,_⟩:=hm.2 0 x y rfl rfl
  have h':K3 (yW es) x.key=some ks:=h
  unfold K3 at h'
  split at h'
  ·rename_i s hs
   cases hr:yW es with
   | none=>rw[hr] at h';cases h'
   | some l=>
    rw[hr] at h'
    have h2:some (s::l)=some ks:=h'
    cases h2
    obtain⟨i1,i2⟩:=XS es ys l lL hr
    rw[hs] at hk
    obtain⟨s',qj,I0⟩:=hk.iS
    have hb:fE s'.data.toList=s:=by rw[qj];rfl
    refine⟨?_,?_⟩
    ·rw[abc,i1]
     have:fE (mJ y)=s:=by unfold mJ;rw[I0];exact hb
     rw[this]
    ·intro z hz
     rcases aap.1 hz with rfl | q
     ·exact⟨s',I0,by rw[hb];exact .head _⟩
     ·obtain⟨s2,a,b⟩:=i2 z q
      exact⟨s2,a,.tail _ b⟩
  ·cases h'
theorem RS (x:List Nat):∀ l,vO x l=true↔x∈l
 | []=>by simp[vO]
 | y::r=>by
  have:vO x (y::r) = @Bool.rec (fun _=>Bool) (vO x r) true (F.J8 y x):=rfl
  rw[this,F.Vh]
  have ih:=RS x r
  by_cases h:y=x
  ·subst h;simp
  ·have:(y==x)=false:=by simp[h]
   rw[this]
   simp only
   rw[ih,aap]
   exact⟨.inr,fun q=>q.resolve_left (fun z=>h z.symm)⟩
theorem WO:∀ l,CI l=true->l.Nodup
 | [],_ => .nil
 | x::r,h=>by
  have h':@Bool.rec (fun _=>Bool) (CI r) false (vO x r)=true:=h
  cases hm:vO x r with
  | true=>rw[hm] at h';cases h'
  | false=>
   rw[hm] at h'
   rw[ab0]
   refine⟨fun q => ?_,WO r h'⟩
   rw[(RS x r).2 q] at hm
   cases hm
theorem VD:∀ l,Ch l=true->∀ x∈l,x.length<=16777216
 | [],_,x,hx=>by cases hx
 | y::r,h,x,hx=>by
  have h':F.lW (Nat.ble (F.lP y) 16777216) (Ch r)=true:=h
  rw[F.pA,aaK,acN,F.rz] at h'
  rcases aap.1 hx with rfl | q
  ·exact h'.1
  ·exact VD r h'.2 x q
def ym (_:Value):Option (DataW Unit × List MemPlace):=some (.lit (.bool true),[])
theorem ame {f ty:Nat}(nA:∀ bV w,(callFunc f bV).run P w = .ok (.enter f bV) w)(hu:P.underlying ty=some .string)
  (hC:∀ (bs o bm nn:Nat) (D0:DataW Unit) (R:Value->Option (DataW Unit × List MemPlace)) (w:World),w.cell? ⟨bs,o+1,none⟩=some (.map (some bm))->w.ownsMap P ty R bm nn D0->Maps.size D0<=maxLen->Maps.size D0*16<=140737488355328->
   Calls P f #[.pointer (some ⟨bs,o,none⟩)] w fun e w'=>∃ (v:Value) (ss:List (List UInt8)),e = .returned v/\ss.Perm (strKeys D0)/\w'.ownsRow w.heap.size ty 1 v ss.length ((ss.mergeSort (fun x y=>decide (x<=y))).map encStr)/\(v = .slice none 0 0↔ss=[])/\Below w.heap.size w w') :
  od P f (Bz ty):=by
 intro args H v H' hp Fr W e w bV hR ha
 unfold Bz at hp
 split at hp
 ·rename_i a
  unfold F.BV at hp
  split at hp
  ·rename_i i o
   obtain⟨a',r1,e1,fu,ei⟩:=ha.cons_inv
   have e3:=ei.gg
   subst e3
   obtain⟨o',hi,ho,rfl⟩:=fu.jX
   obtain rfl:bV = #[.pointer (some ⟨e.b i,o',none⟩)]:=acB.1 e1
   refine⟨nA _ _,?_⟩
   unfold Iv at hp
   rw[F.yv] at hp
   cases rK:cellAt H i (o+1) with
   | none=>rw[show Nat.succ o=o+1 from rfl,rK] at hp;cases hp
   | some m=>
    rw[show Nat.succ o=o+1 from rfl,rK] at hp
    simp only at hp
    split at hp
    ·rename_i j
     rw[F.ru,F.get_eq,aaF] at hp
     obtain⟨ob,hj,pY⟩:=hp
     unfold KF at pY
     split at pY
     ·rename_i es c
      rw[F.ru,aaF] at pY
      obtain⟨ks,hks,wE⟩:=pY
      unfold F7 at wE
      simp only[F.pA,F.rz] at wE
      cases Jm:(ou c es 0&&(CI ks&&(Ch ks&&Nat.ble es.length 16777216))) with
      | false=>rw[Jm] at wE;cases wE
      | true=>
       rw[Jm] at wE
       simp only[aaK,acN] at Jm
       obtain⟨k1,k2,k3,k4⟩:=Jm
       have yc:Rm ty H (lq ks)=some (v,H'):=wE
       obtain⟨_,o3,jV,v1,T2,O3⟩:=hR.load rK
       have h3:o3=o'+1:=by omega
       subst h3
       obtain⟨hjN,obj,LI,da,_⟩:=hR.obj j _ hj
       have Nw:v1 = .map (some (e.b j)):=by cases O3;rfl
       subst Nw
       cases da with
       | map _ _ bZ c' fs oF jD Nc gF=>
        obtain⟨m1,m2'⟩:=XS es fs ks jD hks
        have m2:=fun x (hx:x∈bZ.toList)=>m2' x (oF.mem_iff.2 hx)
        have bW:∀ x∈bZ.toList,x.born<c':=fun x hx=>gF x (oF.mem_iff.2 hx)
        have dh:=WO ks k2
        have I0:∀ x∈bZ.toList,x.key = .string ⟨(mJ x).toArray⟩/\(mJ x).length<=maxLen:=by
         intro x hx
         obtain⟨s,hs,ea⟩:=m2 x hx
         have hkb:mJ x=s.data.toList:=by unfold mJ;rw[hs]
         refine⟨by rw[hkb,hs],?_⟩
         rw[hkb]
         have:=VD ks k3 _ ea
         have hl:(fE s.data.toList).length=s.data.toList.length:=by simp[fE]
         rw[hl] at this
         unfold maxLen
         omega
        have ajj:(bZ.toList.map (·.key)).Nodup:=by
         have h1:(bZ.toList.map (fun x=>fE (mJ x))).Nodup:=(oF.map _).nodup_iff.1 (by rw[m1];exact dh)
         rw[List.Nodup,List.pairwise_map] at h1 ⊢
         refine h1.imp_of_mem ?_
         intro x y hx hy cx he
         exact cx (by unfold mJ;rw[he])
        have eu:MapKept.Stamped bZ c':=⟨bW,(oF.map _).nodup_iff.1 Nc,ajj⟩
        have kA:∀ x∈bZ.toList,WideElems.rd P ty ym x=some (.string (mJ x),.lit (.bool true)):=by
         intro x hx
         obtain⟨q1,q2⟩:=I0 x hx
         unfold WideElems.rd
         have cC:(⟨(mJ x).toArray⟩:ByteArray).size<=maxLen:=by simpa[ByteArray.size] using q2
         rw[q1,WideMaps.keyOf_string_mk hu cC]
         rfl
        have hlen:bZ.size=es.length:=by have h1:=jD.1;have h2:=oF.length_eq;have h3:bZ.toList.length=bZ.size:=afj;omega
        have uH:w.ownsMap P ty ym (e.b j) bZ.size (.map ((bZ.toList.map (WideElems.rg P ty ym)).foldr DataW.insert [])):=
         ⟨bZ,c',LI,⟨by unfold maxLen;omega,eu,fun x hx=>⟨_,kA x hx⟩⟩,zf _,rfl⟩
        have mM:(strKeys (H:=Unit) (.map ((bZ.toList.map (WideElems.rg P ty ym)).foldr DataW.insert []))).Perm (bZ.toList.map mJ):=by
         unfold strKeys
         refine (WideShapes.sorted_perm (bZ.toList.map (WideElems.rg P ty ym))).map _ |>.trans ?_
         rw[afg]
         refine .of_eq (afu fun x hx => ?_)
         simp only[Function.comp,WideElems.rg,kA x hx,afy]
         rfl
        have KW:Maps.size (H:=Unit) (.map ((bZ.toList.map (WideElems.rg P ty ym)).foldr DataW.insert []))=bZ.size:=by
         show ((bZ.toList.map (WideElems.rg P ty ym)).foldr DataW.insert []).length=bZ.size
         rw[(WideShapes.sorted_perm _).length_eq];simp
        refine (hC (e.b i) o' (e.b j) _ _ ym w T2 uH (by rw[KW];unfold maxLen;omega) (by rw[KW];omega)).mono ?_
        rintro en w' ⟨v',ss,rfl,eM,gV,lA,jr⟩
        have HA:ss.Perm (fs.map mJ):=(eM.trans mM).trans (oF.symm.map _)
        have HN:ss.mergeSort (fun x y=>decide (x<=y))=tl (fs.map mJ):=(mergeSort_of_perm HA).trans (ahv _)
        have we:lq ks=(tl (fs.map mJ)).map fE:=by
         rw[<-Va,afg,<-m1];rfl
        rw[HN] at gV
        have Pr:(tl (fs.map mJ)).length=ss.length:=by rw[(N1 _).length_eq,HA.length_eq]
        cases vf:lq ks with
        | nil=>
         rw[vf] at yc
         cases yc
         have:ss=[]:=by
          rw[vf] at we
          have:=congrArg List.length we
          rw[acs,Pr] at this
          exact List.length_eq_zero_iff.1 this.symm
         refine⟨e,v',rfl,e.le_refl,hR.below jr,?_⟩
         rw[lA.2 this]
         exact .ae
        | cons k0 kr=>
         have Eh:F.Gg H ty 0 (Fi (F.lP (lq ks))) (F.HQ AV.str (lq ks))=some (v,H'):=by
          rw[vf] at yc ⊢;exact yc
         rw[F.Yu,yS] at Eh
         obtain⟨⟨ni,H2⟩,jk,iJ⟩:=Eh
         cases iJ
         have cx:ss≠[]:=by
          intro q
          rw[vf] at we
          have:=congrArg List.length we
          rw[acs,Pr,q] at this
          simp at this
         obtain⟨cT,MV⟩:=gV
         rcases MV with⟨rfl,h0⟩ | ⟨g,cap,cur,rfl,SH,M8,eh,alg,J1,PW⟩
         ·exact absurd (lA.1 rfl) cx
         obtain⟨kL,dV⟩:=C4 jk
         rw[F.Uw] at dV kL
         have aiw:(F.lP (lq ks))=ss.length:=by rw[F.rz,we,acs,Pr]
         have eG:ni=e.N:=(oV dV).1.trans hR.N.symm
         have hle:=Em.kK e g 0 cur.size
         have da:OR (e.ext g 0 cur.size) ni (.cells (Tr.cR .nil 0 ((lq ks).map AV.str)) 0 ((lq ks).map AV.str).length ty 0) (.cells cur ty (0,0)):=by
          subst eG
          refine .cells _ _ _ _ _ _ (0,0) (by simp[Em.nG]) ?_ (fun _=>rfl) (by simp) (fun _=>Em.ik ..)
          intro k v _ hk hg
          rw[Kq,if_pos ⟨ack _,by simpa using hk⟩,adD] at hg
          rw[acD,we,acD,Option.map_map,yS] at hg
          obtain⟨u,si,rfl⟩:=hg
          refine⟨k,by rw[Em.ik];omega,encStr u,?_,?_⟩
          ·have h1:(cur.toList.take (ss.length*1))[k]? = some (encStr u):=by rw[PW,acD,si];rfl
           rw[ac1] at h1
           split at h1
           ·rw[<-acF];exact h1
           ·cases h1
          ·have hb:AV.str (fE u)=AV.str (bytes (⟨u.toArray⟩:ByteArray)):=by simp[fE,bytes]
           show VR _ (AV.str (fE u)) _
           rw[hb]
           exact VR.str (⟨u.toArray⟩:ByteArray)
         obtain⟨ea,kS⟩:=hR.VM jr SH M8 dV da
         refine⟨_,_,rfl,hle,kS,?_⟩
         subst ea
         show VR _ (Fi (F.lP (lq ks)) e.N) _
         unfold Fi
         rw[aiw]
         have gF:(e.ext g 0 cur.size).b e.N=g:=Em.ig ..
         have hv:=VR.slice (e:=e.ext g 0 cur.size) e.N 0 ss.length ss.length false 1 0 cap (aeE e.N) (by rw[Em.ik];rfl) eh eh (by simp) (by rw[Em.nG,J1];omega)
         rw[gF] at hv
         exact hv
     ·cases pY
    ·cases hp
  ·cases hp
 ·cases hp
end
end Go.Proofs.YtbdlbhlhnpblpaaGreatDoor.Am
