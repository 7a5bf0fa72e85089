/- Plain law: parts of texts. No conditions. -/
import Derived.Test.YtodfajmihkagnaaGreatDoorDfKb
import Derived.Test.YtodfajmihkagnaaGreatDoorAm16
import Derived.Lib.ItoaNum
import Derived.Test.YtodfajmihkagnaaGreatDoorAm13
set_option linter.unusedVariables false
set_option linter.unusedSimpArgs false
set_option maxRecDepth 10000
namespace Go.Proofs.YtodfajmihkagnaaGreatDoor.og
open Go Am
abbrev aq:=List Nat
def cW (c:Nat):aq->List aq
 | []=>[[]]
 | b::s=>if b=c then []::cW c s else match cW c s with | []=>[[b]] | h::t=>(b::h)::t
theorem wO (c:Nat):∀ s,cW c s≠[]
 | []=>by simp[cW]
 | b::s=>by
  unfold cW
  split
  ·simp
  ·split<;>simp
theorem KK {c:Nat}:∀ {s:aq},c∉s->cW c s=[s]
 | [],_=>rfl
 | b::s,h=>by
  rw[abn,not_or] at h
  unfold cW
  rw[if_neg (fun e=>h.1 e.symm),KK h.2]
theorem IU {c:Nat}:∀ {a:aq} (r:aq),c∉a->cW c (a++c::r)=a::cW c r
 | [],r,_=>by
  show cW c (c::r)=_
  unfold cW
  rw[if_pos rfl]
  cases r<;>rfl
 | b::a,r,h=>by
  rw[abn,not_or] at h
  show cW c (b::(a++c::r))=_
  have:=IU r h.2
  rw[cW,if_neg (fun e=>h.1 e.symm),this]
theorem QR {c:Nat}:∀ {s:aq} {k:Nat},jC c s k=none->c∉s
 | [],k,_=>by simp
 | b::s,k,h=>by
  unfold jC at h
  cases hb:Nat.beq b c with
  | true=>rw[hb] at h;cases h
  | false=>
   rw[hb] at h
   have h1:b≠c:=fun e=>by subst e;rw[afB] at hb;cases hb
   rw[abn,not_or]
   exact⟨fun e=>h1 e.symm,QR h⟩
theorem Ez {c:Nat}:∀ {s:aq} {k i:Nat},jC c s k=some i->∃ a r,s=a++c::r/\i=k+a.length/\c∉a
 | [],k,i,h=>by cases h
 | b::s,k,i,h=>by
  unfold jC at h
  cases hb:Nat.beq b c with
  | true=>
   rw[hb] at h
   cases h
   have:b=c:=abC hb
   subst this
   exact⟨[],s,rfl,rfl,by simp⟩
  | false=>
   rw[hb] at h
   have h1:b≠c:=fun e=>by subst e;rw[afB] at hb;cases hb
   obtain⟨a,r,rfl,rfl,h3⟩:=Ez h
   refine⟨b::a,r,rfl,by simp;omega,?_⟩
   rw[abn,not_or]
   exact⟨fun e=>h1 e.symm,h3⟩
theorem YA {c:Nat}:∀ {a:aq} (r:aq) (k:Nat),c∉a->jC c (a++c::r) k=some (k+a.length)
 | [],r,k,_=>by
  show jC c (c::r) k=_
  unfold jC
  rw[afB];rfl
 | b::a,r,k,h=>by
  rw[abn,not_or] at h
  show jC c (b::(a++c::r)) k=_
  unfold jC
  have hb:Nat.beq b c=false:=by
   rw[<-afq];exact fun e=>h.1 (abC e).symm
  rw[hb,cond_false,YA r (k+1) h.2,abx]
  congr 1;omega
theorem Cg (c:Nat):∀ s,(cW c s).length=gh c s+1
 | []=>rfl
 | b::s=>by
  have ih:=Cg c s
  unfold cW gh
  by_cases h:b=c
  ·subst h
   rw[if_pos rfl,afB,cond_true,abx,ih]
  ·have hb:Nat.beq b c=false:=by
    rw[<-afq];exact fun e=>h (abC e)
   rw[if_neg h,hb,cond_false]
   cases hs:cW c s with
   | nil=>exact absurd hs (wO c s)
   | cons x y=>rw[hs] at ih;exact ih
theorem Kk (c:Nat):∀ s:aq,gh c s<=s.length
 | []=>abe _
 | b::s=>by
  have:=Kk c s
  unfold gh
  cases Nat.beq b c<;>simp<;>omega
theorem Ea {c:Nat}:∀ {s:aq} {p:aq},p∈cW c s->(∀ b∈p,b∈s)/\c∉p/\p.length<=s.length
 | [],p,h=>by
  have:p=[]:=by simpa[cW] using h
  subst this;simp
 | b::s,p,h=>by
  unfold cW at h
  by_cases hb:b=c
  ·rw[if_pos hb] at h
   rcases abn.1 h with rfl | h
   ·simp
   ·obtain⟨h1,h2,h3⟩:=Ea h
    exact⟨fun x hx => .tail _ (h1 x hx),h2,by simp;omega⟩
  ·rw[if_neg hb] at h
   cases hs:cW c s with
   | nil=>exact absurd hs (wO c s)
   | cons x y=>
    rw[hs] at h
    rcases abn.1 h with rfl | h
    ·obtain⟨h1,h2,h3⟩:=Ea (c:=c) (s:=s) (p:=x) (by rw[hs];exact .head _)
     refine⟨fun z hz => ?_,?_,by simp;omega⟩
     ·rcases abn.1 hz with rfl | hz
      ·exact .head _
      ·exact .tail _ (h1 z hz)
     ·rw[abn,not_or];exact⟨fun e=>hb e.symm,h2⟩
    ·obtain⟨h1,h2,h3⟩:=Ea (c:=c) (s:=s) (p:=p) (by rw[hs];exact .tail _ h)
     exact⟨fun z hz => .tail _ (h1 z hz),h2,by simp;omega⟩
def ju (c:Nat):List aq->aq
 | []=>[]
 | [a]=>a
 | a::b::l=>a++c::ju c (b::l)
theorem Kh {c:Nat}:∀ {l:List aq},l≠[]->(∀ p∈l,c∉p)->cW c (ju c l)=l
 | [],h,_=>absurd rfl h
 | [a],_,h=>KK (h a (.head _))
 | a::b::l,_,h=>by
  show cW c (a++c::ju c (b::l))=_
  rw[IU _ (h a (.head _)),Kh (by simp) fun p hp=>h p (.tail _ hp)]
theorem Wf (c:Nat):∀ s,ju c (cW c s)=s
 | []=>rfl
 | b::s=>by
  have ih:=Wf c s
  unfold cW
  by_cases h:b=c
  ·rw[if_pos h]
   cases hs:cW c s with
   | nil=>exact absurd hs (wO c s)
   | cons x y=>rw[hs] at ih;show[]++c::ju c (x::y)=_;rw[ih,h];rfl
  ·rw[if_neg h]
   cases hs:cW c s with
   | nil=>exact absurd hs (wO c s)
   | cons x y=>
    rw[hs] at ih
    cases y with
    | nil=>show b::x=_;rw[<-ih];rfl
    | cons z w=>show b::x++c::ju c (z::w)=_;rw[<-ih];rfl
end Go.Proofs.YtodfajmihkagnaaGreatDoor.og
namespace Go.Proofs.YtodfajmihkagnaaGreatDoor.DfK
open Go Am Am.K mf og
theorem J7 {bf:Nat} {k:Ext} {fn:Func} {args:List AV} {H:Hp} {r:AV × Hp} (hp:aU bf=none) (hf:P.funcs[bf]? = some fn) (hb:fn.body=none) (he:ext bf=some k) (h:Cm P k args H=some r):cK (.func (.func bf) [] []) args H=some r:=by
 refine Qs JG ?_
 unfold vw
 simp only[hp,ahr,agh,hf,hb,he]
 exact h
def lj:Option Nat->Int
 | some i=>i
 | none => -1
theorem alm {c:Nat} (hc:c<256) (s:aq) (H:Hp):cK (.func (.func 197) [] []) [.str s,.int .u8 c] H=some (.int .i64 (lj (jC c s 0)),H):=by
 refine J7 (k := .Kg) (by kernel_rfl) Tryz.func197 rfl (by kernel_rfl) ?_
 show some (AV.int .i64 (match jC (Int.toNat (c:Int) % 256) s 0 with | some i=>(i:Int) | none => -1),H)=_
 rw[ab9,aix hc]
 cases jC c s 0<;>rfl
theorem aiE {c:Nat} (hc:c<256) (s:aq) (H:Hp):cK (.func (.func 171) [] []) [.str s,.int .u8 c] H=some (.int .i64 (gh c s:Nat),H):=by
 refine J7 (k := .count) (by kernel_rfl) Tryz.func171 rfl (by kernel_rfl) ?_
 show some (AV.int .i64 (gh (Int.toNat (c:Int) % 256) s:Nat),H)=_
 rw[ab9,aix hc]
theorem ai6 {c:Nat} (hc:c<256) (s:aq) (H:Hp):cK (.func (.func 186) [] []) [.str s,.int .u8 c] H=some (.int .i64 (lj (jC c s 0)),H):=by
 refine ahP ?_
 unfold WM
 simp only[alm hc,aj,ai,Int.reduceBEq,Int.reduceBNe,Int.reduceLT,Int.reduceLE,Int.reduceGT,Int.reduceGE,Int.reduceNeg]
theorem PJ {c:Nat} (hc:c<256) (s:aq) (H:Hp):cK (.func (.func 172) [] []) [.str s,.str [c]] H=some (.int .i64 (lj (jC c s 0)),H):=by
 refine ae6 ?_
 unfold MH
 have h1:uS (.str [c]) (.int .i64 0)=some (.int .u8 c):=ZF .i64 rfl
 simp only[ai6 hc,h1,abx,acm,Int.ofNat_one,Nat.reduceAdd,Int.natCast_one,aj,ai,Int.reduceBEq,Int.reduceBNe,Int.reduceLT,Int.reduceLE,Int.reduceGT,Int.reduceGE,Int.reduceNeg]
 rw[FU]
 split
 ·rename_i h
  have h:[c]=s:=by simpa using h
  subst h
  unfold jC
  rw[afB];rfl
 ·rfl
theorem ak0 {c:Nat} (hc:c<256) (s:aq) (H:Hp):cK (.func (.func 151) [] []) [.str s,.str [c]] H=some (.int .i64 (lj (jC c s 0)),H):=by
 refine alQ ?_
 unfold RC
 simp only[PJ hc,aj,ai,Int.reduceBEq,Int.reduceBNe,Int.reduceLT,Int.reduceLE,Int.reduceGT,Int.reduceGE,Int.reduceNeg]
theorem ahu {c:Nat} (hc:c<256) (s:aq) (H:Hp):cK (.func (.func 150) [] []) [.str s,.str [c]] H=some (.int .i64 (gh c s:Nat),H):=by
 refine agU ?_
 unfold UF
 have h1:uS (.str [c]) (.int .i64 0)=some (.int .u8 c):=ZF .i64 rfl
 simp only[aiE hc,h1,abx,acm,Int.ofNat_one,Nat.reduceAdd,Int.natCast_one,aj,ai,Int.reduceBEq,Int.reduceBNe,Int.reduceLT,Int.reduceLE,Int.reduceGT,Int.reduceGE,Int.reduceNeg]
def cut (c:Nat) (s:aq):aq × aq × Bool:=match jC c s 0 with
 | some i=>(s.take i,s.drop (i+1),true)
 | none=>(s,[],false)
theorem aiN {c:Nat} (hc:c<256) {s:aq} (hs:s.length<=1073741824) (H:Hp):cK (.func (.func 152) [] []) [.str s,.str [c]] H=some (.tuple [.str (cut c s).1,.str (cut c s).2.1,.bool (cut c s).2.2],H):=by
 refine aiL ?_
 unfold YD cut
 cases hi:jC c s 0 with
 | none=>
  have d:decide ((0:Int) <= -1)=false:=by decide
  simp only[PJ hc,hi,lj,d,aj,ai,Int.reduceBEq,Int.reduceBNe,Int.reduceLT,Int.reduceLE,Int.reduceGT,Int.reduceGE,Int.reduceNeg]
 | some i=>
  obtain⟨a,r,rfl,rfl,ha⟩:=Ez hi
  rw[adt] at hi
  simp only[aby,abx] at hs
  have d:decide ((0:Int)<=((a.length:Nat):Int))=true:=decide_eq_true (by omega)
  have w:IntKind.wrap .i64 ((a.length:Int)+((1:Nat):Int))=((a.length+1:Nat):Int):=by rw[wrap_i64 (by omega) (by omega)];rfl
  have h1:np (.str (a++c::r)) none (some (.int .i64 (a.length:Nat)))=some (.str ((a++c::r).take a.length)):=ZI .i64 (by simp)
  have h2:np (.str (a++c::r)) (some (.int .i64 (a.length+1:Nat))) none=some (.str ((a++c::r).drop (a.length+1))):=aam .i64 (by simp)
  simp only[PJ hc,hi,lj,d,h1,h2,w,abx,acm,adt,aj,ai,Int.reduceBEq,Int.reduceBNe,Int.reduceLT,Int.reduceLE,Int.reduceGT,Int.reduceGE,Int.reduceNeg]
theorem anQ {c:Nat} (hc:c<256) {s:aq} (hs:s.length<=1073741824) (H:Hp):cK (.func (.func 117) [] []) [.str s,.str [c]] H=some (.tuple [.str (cut c s).1,.str (cut c s).2.1,.bool (cut c s).2.2],H):=by
 refine ait ?_
 unfold Xe
 simp only[aiN hc hs,aj,ai,Int.reduceBEq,Int.reduceBNe,Int.reduceLT,Int.reduceLE,Int.reduceGT,Int.reduceGE,Int.reduceNeg]
def strs (l:List aq):List AV:=l.map .str
theorem iP (l:List aq):(strs l).length=l.length:=by simp[strs]
theorem Iy (a b:List aq):strs (a++b)=strs a++strs b:=by simp[strs]
theorem tB {l:List aq} {j:Nat} {z:aq} (h:l[j]? = some z):(strs l)[j]? = some (.str z):=by simp[strs,h]
theorem ajE {c:Nat} (hc:c<256) {A n:Nat} {el:Nat}:∀ (m:Nat) (s:aq) (dn:List aq) (H:Hp),s.length=m->m<=1073741824->n<=1073741824->dn.length+(cW c s).length=n->Cs H A (strs dn++List.replicate (n-dn.length) (AV.str [])) el 0->
  ∃ zz s' H',(∀ k:K.Fn 3,EH JN GO cK k (.str s) (.str [c]) (.int .i64 0) (.int .i64 ((n-1:Nat):Int)) (.slice A 0 n n true 1) (.int .i64 (dn.length:Nat)) H=k (.str s') (.slice A 0 n n true 1) (.int .i64 (zz.length:Nat)) H')/\
   zz++[s']=dn++cW c s/\zz.length<n/\Cs H' A (strs zz++List.replicate (n-zz.length) (AV.str [])) el 0/\Out [A] H H':=by
 intro m
 induction m using Nat.strongRecOn with
 | _ m ih=>
 intro s dn H hm hmb yz hn hC
 have DZ:=Cg c s
 by_cases aap:dn.length+1=n
 ·have Dn:cW c s=[s]:=by
   cases hi:jC c s 0 with
   | none=>exact KK (QR hi)
   | some i=>
    obtain⟨a,r,rfl,rfl,ha⟩:=Ez hi
    have h1:=IU (c:=c) r ha
    have h2:=Cg c r
    rw[h1,abx] at hn
    omega
  have d:decide (((dn.length:Nat):Int)<((n-1:Nat):Int))=false:=decide_eq_false (by omega)
  refine⟨dn,s,H,fun k => ?_,by rw[Dn],by omega,hC,Out.refl _ _⟩
  rw[Y2]
  simp only[Kb,d,aj,ai,Int.reduceBEq,Int.reduceBNe,Int.reduceLT,Int.reduceLE,Int.reduceGT,Int.reduceGE,Int.reduceNeg]
 ·have d:decide (((dn.length:Nat):Int)<((n-1:Nat):Int))=true:=decide_eq_true (by omega)
  cases hi:jC c s 0 with
  | none=>
   have Dn:=KK (QR hi)
   rw[Dn] at hn
   simp only[abx,acm] at hn
   omega
  | some i=>
   obtain⟨a,r,rfl,rfl,ha⟩:=Ez hi
   rw[adt] at hi
   have h1:=IU (c:=c) r ha
   rw[h1,abx] at hn
   simp only[aby,abx] at hm
   obtain⟨H1,w1,w2,w3,w4⟩:=fR hC (by decide) (o:=dn.length) (by rw[aby,iP,ad6];omega) (v := .str a) rfl
   have fg:(strs dn++List.replicate (n-dn.length) (AV.str [])).set dn.length (AV.str a)=strs (dn++[a])++List.replicate (n-(dn++[a]).length) (AV.str []):=by
    rw[aib _ _ (by rw[iP];omega),iP,agi,Iy,aea]
    congr 1
    rw[aby,show n-dn.length=(n-(dn.length + [a].length))+1 by simp;omega,List.replicate_succ]
    rfl
   rw[fg] at w2
   obtain⟨zz,s',H',i1,i2,i3,i4,i5⟩:=ih r.length (by omega) r (dn++[a]) H1 rfl (by omega) yz (by rw[aby];simp;omega) w2
   have d2:decide ((((a.length:Nat)):Int)<0)=false:=decide_eq_false (by omega)
   have e1:IntKind.wrap .i64 ((a.length:Int)+0)=((a.length:Nat):Int):=by rw[wrap_i64 (by omega) (by omega)];omega
   have e2:IntKind.wrap .i64 ((a.length:Int)+((1:Nat):Int))=((a.length+1:Nat):Int):=by rw[wrap_i64 (by omega) (by omega)];rfl
   have e3:IntKind.wrap .i64 ((dn.length:Int)+1)=(((dn++[a]).length:Nat):Int):=by rw[wrap_i64 (by omega) (by omega),aby];rfl
   have q1:np (.str (a++c::r)) none (some (.int .i64 (a.length:Nat)))=some (.str a):=by rw[ZI .i64 (by simp)];simp
   have q2:np (.str (a++c::r)) (some (.int .i64 (a.length+1:Nat))) none=some (.str r):=by rw[aam .i64 (by simp)];simp[List.drop_append]
   have q3:ia 1 (.slice A 0 n n true 1) (.int .i64 (dn.length:Nat))=some (.ptr A dn.length):=by rw[yL (by omega)];simp
   refine⟨zz,s',H',fun k => ?_,by rw[i2,h1,aea];rfl,i3,i4,w3.trans i5⟩
   rw[Y2]
   simp only[Kb,d,ak0 hc,hi,lj,d2,e1,q1,q3,w1,abx,acm,e2,q2,e3,i1,aj,ai,Int.reduceBEq,Int.reduceBNe,Int.reduceLT,Int.reduceLE,Int.reduceGT,Int.reduceGE,Int.reduceNeg]
theorem SG {H:Hp} {z:AV} {el n:Nat} (k j:IntKind) (hn:n<=1048576):xc [z] el 1 (.int k n) (.int j n) H=some (.slice H.next 0 n n true 1,al H (List.replicate n z) el 0):=by
 unfold xc
 have hr:rep n [z]=List.replicate n z:=by
  unfold rep
  induction n with
  | zero=>rfl
  | succ m ih=>rw[List.replicate_succ,aik,ih (by omega),List.replicate_succ];rfl
 simp only
 rw[if_pos ⟨by omega,by omega,by omega⟩,ab9,hr,iy (by rw[ad6];omega)]
 rfl
theorem ahS {c:Nat} (hc:c<256) {s:aq} (hs:s.length<=1000000) (H:Hp) :
  ∃ x H',cK (.func (.func 116) [] []) [.str s,.str [c],.int .i64 0,.int .i64 (-1)] H=some (x,H')/\Rw H' 1 x (strs (cW c s))/\Out [] H H'/\∀ j∈ak x,H.next<=j:=by
 have hn:=Cg c s
 have hle:=Kk c s
 have e0:([c]==([]:List Nat))=false:=rfl
 have e1:IntKind.wrap .i64 ((gh c s:Int)+1)=((gh c s+1:Nat):Int):=by rw[wrap_i64 (by omega) (by omega)];rfl
 have e2:IntKind.wrap .i64 ((s.length:Int)+1)=((s.length+1:Nat):Int):=by rw[wrap_i64 (by omega) (by omega)];rfl
 have e3:(if ((s.length+1:Nat):Int)<((gh c s+1:Nat):Int) then ((s.length+1:Nat):Int) else ((gh c s+1:Nat):Int))=((gh c s+1:Nat):Int):=if_neg (by omega)
 have e4:IntKind.wrap .i64 (((gh c s+1:Nat):Int)-1)=((gh c s+1-1:Nat):Int):=by rw[wrap_i64 (by omega) (by omega)];omega
 have hm:=SG (H:=H) (z := .str []) (el:=9) (n:=gh c s+1) .i64 .i64 (by omega)
 have hC:Cs (al H (List.replicate (gh c s+1) (AV.str [])) 9 0) H.next (strs []++List.replicate (gh c s+1-([]:List aq).length) (AV.str [])) 9 0:=bD H _ _ _
 obtain⟨dn,s',H1,i1,i2,i3,i4,i5⟩:=ajE hc (n:=gh c s+1) s.length s [] _ rfl (by omega) (by omega) (by simp;omega) hC
 obtain⟨H2,w1,w2,w3,w4⟩:=fR i4 (by decide) (o:=dn.length) (by rw[aby,iP,ad6];omega) (v := .str s') rfl
 have fX:dn.length+1=gh c s+1:=by
  have:=congrArg List.length i2
  simp only[aby,abx,acm] at this
  omega
 have fg:(strs dn++List.replicate (gh c s+1-dn.length) (AV.str [])).set dn.length (AV.str s')=strs (cW c s):=by
  rw[aib _ _ (by rw[iP];omega),iP,agi,show gh c s+1-dn.length=1 by omega]
  have:cW c s=dn++[s']:=by rw[i2];rfl
  rw[this,Iy];rfl
 rw[fg] at w2
 have e5:IntKind.wrap .i64 ((dn.length:Int)+1)=((gh c s+1:Nat):Int):=by rw[wrap_i64 (by omega) (by omega)];omega
 have q3:ia 1 (.slice H.next 0 (gh c s+1) (gh c s+1) true 1) (.int .i64 (dn.length:Nat))=some (.ptr H.next dn.length):=by rw[yL (by omega)];simp
 have GS:Rw H2 1 (.slice H.next 0 (gh c s+1) (gh c s+1) true 1) (strs (cW c s)) := .mk w2.ro (by rw[iP,hn,aeu]) (abe _) (by rw[nY (Nat.succ_ne_zero _)];rfl)
 obtain⟨x,x1,x2,x3⟩:=Ft (n:=gh c s+1) GS (by rw[iP,hn,aeu]) (by decide) (a:=0) (b:=gh c s+1) (lo:=none) (hi:=some (.int .i64 (gh c s+1:Nat))) (by omega) (abe _) (Bd.no 0) (Bd.yes _ _ _)
 rw[af4,abJ,afC,aeu,aer (by rw[iP];omega)] at x2
 refine⟨x,H2,alc ?_,x2,?_,fun j hj => ?_⟩
 ·unfold Nl
  have CA:=i1
  simp only[acm] at CA
  rw[show (((0:Nat):Int))=0 from rfl] at CA
  simp only[e0,ahu hc,e1,e2,Es,e3,hm,e4,CA,q3,w1,e5,x1,aj,ai,Int.reduceBEq,Int.reduceBNe,Int.reduceLT,Int.reduceLE,Int.reduceGT,Int.reduceGE,Int.reduceNeg]
 ·have:Out [H.next] (al H (List.replicate (gh c s+1) (AV.str [])) 9 0) H2:=i5.trans w3
  exact (aN H _ _ _).then this fun j hj=>by rw[aan] at hj;exact .inr (by omega)
 ·have:=x3 j hj
  rw[mr (by rw[nY (Nat.succ_ne_zero _)];rfl)] at this
  rw[aan] at this;omega
theorem Nu {c:Nat} (hc:c<256) {s:aq} (hs:s.length<=1000000) (H:Hp) :
  ∃ x H',cK (.func (.func 88) [] []) [.str s,.str [c]] H=some (x,H')/\Rw H' 1 x (strs (cW c s))/\Out [] H H'/\∀ j∈ak x,H.next<=j:=by
 obtain⟨x,H',h1,h2⟩:=ahS hc hs H
 refine⟨x,H',acB ?_,h2⟩
 unfold Sa
 simp only[h1,aj,ai,Int.reduceBEq,Int.reduceBNe,Int.reduceLT,Int.reduceLE,Int.reduceGT,Int.reduceGE,Int.reduceNeg]
def ints (l:List Int):List AV:=l.map fun z => .int .i64 z
theorem kU (l:List Int):(ints l).length=l.length:=by simp[ints]
theorem aiQ (l:List Int):∀ v∈ints l,bq v=true:=by
 intro v hv
 obtain⟨b,_,rfl⟩:=acI.1 hv
 rfl
theorem JE (a b:List Int):ints (a++b)=ints a++ints b:=by simp[ints]
theorem yE {l:List Int} {j:Nat} {z:Int} (h:l[j]? = some z):(ints l)[j]? = some (.int .i64 z):=by simp[ints,h]
theorem GR (o:Option Nat):decide ((0:Int)<=lj o)=o.isSome:=by
 cases o with
 | none=>rfl
 | some i=>exact decide_eq_true (by show (0:Int)<=(i:Int);omega)
theorem fF {i n:Nat} (h:i<n) (hn:n<=16777216):IntKind.wrap .i64 ((i:Int)+1)=((i+1:Nat):Int):=by rw[wrap_i64 (by omega) (by omega)];rfl
theorem bN {i n:Nat} (h:i<n):decide (((i:Nat):Int)<((n:Nat):Int))=true:=decide_eq_true (by omega)
theorem fw {n:Nat}:decide (((n:Nat):Int)<((n:Nat):Int))=false:=decide_eq_false (by omega)
theorem drop_nil {α:Type} {l:List α} {i:Nat} (hi:i<=l.length) (h:l.drop i=[]):i=l.length:=by
 have:=congrArg List.length h
 rw[ae1,acm] at this;omega
theorem UE {x:AV} {l:List aq} {s:aq} {H:Hp} (hx:Rw H 1 x (strs l)) (hl:l.length<=16777216) (k:K.Fn 0):∀ (r:List aq) (i:Nat),i<=l.length->l.drop i=r->
  DS JN GO cK k x (.str s) (.int .i64 (l.length:Nat)) (.int .i64 (i:Nat)) H=match r.findIdx? (fun a=>s==a) with | some j=>some (.int .i64 ((i+j:Nat):Int),H) | none=>k H
 | [],i,hi,h=>by
  obtain rfl:=drop_nil hi h
  rw[ZR]
  simp only[OA,fw,List.findIdx?_nil,aj,ai,simprocAttr]
 | a::r,i,hi,h=>by
  obtain⟨h1,h2,h3⟩:=fC h
  obtain⟨q,q1,q2⟩:=hx.jy (tB h2) .i64
  have e:=fF h1 hl
  have ih:=UE (s:=s) hx hl k r (i+1) h1 h3
  rw[ZR]
  simp only[OA,bN h1,q1,q2,e,ih,FU,agz,aj,ai,simprocAttr]
  cases hb:(s==a) with
  | true=>simp
  | false=>
   cases hf:r.findIdx? (fun a=>s==a) with
   | none=>simp
   | some j=>simp;omega
theorem NU {x:AV} {l:List aq} {H:Hp} (hx:Rw H 1 x (strs l)) (hl:l.length<=16777216) (s:aq):cK (.func (.func 104) [] []) [x,.str s] H=some (.int .i64 (lj (l.findIdx? (fun a=>s==a))),H):=by
 refine afs ?_
 unfold Ut
 have h1:=hx.kC
 rw[iP] at h1
 have h2:=fun k=>UE (s:=s) hx hl k l 0 (ab2 _) abJ
 rw[show (((0:Nat):Int))=0 from rfl] at h2
 simp only[h1,h2,aj,ai,simprocAttr]
 cases l.findIdx? (fun a=>s==a)<;>rfl
theorem Yb {x:AV} {l:List aq} {H:Hp} (hx:Rw H 1 x (strs l)) (hl:l.length<=16777216) (s:aq):cK (.func (.func 94) [] []) [x,.str s] H=some (.bool (l.any (fun a=>s==a)),H):=by
 refine aiq ?_
 unfold Tb
 simp only[NU hx hl,GR,List.findIdx?_isSome,aj,ai,simprocAttr]
theorem UW {x:AV} {l:List Int} {s:Int} {H:Hp} (hx:Rw H 1 x (ints l)) (hl:l.length<=16777216) (k:K.Fn 0):∀ (r:List Int) (i:Nat),i<=l.length->l.drop i=r->
  FE JN GO cK k x (.int .i64 s) (.int .i64 (l.length:Nat)) (.int .i64 (i:Nat)) H=match r.findIdx? (fun a=>s==a) with | some j=>some (.int .i64 ((i+j:Nat):Int),H) | none=>k H
 | [],i,hi,h=>by
  obtain rfl:=drop_nil hi h
  rw[T8]
  simp only[MA,fw,List.findIdx?_nil,aj,ai,simprocAttr]
 | a::r,i,hi,h=>by
  obtain⟨h1,h2,h3⟩:=fC h
  obtain⟨q,q1,q2⟩:=hx.jy (yE h2) .i64
  have e:=fF h1 hl
  have ih:=UW (s:=s) hx hl k r (i+1) h1 h3
  rw[T8]
  simp only[MA,bN h1,q1,q2,e,ih,FU,agz,aj,ai,simprocAttr]
  cases hb:(s==a) with
  | true=>simp
  | false=>
   cases hf:r.findIdx? (fun a=>s==a) with
   | none=>simp
   | some j=>simp;omega
theorem afg {x:AV} {l:List Int} {H:Hp} (hx:Rw H 1 x (ints l)) (hl:l.length<=16777216) (s:Int):cK (.func (.func 174) [] []) [x,.int .i64 s] H=some (.int .i64 (lj (l.findIdx? (fun a=>s==a))),H):=by
 refine acb ?_
 unfold WZ
 have h1:=hx.kC
 rw[kU] at h1
 have h2:=fun k=>UW (s:=s) hx hl k l 0 (ab2 _) abJ
 rw[show (((0:Nat):Int))=0 from rfl] at h2
 simp only[h1,h2,aj,ai,simprocAttr]
 cases l.findIdx? (fun a=>s==a)<;>rfl
theorem acL {x:AV} {l:List Int} {H:Hp} (hx:Rw H 1 x (ints l)) (hl:l.length<=16777216) (s:Int):cK (.func (.func 154) [] []) [x,.int .i64 s] H=some (.bool (l.any (fun a=>s==a)),H):=by
 refine abu ?_
 unfold UI
 simp only[afg hx hl,GR,List.findIdx?_isSome,aj,ai,simprocAttr]
theorem aa7 {x fv:AV} {l:List Int} {p:Int->Bool} {H0:Hp} (hx:Rw H0 1 x (ints l)) (hl:l.length<=16777216) (hp:∀ H,Out [] H0 H->∀ a∈l,∃ H',cK fv [.int .i64 a] H=some (.bool (p a),H')/\Out [] H H'):∀ (r:List Int) (i:Nat) (H:Hp),Out [] H0 H->i<=l.length->l.drop i=r->
  ∃ H',Out [] H H'/\∀ k:K.Fn 0,HD JN GO cK k x fv (.int .i64 (l.length:Nat)) (.int .i64 (i:Nat)) H=match r.findIdx? p with | some j=>some (.int .i64 ((i+j:Nat):Int),H') | none=>k H'
 | [],i,H,ho,hi,h=>by
  obtain rfl:=drop_nil hi h
  refine⟨H,Out.refl _ _,fun k => ?_⟩
  rw[QG]
  simp only[Io,fw,List.findIdx?_nil,aj,ai,simprocAttr]
 | a::r,i,H,ho,hi,h=>by
  obtain⟨h1,h2,h3⟩:=fC h
  obtain⟨q,q1,q2⟩:=(hx.aw ho).jy (yE h2) .i64
  have e:=fF h1 hl
  obtain⟨H1,p1,p2⟩:=hp H ho a (aa2 h2)
  cases hb:p a with
  | true=>
   refine⟨H1,p2,fun k => ?_⟩
   rw[QG]
   simp only[Io,bN h1,q1,q2,p1,hb,agz,if_true,adx,aj,ai,simprocAttr]
  | false=>
   obtain⟨H',i1,i2⟩:=aa7 hx hl hp r (i+1) H1 (ho.trans p2) h1 h3
   refine⟨H',p2.trans i1,fun k => ?_⟩
   rw[QG]
   simp only[Io,bN h1,q1,q2,p1,hb,e,i2,agz,aj,ai,simprocAttr]
   cases hf:r.findIdx? p with
   | none=>simp
   | some j=>simp;omega
theorem akM {x fv:AV} {l:List Int} {p:Int->Bool} {H0:Hp} (hx:Rw H0 1 x (ints l)) (hl:l.length<=16777216) (hp:∀ H,Out [] H0 H->∀ a∈l,∃ H',cK fv [.int .i64 a] H=some (.bool (p a),H')/\Out [] H H') :
  ∃ H',cK (.func (.func 143) [] []) [x,fv] H0=some (.bool (l.any p),H')/\Out [] H0 H':=by
 obtain⟨H',h1,h2⟩:=aa7 hx hl hp l 0 H0 (Out.refl _ _) (ab2 _) abJ
 rw[show (((0:Nat):Int))=0 from rfl] at h2
 have hn:=hx.kC
 rw[kU] at hn
 have:cK (.func (.func 163) [] []) [x,fv] H0=some (.int .i64 (lj (l.findIdx? p)),H'):=by
  refine aj7 ?_
  unfold W8
  simp only[hn,h2,aj,ai,simprocAttr]
  cases l.findIdx? p<;>simp[lj]
 refine⟨H',afh ?_,h1⟩
 unfold XW
 simp only[this,GR,List.findIdx?_isSome,aj,ai,simprocAttr]
theorem Tl {x fv:AV} {L:List (List AV)} {p:List AV->Bool} {H0:Hp} (hx:RL H0 6 x L) (hl:L.length<=16777216) (hp:∀ H,Out [] H0 H->∀ a∈L,∃ H',cK fv [.agg a] H=some (.bool (p a),H')/\Out [] H H'):∀ (r:List (List AV)) (i:Nat) (H:Hp),Out [] H0 H->i<=L.length->L.drop i=r->
  ∃ H',Out [] H H'/\∀ k:K.Fn 0,Hi JN GO cK k x fv (.int .i64 (L.length:Nat)) (.int .i64 (i:Nat)) H=match r.findIdx? p with | some j=>some (.int .i64 ((i+j:Nat):Int),H') | none=>k H'
 | [],i,H,ho,hi,h=>by
  obtain rfl:=drop_nil hi h
  refine⟨H,Out.refl _ _,fun k => ?_⟩
  rw[L0]
  simp only[Kv,fw,List.findIdx?_nil,aj,ai,simprocAttr]
 | a::r,i,H,ho,hi,h=>by
  obtain⟨h1,h2,h3⟩:=fC h
  obtain⟨b,o,q1,_,_,q2,_⟩:=(hx.aw ho).at (by decide) h2
  have e:=fF h1 hl
  obtain⟨H1,p1,p2⟩:=hp H ho a (aa2 h2)
  cases hb:p a with
  | true=>
   refine⟨H1,p2,fun k => ?_⟩
   rw[L0]
   simp only[Kv,bN h1,q1,JM,q2,ady,p1,hb,agz,if_true,adx,aj,ai,simprocAttr]
  | false=>
   obtain⟨H',i1,i2⟩:=Tl hx hl hp r (i+1) H1 (ho.trans p2) h1 h3
   refine⟨H',p2.trans i1,fun k => ?_⟩
   rw[L0]
   simp only[Kv,bN h1,q1,JM,q2,ady,p1,hb,e,i2,agz,aj,ai,simprocAttr]
   cases hf:r.findIdx? p with
   | none=>simp
   | some j=>simp;omega
theorem ano {x fv:AV} {L:List (List AV)} {p:List AV->Bool} {H0:Hp} (hx:RL H0 6 x L) (hl:L.length<=16777216) (hp:∀ H,Out [] H0 H->∀ a∈L,∃ H',cK fv [.agg a] H=some (.bool (p a),H')/\Out [] H H') :
  ∃ H',cK (.func (.func 95) [] []) [x,fv] H0=some (.bool (L.any p),H')/\Out [] H0 H':=by
 obtain⟨H',h1,h2⟩:=Tl hx hl hp L 0 H0 (Out.refl _ _) (ab2 _) abJ
 rw[show (((0:Nat):Int))=0 from rfl] at h2
 have hn:=hx.len (by decide)
 have:cK (.func (.func 135) [] []) [x,fv] H0=some (.int .i64 (lj (L.findIdx? p)),H'):=by
  refine akw ?_
  unfold WG
  simp only[hn,h2,aj,ai,simprocAttr]
  cases L.findIdx? p<;>simp[lj]
 refine⟨H',ach ?_,h1⟩
 unfold Vl
 simp only[this,GR,List.findIdx?_isSome,aj,ai,simprocAttr]
theorem agn {H:Hp} {x:AV} {l:List AV} (hx:Rw H 1 x l) (ho:∀ v∈l,bq v=true) (hl:l.length<=16777216) :
  ∃ y H',cK (.func (.func 137) [] []) [x] H=some (y,H')/\Ow H' 3 1 y l/\Out [] H H'/\(∀ j∈ak y,H.next<=j)/\(x = .ah->y = .ah):=by
 have hu:P.underlying 97=some (.slice 3):=Tryz.underlying97
 by_cases h0:x = .ah
 ·subst h0
  have:l=[]:=by cases hx;rfl
  subst this
  refine⟨.ah,H,Vs ?_,.nil,Out.refl _ _,fun j hj=>by simp[ak] at hj,fun _=>rfl⟩
  unfold P2
  simp only[Hv,lL,Gd hu,aj,ai,simprocAttr]
 ·obtain⟨y,H',h1,h2,h3,h4⟩:=GV (el:=3) (fU:=3) (z:=[(.int .i64 0)]) hx ho (by decide) hl
  refine⟨y,H',Vs ?_,h2,h3,h4,fun q=>absurd q h0⟩
  have hq:∃ i o n c ex aO,x = .slice i o n c ex aO:=by
   cases hx with
   | nil=>exact absurd rfl h0
   | emp=>exact⟨_,_,_,_,_,_,rfl⟩
   | mk _ _ _ _=>exact⟨_,_,_,_,_,_,rfl⟩
  obtain⟨i,o,n,c,ex,aO,rfl⟩:=hq
  unfold P2
  have eh:aL H [] 3 0=some (H.next,al H [] 3 0):=iy (by simp)
  simp only[Ge,lL,G0 hu,tV,eh,h1,aj,ai,simprocAttr]
theorem Us {H:Hp} {x:AV} {l:List AV} (hx:Rw H 1 x l) (ho:∀ v∈l,bq v=true) (hl:l.length<=16777216) :
  ∃ y H',cK (.func (.func 30) [] []) [x] H=some (y,H')/\Ow H' 9 1 y l/\Out [] H H'/\(∀ j∈ak y,H.next<=j)/\(x = .ah->y = .ah):=by
 have hu:P.underlying 46=some (.slice 9):=Tryz.underlying46
 by_cases h0:x = .ah
 ·subst h0
  have:l=[]:=by cases hx;rfl
  subst this
  refine⟨.ah,H,Uh ?_,.nil,Out.refl _ _,fun j hj=>by simp[ak] at hj,fun _=>rfl⟩
  unfold QU
  simp only[Hv,lL,Gd hu,aj,ai,simprocAttr]
 ·obtain⟨y,H',h1,h2,h3,h4⟩:=GV (el:=9) (fU:=9) (z:=[(.str [])]) hx ho (by decide) hl
  refine⟨y,H',Uh ?_,h2,h3,h4,fun q=>absurd q h0⟩
  have hq:∃ i o n c ex aO,x = .slice i o n c ex aO:=by
   cases hx with
   | nil=>exact absurd rfl h0
   | emp=>exact⟨_,_,_,_,_,_,rfl⟩
   | mk _ _ _ _=>exact⟨_,_,_,_,_,_,rfl⟩
  obtain⟨i,o,n,c,ex,aO,rfl⟩:=hq
  unfold QU
  have eh:aL H [] 9 0=some (H.next,al H [] 9 0):=iy (by simp)
  simp only[Ge,lL,G0 hu,tV,eh,h1,aj,ai,simprocAttr]
theorem alk {H:Hp} {x:AV} {l:List AV} (hx:Rw H 6 x l) (ho:∀ v∈l,bq v=true) (hl:l.length<=16777216) :
  ∃ y H',cK (.func (.func 136) [] []) [x] H=some (y,H')/\Ow H' 99 6 y l/\Out [] H H'/\(∀ j∈ak y,H.next<=j)/\(x = .ah->y = .ah):=by
 have hu:P.underlying 70=some (.slice 99):=Tryz.underlying70
 by_cases h0:x = .ah
 ·subst h0
  have:l=[]:=by cases hx;rfl
  subst this
  refine⟨.ah,H,Vc ?_,.nil,Out.refl _ _,fun j hj=>by simp[ak] at hj,fun _=>rfl⟩
  unfold M8
  simp only[Hv,lL,Gd hu,aj,ai,simprocAttr]
 ·obtain⟨y,H',h1,h2,h3,h4⟩:=GV (el:=99) (fU:=99) (z:=[(.str []),.ah,(.int .i64 0),(.int .i64 0),(.int .i64 0),(.str [])]) hx ho (by decide) hl
  refine⟨y,H',Vc ?_,h2,h3,h4,fun q=>absurd q h0⟩
  have hq:∃ i o n c ex aO,x = .slice i o n c ex aO:=by
   cases hx with
   | nil=>exact absurd rfl h0
   | emp=>exact⟨_,_,_,_,_,_,rfl⟩
   | mk _ _ _ _=>exact⟨_,_,_,_,_,_,rfl⟩
  obtain⟨i,o,n,c,ex,aO,rfl⟩:=hq
  unfold M8
  have eh:aL H [] 99 0=some (H.next,al H [] 99 0):=iy (by simp)
  simp only[Ge,lL,G0 hu,tV,eh,h1,aj,ai,simprocAttr]
theorem acw {H:Hp} {x:AV} {l:List AV} (hx:Rw H 4 x l) (ho:∀ v∈l,bq v=true) (hl:l.length<=16777216) :
  ∃ y H',cK (.func (.func 138) [] []) [x] H=some (y,H')/\Ow H' 132 4 y l/\Out [] H H'/\(∀ j∈ak y,H.next<=j)/\(x = .ah->y = .ah):=by
 have hu:P.underlying 73=some (.slice 132):=Tryz.underlying73
 by_cases h0:x = .ah
 ·subst h0
  have:l=[]:=by cases hx;rfl
  subst this
  refine⟨.ah,H,Zs ?_,.nil,Out.refl _ _,fun j hj=>by simp[ak] at hj,fun _=>rfl⟩
  unfold PL
  simp only[Hv,lL,Gd hu,aj,ai,simprocAttr]
 ·obtain⟨y,H',h1,h2,h3,h4⟩:=GV (el:=132) (fU:=132) (z:=[(.int .i64 0),(.int .i64 0),(.int .i64 0),(.str [])]) hx ho (by decide) hl
  refine⟨y,H',Zs ?_,h2,h3,h4,fun q=>absurd q h0⟩
  have hq:∃ i o n c ex aO,x = .slice i o n c ex aO:=by
   cases hx with
   | nil=>exact absurd rfl h0
   | emp=>exact⟨_,_,_,_,_,_,rfl⟩
   | mk _ _ _ _=>exact⟨_,_,_,_,_,_,rfl⟩
  obtain⟨i,o,n,c,ex,aO,rfl⟩:=hq
  unfold PL
  have eh:aL H [] 132 0=some (H.next,al H [] 132 0):=iy (by simp)
  simp only[Ge,lL,G0 hu,tV,eh,h1,aj,ai,simprocAttr]
theorem U3 {x y:AV} {l m:List aq} {H:Hp} (hx:Rw H 1 x (strs l)) (hy:Rw H 1 y (strs m)) (hl:l.length<=16777216) (eJ:l.length=m.length) (k:K.Fn 0):∀ (r:List aq) (i:Nat),i<=l.length->l.drop i=r->
  Fu JN GO cK k x y (.int .i64 (l.length:Nat)) (.int .i64 (i:Nat)) H=if r=m.drop i then k H else some (.bool false,H)
 | [],i,hi,h=>by
  obtain rfl:=drop_nil hi h
  rw[T7]
  have:m.drop l.length=[]:=afX (by omega)
  simp only[NN,fw,this,if_true,aj,ai,simprocAttr]
 | a::r,i,hi,h=>by
  obtain⟨h1,h2,h3⟩:=fC h
  obtain⟨q,q1,q2⟩:=hx.jy (tB h2) .i64
  obtain⟨b,hm⟩:∃ b,m[i]? = some b:=⟨_,aaM (by omega)⟩
  obtain⟨p,p1,p2⟩:=hy.jy (tB hm) .i64
  have e:=fF h1 hl
  have ih:=U3 hx hy hl eJ k r (i+1) h1 h3
  have hd:m.drop i=b::m.drop (i+1):=by
   obtain⟨w1,w2⟩:=aaK.1 hm
   rw[afD w1,w2]
  rw[T7,hd]
  generalize m.drop (i+1)=t at ih
  simp only[NN,bN h1,q1,q2,p1,p2,e,ih,FU,aj,ai,simprocAttr]
  by_cases hb:a=b
  ·subst hb;simp
  ·simp[hb]
theorem alG {x y:AV} {l m:List aq} {H:Hp} (hx:Rw H 1 x (strs l)) (hy:Rw H 1 y (strs m)) (hl:l.length<=16777216):cK (.func (.func 74) [] []) [x,y] H=some (.bool (decide (l=m)),H):=by
 refine anW ?_
 unfold YN
 have h1:=hx.kC
 rw[iP] at h1
 have h2:=hy.kC
 rw[iP] at h2
 by_cases eJ:l.length=m.length
 ·have h3:=fun k=>U3 hx hy hl eJ k l 0 (ab2 _) abJ
  rw[show (((0:Nat):Int))=0 from rfl] at h3
  have aH:(((l.length:Nat):Int) != ((m.length:Nat):Int))=false:=by simp[eJ]
  simp only[h1,h2,aH,h3,abJ,aj,ai,simprocAttr]
  by_cases hb:l=m<;>simp[hb]
 ·have aH:(((l.length:Nat):Int) != ((m.length:Nat):Int))=true:=by simp;omega
  have hb:l≠m:=fun e=>eJ (by rw[e])
  simp only[h1,h2,aH,hb,aj,ai,simprocAttr]
theorem RY {x y:AV} {l m:List Int} {H:Hp} (hx:Rw H 1 x (ints l)) (hy:Rw H 1 y (ints m)) (hl:l.length<=16777216) (eJ:l.length=m.length) (k:K.Fn 0):∀ (r:List Int) (i:Nat),i<=l.length->l.drop i=r->
  DT JN GO cK k x y (.int .i64 (l.length:Nat)) (.int .i64 (i:Nat)) H=if r=m.drop i then k H else some (.bool false,H)
 | [],i,hi,h=>by
  obtain rfl:=drop_nil hi h
  rw[Zp]
  have:m.drop l.length=[]:=afX (by omega)
  simp only[PT,fw,this,if_true,aj,ai,simprocAttr]
 | a::r,i,hi,h=>by
  obtain⟨h1,h2,h3⟩:=fC h
  obtain⟨q,q1,q2⟩:=hx.jy (yE h2) .i64
  obtain⟨b,hm⟩:∃ b,m[i]? = some b:=⟨_,aaM (by omega)⟩
  obtain⟨p,p1,p2⟩:=hy.jy (yE hm) .i64
  have e:=fF h1 hl
  have ih:=RY hx hy hl eJ k r (i+1) h1 h3
  have hd:m.drop i=b::m.drop (i+1):=by
   obtain⟨w1,w2⟩:=aaK.1 hm
   rw[afD w1,w2]
  rw[Zp,hd]
  generalize m.drop (i+1)=t at ih
  simp only[PT,bN h1,q1,q2,p1,p2,e,ih,FU,aj,ai,simprocAttr]
  by_cases hb:a=b
  ·subst hb;simp
  ·simp[hb]
theorem akB {x y:AV} {l m:List Int} {H:Hp} (hx:Rw H 1 x (ints l)) (hy:Rw H 1 y (ints m)) (hl:l.length<=16777216):cK (.func (.func 72) [] []) [x,y] H=some (.bool (decide (l=m)),H):=by
 refine amB ?_
 unfold VN
 have h1:=hx.kC
 rw[kU] at h1
 have h2:=hy.kC
 rw[kU] at h2
 by_cases eJ:l.length=m.length
 ·have h3:=fun k=>RY hx hy hl eJ k l 0 (ab2 _) abJ
  rw[show (((0:Nat):Int))=0 from rfl] at h3
  have aH:(((l.length:Nat):Int) != ((m.length:Nat):Int))=false:=by simp[eJ]
  simp only[h1,h2,aH,h3,abJ,aj,ai,simprocAttr]
  by_cases hb:l=m<;>simp[hb]
 ·have aH:(((l.length:Nat):Int) != ((m.length:Nat):Int))=true:=by simp;omega
  have hb:l≠m:=fun e=>eJ (by rw[e])
  simp only[h1,h2,aH,hb,aj,ai,simprocAttr]
open lH
structure Gl (H:Hp):Prop where
 pow:∀ i:Nat,i<20->cellAt H 0 i=some (.int .u64 ((10 ^ i:Nat):Int))
 err:Iq H
 nx:11<=H.next
theorem Re {H:Hp} {L:List (Nat × List AV)} (h:y9 H L) {g:Nat} {l:List AV} (hm:(g,l)∈L) {k:Nat} {v:AV} (hk:l[k]? = some v):cellAt H g k=some v:=by
 obtain⟨el,h⟩:=h
 have h1:=h g l hm
 have jV:=(aaK.1 hk).1
 unfold cellAt
 rw[h1]
 have hb:(Nat.ble 0 k&&Nat.blt k l.length)=true:=by
  rw[aa9,adH,adq];omega
 simp only[hb,cond_true]
 rw[wT,if_pos (by omega)]
 exact hk
theorem ak4:∀ i:Fin 20,(Ji.map (AV.int .u64))[i.val]? = some (.int .u64 ((10 ^ i.val:Nat):Int)):=by
 intro i
 match i with
 | ⟨0,_⟩=>rfl
 | ⟨1,_⟩=>rfl
 | ⟨2,_⟩=>rfl
 | ⟨3,_⟩=>rfl
 | ⟨4,_⟩=>rfl
 | ⟨5,_⟩=>rfl
 | ⟨6,_⟩=>rfl
 | ⟨7,_⟩=>rfl
 | ⟨8,_⟩=>rfl
 | ⟨9,_⟩=>rfl
 | ⟨10,_⟩=>rfl
 | ⟨11,_⟩=>rfl
 | ⟨12,_⟩=>rfl
 | ⟨13,_⟩=>rfl
 | ⟨14,_⟩=>rfl
 | ⟨15,_⟩=>rfl
 | ⟨16,_⟩=>rfl
 | ⟨17,_⟩=>rfl
 | ⟨18,_⟩=>rfl
 | ⟨19,_⟩=>rfl
 | ⟨n+20,h⟩=>omega
theorem Gl.of {H:Hp} (h:y9 H mJ) (hn:11<=H.next):Gl H where
 pow:=fun i hi=>Re h (l:=Ji.map (AV.int .u64)) (by unfold mJ;simp) (ak4 ⟨i,hi⟩)
 err:=⟨⟨_,_,Re h (g:=6) (k:=0) (by unfold mJ;simp;rfl) rfl⟩,⟨_,_,Re h (g:=7) (k:=0) (by unfold mJ;simp;rfl) rfl⟩⟩
 nx:=hn
theorem Gl.out {H H':Hp} {S:List Nat} (h:Gl H) (k:Out S H H') (hs:∀ j∈S,11<=j):Gl H' where
 pow:=fun i hi=>by
  rw[k.cellAt (by have:=h.nx;omega) (fun q=>by have:=hs _ q;omega)]
  exact h.pow i hi
 err:=by
  have hn:=h.nx
  refine⟨?_,?_⟩
  ·obtain⟨t,p,q⟩:=h.err.UA
   exact⟨t,p,by rw[k.cellAt (by omega) (fun q=>by have:=hs _ q;omega)];exact q⟩
  ·obtain⟨t,p,q⟩:=h.err.Vq
   exact⟨t,p,by rw[k.cellAt (by omega) (fun q=>by have:=hs _ q;omega)];exact q⟩
 nx:=afo h.nx k.1
theorem Gl.aw {H H':Hp} (h:Gl H) (k:Out [] H H'):Gl H':=h.out k fun j hj=>by cases hj
theorem agE (s c:List Nat) (H:Hp) (hs:s.length<=4294967296) (hc:Dq c=true) (lu:c.length<=4294967280):cK (.func (.func 91) [] []) [.str s,.str c] H=some (.str (yh s c),H):=by
 refine wS (p:=Ee) (by kernel_rfl) ?_
 have h2:F.Fh (Dq c) (F.Fh (Nat.ble (F.BU s) 4294967296) (Nat.ble (F.BU c) 4294967280))=true:=by
  rw[F.Iu,F.Iu,F.Jl,F.Jl,hc]
  simp only[ac2,aa9,adH]
  exact⟨hs,lu⟩
 show Jx H s c=_
 unfold Jx
 rw[h2]
def dec (n:Int):aq:=(Lib.itoa n).map (·.toNat)
theorem abY:∀ p:Fin 10,(([48,49,50,51,52,53,54,55,56,57,97,98,99,100,101,102,103,104,105,106,107,108,109,110,111,112,113,114,115,116,117,118,119,120,121,122]:List Nat).drop p.val).take 1=[48+p.val]:=by decide +kernel
abbrev sm:List Nat:=[48,48,48,49,48,50,48,51,48,52,48,53,48,54,48,55,48,56,48,57,49,48,49,49,49,50,49,51,49,52,49,53,49,54,49,55,49,56,49,57,50,48,50,49,50,50,50,51,50,52,50,53,50,54,50,55,50,56,50,57,51,48,51,49,51,50,51,51,51,52,51,53,51,54,51,55,51,56,51,57,52,48,52,49,52,50,52,51,52,52,52,53,52,54,52,55,52,56,52,57,53,48,53,49,53,50,53,51,53,52,53,53,53,54,53,55,53,56,53,57,54,48,54,49,54,50,54,51,54,52,54,53,54,54,54,55,54,56,54,57,55,48,55,49,55,50,55,51,55,52,55,53,55,54,55,55,55,56,55,57,56,48,56,49,56,50,56,51,56,52,56,53,56,54,56,55,56,56,56,57,57,48,57,49,57,50,57,51,57,52,57,53,57,54,57,55,57,56,57,57]
theorem abk:∀ p:Fin 100,(sm.drop (p.val*2)).take 2=[48+p.val / 10,48+p.val % 10]:=by decide +kernel
theorem Ly {n:Nat} (h:n<256):(UInt8.ofNat n).toNat=n:=by rw[UInt8.toNat_ofNat',aix h]
theorem amX {n:Nat} (h:n<10):dec (n:Int)=[48+n]:=by
 unfold dec Lib.itoa
 rw[if_neg (by omega),ab9,Lib.decDigits_one h]
 simp only[acJ,List.map_nil]
 rw[Ly (by omega)]
theorem abp {n:Nat} (h1:¬ n<10) (h2:n<100):dec (n:Int)=[48+n / 10,48+n % 10]:=by
 unfold dec Lib.itoa
 rw[if_neg (by omega),ab9,Lib.decDigits_two h1 h2]
 simp only[acJ,List.map_nil]
 rw[Ly (by omega),Ly (by omega)]
theorem agV {n:Nat} (h:n<100) (H:Hp):cK (.func (.func 164) [] []) [.int .i64 n] H=some (.str (dec n),H):=by
 refine aey ?_
 unfold Qd
 by_cases h1:n<10
 ·have d:decide ((n:Int)<10)=true:=decide_eq_true (by omega)
  have e:IntKind.wrap .i64 ((n:Int)+1)=((n+1:Nat):Int):=by rw[wrap_i64 (by omega) (by omega)];rfl
  have q:=Ul (s:=[48,49,50,51,52,53,54,55,56,57,97,98,99,100,101,102,103,104,105,106,107,108,109,110,111,112,113,114,115,116,117,118,119,120,121,122]) (a:=n) (b:=n+1) .i64 .i64 (by omega) (by simp only[abx,acm];omega)
  rw[adG,abY ⟨n,h1⟩] at q
  simp only[d,e,q,amX h1,aj,ai,simprocAttr]
 ·have d:decide ((n:Int)<10)=false:=decide_eq_false (by omega)
  have e1:IntKind.wrap .i64 ((n:Int)*2)=((n*2:Nat):Int):=by rw[wrap_i64 (by omega) (by omega)];omega
  have e2:IntKind.wrap .i64 (((n*2:Nat):Int)+2)=((n*2+2:Nat):Int):=by rw[wrap_i64 (by omega) (by omega)];rfl
  have q:=Ul (s:=sm) (a:=n*2) (b:=n*2+2) .i64 .i64 (by omega) (by simp only[abx,acm];omega)
  rw[adG,abk ⟨n,h⟩] at q
  simp only[d,e1,e2,q,abp h1 h,aj,ai,simprocAttr]
theorem amL {u:Nat} (h1:1<=u) (h2:u<18446744073709551616) {H:Hp} (hg:Gl H):cK (.func (.func 165) [] []) [.int .u64 u] H=some (.int .i64 (Lib.nDigits u:Nat),H):=by
 refine al6 ?_
 unfold Yq
 have hl:cK (.func (.func 182) [] []) [.int .u64 u] H=some (.int .i64 (Lib.bitLen u:Nat),H):=by
  refine wS (p:=G9) (by kernel_rfl) ?_
  unfold G9
  simp only
  rw[if_pos ⟨by omega,by omega⟩,ab9]
 obtain⟨n1,n2⟩:=Lib.numDigits_eq u h1 h2
 have hb:Lib.bitLen u<=100:=by
  have:Lib.l10 (Lib.bitLen u)<=19:=n2
  unfold Lib.l10 at this
  omega
 have hp:cK (.func (.func 181) [] []) [.int .i64 (Lib.bitLen u:Nat)] H=some (.int .i64 (Lib.l10 (Lib.bitLen u):Nat),H):=by
  refine acr ?_
  unfold Vn
  have e:IntKind.wrap .i64 ((Lib.bitLen u:Int)*78913)=((Lib.bitLen u*78913:Nat):Int):=by rw[wrap_i64 (by omega) (by omega)];omega
  have e2:z6 (.int .i64 ((Lib.bitLen u*78913:Nat):Int)) (.int .u64 18)=some (.int .i64 ((Lib.l10 (Lib.bitLen u):Nat):Int)):=by
   have:=ai5 (k := .i64) (j := .u64) (a:=Lib.bitLen u*78913) (b:=18)
   rw[show ((18:Nat):Int)=18 from rfl] at this
   rw[this]
   rfl
  simp only[e,e2,aj,ai,simprocAttr]
 generalize hq:Lib.l10 (Lib.bitLen u)=q at *
 have nJ:nq 20 1 (.ptr 0 0) (.int .i64 (q:Nat))=some (.ptr 0 q):=by
  unfold nq
  simp only
  rw[if_pos (by omega),ab9,aeu,adt]
 have hc:=hg.pow q (by omega)
 by_cases hle:10 ^ q<=u
 ·rw[if_pos hle] at n1
  have d:decide (((10 ^ q:Nat):Int)<=(u:Int))=true:=decide_eq_true (by exact Int.ofNat_le.2 hle)
  have hJ:cK (.func (.func 183) [] []) [.bool true] H=some (.int .i64 1,H):=by
   refine WX ?_
   unfold LC
   simp only[aj,ai,simprocAttr]
  have e:IntKind.wrap .i64 ((q:Int)+1)=((Lib.nDigits u:Nat):Int):=by rw[wrap_i64 (by omega) (by omega)];omega
  simp only[hl,hp,nJ,Ij,hc,ID,d,hJ,e,aj,ai,simprocAttr]
 ·rw[if_neg hle] at n1
  have d:decide (((10 ^ q:Nat):Int)<=(u:Int))=false:=decide_eq_false (by intro x;exact hle (Int.ofNat_le.1 x))
  have hJ:cK (.func (.func 183) [] []) [.bool false] H=some (.int .i64 0,H):=by
   refine WX ?_
   unfold LC
   simp only[aj,ai,simprocAttr]
  have e:IntKind.wrap .i64 ((q:Int)+0)=((Lib.nDigits u:Nat):Int):=by rw[wrap_i64 (by omega) (by omega)];omega
  simp only[hl,hp,nJ,Ij,hc,ID,d,hJ,e,aj,ai,simprocAttr]
theorem aiF {H:Hp} {i off n u cap:Nat} {ex:Bool} {l:List AV} {el fl:Nat} (h:Cs H i l el fl) (hf:fl<=1) (lq:0<n) (ho:off+n<=l.length) (hn:n<=100) (hu:u<18446744073709551616) (Q6:u<10 ^ n) (hb:∀ v∈l,∃ b:Nat,b<256/\v = .int .u8 b) :
  ∃ H',cK (.func (.func 166) [] []) [.slice i off n cap ex 1,.int .u64 u] H=some (.tuple [],H')/\Cs H' i (iU l off (nL u n)) el fl/\Out [i] H H':=by
 obtain⟨hi,c,hc,hg⟩:=h
 have fX:(nL u n).length=n:=by simp[nL]
 have xE:=Cs.av ⟨hi,c,hc,hg⟩ n off ho
 refine⟨{ H with h:=H.h.bX i (.cells (c.cC off (nL u n)) 0 l.length el fl) },wS (p:=Gs) (by kernel_rfl) ?_,⟨hi,c.cC off (nL u n),?_,?_⟩,⟨abe _,fun j hj Gj => ?_⟩⟩
 ·unfold Gs
  simp only
  rw[if_pos ⟨trivial,lq,by omega,by omega,by omega,by rw[ab9];exact Q6⟩,hc,acx,ab9]
  unfold MW
  simp only
  rw[if_pos ⟨by omega,ho,hf,_,xE,fun v hv=>hb v (List.mem_of_mem_drop (List.mem_of_mem_take hv))⟩]
 ·show (H.h.bX i _).get i=_
  rw[Tr.bX,Tr.fj,if_pos rfl,Hm]
 ·intro k v hk
  rw[zG _ _ _ _ (by rw[fX];exact ho)] at hk
  rw[Tr.uj]
  split
  ·rename_i gU
   rw[if_pos gU] at hk
   exact hk
  ·rename_i gU
   rw[if_neg gU] at hk
   exact hg k v hk
 ·show (H.h.bX i _).get j=_
  rw[Tr.bX,Tr.fj,if_neg (by simpa using Gj)]
theorem TJ (u:Nat):nL u (Lib.nDigits u)=bs ((Lib.decDigits u).map (·.toNat)):=by
 unfold nL bs
 rw[Lib.decDigits_eq,aiB,aiB]
 rfl
theorem Pn {H:Hp} {i a b:Nat} {l:List AV} {el fl:Nat} (h:Cs H i l el fl) (hl:l.length=24) (uY:a<=b) (hb:b<=24) {lo:Option AV} (gY:Bd lo a 0):qX P 238 (.ptr i 0) lo (some (.int .i64 b)) none H=some (.slice i a (b-a) (24-a) true 1):=by
 have hu:P.underlying 238=some (.array 24 5):=Tryz.underlying238
 have hs:sz P 5=some 1:=by kernel_rfl
 have hc:=h.cellAt (o:=23) (v:=l[23]'(by omega)) (aaM (by omega))
 unfold qX
 simp only[hu,hs,aca,acx,yK uY hb (abe _) gY (Bd.yes .i64 b 24),aeu,adt]
 have h1:(decide (0<24)&&(cellAt H i (0+24-1)).isSome)=true:=by
  rw[show 0+24-1=23 by rfl,hc];rfl
 simp[hc]
theorem Vp {n:Int} (h:n<0):dec n=45::(Lib.decDigits n.natAbs).map (·.toNat):=by
 unfold dec Lib.itoa
 rw[if_pos h];rfl
theorem XL {n:Int} (h:¬ n<0):dec n=(Lib.decDigits n.toNat).map (·.toNat):=by
 unfold dec Lib.itoa
 rw[if_neg h]
theorem acZ {u:Nat} (h:u<18446744073709551616) (h1:1<=u):Lib.nDigits u<=20:=by
 obtain⟨n1,n2⟩:=Lib.numDigits_eq u h1 h
 split at n1<;>omega
theorem Uk (u:Nat):∀ b∈(Lib.decDigits u).map (·.toNat),b<256:=by
 intro b hb
 obtain⟨c,_,rfl⟩:=acI.1 hb
 exact c.toNat_lt
abbrev z24:List AV:=[(.int .u8 0),(.int .u8 0),(.int .u8 0),(.int .u8 0),(.int .u8 0),(.int .u8 0),(.int .u8 0),(.int .u8 0),(.int .u8 0),(.int .u8 0),(.int .u8 0),(.int .u8 0),(.int .u8 0),(.int .u8 0),(.int .u8 0),(.int .u8 0),(.int .u8 0),(.int .u8 0),(.int .u8 0),(.int .u8 0),(.int .u8 0),(.int .u8 0),(.int .u8 0),(.int .u8 0)]
theorem ag2 {n:Int} (h0 : -9223372036854775808<=n) (h1:n<=9223372036854775807) {H:Hp} (hg:Gl H):∃ H',cK (.func (.func 146) [] []) [.int .i64 n,.int .i64 10] H=some (.str (dec n),H')/\Out [] H H':=by
 by_cases hs:0<=n/\n<100
 ·obtain⟨m,rfl⟩:∃ m:Nat,n=m:=⟨n.toNat,by omega⟩
  refine⟨H,PE ?_,Out.refl _ _⟩
  unfold Hd
  have d1:decide ((0:Int)<=(m:Int))=true:=decide_eq_true (by omega)
  have d2:decide ((m:Int)<100)=true:=decide_eq_true hs.2
  simp only[d1,d2,agV (show m<100 by omega),aj,ai,simprocAttr]
 ·obtain⟨u,wm,rm,hu3⟩:∃ u:Nat,1<=u/\u<18446744073709551616/\u=n.natAbs:=⟨n.natAbs,by omega,by omega,rfl⟩
  have hd:=acZ rm wm
  have Uf:=Lib.nDigits_pos u
  have Q6:=Lib.lt_pow_nDigits u
  have ha:aL H z24 238 0=some (H.next,al H z24 238 0):=iy (by simp)
  have fy:=bD H z24 238 0
  have yq:=hg.aw (aN H z24 238 0)
  have gQ:=amL wm rm yq
  have oI:=Pn fy rfl (a:=1) (b:=1+Lib.nDigits u) (lo:=some (.int .i64 1)) (by omega) (by omega) (Bd.yes .i64 1 0)
  rw[adG] at oI
  obtain⟨H1,f1,f2,f3⟩:=aiF (cap:=24-1) (ex:=true) fy (by decide) Uf (off:=1) (by show 1+_<=24;omega) (by omega) rm Q6 (by intro v hv;refine⟨0,by omega,?_⟩;simp at hv;exact hv)
  have hlen:(iU z24 1 (nL u (Lib.nDigits u))).length=24:=by rw[Hm];rfl
  have fX:(nL u (Lib.nDigits u)).length=Lib.nDigits u:=by simp[nL]
  have e1:IntKind.wrap .i64 (1+(Lib.nDigits u:Int))=((1+Lib.nDigits u:Nat):Int):=by rw[wrap_i64 (by omega) (by omega)];omega
  have mq:Out [] H H1:=(aN H z24 238 0).then f3 fun j hj=>by rw[aan] at hj;exact .inr (by omega)
  have aoq:(decide ((0:Int)<=n)&&decide (n<100))=false:=by
   rw[Bool.and_eq_false_iff]
   by_cases q:0<=n
   ·right;exact decide_eq_false (by omega)
   ·left;exact decide_eq_false (by omega)
  by_cases hn:n<0
  ·have d1:decide ((0:Int)<=n)=false:=decide_eq_false (by omega)
   have d2:decide (n<0)=true:=decide_eq_true hn
   have e2:fW .neg (.int .u64 (IntKind.wrap .u64 n))=some (.int .u64 (u:Nat)):=by
    show some (AV.int .u64 (IntKind.wrap .u64 (0-IntKind.wrap .u64 n)))=_
    congr 2
    simp only[IntKind.wrap,IntKind.bits,IntKind.signed]
    simp
    omega
   have aD:=fR f2 (by decide) (o:=0) (by rw[hlen];decide) (v := .int .u8 45) rfl
   obtain⟨H2,w1,w2,w3,w4⟩:=aD
   have BW:=Pn w2 (by rw[acT];exact hlen) (a:=0) (b:=1+Lib.nDigits u) (lo:=none) (by omega) (by omega) (Bd.no 0)
   rw[afC,afC] at BW
   have rY:(((iU z24 1 (nL u (Lib.nDigits u))).set 0 (.int .u8 45)).take (1+Lib.nDigits u))=bs (dec n):=by
    rw[Vp hn,<-hu3]
    show _=AV.int .u8 (45:Nat)::bs _
    rw[<-TJ]
    apply agM
    intro k
    rw[afW]
    by_cases hk:k<1+Lib.nDigits u
    ·rw[if_pos hk,afp]
     by_cases Au:0=k
     ·subst Au
      rw[if_pos rfl,if_pos (by rw[hlen];decide)];rfl
     ·obtain⟨j,rfl⟩:∃ j,k=j+1:=⟨k-1,by omega⟩
      rw[if_neg Au,zG _ _ _ _ (by rw[fX];show 1+_<=24;omega),if_pos (by rw[fX];omega),Nat.add_sub_cancel,acM]
    ·rw[if_neg hk,afj (by rw[abx,fX];omega)]
   have GS:Rw H2 1 (.slice H.next 0 (1+Lib.nDigits u) 24 true 1) (bs (dec n)):=by
    rw[<-rY]
    exact .mk (w2.ro.take _) (by rw[adA,acT,hlen];omega) (by omega) rfl
   have iz:=XD GS (by
    rw[Vp hn]
    intro b hb
    rcases abn.1 hb with rfl | hb
    ·omega
    ·exact Uk _ b hb)
   refine⟨H2,PE ?_,mq.then w3 fun j hj=>by rw[aan] at hj;exact .inr (by omega)⟩
   unfold Hd
   have hir:nq 24 1 (.ptr H.next 0) (.int .i64 0)=some (.ptr H.next 0):=by unfold nq;simp
   simp only[d1,ha,d2,e2,gQ,e1,oI,f1,hir,w1,BW,iz,aj,ai,simprocAttr]
  ·obtain⟨m,rfl⟩:∃ m:Nat,n=m:=⟨n.toNat,by omega⟩
   have hum:u=m:=by omega
   subst hum
   have d1:decide ((0:Int)<=(u:Int))=true:=decide_eq_true (by omega)
   have d1':decide ((u:Int)<100)=false:=decide_eq_false (by omega)
   have d2:decide ((u:Int)<0)=false:=decide_eq_false hn
   have e2:IntKind.wrap .u64 (u:Int)=(u:Int):=am2 rfl (by show u<2 ^ 64;omega)
   have BW:=Pn f2 hlen (a:=1) (b:=1+Lib.nDigits u) (lo:=some (.int .i64 1)) (by omega) (by omega) (Bd.yes .i64 1 0)
   rw[adG] at BW
   have rY:(((iU z24 1 (nL u (Lib.nDigits u))).drop 1).take (Lib.nDigits u))=bs (dec (u:Int)):=by
    rw[XL hn,ab9,<-TJ]
    apply agM
    intro k
    rw[afW]
    by_cases hk:k<Lib.nDigits u
    ·rw[if_pos hk,aeA,zG _ _ _ _ (by rw[fX];show 1+_<=24;omega),if_pos (by rw[fX];omega),adG]
    ·rw[if_neg hk,afj (by rw[fX];omega)]
   have GS:Rw H1 1 (.slice H.next 1 (Lib.nDigits u) (24-1) true 1) (bs (dec (u:Int))):=by
    rw[<-rY]
    exact .mk ((f2.ro.drop 1 (by rw[hlen];decide)).take _) (by rw[adA,ae1,hlen];omega) (by omega) rfl
   have iz:=XD GS (by rw[XL hn];exact Uk _)
   refine⟨H1,PE ?_,mq⟩
   unfold Hd
   simp only[d1,d1',ha,d2,e2,gQ,e1,oI,f1,BW,iz,aj,ai,simprocAttr]
theorem Yp {n:Int} (h0 : -9223372036854775808<=n) (h1:n<=9223372036854775807) {H:Hp} (hg:Gl H):∃ H',cK (.func (.func 84) [] []) [.int .i64 n] H=some (.str (dec n),H')/\Out [] H H':=by
 obtain⟨H',h2,h3⟩:=ag2 h0 h1 hg
 refine⟨H',aob ?_,h3⟩
 unfold XX
 have:cK (.func (.func 111) [] []) [.int .i64 n] H=some (.str (dec n),H'):=by
  refine ac9 ?_
  unfold TT
  simp only[h2,aj,ai,simprocAttr]
 simp only[this,aj,ai,simprocAttr]
theorem agC {s:aq} (hs:s.length<=281474976710656) {H:Hp} (hg:Gl H):cK (.func (.func 173) [] []) [.str s] H=some (I6 s,H):=by
 refine wS (p:=Fq) (by kernel_rfl) ?_
 unfold Fq
 simp only
 rw[if_pos ⟨hg.err,hs⟩]
theorem ajk (i o n c:Nat) (ex:Bool) (es:Nat):same (.slice i o n c ex es) (.slice i o n c ex es)=true:=by simp[same,p9,afB]
theorem ajG (k:IntKind) (z:Int):same (.int k z) (.int k z)=true:=by simp[same,p9]
theorem ahC (i o n c:Nat) (ex:Bool) (es:Nat) (x:R):SM (.slice i o n c ex es) (.slice i o n c ex es) x=x:=nH (ajk ..)
theorem abb (k:IntKind) (z:Int) (x:R):SM (.int k z) (.int k z) x=x:=nH (ajG ..)
structure Bu (H:Hp) (p:Nat) (sl:AV) (l:aq):Prop where
 c:Cs H p [.ptr p 0,sl] 180 0
 o:Ow H 5 1 sl (bs l)
 ne:p∉ak sl
theorem akV (x:AV) (H:Hp):cK (.func (.func 168) [] []) [x] H=some (x,H):=
 J7 (k := .same) (by kernel_rfl) Tryz.func168 rfl (by kernel_rfl) rfl
theorem an8 {n:Nat} (hn:n<=1048576) (H:Hp):cK (.func (.func 169) [] []) [.int .i64 n] H=some (.slice H.next 0 n n false 1,al H (List.replicate n .du) 5 0):=by
 refine J7 (k := .Fw 52) (by kernel_rfl) Tryz.func169 rfl (by kernel_rfl) ?_
 have hu:P.underlying 52=some (.slice 5):=Tryz.underlying52
 unfold Cm
 simp only[hu]
 rw[if_pos ⟨by omega,by omega⟩,ab9,iy (by rw[ad6];omega)]
 rfl
theorem ad9 {H:Hp} {p:Nat} {l:List AV} {el fl:Nat} (h:Cs H p l el fl) (hl:0<l.length):jr P 178 242 (.ptr p 0) H=some (.ptr p 0,H):=by
 have h1:P.underlying 178=some (.pointer 180):=Tryz.underlying178
 have h2:P.underlying 242=some .unsafePointer:=Tryz.underlying242
 have h3:xJ P 180=true:=by kernel_rfl
 have h4:=h.cellAt (aaM hl)
 unfold jr
 simp only[h1,h2,h3,h4,ae8,Bool.and_self,cond_true]
theorem af2 {H:Hp} {p:Nat} {a b:AV} (h:Cs H p [a,b] 180 0):jr P 242 178 (.ptr p 0) H=some (.ptr p 0,H):=by
 have h1:P.underlying 178=some (.pointer 180):=Tryz.underlying178
 have h2:P.underlying 242=some .unsafePointer:=Tryz.underlying242
 have h3:P.cellsOf 180=2:=by kernel_rfl
 have h4:=h.cellAt (o:=1) (v:=b) rfl
 obtain⟨_,c,hc,_⟩:=h
 unfold jr
 simp only[h1,h2,hc,h3,Nat.reduceSub,h4]
 rfl
theorem ahm {H:Hp} {p:Nat} (h:Cs H p [.fB,.ah] 180 0):∃ H',cK (.func (.func 147) [] []) [.ptr p 0] H=some (.tuple [],H')/\Cs H' p [.ptr p 0,.ah] 180 0/\Out [p] H H'/\H'.next=H.next:=by
 obtain⟨H',w1,w2,w3,w4⟩:=fR h (by decide) (o:=0) (by decide) (v := .ptr p 0) rfl
 refine⟨H',YB ?_,w2,w3,w4⟩
 unfold Mk
 have h1:=h.ld (o:=0) (v := .fB) rfl
 simp only[adx,h1,ad9 h (by decide),akV,af2 h,w1,aj,ai,Int.reduceBEq,Int.reduceBNe,Int.reduceLT,Int.reduceLE,Int.reduceGT,Int.reduceGE,Int.reduceNeg]
theorem amO (p o:Nat) (H:Hp):pe (.ptr p o) (.ptr p o) H=some true:=by
 unfold pe
 simp[afB]
theorem akK {H:Hp} {p:Nat} {sl:AV} {l:aq} (h:Bu H p sl l):cK (.func (.func 147) [] []) [.ptr p 0] H=some (.tuple [],H):=by
 refine YB ?_
 unfold Mk
 have h1:=h.c.ld (o:=0) (v := .ptr p 0) rfl
 simp only[adx,h1,amO,aj,ai,Int.reduceBEq,Int.reduceBNe,Int.reduceLT,Int.reduceLE,Int.reduceGT,Int.reduceGE,Int.reduceNeg]
theorem ack {H:Hp} {n el:Nat} (hn:0<n):Ow (al H (List.replicate n .du) el 0) el 1 (.slice H.next 0 0 n false 1) []:=by
 have fy:=bD H (List.replicate n .du) el 0
 obtain⟨hi,c,hc,hg⟩:=fy
 refine .mk hi hc (by decide) (abe _) (by rw[ad6];omega) (ab2 _) (by simp) (fun k v hk=>by simp at hk) (fun k hk => ?_) (fun v hv=>by cases hv) rfl
 rw[adt,hg k .du (by rw[ahe,if_pos (by omega)])];rfl
theorem aiX {H:Hp} {p n:Nat} (lq:0<n) (hn:n<=1000000) (h:Cs H p [.fB,.ah] 180 0):∃ sl H',cK (.func (.func 112) [] []) [.ptr p 0,.int .i64 n] H=some (.tuple [],H')/\Bu H' p sl []/\Out [p] H H'/\∀ j∈ak sl,H.next<=j:=by
 obtain⟨H1,c1,c2,c3,c4⟩:=ahm h
 have hu:P.underlying 52=some (.slice 5):=Tryz.underlying52
 have ic:∀ H:Hp,gI P .cap #[52] [.ah] H=some (.int .i64 0,H):=fun H=>by
  unfold gI
  simp only
  unfold I9
  simp only[hu,adO,acP,acx]
  rfl
 have l1:=c2.ld (o:=1) (v := .ah) rfl
 have e1:IntKind.wrap .i64 (0+(n:Int))=(n:Int):=by rw[wrap_i64 (by omega) (by omega)];omega
 have e0:IntKind.wrap .i64 (2*0)=0:=by rw[wrap_i64 (by omega) (by omega)];omega
 have e2:IntKind.wrap .i64 (0-0)=0:=by rw[wrap_i64 (by omega) (by omega)];omega
 have hm:=an8 (show n<=1048576 by omega) H1
 have Sd:=aN H1 (List.replicate n .du) 5 0
 have zY:=c2.out Sd (by simp)
 have l1':=zY.ld (o:=1) (v := .ah) rfl
 have oI:pM 1 (.slice H1.next 0 n n false 1) none (some (.int .i64 0)) none=some (.slice H1.next 0 0 n false 1):=by
  unfold pM
  have:=yK (len:=n) (cap:=n) (a:=0) (b:=0) (lo:=none) (hi:=some (.int .i64 0)) (abe _) (ab2 _) (abe _) (Bd.no 0) (Bd.ag9 .i64 _)
  simp only[this]
  simp
 have hcp:∀ H:Hp,Bp 1 (.slice H1.next 0 0 n false 1) .ah H=some (.int .i64 0,H):=fun H=>by unfold Bp;simp[JU]
 obtain⟨H2,w1,w2,w3,w4⟩:=fR zY (by decide) (o:=1) (by simp) (v := .slice H1.next 0 0 n false 1) rfl
 have hg:cK (.func (.func 148) [] []) [.ptr p 0,.int .i64 n] H1=some (.tuple [],H2):=by
  refine alr ?_
  unfold Xn
  have ud:∀ x:R,SM .ah .ah x=x:=fun x=>nH rfl
  simp only[l1,ic,e0,e1,hm,l1',oI,ud,abb,hcp,w1,aj,ai,Int.reduceBEq,Int.reduceBNe,Int.reduceLT,Int.reduceLE,Int.reduceGT,Int.reduceGE,Int.reduceNeg]
 have aQ:p<H1.next:=by rw[c4];exact h.1
 refine⟨.slice H1.next 0 0 n false 1,H2,ajI ?_,⟨w2,(ack lq).out w3 (fun j hj=>by
  rw[mr (by rfl),aan] at hj
  rw[aan];omega),by rw[mr (by rfl),aan];omega⟩,(c3.trans (Sd.mono (S':=[p]) (fun j hj=>by cases hj))).trans w3,fun j hj=>by rw[mr (by rfl),aan] at hj;omega⟩
 unfold RX
 have d1:decide ((n:Int)<0)=false:=decide_eq_false (by omega)
 have d2:decide ((0:Int)<(n:Int))=true:=decide_eq_true (by omega)
 simp only[c1,d1,l1,ic,e2,d2,hg,aj,ai,Int.reduceBEq,Int.reduceBNe,Int.reduceLT,Int.reduceLE,Int.reduceGT,Int.reduceGE,Int.reduceNeg]
theorem N9 {H:Hp} {p:Nat} {sl:AV} {l s:aq} (h:Bu H p sl l) (hl:l.length+s.length<=16777216):∃ tt H',cK (.func (.func 113) [] []) [.ptr p 0,.str s] H=some (.tuple [.int .i64 s.length,.nilIface],H')/\Bu H' p tt (l++s)/\Out (p::ak sl) H H'/\∀ j∈ak tt,j∈ak sl\/H.next<=j:=by
 obtain⟨tt,H1,a1,a2,a3,a4⟩:=Jj (n:=s.length) (new:=bs s) h.o (by rw[BE,aeu]) (amj s) (by decide) (by rw[BE,BE];exact hl)
 have HY:gC 5 1 [(.int .u8 0)] false sl (.str s) H=some (tt,H1):=by
  unfold gC
  have:Bc 1 [(.int .u8 0)] false (.str s) H=some (s.length,bs s):=by unfold Bc;simp[bs]
  rw[this];exact a1
 have ye:=h.c.out a3 h.ne
 obtain⟨H2,w1,w2,w3,w4⟩:=fR ye (by decide) (o:=1) (by simp) (v:=tt) a2.kf
 have aH:p∉ak tt:=fun q=>(a4 p q).elim h.ne fun q=>by have:=h.c.1;omega
 refine⟨tt,H2,ail ?_,⟨w2,by rw[aj6];exact a2.out w3 (fun j hj=>by rw[aan];intro e;subst e;exact aH hj),aH⟩,?_,a4⟩
 ·unfold Z9
  have l1:=h.c.ld (o:=1) (v:=sl) rfl
  simp only[akK h,l1,HY,w1,aj,ai,Int.reduceBEq,Int.reduceBNe,Int.reduceLT,Int.reduceLE,Int.reduceGT,Int.reduceGE,Int.reduceNeg]
 ·exact (a3.mono fun j hj => .tail _ hj).trans (w3.mono fun j hj=>by rw[aan] at hj;subst hj;exact .head _)
theorem abq {H:Hp} {p:Nat} {sl:AV} {l:aq} (h:Bu H p sl l) (h0:0<l.length) (hl:l.length<16777216) (hb:∀ b∈l,b<256):∃ H',cK (.func (.func 114) [] []) [.ptr p 0] H=some (.str l,H')/\Out (ak sl) H H':=by
 have l1:=h.c.ld (o:=1) (v:=sl) rfl
 have ho:=h.o
 have aH:=h.ne
 generalize lu:bs l=cs at ho
 cases ho with
 | nil=>
  have:l=[]:=by simpa[bs] using lu
  subst this;simp at h0
 | emp=>
  have:l=[]:=by simpa[bs] using lu
  subst this;simp at h0
 | @mk i off n cap ex _ c lo hi fl jh hg hf gY jA ic hn ik hs h1 he=>
  subst lu
  rw[BE,aeu] at hn
  have Gf:Ro H i off (bs l):=⟨jh,c,lo,hi,5,fl,hg,gY,by rw[BE];omega,ik⟩
  have Gr:=Gf.av
  rw[BE,hn] at Gr
  rw[mr he,aan] at aH
  have hx:((av H i off n).bind uE)=some l:=by rw[Gr];exact LL l hb
  refine⟨{ H with h:=H.h.bX i (.cells c lo hi 5 2) },anK ?_,⟨abe _,fun j hj yb => ?_⟩⟩
  ·unfold Yv
   have b1:gI P .unsafeSliceData #[52] [.slice i off n cap ex 1] H=some (.ptr i off,H):=by
    unfold gI
    have:Nat.blt 0 n=true:=by rw[adq];omega
    simp only[this,cond_true]
   have b2:gI P .unsafeString #[222,3] [.ptr i off,.int .i64 (n:Nat)] H=some (.str l,{ H with h:=H.h.bX i (.cells c lo hi 5 2) }):=by
    have hu:P.underlying 222=some (.pointer 5):=Tryz.underlying222
    have ye:P.cellsOf 5=1:=by kernel_rfl
    unfold gI
    simp only
    unfold Kz
    simp only[hu]
    rw[if_neg (by omega)]
    simp only[hg]
    rw[if_pos ⟨trivial,ye,by omega,by omega,hf⟩,ab9,hx]
    rfl
   simp only[l1,b1,b2,ahC,abb,aj,ai,Int.reduceBEq,Int.reduceBNe,Int.reduceLT,Int.reduceLE,Int.reduceGT,Int.reduceGE,Int.reduceNeg]
  ·rw[mr he,aan] at yb
   show (Tr.bX H.h i _).get j=_
   rw[Tr.bX,Tr.fj,if_neg yb]
def pG (sep:aq):List aq->aq
 | []=>[]
 | a::l=>sep++a++pG sep l
def vS (sep:aq):List aq->aq
 | []=>[]
 | a::l=>a++pG sep l
theorem VY (c:Nat):∀ l:List aq,vS [c] l=ju c l
 | []=>rfl
 | [a]=>by simp[vS,pG,ju]
 | a::b::l=>by
  have:=VY c (b::l)
  show a++([c]++b++pG [c] l)=a++c::ju c (b::l)
  rw[<-this]
  simp[vS]
def dB (l:List aq):Nat:=(l.map List.length).sum
theorem MK (sep:aq):∀ l,(pG sep l).length=sep.length*l.length+dB l
 | []=>by simp[pG,dB]
 | a::l=>by
  have:=MK sep l
  simp only[pG,aby,this,abx,Nat.mul_add,aeu,dB,acJ,List.sum_cons]
  omega
theorem Yz {x:AV} {l:List aq} {H:Hp} (hx:Rw H 1 x (strs l)) (hl:l.length<=1000) (hb:∀ s∈l,s.length<=100000) (k:K.Fn 3) (y z:AV):∀ (r:List aq) (i acc:Nat),i<=l.length->l.drop i=r->acc<=1000000+i*100000->
  DY JN GO cK k y z (.int .i64 acc) x (.int .i64 (l.length:Nat)) (.int .i64 (i:Nat)) H=k y z (.int .i64 ((acc+dB r:Nat):Int)) H
 | [],i,acc,hi,h,ha=>by
  obtain rfl:=drop_nil hi h
  rw[Xw]
  simp only[KU,fw,dB,List.map_nil,List.sum_nil,adx,aj,ai,Int.reduceBEq,Int.reduceBNe,Int.reduceLT,Int.reduceLE,Int.reduceGT,Int.reduceGE,Int.reduceNeg]
 | a::r,i,acc,hi,h,ha=>by
  obtain⟨h1,h2,h3⟩:=fC h
  obtain⟨q,q1,q2⟩:=hx.jy (tB h2) .i64
  have e:=fF h1 (by omega)
  have dq:=hb a (aa2 h2)
  have ahw:acc+a.length<=1000000+(i+1)*100000:=by omega
  have ih:=Yz hx hl hb k y z r (i+1) (acc+a.length) h1 h3 ahw
  have e1:IntKind.wrap .i64 (9223372036854775807-(acc:Int))=9223372036854775807-(acc:Int):=wrap_i64 (by omega) (by omega)
  have d:decide (9223372036854775807-(acc:Int)<(a.length:Int))=false:=decide_eq_false (by omega)
  have e2:IntKind.wrap .i64 ((acc:Int)+(a.length:Int))=((acc+a.length:Nat):Int):=by rw[wrap_i64 (by omega) (by omega)];rfl
  have e3:acc+dB (a::r)=acc+a.length+dB r:=by simp[dB];omega
  rw[Xw,e3]
  simp only[KU,bN h1,q1,q2,e1,d,e2,e,ih,aj,ai,Int.reduceBEq,Int.reduceBNe,Int.reduceLT,Int.reduceLE,Int.reduceGT,Int.reduceGE,Int.reduceNeg]
theorem Sz {sep:aq} {x:AV} {l:List aq} {p:Nat} {H0:Hp} (hx:Rw H0 1 x (strs l)) (hl:l.length<=1000):∀ (r:List aq) (i:Nat) (H:Hp) (sl:AV) (acc:aq),i<=l.length->l.drop i=r->Rw H 1 x (strs l)->Bu H p sl acc->(∀ j∈ak x,j≠p/\j∉ak sl)->acc.length+(pG sep r).length<=16777216->
  ∃ tt H',(∀ k:K.Fn 1,Fb JN GO cK k (.str sep) (.ptr p 0) x (.int .i64 (l.length:Nat)) (.int .i64 (i:Nat)) H=k (.ptr p 0) H')/\Bu H' p tt (acc++pG sep r)/\Out (p::ak sl) H H'/\∀ j∈ak tt,j∈ak sl\/H.next<=j
 | [],i,H,sl,acc,hi,h,iO,hB,hd,hlen=>by
  obtain rfl:=drop_nil hi h
  refine⟨sl,H,fun k => ?_,by simpa[pG] using hB,Out.refl _ _,fun j hj => .inl hj⟩
  rw[Vt]
  simp only[L6,fw,aj,ai,Int.reduceBEq,Int.reduceBNe,Int.reduceLT,Int.reduceLE,Int.reduceGT,Int.reduceGE,Int.reduceNeg]
 | a::r,i,H,sl,acc,hi,h,iO,hB,hd,hlen=>by
  obtain⟨h1,h2,h3⟩:=fC h
  obtain⟨q,q1,q2⟩:=iO.jy (tB h2) .i64
  have e:=fF h1 (by omega)
  simp only[pG,aby] at hlen
  obtain⟨sl1,H1,a1,a2,a3,a4⟩:=N9 (s:=sep) hB (by omega)
  obtain⟨Ds,H2,b1,b2,b3,b4⟩:=N9 (s:=a) a2 (by rw[aby];omega)
  have aQ:=iO.lt
  have gr:∀ j∈ak x,j≠p/\j∉ak sl1:=fun j hj=>⟨(hd j hj).1,fun q=>(a4 j q).elim (hd j hj).2 fun q=>by have:=aQ j hj;omega⟩
  have kg:=a3.nx
  have qg:∀ j∈ak x,j≠p/\j∉ak Ds:=fun j hj=>⟨(hd j hj).1,fun q=>(b4 j q).elim (gr j hj).2 fun q=>by have:=aQ j hj;omega⟩
  have kR:=iO.out a3 fun j hj=>by rw[abn,not_or];exact hd j hj
  have nQ:=kR.out b3 fun j hj=>by rw[abn,not_or];exact gr j hj
  obtain⟨tt,H',i1,i2,i3,i4⟩:=Sz (sep:=sep) hx hl r (i+1) H2 Ds (acc++sep++a) h1 h3 nQ b2 qg (by simp only[aby];omega)
  have o2:Out (p::ak sl) H H2:=a3.then b3 fun j hj=>by
   rcases abn.1 hj with rfl | hj
   ·exact .inl (.head _)
   ·exact (a4 j hj).imp (fun q => .tail _ q) id
  have n2:∀ j∈ak Ds,j∈ak sl\/H.next<=j:=fun j hj=>(b4 j hj).elim (fun q=>a4 j q) fun q => .inr (by omega)
  refine⟨tt,H',fun k => ?_,by rw[pG];simpa[aea] using i2,o2.then i3 fun j hj => ?_,fun j hj=>(i4 j hj).elim (n2 j) fun q => .inr (by have:=o2.nx;omega)⟩
  ·rw[Vt]
   simp only[L6,bN h1,q1,q2,a1,b1,e,i1,aj,ai,Int.reduceBEq,Int.reduceBNe,Int.reduceLT,Int.reduceLE,Int.reduceGT,Int.reduceGE,Int.reduceNeg]
  ·rcases abn.1 hj with rfl | hj
   ·exact .inl (.head _)
   ·exact (n2 j hj).imp (fun q => .tail _ q) id
theorem aj9 (sep:aq) (l:List aq) (h:0<l.length):(vS sep l).length=sep.length*(l.length-1)+dB l:=by
 cases l with
 | nil=>simp at h
 | cons a l=>simp only[vS,aby,MK,abx,dB,acJ,List.sum_cons,Nat.add_sub_cancel];omega
theorem aj8 {sep:aq} (sV:sep.length=1) {x:AV} {l:List aq} {H:Hp} (hx:Rw H 1 x (strs l)) (hl:l.length<=200) (hb:∀ s∈l,s.length<=100000) (qT:dB l<=900000) (my:∀ s∈sep::l,∀ b∈s,b<256) :
  ∃ H',cK (.func (.func 85) [] []) [x,.str sep] H=some (.str (vS sep l),H')/\Out [] H H':=by
 have eC:=hx.kC
 rw[iP] at eC
 match l,hx,hl,hb,qT,my,eC with
 | [],hx,hl,hb,qT,my,eC=>
  refine⟨H,LV ?_,Out.refl _ _⟩
  unfold Gz
  simp only[acm,Int.natCast_zero] at eC
  simp only[eC,vS,aj,ai,Int.reduceBEq,Int.reduceBNe,Int.reduceLT,Int.reduceLE,Int.reduceGT,Int.reduceGE,Int.reduceNeg]
 | [a],hx,hl,hb,qT,my,eC=>
  obtain⟨q,q1,q2⟩:=hx.jy (i:=0) (v := .str a) rfl .i64
  refine⟨H,LV ?_,Out.refl _ _⟩
  unfold Gz
  simp only[abx,acm,adt,Int.natCast_one] at eC
  rw[show (((0:Nat):Int))=0 from rfl] at q1
  simp only[eC,q1,q2,vS,pG,agh,aj,ai,Int.reduceBEq,Int.reduceBNe,Int.reduceLT,Int.reduceLE,Int.reduceGT,Int.reduceGE,Int.reduceNeg]
 | a::b::l,hx,hl,hb,qT,my,eC=>
  generalize hm:a::b::l=L at *
  have hL2:2<=L.length:=by rw[<-hm];simp
  have Vi:L[0]? = some a:=by rw[<-hm];rfl
  obtain⟨q,q1,q2⟩:=hx.jy (tB Vi) .i64
  rw[show (((0:Nat):Int))=0 from rfl] at q1
  have d1:(((L.length:Nat):Int)==0)=false:=beq_false_of_ne (by omega)
  have d2:(((L.length:Nat):Int)==1)=false:=beq_false_of_ne (by omega)
  have e1:IntKind.wrap .i64 (((L.length:Nat):Int)-1)=((L.length-1:Nat):Int):=by rw[wrap_i64 (by omega) (by omega)];omega
  have e2:AE (.int .i64 9223372036854775807) (.int .i64 ((L.length-1:Nat):Int))=some (.int .i64 (9223372036854775807 / ((L.length-1:Nat):Int))):=by
   rw[adF _ _ _ (by omega),Int.tdiv_eq_ediv_of_nonneg (by omega)]
   congr 2
   rw[wrap_i64]
   ·have:0<=9223372036854775807 / ((L.length-1:Nat):Int):=Int.ediv_nonneg (by omega) (by omega)
    omega
   ·exact Int.le_trans (Int.ediv_le_self _ (by omega)) (Int.le_refl _)
  have hq:(200:Int)<=9223372036854775807 / ((L.length-1:Nat):Int):=by
   rw[Int.le_ediv_iff_mul_le (by omega)]
   omega
  have d3:decide (9223372036854775807 / ((L.length-1:Nat):Int)<=((1:Nat):Int))=false:=decide_eq_false (by omega)
  have e3:IntKind.wrap .i64 (((1:Nat):Int)*((L.length-1:Nat):Int))=((L.length-1:Nat):Int):=by rw[wrap_i64 (by omega) (by omega)];omega
  have e4:IntKind.wrap .i64 (0+((L.length-1:Nat):Int))=((L.length-1:Nat):Int):=by rw[wrap_i64 (by omega) (by omega)];omega
  have i1:=fun k=>Yz hx (by omega) hb k x (.str sep) L 0 (L.length-1) (ab2 _) abJ (by omega)
  rw[show (((0:Nat):Int))=0 from rfl] at i1
  have iv:aL H [.fB,.ah] 180 0=some (H.next,al H [.fB,.ah] 180 0):=iy (by simp)
  have ho:=aN H [.fB,.ah] 180 0
  obtain⟨sl,H1,g1,g2,g3,g4⟩:=aiX (n:=L.length-1+dB L) (by omega) (by omega) (bD H [.fB,.ah] 180 0)
  have aQ:=hx.lt
  have kR:=(hx.aw ho).out g3 fun j hj=>by rw[aan];have:=aQ j hj;omega
  obtain⟨q',Yo,q2'⟩:=kR.jy (tB Vi) .i64
  rw[show (((0:Nat):Int))=0 from rfl] at Yo
  have dq:a.length<=dB L:=by rw[<-hm];simp[dB]
  obtain⟨Ds,H2,b1,b2,b3,b4⟩:=N9 (s:=a) g2 (by simp;omega)
  rw[ahr] at b2
  have nQ:=kR.out b3 fun j hj=>by
   rw[abn,not_or]
   exact⟨by have:=aQ j hj;omega,fun q=>by have:=g4 j q;have:=aQ j hj;rw[cj] at *;omega⟩
  have qc:=Ft nQ (n:=L.length) (by rw[iP,aeu]) (by decide) (a:=1) (b:=L.length) (lo:=some (.int .i64 1)) (hi:=none) (by omega) (abe _) (Bd.yes .i64 1 0) (Bd.no _)
  obtain⟨x',x1,x2,x3⟩:=qc
  have ze:(((strs L).drop (1*1)).take ((L.length-1)*1))=strs (b::l):=by rw[<-hm,aeu,aeu];exact aer (by simp[strs])
  rw[ze] at x2
  have Xb:=x2.kC
  rw[iP] at Xb
  have hJ:(b::l).length<=1000:=by rw[<-hm] at hl;simp only[abx] at *;omega
  have kg:=g3.nx
  rw[cj] at kg
  have qj:sep.length*(b::l).length+dB (b::l)<=1000000:=by
   rw[sV,ahd]
   rw[<-hm] at qT hl
   simp only[dB,acJ,List.sum_cons,abx] at *
   omega
  obtain⟨sl3,H3,c1,c2,c3,c4⟩:=Sz (sep:=sep) x2 hJ (b::l) 0 H2 Ds a (ab2 _) abJ x2 b2 (fun j hj=>by
   have hj:=aQ j (x3 j hj)
   exact⟨by omega,fun q=>(b4 j q).elim (fun q=>by have:=g4 j q;rw[cj] at this;omega) fun q=>by omega⟩) (by rw[MK];omega)
  have Aj:a++pG sep (b::l)=vS sep L:=by rw[<-hm];rfl
  rw[Aj] at c2
  have gE:=aj9 sep L (by omega)
  rw[sV,ahd] at gE
  have ah9:∀ c∈vS sep L,c<256:=by
   have key:∀ l:List aq,(∀ s∈l,∀ b∈s,b<256)->∀ c∈pG sep l,c<256:=by
    intro l
    induction l with
    | nil=>intro _ c hc;cases hc
    | cons s l ih=>
     intro h c hc
     simp only[pG,abP] at hc
     rcases hc with (hc | hc) | hc
     ·exact my sep (.head _) c hc
     ·exact h s (.head _) c hc
     ·exact ih (fun s hs=>h s (.tail _ hs)) c hc
   intro c hc
   rw[<-Aj,abP] at hc
   have pj:∀ s∈a::b::l,∀ b∈s,b<256:=fun s hs=>my s (.tail _ (by rw[<-hm];exact hs))
   rcases hc with hc | hc
   ·exact pj a (.head _) c hc
   ·exact key _ (fun s hs=>pj s (.tail _ hs)) c hc
  obtain⟨H4,s1,s2⟩:=abq c2 (by omega) (by omega) ah9
  have n2:=b3.nx
  have n3:=c3.nx
  have nZ:∀ j∈ak Ds,H.next<=j:=fun j hj=>(b4 j hj).elim (fun q=>by have:=g4 j q;rw[cj] at this;omega) fun q=>by omega
  have Qt:∀ j∈ak sl3,H.next<=j:=fun j hj=>(c4 j hj).elim (nZ j) fun q=>by omega
  have o1:Out [] H H1:=ho.then g3 fun j hj=>by rw[aan] at hj;exact .inr (by omega)
  have o2:Out [] H H2:=o1.then b3 fun j hj=>by
   rcases abn.1 hj with rfl | hj
   ·exact .inr (by omega)
   ·have:=g4 j hj;rw[cj] at this;exact .inr (by omega)
  have o3:Out [] H H3:=o2.then c3 fun j hj=>by
   rcases abn.1 hj with rfl | hj
   ·exact .inr (by omega)
   ·exact .inr (nZ j hj)
  refine⟨H4,LV ?_,o3.then s2 fun j hj => .inr (Qt j hj)⟩
  unfold Gz
  have e5:((L.length-1+dB L:Nat):Int)=((L.length-1+dB L:Nat):Int):=rfl
  rw[show (((0:Nat):Int))=0 from rfl] at c1
  have d4:decide ((0:Int)<((1:Nat):Int))=true:=rfl
  simp only[eC,d1,d2,sV,d4,e1,e2,d3,e3,e4,i1,iv,g1,Yo,q2',b1,x1,Xb,c1,s1,ge_iff_le,aj,ai,Int.reduceBEq,Int.reduceBNe,Int.reduceLT,Int.reduceLE,Int.reduceGT,Int.reduceGE,Int.reduceNeg]
end Go.Proofs.YtodfajmihkagnaaGreatDoor.DfK
namespace Go.Proofs.YtodfajmihkagnaaGreatDoor.qz
theorem countP_le {p q:Nat->Bool} (h:∀ x,p x=true->q x=true) (l:List Nat):l.countP p<=l.countP q:=
 List.countP_mono_left fun x _ hx=>h x hx
theorem Lt {p q:Nat->Bool} (h:∀ x,p x=true->q x=true) {a:Nat} (hq:q a=true) (hp:p a=false):∀ l:List Nat,a∈l->l.countP p<l.countP q
 | [],hm=>by cases hm
 | b::l,hm=>by
  rw[ahz,ahz]
  have hle:=countP_le h l
  rcases abn.1 hm with rfl | hm
  ·rw[hq,hp];simp;omega
  ·have aQ:=Lt h hq hp l hm
   cases hpb:p b with
   | true=>rw[h b hpb];simp;omega
   | false=>cases q b<;>simp<;>omega
section
variable (sc:Nat->List Nat)
def rH (steps:Nat) (s:List Nat × List Nat) (b:Nat):List Nat × List Nat:=if s.1[b]? = some 0 then (s.1.set b steps,s.2++[b]) else s
def qq (steps:Nat) (bs:List Nat) (s:List Nat × List Nat):List Nat × List Nat:=bs.foldl (rH steps) s
def sL (steps:Nat) (l:List Nat) (s:List Nat × List Nat):List Nat × List Nat:=l.foldl (fun s a=>qq steps (sc a) s) s
def tY:Nat->List Nat->List Nat->Nat->List Nat
 | 0,_,out,_=>out
 | f+1,l,out,steps=>if l=[] then out else tY f (sL sc steps l (out,[])).2 (sL sc steps l (out,[])).1 (steps+1)
def far (N n:Nat):List Nat:=tY sc (N+1) [n] (List.replicate N 0) 1
end
def eY (l:List Nat):Nat:=l.countP (· == 0)
def V (out:List Nat) (b:Nat):Bool:=match out[b]? with | some (_+1)=>true | _=>false
theorem JV {out:List Nat} {b steps c:Nat} (h:out[b]? = some 0) (hs:0<steps):V (out.set b steps) c=(V out c||c==b):=by
 unfold V
 have hb:=(aaK.1 h).1
 rw[afp]
 by_cases hc:b=c
 ·subst hc
  rw[if_pos rfl,if_pos hb]
  obtain⟨k,rfl⟩:∃ k,steps=k+1:=⟨steps-1,by omega⟩
  simp
 ·rw[if_neg hc]
  have:(c==b)=false:=by simp;exact fun q=>hc q.symm
  rw[this,Bool.or_false]
theorem am9 {out:List Nat} {b steps:Nat} (h:out[b]? = some 0) (hs:0<steps):eY (out.set b steps)+1=eY out:=by
 unfold eY
 induction out generalizing b with
 | nil=>simp at h
 | cons a l ih=>
  cases b with
  | zero=>
   simp only[acP,acu] at h
   subst h
   rw[List.set_cons_zero,ahz,ahz]
   have:(steps==0)=false:=by simp;omega
   rw[this];simp
  | succ b=>
   simp only[acM] at h
   rw[List.set_cons_succ,ahz,ahz]
   have:=ih h
   omega
structure Step (s s':List Nat × List Nat) (bs:Nat->Prop):Prop where
 len:s'.1.length=s.1.length
 Bg:eY s'.1+s'.2.length=eY s.1+s.2.length
 mono:∀ c,V s.1 c=true->V s'.1 c=true
 sD:∀ c∈s.2,c∈s'.2
 new:∀ c,V s'.1 c=true->V s.1 c=true\/(bs c/\c∈s'.2)
 Fv:∀ c∈s'.2,c∈s.2\/(bs c/\V s'.1 c=true)
 all:∀ c,bs c->c<s.1.length->V s'.1 c=true
theorem Step.refl (s:List Nat × List Nat):Step s s (fun _=>False):=⟨rfl,rfl,fun _ h=>h,fun _ h=>h,fun _ h => .inl h,fun _ h => .inl h,fun _ h=>h.elim⟩
theorem Step.trans {s s' UC:List Nat × List Nat} {p q:Nat->Prop} (h:Step s s' p) (k:Step s' UC q):Step s UC (fun c=>p c\/q c) where
 len:=k.len.trans h.len
 Bg:=k.Bg.trans h.Bg
 mono:=fun c hc=>k.mono c (h.mono c hc)
 sD:=fun c hc=>k.sD c (h.sD c hc)
 new:=fun c hc=>(k.new c hc).elim (fun a=>(h.new c a).imp id fun b=>⟨.inl b.1,k.sD c b.2⟩) (fun a => .inr ⟨.inr a.1,a.2⟩)
 Fv:=fun c hc=>(k.Fv c hc).elim (fun a=>(h.Fv c a).imp id fun b=>⟨.inl b.1,k.mono c b.2⟩) (fun a => .inr ⟨.inr a.1,a.2⟩)
 all:=fun c hc hl=>hc.elim (fun a=>k.mono c (h.all c a hl)) (fun a=>k.all c a (by rw[h.len];exact hl))
theorem Step.congr {s s':List Nat × List Nat} {p q:Nat->Prop} (h:Step s s' p) (AT:∀ c,p c↔q c):Step s s' q:=
 ⟨h.len,h.Bg,h.mono,h.sD,fun c hc=>(h.new c hc).imp id fun b=>⟨(AT c).1 b.1,b.2⟩,fun c hc=>(h.Fv c hc).imp id fun b=>⟨(AT c).1 b.1,b.2⟩,fun c hc hl=>h.all c ((AT c).2 hc) hl⟩
theorem adN {out:List Nat} {b:Nat} (hb:b<out.length) (h:out[b]? ≠ some 0):V out b=true:=by
 unfold V
 rw[aaM hb] at h ⊢
 cases hx:out[b] with
 | zero=>rw[hx] at h;exact absurd rfl h
 | succ k=>rfl
theorem aeL {steps:Nat} (hs:0<steps) (s:List Nat × List Nat) (b:Nat):Step s (rH steps s b) (fun c=>c=b):=by
 unfold rH
 split
 ·rename_i h
  have hz:=am9 h hs
  refine⟨acT,by simp;omega,fun c hc => ?_,fun c hc=>abG _ hc,fun c hc => ?_,fun c hc => ?_,fun c hc hl => ?_⟩
  ·rw[JV h hs,hc];rfl
  ·rw[JV h hs,af0] at hc
   refine hc.imp id fun q => ?_
   have q:c=b:=by simpa using q
   exact⟨q,by subst q;simp⟩
  ·rcases abP.1 hc with hc | hc
   ·exact .inl hc
   ·rw[aan] at hc
    subst hc
    exact .inr ⟨rfl,by rw[JV h hs];simp⟩
  ·subst hc;rw[JV h hs];simp
 ·rename_i h
  exact⟨rfl,rfl,fun _ h=>h,fun _ h=>h,fun _ h => .inl h,fun _ h => .inl h,fun c hc hl=>by subst hc;exact adN hl h⟩
theorem NQ {steps:Nat} (hs:0<steps):∀ (bs:List Nat) (s:List Nat × List Nat),Step s (qq steps bs s) (fun c=>c∈bs)
 | [],s=>(Step.refl s).congr fun c=>by simp
 | b::bs,s=>((aeL hs s b).trans (NQ hs bs _)).congr fun c=>by simp
theorem Lb {sc:Nat->List Nat} {steps:Nat} (hs:0<steps):∀ (l:List Nat) (s:List Nat × List Nat),Step s (sL sc steps l s) (fun c=>∃ a∈l,c∈sc a)
 | [],s=>(Step.refl s).congr fun c=>by simp
 | a::l,s=>((NQ hs (sc a) s).trans (Lb hs l _)).congr fun c=>by simp
theorem aaR {sc:Nat->List Nat} {N n:Nat} (hN:∀ a,∀ b∈sc a,b<N) {C:Nat->Prop} (FD:∀ b∈sc n,C b) (hC:∀ a,C a->∀ b∈sc a,C b) :
  ∀ (f:Nat) (l out:List Nat) (steps:Nat),0<steps->out.length=N->(l=[]\/eY out<f)->(∀ a,(a=n\/V out a=true)->a∈l\/∀ b∈sc a,V out b=true)->
   (∀ a∈l,a=n\/C a)->(∀ a,V out a=true->C a)->
   (tY sc f l out steps).length=N/\(∀ a,(a=n\/V (tY sc f l out steps) a=true)->∀ b∈sc a,V (tY sc f l out steps) b=true)/\∀ a,V (tY sc f l out steps) a=true->C a
 | 0,l,out,steps,hs,hl,hz,h1,h2,h3=>by
  have:l=[]:=hz.resolve_right (by omega)
  subst this
  exact⟨hl,fun a ha=>(h1 a ha).resolve_left (by simp),h3⟩
 | f+1,l,out,steps,hs,hl,hz,h1,h2,h3=>by
  unfold tY
  split
  ·rename_i h
   subst h
   exact⟨hl,fun a ha=>(h1 a ha).resolve_left (by simp),h3⟩
  ·rename_i aH
   have hz:=hz.resolve_left aH
   have S:=Lb (sc:=sc) hs l (out,[])
   refine aaR hN FD hC f _ _ (steps+1) (by omega) (S.len.trans hl) ?_ ?_ ?_ ?_
   ·have:=S.Bg
    simp only[acm,adx] at this
    cases hx:(sL sc steps l (out,[])).2 with
    | nil=>exact .inl rfl
    | cons x y=>rw[hx] at this;simp only[abx] at this;exact .inr (by omega)
   ·intro a ha
    have key:(a=n\/V out a=true)->a∈(sL sc steps l (out,[])).2\/∀ b∈sc a,V (sL sc steps l (out,[])).1 b=true:=by
     intro ha
     refine .inr fun b hb => ?_
     rcases h1 a ha with q | q
     ·exact S.all b ⟨a,q,hb⟩ (by rw[hl];exact hN a b hb)
     ·exact S.mono b (q b hb)
    rcases ha with ha | ha
    ·exact key (.inl ha)
    ·rcases S.new a ha with q | q
     ·exact key (.inr q)
     ·exact .inl q.2
   ·intro a ha
    rcases S.Fv a ha with q | ⟨⟨x,hx,HV⟩,_⟩
    ·cases q
    ·refine .inr ?_
     rcases h2 x hx with rfl | q
     ·exact FD a HV
     ·exact hC x q a HV
   ·intro a ha
    rcases S.new a ha with q | ⟨⟨x,hx,HV⟩,_⟩
    ·exact h3 a q
    ·rcases h2 x hx with rfl | q
     ·exact FD a HV
     ·exact hC x q a HV
theorem Rx (N b:Nat):V (List.replicate N 0) b=false:=by
 unfold V
 rw[ahe]
 split
 ·rename_i h
  split at h<;>cases h
 ·rfl
theorem S9 (N:Nat):eY (List.replicate N 0)=N:=by unfold eY;rw[List.countP_replicate];simp
theorem ahA {sc:Nat->List Nat} {N n:Nat} (hN:∀ a,∀ b∈sc a,b<N) {C:Nat->Prop} (FD:∀ b∈sc n,C b) (hC:∀ a,C a->∀ b∈sc a,C b) :
  (far sc N n).length=N/\(∀ a,(a=n\/V (far sc N n) a=true)->∀ b∈sc a,V (far sc N n) b=true)/\∀ a,V (far sc N n) a=true->C a:=
 aaR hN FD hC _ _ _ _ (by decide) (by simp) (.inr (by rw[S9];omega)) (fun a ha=>by
  rcases ha with rfl | ha
  ·exact .inl (.head _)
  ·rw[Rx] at ha;cases ha) (fun a ha=>by rw[aan] at ha;exact .inl ha) (fun a ha=>by rw[Rx] at ha;cases ha)
end Go.Proofs.YtodfajmihkagnaaGreatDoor.qz
namespace Go.Proofs.YtodfajmihkagnaaGreatDoor.DfK
open Go Am Am.K mf og lH
theorem aco (N n:Int) (e:AV) (he:bq e=true) (H:Hp):cK (.func (.func 175) [] []) [.agg [.int .i64 N,e],.int .i64 n] H=some (.bool (decide (0<=n)&&decide (n<N)),al H [.int .i64 N,e] 201 0):=by
 refine ank ?_
 unfold Yc
 by_cases h1:0<=n
 ·simp(disch:=(first|assumption|omega|(simp only[ag,af,Nat.reduceAdd,Nat.reduceLeDiff,Nat.reduceLT]<;>fail)|(simp only[af];omega)|(simp only[ag,af,Nat.reduceAdd,Nat.reduceLeDiff,Nat.reduceLT, *]<;>fail)|fail))only[h1,ac2,au,ar,Nat.reduceAdd,aj,ai,Int.reduceBEq,Int.reduceBNe,Int.reduceLT,Int.reduceLE,Int.reduceGT,Int.reduceGE,Int.reduceNeg]
 ·simp(disch:=(first|assumption|omega|(simp only[ag,af,Nat.reduceAdd,Nat.reduceLeDiff,Nat.reduceLT]<;>fail)|(simp only[af];omega)|(simp only[ag,af,Nat.reduceAdd,Nat.reduceLeDiff,Nat.reduceLT, *]<;>fail)|fail))only[h1,ac5,au,ar,Nat.reduceAdd,aj,ai,Int.reduceBEq,Int.reduceBNe,Int.reduceLT,Int.reduceLE,Int.reduceGT,Int.reduceGE,Int.reduceNeg]
theorem pL (n a b:Int) (H:Hp):cK (.func (.func 119) [] []) [.int .i64 n,.int .i64 a,.int .i64 b] H=some (.bool (decide (a<=n)&&decide (n<=b)),H):=by
 refine an3 ?_
 unfold RS
 by_cases h1:a<=n
 ·simp(disch:=(first|assumption|omega|(simp only[ag,af,Nat.reduceAdd,Nat.reduceLeDiff,Nat.reduceLT]<;>fail)|(simp only[af];omega)|(simp only[ag,af,Nat.reduceAdd,Nat.reduceLeDiff,Nat.reduceLT, *]<;>fail)|fail))only[h1,ac2,au,ar,Nat.reduceAdd,aj,ai,Int.reduceBEq,Int.reduceBNe,Int.reduceLT,Int.reduceLE,Int.reduceGT,Int.reduceGE,Int.reduceNeg]
 ·simp(disch:=(first|assumption|omega|(simp only[ag,af,Nat.reduceAdd,Nat.reduceLeDiff,Nat.reduceLT]<;>fail)|(simp only[af];omega)|(simp only[ag,af,Nat.reduceAdd,Nat.reduceLeDiff,Nat.reduceLT, *]<;>fail)|fail))only[h1,ac5,au,ar,Nat.reduceAdd,aj,ai,Int.reduceBEq,Int.reduceBNe,Int.reduceLT,Int.reduceLE,Int.reduceGT,Int.reduceGE,Int.reduceNeg]
abbrev Ed:=Nat × Nat
def cn (e:Ed):List AV:=[.int .i64 e.1,.int .i64 e.2]
def jK (E:List Ed):List (List AV):=E.map cn
theorem IY (E:List Ed):(jK E).length=E.length:=by simp[jK]
theorem PI {E:List Ed} {i:Nat} {e:Ed} (h:E[i]? = some e):(jK E)[i]? = some (cn e):=by simp[jK,h]
theorem XN (a b c d:Int) (n:Nat) (H:Hp):dZ P (n+2) 231 (.agg [.int .i64 a,.int .i64 b]) (.agg [.int .i64 c,.int .i64 d]) H=some (a==c&&b==d):=by
 have hu:P.underlying 231=some (.array 2 3):=Tryz.underlying231
 have hi:P.underlying 3=some (.int .i64):=Tryz.underlying3
 have hs:sz P 3=some 1:=by kernel_rfl
 have ha:vo P 3=some false:=by kernel_rfl
 have h1:∀ x y:Int,dZ P (n+1) 3 (.int .i64 x) (.int .i64 y) H=some (x==y):=by
  intro x y;unfold dZ;simp only[hi,if_true]
 rw[dZ.eq_def]
 simp only[hu,hs]
 show pZ _ [0,1]=_
 simp only[pZ,mo,ha,aca,acx,af4,ahd,acP,acM,h1]
 cases hac:(a==c)<;>cases Qw:(b==d)<;>simp[h1,hac,Qw]
def wq (E:List (Ed × Nat)):List ME:=E.map fun x=>⟨.agg (cn x.1),.bool true,x.2⟩
theorem NB {H:Hp} {e:Ed}:∀ (E:List (Ed × Nat)) (i:Nat),(∀ x∈E,x.1≠e)->mz P H 231 (.agg (cn e)) (wq E) i=some none
 | [],i,_=>rfl
 | x::E,i,h=>by
  have h1:=XN e.1 e.2 x.1.1 x.1.2 18 H
  have h2:(((e.1:Nat):Int)==((x.1.1:Nat):Int)&&((e.2:Nat):Int)==((x.1.2:Nat):Int))=false:=by
   rw[<-afq,aa9,beq_iff_eq,beq_iff_eq]
   intro q
   exact h x (.head _) (Prod.ext (by have:=q.1;omega) (by have:=q.2;omega))
  rw[h2] at h1
  show mz P H _ (.agg (cn e)) (⟨.agg (cn x.1),.bool true,x.2⟩::wq E) i=_
  unfold mz
  have Ka:dZ P 20 231 (.agg (cn e)) (.agg (cn x.1)) H=some false:=h1
  rw[Ka]
  exact NB E (i+1) fun y hy=>h y (.tail _ hy)
theorem aaV (e:Ed):nc P 20 231 (.agg (cn e))=true:=by kernel_rfl
theorem lkE {H:Hp} {m c:Nat} {E:List (Ed × Nat)} {e:Ed} (hm:Mp H m (wq E) c) (h:∀ x∈E,x.1≠e):qb P 248 (.map m) (.agg (cn e)) false H=some (.bool false):=by
 have hu:P.underlying 248=some (.map 231 4):=Tryz.underlying248
 have hz:((P.info? 4).bind (·.zero)).bind jB=some (.bool false):=by kernel_rfl
 unfold qb
 simp only[hu,aaV,cond_true,F8 hm,NB E 0 h,hz,ady,cond_false]
theorem upE {H:Hp} {m c:Nat} {E:List (Ed × Nat)} {e:Ed} (hm:Mp H m (wq E) c) (h:∀ x∈E,x.1≠e):∃ H',nu P 248 (.map m) (.agg (cn e)) (.bool true) H=some H'/\Mp H' m (wq (E++[(e,c)])) (c+1)/\Out [m] H H'/\H'.next=H.next:=by
 have hu:P.underlying 248=some (.map 231 4):=Tryz.underlying248
 have he:wq (E++[(e,c)])=wq E++[⟨.agg (cn e),.bool true,c⟩]:=by simp[wq]
 rw[he]
 refine⟨_,?_,(hm.set _ _).1,(hm.set _ _).2,rfl⟩
 unfold nu
 simp only[hu,aaV,cond_true,hm.2,NB E 0 h]
structure pq (N:Nat) (E:List Ed):Prop where
 n:N<=16
 lt:∀ e∈E,e.1<N/\e.2<N/\e.1≠e.2
 nd:E.Nodup
 len:E.length<=300
theorem Vj {N:Nat} {E:List Ed} {x:AV} {g m:Nat} {H0:Hp} (hE:pq N E) (hx:RL H0 2 x (jK E)) (hg:Cs H0 g [.int .i64 N,x] 201 0) (Ls:g≠m) (hxm:∀ j∈ak x,j≠m) (k:K.Fn 0):∀ (r:List Ed) (i:Nat) (H:Hp) (M:List (Ed × Nat)) (c:Nat),i<=E.length->E.drop i=r->Out [m] H0 H->Mp H m (wq M) c->M.map (·.1)=E.take i->
  ∃ H',HI JN GO cK k (.ptr g 0) (.map m) x (.int .i64 (E.length:Nat)) (.int .i64 (i:Nat)) H=k H'/\Out [m] H H'
 | [],i,H,M,c,hi,h,ho,hm,hM=>by
  obtain rfl:=drop_nil hi h
  refine⟨H,?_,Out.refl _ _⟩
  rw[Sq]
  simp only[JA,fw,aj,ai,Int.reduceBEq,Int.reduceBNe,Int.reduceLT,Int.reduceLE,Int.reduceGT,Int.reduceGE,Int.reduceNeg]
 | e::r,i,H,M,c,hi,h,ho,hm,hM=>by
  obtain⟨h1,h2,h3⟩:=fC h
  obtain⟨l1,l2,l3⟩:=hE.lt e (aa2 h2)
  obtain⟨b,o,q1,q2,q3,q4,_⟩:=(hx.out ho fun j hj=>by rw[aan];exact hxm j hj).at (by decide) (PI h2)
  have SB:=hg.out ho (by rw[aan];exact Ls)
  have xF:=SB.1
  have xL:=hm.1
  have lK:=SB.av 2 0 (by simp)
  have es:=fF h1 (by have:=hE.len;omega)
  have d1:decide ((0:Int)<=((e.1:Nat):Int))=true:=decide_eq_true (by omega)
  have d2:decide (((e.1:Nat):Int)<(N:Int))=true:=decide_eq_true (by omega)
  have d3:decide ((0:Int)<=((e.2:Nat):Int))=true:=decide_eq_true (by omega)
  have d4:decide (((e.2:Nat):Int)<(N:Int))=true:=decide_eq_true (by omega)
  have d5:(((e.1:Nat):Int)==((e.2:Nat):Int))=false:=beq_false_of_ne (by omega)
  have aH:∀ y∈M,y.1≠e:=by
   intro y hy heq
   have h4:y.1∈E.take i:=by rw[<-hM];exact List.mem_map_of_mem hy
   have gQ:=hE.nd
   rw[<-agx i E,h,aem] at gQ
   exact gQ.2.2 _ h4 e (.head _) heq
  have kR:=hx.one
  have Zh:Mp (al (al (al H (cn e) 231 0) [.int .i64 N,x] 201 0) [.int .i64 N,x] 201 0) m (wq M) c:=((hm.out (aN H _ _ _) (by simp)).out (aN _ _ _ _) (by simp)).out (aN _ _ _ _) (by simp)
  obtain⟨H1,u1,u2,u3,u4⟩:=upE Zh aH
  have apa:(al (al (al H (cn e) 231 0) [.int .i64 N,x] 201 0) [.int .i64 N,x] 201 0).next=H.next+3:=rfl
  have o1:Out [m] H H1:=((((aN H (cn e) 231 0).al [.int .i64 N,x] 201 0).al [.int .i64 N,x] 201 0).mono (S':=[m]) (fun j hj=>by cases hj)).trans u3
  obtain⟨H',i1,i2⟩:=Vj hE hx hg Ls hxm k r (i+1) H1 (M++[(e,c)]) (c+1) h1 h3 (ho.trans o1) u2 (by rw[adu,hM,agf,h2];rfl)
  refine⟨H',?_,o1.trans i2⟩
  have lk:=lkE Zh aH
  have zn:av H b o 2=some (cn e):=q4
  have q5:av H g 0 2=some [.int .i64 N,x]:=lK
  have e0:(cn e)[0]? = some (.int .i64 e.1):=rfl
  have e1:(cn e)[1]? = some (.int .i64 e.2):=rfl
  have e2:(cn e).take 2=cn e:=rfl
  have Dr:(cn e).length=2:=rfl
  have kD:(cn e).all bq=true:=rfl
  have vm:st 2 (.ptr H.next 0) (.agg (cn e)) (al H [.int .i64 0,.int .i64 0] 231 0)=some (al H (cn e) 231 0):=kq rfl rfl rfl (by decide) rfl
  rw[Sq]
  simp(disch:=(first|assumption|omega|(simp only[ag,af,Nat.reduceAdd,Nat.reduceLeDiff,Nat.reduceLT]<;>fail)|(simp only[af];omega)|(simp only[ag,af,Nat.reduceAdd,Nat.reduceLeDiff,Nat.reduceLT, *]<;>fail)|fail))only[JA,bN h1,q1,zn,q5,vm,e0,e1,e2,Dr,aco _ _ _ kR,d1,d2,d3,d4,d5,lk,u1,es,i1,Bool.and_self,au,ar,Nat.reduceAdd,aj,ai,Int.reduceBEq,Int.reduceBNe,Int.reduceLT,Int.reduceLE,Int.reduceGT,Int.reduceGE,Int.reduceNeg]
abbrev gv (N:Nat) (x:AV):AV := .agg [.int .i64 N,x]
theorem V9 {N:Nat} {E:List Ed} {x:AV} {H:Hp} (hE:pq N E) (hx:RL H 2 x (jK E)):∃ H',cK (.func (.func 155) [] []) [gv N x] H=some (.bool true,H')/\Out [] H H':=by
 have kR:=hx.one
 have hN:=hE.n
 have mq:=aN H [.int .i64 N,x] 201 0
 obtain⟨H2,m1,m2,m3,m4⟩:=IT (al H [.int .i64 N,x] 201 0)
 have nF:Out [] H H2:=mq.trans m3
 rw[cj] at m1 m2
 have aQ:=hx.1.lt
 obtain⟨H',i1,i2⟩:=Vj (g:=H.next) (m:=H.next+1) hE (hx.aw nF) ((bD H [.int .i64 N,x] 201 0).out m3 (by simp)) (by omega) (fun j hj=>by have:=aQ j hj;omega) (fun h=>some (.bool true,h)) E 0 H2 [] 0 (ab2 _) abJ (Out.refl _ _) m2 rfl
 refine⟨H',abI ?_,nF.then i2 fun j hj=>by rw[aan] at hj;exact .inr (by omega)⟩
 have hl:=(hx.aw nF).len (by decide)
 rw[IY] at hl
 have d1:decide ((N:Int)<0)=false:=decide_eq_false (by omega)
 have d2:decide ((16:Int)<(N:Int))=false:=decide_eq_false (by omega)
 rw[show (((0:Nat):Int))=0 from rfl] at i1
 have wQ:cellAt H2 H.next 1=some x:=by
  rw[m3.cellAt (by rw[cj];omega) (by simp)]
  exact (bD H [.int .i64 N,x] 201 0).cellAt rfl
 unfold MR
 simp(disch:=(first|assumption|omega|(simp only[ag,af,Nat.reduceAdd,Nat.reduceLeDiff,Nat.reduceLT]<;>fail)|(simp only[af];omega)|(simp only[ag,af,Nat.reduceAdd,Nat.reduceLeDiff,Nat.reduceLT, *]<;>fail)|fail))only[d1,d2,m1,hl,i1,wQ,au,ar,Nat.reduceAdd,aj,ai,Int.reduceBEq,Int.reduceBNe,Int.reduceLT,Int.reduceLE,Int.reduceGT,Int.reduceGE,Int.reduceNeg]
def uM (E:List Ed) (n:Nat) (XU:Bool):List Nat:=E.filterMap fun e=>if (bif XU then e.2 else e.1)=n then some (bif XU then e.1 else e.2) else none
def dF (l:List Nat):List Int:=l.map fun (n:Nat)=>(n:Int)
theorem wK (l:List Nat):(dF l).length=l.length:=by simp[dF]
theorem Pc (a b:List Nat):dF (a++b)=dF a++dF b:=by simp[dF]
theorem UJ (E:List Ed) (n:Nat) (b:Bool):(uM E n b).length<=E.length:=List.length_filterMap_le _ _
theorem Oq {N:Nat} {E:List Ed} {x:AV} {H0:Hp} (b1:Bool) {n:Nat} (hE:E.length<=300) (hx:RL H0 2 x (jK E)):∀ (r:List Ed) (i:Nat) (H:Hp) (y:AV) (acc:List Nat) (S:List Nat),i<=E.length->E.drop i=r->Out S H0 H->(∀ j∈S,H0.next<=j)->Ow H 3 1 y (ints (dF acc))->(∀ j∈ak y,H0.next<=j)->acc.length<=i->
  ∃ y' H',(∀ k:K.Fn 1,GA JN GO cK k (.int .i64 n) (.int .i64 (bif b1 then 1 else 0)) y x (.int .i64 (E.length:Nat)) (.int .i64 (i:Nat)) H=k y' H')/\Ow H' 3 1 y' (ints (dF (acc++uM r n b1)))/\Out (ak y) H H'/\∀ j∈ak y',j∈ak y\/H.next<=j
 | [],i,H,y,acc,S,hi,h,ho,hS,hy,Gh,ha=>by
  obtain rfl:=drop_nil hi h
  refine⟨y,H,fun k => ?_,by simpa[uM] using hy,Out.refl _ _,fun j hj => .inl hj⟩
  rw[Og]
  simp only[Bs,fw,aj,ai,Int.reduceBEq,Int.reduceBNe,Int.reduceLT,Int.reduceLE,Int.reduceGT,Int.reduceGE,Int.reduceNeg]
 | e::r,i,H,y,acc,S,hi,h,ho,hS,hy,Gh,ha=>by
  obtain⟨h1,h2,h3⟩:=fC h
  have eC:=hx.1.lt
  obtain⟨b,o,q1,q2,q3,q4,_⟩:=(hx.out ho fun j hj=>fun q=>by have:=hS j q;have:=eC j hj;omega).at (by decide) (PI h2)
  have es:=fF h1 (by omega)
  have zn:av H b o 2=some (cn e):=q4
  have e0:(cn e)[0]? = some (.int .i64 e.1):=rfl
  have e1:(cn e)[1]? = some (.int .i64 e.2):=rfl
  have Dr:(cn e).length=2:=rfl
  have vm:st 2 (.ptr H.next 0) (.agg (cn e)) (al H [.int .i64 0,.int .i64 0] 231 0)=some (al H (cn e) 231 0):=kq rfl rfl rfl (by decide) rfl
  have mq:=aN H (cn e) 231 0
  have w0:IntKind.wrap .i64 (1-0)=1:=rfl
  have w1:IntKind.wrap .i64 (1-1)=0:=rfl
  by_cases hq:(bif b1 then e.2 else e.1)=n
  ·have hb:uM (e::r) n b1=(bif b1 then e.1 else e.2)::uM r n b1:=by simp[uM,hq]
   obtain⟨y1,H1,p1,p2,p3,p4,p5⟩:=vP (fU:=3) (z:=[(.int .i64 0)]) (vs:=[.int .i64 ((bif b1 then e.1 else e.2:Nat):Int)]) (hy.out mq (by simp)) rfl rfl (by decide) (by rw[kU,wK];simp;omega)
   have pW:ints (dF acc)++[.int .i64 ((bif b1 then e.1 else e.2:Nat):Int)]=ints (dF (acc++[bif b1 then e.1 else e.2])):=by rw[Pc,JE];rfl
   rw[pW] at p2
   have o1:Out (ak y) H H1:=(mq.mono (S':=ak y) fun j hj=>by cases hj).trans p3
   have kg:=o1.nx
   have lq:=ho.nx
   obtain⟨y',H',i1,i2,i3,i4⟩:=Oq (N:=N) b1 (n:=n) hE hx r (i+1) H1 y1 (acc++[bif b1 then e.1 else e.2]) (S++ak y) h1 h3 ((ho.mono (S':=S++ak y) fun j hj=>abG _ hj).trans (o1.mono fun j hj=>abB _ hj)) (fun j hj=>(abP.1 hj).elim (hS j) (Gh j)) p2 (fun j hj=>(p4 j hj).elim (Gh j) fun q=>by rw[cj] at q;omega) (by simp;omega)
   refine⟨y',H',fun k => ?_,by rw[hb];simpa[aea] using i2,o1.then i3 fun j hj=>(p4 j hj).imp id fun q=>by rw[cj] at q;omega,fun j hj=>(i4 j hj).elim (fun q=>(p4 j q).imp id fun q=>by rw[cj] at q;omega) fun q => .inr (by omega)⟩
   have iY:=p1 (H.next+1) rfl
   rw[Og]
   cases b1 with
   | true=>
    simp only[cond_true] at hq iY i1
    subst hq
    simp(disch:=(first|assumption|omega|(simp only[ag,af,Nat.reduceAdd,Nat.reduceLeDiff,Nat.reduceLT]<;>fail)|(simp only[af];omega)|(simp only[ag,af,Nat.reduceAdd,Nat.reduceLeDiff,Nat.reduceLT, *]<;>fail)|fail))only[cond_true,Bs,bN h1,q1,zn,vm,e0,e1,Dr,w1,iY,es,i1,au,ar,Nat.reduceAdd,aj,ai,Int.reduceBEq,Int.reduceBNe,Int.reduceLT,Int.reduceLE,Int.reduceGT,Int.reduceGE,Int.reduceNeg]
   | false=>
    simp only[cond_false] at hq iY i1
    subst hq
    simp(disch:=(first|assumption|omega|(simp only[ag,af,Nat.reduceAdd,Nat.reduceLeDiff,Nat.reduceLT]<;>fail)|(simp only[af];omega)|(simp only[ag,af,Nat.reduceAdd,Nat.reduceLeDiff,Nat.reduceLT, *]<;>fail)|fail))only[cond_false,Bs,bN h1,q1,zn,vm,e0,e1,Dr,w0,iY,es,i1,au,ar,Nat.reduceAdd,aj,ai,Int.reduceBEq,Int.reduceBNe,Int.reduceLT,Int.reduceLE,Int.reduceGT,Int.reduceGE,Int.reduceNeg]
  ·have hb:uM (e::r) n b1=uM r n b1:=by simp[uM,hq]
   obtain⟨y',H',i1,i2,i3,i4⟩:=Oq (N:=N) b1 (n:=n) hE hx r (i+1) (al H (cn e) 231 0) y acc S h1 h3 (ho.al _ _ _) hS (hy.out mq (by simp)) Gh (by omega)
   refine⟨y',H',fun k => ?_,by rw[hb];exact i2,(mq.mono (S':=ak y) fun j hj=>by cases hj).trans i3,fun j hj=>(i4 j hj).imp id fun q=>by rw[cj] at q;omega⟩
   rw[Og]
   cases b1 with
   | true=>
    simp only[cond_true] at hq i1
    have aH:(((e.2:Nat):Int)==(n:Int))=false:=beq_false_of_ne (by omega)
    simp(disch:=(first|assumption|omega|(simp only[ag,af,Nat.reduceAdd,Nat.reduceLeDiff,Nat.reduceLT]<;>fail)|(simp only[af];omega)|(simp only[ag,af,Nat.reduceAdd,Nat.reduceLeDiff,Nat.reduceLT, *]<;>fail)|fail))only[cond_true,Bs,bN h1,q1,zn,vm,e0,e1,Dr,aH,es,i1,au,ar,Nat.reduceAdd,aj,ai,Int.reduceBEq,Int.reduceBNe,Int.reduceLT,Int.reduceLE,Int.reduceGT,Int.reduceGE,Int.reduceNeg]
   | false=>
    simp only[cond_false] at hq i1
    have aH:(((e.1:Nat):Int)==(n:Int))=false:=beq_false_of_ne (by omega)
    simp(disch:=(first|assumption|omega|(simp only[ag,af,Nat.reduceAdd,Nat.reduceLeDiff,Nat.reduceLT]<;>fail)|(simp only[af];omega)|(simp only[ag,af,Nat.reduceAdd,Nat.reduceLeDiff,Nat.reduceLT, *]<;>fail)|fail))only[cond_false,Bs,bN h1,q1,zn,vm,e0,e1,Dr,aH,es,i1,au,ar,Nat.reduceAdd,aj,ai,Int.reduceBEq,Int.reduceBNe,Int.reduceLT,Int.reduceLE,Int.reduceGT,Int.reduceGE,Int.reduceNeg]
open qz
theorem aim {H:Hp} {x:AV} {zs:List Int} (hx:Ow H 3 1 x (ints zs)) (hl:zs.length<=16777216) :
  ∃ H',cK (.func (.func 192) [] []) [x] H=some (.tuple [],H')/\Ow H' 3 1 x (ints (iu.pJ zs))/\Out (ak x) H H':=by
 generalize hz:ints zs=l at hx
 cases hx with
 | nil=>
  have:zs=[]:=by simpa[ints] using hz
  subst this
  refine⟨H,wS (p:=iu.sP) (by kernel_rfl) rfl,?_,Out.refl _ _⟩
  simp[iu.pJ,ints];exact .nil
 | @emp i off=>
  have:zs=[]:=by simpa[ints] using hz
  subst this
  refine⟨H,wS (p:=iu.sP) (by kernel_rfl) ?_,?_,Out.refl _ _⟩
  ·unfold iu.sP
   simp only[if_true]
  ·simp[iu.pJ,ints];exact .emp
 | @mk i off n cap ex _ c lo hi fl jh hg hf gY jA ic hn hc hs h1 he=>
  subst hz
  rw[kU,aeu] at hn
  by_cases h0:n=0
  ·subst h0
   have:zs=[]:=List.length_eq_zero_iff.1 hn
   subst this
   refine⟨H,wS (p:=iu.sP) (by kernel_rfl) ?_,?_,Out.refl _ _⟩
   ·unfold iu.sP
    simp only[if_true]
   ·exact .mk jh hg hf gY jA ic (by simp[iu.pJ,ints]) (by simp[iu.pJ,ints]) hs (by simp[iu.pJ,ints]) he
  ·have oI:=iu.Ss zs
   have Gf:Ro H i off (ints zs):=⟨jh,c,lo,hi,3,fl,hg,gY,by rw[kU];omega,hc⟩
   have Gr:=Gf.av
   rw[kU,hn] at Gr
   have abF:(Am.av H i off n).bind iu.yc=some zs:=by rw[Gr];exact iu.We zs
   have iV:iu.sP [.slice i off n cap ex 1] H=some (.tuple [],{ H with h:=H.h.bX i (.cells (c.cC off (iu.qS (iu.pJ zs))) lo hi 3 fl) }):=by
    unfold iu.sP
    simp only
    rw[if_neg h0,if_pos ⟨trivial,by omega⟩,hg,acx]
    unfold iu.LD
    simp only
    rw[if_pos ⟨gY,by omega,hf⟩,abF]
    rfl
   have eG:∀ j,(H.h.bX i (AO.cells (c.cC off (iu.qS (iu.pJ zs))) lo hi 3 fl)).get j=if j=i then some (AO.cells (c.cC off (iu.qS (iu.pJ zs))) lo hi 3 fl) else H.h.get j:=fun j=>Tr.yw _ _ _ _ (by rw[hg];rfl)
   refine⟨_,wS (p:=iu.sP) (by kernel_rfl) iV,?_,⟨abe _,fun j hj Gj => ?_⟩⟩
   ·refine .mk (c:=c.cC off (ints (iu.pJ zs))) jh ?_ hf gY jA ic (by rw[kU];omega) (fun k v hk => ?_) (fun k hk => ?_) (aiQ _) he
    ·show (H.h.bX i _).get i=_
     rw[eG,if_pos rfl]
     rfl
    ·have o7:=(aaK.1 hk).1
     rw[Tr.uj,if_pos ⟨by omega,by omega⟩,adG]
     exact hk
    ·rw[Tr.uj]
     split
     ·rename_i gU
      rw[aaM (by omega)]
      rfl
     ·exact hs k hk
   ·show (H.h.bX i _).get j=_
    rw[eG,if_neg (fun q=>Gj (by subst q;rw[mr he];exact .head _))]
def sortN (l:List Nat):List Nat:=l.mergeSort fun x y=>decide (x<=y)
theorem anE (l:List Nat):(sortN l).length=l.length:=(List.mergeSort_perm l _).length_eq
theorem WV {l:List Nat} {x:Nat}:x∈sortN l↔x∈l:=(List.mergeSort_perm l _).mem_iff
theorem adl (l:List Nat):iu.pJ (dF l)=dF (sortN l):=by
 unfold iu.pJ dF sortN
 rw[List.map_mergeSort]
 intro a _ b _
 simp
def jU (E:List Ed) (n:Nat) (b:Bool):List Nat:=sortN (uM E n b)
theorem XM (E:List Ed) (n:Nat) (b:Bool):(jU E n b).length<=E.length:=by unfold jU;rw[anE];exact UJ E n b
theorem Rk {E:List Ed} {n x:Nat}:(x∈jU E n false↔(n,x)∈E)/\(x∈jU E n true↔(x,n)∈E):=by
 unfold jU uM
 rw[WV,WV,List.mem_filterMap,List.mem_filterMap]
 constructor
 ·constructor
  ·rintro⟨e,he,h⟩
   simp only[cond_false] at h
   split at h
   ·rename_i h1;cases h;subst h1;exact he
   ·cases h
  ·intro h;exact⟨_,h,by simp⟩
 ·constructor
  ·rintro⟨e,he,h⟩
   simp only[cond_true] at h
   split at h
   ·rename_i h1;cases h;subst h1;exact he
   ·cases h
  ·intro h;exact⟨_,h,by simp⟩
theorem abX {N:Nat} {E:List Ed} {x:AV} {H:Hp} (b:Bool) (n:Nat) (hE:pq N E) (hx:RL H 2 x (jK E)) :
  ∃ y H',cK (.func (.func 176) [] []) [gv N x,.int .i64 n,.int .i64 (bif b then 1 else 0)] H=some (y,H')/\Ow H' 3 1 y (ints (dF (jU E n b)))/\Out [] H H'/\∀ j∈ak y,H.next<=j:=by
 have kR:=hx.one
 have mq:=aN H [.int .i64 N,x] 201 0
 obtain⟨H2,g1,g2⟩:=V9 hE (hx.aw mq)
 have gT:=g2.nx
 rw[cj] at gT
 have nF:=mq.trans g2
 have nQ:=hx.aw nF
 obtain⟨y,H3,i1,i2,i3,i4⟩:=Oq (N:=N) b (n:=n) hE.len nQ E 0 H2 .ah [] [] (ab2 _) abJ (Out.refl _ _) (fun j hj=>by cases hj) .nil (fun j hj=>by cases hj) (abe _)
 rw[ahr] at i2
 have hr:∀ j∈ak y,H2.next<=j:=fun j hj=>(i4 j hj).elim (fun q=>by cases q) id
 obtain⟨H4,s1,s2,s3⟩:=aim i2 (by rw[wK];have:=UJ E n b;have:=hE.len;omega)
 rw[adl] at s2
 refine⟨y,H4,amD ?_,s2,nF.trans ((i3.mono fun j hj=>by cases hj).then s3 fun j hj => .inr (hr j hj)),fun j hj=>by have:=hr j hj;omega⟩
 have hl:=nQ.len (by decide)
 rw[IY] at hl
 have wQ:cellAt H2 H.next 1=some x:=by
  rw[g2.cellAt (by rw[cj];omega) (by simp)]
  exact (bD H [.int .i64 N,x] 201 0).cellAt rfl
 rw[show (((0:Nat):Int))=0 from rfl] at i1
 unfold WQ
 simp(disch:=(first|assumption|omega|(simp only[ag,af,simprocAttr]<;>fail)|(simp only[af];omega)|(simp only[ag,af,simprocAttr, *]<;>fail)|fail))only[g1,wQ,hl,i1,s1,au,ar,aj,ai,simprocAttr]
theorem Vo {N:Nat} {E:List Ed} {x:AV} {H:Hp} (n:Nat) (hE:pq N E) (hx:RL H 2 x (jK E)) :
  ∃ y H',cK (.func (.func 157) [] []) [gv N x,.int .i64 n] H=some (y,H')/\Ow H' 3 1 y (ints (dF (jU E n false)))/\Out [] H H'/\∀ j∈ak y,H.next<=j:=by
 have kR:=hx.one
 have mq:=aN H [.int .i64 N,x] 201 0
 obtain⟨y,H',h1,h2,h3,h4⟩:=abX false n hE (hx.aw mq)
 refine⟨y,H',alw ?_,h2,mq.trans h3,fun j hj=>by have:=h4 j hj;rw[cj] at this;omega⟩
 simp only[cond_false] at h1
 unfold VF
 simp(disch:=(first|assumption|omega|(simp only[ag,af,simprocAttr]<;>fail)|(simp only[af];omega)|(simp only[ag,af,simprocAttr, *]<;>fail)|fail))only[h1,au,ar,aj,ai,simprocAttr]
theorem Cu {l:List Nat} {i n:Nat} (h:l[i]? = some n):(ints (dF l))[i]? = some (.int .i64 (n:Int)):=yE (by simp[dF,h])
theorem MX {N steps:Nat} {bl:List Nat} {bx:AV} {A:Nat} (aD:0<steps) (hJ:∀ b∈bl,b<N) (lr:bl.length<=300) (bP cP bY bO:AV) (hA:A∉ak bx) :
  ∀ (r:List Nat) (i:Nat) (H:Hp) (out nx:List Nat) (ny:AV),i<=bl.length->bl.drop i=r->Rw H 1 bx (ints (dF bl))->(∀ j∈ak ny,j∉ak bx/\j≠A)->out.length=N->nx.length+r.length<=100000->Cs H A (ints (dF out)) 3 0->Ow H 3 1 ny (ints (dF nx))->
  ∃ rL H',(∀ (aX:K.Fn 1) (aG ef:K.Fn 4) (dI dW:K.Fn 7),ET JN GO cK aX aG ef dI dW bP (.slice A 0 N N true 1) (.int .i64 steps) ny cP bY bO bx (.int .i64 (bl.length:Nat)) (.int .i64 (i:Nat)) H=dW bP (.slice A 0 N N true 1) (.int .i64 steps) rL cP bY bO H')/\
   Cs H' A (ints (dF (qq steps r (out,nx)).1)) 3 0/\Ow H' 3 1 rL (ints (dF (qq steps r (out,nx)).2))/\Out (A::ak ny) H H'/\∀ j∈ak rL,j∈ak ny\/H.next<=j
 | [],i,H,out,nx,ny,hi,h,hb,hd,jk,iv,hC,hO=>by
  obtain rfl:=drop_nil hi h
  refine⟨ny,H,fun aX aG ef dI dW => ?_,hC,hO,Out.refl _ _,fun j hj => .inl hj⟩
  rw[QL]
  simp only[HT,fw,aj,ai,simprocAttr]
 | b::r,i,H,out,nx,ny,hi,h,hb,hd,jk,iv,hC,hO=>by
  obtain⟨h1,h2,h3⟩:=fC h
  obtain⟨q,q1,q2⟩:=hb.jy (Cu h2) .i64
  have M5:=hJ b (aa2 h2)
  have es:=fF h1 (by omega)
  have tR:out[b]? = some (out[b]'(by omega)):=aaM (by omega)
  have Of:=hC.ld (Cu tR)
  have nJ:ia 1 (.slice A 0 N N true 1) (.int .i64 (b:Int))=some (.ptr A b):=by rw[yL M5];simp
  simp only[abx] at iv
  by_cases h0:out[b]'(by omega)=0
  ·rw[h0] at tR Of
   obtain⟨H1,w1,w2,w3,w4⟩:=fR hC (by decide) (o:=b) (by rw[kU,wK];omega) (v := .int .i64 (steps:Int)) rfl
   have fg:(ints (dF out)).set b (.int .i64 (steps:Int))=ints (dF (out.set b steps)):=by simp[ints,dF,List.map_set]
   rw[fg] at w2
   have qH:=hO.out w3 fun j hj=>by rw[aan];exact (hd j hj).2
   obtain⟨Ml,H2,p1,p2,p3,p4,p5⟩:=vP (fU:=3) (z:=[(.int .i64 0)]) (vs:=[.int .i64 (b:Int)]) qH rfl rfl (by decide) (by rw[kU,wK];simp;omega)
   have pW:ints (dF nx)++[.int .i64 (b:Int)]=ints (dF (nx++[b])):=by rw[Pc,JE];rfl
   rw[pW] at p2
   have aH:A∉ak ny:=fun q=>(hd A q).2 rfl
   have hCl:=hC.1
   have air:=hb.lt
   obtain⟨rL,H',i1,i2,i3,i4,i5⟩:=MX (N:=N) aD hJ lr bP cP bY bO hA r (i+1) H2 (out.set b steps) (nx++[b]) Ml h1 h3 ((hb.out w3 fun j hj=>by rw[aan];intro e;subst e;exact hA hj).out p3 fun j hj q=>(hd j q).1 hj)
    (fun j hj=>(p4 j hj).elim (hd j) fun q=>⟨fun z=>by have:=air j z;omega,by omega⟩) (by rw[acT];exact jk) (by simp;omega) (w2.out p3 aH) p2
   have hex:qq steps (b::r) (out,nx)=qq steps r (out.set b steps,nx++[b]):=by
    show qq steps r (rH steps (out,nx) b)=_
    unfold rH
    rw[if_pos tR]
   have o2:Out (A::ak ny) H H2:=(w3.mono fun j hj=>by rw[aan] at hj;subst hj;exact .head _).trans (p3.mono fun j hj => .tail _ hj)
   have kg:=p3.nx
   rw[hex]
   refine⟨rL,H',fun aX aG ef dI dW => ?_,i2,i3,o2.then i4 fun j hj => ?_,fun j hj=>(i5 j hj).elim (fun q=>(p4 j q).imp id fun q=>by omega) fun q => .inr (by omega)⟩
   ·have iY:=p1 _ rfl
    rw[QL]
    simp(disch:=(first|assumption|omega|(simp only[ag,af,simprocAttr]<;>fail)|(simp only[af];omega)|(simp only[ag,af,simprocAttr, *]<;>fail)|fail))only[HT,bN h1,q1,q2,nJ,Of,Int.natCast_zero,w1,iY,es,i1,au,ar,aj,ai,simprocAttr]
   ·rcases abn.1 hj with rfl | hj
    ·exact .inl (.head _)
    ·exact (p4 j hj).imp (fun q => .tail _ q) fun q=>by omega
  ·have abA:out[b]? ≠ some 0:=fun q=>h0 (by rw[tR] at q;exact acy q)
   have hex:qq steps (b::r) (out,nx)=qq steps r (out,nx):=by
    show qq steps r (rH steps (out,nx) b)=_
    unfold rH
    rw[if_neg abA]
   obtain⟨rL,H',i1,i2⟩:=MX (N:=N) aD hJ lr bP cP bY bO hA r (i+1) H out nx ny h1 h3 hb hd jk (by omega) hC hO
   rw[hex]
   refine⟨rL,H',fun aX aG ef dI dW => ?_,i2⟩
   have aH:(((out[b]'(by omega):Nat):Int)==0)=false:=beq_false_of_ne (by omega)
   rw[QL]
   simp(disch:=(first|assumption|omega|(simp only[ag,af,simprocAttr]<;>fail)|(simp only[af];omega)|(simp only[ag,af,simprocAttr, *]<;>fail)|fail))only[HT,bN h1,q1,q2,nJ,Of,aH,es,i1,au,ar,aj,ai,simprocAttr]
theorem Up {N steps:Nat} {E:List Ed} {x:AV} {g:Nat} {l:List Nat} {lx:AV} {A:Nat} (hE:pq N E) (aD:0<steps) (oa:l.length<=100) (hA:A∉ak lx/\A∉ak x/\A≠g) :
  ∀ (r:List Nat) (i:Nat) (H:Hp) (out nx:List Nat) (ny:AV),i<=l.length->l.drop i=r->Rw H 1 lx (ints (dF l))->RL H 2 x (jK E)->Cs H g [.int .i64 N,x] 201 0->(∀ j∈ak ny,j∉ak lx/\j∉ak x/\j≠g/\j≠A)->out.length=N->nx.length+r.length*300<=90000->Cs H A (ints (dF out)) 3 0->Ow H 3 1 ny (ints (dF nx))->
  ∃ rL H',(∀ (aX:K.Fn 1) (aG ef:K.Fn 4),HM JN GO cK aX aG ef (.ptr g 0) (.slice A 0 N N true 1) (.int .i64 steps) ny lx (.int .i64 (l.length:Nat)) (.int .i64 (i:Nat)) H=ef (.ptr g 0) (.slice A 0 N N true 1) (.int .i64 steps) rL H')/\
   Cs H' A (ints (dF (sL (fun n=>jU E n false) steps r (out,nx)).1)) 3 0/\Ow H' 3 1 rL (ints (dF (sL (fun n=>jU E n false) steps r (out,nx)).2))/\Out (A::ak ny) H H'/\∀ j∈ak rL,j∈ak ny\/H.next<=j
 | [],i,H,out,nx,ny,hi,h,eW,hx,hg,hd,jk,iv,hC,hO=>by
  obtain rfl:=drop_nil hi h
  refine⟨ny,H,fun aX aG ef => ?_,hC,hO,Out.refl _ _,fun j hj => .inl hj⟩
  rw[U2]
  simp only[MG,fw,aj,ai,simprocAttr]
 | a::r,i,H,out,nx,ny,hi,h,eW,hx,hg,hd,jk,iv,hC,hO=>by
  obtain⟨h1,h2,h3⟩:=fC h
  obtain⟨q,q1,q2⟩:=eW.jy (Cu h2) .i64
  have es:=fF h1 (by omega)
  have kR:=hx.one
  have lK:=hg.av 2 0 (by simp)
  have acE:av H g 0 2=some [.int .i64 N,x]:=lK
  obtain⟨bx,H1,b1,b2,b3,b4⟩:=Vo a hE hx
  have hJ:∀ b∈jU E a false,b<N:=fun b hb=>(hE.lt _ (Rk.1.1 hb)).2.1
  have lr:=XM E a false
  have hEl:=hE.len
  have hCl:=hC.1
  have afG:=hO.rw.lt
  simp only[abx,aeT,ahd] at iv
  obtain⟨Ml,H2,i1,i2,i3,i4,i5⟩:=MX (N:=N) aD hJ (by omega) (.ptr g 0) lx (.int .i64 (l.length:Nat)) (.int .i64 (i:Nat)) (fun q=>by have:=b4 A q;omega) (jU E a false) 0 H1 out nx ny (ab2 _) abJ b2.rw (fun j hj=>⟨fun q=>by have:=b4 j q;have:=afG j hj;omega,(hd j hj).2.2.2⟩) jk (by omega) (hC.out b3 (by simp)) (hO.out b3 (by simp))
  have kg:=b3.nx
  have PB:=eW.lt
  have eC:=hx.1.lt
  have xF:=hg.1
  have key:∀ j,j<H.next->j≠A->j∉ak ny->H2.h.get j=H.h.get j:=fun j hj ha hn=>by
   rw[i4.2 j (by omega) (by rw[abn,not_or];exact⟨ha,hn⟩),b3.2 j hj (by simp)]
  have o2:Out (A::ak ny) H H2:=(b3.mono fun j hj=>by cases hj).trans i4
  have d1:∀ j∈ak lx,j∉A::ak ny:=fun j hj=>by rw[abn,not_or];exact⟨fun e=>hA.1 (e▸hj),fun q=>(hd j q).1 hj⟩
  have d2:∀ j∈ak x,j∉A::ak ny:=fun j hj=>by rw[abn,not_or];exact⟨fun e=>hA.2.1 (e▸hj),fun q=>(hd j q).2.1 hj⟩
  have d3:g∉A::ak ny:=by rw[abn,not_or];exact⟨fun e=>hA.2.2 e.symm,fun q=>(hd g q).2.2.1 rfl⟩
  have oI:=(Lb (sc:=fun n=>jU E n false) aD [a] (out,nx)).len
  have V3:sL (fun n=>jU E n false) steps (a::r) (out,nx)=sL (fun n=>jU E n false) steps r (qq steps (jU E a false) (out,nx)):=rfl
  have Cf:=NQ aD (jU E a false) (out,nx)
  have hz:=Cf.Bg
  have WN:(qq steps (jU E a false) (out,nx)).2.length<=nx.length+(jU E a false).length:=by
   have aiJ:∀ (bs:List Nat) (s:List Nat × List Nat),(qq steps bs s).2.length<=s.2.length+bs.length:=by
    intro bs
    induction bs with
    | nil=>intro s;exact abe _
    | cons b bs ih=>
     intro s
     have h5:=ih (rH steps s b)
     have h6:(rH steps s b).2.length<=s.2.length+1:=by unfold rH;split<;>simp
     show (qq steps bs (rH steps s b)).2.length<=_
     simp only[abx];omega
   exact aiJ _ _
  obtain⟨rL,H',k1,k2,k3,k4,k5⟩:=Up hE aD oa hA r (i+1) H2 _ _ Ml h1 h3 (eW.out o2 d1) (hx.out o2 d2) (hg.out o2 d3) (fun j hj=>(i5 j hj).elim (fun q=>⟨(hd j q).1,(hd j q).2.1,(hd j q).2.2.1,(hd j q).2.2.2⟩) fun q=>⟨fun z=>by have:=PB j z;omega,fun z=>by have:=eC j z;omega,by omega,by omega⟩) (Cf.len.trans jk) (by omega) i2 i3
  rw[V3]
  refine⟨rL,H',fun aX aG ef => ?_,k2,k3,o2.then k4 fun j hj => ?_,fun j hj=>(k5 j hj).elim (fun q=>(i5 j q).imp id fun q=>by omega) fun q => .inr (by have:=o2.nx;omega)⟩
  ·have yo:=b2.rw.kC
   rw[kU,wK] at yo
   rw[show (((0:Nat):Int))=0 from rfl] at i1
   rw[U2]
   simp(disch:=(first|assumption|omega|(simp only[ag,af,simprocAttr]<;>fail)|(simp only[af];omega)|(simp only[ag,af,simprocAttr, *]<;>fail)|fail))only[MG,bN h1,q1,q2,acE,b1,yo,i1,es,k1,au,ar,aj,ai,simprocAttr]
  ·rcases abn.1 hj with rfl | hj
   ·exact .inl (.head _)
   ·exact (i5 j hj).imp (fun q => .tail _ q) fun q=>by omega
theorem acH {N:Nat} {E:List Ed} {x:AV} {g A:Nat} (hE:pq N E) (hA:A∉ak x/\A≠g):∀ (f:Nat) (l out:List Nat) (steps:Nat) (lx:AV) (H:Hp),0<steps->steps+f<=100->out.length=N->l.length<=100->(l=[]\/eY out<f)->Rw H 1 lx (ints (dF l))->A∉ak lx->RL H 2 x (jK E)->Cs H g [.int .i64 N,x] 201 0->Cs H A (ints (dF out)) 3 0->
  ∃ H',(∀ k:K.Fn 1,BA JN GO cK k (.ptr g 0) (.slice A 0 N N true 1) lx (.int .i64 steps) H=k (.slice A 0 N N true 1) H')/\Cs H' A (ints (dF (tY (fun n=>jU E n false) f l out steps))) 3 0/\Out [A] H H':=by
 have UG:∀ (out:List Nat) (steps:Nat) (lx:AV) (H:Hp),Rw H 1 lx (ints (dF []))->∀ k:K.Fn 1,BA JN GO cK k (.ptr g 0) (.slice A 0 N N true 1) lx (.int .i64 steps) H=k (.slice A 0 N N true 1) H:=by
  intro out steps lx H eW k
  have hl:=eW.kC
  have qG:aV lx=some (.int .i64 0):=hl
  rw[Y6]
  simp only[Pf,qG,aj,ai,simprocAttr]
 intro f
 induction f with
 | zero=>
  intro l out steps lx H hs MZ jk kK hz eW YM hx hg hC
  obtain rfl:=hz.resolve_right (by omega)
  exact⟨H,UG out steps lx H eW,hC,Out.refl _ _⟩
 | succ f ih=>
  intro l out steps lx H hs MZ jk kK hz eW YM hx hg hC
  by_cases qm:l=[]
  ·subst qm
   refine⟨H,UG out steps lx H eW,?_,Out.refl _ _⟩
   unfold tY
   rw[if_pos rfl];exact hC
  ·have hlp:0<l.length:=List.length_pos_iff.2 qm
   have S:=Lb (sc:=fun n=>jU E n false) hs l (out,[])
   have fD:=S.Bg
   simp only[acm,adx] at fD
   have hzN:eY out<=N:=by unfold eY;rw[<-jk];exact List.countP_le_length
   have hN:=hE.n
   obtain⟨ny,H1,i1,i2,i3,i4,i5⟩:=Up hE hs kK ⟨YM,hA.1,hA.2⟩ l 0 H out [] .ah (ab2 _) abJ eW hx hg (fun j hj=>by cases hj) jk (by simp;omega) hC .nil
   have o1:Out [A] H H1:=i4.mono fun j hj=>by
    rcases abn.1 hj with rfl | hj
    ·exact .head _
    ·cases hj
   have CI:∀ j∈ak ny,H.next<=j:=fun j hj=>(i5 j hj).elim (fun q=>by cases q) id
   obtain⟨H',k1,k2,k3⟩:=ih _ _ (steps+1) ny H1 (by omega) (by omega) (S.len.trans jk) (by omega) (by
    have:=hz.resolve_left qm
    cases KS:(sL (fun n=>jU E n false) steps l (out,[])).2 with
    | nil=>exact .inl rfl
    | cons p q=>rw[KS] at fD;simp only[abx] at fD;exact .inr (by omega)) i3.rw (fun q=>by have:=CI A q;have:=hC.1;omega) (hx.out o1 fun j hj=>by rw[aan];intro e;subst e;exact hA.1 hj) (hg.out o1 (by rw[aan];exact fun e=>hA.2 e.symm)) i2
   refine⟨H',fun k => ?_,?_,o1.trans k3⟩
   ·have hl:=eW.kC
    rw[kU,wK] at hl
    have d:decide ((0:Int)<((l.length:Nat):Int))=true:=decide_eq_true (by omega)
    have e:IntKind.wrap .i64 ((steps:Int)+1)=((steps+1:Nat):Int):=by rw[wrap_i64 (by omega) (by omega)];rfl
    rw[show (((0:Nat):Int))=0 from rfl] at i1
    rw[Y6]
    simp only[Pf,hl,d,i1,e,k1,aj,ai,simprocAttr]
   ·unfold tY
    rw[if_neg qm];exact k2
theorem Si {N:Nat} {E:List Ed} {x:AV} {H:Hp} {n:Nat} (hE:pq N E) (hx:RL H 2 x (jK E)):∃ A H',cK (.func (.func 156) [] []) [gv N x,.int .i64 n] H=some (.slice A 0 N N true 1,H')/\Cs H' A (ints (dF (far (fun n=>jU E n false) N n))) 3 0/\Out [] H H'/\H.next<=A:=by
 have kR:=hx.one
 have hN:=hE.n
 have mq:=aN H [.int .i64 N,x] 201 0
 have hm:=SG (H:=al H [.int .i64 N,x] 201 0) (z := .int .i64 0) (el:=3) (n:=N) .i64 .i64 (by omega)
 have aiI:List.replicate N (AV.int .i64 0)=ints (dF (List.replicate N 0)):=by simp[ints,dF]
 rw[cj,aiI] at hm
 have nF:=mq.al (ints (dF (List.replicate N 0))) 3 0
 have c2:=bD (al H [.int .i64 N,x] 201 0) (ints (dF (List.replicate N 0))) 3 0
 have c1:=(bD H [.int .i64 N,x] 201 0).out (aN (al H [.int .i64 N,x] 201 0) (ints (dF (List.replicate N 0))) 3 0) (by simp)
 have o3:=aN (al (al H [.int .i64 N,x] 201 0) (ints (dF (List.replicate N 0))) 3 0) [.int .i64 (n:Int)] 3 0
 have vJ:=nF.trans o3
 have c3:=bD (al (al H [.int .i64 N,x] 201 0) (ints (dF (List.replicate N 0))) 3 0) [.int .i64 (n:Int)] 3 0
 have Qt:Rw (al (al (al H [.int .i64 N,x] 201 0) (ints (dF (List.replicate N 0))) 3 0) [.int .i64 (n:Int)] 3 0) 1 (.slice (H.next+2) 0 1 1 true 1) (ints (dF [n])) := .mk c3.ro rfl (abe _) rfl
 have eC:=hx.1.lt
 obtain⟨H',i1,i2,i3⟩:=acH (g:=H.next) (A:=H.next+1) hE ⟨fun q=>by have:=eC _ q;omega,by omega⟩ (N+1) [n] (List.replicate N 0) 1 (.slice (H.next+2) 0 1 1 true 1) _ (by decide) (by omega) (by simp) (by simp) (.inr (by rw[S9];omega)) Qt (by rw[mr (by rfl),aan];omega) (hx.aw vJ) (c1.out o3 (by simp)) (c2.out o3 (by simp))
 refine⟨H.next+1,H',akI ?_,i2,vJ.then i3 fun j hj=>by rw[aan] at hj;exact .inr (by omega),by omega⟩
 rw[show (((1:Nat):Int))=1 from rfl] at i1
 unfold Tp
 simp(disch:=(first|assumption|omega|(simp only[ag,af,simprocAttr]<;>fail)|(simp only[af];omega)|(simp only[ag,af,simprocAttr, *]<;>fail)|fail))only[hm,i1,au,ar,aj,ai,simprocAttr]
abbrev tf (E:List Ed) (N n:Nat):List Nat:=far (fun n=>jU E n false) N n
theorem ai7 {sc:Nat->List Nat} {B:Nat}:∀ (f:Nat) (l out:List Nat) (steps:Nat),steps+f<=B->(∀ v∈out,v<=B)->∀ v∈tY sc f l out steps,v<=B:=by
 have h1:∀ (steps b:Nat) (s:List Nat × List Nat),steps<=B->(∀ v∈s.1,v<=B)->∀ v∈(rH steps s b).1,v<=B:=by
  intro steps b s hs h v hv
  unfold rH at hv
  split at hv
  ·rcases afK hv with hv | rfl
   ·exact h v hv
   ·exact hs
  ·exact h v hv
 have h2:∀ (steps:Nat) (bs:List Nat) (s:List Nat × List Nat),steps<=B->(∀ v∈s.1,v<=B)->∀ v∈(qq steps bs s).1,v<=B:=by
  intro steps bs
  induction bs with
  | nil=>intro s hs h;exact h
  | cons b bs ih=>intro s hs h;exact ih _ hs (h1 steps b s hs h)
 have h3:∀ (steps:Nat) (l:List Nat) (s:List Nat × List Nat),steps<=B->(∀ v∈s.1,v<=B)->∀ v∈(sL sc steps l s).1,v<=B:=by
  intro steps l
  induction l with
  | nil=>intro s hs h;exact h
  | cons b bs ih=>intro s hs h;exact ih _ hs (h2 steps _ s hs h)
 intro f
 induction f with
 | zero=>intro l out steps hs h;exact h
 | succ f ih=>
  intro l out steps hs h
  unfold tY
  split
  ·exact h
  ·exact ih _ _ _ (by omega) (h3 steps l _ (by omega) h)
theorem amp {E:List Ed} {N n:Nat} (hN:N<=16):∀ v∈tf E N n,v<=100:=by
 refine ai7 _ _ _ _ (by omega) ?_
 intro v hv
 rw[List.eq_of_mem_replicate hv];omega
theorem afN {N n:Nat} {E:List Ed} (hE:pq N E):(tf E N n).length=N:=
 (ahA (C:=fun _=>True) (fun a b hb=>(hE.lt _ (Rk.1.1 hb)).2.1) (fun _ _=>trivial) (fun _ _ _ _=>trivial)).1
def sd (E:List Ed) (N n:Nat):Nat:=(tf E N n).getD n 0
theorem XT {N n m:Nat} {E:List Ed} (hE:pq N E) (hm:m<N):(tf E N n)[m]? = some ((tf E N n).getD m 0):=by
 rw[afz,aaM (by rw[afN hE];exact hm)];rfl
theorem XG {N n m:Nat} {E:List Ed} {H':Hp} {A:Nat} (hE:pq N E) (hm:m<N) (hC:Cs H' A (ints (dF (tf E N n))) 3 0):ia 1 (.slice A 0 N N true 1) (.int .i64 (m:Int))=some (.ptr A m)/\cellAt H' A m=some (.int .i64 (((tf E N n).getD m 0:Nat):Int)):=
 ⟨by rw[yL hm];simp,hC.cellAt (Cu (XT hE hm))⟩
theorem ajY {N n m:Nat} {E:List Ed} (hE:pq N E) (hm:m<N):(tf E N n).getD m 0<=100:=amp hE.n _ (aa2 (XT hE hm))
theorem alX {N:Nat} {E:List Ed} {x:AV} {g:Nat} (hE:pq N E):∀ (m i st sp:Nat) (H:Hp),i+m=N->st<N+1->(0<sp->st<N)->sp<=100->(sp=0 ↔ ∀ n,n<i->sd E N n=0)->RL H 2 x (jK E)->Cs H g [.int .i64 N,x] 201 0->
  ∃ vt tA H',(∀ k:K.Fn 3,EO JN GO cK k (.ptr g 0) (.int .i64 st) (.int .i64 sp) (.int .i64 N) (.int .i64 i) H=k (.ptr g 0) (.int .i64 (vt:Nat)) (.int .i64 (tA:Nat)) H')/\(0<tA->vt<N)/\tA<=100/\(tA=0 ↔ ∀ n,n<N->sd E N n=0)/\Out [] H H':=by
 intro m
 induction m with
 | zero=>
  intro i st sp H hi aD Jf ml NT hx hg
  obtain rfl:i=N:=by omega
  refine⟨st,sp,H,fun k => ?_,Jf,ml,NT,Out.refl _ _⟩
  rw[Gm]
  simp only[zC,fw,aj,ai,simprocAttr]
 | succ m ih=>
  intro i st sp H hi aD Jf ml NT hx hg
  have kR:=hx.one
  have hN:=hE.n
  have zf:i<N:=by omega
  have lK:av H g 0 2=some [.int .i64 N,x]:=hg.av 2 0 (by simp)
  obtain⟨A,H1,f1,f2,f3,f4⟩:=Si (n:=i) hE hx
  obtain⟨a1,a2⟩:=XG hE zf f2
  have hle:=ajY (n:=i) hE zf
  have hd:(tf E N i).getD i 0=sd E N i:=rfl
  rw[hd] at a2 hle
  have es:IntKind.wrap .i64 ((i:Int)+1)=((i+1:Nat):Int):=by rw[wrap_i64 (by omega) (by omega)];rfl
  have aQ:decide (((i:Nat):Int)<((N:Nat):Int))=true:=decide_eq_true (by omega)
  by_cases hk:0<sd E N i
  ·have dk:decide ((0:Int)<((sd E N i:Nat):Int))=true:=decide_eq_true (by omega)
   by_cases h0:sp=0
   ·obtain⟨vt,tA,H',i1,i2,i3,i4,i5⟩:=ih (i+1) i (sd E N i) H1 (by omega) (by omega) (fun _=>zf) hle ⟨fun q=>by omega,fun q=>by have:=q i (by omega);omega⟩ (hx.aw f3) (hg.out f3 (by simp))
    refine⟨vt,tA,H',fun k => ?_,i2,i3,i4,f3.trans i5⟩
    subst h0
    rw[Gm]
    simp(disch:=(first|assumption|omega|(simp only[ag,af,simprocAttr]<;>fail)|(simp only[af];omega)|(simp only[ag,af,simprocAttr, *]<;>fail)|fail))only[zC,aQ,lK,f1,a1,a2,dk,Int.natCast_zero,es,i1,au,ar,aj,ai,simprocAttr]
   ·have e0:((sp:Int)==0)=false:=beq_false_of_ne (by omega)
    by_cases h1:sd E N i<sp
    ·have dl:decide (((sd E N i:Nat):Int)<((sp:Nat):Int))=true:=decide_eq_true (by omega)
     obtain⟨vt,tA,H',i1,i2,i3,i4,i5⟩:=ih (i+1) i (sd E N i) H1 (by omega) (by omega) (fun _=>zf) hle ⟨fun q=>by omega,fun q=>by have:=q i (by omega);omega⟩ (hx.aw f3) (hg.out f3 (by simp))
     refine⟨vt,tA,H',fun k => ?_,i2,i3,i4,f3.trans i5⟩
     rw[Gm]
     simp(disch:=(first|assumption|omega|(simp only[ag,af,simprocAttr]<;>fail)|(simp only[af];omega)|(simp only[ag,af,simprocAttr, *]<;>fail)|fail))only[zC,aQ,lK,f1,a1,a2,dk,e0,dl,es,i1,au,ar,aj,ai,simprocAttr]
    ·have dl:decide (((sd E N i:Nat):Int)<((sp:Nat):Int))=false:=decide_eq_false (by omega)
     obtain⟨vt,tA,H',i1,i2,i3,i4,i5⟩:=ih (i+1) st sp H1 (by omega) aD Jf ml ⟨fun q=>by omega,fun q=>by have:=q i (by omega);omega⟩ (hx.aw f3) (hg.out f3 (by simp))
     refine⟨vt,tA,H',fun k => ?_,i2,i3,i4,f3.trans i5⟩
     rw[Gm]
     simp(disch:=(first|assumption|omega|(simp only[ag,af,simprocAttr]<;>fail)|(simp only[af];omega)|(simp only[ag,af,simprocAttr, *]<;>fail)|fail))only[zC,aQ,lK,f1,a1,a2,dk,e0,dl,es,i1,au,ar,aj,ai,simprocAttr]
  ·have Au:sd E N i=0:=by omega
   have dk:decide ((0:Int)<((sd E N i:Nat):Int))=false:=decide_eq_false (by omega)
   obtain⟨vt,tA,H',i1,i2,i3,i4,i5⟩:=ih (i+1) st sp H1 (by omega) aD Jf ml (NT.trans ⟨fun q n hn=>by
    by_cases hni:n=i
    ·subst hni;exact Au
    ·exact q n (by omega),fun q n hn=>q n (by omega)⟩) (hx.aw f3) (hg.out f3 (by simp))
   refine⟨vt,tA,H',fun k => ?_,i2,i3,i4,f3.trans i5⟩
   rw[Gm]
   simp(disch:=(first|assumption|omega|(simp only[ag,af,simprocAttr]<;>fail)|(simp only[af];omega)|(simp only[ag,af,simprocAttr, *]<;>fail)|fail))only[zC,aQ,lK,f1,a1,a2,dk,es,i1,au,ar,aj,ai,simprocAttr]
theorem Q7 {N:Nat} {E:List Ed} {x:AV} {g st left:Nat} {bl:List Nat} (hE:pq N E) (aD:st<N) (hJ:∀ b∈bl,b<N) (lr:bl.length<=300):∀ (r:List Nat) (i:Nat) (bx y:AV) (out:List Nat) (H:Hp),i<=bl.length->bl.drop i=r->Rw H 1 bx (ints (dF bl))->RL H 2 x (jK E)->Cs H g [.int .i64 N,x] 201 0->Ow H 3 1 y (ints (dF out))->out.length<=10000->
  ∃ y' kW H',(∀ (iQ:K.Fn 1) (mu lA:K.Fn 4),Fj JN GO cK iQ mu lA (.ptr g 0) (.int .i64 st) y (.int .i64 left) bx (.int .i64 (bl.length:Nat)) (.int .i64 (i:Nat)) H=lA (.ptr g 0) (.int .i64 st) y' (.int .i64 left) H')/\Ow H' 3 1 y' (ints (dF kW))/\(kW=out\/∃ b,b<N/\kW=out++[b])/\Out (ak y) H H'/\∀ j∈ak y',j∈ak y\/H.next<=j
 | [],i,bx,y,out,H,hi,h,hb,hx,hg,hO,jk=>by
  obtain rfl:=drop_nil hi h
  refine⟨y,out,H,fun iQ mu lA => ?_,hO,.inl rfl,Out.refl _ _,fun j hj => .inl hj⟩
  rw[Ko]
  simp only[CS,fw,aj,ai,simprocAttr]
 | b::r,i,bx,y,out,H,hi,h,hb,hx,hg,hO,jk=>by
  obtain⟨h1,h2,h3⟩:=fC h
  obtain⟨q,q1,q2⟩:=hb.jy (Cu h2) .i64
  have M5:=hJ b (aa2 h2)
  have es:=fF h1 (by omega)
  have kR:=hx.one
  have lK:av H g 0 2=some [.int .i64 N,x]:=hg.av 2 0 (by simp)
  by_cases rY:b=st
  ·have d:(((b:Nat):Int) != ((st:Nat):Int))=false:=by subst rY;simp
   obtain⟨y',kW,H',i1,i2⟩:=Q7 (left:=left) hE aD hJ lr r (i+1) bx y out H h1 h3 hb hx hg hO jk
   refine⟨y',kW,H',fun iQ mu lA => ?_,i2⟩
   rw[Ko]
   simp(disch:=(first|assumption|omega|(simp only[ag,af,simprocAttr]<;>fail)|(simp only[af];omega)|(simp only[ag,af,simprocAttr, *]<;>fail)|fail))only[CS,bN h1,q1,q2,d,es,i1,au,ar,aj,ai,simprocAttr]
  ·have d:(((b:Nat):Int) != ((st:Nat):Int))=true:=by simp;omega
   obtain⟨A,H1,f1,f2,f3,f4⟩:=Si (n:=b) hE hx
   obtain⟨a1,a2⟩:=XG hE aD f2
   by_cases hl:(tf E N b).getD st 0=left
   ·have d2:((((tf E N b).getD st 0:Nat):Int)==((left:Nat):Int))=true:=by rw[hl];simp
    obtain⟨y1,H2,p1,p2,p3,p4,p5⟩:=vP (fU:=3) (z:=[(.int .i64 0)]) (vs:=[.int .i64 (b:Int)]) (hO.out f3 (by simp)) rfl rfl (by decide) (by rw[kU,wK];simp;omega)
    have pW:ints (dF out)++[.int .i64 (b:Int)]=ints (dF (out++[b])):=by rw[Pc,JE];rfl
    rw[pW] at p2
    have kg:=f3.nx
    refine⟨y1,out++[b],H2,fun iQ mu lA => ?_,p2,.inr ⟨b,M5,rfl⟩,(f3.mono fun j hj=>by cases hj).trans p3,fun j hj=>(p4 j hj).imp id fun q=>by omega⟩
    have iY:=p1 _ rfl
    rw[Ko]
    simp(disch:=(first|assumption|omega|(simp only[ag,af,simprocAttr]<;>fail)|(simp only[af];omega)|(simp only[ag,af,simprocAttr, *]<;>fail)|fail))only[CS,bN h1,q1,q2,d,lK,f1,a1,a2,d2,iY,au,ar,aj,ai,simprocAttr]
   ·have d2:((((tf E N b).getD st 0:Nat):Int)==((left:Nat):Int))=false:=beq_false_of_ne (by omega)
    obtain⟨y',kW,H',i1,i2,i3,i4,i5⟩:=Q7 (left:=left) hE aD hJ lr r (i+1) bx y out H1 h1 h3 (hb.aw f3) (hx.aw f3) (hg.out f3 (by simp)) (hO.out f3 (by simp)) jk
    have kg:=f3.nx
    refine⟨y',kW,H',fun iQ mu lA => ?_,i2,i3,(f3.mono fun j hj=>by cases hj).trans i4,fun j hj=>(i5 j hj).imp id fun q=>by omega⟩
    rw[Ko]
    simp(disch:=(first|assumption|omega|(simp only[ag,af,simprocAttr]<;>fail)|(simp only[af];omega)|(simp only[ag,af,simprocAttr, *]<;>fail)|fail))only[CS,bN h1,q1,q2,d,lK,f1,a1,a2,d2,es,i1,au,ar,aj,ai,simprocAttr]
theorem aet {N:Nat} {E:List Ed} {x:AV} {g st:Nat} (hE:pq N E) (aD:st<N):∀ (left:Nat) (y:AV) (out:List Nat) (H:Hp),out≠[]->(∀ b∈out,b<N)->out.length+left<=1000->RL H 2 x (jK E)->Cs H g [.int .i64 N,x] 201 0->Ow H 3 1 y (ints (dF out))->(∀ j∈ak y,j∉ak x/\j≠g)->
  ∃ y' kW H',(∀ k:K.Fn 1,FX JN GO cK k (.ptr g 0) (.int .i64 st) y (.int .i64 left) H=k y' H')/\Ow H' 3 1 y' (ints (dF kW))/\kW≠[]/\Out (ak y) H H':=by
 intro left
 induction left with
 | zero=>
  intro y out H h0 aQ hn hx hg hO hd
  refine⟨y,out,H,fun k => ?_,hO,h0,Out.refl _ _⟩
  have d:decide ((0:Int)<((0:Nat):Int))=false:=rfl
  rw[ZK]
  simp only[QM,d,aj,ai,simprocAttr]
 | succ left ih=>
  intro y out H h0 aQ hn hx hg hO hd
  have ba:0<out.length:=List.length_pos_iff.2 h0
  have kR:=hx.one
  have lK:av H g 0 2=some [.int .i64 N,x]:=hg.av 2 0 (by simp)
  have yo:=hO.rw.kC
  rw[kU,wK] at yo
  obtain⟨a,ha⟩:∃ a,out[out.length-1]? = some a:=⟨_,aaM (by omega)⟩
  obtain⟨q,q1,q2⟩:=hO.rw.jy (Cu ha) .i64
  have hEl:=hE.len
  have hJ:∀ b∈jU E a false,b<N:=fun b hb=>(hE.lt _ (Rk.1.1 hb)).2.1
  have lr:=XM E a false
  obtain⟨bx,H1,b1,b2,b3,b4⟩:=Vo a hE hx
  have Wg:=b2.rw.kC
  rw[kU,wK] at Wg
  have Gh:=hO.rw.lt
  obtain⟨y1,K5,H2,i1,i2,i3,i4,i5⟩:=Q7 (left:=left+1) hE aD hJ (by omega) (jU E a false) 0 bx y out H1 (ab2 _) abJ b2.rw (hx.aw b3) (hg.out b3 (by simp)) (hO.out b3 (by simp)) (by omega)
  have kg:=b3.nx
  have o2:Out (ak y) H H2:=(b3.mono fun j hj=>by cases hj).trans i4
  have eC:=hx.1.lt
  have xF:=hg.1
  have iG:∀ j∈ak y1,j∈ak y\/H.next<=j:=fun j hj=>(i5 j hj).imp id fun q=>by omega
  have OS:K5≠[]/\(∀ b∈K5,b<N)/\K5.length<=out.length+1:=by
   rcases i3 with rfl | ⟨b,hb,rfl⟩
   ·exact⟨h0,aQ,by omega⟩
   ·refine⟨by simp,fun c hc => ?_,by simp⟩
    rcases abP.1 hc with hc | hc
    ·exact aQ c hc
    ·rw[aan] at hc;subst hc;exact hb
  obtain⟨y',kW,H',k1,k2,k3,k4⟩:=ih y1 K5 H2 OS.1 OS.2.1 (by have:=OS.2.2;omega) (hx.out o2 fun j hj q=>(hd j q).1 hj) (hg.out o2 fun q=>(hd g q).2 rfl) i2 (fun j hj=>(iG j hj).elim (hd j) fun q=>⟨fun z=>by have:=eC j z;omega,by omega⟩)
  refine⟨y',kW,H',fun k => ?_,k2,k3,o2.then k4 iG⟩
  have d:decide ((0:Int)<((left+1:Nat):Int))=true:=decide_eq_true (by omega)
  have e1:IntKind.wrap .i64 (((out.length:Nat):Int)-1)=((out.length-1:Nat):Int):=by rw[wrap_i64 (by omega) (by omega)];omega
  have e2:IntKind.wrap .i64 (((left+1:Nat):Int)-1)=((left:Nat):Int):=by rw[wrap_i64 (by omega) (by omega)];omega
  rw[show (((0:Nat):Int))=0 from rfl] at i1
  rw[ZK]
  simp(disch:=(first|assumption|omega|(simp only[ag,af,simprocAttr]<;>fail)|(simp only[af];omega)|(simp only[ag,af,simprocAttr, *]<;>fail)|fail))only[QM,d,lK,yo,e1,q1,q2,b1,Wg,i1,e2,k1,au,ar,aj,ai,simprocAttr]
def zj (N:Nat) (E:List Ed):Prop:=∀ n,n<N->sd E N n=0
theorem abL {N:Nat} {E:List Ed} {x:AV} {H:Hp} (hE:pq N E) (hx:RL H 2 x (jK E)):∃ (y:AV) (k:Nat) (H':Hp),cK (.func (.func 126) [] []) [gv N x] H=some (y,H')/\aV y=some (.int .i64 k)/\(k=0↔zj N E)/\Out [] H H':=by
 have kR:=hx.one
 have hN:=hE.n
 have mq:=aN H [.int .i64 N,x] 201 0
 have c1:=bD H [.int .i64 N,x] 201 0
 obtain⟨H2,g1,g2⟩:=V9 hE (hx.aw mq)
 have gT:=g2.nx
 rw[cj] at gT
 have nF:=mq.trans g2
 have c2:=c1.out g2 (by simp)
 obtain⟨st,sp,H3,i1,i2,i3,i4,i5⟩:=alX (g:=H.next) hE N 0 0 0 H2 (by omega) (by omega) (by omega) (by omega) ⟨fun _ n hn=>by omega,fun _=>rfl⟩ (hx.aw nF) c2
 rw[show (((0:Nat):Int))=0 from rfl] at i1
 have BZ:cellAt H2 H.next 0=some (.int .i64 N):=c2.cellAt rfl
 have vJ:=nF.trans i5
 have c3:=c2.out i5 (by simp)
 have zg:=i5.nx
 by_cases h0:sp=0
 ·refine⟨.ah,0,H3,aa6 ?_,rfl,⟨fun _=>i4.1 h0,fun _=>rfl⟩,vJ⟩
  subst h0
  unfold Lf
  simp(disch:=(first|assumption|omega|(simp only[ag,af,simprocAttr]<;>fail)|(simp only[af];omega)|(simp only[ag,af,simprocAttr, *]<;>fail)|fail))only[g1,BZ,i1,Int.natCast_zero,au,ar,aj,ai,simprocAttr]
 ·have Tn:=i2 (by omega)
  have c4:=bD H3 [.int .i64 (st:Int)] 3 0
  have o4:=aN H3 [.int .i64 (st:Int)] 3 0
  have hO:Ow (al H3 [.int .i64 (st:Int)] 3 0) 3 1 (.slice H3.next 0 1 1 true 1) (ints (dF [st])):=c4.ow (by decide) rfl (by intro v hv;rw[aan] at hv;subst hv;rfl) true
  have eC:=hx.1.lt
  obtain⟨y,out,H5,k1,k2,k3,k4⟩:=aet (g:=H.next) hE Tn (sp-1) _ [st] _ (by simp) (by intro b hb;rw[aan] at hb;subst hb;exact Tn) (by simp;omega) (hx.aw (vJ.trans o4)) (c3.out o4 (by simp)) hO (fun j hj=>by
   rw[mr (by rfl),aan] at hj
   exact⟨fun q=>by have:=eC j q;omega,by omega⟩)
  have yo:=k2.rw.kC
  rw[kU,wK] at yo
  have ba:0<out.length:=List.length_pos_iff.2 k3
  refine⟨y,out.length,H5,aa6 ?_,yo,⟨fun q=>by omega,fun q=>absurd (i4.2 q) h0⟩,(vJ.trans o4).then k4 fun j hj => ?_⟩
  ·have d:(((sp:Nat):Int)==0)=false:=beq_false_of_ne (by omega)
   have e:IntKind.wrap .i64 (((sp:Nat):Int)-1)=((sp-1:Nat):Int):=by rw[wrap_i64 (by omega) (by omega)];omega
   unfold Lf
   simp(disch:=(first|assumption|omega|(simp only[ag,af,simprocAttr]<;>fail)|(simp only[af];omega)|(simp only[ag,af,simprocAttr, *]<;>fail)|fail))only[g1,BZ,i1,d,e,k1,au,ar,aj,ai,simprocAttr]
  ·rw[mr (by rfl),aan] at hj;exact .inr (by omega)
abbrev rq:aq:=[97,98,99,100,101,102,103,104,105,106,107,108,109,110,111,112,113,114,115,116,117,118,119,120,121,122,48,49,50,51,52,53,54,55,56,57]
noncomputable def vl (s:aq):Bool := !(s==[])&&(decide ((s.length:Int)<=16)&&(yh s rq==[]))
theorem KZ (s:aq) (H:Hp):cK (.func (.func 54) [] []) [.str s] H=some (.bool (vl s),H):=by
 refine alE ?_
 unfold Xo vl
 cases h0:(s==[]) with
 | true=>simp only[h0,ah2,ac5,aj,ai,simprocAttr]
 | false=>
  by_cases h1:(s.length:Int)<=16
  ·have ht:=agE s rq H (by omega) (by decide) (by decide)
   simp only[h0,h1,ht,ac2,aj,ai,simprocAttr]
  ·simp only[h0,h1,ac2,ac5,aj,ai,simprocAttr]
noncomputable def qf (s:aq):Option Nat:=if s.length<=4 then (match Lib.atoiAll (u9 s) with | .ok v=>if dec v=s/\0<=v then some v.toNat else none | _=>none) else none
theorem aag (T:Nat) (v:AV) (H:Hp):gA P .eql 183 true (.iface T v) .nilIface=true/\eS P .eql 183 (.iface T v) .nilIface H=some (.bool false):=by
 have hu:∃ m,P.underlying 183=some (.interface m):=⟨_,Tryz.underlying183⟩
 obtain⟨m,hu⟩:=hu
 refine⟨rfl,?_⟩
 unfold eS dZ
 simp only[hu];rfl
theorem aij (H:Hp):gA P .eql 183 true .nilIface .nilIface=true/\eS P .eql 183 .nilIface .nilIface H=some (.bool true):=by
 have hu:∃ m,P.underlying 183=some (.interface m):=⟨_,Tryz.underlying183⟩
 obtain⟨m,hu⟩:=hu
 refine⟨rfl,?_⟩
 unfold eS dZ
 simp only[hu];rfl
theorem aeq {s:aq} (hs:s.length<=4) {v:Int} (h:Lib.atoiAll (u9 s) = .ok v) : -9223372036854775808<=v/\v<=9223372036854775807:=by
 unfold Lib.atoiAll at h
 split at h
 ·cases h
 ·simp only at h
  split at h
  ·cases h
  ·cases h
  ·split at h
   ·cases h
   ·split at h
    ·cases h
    ·injection h with h
     rename_i h1 h2
     split at h<;>omega
theorem abH {s:aq} {H:Hp} (hg:Gl H):∃ n ok H',cK (.func (.func 153) [] []) [.str s] H=some (.tuple [.int .i64 n,.bool ok],H')/\(qf s=if ok then some n.toNat else none)/\(ok=true->0<=n)/\Out [] H H':=by
 by_cases hl:s.length<=4
 ·have d:decide ((4:Int)<(s.length:Int))=false:=decide_eq_false (by omega)
  have ha:=agC (s:=s) (by omega) hg
  have uC:qf s=(match Lib.atoiAll (u9 s) with | .ok v=>if dec v=s/\0<=v then some v.toNat else none | _=>none):=by unfold qf;rw[if_pos hl]
  unfold I6 at ha
  cases hr:Lib.atoiAll (u9 s) with
  | ok v=>
   rw[hr] at ha uC
   obtain⟨b1,b2⟩:=aeq hl hr
   obtain⟨H',i1,i2⟩:=Yp b1 b2 hg
   have hn:=aij H
   by_cases h1:dec v=s
   ·have e1:(dec v==s)=true:=by rw[h1];simp
    refine⟨v,decide (0<=v),H',EP ?_,?_,fun q=>by simpa using q,i2⟩
    ·unfold CX
     simp(disch:=(first|assumption|omega|(simp only[ag,af,simprocAttr]<;>fail)|(simp only[af];omega)|(simp only[ag,af,simprocAttr, *]<;>fail)|fail))only[d,ha,hn.1,hn.2,lL,i1,e1,au,ar,aj,ai,simprocAttr]
    ·rw[uC]
     by_cases h0:0<=v<;>simp[h1,h0]
   ·have e1:(dec v==s)=false:=beq_false_of_ne h1
    refine⟨v,false,H',EP ?_,?_,(fun q=>by cases q),i2⟩
    ·unfold CX
     simp(disch:=(first|assumption|omega|(simp only[ag,af,simprocAttr]<;>fail)|(simp only[af];omega)|(simp only[ag,af,simprocAttr, *]<;>fail)|fail))only[d,ha,hn.1,hn.2,lL,i1,e1,au,ar,aj,ai,simprocAttr]
    ·rw[uC];simp[h1]
  | range=>
   rw[hr] at ha uC
   have hn:=aag 269 .du H
   refine⟨Lib.atoiSat (u9 s),false,H,EP ?_,by rw[uC];rfl,(fun q=>by cases q),Out.refl _ _⟩
   unfold CX
   simp(disch:=(first|assumption|omega|(simp only[ag,af,simprocAttr]<;>fail)|(simp only[af];omega)|(simp only[ag,af,simprocAttr, *]<;>fail)|fail))only[d,ha,hn.1,hn.2,lL,au,ar,aj,ai,simprocAttr]
  | _=>
   rw[hr] at ha uC
   have hn:=aag 269 .du H
   refine⟨0,false,H,EP ?_,by rw[uC];rfl,(fun q=>by cases q),Out.refl _ _⟩
   unfold CX
   simp(disch:=(first|assumption|omega|(simp only[ag,af,simprocAttr]<;>fail)|(simp only[af];omega)|(simp only[ag,af,simprocAttr, *]<;>fail)|fail))only[d,ha,hn.1,hn.2,lL,au,ar,aj,ai,simprocAttr]
 ·have d:decide ((4:Int)<(s.length:Int))=true:=decide_eq_true (by omega)
  refine⟨0,false,H,EP ?_,by unfold qf;rw[if_neg hl];rfl,(fun q=>by cases q),Out.refl _ _⟩
  unfold CX
  simp(disch:=(first|assumption|omega|(simp only[ag,af,simprocAttr]<;>fail)|(simp only[af];omega)|(simp only[ag,af,simprocAttr, *]<;>fail)|fail))only[d,au,ar,aj,ai,simprocAttr]
structure Tk where
 name:aq
 after:List Int
 dG:Int
 wait:Int
 base:Int
 on:aq
 deriving DecidableEq
def aK (t:Tk) (x:AV):List AV:=[.str t.name,x,.int .i64 t.dG,.int .i64 t.wait,.int .i64 t.base,.str t.on]
def lE (dx:AV) (xs:List AV):List Nat:=ak dx++xs.flatMap ak
structure RD (H:Hp) (dx:AV) (xs:List AV) (ts:List Tk):Prop where
 len:xs.length=ts.length
 row:RL H 6 dx (List.zipWith aK ts xs)
 jm:∀ (i:Nat) (x:AV) (t:Tk),xs[i]? = some x->ts[i]? = some t->Rw H 1 x (ints t.after)
theorem RD.out {H H':Hp} {dx:AV} {xs:List AV} {ts:List Tk} {S:List Nat} (h:RD H dx xs ts) (k:Out S H H') (hs:∀ j∈lE dx xs,j∉S):RD H' dx xs ts:=
 ⟨h.len,h.row.out k fun j hj=>hs j (abG _ hj),fun i x t hx ht=>(h.jm i x t hx ht).out k fun j hj=>hs j (abB _ (agl.2 ⟨x,aa2 hx,hj⟩))⟩
theorem RD.aw {H H':Hp} {dx:AV} {xs:List AV} {ts:List Tk} (h:RD H dx xs ts) (k:Out [] H H'):RD H' dx xs ts:=h.out k fun _ _ q=>by cases q
theorem RD.lt {H:Hp} {dx:AV} {xs:List AV} {ts:List Tk} (h:RD H dx xs ts):∀ j∈lE dx xs,j<H.next:=by
 intro j hj
 rcases abP.1 hj with hj | hj
 ·exact h.row.1.lt j hj
 ·obtain⟨x,hx,hj⟩:=agl.1 hj
  obtain⟨i,hi⟩:=ac1 hx
  have hit:i<ts.length:=by rw[<-h.len];exact (aaK.1 hi).1
  exact (h.jm i x _ hi (aaM hit)).lt j hj
theorem RD.at {H:Hp} {dx:AV} {xs:List AV} {ts:List Tk} (h:RD H dx xs ts) {i:Nat} {t:Tk} (ht:ts[i]? = some t) :
  ∃ x b o,xs[i]? = some x/\bq x=true/\Rw H 1 x (ints t.after)/\(∀ k,ia 6 dx (.int k i)=some (.ptr b o))/\b<H.next/\av H b o 6=some (aK t x)/\cellAt H b o=some (.str t.name):=by
 have hi:=(aaK.1 ht).1
 have hx:xs[i]? = some (xs[i]'(by rw[h.len];exact hi)):=aaM _
 have hw:=h.jm i _ t hx ht
 have hz:(List.zipWith aK ts xs)[i]? = some (aK t (xs[i]'(by rw[h.len];exact hi))):=by rw[adE,ht,hx]
 obtain⟨b,o,h1,h2,h3,h4,h5⟩:=h.row.at (by decide) hz
 exact⟨_,b,o,hx,hw.one,hw,h1,h3,h4,by have:=h5 0 _ rfl;rw[adx] at this;exact this⟩
theorem RD.aV {H:Hp} {dx:AV} {xs:List AV} {ts:List Tk} (h:RD H dx xs ts):aV dx=some (.int .i64 (ts.length:Nat)):=by
 have:=h.row.len (by decide)
 rw[aeP,h.len,Nat.min_self] at this
 exact this
abbrev dv (dx:AV):AV := .agg [dx]
noncomputable def vz (t:Tk):Bool := !vl t.name||(!(t.on==[])&&!vl t.on)
def tH (t:Tk):Bool := !(decide (0<=t.dG)&&decide (t.dG<=8))||(!(decide (1<=t.wait)&&decide (t.wait<=1000))||!(decide (1<=t.base)&&decide (t.base<=1000)))
theorem sA (t:Tk) (x:AV):(aK t x)[0]? = some (.str t.name)/\(aK t x)[1]? = some x/\(aK t x)[2]? = some (.int .i64 t.dG)/\(aK t x)[3]? = some (.int .i64 t.wait)/\(aK t x)[4]? = some (.int .i64 t.base)/\(aK t x)[5]? = some (.str t.on):=⟨rfl,rfl,rfl,rfl,rfl,rfl⟩
theorem uf (t:Tk) (x:AV):(aK t x).length=6:=rfl
theorem Wm (t:Tk) (x:AV):(aK t x).take 6=aK t x:=rfl
theorem tT (t:Tk) (x:AV) (H:Hp):bx 99 (.agg (aK t x)) H=some (H.next,al H (aK t x) 99 0):=iE (by rw[uf];omega)
theorem wG (t:Tk) (x:AV) (hx:bq x=true) (H:Hp):st 6 (.ptr H.next 0) (.agg (aK t x)) (al H [(.str []),.ah,(.int .i64 0),(.int .i64 0),(.int .i64 0),(.str [])] 99 0)=some (al H (aK t x) 99 0):=
 kq (by simp[aK,Df,lU,hx]) rfl rfl (by decide) rfl
theorem amf (t:Tk) (x:AV) (i:Int) (H:Hp):∃ H',cK (.func (.func 120) [] []) [.int .i64 i,.agg (aK t x)] H=some (.bool (vz t),H')/\Out [] H H':=by
 refine⟨al H (aK t x) 99 0,ahV ?_,aN _ _ _ _⟩
 obtain⟨e0,e1,e2,e3,e4,e5⟩:=sA t x
 unfold SI vz
 cases h1:vl t.name with
 | false=>simp(disch:=(first|assumption|omega|(simp only[ag,af,simprocAttr]<;>fail)|(simp only[af];omega)|(simp only[ag,af,simprocAttr, *]<;>fail)|fail))only[tT,e0,e5,KZ,h1,ah5,Bool.true_or,au,ar,aj,ai,simprocAttr]
 | true=>
  cases h2:(t.on==[]) with
  | true=>simp(disch:=(first|assumption|omega|(simp only[ag,af,simprocAttr]<;>fail)|(simp only[af];omega)|(simp only[ag,af,simprocAttr, *]<;>fail)|fail))only[tT,e0,e5,KZ,h1,h2,ah2,Bool.false_or,ac5,au,ar,aj,ai,simprocAttr]
  | false=>simp(disch:=(first|assumption|omega|(simp only[ag,af,simprocAttr]<;>fail)|(simp only[af];omega)|(simp only[ag,af,simprocAttr, *]<;>fail)|fail))only[tT,e0,e5,KZ,h1,h2,ah2,ah5,Bool.false_or,ac2,au,ar,aj,ai,simprocAttr]
theorem aiU (t:Tk) (x:AV) (i:Int) (H:Hp):∃ H',cK (.func (.func 122) [] []) [.int .i64 i,.agg (aK t x)] H=some (.bool (tH t),H')/\Out [] H H':=by
 refine⟨al H (aK t x) 99 0,adK ?_,aN _ _ _ _⟩
 obtain⟨e0,e1,e2,e3,e4,e5⟩:=sA t x
 unfold Uc tH
 cases h1:(decide (0<=t.dG)&&decide (t.dG<=8)) with
 | false=>simp(disch:=(first|assumption|omega|(simp only[ag,af,simprocAttr]<;>fail)|(simp only[af];omega)|(simp only[ag,af,simprocAttr, *]<;>fail)|fail))only[tT,e2,e3,e4,pL,h1,ah5,Bool.true_or,au,ar,aj,ai,simprocAttr]
 | true=>
  cases h2:(decide (1<=t.wait)&&decide (t.wait<=1000)) with
  | false=>simp(disch:=(first|assumption|omega|(simp only[ag,af,simprocAttr]<;>fail)|(simp only[af];omega)|(simp only[ag,af,simprocAttr, *]<;>fail)|fail))only[tT,e2,e3,e4,pL,h1,h2,ah2,ah5,Bool.false_or,Bool.true_or,au,ar,aj,ai,simprocAttr]
  | true=>simp(disch:=(first|assumption|omega|(simp only[ag,af,simprocAttr]<;>fail)|(simp only[af];omega)|(simp only[ag,af,simprocAttr, *]<;>fail)|fail))only[tT,e2,e3,e4,pL,h1,h2,ah2,Bool.false_or,au,ar,aj,ai,simprocAttr]
def qi (n:Int) (i:Int) (pre:List Int):List Int->Bool
 | []=>true
 | a::l=>(decide (0<=a)&&decide (a<=n-1))&&(!(i==a)&&(!(pre.any (fun b=>a==b))&&qi n i (pre++[a]) l))
theorem Y5 {dx:AV} {n:Nat} {l:List Int} {lx:AV} {g:Nat} {i:Int} (hn:n<=100000) (hl:l.length<=100000) (sJ:aV dx=some (.int .i64 n)):∀ (r:List Int) (k:Nat) (H:Hp) (j4:K.Fn 0),k<=l.length->l.drop k=r->Rw H 1 lx (ints l)->cellAt H g 0=some dx->
  Eu JN GO cK j4 (.int .i64 i) lx (.ptr g 0) lx (.int .i64 (l.length:Nat)) (.int .i64 (k:Nat)) H=if qi n i (l.take k) r then j4 H else some (.bool false,H)
 | [],k,H,j4,hk,h,eW,hg=>by
  obtain rfl:=drop_nil hk h
  rw[aae]
  simp only[zV,fw,qi,if_true,aj,ai,simprocAttr]
 | a::r,k,H,j4,hk,h,eW,hg=>by
  obtain⟨h1,h2,h3⟩:=fC h
  obtain⟨q,q1,q2⟩:=eW.jy (yE h2) .i64
  have es:=fF h1 (by omega)
  have ih:=Y5 (i:=i) hn hl sJ r (k+1) H j4 h1 h3 eW hg
  have pR:l.take (k+1)=l.take k++[a]:=by rw[agf,h2];rfl
  rw[pR] at ih
  have e1:IntKind.wrap .i64 ((n:Int)-1)=(n:Int)-1:=wrap_i64 (by omega) (by omega)
  obtain⟨tN,s1,s2,s3⟩:=Ft (n:=l.length) eW (by rw[kU,aeu]) (by decide) (a:=0) (b:=k) (lo:=none) (hi:=some (.int .i64 (k:Nat))) (ab2 _) hk (Bd.no 0) (Bd.yes _ _ _)
  have qc:((ints l).drop (0*1)).take ((k-0)*1)=ints (l.take k):=by simp[ints,List.map_take]
  rw[qc] at s2
  have oQ:=acL s2 (by rw[adA];omega) a
  rw[aae]
  unfold qi
  cases c1:(decide (0<=a)&&decide (a<=(n:Int)-1)) with
  | false=>simp(disch:=(first|assumption|omega|(simp only[ag,af,simprocAttr]<;>fail)|(simp only[af];omega)|(simp only[ag,af,simprocAttr, *]<;>fail)|fail))only[zV,bN h1,q1,q2,hg,sJ,e1,pL,c1,ac5,abD,if_false,au,ar,aj,ai,simprocAttr]
  | true=>
   cases c2:(a==i) with
   | true=>
    have zY:(i==a)=true:=by rw[beq_iff_eq] at c2 ⊢;exact c2.symm
    simp(disch:=(first|assumption|omega|(simp only[ag,af,simprocAttr]<;>fail)|(simp only[af];omega)|(simp only[ag,af,simprocAttr, *]<;>fail)|fail))only[zV,bN h1,q1,q2,hg,sJ,e1,pL,c1,c2,zY,ah2,ac5,Bool.and_false,abD,if_false,au,ar,aj,ai,simprocAttr]
   | false=>
    have zY:(i==a)=false:=by rw[<-afq,beq_iff_eq] at c2 ⊢;exact fun e=>c2 e.symm
    cases c3:((l.take k).any (fun b=>a==b)) with
    | true=>simp(disch:=(first|assumption|omega|(simp only[ag,af,simprocAttr]<;>fail)|(simp only[af];omega)|(simp only[ag,af,simprocAttr, *]<;>fail)|fail))only[zV,bN h1,q1,q2,hg,sJ,e1,pL,c1,c2,zY,s1,oQ,c3,ah2,ah5,ac5,Bool.and_false,ac2,abD,if_false,au,ar,aj,ai,simprocAttr]
    | false=>simp(disch:=(first|assumption|omega|(simp only[ag,af,simprocAttr]<;>fail)|(simp only[af];omega)|(simp only[ag,af,simprocAttr, *]<;>fail)|fail))only[zV,bN h1,q1,q2,hg,sJ,e1,pL,c1,c2,zY,s1,oQ,c3,es,ih,ah5,ac2,au,ar,aj,ai,simprocAttr]
theorem ake {dx:AV} {n:Nat} {l:List Int} {lx:AV} {i:Int} {H:Hp} (hn:n<=100000) (hl:l.length<=100000) (sJ:aV dx=some (.int .i64 n)) (gr:bq dx=true) (eW:Rw H 1 lx (ints l)) :
  cK (.func (.func 124) [] []) [dv dx,.int .i64 i,lx] H=some (.bool (qi n i [] l),al H [dx] 72 0):=by
 refine adv ?_
 have kK:=eW.kC
 rw[kU] at kK
 have h1:=fun j4=>Y5 (i:=i) (g:=H.next) hn hl sJ l 0 (al H [dx] 72 0) j4 (ab2 _) abJ (eW.aw (aN _ _ _ _)) (vQ rfl)
 rw[show (((0:Nat):Int))=0 from rfl,agv] at h1
 unfold Nr
 simp(disch:=(first|assumption|omega|(simp only[ag,af,simprocAttr]<;>fail)|(simp only[af];omega)|(simp only[ag,af,simprocAttr, *]<;>fail)|fail))only[kK,h1,au,ar,aj,ai,simprocAttr]
 cases qi n i [] l<;>rfl
theorem ane {dx:AV} {n p:Nat} {t:Tk} {x:AV} {i:Int} {H:Hp} (hn:n<=100000) (hl:t.after.length<=100000) (sJ:aV dx=some (.int .i64 n)) (gr:bq dx=true) (hp:cellAt H p 0=some dx) (lB:p<H.next) (hx:Rw H 1 x (ints t.after)) :
  ∃ H',cK (.func (.func 123) [] [.ptr p 0]) [.int .i64 i,.agg (aK t x)] H=some (.bool (!qi n i [] t.after),H')/\Out [] H H':=by
 have o1:=aN H (aK t x) 99 0
 have ha:=ake (i:=i) hn hl sJ gr (hx.aw o1)
 refine⟨al (al H (aK t x) 99 0) [dx] 72 0,ab4 ?_,o1.trans (aN _ _ _ _)⟩
 obtain⟨e0,e1,e2,e3,e4,e5⟩:=sA t x
 have hc:av H p 0 1=some [dx]:=by unfold av av;rw[hp];rfl
 unfold aau
 simp(disch:=(first|assumption|omega|(simp only[ag,af,simprocAttr]<;>fail)|(simp only[af];omega)|(simp only[ag,af,simprocAttr, *]<;>fail)|fail))only[tT,hc,e1,ha,au,ar,aj,ai,simprocAttr]
theorem Wt {S:List Nat} {p:Nat->Bool} {dx fv:AV} {xs:List AV} {ts:List Tk} (I:Nat->Hp->Prop) (hn:ts.length<=100000) (hS:∀ j∈lE dx xs,j∉S)
  (hI:∀ i H H',I i H->Out [] H H'->I i H')
  (hp:∀ i t x H,ts[i]? = some t->xs[i]? = some x->RD H dx xs ts->I i H->∃ H',cK fv [.int .i64 (i:Nat),.agg (aK t x)] H=some (.bool (p i),H')/\Out S H H'/\(p i=false->I (i+1) H')) :
  ∀ (r:List Tk) (i:Nat) (H:Hp),i<=ts.length->ts.drop i=r->RD H dx xs ts->I i H->
  ∃ H',(∀ k:K.Fn 0,Gw JN GO cK k fv dx (.int .i64 (ts.length:Nat)) (.int .i64 (i:Nat)) H=if (List.range' i r.length).any p then some (.bool true,H') else k H')/\Out S H H'/\((List.range' i r.length).any p=false->I ts.length H')
 | [],i,H,hi,h,hR,NK=>by
  obtain rfl:=drop_nil hi h
  refine⟨H,fun k => ?_,Out.refl _ _,fun _=>NK⟩
  rw[NM]
  simp only[Jc,fw,acm,List.range'_zero,List.any_nil,abD,if_false,aj,ai,simprocAttr]
 | t::r,i,H,hi,h,hR,NK=>by
  obtain⟨h1,h2,h3⟩:=fC h
  obtain⟨x,b,o,q0,q1,q2,q3,q4,q5,_⟩:=hR.at h2
  have es:=fF h1 (by omega)
  have o1:=aN H (aK t x) 99 0
  obtain⟨H1,c1,c2,c3⟩:=hp i t x _ h2 q0 (hR.aw o1) (hI _ _ _ NK o1)
  have o2:Out S H H1:=(o1.mono fun j hj=>by cases hj).trans c2
  have aD:=wG t x q1 H
  have JP:(List.range' i (t::r).length).any p=(p i||(List.range' (i+1) r.length).any p):=by rw[abx,aiw,List.any_cons]
  rw[JP]
  have AF:=uf t x
  have htt:=Wm t x
  cases sF:p i with
  | true=>
   refine⟨H1,fun k => ?_,o2,fun q=>by simp at q⟩
   rw[sF] at c1
   rw[NM]
   simp(disch:=(first|assumption|omega|(simp only[ag,af,simprocAttr]<;>fail)|(simp only[af];omega)|(simp only[ag,af,simprocAttr, *]<;>fail)|fail))only[Jc,bN h1,q3,q5,aD,AF,htt,c1,Bool.true_or,if_true,au,ar,aj,ai,simprocAttr]
  | false=>
   rw[sF] at c1
   obtain⟨H',i1,i2,i3⟩:=Wt I hn hS hI hp r (i+1) H1 h1 h3 (hR.out o2 hS) (c3 sF)
   refine⟨H',fun k => ?_,o2.trans i2,fun q=>i3 (by simpa using q)⟩
   rw[NM]
   simp(disch:=(first|assumption|omega|(simp only[ag,af,simprocAttr]<;>fail)|(simp only[af];omega)|(simp only[ag,af,simprocAttr, *]<;>fail)|fail))only[Jc,bN h1,q3,q5,aD,AF,htt,c1,es,i1,Bool.false_or,au,ar,aj,ai,simprocAttr]
theorem Ii {S:List Nat} {p:Nat->Bool} {dx fv:AV} {xs:List AV} {ts:List Tk} {H:Hp} (I:Nat->Hp->Prop) (hn:ts.length<=100000) (hS:∀ j∈lE dx xs,j∉S)
  (hI:∀ i H H',I i H->Out [] H H'->I i H')
  (hp:∀ i t x H,ts[i]? = some t->xs[i]? = some x->RD H dx xs ts->I i H->∃ H',cK fv [.int .i64 (i:Nat),.agg (aK t x)] H=some (.bool (p i),H')/\Out S H H'/\(p i=false->I (i+1) H')) (hR:RD H dx xs ts) (h0:I 0 H) :
  ∃ H',cK (.func (.func 125) [] []) [dv dx,fv] H=some (.bool ((List.range ts.length).any p),H')/\Out S H H':=by
 have o1:=aN H [dx] 72 0
 obtain⟨H',i1,i2,_⟩:=Wt I hn hS hI hp ts 0 _ (ab2 _) abJ (hR.aw o1) (hI _ _ _ h0 o1)
 rw[show (((0:Nat):Int))=0 from rfl,<-List.range_eq_range'] at i1
 refine⟨H',amw ?_,(o1.mono fun j hj=>by cases hj).trans i2⟩
 have fX:=hR.aV
 have gr:=hR.row.one
 unfold ZN
 simp(disch:=(first|assumption|omega|(simp only[ag,af,simprocAttr]<;>fail)|(simp only[af];omega)|(simp only[ag,af,simprocAttr, *]<;>fail)|fail))only[fX,i1,au,ar,aj,ai,simprocAttr]
 cases (List.range ts.length).any p<;>rfl
def names (ts:List Tk):List aq:=ts.map (·.name)
def dup (ts:List Tk) (i:Nat):Bool:=match ts[i]? with | some t=>(names (ts.take i)).any (fun s=>s==t.name) | none=>false
def ya (l:List (aq × Nat)):List ME:=l.map fun x=>⟨.str x.1,.bool true,x.2⟩
theorem DC {l:List (aq × Nat)} {s:aq} (h:∀ x∈l,x.1≠s):∀ e∈ya l,∃ q,e.key = .str q/\q≠s:=by
 intro e he
 obtain⟨x,hx,rfl⟩:=acI.1 he
 exact⟨_,rfl,h x hx⟩
def JI (m q:Nat) (ts:List Tk) (i:Nat) (H:Hp):Prop:=∃ el l c,Cs H q [.map m] el 0/\Mp H m (ya l) c/\l.map (·.1)=names (ts.take i)/\q≠m/\(l.map (·.1)).Nodup
theorem aeE {m q:Nat} {ts:List Tk} {i:Nat} {t:Tk} {x:AV} {H:Hp} (hI:JI m q ts i H) (ht:ts[i]? = some t) :
  ∃ H',cK (.func (.func 121) [] [.ptr q 0]) [.int .i64 (i:Nat),.agg (aK t x)] H=some (.bool (dup ts i),H')/\Out [m] H H'/\(dup ts i=false->JI m q ts (i+1) H'):=by
 obtain⟨el,l,c,hq,hm,hl,aH,gQ⟩:=hI
 obtain⟨e0,e1,e2,e3,e4,e5⟩:=sA t x
 have o1:=aN H (aK t x) 99 0
 have vn:=hq.out o1 (by simp)
 have yk:=hm.out o1 (by simp)
 have S5:=hq.1
 have V6:cellAt H q 0=some (.map m):=hq.cellAt rfl
 have ZC:dup ts i=l.any (fun y=>y.1==t.name):=by
  unfold dup
  rw[ht]
  simp only
  rw[<-hl,List.any_map];rfl
 rw[ZC]
 have pR:names (ts.take (i+1))=names (ts.take i)++[t.name]:=by rw[agf,ht];simp[names]
 cases hb:l.any (fun y=>y.1==t.name) with
 | false=>
  have hno:∀ y∈l,y.1≠t.name:=by
   intro y hy e
   rw[ahh] at hb
   exact hb y hy (by simpa using e)
  have FB:=aaj yk (DC hno) (.bool false) false
  obtain⟨H',u1,u2,u3⟩:=aal yk (DC hno) (.bool true)
  refine⟨H',V1 ?_,(o1.mono fun j hj=>by cases hj).trans u3,fun _=>⟨el,l++[(t.name,c)],c+1,vn.out u3 (by rw[aan];exact aH),by simpa[ya] using u2,by rw[adu,hl,pR];rfl,aH,by
   rw[adu,aem]
   refine⟨gQ,by simp,fun p hp r hr e => ?_⟩
   obtain⟨y,hy,rfl⟩:=acI.1 hp
   simp at hr
   exact hno y hy (e.trans hr)⟩⟩
  simp only[cond_false] at FB
  unfold P5
  simp(disch:=(first|assumption|omega|(simp only[ag,af,simprocAttr]<;>fail)|(simp only[af];omega)|(simp only[ag,af,simprocAttr, *]<;>fail)|fail))only[tT,V6,e0,FB,u1,au,ar,aj,ai,simprocAttr]
 | true=>
  rw[List.any_eq_true] at hb
  obtain⟨y,hy,Qy⟩:=hb
  have Qy:y.1=t.name:=by simpa using Qy
  have acK:∃ a z b,l=a++z::b/\z.1=t.name/\∀ w∈a,w.1≠t.name:=by
   clear hm yk hl ZC gQ
   induction l with
   | nil=>cases hy
   | cons w l ih=>
    by_cases hw:w.1=t.name
    ·exact⟨[],w,l,rfl,hw,fun _ h=>by cases h⟩
    ·rcases abn.1 hy with rfl | hy
     ·exact absurd Qy hw
     ·obtain⟨a,z,b,rfl,h2,h3⟩:=ih hy
      refine⟨w::a,z,b,rfl,h2,fun v hv => ?_⟩
      rcases abn.1 hv with rfl | hv
      ·exact hw
      ·exact h3 v hv
  obtain⟨a,z,b,rfl,hz,ha⟩:=acK
  have ml:ya (a++z::b)=ya a++⟨.str z.1,.bool true,z.2⟩::ya b:=by simp[ya]
  rw[ml] at yk
  have lr:∀ w∈b,w.1≠t.name:=by
   intro w hw e
   rw[adu,acJ,aem,agQ] at gQ
   exact gQ.2.1.1 (acI.2 ⟨w,hw,e.trans hz.symm⟩)
  have FB:=aax (k:=t.name) yk (by rw[hz]) (DC ha) (DC lr) (.bool false) false
  obtain⟨H',u1,u2,u3⟩:=ahM (k:=t.name) yk (by rw[hz]) (DC ha) (DC lr) (.bool true)
  refine⟨H',V1 ?_,(o1.mono fun j hj=>by cases hj).trans u3,fun q=>by cases q⟩
  simp only[cond_false] at FB
  unfold P5
  simp(disch:=(first|assumption|omega|(simp only[ag,af,simprocAttr]<;>fail)|(simp only[af];omega)|(simp only[ag,af,simprocAttr, *]<;>fail)|fail))only[tT,V6,e0,FB,u1,au,ar,aj,ai,simprocAttr]
theorem gAE (a b c d:AV):gA P .eql 231 false (.agg [a,b]) (.agg [c,d])=true:=by kernel_rfl
theorem aeZ (e f:Ed) (H:Hp):eS P .eql 231 (.agg (cn e)) (.agg (cn f)) H=some (.bool (decide (e=f))):=by
 have h:=XN e.1 e.2 f.1 f.2 48 H
 have h2:((((e.1:Nat):Int)==((f.1:Nat):Int))&&(((e.2:Nat):Int)==((f.2:Nat):Int)))=decide (e=f):=by
  by_cases q:e=f
  ·subst q;simp
  ·rw[decide_eq_false q,<-afq,aa9,beq_iff_eq,beq_iff_eq]
   intro z
   exact q (Prod.ext (by have:=z.1;omega) (by have:=z.2;omega))
 rw[h2] at h
 unfold eS
 show (dZ P 50 _ (.agg (cn e)) (.agg (cn f)) H).map AV.bool=_
 have:dZ P 50 231 (.agg (cn e)) (.agg (cn f)) H=some (decide (e=f)):=h
 rw[this];rfl
theorem UP {x:AV} {E:List Ed} {e:Ed} {b:Nat} {H:Hp} (hx:RL H 2 x (jK E)) (hl:E.length<=16777216) (hb:av H b 0 2=some (cn e)) (hno:e∉E) (k:K.Fn 0):∀ (r:List Ed) (i:Nat),i<=E.length->E.drop i=r->
  EU JN GO cK k x (.ptr b 0) (.int .i64 (E.length:Nat)) (.int .i64 (i:Nat)) H=k H
 | [],i,hi,h=>by
  obtain rfl:=drop_nil hi h
  rw[T9]
  simp only[M9,fw,aj,ai,simprocAttr]
 | f::r,i,hi,h=>by
  obtain⟨h1,h2,h3⟩:=fC h
  obtain⟨c,o,q1,q2,q3,q4,_⟩:=hx.at (by decide) (PI h2)
  have es:=fF h1 hl
  have ih:=UP hx hl hb hno k r (i+1) h1 h3
  have hd:decide (e=f)=false:=decide_eq_false fun q=>hno (q▸aa2 h2)
  have hg:gA P .eql 231 false (.agg (cn e)) (.agg (cn f))=true:=gAE _ _ _ _
  have hbe:=aeZ e f H
  rw[hd] at hbe
  have zn:av H c o 2=some (cn f):=q4
  rw[T9]
  simp(disch:=(first|assumption|omega|(simp only[ag,af,simprocAttr]<;>fail)|(simp only[af];omega)|(simp only[ag,af,simprocAttr, *]<;>fail)|fail))only[M9,bN h1,hb,q1,zn,hg,hbe,lL,es,ih,au,ar,aj,ai,simprocAttr]
theorem age {x:AV} {E:List Ed} {e:Ed} {H:Hp} (hx:RL H 2 x (jK E)) (hl:E.length<=16777216) (hno:e∉E) :
  ∃ H',cK (.func (.func 158) [] []) [x,.agg (cn e)] H=some (.bool false,H')/\Out [] H H':=by
 have o1:=aN H (cn e) 231 0
 have o2:=o1.al (cn e) 231 0
 have bg:∀ H:Hp,bx 231 (.agg (cn e)) H=some (H.next,al H (cn e) 231 0):=fun H=>iE (by show 2<=_;omega)
 have hlen:(cn e).length=2:=rfl
 have pR:(cn e).take 2=cn e:=rfl
 have mP:cK (.func (.func 177) [] []) [x,.agg (cn e)] (al H (cn e) 231 0)=some (.int .i64 (-1),al (al H (cn e) 231 0) (cn e) 231 0):=by
  refine aiT ?_
  have eC:=(hx.aw o2).len (by decide)
  rw[IY] at eC
  have h1:=UP (b:=H.next+1) (hx.aw o2) hl (Gn (by rw[cj]) (by rw[hlen];omega)) hno (fun h=>some (.int .i64 (-1),h)) E 0 (ab2 _) abJ
  rw[show (((0:Nat):Int))=0 from rfl] at h1
  unfold Yh
  simp(disch:=(first|assumption|omega|(simp only[ag,af,simprocAttr]<;>fail)|(simp only[af];omega)|(simp only[ag,af,simprocAttr, *]<;>fail)|fail))only[bg,eC,h1,au,ar,aj,ai,simprocAttr]
 refine⟨_,ajz ?_,o2⟩
 unfold aaf
 have d:decide ((0:Int) <= -1)=false:=by decide
 simp(disch:=(first|assumption|omega|(simp only[ag,af,simprocAttr]<;>fail)|(simp only[af];omega)|(simp only[ag,af,simprocAttr, *]<;>fail)|fail))only[bg,hlen,pR,mP,d,au,ar,aj,ai,simprocAttr]
def qO (i:Nat) (l:List Int):List Ed:=l.map fun a=>(a.toNat,i)
def jx (i:Nat):List Tk->List Ed
 | []=>[]
 | t::r=>qO i t.after++jx (i+1) r
theorem af7 (ts us:List Tk):∀ i,jx i (ts++us)=jx i ts++jx (i+ts.length) us:=by
 induction ts with
 | nil=>intro i;rfl
 | cons t ts ih=>intro i;simp only[List.cons_append,jx,ih,aea,abx];rw[show i+1+ts.length=i+(ts.length+1) by omega]
theorem Mv {ts:List Tk} {i:Nat} {t:Tk} (ht:ts[i]? = some t):jx 0 (ts.take (i+1))=jx 0 (ts.take i)++qO i t.after:=by
 have hi:=(aaK.1 ht).1
 rw[agf,ht]
 show jx 0 (ts.take i++[t])=_
 rw[af7,adA,Nat.min_eq_left (by omega),adt]
 simp[jx]
theorem SU {ts:List Tk}:∀ {i:Nat} {e:Ed},e∈jx i ts->i<=e.2/\e.2<i+ts.length:=by
 induction ts with
 | nil=>intro i e h;cases h
 | cons t ts ih=>
  intro i e h
  simp only[jx,abP] at h
  rcases h with h | h
  ·obtain⟨a,_,rfl⟩:=acI.1 h
   simp
  ·have:=ih h
   simp only[abx];omega
def um (ts:List Tk):Prop:=∀ (i:Nat) (t:Tk),ts[i]? = some t->qi ts.length i [] t.after=true
theorem YF {n i:Int} {pre:List Int} {a:Int} {l:List Int} (h:qi n i pre (a::l)=true):0<=a/\a<=n-1/\a≠i/\a∉pre/\qi n i (pre++[a]) l=true:=by
 unfold qi at h
 simp only[aa9,decide_eq_true_eq,ain,ahh,beq_iff_eq,beq_eq_false_iff_ne] at h
 obtain⟨⟨h1,h2⟩,h3,h4,h5⟩:=h
 exact⟨h1,h2,fun e=>h3 e.symm,fun q=>h4 a q rfl,h5⟩
theorem VB {dx:AV} {n i:Nat} {E0:List Ed} {D R g:Nat} {l:List Int} {lx:AV} (hn:n<=16) (gU:i<n) (sJ:aV dx=some (.int .i64 n)) (YY:∀ e∈E0,e.2<i) (anT:E0.length<=10000) (kK:l.length<=16) (Bx:D≠g) :
  ∀ (r:List Int) (k:Nat) (H:Hp) (ex:AV) (c5 c6 c7:AV),k<=l.length->l.drop k=r->qi n i (l.take k) r=true->(∀ b∈l.take k,(0:Int)<=b)->Rw H 1 lx (ints l)->cellAt H D 0=some dx->D<H.next->Cs H g [.int .i64 n,ex] 201 0->OL H 231 2 ex (jK (E0++qO i (l.take k)))->(∀ j∈ak ex,j∉ak lx/\j≠D/\j≠g)->g∉ak lx->
  ∃ uO H' S,(∀ (aG:K.Fn 2) (da kM:K.Fn 6),GL JN GO cK aG da kM (.ptr D 0) (.ptr R 0) (.ptr g 0) (.int .i64 i) c5 c6 c7 lx (.int .i64 (l.length:Nat)) (.int .i64 (k:Nat)) H=kM (.ptr D 0) (.ptr R 0) (.ptr g 0) c5 c6 c7 H')/\Cs H' g [.int .i64 n,uO] 201 0/\OL H' 231 2 uO (jK (E0++qO i l))/\Out S H H'/\(∀ j∈S,j=g\/j∈ak ex\/H.next<=j)/\∀ j∈ak uO,j∈ak ex\/H.next<=j
 | [],k,H,ex,c5,c6,c7,hk,h,ha,mO,eW,hD,vp,hg,hO,hd,xF=>by
  obtain rfl:=drop_nil hk h
  refine⟨ex,H,[],fun aG da kM => ?_,hg,by rw[aer (abe _)] at hO;exact hO,Out.refl _ _,(fun j hj=>by cases hj),fun j hj => .inl hj⟩
  rw[SA]
  simp only[II,fw,aj,ai,simprocAttr]
 | a::r,k,H,ex,c5,c6,c7,hk,h,ha,mO,eW,hD,vp,hg,hO,hd,xF=>by
  obtain⟨h1,h2,h3⟩:=fC h
  obtain⟨q,q1,q2⟩:=eW.jy (yE h2) .i64
  have es:=fF h1 (by omega)
  obtain⟨a0,a1,a2,a3,a4⟩:=YF ha
  obtain⟨m,rfl⟩:∃ m:Nat,a=m:=⟨a.toNat,by omega⟩
  have pR:l.take (k+1)=l.take k++[(m:Int)]:=by rw[agf,h2];rfl
  have hEk:(qO i (l.take k)).length<=16:=by simp[qO];omega
  have hno:((m,i):Ed)∉E0++qO i (l.take k):=by
   intro q
   rcases abP.1 q with q | q
   ·have:=YY _ q;simp at this
   ·obtain⟨b,hb,he⟩:=acI.1 q
    have mW:=mO b hb
    have:b.toNat=m:=congrArg Prod.fst he
    exact a3 (by rw[show ((m:Nat):Int)=b by omega];exact hb)
  have o1:=aN H (cn (m,i)) 231 0
  obtain⟨H1,c1,c2⟩:=age (hO.rl.aw o1) (by rw[aby];omega) hno
  have o2:Out [] H H1:=o1.trans c2
  have gT:=c2.nx
  rw[cj] at gT
  have yq:=hg.out o2 (by simp)
  have Cq:cellAt H g 1=some ex:=hg.cellAt rfl
  have aeM:cellAt H1 g 1=some ex:=yq.cellAt rfl
  have aou:=hg.1
  have OP:av H1 H.next 0 2=some (cn (m,i)):=by
   rw[c2.av (by rw[cj];omega) (by simp)]
   exact Gn rfl (by show 0+2<=2;omega)
  obtain⟨zT,H2,p1,p2,p3,p4,p5⟩:=(hO.out o2 (by simp)).push (fU:=231) (z:=[(.int .i64 0),(.int .i64 0)]) (vs:=cn (m,i)) rfl rfl (by decide) (by rw[IY,aby];omega)
  have pW:jK (E0++qO i (l.take k))++[cn (m,i)]=jK (E0++qO i (l.take (k+1))):=by rw[pR];simp[jK,qO]
  rw[pW] at p2
  have lK:=yq.out p3 fun q=>(hd g q).2.2 rfl
  obtain⟨H3,w1,w2,w3,w4⟩:=fR lK (by decide) (o:=1) (by simp) (v:=zT) p5
  have zg:=p3.nx
  have PB:=eW.lt
  have iG:∀ j∈ak zT,j∉ak lx/\j≠D/\j≠g:=fun j hj=>(p4 j hj).elim (hd j) fun z=>⟨fun y=>by have:=PB j y;omega,by omega,by omega⟩
  have o3:Out (g::ak ex) H H3:=((o2.mono fun j hj=>by cases hj).trans (p3.mono fun j hj => .tail _ hj)).trans (w3.mono fun j hj=>by rw[aan] at hj;subst hj;exact .head _)
  have AU:cellAt H3 D 0=some dx:=by rw[o3.cellAt vp (by rw[abn,not_or];exact⟨Bx,fun q=>(hd D q).2.1 rfl⟩)];exact hD
  have ZV:=o3.nx
  obtain⟨uO,H',S,i1,i2,i3,i4,i5,i6⟩:=VB (R:=R) hn gU sJ YY anT kK Bx r (k+1) H3 zT c5 c6 c7 h1 h3 (by rw[pR];exact a4) (by rw[pR];intro b hb;rcases abP.1 hb with hb | hb;exact mO b hb;rw[aan] at hb;omega)
   (eW.out o3 fun j hj=>by rw[abn,not_or];exact⟨fun e=>xF (e▸hj),fun q=>(hd j q).1 hj⟩) AU (by omega) w2 (p2.out w3 fun j hj=>by rw[aan];exact (iG j hj).2.2) iG xF
  have key:∀ j∈ak zT,j∈ak ex\/H.next<=j:=fun j hj=>(p4 j hj).imp id fun z=>by omega
  refine⟨uO,H',(g::ak ex)++S,fun aG da kM => ?_,i2,i3,(o3.mono fun j hj=>abG _ hj).trans (i4.mono fun j hj=>abB _ hj),fun j hj => ?_,fun j hj=>(i6 j hj).elim (key j) fun z => .inr (by omega)⟩
  ·have e1:IntKind.wrap .i64 ((n:Int)-1)=(n:Int)-1:=wrap_i64 (by omega) (by omega)
   have d1:(decide ((0:Int)<=(m:Int))&&decide ((m:Int)<=(n:Int)-1))=true:=by rw[aa9];exact⟨decide_eq_true a0,decide_eq_true a1⟩
   have d2:(((m:Nat):Int) != ((i:Nat):Int))=true:=by simp;omega
   have ll:fl [(.int .i64 0),(.int .i64 0)] [(0,1,.int .i64 (m:Int)),(1,1,.int .i64 (i:Int))]=some (cn (m,i)):=rfl
   have Cr:fl [(.int .i64 0),(.int .i64 0)] [(0,2,.agg (cn (m,i)))]=some (cn (m,i)):=rfl
   have vm:st 2 (.ptr H.next 0) (.agg (cn (m,i))) (al H [.int .i64 0,.int .i64 0] 231 0)=some (al H (cn (m,i)) 231 0):=kq rfl rfl rfl (by decide) rfl
   have oG:(cn (m,i)).length=2:=rfl
   have akC:(cn (m,i)).take 2=cn (m,i):=rfl
   have eh:aL H1 (cn (m,i)) 231 0=some (H1.next,al H1 (cn (m,i)) 231 0):=iy (by rw[oG];omega)
   have iY:=p1 _ rfl
   rw[SA]
   simp(disch:=(first|assumption|omega|(simp only[ag,af,simprocAttr]<;>fail)|(simp only[af];omega)|(simp only[ag,af,simprocAttr, *]<;>fail)|fail))only[II,bN h1,q1,q2,ll,Cr,vm,oG,akC,hD,sJ,e1,pL,d1,d2,Cq,aeM,c1,OP,eh,iY,w1,es,i1,au,ar,aj,ai,simprocAttr]
  ·rcases abP.1 hj with hj | hj
   ·rcases abn.1 hj with rfl | hj
    ·exact .inl rfl
    ·exact .inr (.inl hj)
   ·rcases i5 j hj with z | z | z
    ·exact .inl z
    ·exact .inr (key j z)
    ·exact .inr (.inr (by omega))
theorem XC {dx:AV} {xs:List AV} {ts:List Tk} {D R g:Nat} (hn:ts.length<=16) (dq:∀ t∈ts,t.after.length<=16) (ha:um ts) (Bx:D≠g) (Nb:g∉lE dx xs) :
  ∀ (r:List Tk) (i:Nat) (H:Hp) (ex:AV),i<=ts.length->ts.drop i=r->RD H dx xs ts->cellAt H D 0=some dx->D<H.next->Cs H g [.int .i64 (ts.length:Nat),ex] 201 0->OL H 231 2 ex (jK (jx 0 (ts.take i)))->(jx 0 (ts.take i)).length<=i*16->(∀ j∈ak ex,j∉lE dx xs/\j≠D/\j≠g)->
  ∃ uO H' S,(∀ aG:K.Fn 2,EN JN GO cK aG (.ptr D 0) (.ptr R 0) (.ptr g 0) dx (.int .i64 (ts.length:Nat)) (.int .i64 (i:Nat)) H=aG (.ptr R 0) (.ptr g 0) H')/\Cs H' g [.int .i64 (ts.length:Nat),uO] 201 0/\OL H' 231 2 uO (jK (jx 0 ts))/\Out S H H'/\(∀ j∈S,j=g\/j∈ak ex\/H.next<=j)/\∀ j∈ak uO,j∈ak ex\/H.next<=j
 | [],i,H,ex,hi,h,hR,hD,vp,hg,hO,hlen,hd=>by
  obtain rfl:=drop_nil hi h
  refine⟨ex,H,[],fun aG => ?_,hg,by rw[aer (abe _)] at hO;exact hO,Out.refl _ _,(fun j hj=>by cases hj),fun j hj => .inl hj⟩
  rw[V4]
  simp only[Qu,fw,aj,ai,simprocAttr]
 | t::r,i,H,ex,hi,h,hR,hD,vp,hg,hO,hlen,hd=>by
  obtain⟨h1,h2,h3⟩:=fC h
  obtain⟨x,b,o,q0,q1,q2,q3,q4,q5,_⟩:=hR.at h2
  have es:=fF h1 (by omega)
  have hht:=dq t (aa2 h2)
  have o1:=aN H (aK t x) 99 0
  have W4:∀ j∈ak x,j∈lE dx xs:=fun j hj=>abB _ (agl.2 ⟨x,aa2 q0,hj⟩)
  have xF:=hg.1
  have Fc:=hO.1.rw.lt
  obtain⟨zT,H1,S1,i1,i2,i3,i4,i5,i6⟩:=VB (E0:=jx 0 (ts.take i)) (R:=R) (D:=D) (g:=g) hn h1 hR.aV (fun e he=>by have:=SU he;rw[adA] at this;omega) (by omega) hht Bx t.after 0 _ ex dx (.int .i64 (ts.length:Nat)) (.int .i64 (i:Nat)) (ab2 _) abJ (by rw[agv];exact ha i t h2) (by intro b hb;rw[agv] at hb;cases hb) (q2.aw o1) (by rw[tX vp];exact hD) (by rw[cj];omega) (hg.out o1 (by simp)) (by rw[agv];simpa[qO] using hO.out o1 (by simp)) (fun j hj=>⟨fun z=>(hd j hj).1 (W4 j z),(hd j hj).2⟩) (fun z=>Nb (W4 g z))
  rw[<-Mv h2] at i3
  have WN:(jx 0 (ts.take (i+1))).length<=(i+1)*16:=by rw[Mv h2,aby];simp[qO];omega
  have ll:=hR.lt
  have Pj:∀ j∈S1,j=g\/j∈ak ex\/H.next<=j:=fun j hj=>by
   rcases i5 j hj with z | z | z
   ·exact .inl z
   ·exact .inr (.inl z)
   ·rw[cj] at z;exact .inr (.inr (by omega))
  have key:∀ j∈ak zT,j∈ak ex\/H.next<=j:=fun j hj=>(i6 j hj).imp id fun z=>by rw[cj] at z;omega
  have o2:Out S1 H H1:=(o1.mono fun j hj=>by cases hj).trans i4
  have gT:=o2.nx
  have hfS:∀ j∈lE dx xs,j∉S1:=fun j hj z=>by
   rcases Pj j z with rfl | y | y
   ·exact Nb hj
   ·exact (hd j y).1 hj
   ·have:=ll j hj;omega
  have hDS:D∉S1:=fun z=>by
   rcases Pj D z with y | y | y
   ·exact Bx y
   ·exact (hd D y).2.1 rfl
   ·omega
  obtain⟨uO,H',S,k1,k2,k3,k4,k5,k6⟩:=XC (R:=R) hn dq ha Bx Nb r (i+1) H1 zT h1 h3 (hR.out o2 hfS) (by rw[o2.cellAt vp hDS];exact hD) (by omega) i2 i3 WN (fun j hj=>(key j hj).elim (hd j) fun z=>⟨fun y=>by have:=ll j y;omega,by omega,by omega⟩)
  refine⟨uO,H',S1++S,fun aG => ?_,k2,k3,(o2.mono fun j hj=>abG _ hj).trans (k4.mono fun j hj=>abB _ hj),fun j hj => ?_,fun j hj=>(k6 j hj).elim (key j) fun z => .inr (by omega)⟩
  ·have aD:=wG t x q1 H
   obtain⟨e0,e1,e2,e3,e4,e5⟩:=sA t x
   have hl:=q2.kC
   rw[kU] at hl
   rw[show (((0:Nat):Int))=0 from rfl] at i1
   rw[V4]
   simp(disch:=(first|assumption|omega|(simp only[ag,af,simprocAttr]<;>fail)|(simp only[af];omega)|(simp only[ag,af,simprocAttr, *]<;>fail)|fail))only[Qu,bN h1,q3,q5,aD,e1,hl,i1,es,k1,au,ar,aj,ai,simprocAttr]
  ·rcases abP.1 hj with hj | hj
   ·exact Pj j hj
   ·rcases k5 j hj with z | z | z
    ·exact .inl z
    ·exact .inr (key j z)
    ·exact .inr (.inr (by omega))
theorem abt {dx:AV} {xs:List AV} {ts:List Tk} {H:Hp} (hn:ts.length<=16) (dq:∀ t∈ts,t.after.length<=16) (ha:um ts) (hR:RD H dx xs ts) :
  ∃ ex H',cK (.func (.func 127) [] []) [dv dx] H=some (gv ts.length ex,H')/\RL H' 2 ex (jK (jx 0 ts))/\Out [] H H'/\∀ j∈ak ex,H.next<=j:=by
 have gr:=hR.row.one
 have fX:=hR.aV
 have ll:=hR.lt
 have o1:=aN H [dx] 72 0
 have o2:=o1.al [.int .i64 0,.ah] 201 0
 have o3:=o2.al [.int .i64 (ts.length:Nat),.ah] 201 0
 have c3:=bD (al (al H [dx] 72 0) [.int .i64 0,.ah] 201 0) [.int .i64 (ts.length:Nat),.ah] 201 0
 have c2:=(bD (al H [dx] 72 0) [.int .i64 0,.ah] 201 0).out (aN (al (al H [dx] 72 0) [.int .i64 0,.ah] 201 0) [.int .i64 (ts.length:Nat),.ah] 201 0) (by simp)
 have hD:cellAt (al (al (al H [dx] 72 0) [.int .i64 0,.ah] 201 0) [.int .i64 (ts.length:Nat),.ah] 201 0) H.next 0=some dx:=by
  rw[tX (by rw[cj,cj];omega),tX (by rw[cj];omega),vQ rfl];rfl
 obtain⟨ex,H1,S,i1,i2,i3,i4,i5,i6⟩:=XC (D:=H.next) (R:=H.next+1) (g:=H.next+2) hn dq ha (by omega) (fun z=>by have:=ll _ z;omega) ts 0 _ .ah (ab2 _) abJ (hR.aw o3) hD (by rw[cj,cj,cj];omega) c3 (by rw[agv];exact OL.nil _ _ _) (by rw[agv];simp[jx]) (fun j hj=>by cases hj)
 have jP:(al (al (al H [dx] 72 0) [.int .i64 0,.ah] 201 0) [.int .i64 (ts.length:Nat),.ah] 201 0).next=H.next+3:=rfl
 have hS:∀ j∈S,j=H.next+2\/H.next+3<=j:=fun j hj=>by
  rcases i5 j hj with z | z | z
  ·exact .inl z
  ·cases z
  ·exact .inr (by omega)
 have kg:=i4.nx
 have wQ:Cs H1 (H.next+1) [.int .i64 0,.ah] 201 0:=c2.out i4 fun z=>by have:=hS _ z;rw[cj] at this;omega
 have ahj:=i3.1.kf
 obtain⟨H2,w1,w2,w3,w4⟩:∃ H2,st 2 (.ptr (H.next+1) 0) (.agg [.int .i64 (ts.length:Nat),ex]) H1=some H2/\Cs H2 (H.next+1) [.int .i64 (ts.length:Nat),ex] 201 0/\Out [H.next+1] H1 H2/\H2.next=H1.next:=by
  obtain⟨Ha,a1,a2,a3,a4⟩:=NO wQ (by decide) (o:=0) (by decide) (v := .int .i64 (ts.length:Nat)) rfl
  obtain⟨Hb,b1,b2,b3,b4⟩:=NO a2 (by decide) (o:=1) (by simp) (v:=ex) ahj
  refine⟨Hb,?_,b2,a3.trans b3,by rw[b4,a4]⟩
  unfold st
  simp only[z7]
  show setCells H1 (H.next+1) 0 [.int .i64 (ts.length:Nat),ex]=_
  simp only[setCells,a1,b1,aca,acx]
 have R4:∀ j∈ak ex,H.next+3<=j:=fun j hj=>(i6 j hj).elim (fun z=>by cases z) fun z=>by omega
 refine⟨ex,H2,ahn ?_,(i3.rl).out w3 fun j hj=>by rw[aan];have:=R4 j hj;omega,(o3.then i4 fun j hj => .inr (by have:=hS j hj;omega)).then w3 fun j hj=>by rw[aan] at hj;exact .inr (by omega),fun j hj=>by have:=R4 j hj;omega⟩
 have Cr:fl [.int .i64 0,.ah] [(0,1,.int .i64 (ts.length:Nat))]=some [.int .i64 (ts.length:Nat),.ah]:=rfl
 have lK:av H1 (H.next+2) 0 2=some [.int .i64 (ts.length:Nat),ex]:=i2.av 2 0 (by simp)
 have nZ:av H2 (H.next+1) 0 2=some [.int .i64 (ts.length:Nat),ex]:=w2.av 2 0 (by simp)
 have vm:st 2 (.ptr (H.next+2) 0) (.agg [.int .i64 (ts.length:Nat),.ah]) (al (al (al H [dx] 72 0) [.int .i64 0,.ah] 201 0) [.int .i64 0,.ah] 201 0)=some (al (al (al H [dx] 72 0) [.int .i64 0,.ah] 201 0) [.int .i64 (ts.length:Nat),.ah] 201 0):=kq rfl rfl rfl (by decide) rfl
 rw[show (((0:Nat):Int))=0 from rfl] at i1
 unfold Wb
 simp(disch:=(first|assumption|omega|(simp only[ag,af,simprocAttr]<;>fail)|(simp only[af];omega)|(simp only[ag,af,simprocAttr, *]<;>fail)|fail))only[fX,Cr,vm,i1,lK,w1,nZ,au,ar,aj,ai,simprocAttr]
theorem yA {ts:List Tk} {i:Nat} {t:Tk} (ha:um ts) (ht:ts[i]? = some t):(∀ a∈t.after,0<=a/\a<=(ts.length:Int)-1/\a≠(i:Int))/\t.after.Nodup:=by
 have key:∀ (l pre:List Int),qi ts.length i pre l=true->(∀ a∈l,0<=a/\a<=(ts.length:Int)-1/\a≠(i:Int)/\a∉pre)/\l.Nodup:=by
  intro l
  induction l with
  | nil=>intro pre _;exact⟨(fun a ha=>by cases ha),aiu⟩
  | cons a l ih=>
   intro pre h
   obtain⟨a0,a1,a2,a3,a4⟩:=YF h
   obtain⟨i1,i2⟩:=ih _ a4
   refine⟨fun b hb => ?_,agQ.2 ⟨fun q=>(i1 a q).2.2.2 (by simp),i2⟩⟩
   rcases abn.1 hb with rfl | hb
   ·exact⟨a0,a1,a2,a3⟩
   ·obtain⟨x1,x2,x3,x4⟩:=i1 b hb
    exact⟨x1,x2,x3,fun q=>x4 (abG _ q)⟩
 obtain⟨k1,k2⟩:=key _ _ (ha i t ht)
 exact⟨fun a h=>⟨(k1 a h).1,(k1 a h).2.1,(k1 a h).2.2.1⟩,k2⟩
theorem QV:∀ (n:Nat) (l:List Nat),l.Nodup->(∀ a∈l,a<n)->l.length<=n
 | 0,l,_,h=>by
  cases l with
  | nil=>exact abe _
  | cons a l=>have:=h a (.head _);omega
 | n+1,l,hn,h=>by
  by_cases hm:n∈l
  ·have h1:=QV n (l.erase n) (hn.erase n) fun a ha=>by
    rw[hn.mem_erase_iff] at ha
    have:=h a ha.2
    omega
   rw[List.length_erase_of_mem hm] at h1
   omega
  ·have h1:=QV n l hn fun a ha=>by
    have:=h a ha
    have:a≠n:=fun e=>hm (e▸ha)
    omega
   omega
theorem Ki {n:Nat} {l:List Int} (h:∀ a∈l,0<=a/\a<=(n:Int)-1) (hn:l.Nodup):l.length<=n:=by
 have h1:(l.map Int.toNat).Nodup:=by
  rw[List.nodup_iff_pairwise_ne,List.pairwise_map]
  refine (List.nodup_iff_pairwise_ne.1 hn).imp_of_mem ?_
  intro a b ha hb uY e
  have:=h a ha;have:=h b hb;omega
 have:=QV n _ h1 fun m hm=>by
  obtain⟨a,ha,rfl⟩:=acI.1 hm
  have:=h a ha;omega
 simpa using this
theorem abh {ts:List Tk} (hn:ts.length<=16) (ha:um ts):pq ts.length (jx 0 ts):=by
 have key:∀ (k:Nat),k<=ts.length->(∀ e∈jx 0 (ts.take k),e.1<ts.length/\e.2<ts.length/\e.1≠e.2)/\(jx 0 (ts.take k)).Nodup/\(jx 0 (ts.take k)).length<=k*16:=by
  intro k
  induction k with
  | zero=>intro _;rw[agv];exact⟨(fun e he=>by cases he),aiu,ab2 _⟩
  | succ k ih=>
   intro hk
   obtain⟨i1,i2,i3⟩:=ih (by omega)
   have ht:ts[k]? = some (ts[k]'(by omega)):=aaM _
   obtain⟨a1,a2⟩:=yA ha ht
   have hle:=Ki (n:=ts.length) (fun a h=>⟨(a1 a h).1,(a1 a h).2.1⟩) a2
   rw[Mv ht]
   refine⟨fun e he => ?_,aem.2 ⟨i2,?_,fun e he f hf hef => ?_⟩,?_⟩
   ·rcases abP.1 he with he | he
    ·exact i1 e he
    ·obtain⟨a,h,rfl⟩:=acI.1 he
     have:=a1 a h
     exact⟨by simp;omega,by simp;omega,by simp;omega⟩
   ·unfold qO
    rw[List.nodup_iff_pairwise_ne,List.pairwise_map]
    refine (List.nodup_iff_pairwise_ne.1 a2).imp_of_mem ?_
    intro a b h1 h2 uY e
    have e1:=congrArg Prod.fst e
    have:=a1 a h1;have:=a1 b h2
    simp only at e1
    omega
   ·obtain⟨a,h,rfl⟩:=acI.1 hf
    have:=SU he
    rw[adA] at this
    rw[hef] at this
    simp at this;omega
   ·rw[aby];simp[qO];omega
 obtain⟨k1,k2,k3⟩:=key ts.length (abe _)
 rw[aer (abe _)] at k1 k2 k3
 exact⟨hn,k1,k2,by omega⟩
noncomputable def p1 (ts:List Tk) (i:Nat):Bool:=match ts[i]? with | some t=>vz t | none=>false
def p3 (ts:List Tk) (i:Nat):Bool:=match ts[i]? with | some t=>tH t | none=>false
def p4 (ts:List Tk) (i:Nat):Bool:=match ts[i]? with | some t => !qi ts.length i [] t.after | none=>false
instance (N:Nat) (E:List Ed):Decidable (zj N E):=by unfold zj;infer_instance
noncomputable def js (ts:List Tk):Int:=
 if ¬ (1<=ts.length/\ts.length<=16) then 1
 else if (List.range ts.length).any (p1 ts) then 2
 else if (List.range ts.length).any (dup ts) then 5
 else if (List.range ts.length).any (p3 ts) then 1
 else if (List.range ts.length).any (p4 ts) then 1
 else if zj ts.length (jx 0 ts) then 0 else 7
theorem K2 {ts:List Tk} (h:(List.range ts.length).any (p4 ts)=false):um ts:=by
 intro i t ht
 have hi:=(aaK.1 ht).1
 rw[ahh] at h
 have:=h i (ais.2 hi)
 unfold p4 at this
 rw[ht] at this
 simpa using this
theorem WB:∀ (i:Nat) (H H':Hp),True->Out [] H H'->True:=fun _ _ _ _ _=>trivial
abbrev lF:Nat:=194
theorem NI {dx:AV} {xs:List AV} {ts:List Tk} {H:Hp} (hn:ts.length<=100000) (dq:∀ t∈ts,t.after.length<=100000) (hR:RD H dx xs ts) :
  ∃ H',cK (.func (.func 90) [] []) [dv dx] H=some (.int .i64 (js ts),H')/\Out [] H H':=by
 have gr:=hR.row.one
 have fX:=hR.aV
 have ll:=hR.lt
 have o1:=aN H [dx] 72 0
 by_cases hr:¬ (1<=ts.length/\ts.length<=16)
 ·refine⟨al H [dx] 72 0,Cy ?_,o1⟩
  have d:(decide ((1:Int)<=(ts.length:Int))&&decide ((ts.length:Int)<=16))=false:=by
   rw[<-afq,aa9,decide_eq_true_eq,decide_eq_true_eq];omega
  unfold xj js
  rw[if_pos hr]
  simp(disch:=(first|assumption|omega|(simp only[ag,af,simprocAttr]<;>fail)|(simp only[af];omega)|(simp only[ag,af,simprocAttr, *]<;>fail)|fail))only[fX,pL,d,au,ar,aj,ai,simprocAttr]
 have eV:=hr
 replace hr:1<=ts.length/\ts.length<=16:=agt.1 hr
 have d:(decide ((1:Int)<=(ts.length:Int))&&decide ((ts.length:Int)<=16))=true:=by
  rw[aa9,decide_eq_true_eq,decide_eq_true_eq];omega
 obtain⟨H2,m1,m2,m3,m4⟩:=IT (al H [dx] 72 0)
 rw[cj] at m1 m2 m4
 have o2:Out [] H H2:=o1.trans m3
 let L8:List AV:=[.func (.func 120) [] [],.int .i64 2,.func (.func 121) [] [.ptr (H.next+2) 0],.int .i64 5,.func (.func 122) [] [],.int .i64 1,.func (.func 123) [] [.ptr H.next 0],.int .i64 1]
 have gT:H2.next=H.next+2:=by rw[m4]
 have o3:=aN H2 [.map (H.next+1)] 192 0
 have o4:=aN (al H2 [.map (H.next+1)] 192 0) L8 lF 0
 have hC4:=bD (al H2 [.map (H.next+1)] 192 0) L8 lF 0
 have R1:Out [] H (al (al H2 [.map (H.next+1)] 192 0) L8 lF 0):=(o2.trans o3).trans o4
 have ant:(al (al H2 [.map (H.next+1)] 192 0) L8 lF 0).next=H.next+4:=by rw[cj,cj,gT]
 have Jo:(al H2 [.map (H.next+1)] 192 0).next=H.next+3:=by rw[cj,gT]
 have EV:∀ {H':Hp} {S:List Nat},Out S (al (al H2 [.map (H.next+1)] 192 0) L8 lF 0) H'->(∀ j∈S,j=H.next+1)->cellAt H' H.next 0=some dx/\av H' H.next 0 1=some [dx]/\RD H' dx xs ts/\(∀ k:Nat,k<4->∃ a b,L8[k*2]? = some a/\L8[k*2+1]? = some b/\av H' (H.next+3) (k*2) 2=some [a,b]):=by
  intro H' S ho hS
  have aH:∀ j,j<H.next+4->j≠H.next+1->∀ o,cellAt H' j o=cellAt (al (al H2 [.map (H.next+1)] 192 0) L8 lF 0) j o:=fun j hj LG o=>ho.cellAt (by rw[ant];exact hj) fun q=>LG (hS j q)
  have h0:cellAt H' H.next 0=some dx:=by
   rw[aH _ (by omega) (by omega),tX (by rw[Jo];omega),tX (by rw[gT];omega),m3.cellAt (by rw[cj];omega) (by simp),vQ rfl];rfl
  refine⟨h0,?_,(hR.aw R1).out ho fun j hj q=>by have:=ll j hj;have:=hS j q;omega,fun k hk => ?_⟩
  ·unfold av av;rw[h0];rfl
  ·have hL:L8.length=8:=rfl
   have ha:L8[k*2]? = some (L8[k*2]'(by rw[hL];omega)):=aaM _
   have hb:L8[k*2+1]? = some (L8[k*2+1]'(by rw[hL];omega)):=aaM _
   refine⟨_,_,ha,hb,?_⟩
   unfold av av av
   rw[aH _ (by omega) (by omega),aH _ (by omega) (by omega),vQ Jo.symm,vQ Jo.symm,ha,hb]
   rfl
 have hm4:Mp (al (al H2 [.map (H.next+1)] 192 0) L8 lF 0) (H.next+1) (ya []) 0:=(m2.out o3 (by simp)).out o4 (by simp)
 have QB:Cs (al (al H2 [.map (H.next+1)] 192 0) L8 lF 0) (H.next+2) [.map (H.next+1)] 192 0:=by
  have:=(bD H2 [.map (H.next+1)] 192 0).out o4 (by simp)
  rw[gT] at this;exact this
 have anf:∀ (H':Hp) (a b:AV),bq a=true->bq b=true->st 2 (.ptr H'.next 0) (.agg [a,b]) (al H' [.nilFunc,.int .i64 0] lF 0)=some (al H' [a,b] lF 0):=fun H' a b ha hb=>kq (by simp[ha,hb]) rfl rfl (by decide) rfl
 have one:∀ (k:Nat) (z z':Int) (p:Nat->Bool) (e:Int) (fv:AV) (H':Hp) (lX:Hp),k<4->z=(k:Nat)->z'=(k+1:Nat)->L8[k*2]? = some fv->L8[k*2+1]? = some (.int .i64 e)->bq fv=true->
   av H' H.next 0 1=some [dx]->H.next+4<=H'.next->(∀ a b,L8[k*2]? = some a->L8[k*2+1]? = some b->av H' (H.next+3) (k*2) 2=some [a,b])->
   cK (.func (.func 125) [] []) [dv dx,fv] (al H' [fv,.int .i64 e] lF 0)=some (.bool ((List.range ts.length).any p),lX)->Out [H.next+1] (al H' [fv,.int .i64 e] lF 0) lX->
   ∀ dI:K.Fn 1,zy JN GO cK dI (.ptr H.next 0) (.slice (H.next+3) 0 4 4 true 2) (.int .i64 4) (.int .i64 z) H'=if (List.range ts.length).any p then some (.int .i64 e,lX) else zy JN GO cK dI (.ptr H.next 0) (.slice (H.next+3) 0 4 4 true 2) (.int .i64 4) (.int .i64 z') lX:=by
  intro k z z' p e fv H' lX hk hz yW ha hb hfv AW hHn hl hs hos dI
  subst hz;subst yW
  have kK:=hl _ _ ha hb
  have nJ:ia 2 (.slice (H.next+3) 0 4 4 true 2) (.int .i64 (k:Nat))=some (.ptr (H.next+3) (k*2)):=by rw[yL hk];simp
  have aQ:decide (((k:Nat):Int)<4)=true:=decide_eq_true (by omega)
  have es:IntKind.wrap .i64 ((k:Int)+1)=((k+1:Nat):Int):=by rw[wrap_i64 (by omega) (by omega)];rfl
  have aD:=anf H' fv (.int .i64 e) hfv rfl
  have he:cellAt lX H'.next 1=some (.int .i64 e):=by
   rw[hos.cellAt (by rw[cj];omega) (by rw[aan];omega),vQ rfl];rfl
  have eh:aL H' [.nilFunc,.int .i64 0] lF 0=some (H'.next,al H' [.nilFunc,.int .i64 0] lF 0):=iy (by simp)
  rw[aay]
  cases JP:(List.range ts.length).any p with
  | true=>
   rw[JP] at hs
   simp(disch:=(first|assumption|omega|(simp only[ag,af,simprocAttr]<;>fail)|(simp only[af];omega)|(simp only[ag,af,simprocAttr, *]<;>fail)|fail))only[F7,aQ,nJ,kK,eh,aD,AW,hs,he,if_true,au,ar,aj,ai,simprocAttr]
  | false=>
   rw[JP] at hs
   simp(disch:=(first|assumption|omega|(simp only[ag,af,simprocAttr]<;>fail)|(simp only[af];omega)|(simp only[ag,af,simprocAttr, *]<;>fail)|fail))only[F7,aQ,nJ,kK,eh,aD,AW,hs,es,abD,if_false,au,ar,aj,ai,simprocAttr]
 generalize hH4:al (al H2 [.map (H.next+1)] 192 0) L8 lF 0=H4 at *
 have rG:∀ {A B:Hp},Out [] A B->Out [H.next+1] A B:=fun h=>h.mono fun j hj=>by cases hj
 have Gi:∀ j∈([H.next+1]:List Nat),j=H.next+1:=fun j hj=>by rw[aan] at hj;exact hj
 obtain⟨a1,a2,a3,a4⟩:=EV (Out.refl [H.next+1] H4) Gi
 have r1:=aN H4 [.func (.func 120) [] [],.int .i64 2] lF 0
 obtain⟨H5,s1,s2⟩:=Ii (S:=[]) (fv := .func (.func 120) [] []) (p:=p1 ts) (fun _ _=>True) hn (by simp) WB (fun i t x H' ht hx bJ _=>by
  obtain⟨lX,c1,c2⟩:=amf t x i H'
  have hp:p1 ts i=vz t:=by unfold p1;rw[ht]
  exact⟨lX,by rw[hp];exact c1,c2,fun _=>trivial⟩) (a3.aw r1) trivial
 have g1:=one 0 0 1 (p1 ts) 2 _ H4 H5 (by omega) rfl rfl rfl rfl rfl a2 (by omega) (fun a b ha hb=>by obtain⟨a',b',x1,x2,x3⟩:=a4 0 (by omega);rw[x1] at ha;rw[x2] at hb;cases ha;cases hb;exact x3) s1 (rG s2)
 have t5:Out [H.next+1] H4 H5:=rG (r1.trans s2)
 obtain⟨b1,b2,b3,b4⟩:=EV t5 Gi
 have n5:=t5.nx
 have r2:=aN H5 [.func (.func 121) [] [.ptr (H.next+2) 0],.int .i64 5] lF 0
 have hHI:JI (H.next+1) (H.next+2) ts 0 (al H5 [.func (.func 121) [] [.ptr (H.next+2) 0],.int .i64 5] lF 0):=
  ⟨192,[],0,((QB.out (r1.trans s2) (by simp)).out r2 (by simp)),(hm4.out (r1.trans s2) (by simp)).out r2 (by simp),by rw[agv];rfl,by omega,aiu⟩
 have Kn:∀ j∈lE dx xs,j∉([H.next+1]:List Nat):=fun j hj=>by rw[aan];have:=ll j hj;omega
 obtain⟨H6,u1,u2⟩:=Ii (S:=[H.next+1]) (fv := .func (.func 121) [] [.ptr (H.next+2) 0]) (p:=dup ts) (JI (H.next+1) (H.next+2) ts) hn Kn (fun i A B hA Ga=>by
  obtain⟨el,l,c,x1,x2,x3,x4⟩:=hA
  exact⟨el,l,c,x1.out Ga (by simp),x2.out Ga (by simp),x3,x4⟩) (fun i t x H' ht hx bJ hI=>aeE hI ht) (b3.aw r2) hHI
 have g2:=one 1 1 2 (dup ts) 5 _ H5 H6 (by omega) rfl rfl rfl rfl rfl b2 (by omega) (fun a b ha hb=>by obtain⟨a',b',x1,x2,x3⟩:=b4 1 (by omega);rw[x1] at ha;rw[x2] at hb;cases ha;cases hb;exact x3) u1 u2
 have t6:Out [H.next+1] H4 H6:=t5.trans ((rG r2).trans u2)
 obtain⟨c1,c2,c3,c4⟩:=EV t6 Gi
 have n6:=t6.nx
 have r3:=aN H6 [.func (.func 122) [] [],.int .i64 1] lF 0
 obtain⟨H7,v1,v2⟩:=Ii (S:=[]) (fv := .func (.func 122) [] []) (p:=p3 ts) (fun _ _=>True) hn (by simp) WB (fun i t x H' ht hx bJ _=>by
  obtain⟨lX,c1,c2⟩:=aiU t x i H'
  have hp:p3 ts i=tH t:=by unfold p3;rw[ht]
  exact⟨lX,by rw[hp];exact c1,c2,fun _=>trivial⟩) (c3.aw r3) trivial
 have g3:=one 2 2 3 (p3 ts) 1 _ H6 H7 (by omega) rfl rfl rfl rfl rfl c2 (by omega) (fun a b ha hb=>by obtain⟨a',b',x1,x2,x3⟩:=c4 2 (by omega);rw[x1] at ha;rw[x2] at hb;cases ha;cases hb;exact x3) v1 (rG v2)
 have t7:Out [H.next+1] H4 H7:=t6.trans (rG (r3.trans v2))
 obtain⟨d1,d2,d3,d4⟩:=EV t7 Gi
 have n7:=t7.nx
 have r4:=aN H7 [.func (.func 123) [] [.ptr H.next 0],.int .i64 1] lF 0
 obtain⟨H8,w1,w2⟩:=Ii (S:=[]) (fv := .func (.func 123) [] [.ptr H.next 0]) (p:=p4 ts) (fun _ H'=>cellAt H' H.next 0=some dx/\H.next<H'.next) hn (by simp) (fun i A B hA Ga=>⟨by rw[Ga.cellAt hA.2 (by simp)];exact hA.1,by have:=Ga.nx;omega⟩) (fun i t x H' ht hx bJ hI=>by
  obtain⟨x',bb,oo,y1,y2,y3,_⟩:=bJ.at ht
  rw[hx] at y1
  cases y1
  obtain⟨lX,c1,c2⟩:=ane (i:=(i:Int)) (n:=ts.length) hn (dq t (aa2 ht)) fX gr hI.1 hI.2 y3
  have hp:p4 ts i = !qi ts.length i [] t.after:=by unfold p4;rw[ht]
  exact⟨lX,by rw[hp];exact c1,c2,fun _=>⟨by rw[c2.cellAt hI.2 (by simp)];exact hI.1,by have:=c2.nx;omega⟩⟩) (d3.aw r4) ⟨by rw[r4.cellAt (by omega) (by simp)];exact d1,by rw[cj];omega⟩
 have g4:=one 3 3 4 (p4 ts) 1 _ H7 H8 (by omega) rfl rfl rfl rfl rfl d2 (by omega) (fun a b ha hb=>by obtain⟨a',b',x1,x2,x3⟩:=d4 3 (by omega);rw[x1] at ha;rw[x2] at hb;cases ha;cases hb;exact x3) w1 (rG w2)
 have t8:Out [H.next+1] H4 H8:=t7.trans (rG (r4.trans w2))
 obtain⟨e1,e2,e3,e4⟩:=EV t8 Gi
 have fin:∀ {B:Hp},Out [H.next+1] H4 B->Out [] H B:=fun h=>R1.then h fun j hj=>by rw[aan] at hj;exact .inr (by omega)
 have g5:∀ dI:K.Fn 1,zy JN GO cK dI (.ptr H.next 0) (.slice (H.next+3) 0 4 4 true 2) (.int .i64 4) (.int .i64 4) H8=dI (.ptr H.next 0) H8:=fun dI=>by
  have d:decide ((4:Int)<4)=false:=rfl
  rw[aay]
  simp only[F7,d,aj,ai,simprocAttr]
 have uc:st 1 (.ptr (H.next+2) 0) (.map (H.next+1)) (al H2 [.jv] 192 0)=some (al H2 [.map (H.next+1)] 192 0):=LM rfl (by rw[gT]) (by decide) (by simp)
 have eh:aL (al H2 [.map (H.next+1)] 192 0) L8 lF 0=some (H.next+3,H4):=by rw[<-hH4,iy (by show 8<=_;omega),Jo]
 have B7:fl [.nilFunc,(.int .i64 0),.nilFunc,(.int .i64 0),.nilFunc,(.int .i64 0),.nilFunc,(.int .i64 0)] [(0,2,(.agg [.func (.func 120) [] [],.int .i64 2])),(2,2,(.agg [.func (.func 121) [] [.ptr (H.next+2) 0],.int .i64 5])),(4,2,(.agg [.func (.func 122) [] [],.int .i64 1])),(6,2,(.agg [.func (.func 123) [] [.ptr H.next 0],.int .i64 1]))]=some L8:=rfl
 have Ls:js ts=if (List.range ts.length).any (p1 ts) then 2 else if (List.range ts.length).any (dup ts) then 5 else if (List.range ts.length).any (p3 ts) then 1 else if (List.range ts.length).any (p4 ts) then 1 else if zj ts.length (jx 0 ts) then 0 else 7:=by unfold js;rw[if_neg eV]
 rw[Ls]
 have CV:xi (al H [dx] 72 0)=some (H.next+1,H2):=m1
 have eL:((4:Nat):Int)=4:=rfl
 have C0:H.next+2+1=H.next+3:=rfl
 have CY:al (al H2 [.map (H.next+1)] 192 0) [.func (.func 120) [] [],.int .i64 2,.func (.func 121) [] [.ptr (H.next+2) 0],.int .i64 5,.func (.func 122) [] [],.int .i64 1,.func (.func 123) [] [.ptr H.next 0],.int .i64 1] lF 0=H4:=hH4
 have aaI:aV (.slice (H.next+3) 0 4 4 true 2)=some (.int .i64 4):=rfl
 have CC:H2.next=H.next+2:=gT
 cases q1:(List.range ts.length).any (p1 ts) with
 | true=>
  simp only[q1,if_true] at g1
  refine⟨H5,Cy ?_,fin t5⟩
  unfold xj
  simp(disch:=(first|assumption|omega|(simp only[ag,af,simprocAttr]<;>fail)|(simp only[af];omega)|(simp only[ag,af,simprocAttr, *]<;>fail)|fail))only[fX,pL,d,CV,CC,uc,B7,eL,C0,CY,g1,if_true,au,ar,aj,ai,simprocAttr]
 | false=>
 cases q2:(List.range ts.length).any (dup ts) with
 | true=>
  simp only[q1,abD,if_false] at g1
  simp only[q2,if_true] at g2
  refine⟨H6,Cy ?_,fin t6⟩
  unfold xj
  simp(disch:=(first|assumption|omega|(simp only[ag,af,simprocAttr]<;>fail)|(simp only[af];omega)|(simp only[ag,af,simprocAttr, *]<;>fail)|fail))only[fX,pL,d,CV,CC,uc,B7,eL,C0,CY,g1,g2,if_true,abD,if_false,au,ar,aj,ai,simprocAttr]
 | false=>
 cases q3:(List.range ts.length).any (p3 ts) with
 | true=>
  simp only[q1,abD,if_false] at g1
  simp only[q2,abD,if_false] at g2
  simp only[q3,if_true] at g3
  refine⟨H7,Cy ?_,fin t7⟩
  unfold xj
  simp(disch:=(first|assumption|omega|(simp only[ag,af,simprocAttr]<;>fail)|(simp only[af];omega)|(simp only[ag,af,simprocAttr, *]<;>fail)|fail))only[fX,pL,d,CV,CC,uc,B7,eL,C0,CY,g1,g2,g3,if_true,abD,if_false,au,ar,aj,ai,simprocAttr]
 | false=>
 cases q4:(List.range ts.length).any (p4 ts) with
 | true=>
  simp only[q1,abD,if_false] at g1
  simp only[q2,abD,if_false] at g2
  simp only[q3,abD,if_false] at g3
  simp only[q4,if_true] at g4
  refine⟨H8,Cy ?_,fin t8⟩
  unfold xj
  simp(disch:=(first|assumption|omega|(simp only[ag,af,simprocAttr]<;>fail)|(simp only[af];omega)|(simp only[ag,af,simprocAttr, *]<;>fail)|fail))only[fX,pL,d,CV,CC,uc,B7,eL,C0,CY,g1,g2,g3,g4,if_true,abD,if_false,au,ar,aj,ai,simprocAttr]
 | false=>
  simp only[q1,abD,if_false] at g1
  simp only[q2,abD,if_false] at g2
  simp only[q3,abD,if_false] at g3
  simp only[q4,abD,if_false] at g4
  have Np:=K2 q4
  have aju:∀ t∈ts,t.after.length<=16:=fun t ht=>by
   obtain⟨i,hi⟩:=ac1 ht
   obtain⟨x1,x2⟩:=yA Np hi
   have:=Ki (n:=ts.length) (fun a h=>⟨(x1 a h).1,(x1 a h).2.1⟩) x2
   omega
  obtain⟨ex,H9,y1,y2,y3,y4⟩:=abt hr.2 aju Np e3
  obtain⟨cy,kk,wz,z1,z2,z3,z4⟩:=abL (abh hr.2 Np) y2
  refine⟨wz,Cy ?_,(fin t8).trans (y3.trans z4)⟩
  by_cases hk:kk=0
  ·have Ox:=z3.1 hk
   rw[if_pos Ox]
   have dk:decide ((0:Int)<((kk:Nat):Int))=false:=decide_eq_false (by omega)
   unfold xj
   simp(disch:=(first|assumption|omega|(simp only[ag,af,simprocAttr]<;>fail)|(simp only[af];omega)|(simp only[ag,af,simprocAttr, *]<;>fail)|fail))only[fX,pL,d,CV,CC,uc,B7,eL,C0,CY,g1,g2,g3,g4,g5,e2,y1,z1,z2,dk,abD,if_false,au,ar,aj,ai,simprocAttr]
  ·have Ox:¬ zj ts.length (jx 0 ts):=fun q=>hk (z3.2 q)
   rw[if_neg Ox]
   have dk:decide ((0:Int)<((kk:Nat):Int))=true:=decide_eq_true (by omega)
   unfold xj
   simp(disch:=(first|assumption|omega|(simp only[ag,af,simprocAttr]<;>fail)|(simp only[af];omega)|(simp only[ag,af,simprocAttr, *]<;>fail)|fail))only[fX,pL,d,CV,CC,uc,B7,eL,C0,CY,g1,g2,g3,g4,g5,e2,y1,z1,z2,dk,abD,if_false,au,ar,aj,ai,simprocAttr]
def sH (names:List aq):List aq->Option (List Int)
 | []=>some []
 | s::r=>match names.findIdx? (fun a=>s==a) with
  | some i=>(sH names r).map fun l=>(i:Int)::l
  | none=>none
abbrev u6:aq:=[97,102,116,101,114]
abbrev xH:aq:=[114,101,116,114,121]
abbrev wH:aq:=[119,97,105,116]
abbrev uP:aq:=[98,97,115,101]
abbrev sB:aq:=[111,110]
noncomputable def jf (t:Tk) (key value:aq) (names:List aq):Option Tk:=
 if key=u6 then (sH names (cW 44 value)).map fun l=>{ t with after:=t.after++l }
 else if key=xH then (qf value).map fun (n:Nat)=>{ t with dG:=n }
 else if key=wH then (qf value).map fun (n:Nat)=>{ t with wait:=n }
 else if key=uP then (qf value).map fun (n:Nat)=>{ t with base:=n }
 else if key=sB then (if value=[] then none else some { t with on:=value })
 else (qf value).map fun _=>t
structure TO (H:Hp) (p:Nat) (t:Tk) (x:AV):Prop where
 c:Cs H p (aK t x) 99 0
 o:Ow H 3 1 x (ints t.after)
 ne:p∉ak x
theorem TO.aw {H H':Hp} {p:Nat} {t:Tk} {x:AV} (h:TO H p t x) (k:Out [] H H'):TO H' p t x:=⟨h.c.out k (by simp),h.o.out k (by simp),h.ne⟩
theorem TO.st {H:Hp} {p:Nat} {t:Tk} {x:AV} (h:TO H p t x) (o:Nat) (ho:o<6) (v:AV) (hv:bq v=true) (t':Tk) (ht:(aK t x).set o v=aK t' x) (ha:t'.after=t.after) :
  ∃ H',st 1 (.ptr p o) v H=some H'/\TO H' p t' x/\Out [p] H H':=by
 obtain⟨H',w1,w2,w3,w4⟩:=fR h.c (by decide) (o:=o) (by rw[uf];exact ho) hv
 rw[ht] at w2
 exact⟨H',w1,⟨w2,by rw[ha];exact h.o.out w3 fun j hj=>by rw[aan];intro e;subst e;exact h.ne hj,h.ne⟩,w3⟩
theorem Sj {names:List aq} {nx sx:AV} {p:Nat} {parts:List aq} (mO:names.length<=100000) (lB:parts.length<=100000):∀ (r:List aq) (i:Nat) (H:Hp) (t:Tk) (x:AV),i<=parts.length->parts.drop i=r->Rw H 1 nx (strs names)->Rw H 1 sx (strs parts)->TO H p t x->(∀ j,j∈ak nx\/j∈ak sx->j≠p/\j∉ak x)->t.after.length+r.length<=200000->
  ∃ H',Out (p::ak x) H H'/\((∃ l x',sH names r=some l/\(∀ (eU:K.Fn 1) (cG:K.Fn 0),CP JN GO cK eU cG (.ptr p 0) nx sx (.int .i64 (parts.length:Nat)) (.int .i64 (i:Nat)) H=cG H')/\TO H' p { t with after:=t.after++l } x'/\∀ j∈ak x',j∈ak x\/H.next<=j)\/
   (sH names r=none/\∀ (eU:K.Fn 1) (cG:K.Fn 0),CP JN GO cK eU cG (.ptr p 0) nx sx (.int .i64 (parts.length:Nat)) (.int .i64 (i:Nat)) H=some (.bool false,H')))
 | [],i,H,t,x,hi,h,jP,KF,hT,hd,dq=>by
  obtain rfl:=drop_nil hi h
  refine⟨H,Out.refl _ _,.inl ⟨[],x,rfl,fun eU cG => ?_,by simpa using hT,fun j hj => .inl hj⟩⟩
  rw[Lj]
  simp only[Dc,fw,aj,ai,simprocAttr]
 | s::r,i,H,t,x,hi,h,jP,KF,hT,hd,dq=>by
  obtain⟨h1,h2,h3⟩:=fC h
  obtain⟨q,q1,q2⟩:=KF.jy (tB h2) .i64
  have es:=fF h1 (by omega)
  have mP:=NU jP (by omega) s
  simp only[abx] at dq
  unfold sH
  cases hf:names.findIdx? (fun a=>s==a) with
  | none=>
   rw[hf] at mP
   have d:decide (lj none<0)=true:=rfl
   refine⟨H,Out.refl _ _,.inr ⟨rfl,fun eU cG => ?_⟩⟩
   rw[Lj]
   simp(disch:=(first|assumption|omega|(simp only[ag,af,simprocAttr]<;>fail)|(simp only[af];omega)|(simp only[ag,af,simprocAttr, *]<;>fail)|fail))only[Dc,bN h1,q1,q2,mP,d,au,ar,aj,ai,simprocAttr]
  | some m=>
   rw[hf] at mP
   have d:decide (lj (some m)<0)=false:=decide_eq_false (by show ¬ ((m:Int)<0);omega)
   have qp:lj (some m)=(m:Int):=rfl
   rw[qp] at mP d
   have AW:cellAt H p 1=some x:=hT.c.cellAt rfl
   have ao9:=hT.c.1
   obtain⟨x1,H1,p1,p2,p3,p4,p5⟩:=vP (fU:=3) (z:=[(.int .i64 0)]) (vs:=[.int .i64 (m:Int)]) hT.o rfl rfl (by decide) (by rw[kU];simp;omega)
   have pW:ints t.after++[.int .i64 (m:Int)]=ints (t.after++[(m:Int)]):=by rw[JE];rfl
   rw[pW] at p2
   have ye:=hT.c.out p3 hT.ne
   obtain⟨H2,w1,w2,w3,w4⟩:=fR ye (by decide) (o:=1) (by rw[uf];omega) (v:=x1) p5
   have fg:(aK t x).set 1 x1=aK { t with after:=t.after++[(m:Int)] } x1:=rfl
   rw[fg] at w2
   have kg:=p3.nx
   have XR:p∉ak x1:=fun z=>(p4 p z).elim hT.ne fun z=>by omega
   have mF:TO H2 p { t with after:=t.after++[(m:Int)] } x1:=⟨w2,p2.out w3 fun j hj=>by rw[aan];intro e;subst e;exact XR hj,XR⟩
   have o2:Out (p::ak x) H H2:=(p3.mono fun j hj => .tail _ hj).trans (w3.mono fun j hj=>by rw[aan] at hj;subst hj;exact .head _)
   have iv:=jP.lt
   have oI:=KF.lt
   have qg:∀ j,j∈ak nx\/j∈ak sx->j≠p/\j∉ak x1:=fun j hj=>⟨(hd j hj).1,fun z=>(p4 j z).elim (hd j hj).2 fun y=>by have:=hj.elim (iv j) (oI j);omega⟩
   obtain⟨H',i1,i2⟩:=Sj (p:=p) mO lB r (i+1) H2 { t with after:=t.after++[(m:Int)] } x1 h1 h3 (jP.out o2 fun j hj=>by rw[abn,not_or];exact hd j (.inl hj)) (KF.out o2 fun j hj=>by rw[abn,not_or];exact hd j (.inr hj)) mF qg (by simp;omega)
   have key:∀ j∈ak x1,j∈ak x\/H.next<=j:=fun j hj=>(p4 j hj).imp id fun z=>by omega
   have gT:=o2.nx
   have oo:Out (p::ak x) H H':=o2.then i1 fun j hj=>by
    rcases abn.1 hj with rfl | hj
    ·exact .inl (.head _)
    ·exact (key j hj).imp (fun z => .tail _ z) id
   have iY:=p1 _ rfl
   refine⟨H',oo,?_⟩
   rcases i2 with⟨l,x',k1,k2,k3,k4⟩ | ⟨k1,k2⟩
   ·refine .inl ⟨(m:Int)::l,x',by simp[k1],fun eU cG => ?_,by simpa[aea] using k3,fun j hj=>(k4 j hj).elim (key j) fun z => .inr (by omega)⟩
    rw[Lj]
    simp(disch:=(first|assumption|omega|(simp only[ag,af,simprocAttr]<;>fail)|(simp only[af];omega)|(simp only[ag,af,simprocAttr, *]<;>fail)|fail))only[Dc,bN h1,q1,q2,mP,d,AW,iY,w1,es,k2,au,ar,aj,ai,simprocAttr]
   ·refine .inr ⟨by simp[k1],fun eU cG => ?_⟩
    rw[Lj]
    simp(disch:=(first|assumption|omega|(simp only[ag,af,simprocAttr]<;>fail)|(simp only[af];omega)|(simp only[ag,af,simprocAttr, *]<;>fail)|fail))only[Dc,bN h1,q1,q2,mP,d,AW,iY,w1,es,k2,au,ar,aj,ai,simprocAttr]
theorem Ho {a b:aq} (h:a≠b):(a==b)=false:=beq_false_of_ne h
theorem aht {names:List aq} {nx:AV} {p:Nat} {key value:aq} {t:Tk} {x:AV} {H:Hp} (hg:Gl H) (mO:names.length<=100000) (hv:value.length<=90000) (jP:Rw H 1 nx (strs names)) (hT:TO H p t x) (hd:∀ j,j∈ak nx->j≠p/\j∉ak x) (dq:t.after.length<=10000) :
  ∃ ok H',cK (.func (.func 118) [] []) [.ptr p 0,.str key,.str value,nx] H=some (.bool ok,H')/\Out (p::ak x) H H'/\(ok=true->∃ t' x',jf t key value names=some t'/\TO H' p t' x'/\∀ j∈ak x',j∈ak x\/H.next<=j)/\(ok=false->jf t key value names=none):=by
 obtain⟨n,Pk,H1,n1,n2,n3,n4⟩:=abH (s:=value) hg
 have qI:=hT.aw n4
 have hp1:=qI.c.1
 have Ay:=jP.aw n4
 have kg:=n4.nx
 have rG:∀ {S:List Nat} {A B:Hp},Out [] A B->Out S A B:=fun h=>h.mono fun j hj=>by cases hj
 have num:∀ (o:Nat) (f:Nat->Tk),o<6->(∀ m:Nat,(aK t x).set o (.int .i64 (m:Int))=aK (f m) x)->(∀ m,(f m).after=t.after)->jf t key value names=(qf value).map f->
   (∀ H2,st 1 (.ptr p o) (.int .i64 n) H1=some H2->ui JN GO cK (.ptr p 0) (.str key) (.str value) nx H=some (.bool Pk,H2))->∃ ok H',cK (.func (.func 118) [] []) [.ptr p 0,.str key,.str value,nx] H=some (.bool ok,H')/\Out (p::ak x) H H'/\(ok=true->∃ t' x',jf t key value names=some t'/\TO H' p t' x'/\∀ j∈ak x',j∈ak x\/H.next<=j)/\(ok=false->jf t key value names=none):=by
  intro o f ho hf hfa hm iV
  cases Pk with
  | true=>
   obtain⟨m,rfl⟩:∃ m:Nat,n=m:=⟨n.toNat,by have:=n3 rfl;omega⟩
   obtain⟨H2,w1,w2,w3⟩:=qI.st o ho (.int .i64 (m:Int)) rfl (f m) (hf m) (hfa m)
   refine⟨true,H2,AR (iV H2 w1),(rG n4).trans (w3.mono fun j hj=>by rw[aan] at hj;subst hj;exact .head _),fun _=>⟨f m,x,?_,w2,fun j hj => .inl hj⟩,fun q=>by cases q⟩
   rw[hm,n2,if_pos rfl,ab9];rfl
  | false=>
   obtain⟨H2,w1,w2,w3,w4⟩:=fR qI.c (by decide) (o:=o) (by rw[uf];exact ho) (v := .int .i64 n) rfl
   refine⟨false,H2,AR (iV H2 w1),(rG n4).trans (w3.mono fun j hj=>by rw[aan] at hj;subst hj;exact .head _),fun q=>(by cases q),fun _ => ?_⟩
   rw[hm,n2];rfl
 by_cases k1:key=u6
 ·subst k1
  obtain⟨sx,H2,s1,s2,s3,s4⟩:=Nu (c:=44) (by decide) (s:=value) (by omega) H1
  have oI:=s2.kC
  rw[iP] at oI
  have lB:(cW 44 value).length<=90001:=by rw[Cg];have:=Kk 44 value;omega
  have mF:=qI.aw s3
  have CI:=jP.lt
  have Fc:=hT.o.rw.lt
  have hpH:=hT.c.1
  obtain⟨H',i1,i2⟩:=Sj (p:=p) mO (by omega) (cW 44 value) 0 H2 t x (ab2 _) abJ (Ay.aw s3) s2 mF (fun j hj=>hj.elim (hd j) fun z=>⟨by have:=s4 j z;omega,fun y=>by have:=s4 j z;have:=Fc j y;omega⟩) (by omega)
  have hm:jf t u6 value names=(sH names (cW 44 value)).map fun l=>{ t with after:=t.after++l }:=by unfold jf;rw[if_pos rfl]
  have oo:Out (p::ak x) H H':=(rG (n4.trans s3)).trans i1
  have gT:=(n4.trans s3).nx
  have e:(u6==u6)=true:=rfl
  rcases i2 with⟨l,x',q1,q2,q3,q4⟩ | ⟨q1,q2⟩
  ·rw[show (((0:Nat):Int))=0 from rfl] at q2
   refine⟨true,H',AR ?_,oo,fun _=>⟨_,x',by rw[hm,q1];rfl,q3,fun j hj=>(q4 j hj).imp id fun z=>by omega⟩,fun q=>by cases q⟩
   unfold ui
   simp(disch:=(first|assumption|omega|(simp only[ag,af,simprocAttr]<;>fail)|(simp only[af];omega)|(simp only[ag,af,simprocAttr, *]<;>fail)|fail))only[n1,e,s1,oI,q2,au,ar,aj,ai,simprocAttr]
  ·rw[show (((0:Nat):Int))=0 from rfl] at q2
   refine⟨false,H',AR ?_,oo,fun q=>(by cases q),fun _=>by rw[hm,q1];rfl⟩
   unfold ui
   simp(disch:=(first|assumption|omega|(simp only[ag,af,simprocAttr]<;>fail)|(simp only[af];omega)|(simp only[ag,af,simprocAttr, *]<;>fail)|fail))only[n1,e,s1,oI,q2,au,ar,aj,ai,simprocAttr]
 have e1:=Ho k1
 by_cases k2:key=xH
 ·subst k2
  have e2:(xH==xH)=true:=rfl
  refine num 2 (fun m=>{ t with dG:=(m:Int) }) (by omega) (fun m=>rfl) (fun m=>rfl) (by unfold jf;rw[if_neg k1,if_pos rfl]) fun H2 aD => ?_
  unfold ui
  simp(disch:=(first|assumption|omega|(simp only[ag,af,simprocAttr]<;>fail)|(simp only[af];omega)|(simp only[ag,af,simprocAttr, *]<;>fail)|fail))only[n1,e1,e2,aD,au,ar,aj,ai,simprocAttr]
 have e2:=Ho k2
 by_cases k3:key=wH
 ·subst k3
  have e3:(wH==wH)=true:=rfl
  refine num 3 (fun m=>{ t with wait:=(m:Int) }) (by omega) (fun m=>rfl) (fun m=>rfl) (by unfold jf;rw[if_neg k1,if_neg k2,if_pos rfl]) fun H2 aD => ?_
  unfold ui
  simp(disch:=(first|assumption|omega|(simp only[ag,af,simprocAttr]<;>fail)|(simp only[af];omega)|(simp only[ag,af,simprocAttr, *]<;>fail)|fail))only[n1,e1,e2,e3,aD,au,ar,aj,ai,simprocAttr]
 have e3:=Ho k3
 by_cases k4:key=uP
 ·subst k4
  have e4:(uP==uP)=true:=rfl
  refine num 4 (fun m=>{ t with base:=(m:Int) }) (by omega) (fun m=>rfl) (fun m=>rfl) (by unfold jf;rw[if_neg k1,if_neg k2,if_neg k3,if_pos rfl]) fun H2 aD => ?_
  unfold ui
  simp(disch:=(first|assumption|omega|(simp only[ag,af,simprocAttr]<;>fail)|(simp only[af];omega)|(simp only[ag,af,simprocAttr, *]<;>fail)|fail))only[n1,e1,e2,e3,e4,aD,au,ar,aj,ai,simprocAttr]
 have e4:=Ho k4
 by_cases k5:key=sB
 ·subst k5
  have e5:(sB==sB)=true:=rfl
  obtain⟨H2,w1,w2,w3⟩:=qI.st 5 (by omega) (.str value) rfl { t with on:=value } rfl rfl
  have oo:Out (p::ak x) H H2:=(rG n4).trans (w3.mono fun j hj=>by rw[aan] at hj;subst hj;exact .head _)
  have hm:jf t sB value names=if value=[] then none else some { t with on:=value }:=by unfold jf;rw[if_neg k1,if_neg k2,if_neg k3,if_neg k4,if_pos rfl]
  by_cases BD:value=[]
  ·have e6:(value==[])=true:=by rw[BD];rfl
   refine⟨false,H2,AR ?_,oo,fun q=>(by cases q),fun _=>by rw[hm,if_pos BD]⟩
   unfold ui
   simp(disch:=(first|assumption|omega|(simp only[ag,af,simprocAttr]<;>fail)|(simp only[af];omega)|(simp only[ag,af,simprocAttr, *]<;>fail)|fail))only[n1,e1,e2,e3,e4,e5,e6,w1,au,ar,aj,ai,simprocAttr]
  ·have e6:(value==[])=false:=beq_false_of_ne BD
   refine⟨true,H2,AR ?_,oo,fun _=>⟨_,x,by rw[hm,if_neg BD],w2,fun j hj => .inl hj⟩,fun q=>by cases q⟩
   unfold ui
   simp(disch:=(first|assumption|omega|(simp only[ag,af,simprocAttr]<;>fail)|(simp only[af];omega)|(simp only[ag,af,simprocAttr, *]<;>fail)|fail))only[n1,e1,e2,e3,e4,e5,e6,w1,au,ar,aj,ai,simprocAttr]
 ·have e5:=Ho k5
  have hm:jf t key value names=(qf value).map fun _=>t:=by unfold jf;rw[if_neg k1,if_neg k2,if_neg k3,if_neg k4,if_neg k5]
  refine⟨Pk,H1,AR ?_,rG n4,fun q=>⟨t,x,?_,qI,fun j hj => .inl hj⟩,fun q => ?_⟩
  ·unfold ui
   simp(disch:=(first|assumption|omega|(simp only[ag,af,simprocAttr]<;>fail)|(simp only[af];omega)|(simp only[ag,af,simprocAttr, *]<;>fail)|fail))only[n1,e1,e2,e3,e4,e5,au,ar,aj,ai,simprocAttr]
  ·rw[hm,n2,if_pos q];rfl
  ·rw[hm,n2,q];rfl
noncomputable def mi (names:List aq):List aq->Tk->List aq->Option Tk
 | [],t,_=>some t
 | s::r,t,ks=>match ks.findIdx? (fun a=>(cut 61 s).1==a) with
  | none=>none
  | some m=>if (cut 61 s).1.length=s.length then none else match jf t (cut 61 s).1 (cut 61 s).2.1 names with
   | none=>none
   | some t'=>mi names r t' (ks.drop (m+1))
theorem X9 (c:Nat) (s:aq):(cut c s).1.length<=s.length/\(cut c s).2.1.length<=s.length:=by
 unfold cut
 split
 ·exact⟨by rw[adA];exact aiZ _ _,by rw[ae1];exact Nat.sub_le _ _⟩
 ·exact⟨abe _,ab2 _⟩
theorem TW {names:List aq}:∀ {r:List aq} {l:List Int},sH names r=some l->l.length=r.length
 | [],l,h=>by cases h;rfl
 | s::r,l,h=>by
  unfold sH at h
  split at h
  ·rw[aaF] at h
   obtain⟨l',h1,rfl⟩:=h
   simp[TW h1]
  ·cases h
theorem Zj {t t':Tk} {key value:aq} {names:List aq} (h:jf t key value names=some t'):t'.after.length<=t.after.length+value.length+1:=by
 unfold jf at h
 split at h
 ·rw[aaF] at h
  obtain⟨l,h1,rfl⟩:=h
  have:=TW h1
  rw[Cg] at this
  have:=Kk 44 value
  simp only[aby];omega
 ·split at h
  ·rw[aaF] at h;obtain⟨m,_,rfl⟩:=h;simp only;omega
  ·split at h
   ·rw[aaF] at h;obtain⟨m,_,rfl⟩:=h;simp only;omega
   ·split at h
    ·rw[aaF] at h;obtain⟨m,_,rfl⟩:=h;simp only;omega
    ·split at h
     ·split at h
      ·cases h
      ·cases h;simp only;omega
     ·rw[aaF] at h;obtain⟨m,_,rfl⟩:=h;omega
theorem VK {α:Type} {p:α->Bool}:∀ {l:List α} {m:Nat},l.findIdx? p=some m->m<l.length
 | [],m,h=>by cases h
 | a::l,m,h=>by
  rw[agz] at h
  split at h
  ·cases h;simp
  ·rw[aaF] at h
   obtain⟨k,h1,rfl⟩:=h
   have:=VK h1
   simp only[abx];omega
theorem Zo {names w:List aq} {nx wx:AV} {p q:Nat} (mO:names.length<=100000) (Ah:w.length<=100000) (B3:∀ s∈w,s.length<=80000) (AT:p≠q):∀ (r:List aq) (i:Nat) (H:Hp) (t:Tk) (x kx:AV) (ks:List aq),i<=w.length->w.drop i=r->Gl H->11<=p->(∀ j∈ak x,11<=j)->Rw H 1 nx (strs names)->Rw H 1 wx (strs w)->Rw H 1 kx (strs ks)->ks.length<=10->TO H p t x->(∀ j,j∈ak nx\/j∈ak wx\/j∈ak kx->j≠p/\j∉ak x)->t.after.length+dB r+r.length<=10000->
  ∃ H',Out (p::ak x) H H'/\((∃ t' x',mi names r t ks=some t'/\(∀ aG:K.Fn 2,Cl JN GO cK aG nx (.ptr q 0) (.ptr p 0) kx wx (.int .i64 (w.length:Nat)) (.int .i64 (i:Nat)) H=aG (.ptr q 0) (.ptr p 0) H')/\TO H' p t' x'/\∀ j∈ak x',j∈ak x\/H.next<=j)\/
   (mi names r t ks=none/\(cellAt H q 0).isSome=true/\False)\/(mi names r t ks=none/\∃ H2,Out (p::ak x) H H2/\∀ aG:K.Fn 2,Cl JN GO cK aG nx (.ptr q 0) (.ptr p 0) kx wx (.int .i64 (w.length:Nat)) (.int .i64 (i:Nat)) H=B1 (st 6 (.ptr q 0) (.agg [(.str []),.ah,(.int .i64 0),(.int .i64 0),(.int .i64 0),(.str [])]) H2) fun h=>B1 (aC 6 (.ptr q 0) h) fun v=>some (.tuple [v,.bool false],h)))
 | [],i,H,t,x,kx,ks,hi,h,hg,Q1,Q9,jP,xa,KQ,jV,hT,hd,dq=>by
  obtain rfl:=drop_nil hi h
  refine⟨H,Out.refl _ _,.inl ⟨t,x,rfl,fun aG => ?_,hT,fun j hj => .inl hj⟩⟩
  rw[DA]
  simp only[yQ,fw,aj,ai,simprocAttr]
 | s::r,i,H,t,x,kx,ks,hi,h,hg,Q1,Q9,jP,xa,KQ,jV,hT,hd,dq=>by
  obtain⟨h1,h2,h3⟩:=fC h
  obtain⟨y,q1,q2⟩:=xa.jy (tB h2) .i64
  have es:=fF h1 (by omega)
  have oI:=B3 s (aa2 h2)
  have zb:=anQ (c:=61) (by decide) (s:=s) (by omega) H
  obtain⟨cl1,cl2⟩:=X9 61 s
  have mP:=NU KQ (by omega) (cut 61 s).1
  have qT:dB (s::r)=s.length+dB r:=by simp[dB]
  rw[qT] at dq
  simp only[abx] at dq
  have DJ:fl [(.str []),.ah,(.int .i64 0),(.int .i64 0),(.int .i64 0),(.str [])] []=some [(.str []),.ah,(.int .i64 0),(.int .i64 0),(.int .i64 0),(.str [])]:=rfl
  unfold mi
  cases hf:ks.findIdx? (fun a=>(cut 61 s).1==a) with
  | none=>
   rw[hf] at mP
   have d:decide (lj none<0)=true:=rfl
   refine⟨H,Out.refl _ _,.inr (.inr ⟨rfl,H,Out.refl _ _,fun aG => ?_⟩)⟩
   rw[DA]
   simp(disch:=(first|assumption|omega|(simp only[ag,af,simprocAttr]<;>fail)|(simp only[af];omega)|(simp only[ag,af,simprocAttr, *]<;>fail)|fail))only[yQ,bN h1,q1,q2,zb,mP,d,DJ,au,ar,aj,ai,simprocAttr]
  | some m=>
   rw[hf] at mP
   have hm:=VK hf
   have d:decide (lj (some m)<0)=false:=decide_eq_false (by show ¬ ((m:Int)<0);omega)
   have qp:lj (some m)=(m:Int):=rfl
   rw[qp] at mP d
   simp only
   by_cases hl:(cut 61 s).1.length=s.length
   ·have d2:(((cut 61 s).1.length:Int)==(s.length:Int))=true:=by rw[hl];simp
    rw[if_pos hl]
    refine⟨H,Out.refl _ _,.inr (.inr ⟨rfl,H,Out.refl _ _,fun aG => ?_⟩)⟩
    rw[DA]
    simp(disch:=(first|assumption|omega|(simp only[ag,af,simprocAttr]<;>fail)|(simp only[af];omega)|(simp only[ag,af,simprocAttr, *]<;>fail)|fail))only[yQ,bN h1,q1,q2,zb,mP,d,d2,DJ,au,ar,aj,ai,simprocAttr]
   ·have d2:(((cut 61 s).1.length:Int)==(s.length:Int))=false:=beq_false_of_ne (by omega)
    rw[if_neg hl]
    obtain⟨ok,H1,s1,s2,s3,s4⟩:=aht (key:=(cut 61 s).1) (value:=(cut 61 s).2.1) hg mO (by omega) jP hT (fun j hj=>hd j (.inl hj)) (by omega)
    cases ok with
    | false=>
     have hs:=s4 rfl
     rw[hs]
     refine⟨H1,s2,.inr (.inr ⟨rfl,H1,s2,fun aG => ?_⟩)⟩
     rw[DA]
     simp(disch:=(first|assumption|omega|(simp only[ag,af,simprocAttr]<;>fail)|(simp only[af];omega)|(simp only[ag,af,simprocAttr, *]<;>fail)|fail))only[yQ,bN h1,q1,q2,zb,mP,d,d2,s1,DJ,au,ar,aj,ai,simprocAttr]
    | true=>
     obtain⟨t',x',u1,u2,u3⟩:=s3 rfl
     rw[u1]
     have BW:=Zj u1
     have e1:IntKind.wrap .i64 ((m:Int)+1)=((m+1:Nat):Int):=by rw[wrap_i64 (by omega) (by omega)];rfl
     have gr:∀ j,j∈ak nx\/j∈ak wx\/j∈ak kx->j∉p::ak x:=fun j hj=>by rw[abn,not_or];exact hd j hj
     have aec:=KQ.out s2 fun j hj=>gr j (.inr (.inr hj))
     obtain⟨kx',k1,k2,k3⟩:=Ft (n:=ks.length) aec (by rw[iP,aeu]) (by decide) (a:=m+1) (b:=ks.length) (lo:=some (.int .i64 (m+1:Nat))) (hi:=none) (by omega) (abe _) (Bd.yes _ _ _) (Bd.no _)
     have fV:((strs ks).drop ((m+1)*1)).take ((ks.length-(m+1))*1)=strs (ks.drop (m+1)):=by
      rw[aeu,aeu,aer (by rw[ae1,iP];omega)]
      simp[strs,List.map_drop]
     rw[fV] at k2
     have aQ:∀ j,j∈ak nx\/j∈ak wx\/j∈ak kx->j<H.next:=fun j hj=>by
      rcases hj with hj | hj | hj
      ·exact jP.lt j hj
      ·exact xa.lt j hj
      ·exact KQ.lt j hj
     have Jq:=hg.nx
     have kg:=s2.nx
     obtain⟨H',i1,i2⟩:=Zo (q:=q) mO Ah B3 AT r (i+1) H1 t' x' kx' (ks.drop (m+1)) h1 h3 (hg.out s2 fun j hj=>by
      rcases abn.1 hj with rfl | hj
      ·exact Q1
      ·exact Q9 j hj) Q1 (fun j hj=>(u3 j hj).elim (Q9 j) fun z=>by omega) (jP.out s2 fun j hj=>gr j (.inl hj)) (xa.out s2 fun j hj=>gr j (.inr (.inl hj))) k2 (by rw[ae1];omega) u2 (fun j hj=>by
       have jn:j∈ak nx\/j∈ak wx\/j∈ak kx:=hj.imp id fun z=>z.imp id (k3 j)
       exact⟨(hd j jn).1,fun z=>(u3 j z).elim (hd j jn).2 fun y=>by have:=aQ j jn;omega⟩) (by omega)
     have key:∀ j∈p::ak x',j∈p::ak x\/H.next<=j:=fun j hj=>by
      rcases abn.1 hj with rfl | hj
      ·exact .inl (.head _)
      ·exact (u3 j hj).imp (fun z => .tail _ z) id
     refine⟨H',s2.then i1 key,?_⟩
     simp only
     rcases i2 with⟨t2,x2,v1,v2,v3,v4⟩ | ⟨_,_,v⟩ | ⟨v1,H2,v2,v3⟩
     ·refine .inl ⟨t2,x2,v1,fun aG => ?_,v3,fun j hj=>(v4 j hj).elim (u3 j) fun z => .inr (by omega)⟩
      rw[DA]
      simp(disch:=(first|assumption|omega|(simp only[ag,af,simprocAttr]<;>fail)|(simp only[af];omega)|(simp only[ag,af,simprocAttr, *]<;>fail)|fail))only[yQ,bN h1,q1,q2,zb,mP,d,d2,s1,e1,k1,es,v2,au,ar,aj,ai,simprocAttr]
     ·exact v.elim
     ·refine .inr (.inr ⟨v1,H2,s2.then v2 key,fun aG => ?_⟩)
      rw[DA]
      simp(disch:=(first|assumption|omega|(simp only[ag,af,simprocAttr]<;>fail)|(simp only[af];omega)|(simp only[ag,af,simprocAttr, *]<;>fail)|fail))only[yQ,bN h1,q1,q2,zb,mP,d,d2,s1,e1,k1,es,v3,au,ar,aj,ai,simprocAttr]
abbrev kb:List aq:=[u6,xH,wH,uP,sB]
noncomputable def uQ (names w:List aq):Option Tk:=mi names w.tail ⟨w.headD [],[],0,10,1,[]⟩ kb
theorem ir {H:Hp} {i n el:Nat} {l vs:List AV} (h:Cs H i l el 0) (hn:n=vs.length) (hl:l.length=vs.length) (hv:vs.all bq=true):∃ H',st n (.ptr i 0) (.agg vs) H=some H'/\Cs H' i vs el 0/\Out [i] H H'/\H'.next=H.next:=by
 obtain⟨hi,c,hc,hg⟩:=h
 obtain⟨H',c',q1,q2,q3,q4,q5⟩:=IV vs H i 0 c 0 l.length el 0 hc (by omega) (abe _) (by omega) (fun k hk=>by rw[adt,hg k (l[k]'(by omega)) (aaM (by omega))];rfl) (adn.1 hv)
 refine⟨H',?_,⟨by omega,c',?_,fun k v hk => ?_⟩,⟨by omega,fun j hj hn=>q4 j (by simpa using hn)⟩,q2⟩
 ·unfold st
  have:Nat.beq n vs.length=true:=by subst hn;exact afB _
  simp only[z7,this,cond_true]
  exact q1
 ·rw[q3,hl]
 ·have:=(aaK.1 hk).1
  rw[q5,if_pos (by omega),afC];exact hk
theorem aiO {names w:List aq} {nx wx:AV} {H:Hp} (hg:Gl H) (mO:names.length<=100000) (hw0:w≠[]) (Ah:w.length<=5000) (B3:∀ s∈w,s.length<=80000) (qT:dB w+w.length<=10000) (jP:Rw H 1 nx (strs names)) (xa:Rw H 1 wx (strs w)) :
  ∃ H',Out [] H H'/\((∃ t x,uQ names w=some t/\cK (.func (.func 89) [] []) [wx,nx] H=some (.tuple [.agg (aK t x),.bool true],H')/\Rw H' 1 x (ints t.after)/\∀ j∈ak x,H.next<=j)\/(uQ names w=none/\∃ v,cK (.func (.func 89) [] []) [wx,nx] H=some (.tuple [.agg v,.bool false],H')/\v.length=6/\v.all bq=true)):=by
 obtain⟨w0,w,rfl⟩:∃ a b,w=a::b:=by
  cases w with
  | nil=>exact absurd rfl hw0
  | cons a b=>exact⟨a,b,rfl⟩
 have Jq:=hg.nx
 have o1:=aN H [(AV.str []),AV.ah,(AV.int .i64 0),(AV.int .i64 0),(AV.int .i64 0),(AV.str [])] 99 0
 have o2:=aN (al H [(AV.str []),AV.ah,(AV.int .i64 0),(AV.int .i64 0),(AV.int .i64 0),(AV.str [])] 99 0) (aK ⟨w0,[],0,10,1,[]⟩ .ah) 99 0
 have o3:=aN (al (al H [(AV.str []),AV.ah,(AV.int .i64 0),(AV.int .i64 0),(AV.int .i64 0),(AV.str [])] 99 0) (aK ⟨w0,[],0,10,1,[]⟩ .ah) 99 0) (strs kb) 9 0
 have bU:=o1.trans o2
 have gX:=bU.trans o3
 have c1:=((bD H [(AV.str []),AV.ah,(AV.int .i64 0),(AV.int .i64 0),(AV.int .i64 0),(AV.str [])] 99 0).out o2 (by simp)).out o3 (by simp)
 have c2:=(bD (al H [(AV.str []),AV.ah,(AV.int .i64 0),(AV.int .i64 0),(AV.int .i64 0),(AV.str [])] 99 0) (aK ⟨w0,[],0,10,1,[]⟩ .ah) 99 0).out o3 (by simp)
 have c3:=bD (al (al H [(AV.str []),AV.ah,(AV.int .i64 0),(AV.int .i64 0),(AV.int .i64 0),(AV.str [])] 99 0) (aK ⟨w0,[],0,10,1,[]⟩ .ah) 99 0) (strs kb) 9 0
 generalize hH3:al (al (al H [(AV.str []),AV.ah,(AV.int .i64 0),(AV.int .i64 0),(AV.int .i64 0),(AV.str [])] 99 0) (aK ⟨w0,[],0,10,1,[]⟩ .ah) 99 0) (strs kb) 9 0=H3 at *
 have zg:H3.next=H.next+3:=by rw[<-hH3];rfl
 have kJ:Rw H3 1 (.slice (H.next+2) 0 5 5 true 1) (strs kb) := .mk c3.ro rfl (abe _) rfl
 have ah7:=xa.aw gX
 obtain⟨wx',s1,s2,s3⟩:=Ft (n:=w.length+1) ah7 (by rw[iP];simp) (by decide) (a:=1) (b:=w.length+1) (lo:=some (.int .i64 1)) (hi:=none) (by omega) (abe _) (Bd.yes .i64 1 0) (Bd.no _)
 have qc:((strs (w0::w)).drop (1*1)).take ((w.length+1-1)*1)=strs w:=by
  rw[aeu,aeu,Nat.add_sub_cancel]
  show (strs w).take w.length=_
  rw[aer (by rw[iP];omega)]
 rw[qc] at s2
 have NW:=s2.kC
 rw[iP] at NW
 have QA:=xa.lt
 have CI:=jP.lt
 obtain⟨y,y1,y2⟩:=(xa.aw o1).jy (i:=0) (v := .str w0) rfl .i64
 rw[show (((0:Nat):Int))=0 from rfl] at y1
 have ud:dB (w0::w)=w0.length+dB w:=by simp[dB]
 rw[ud] at qT
 simp only[abx] at qT Ah
 have hT:TO H3 (H.next+1) ⟨w0,[],0,10,1,[]⟩ .ah:=⟨c2,.nil,by simp[ak]⟩
 obtain⟨H4,i1,i2⟩:=Zo (q:=H.next) (p:=H.next+1) mO (by omega) (fun s hs=>B3 s (.tail _ hs)) (by omega) w 0 H3 ⟨w0,[],0,10,1,[]⟩ .ah (.slice (H.next+2) 0 5 5 true 1) kb (ab2 _) abJ (hg.aw gX) (by omega) (fun j hj=>by cases hj) (jP.aw gX) s2 kJ (by decide) hT (fun j hj=>by
  refine⟨?_,by simp[ak]⟩
  rcases hj with hj | hj | hj
  ·have:=CI j hj;omega
  ·have:=QA j (s3 j hj);omega
  ·rw[mr (by rfl),aan] at hj;omega) (by simp;omega)
 have CA:Out [H.next+1] H3 H4:=i1.mono fun j hj=>by
  rcases abn.1 hj with rfl | hj
  ·exact .head _
  ·cases hj
 have IF:fl [(.str []),.ah,(.int .i64 0),(.int .i64 0),(.int .i64 0),(.str [])] [(0,1,.str w0),(3,1,.int .i64 10),(4,1,.int .i64 1)]=some (aK ⟨w0,[],0,10,1,[]⟩ .ah):=rfl
 have Cr:fl [(.str []),(.str []),(.str []),(.str []),(.str [])] [(0,1,.str [97,102,116,101,114]),(1,1,.str [114,101,116,114,121]),(2,1,.str [119,97,105,116]),(3,1,.str [98,97,115,101]),(4,1,.str [111,110])]=some (strs kb):=rfl
 have aD:=wG ⟨w0,[],0,10,1,[]⟩ .ah rfl (al H [(AV.str []),AV.ah,(AV.int .i64 0),(AV.int .i64 0),(AV.int .i64 0),(AV.str [])] 99 0)
 have ZX:aL (al (al H [(AV.str []),AV.ah,(AV.int .i64 0),(AV.int .i64 0),(AV.int .i64 0),(AV.str [])] 99 0) (aK ⟨w0,[],0,10,1,[]⟩ .ah) 99 0) (strs kb) 9 0=some (H.next+2,H3):=by rw[<-hH3,iy (by show 5<=_;omega)];rfl
 have X1:H.next+1+1=H.next+2:=rfl
 have hm:uQ names (w0::w)=mi names w ⟨w0,[],0,10,1,[]⟩ kb:=rfl
 rw[hm]
 have fin:∀ {A:Hp} {S:List Nat},Out S H3 A->(∀ j∈S,H.next<=j)->Out [] H A:=fun h hS=>gX.then h fun j hj => .inr (hS j hj)
 have fI:(al H [(AV.str []),AV.ah,(AV.int .i64 0),(AV.int .i64 0),(AV.int .i64 0),(AV.str [])] 99 0).next=H.next+1:=rfl
 rw[fI] at aD
 rw[show (((0:Nat):Int))=0 from rfl] at i2
 rcases i2 with⟨t,x,v1,v2,v3,v4⟩ | ⟨_,_,v⟩ | ⟨v1,H5,v2,v3⟩
 ·have kR:=v3.o.kf
  have oQ:av H4 (H.next+1) 0 6=some (aK t x):=v3.c.av 6 0 (by rw[uf];omega)
  have c4:=c1.out CA (by simp)
  obtain⟨H5,w1,w2,w3,w4⟩:=ir (n:=6) (vs:=aK t x) c4 rfl rfl (by simp[aK,Df,lU,kR])
  have hc5:av H5 H.next 0 6=some (aK t x):=w2.av 6 0 (by rw[uf];omega)
  have Fc:∀ j∈ak x,H3.next<=j:=fun j hj=>(v4 j hj).elim (fun z=>by cases z) id
  refine⟨H5,(fin CA (fun j hj=>by rw[aan] at hj;omega)).then w3 fun j hj=>by rw[aan] at hj;exact .inr (by omega),.inl ⟨t,x,v1,Tv ?_,v3.o.rw.out w3 fun j hj=>by rw[aan];have:=Fc j hj;omega,fun j hj=>by have:=Fc j hj;omega⟩⟩
  unfold Ln
  simp(disch:=(first|assumption|omega|(simp only[ag,af,simprocAttr]<;>fail)|(simp only[af];omega)|(simp only[ag,af,simprocAttr, *]<;>fail)|fail))only[y1,y2,IF,aD,Cr,ZX,hH3,X1,s1,NW,v2,oQ,w1,hc5,au,ar,aj,ai,simprocAttr]
 ·exact v.elim
 ·have Bw:Out [H.next+1] H3 H5:=v2.mono fun j hj=>by
   rcases abn.1 hj with rfl | hj
   ·exact .head _
   ·cases hj
  have c5:=c1.out Bw (by simp)
  obtain⟨H6,w1,w2,w3,w4⟩:=ir (n:=6) (vs:=[(AV.str []),AV.ah,(AV.int .i64 0),(AV.int .i64 0),(AV.int .i64 0),(AV.str [])]) c5 rfl rfl rfl
  have hc6:av H6 H.next 0 6=some [(AV.str []),AV.ah,(AV.int .i64 0),(AV.int .i64 0),(AV.int .i64 0),(AV.str [])]:=w2.av 6 0 (by show 0+6<=6;omega)
  refine⟨H6,(fin Bw (fun j hj=>by rw[aan] at hj;omega)).then w3 fun j hj=>by rw[aan] at hj;exact .inr (by omega),.inr ⟨v1,[(AV.str []),AV.ah,(AV.int .i64 0),(AV.int .i64 0),(AV.int .i64 0),(AV.str [])],Tv ?_,rfl,rfl⟩⟩
  unfold Ln
  simp(disch:=(first|assumption|omega|(simp only[ag,af,simprocAttr]<;>fail)|(simp only[af];omega)|(simp only[ag,af,simprocAttr, *]<;>fail)|fail))only[y1,y2,IF,aD,Cr,ZX,hH3,X1,s1,NW,v3,w1,hc6,au,ar,aj,ai,simprocAttr]
end Go.Proofs.YtodfajmihkagnaaGreatDoor.DfK
