/- Laws that the proof uses. -/
import Derived.Test.YtodfajmihkagnaaGreatDoorDfKb
import Derived.Test.YtodfajmihkagnaaGreatDoorAm16
import Derived.Lib.ItoaNum
import Derived.Test.YtodfajmihkagnaaGreatDoorAm13
set_option linter.unusedVariables false
set_option linter.unusedSimpArgs false
set_option maxRecDepth 10000
namespace Go.Proofs.YtodfajmihkagnaaGreatDoor.mc
open Go Am
abbrev aq:=List Nat
def cq (c:Nat):aq->List aq
 | []=>[[]]
 | b::s=>if b=c then []::cq c s else match cq c s with | []=>[[b]] | h::t=>(b::h)::t
theorem wT (c:Nat):∀ s,cq c s≠[]
 | []=>by simp[cq]
 | b::s=>by
  unfold cq
  split
  ·simp
  ·split<;>simp
theorem K2 {c:Nat}:∀ {s:aq},c∉s->cq c s=[s]
 | [],_=>rfl
 | b::s,h=>by
  rw[aaD,not_or] at h
  unfold cq
  rw[if_neg (fun e=>h.1 e.symm),K2 h.2]
theorem II {c:Nat}:∀ {a:aq} (r:aq),c∉a->cq c (a++c::r)=a::cq c r
 | [],r,_=>by
  show cq c (c::r)=_
  unfold cq
  rw[if_pos rfl]
  cases r<;>rfl
 | b::a,r,h=>by
  rw[aaD,not_or] at h
  show cq c (b::(a++c::r))=_
  have:=II r h.2
  rw[cq,if_neg (fun e=>h.1 e.symm),this]
theorem Mb {c:Nat}:∀ {s:aq} {k:Nat},jx c s k=none->c∉s
 | [],k,_=>by simp
 | b::s,k,h=>by
  unfold jx at h
  cases hb:Nat.beq b c with
  | true=>rw[hb] at h;cases h
  | false=>
   rw[hb] at h
   have h1:b≠c:=fun e=>by subst e;rw[agQ] at hb;cases hb
   rw[aaD,not_or]
   exact⟨fun e=>h1 e.symm,Mb h⟩
theorem Fc {c:Nat}:∀ {s:aq} {k i:Nat},jx c s k=some i->∃ a r,s=a++c::r/\i=k+a.length/\c∉a
 | [],k,i,h=>by cases h
 | b::s,k,i,h=>by
  unfold jx at h
  cases hb:Nat.beq b c with
  | true=>
   rw[hb] at h
   cases h
   have:b=c:=abp hb
   subst this
   exact⟨[],s,rfl,rfl,by simp⟩
  | false=>
   rw[hb] at h
   have h1:b≠c:=fun e=>by subst e;rw[agQ] at hb;cases hb
   obtain⟨a,r,rfl,rfl,h3⟩:=Fc h
   refine⟨b::a,r,rfl,by simp;omega,?_⟩
   rw[aaD,not_or]
   exact⟨fun e=>h1 e.symm,h3⟩
theorem Tv {c:Nat}:∀ {a:aq} (r:aq) (k:Nat),c∉a->jx c (a++c::r) k=some (k+a.length)
 | [],r,k,_=>by
  show jx c (c::r) k=_
  unfold jx
  rw[agQ];rfl
 | b::a,r,k,h=>by
  rw[aaD,not_or] at h
  show jx c (b::(a++c::r)) k=_
  unfold jx
  have hb:Nat.beq b c=false:=by
   rw[<-agk];exact fun e=>h.1 (abp e).symm
  rw[hb,cond_false,Tv r (k+1) h.2,aaL]
  congr 1;omega
theorem B3 (c:Nat):∀ s,(cq c s).length=fR c s+1
 | []=>rfl
 | b::s=>by
  have ih:=B3 c s
  unfold cq fR
  by_cases h:b=c
  ·subst h
   rw[if_pos rfl,agQ,cond_true,aaL,ih]
  ·have hb:Nat.beq b c=false:=by
    rw[<-agk];exact fun e=>h (abp e)
   rw[if_neg h,hb,cond_false]
   cases hs:cq c s with
   | nil=>exact absurd hs (wT c s)
   | cons x y=>rw[hs] at ih;exact ih
theorem Lz (c:Nat):∀ s:aq,fR c s<=s.length
 | []=>aaC _
 | b::s=>by
  have:=Lz c s
  unfold fR
  cases Nat.beq b c<;>simp<;>omega
theorem Hy {c:Nat}:∀ {s:aq} {p:aq},p∈cq c s->(∀ b∈p,b∈s)/\c∉p/\p.length<=s.length
 | [],p,h=>by
  have:p=[]:=by simpa[cq] using h
  subst this;simp
 | b::s,p,h=>by
  unfold cq at h
  by_cases hb:b=c
  ·rw[if_pos hb] at h
   rcases aaD.1 h with rfl | h
   ·simp
   ·obtain⟨h1,h2,h3⟩:=Hy h
    exact⟨fun x hx => .tail _ (h1 x hx),h2,by simp;omega⟩
  ·rw[if_neg hb] at h
   cases hs:cq c s with
   | nil=>exact absurd hs (wT c s)
   | cons x y=>
    rw[hs] at h
    rcases aaD.1 h with rfl | h
    ·obtain⟨h1,h2,h3⟩:=Hy (c:=c) (s:=s) (p:=x) (by rw[hs];exact .head _)
     refine⟨fun z hz => ?_,?_,by simp;omega⟩
     ·rcases aaD.1 hz with rfl | hz
      ·exact .head _
      ·exact .tail _ (h1 z hz)
     ·rw[aaD,not_or];exact⟨fun e=>hb e.symm,h2⟩
    ·obtain⟨h1,h2,h3⟩:=Hy (c:=c) (s:=s) (p:=p) (by rw[hs];exact .tail _ h)
     exact⟨fun z hz => .tail _ (h1 z hz),h2,by simp;omega⟩
def jm (c:Nat):List aq->aq
 | []=>[]
 | [a]=>a
 | a::b::l=>a++c::jm c (b::l)
theorem KR {c:Nat}:∀ {l:List aq},l≠[]->(∀ p∈l,c∉p)->cq c (jm c l)=l
 | [],h,_=>absurd rfl h
 | [a],_,h=>K2 (h a (.head _))
 | a::b::l,_,h=>by
  show cq c (a++c::jm c (b::l))=_
  rw[II _ (h a (.head _)),KR (by simp) fun p hp=>h p (.tail _ hp)]
theorem abh (c:Nat):∀ s,jm c (cq c s)=s
 | []=>rfl
 | b::s=>by
  have ih:=abh c s
  unfold cq
  by_cases h:b=c
  ·rw[if_pos h]
   cases hs:cq c s with
   | nil=>exact absurd hs (wT c s)
   | cons x y=>rw[hs] at ih;show[]++c::jm c (x::y)=_;rw[ih,h];rfl
  ·rw[if_neg h]
   cases hs:cq c s with
   | nil=>exact absurd hs (wT c s)
   | cons x y=>
    rw[hs] at ih
    cases y with
    | nil=>show b::x=_;rw[<-ih];rfl
    | cons z w=>show b::x++c::jm c (z::w)=_;rw[<-ih];rfl
end Go.Proofs.YtodfajmihkagnaaGreatDoor.mc
namespace Go.Proofs.YtodfajmihkagnaaGreatDoor.DfK
open Go Am Am.K kb mc
theorem I6 {aX:Nat}{k:Ext}{fn:Func}{args:List AV}{H:Hp}{r:AV × Hp}(hp:aQ aX=none)(hf:P.funcs[aX]? = some fn)(hb:fn.body=none)(he:ext aX=some k)(h:DN P k args H=some r):cK (.func (.func aX) [] []) args H=some r:=by
 refine MQ JH ?_
 unfold vD
 simp only[hp,ahO,ag8,hf,hb,he]
 exact h
def kY:Option Nat->Int
 | some i=>i
 | none => -1
theorem adk {c:Nat}(hc:c<256)(s:aq)(H:Hp):cK (.func (.func 197) [] []) [.str s,.int .u8 c] H=some (.int .i64 (kY (jx c s 0)),H):=by
 refine I6 (k := .K4) (by kernel_rfl) Tryz.func197 rfl (by kernel_rfl) ?_
 show some (AV.int .i64 (match jx (Int.toNat (c:Int) % 256) s 0 with | some i=>(i:Int) | none => -1),H)=_
 rw[acr,aiY hc]
 cases jx c s 0<;>rfl
theorem akK {c:Nat}(hc:c<256)(s:aq)(H:Hp):cK (.func (.func 171) [] []) [.str s,.int .u8 c] H=some (.int .i64 (fR c s:Nat),H):=by
 refine I6 (k := .count) (by kernel_rfl) Tryz.func171 rfl (by kernel_rfl) ?_
 show some (AV.int .i64 (fR (Int.toNat (c:Int) % 256) s:Nat),H)=_
 rw[acr,aiY hc]
theorem aeu {c:Nat}(hc:c<256)(s:aq)(H:Hp):cK (.func (.func 186) [] []) [.str s,.int .u8 c] H=some (.int .i64 (kY (jx c s 0)),H):=by
 refine ajL ?_
 unfold UJ
 simp only[adk hc,ai,aj,Int.reduceBEq,Int.reduceBNe,Int.reduceLT,Int.reduceLE,Int.reduceGT,Int.reduceGE,Int.reduceNeg]
theorem O3 {c:Nat}(hc:c<256)(s:aq)(H:Hp):cK (.func (.func 172) [] []) [.str s,.str [c]] H=some (.int .i64 (kY (jx c s 0)),H):=by
 refine apm ?_
 unfold N0
 have h1:uO (.str [c]) (.int .i64 0)=some (.int .u8 c):=Ta .i64 rfl
 simp only[aeu hc,h1,aaL,acG,Int.ofNat_one,Nat.reduceAdd,Int.natCast_one,ai,aj,Int.reduceBEq,Int.reduceBNe,Int.reduceLT,Int.reduceLE,Int.reduceGT,Int.reduceGE,Int.reduceNeg]
 rw[QO]
 split
 ·rename_i h
  have h:[c]=s:=by simpa using h
  subst h
  unfold jx
  rw[agQ];rfl
 ·rfl
theorem alC {c:Nat}(hc:c<256)(s:aq)(H:Hp):cK (.func (.func 151) [] []) [.str s,.str [c]] H=some (.int .i64 (kY (jx c s 0)),H):=by
 refine akn ?_
 unfold VT
 simp only[O3 hc,ai,aj,Int.reduceBEq,Int.reduceBNe,Int.reduceLT,Int.reduceLE,Int.reduceGT,Int.reduceGE,Int.reduceNeg]
theorem ac7 {c:Nat}(hc:c<256)(s:aq)(H:Hp):cK (.func (.func 150) [] []) [.str s,.str [c]] H=some (.int .i64 (fR c s:Nat),H):=by
 refine an2 ?_
 unfold YW
 have h1:uO (.str [c]) (.int .i64 0)=some (.int .u8 c):=Ta .i64 rfl
 simp only[akK hc,h1,aaL,acG,Int.ofNat_one,Nat.reduceAdd,Int.natCast_one,ai,aj,Int.reduceBEq,Int.reduceBNe,Int.reduceLT,Int.reduceLE,Int.reduceGT,Int.reduceGE,Int.reduceNeg]
def cut (c:Nat)(s:aq):aq × aq × Bool:=match jx c s 0 with
 | some i=>(s.take i,s.drop (i+1),true)
 | none=>(s,[],false)
theorem aiH {c:Nat}(hc:c<256){s:aq}(hs:s.length<=1073741824)(H:Hp):cK (.func (.func 152) [] []) [.str s,.str [c]] H=some (.tuple [.str (cut c s).1,.str (cut c s).2.1,.bool (cut c s).2.2],H):=by
 refine ag9 ?_
 unfold abg cut
 cases hi:jx c s 0 with
 | none=>
  have d:decide ((0:Int) <= -1)=false:=by decide
  simp only[O3 hc,hi,kY,d,ai,aj,Int.reduceBEq,Int.reduceBNe,Int.reduceLT,Int.reduceLE,Int.reduceGT,Int.reduceGE,Int.reduceNeg]
 | some i=>
  obtain⟨a,r,rfl,rfl,ha⟩:=Fc hi
  rw[adG] at hi
  simp only[aaX,aaL] at hs
  have d:decide ((0:Int)<=((a.length:Nat):Int))=true:=decide_eq_true (by omega)
  have w:IntKind.wrap .i64 ((a.length:Int)+((1:Nat):Int))=((a.length+1:Nat):Int):=by rw[wrap_i64 (by omega) (by omega)];rfl
  have h1:nJ (.str (a++c::r)) none (some (.int .i64 (a.length:Nat)))=some (.str ((a++c::r).take a.length)):=Y1 .i64 (by simp)
  have h2:nJ (.str (a++c::r)) (some (.int .i64 (a.length+1:Nat))) none=some (.str ((a++c::r).drop (a.length+1))):=abt .i64 (by simp)
  simp only[O3 hc,hi,kY,d,h1,h2,w,aaL,acG,adG,ai,aj,Int.reduceBEq,Int.reduceBNe,Int.reduceLT,Int.reduceLE,Int.reduceGT,Int.reduceGE,Int.reduceNeg]
theorem ans {c:Nat}(hc:c<256){s:aq}(hs:s.length<=1073741824)(H:Hp):cK (.func (.func 117) [] []) [.str s,.str [c]] H=some (.tuple [.str (cut c s).1,.str (cut c s).2.1,.bool (cut c s).2.2],H):=by
 refine ais ?_
 unfold VX
 simp only[aiH hc hs,ai,aj,Int.reduceBEq,Int.reduceBNe,Int.reduceLT,Int.reduceLE,Int.reduceGT,Int.reduceGE,Int.reduceNeg]
def strs (l:List aq):List AV:=l.map .str
theorem iZ (l:List aq):(strs l).length=l.length:=by simp[strs]
theorem HW (a b:List aq):strs (a++b)=strs a++strs b:=by simp[strs]
theorem yE {l:List aq}{j:Nat}{z:aq}(h:l[j]? = some z):(strs l)[j]? = some (.str z):=by simp[strs,h]
theorem ak5 {c:Nat}(hc:c<256){A n:Nat}{el:Nat}:∀ (m:Nat) (s:aq) (dn:List aq) (H:Hp),s.length=m->m<=1073741824->n<=1073741824->dn.length+(cq c s).length=n->Cs H A (strs dn++List.replicate (n-dn.length) (AV.str [])) el 0->
  ∃ zx s' H',(∀ k:K.Fn 3,Gx JN GO cK k (.str s) (.str [c]) (.int .i64 0) (.int .i64 ((n-1:Nat):Int)) (.slice A 0 n n true 1) (.int .i64 (dn.length:Nat)) H=k (.str s') (.slice A 0 n n true 1) (.int .i64 (zx.length:Nat)) H')/\
   zx++[s']=dn++cq c s/\zx.length<n/\Cs H' A (strs zx++List.replicate (n-zx.length) (AV.str [])) el 0/\Out [A] H H':=by
 intro m
 induction m using Nat.strongRecOn with
 | _ m ih=>
 intro s dn H hm hmb zb hn hC
 have Ei:=B3 c s
 by_cases ZL:dn.length+1=n
 ·have CM:cq c s=[s]:=by
   cases hi:jx c s 0 with
   | none=>exact K2 (Mb hi)
   | some i=>
    obtain⟨a,r,rfl,rfl,ha⟩:=Fc hi
    have h1:=II (c:=c) r ha
    have h2:=B3 c r
    rw[h1,aaL] at hn
    omega
  have d:decide (((dn.length:Nat):Int)<((n-1:Nat):Int))=false:=decide_eq_false (by omega)
  refine⟨dn,s,H,fun k => ?_,by rw[CM],by omega,hC,Out.refl _ _⟩
  rw[Vm]
  simp only[KA,d,ai,aj,Int.reduceBEq,Int.reduceBNe,Int.reduceLT,Int.reduceLE,Int.reduceGT,Int.reduceGE,Int.reduceNeg]
 ·have d:decide (((dn.length:Nat):Int)<((n-1:Nat):Int))=true:=decide_eq_true (by omega)
  cases hi:jx c s 0 with
  | none=>
   have CM:=K2 (Mb hi)
   rw[CM] at hn
   simp only[aaL,acG] at hn
   omega
  | some i=>
   obtain⟨a,r,rfl,rfl,ha⟩:=Fc hi
   rw[adG] at hi
   have h1:=II (c:=c) r ha
   rw[h1,aaL] at hn
   simp only[aaX,aaL] at hm
   obtain⟨H1,w1,w2,w3,w4⟩:=fG hC (by decide) (o:=dn.length) (by rw[aaX,iZ,aeF];omega) (v := .str a) rfl
   have fh:(strs dn++List.replicate (n-dn.length) (AV.str [])).set dn.length (AV.str a)=strs (dn++[a])++List.replicate (n-(dn++[a]).length) (AV.str []):=by
    rw[aiu _ _ (by rw[iZ];omega),iZ,ahb,HW,aeR]
    congr 1
    rw[aaX,show n-dn.length=(n-(dn.length + [a].length))+1 by simp;omega,List.replicate_succ]
    rfl
   rw[fh] at w2
   obtain⟨zx,s',H',i1,i2,i3,i4,i5⟩:=ih r.length (by omega) r (dn++[a]) H1 rfl (by omega) zb (by rw[aaX];simp;omega) w2
   have d2:decide ((((a.length:Nat)):Int)<0)=false:=decide_eq_false (by omega)
   have e1:IntKind.wrap .i64 ((a.length:Int)+0)=((a.length:Nat):Int):=by rw[wrap_i64 (by omega) (by omega)];omega
   have e2:IntKind.wrap .i64 ((a.length:Int)+((1:Nat):Int))=((a.length+1:Nat):Int):=by rw[wrap_i64 (by omega) (by omega)];rfl
   have e3:IntKind.wrap .i64 ((dn.length:Int)+1)=(((dn++[a]).length:Nat):Int):=by rw[wrap_i64 (by omega) (by omega),aaX];rfl
   have q1:nJ (.str (a++c::r)) none (some (.int .i64 (a.length:Nat)))=some (.str a):=by rw[Y1 .i64 (by simp)];simp
   have q2:nJ (.str (a++c::r)) (some (.int .i64 (a.length+1:Nat))) none=some (.str r):=by rw[abt .i64 (by simp)];simp[List.drop_append]
   have q3:ia 1 (.slice A 0 n n true 1) (.int .i64 (dn.length:Nat))=some (.ptr A dn.length):=by rw[yO (by omega)];simp
   refine⟨zx,s',H',fun k => ?_,by rw[i2,h1,aeR];rfl,i3,i4,w3.trans i5⟩
   rw[Vm]
   simp only[KA,d,alC hc,hi,kY,d2,e1,q1,q3,w1,aaL,acG,e2,q2,e3,i1,ai,aj,Int.reduceBEq,Int.reduceBNe,Int.reduceLT,Int.reduceLE,Int.reduceGT,Int.reduceGE,Int.reduceNeg]
theorem Zm {H:Hp}{z:AV}{el n:Nat}(k j:IntKind)(hn:n<=1048576):xp [z] el 1 (.int k n) (.int j n) H=some (.slice H.next 0 n n true 1,al H (List.replicate n z) el 0):=by
 unfold xp
 have hr:rep n [z]=List.replicate n z:=by
  unfold rep
  induction n with
  | zero=>rfl
  | succ m ih=>rw[List.replicate_succ,List.flatten_cons,ih (by omega),List.replicate_succ];rfl
 simp only
 rw[if_pos ⟨by omega,by omega,by omega⟩,acr,hr,gk (by rw[aeF];omega)]
 rfl
theorem acB {c:Nat}(hc:c<256){s:aq}(hs:s.length<=1000000)(H:Hp) :
  ∃ x H',cK (.func (.func 116) [] []) [.str s,.str [c],.int .i64 0,.int .i64 (-1)] H=some (x,H')/\Rw H' 1 x (strs (cq c s))/\Out [] H H'/\∀ j∈ak x,H.next<=j:=by
 have hn:=B3 c s
 have hle:=Lz c s
 have e0:([c]==([]:List Nat))=false:=rfl
 have e1:IntKind.wrap .i64 ((fR c s:Int)+1)=((fR c s+1:Nat):Int):=by rw[wrap_i64 (by omega) (by omega)];rfl
 have e2:IntKind.wrap .i64 ((s.length:Int)+1)=((s.length+1:Nat):Int):=by rw[wrap_i64 (by omega) (by omega)];rfl
 have e3:(if ((s.length+1:Nat):Int)<((fR c s+1:Nat):Int) then ((s.length+1:Nat):Int) else ((fR c s+1:Nat):Int))=((fR c s+1:Nat):Int):=if_neg (by omega)
 have e4:IntKind.wrap .i64 (((fR c s+1:Nat):Int)-1)=((fR c s+1-1:Nat):Int):=by rw[wrap_i64 (by omega) (by omega)];omega
 have hm:=Zm (H:=H) (z := .str []) (el:=9) (n:=fR c s+1) .i64 .i64 (by omega)
 have hC:Cs (al H (List.replicate (fR c s+1) (AV.str [])) 9 0) H.next (strs []++List.replicate (fR c s+1-([]:List aq).length) (AV.str [])) 9 0:=bg H _ _ _
 obtain⟨dn,s',H1,i1,i2,i3,i4,i5⟩:=ak5 hc (n:=fR c s+1) s.length s [] _ rfl (by omega) (by omega) (by simp;omega) hC
 obtain⟨H2,w1,w2,w3,w4⟩:=fG i4 (by decide) (o:=dn.length) (by rw[aaX,iZ,aeF];omega) (v := .str s') rfl
 have fO:dn.length+1=fR c s+1:=by
  have:=congrArg List.length i2
  simp only[aaX,aaL,acG] at this
  omega
 have fh:(strs dn++List.replicate (fR c s+1-dn.length) (AV.str [])).set dn.length (AV.str s')=strs (cq c s):=by
  rw[aiu _ _ (by rw[iZ];omega),iZ,ahb,show fR c s+1-dn.length=1 by omega]
  have:cq c s=dn++[s']:=by rw[i2];rfl
  rw[this,HW];rfl
 rw[fh] at w2
 have e5:IntKind.wrap .i64 ((dn.length:Int)+1)=((fR c s+1:Nat):Int):=by rw[wrap_i64 (by omega) (by omega)];omega
 have q3:ia 1 (.slice H.next 0 (fR c s+1) (fR c s+1) true 1) (.int .i64 (dn.length:Nat))=some (.ptr H.next dn.length):=by rw[yO (by omega)];simp
 have GS:Rw H2 1 (.slice H.next 0 (fR c s+1) (fR c s+1) true 1) (strs (cq c s)) := .mk w2.ro (by rw[iZ,hn,afZ]) (aaC _) (by rw[oC (Nat.succ_ne_zero _)];rfl)
 obtain⟨x,x1,x2,x3⟩:=GP (n:=fR c s+1) GS (by rw[iZ,hn,afZ]) (by decide) (a:=0) (b:=fR c s+1) (lo:=none) (hi:=some (.int .i64 (fR c s+1:Nat))) (by omega) (aaC _) (Bd.no 0) (Bd.yes _ _ _)
 rw[ahi,acI,agq,afZ,ae3 (by rw[iZ];omega)] at x2
 refine⟨x,H2,afg ?_,x2,?_,fun j hj => ?_⟩
 ·unfold Nz
  have DL:=i1
  simp only[acG] at DL
  rw[show (((0:Nat):Int))=0 from rfl] at DL
  simp only[e0,ac7 hc,e1,e2,Ba,e3,hm,e4,DL,q3,w1,e5,x1,ai,aj,Int.reduceBEq,Int.reduceBNe,Int.reduceLT,Int.reduceLE,Int.reduceGT,Int.reduceGE,Int.reduceNeg]
 ·have:Out [H.next] (al H (List.replicate (fR c s+1) (AV.str [])) 9 0) H2:=i5.trans w3
  exact (aI H _ _ _).then this fun j hj=>by rw[No] at hj;exact .inr (by omega)
 ·have:=x3 j hj
  rw[mi (by rw[oC (Nat.succ_ne_zero _)];rfl)] at this
  rw[No] at this;omega
theorem N9 {c:Nat}(hc:c<256){s:aq}(hs:s.length<=1000000)(H:Hp) :
  ∃ x H',cK (.func (.func 88) [] []) [.str s,.str [c]] H=some (x,H')/\Rw H' 1 x (strs (cq c s))/\Out [] H H'/\∀ j∈ak x,H.next<=j:=by
 obtain⟨x,H',h1,h2⟩:=acB hc hs H
 refine⟨x,H',aqd ?_,h2⟩
 unfold Wk
 simp only[h1,ai,aj,Int.reduceBEq,Int.reduceBNe,Int.reduceLT,Int.reduceLE,Int.reduceGT,Int.reduceGE,Int.reduceNeg]
def ints (l:List Int):List AV:=l.map fun z => .int .i64 z
theorem lG (l:List Int):(ints l).length=l.length:=by simp[ints]
theorem akU (l:List Int):∀ v∈ints l,aY v=true:=by
 intro v hv
 obtain⟨b,_,rfl⟩:=acS.1 hv
 rfl
theorem Kh (a b:List Int):ints (a++b)=ints a++ints b:=by simp[ints]
theorem BB {l:List Int}{j:Nat}{z:Int}(h:l[j]? = some z):(ints l)[j]? = some (.int .i64 z):=by simp[ints,h]
theorem Gj (o:Option Nat):decide ((0:Int)<=kY o)=o.isSome:=by
 cases o with
 | none=>rfl
 | some i=>exact decide_eq_true (by show (0:Int)<=(i:Int);omega)
theorem gf {i n:Nat}(h:i<n)(hn:n<=16777216):IntKind.wrap .i64 ((i:Int)+1)=((i+1:Nat):Int):=by rw[wrap_i64 (by omega) (by omega)];rfl
theorem bI {i n:Nat}(h:i<n):decide (((i:Nat):Int)<((n:Nat):Int))=true:=decide_eq_true (by omega)
theorem fU {n:Nat}:decide (((n:Nat):Int)<((n:Nat):Int))=false:=decide_eq_false (by omega)
theorem drop_nil {α:Type}{l:List α}{i:Nat}(hi:i<=l.length)(h:l.drop i=[]):i=l.length:=by
 have:=congrArg List.length h
 rw[agf,acG] at this;omega
theorem Z1 {x:AV}{l:List aq}{s:aq}{H:Hp}(hx:Rw H 1 x (strs l))(hl:l.length<=16777216)(k:K.Fn 0):∀ (r:List aq) (i:Nat),i<=l.length->l.drop i=r->
  GN JN GO cK k x (.str s) (.int .i64 (l.length:Nat)) (.int .i64 (i:Nat)) H=match r.findIdx? (fun a=>s==a) with | some j=>some (.int .i64 ((i+j:Nat):Int),H) | none=>k H
 | [],i,hi,h=>by
  obtain rfl:=drop_nil hi h
  rw[UQ]
  simp only[Ng,fU,List.findIdx?_nil,ai,aj,simprocAttr]
 | a::r,i,hi,h=>by
  obtain⟨h1,h2,h3⟩:=gG h
  obtain⟨q,q1,q2⟩:=hx.lK (yE h2) .i64
  have e:=gf h1 hl
  have ih:=Z1 (s:=s) hx hl k r (i+1) h1 h3
  rw[UQ]
  simp only[Ng,bI h1,q1,q2,e,ih,QO,ahv,ai,aj,simprocAttr]
  cases hb:(s==a) with
  | true=>simp
  | false=>
   cases hf:r.findIdx? (fun a=>s==a) with
   | none=>simp
   | some j=>simp;omega
theorem Oj {x:AV}{l:List aq}{H:Hp}(hx:Rw H 1 x (strs l))(hl:l.length<=16777216)(s:aq):cK (.func (.func 104) [] []) [x,.str s] H=some (.int .i64 (kY (l.findIdx? (fun a=>s==a))),H):=by
 refine afz ?_
 unfold TD
 have h1:=hx.mQ
 rw[iZ] at h1
 have h2:=fun k=>Z1 (s:=s) hx hl k l 0 (acD _) acI
 rw[show (((0:Nat):Int))=0 from rfl] at h2
 simp only[h1,h2,ai,aj,simprocAttr]
 cases l.findIdx? (fun a=>s==a)<;>rfl
theorem XS {x:AV}{l:List aq}{H:Hp}(hx:Rw H 1 x (strs l))(hl:l.length<=16777216)(s:aq):cK (.func (.func 94) [] []) [x,.str s] H=some (.bool (l.any (fun a=>s==a)),H):=by
 refine aoV ?_
 unfold Vy
 simp only[Oj hx hl,Gj,List.findIdx?_isSome,ai,aj,simprocAttr]
theorem aax {x:AV}{l:List Int}{s:Int}{H:Hp}(hx:Rw H 1 x (ints l))(hl:l.length<=16777216)(k:K.Fn 0):∀ (r:List Int) (i:Nat),i<=l.length->l.drop i=r->
  EA JN GO cK k x (.int .i64 s) (.int .i64 (l.length:Nat)) (.int .i64 (i:Nat)) H=match r.findIdx? (fun a=>s==a) with | some j=>some (.int .i64 ((i+j:Nat):Int),H) | none=>k H
 | [],i,hi,h=>by
  obtain rfl:=drop_nil hi h
  rw[XI]
  simp only[QG,fU,List.findIdx?_nil,ai,aj,simprocAttr]
 | a::r,i,hi,h=>by
  obtain⟨h1,h2,h3⟩:=gG h
  obtain⟨q,q1,q2⟩:=hx.lK (BB h2) .i64
  have e:=gf h1 hl
  have ih:=aax (s:=s) hx hl k r (i+1) h1 h3
  rw[XI]
  simp only[QG,bI h1,q1,q2,e,ih,QO,ahv,ai,aj,simprocAttr]
  cases hb:(s==a) with
  | true=>simp
  | false=>
   cases hf:r.findIdx? (fun a=>s==a) with
   | none=>simp
   | some j=>simp;omega
theorem apC {x:AV}{l:List Int}{H:Hp}(hx:Rw H 1 x (ints l))(hl:l.length<=16777216)(s:Int):cK (.func (.func 174) [] []) [x,.int .i64 s] H=some (.int .i64 (kY (l.findIdx? (fun a=>s==a))),H):=by
 refine aeP ?_
 unfold abY
 have h1:=hx.mQ
 rw[lG] at h1
 have h2:=fun k=>aax (s:=s) hx hl k l 0 (acD _) acI
 rw[show (((0:Nat):Int))=0 from rfl] at h2
 simp only[h1,h2,ai,aj,simprocAttr]
 cases l.findIdx? (fun a=>s==a)<;>rfl
theorem apN {x:AV}{l:List Int}{H:Hp}(hx:Rw H 1 x (ints l))(hl:l.length<=16777216)(s:Int):cK (.func (.func 154) [] []) [x,.int .i64 s] H=some (.bool (l.any (fun a=>s==a)),H):=by
 refine agO ?_
 unfold YM
 simp only[apC hx hl,Gj,List.findIdx?_isSome,ai,aj,simprocAttr]
theorem Wc {x fv:AV}{l:List Int}{p:Int->Bool}{H0:Hp}(hx:Rw H0 1 x (ints l))(hl:l.length<=16777216)(hp:∀ H,Out [] H0 H->∀ a∈l,∃ H',cK fv [.int .i64 a] H=some (.bool (p a),H')/\Out [] H H'):∀ (r:List Int) (i:Nat) (H:Hp),Out [] H0 H->i<=l.length->l.drop i=r->
  ∃ H',Out [] H H'/\∀ k:K.Fn 0,GM JN GO cK k x fv (.int .i64 (l.length:Nat)) (.int .i64 (i:Nat)) H=match r.findIdx? p with | some j=>some (.int .i64 ((i+j:Nat):Int),H') | none=>k H'
 | [],i,H,ho,hi,h=>by
  obtain rfl:=drop_nil hi h
  refine⟨H,Out.refl _ _,fun k => ?_⟩
  rw[PU]
  simp only[Iu,fU,List.findIdx?_nil,ai,aj,simprocAttr]
 | a::r,i,H,ho,hi,h=>by
  obtain⟨h1,h2,h3⟩:=gG h
  obtain⟨q,q1,q2⟩:=(hx.out0 ho).lK (BB h2) .i64
  have e:=gf h1 hl
  obtain⟨H1,p1,p2⟩:=hp H ho a (aao h2)
  cases hb:p a with
  | true=>
   refine⟨H1,p2,fun k => ?_⟩
   rw[PU]
   simp only[Iu,bI h1,q1,q2,p1,hb,ahv,if_true,aej,ai,aj,simprocAttr]
  | false=>
   obtain⟨H',i1,i2⟩:=Wc hx hl hp r (i+1) H1 (ho.trans p2) h1 h3
   refine⟨H',p2.trans i1,fun k => ?_⟩
   rw[PU]
   simp only[Iu,bI h1,q1,q2,p1,hb,e,i2,ahv,ai,aj,simprocAttr]
   cases hf:r.findIdx? p with
   | none=>simp
   | some j=>simp;omega
theorem adF {x fv:AV}{l:List Int}{p:Int->Bool}{H0:Hp}(hx:Rw H0 1 x (ints l))(hl:l.length<=16777216)(hp:∀ H,Out [] H0 H->∀ a∈l,∃ H',cK fv [.int .i64 a] H=some (.bool (p a),H')/\Out [] H H') :
  ∃ H',cK (.func (.func 143) [] []) [x,fv] H0=some (.bool (l.any p),H')/\Out [] H0 H':=by
 obtain⟨H',h1,h2⟩:=Wc hx hl hp l 0 H0 (Out.refl _ _) (acD _) acI
 rw[show (((0:Nat):Int))=0 from rfl] at h2
 have hn:=hx.mQ
 rw[lG] at hn
 have:cK (.func (.func 163) [] []) [x,fv] H0=some (.int .i64 (kY (l.findIdx? p)),H'):=by
  refine aj3 ?_
  unfold Yb
  simp only[hn,h2,ai,aj,simprocAttr]
  cases l.findIdx? p<;>simp[kY]
 refine⟨H',aoC ?_,h1⟩
 unfold abj
 simp only[this,Gj,List.findIdx?_isSome,ai,aj,simprocAttr]
theorem Zu {x fv:AV}{L:List (List AV)}{p:List AV->Bool}{H0:Hp}(hx:RL H0 6 x L)(hl:L.length<=16777216)(hp:∀ H,Out [] H0 H->∀ a∈L,∃ H',cK fv [.agg a] H=some (.bool (p a),H')/\Out [] H H'):∀ (r:List (List AV)) (i:Nat) (H:Hp),Out [] H0 H->i<=L.length->L.drop i=r->
  ∃ H',Out [] H H'/\∀ k:K.Fn 0,Ij JN GO cK k x fv (.int .i64 (L.length:Nat)) (.int .i64 (i:Nat)) H=match r.findIdx? p with | some j=>some (.int .i64 ((i+j:Nat):Int),H') | none=>k H'
 | [],i,H,ho,hi,h=>by
  obtain rfl:=drop_nil hi h
  refine⟨H,Out.refl _ _,fun k => ?_⟩
  rw[M8]
  simp only[KM,fU,List.findIdx?_nil,ai,aj,simprocAttr]
 | a::r,i,H,ho,hi,h=>by
  obtain⟨h1,h2,h3⟩:=gG h
  obtain⟨b,o,q1,_,_,q2,_⟩:=(hx.out0 ho).at (by decide) h2
  have e:=gf h1 hl
  obtain⟨H1,p1,p2⟩:=hp H ho a (aao h2)
  cases hb:p a with
  | true=>
   refine⟨H1,p2,fun k => ?_⟩
   rw[M8]
   simp only[KM,bI h1,q1,Jx,q2,aee,p1,hb,ahv,if_true,aej,ai,aj,simprocAttr]
  | false=>
   obtain⟨H',i1,i2⟩:=Zu hx hl hp r (i+1) H1 (ho.trans p2) h1 h3
   refine⟨H',p2.trans i1,fun k => ?_⟩
   rw[M8]
   simp only[KM,bI h1,q1,Jx,q2,aee,p1,hb,e,i2,ahv,ai,aj,simprocAttr]
   cases hf:r.findIdx? p with
   | none=>simp
   | some j=>simp;omega
theorem aln {x fv:AV}{L:List (List AV)}{p:List AV->Bool}{H0:Hp}(hx:RL H0 6 x L)(hl:L.length<=16777216)(hp:∀ H,Out [] H0 H->∀ a∈L,∃ H',cK fv [.agg a] H=some (.bool (p a),H')/\Out [] H H') :
  ∃ H',cK (.func (.func 95) [] []) [x,fv] H0=some (.bool (L.any p),H')/\Out [] H0 H':=by
 obtain⟨H',h1,h2⟩:=Zu hx hl hp L 0 H0 (Out.refl _ _) (acD _) acI
 rw[show (((0:Nat):Int))=0 from rfl] at h2
 have hn:=hx.len (by decide)
 have:cK (.func (.func 135) [] []) [x,fv] H0=some (.int .i64 (kY (L.findIdx? p)),H'):=by
  refine agR ?_
  unfold Xc
  simp only[hn,h2,ai,aj,simprocAttr]
  cases L.findIdx? p<;>simp[kY]
 refine⟨H',aj9 ?_,h1⟩
 unfold UR
 simp only[this,Gj,List.findIdx?_isSome,ai,aj,simprocAttr]
theorem aiT {H:Hp}{x:AV}{l:List AV}(hx:Rw H 1 x l)(ho:∀ v∈l,aY v=true)(hl:l.length<=16777216) :
  ∃ y H',cK (.func (.func 137) [] []) [x] H=some (y,H')/\Ow H' 3 1 y l/\Out [] H H'/\(∀ j∈ak y,H.next<=j)/\(x = .ah->y = .ah):=by
 have hu:P.underlying 97=some (.slice 3):=Tryz.underlying97
 by_cases h0:x = .ah
 ·subst h0
  have:l=[]:=by cases hx;rfl
  subst this
  refine⟨.ah,H,Zl ?_,.nil,Out.refl _ _,fun j hj=>by simp[ak] at hj,fun _=>rfl⟩
  unfold Qo
  simp only[EU,mH,Ge hu,ai,aj,simprocAttr]
 ·obtain⟨y,H',h1,h2,h3,h4⟩:=Gt (el:=3) (fH:=3) (z:=[(.int .i64 0)]) hx ho (by decide) hl
  refine⟨y,H',Zl ?_,h2,h3,h4,fun q=>absurd q h0⟩
  have hq:∃ i o n c ex aM,x = .slice i o n c ex aM:=by
   cases hx with
   | nil=>exact absurd rfl h0
   | emp=>exact⟨_,_,_,_,_,_,rfl⟩
   | mk _ _ _ _=>exact⟨_,_,_,_,_,_,rfl⟩
  obtain⟨i,o,n,c,ex,aM,rfl⟩:=hq
  unfold Qo
  have dL:aE H [] 3 0=some (H.next,al H [] 3 0):=gk (by simp)
  simp only[FW,mH,Ig hu,sZ,dL,h1,ai,aj,simprocAttr]
theorem VJ {H:Hp}{x:AV}{l:List AV}(hx:Rw H 1 x l)(ho:∀ v∈l,aY v=true)(hl:l.length<=16777216) :
  ∃ y H',cK (.func (.func 30) [] []) [x] H=some (y,H')/\Ow H' 9 1 y l/\Out [] H H'/\(∀ j∈ak y,H.next<=j)/\(x = .ah->y = .ah):=by
 have hu:P.underlying 46=some (.slice 9):=Tryz.underlying46
 by_cases h0:x = .ah
 ·subst h0
  have:l=[]:=by cases hx;rfl
  subst this
  refine⟨.ah,H,Vj ?_,.nil,Out.refl _ _,fun j hj=>by simp[ak] at hj,fun _=>rfl⟩
  unfold N3
  simp only[EU,mH,Ge hu,ai,aj,simprocAttr]
 ·obtain⟨y,H',h1,h2,h3,h4⟩:=Gt (el:=9) (fH:=9) (z:=[(.str [])]) hx ho (by decide) hl
  refine⟨y,H',Vj ?_,h2,h3,h4,fun q=>absurd q h0⟩
  have hq:∃ i o n c ex aM,x = .slice i o n c ex aM:=by
   cases hx with
   | nil=>exact absurd rfl h0
   | emp=>exact⟨_,_,_,_,_,_,rfl⟩
   | mk _ _ _ _=>exact⟨_,_,_,_,_,_,rfl⟩
  obtain⟨i,o,n,c,ex,aM,rfl⟩:=hq
  unfold N3
  have dL:aE H [] 9 0=some (H.next,al H [] 9 0):=gk (by simp)
  simp only[FW,mH,Ig hu,sZ,dL,h1,ai,aj,simprocAttr]
theorem aje {H:Hp}{x:AV}{l:List AV}(hx:Rw H 6 x l)(ho:∀ v∈l,aY v=true)(hl:l.length<=16777216) :
  ∃ y H',cK (.func (.func 136) [] []) [x] H=some (y,H')/\Ow H' 99 6 y l/\Out [] H H'/\(∀ j∈ak y,H.next<=j)/\(x = .ah->y = .ah):=by
 have hu:P.underlying 70=some (.slice 99):=Tryz.underlying70
 by_cases h0:x = .ah
 ·subst h0
  have:l=[]:=by cases hx;rfl
  subst this
  refine⟨.ah,H,UT ?_,.nil,Out.refl _ _,fun j hj=>by simp[ak] at hj,fun _=>rfl⟩
  unfold Pp
  simp only[EU,mH,Ge hu,ai,aj,simprocAttr]
 ·obtain⟨y,H',h1,h2,h3,h4⟩:=Gt (el:=99) (fH:=99) (z:=[(.str []),.ah,(.int .i64 0),(.int .i64 0),(.int .i64 0),(.str [])]) hx ho (by decide) hl
  refine⟨y,H',UT ?_,h2,h3,h4,fun q=>absurd q h0⟩
  have hq:∃ i o n c ex aM,x = .slice i o n c ex aM:=by
   cases hx with
   | nil=>exact absurd rfl h0
   | emp=>exact⟨_,_,_,_,_,_,rfl⟩
   | mk _ _ _ _=>exact⟨_,_,_,_,_,_,rfl⟩
  obtain⟨i,o,n,c,ex,aM,rfl⟩:=hq
  unfold Pp
  have dL:aE H [] 99 0=some (H.next,al H [] 99 0):=gk (by simp)
  simp only[FW,mH,Ig hu,sZ,dL,h1,ai,aj,simprocAttr]
theorem ajc {H:Hp}{x:AV}{l:List AV}(hx:Rw H 4 x l)(ho:∀ v∈l,aY v=true)(hl:l.length<=16777216) :
  ∃ y H',cK (.func (.func 138) [] []) [x] H=some (y,H')/\Ow H' 132 4 y l/\Out [] H H'/\(∀ j∈ak y,H.next<=j)/\(x = .ah->y = .ah):=by
 have hu:P.underlying 73=some (.slice 132):=Tryz.underlying73
 by_cases h0:x = .ah
 ·subst h0
  have:l=[]:=by cases hx;rfl
  subst this
  refine⟨.ah,H,V3 ?_,.nil,Out.refl _ _,fun j hj=>by simp[ak] at hj,fun _=>rfl⟩
  unfold Mj
  simp only[EU,mH,Ge hu,ai,aj,simprocAttr]
 ·obtain⟨y,H',h1,h2,h3,h4⟩:=Gt (el:=132) (fH:=132) (z:=[(.int .i64 0),(.int .i64 0),(.int .i64 0),(.str [])]) hx ho (by decide) hl
  refine⟨y,H',V3 ?_,h2,h3,h4,fun q=>absurd q h0⟩
  have hq:∃ i o n c ex aM,x = .slice i o n c ex aM:=by
   cases hx with
   | nil=>exact absurd rfl h0
   | emp=>exact⟨_,_,_,_,_,_,rfl⟩
   | mk _ _ _ _=>exact⟨_,_,_,_,_,_,rfl⟩
  obtain⟨i,o,n,c,ex,aM,rfl⟩:=hq
  unfold Mj
  have dL:aE H [] 132 0=some (H.next,al H [] 132 0):=gk (by simp)
  simp only[FW,mH,Ig hu,sZ,dL,h1,ai,aj,simprocAttr]
open jR
structure Gl (H:Hp):Prop where
 pow:∀ i:Nat,i<20->cellAt H 0 i=some (.int .u64 ((10 ^ i:Nat):Int))
 err:Ku H
 nx:11<=H.next
theorem QC {H:Hp}{L:List (Nat × List AV)}(h:BY H L){g:Nat}{l:List AV}(hm:(g,l)∈L){k:Nat}{v:AV}(hk:l[k]? = some v):cellAt H g k=some v:=by
 obtain⟨el,h⟩:=h
 have h1:=h g l hm
 have jS:=(aah.1 hk).1
 unfold cellAt
 rw[h1]
 have hb:(Nat.ble 0 k&&Nat.blt k l.length)=true:=by
  rw[aau,aer,adE];omega
 simp only[hb,cond_true]
 rw[xB,if_pos (by omega)]
 exact hk
theorem ahS:∀ i:Fin 20,(Ls.map (AV.int .u64))[i.val]? = some (.int .u64 ((10 ^ i.val:Nat):Int)):=by
 intro i
 match i with
 | ⟨0,_⟩=>rfl
 | ⟨1,_⟩=>rfl
 | ⟨2,_⟩=>rfl
 | ⟨3,_⟩=>rfl
 | ⟨4,_⟩=>rfl
 | ⟨5,_⟩=>rfl
 | ⟨6,_⟩=>rfl
 | ⟨7,_⟩=>rfl
 | ⟨8,_⟩=>rfl
 | ⟨9,_⟩=>rfl
 | ⟨10,_⟩=>rfl
 | ⟨11,_⟩=>rfl
 | ⟨12,_⟩=>rfl
 | ⟨13,_⟩=>rfl
 | ⟨14,_⟩=>rfl
 | ⟨15,_⟩=>rfl
 | ⟨16,_⟩=>rfl
 | ⟨17,_⟩=>rfl
 | ⟨18,_⟩=>rfl
 | ⟨19,_⟩=>rfl
 | ⟨n+20,h⟩=>omega
theorem Gl.of {H:Hp}(h:BY H oW)(hn:11<=H.next):Gl H where
 pow:=fun i hi=>QC h (l:=Ls.map (AV.int .u64)) (by unfold oW;simp) (ahS ⟨i,hi⟩)
 err:=⟨⟨_,_,QC h (g:=6) (k:=0) (by unfold oW;simp;rfl) rfl⟩,⟨_,_,QC h (g:=7) (k:=0) (by unfold oW;simp;rfl) rfl⟩⟩
 nx:=hn
theorem Gl.out {H H':Hp}{S:List Nat}(h:Gl H)(k:Out S H H')(hs:∀ j∈S,11<=j):Gl H' where
 pow:=fun i hi=>by
  rw[k.cellAt (by have:=h.nx;omega) (fun q=>by have:=hs _ q;omega)]
  exact h.pow i hi
 err:=by
  have hn:=h.nx
  refine⟨?_,?_⟩
  ·obtain⟨t,p,q⟩:=h.err.W5
   exact⟨t,p,by rw[k.cellAt (by omega) (fun q=>by have:=hs _ q;omega)];exact q⟩
  ·obtain⟨t,p,q⟩:=h.err.Vt
   exact⟨t,p,by rw[k.cellAt (by omega) (fun q=>by have:=hs _ q;omega)];exact q⟩
 nx:=af2 h.nx k.1
theorem Gl.out0 {H H':Hp}(h:Gl H)(k:Out [] H H'):Gl H':=h.out k fun j hj=>by cases hj
theorem ad1 (s c:List Nat)(H:Hp)(hs:s.length<=4294967296)(hc:DS c=true)(lq:c.length<=4294967280):cK (.func (.func 91) [] []) [.str s,.str c] H=some (.str (yB s c),H):=by
 refine zq (p:=Fs) (by kernel_rfl) ?_
 have h2:F.HU (DS c) (F.HU (Nat.ble (F.BM s) 4294967296) (Nat.ble (F.BM c) 4294967280))=true:=by
  rw[F.Kp,F.Kp,F.Ik,F.Ik,hc]
  simp only[aeD,aau,aer]
  exact⟨hs,lq⟩
 show Kx H s c=_
 unfold Kx
 rw[h2]
def dec (n:Int):aq:=(Lib.itoa n).map (·.toNat)
theorem amc:∀ p:Fin 10,(([48,49,50,51,52,53,54,55,56,57,97,98,99,100,101,102,103,104,105,106,107,108,109,110,111,112,113,114,115,116,117,118,119,120,121,122]:List Nat).drop p.val).take 1=[48+p.val]:=by decide +kernel
abbrev sm:List Nat:=[48,48,48,49,48,50,48,51,48,52,48,53,48,54,48,55,48,56,48,57,49,48,49,49,49,50,49,51,49,52,49,53,49,54,49,55,49,56,49,57,50,48,50,49,50,50,50,51,50,52,50,53,50,54,50,55,50,56,50,57,51,48,51,49,51,50,51,51,51,52,51,53,51,54,51,55,51,56,51,57,52,48,52,49,52,50,52,51,52,52,52,53,52,54,52,55,52,56,52,57,53,48,53,49,53,50,53,51,53,52,53,53,53,54,53,55,53,56,53,57,54,48,54,49,54,50,54,51,54,52,54,53,54,54,54,55,54,56,54,57,55,48,55,49,55,50,55,51,55,52,55,53,55,54,55,55,55,56,55,57,56,48,56,49,56,50,56,51,56,52,56,53,56,54,56,55,56,56,56,57,57,48,57,49,57,50,57,51,57,52,57,53,57,54,57,55,57,56,57,57]
theorem amn:∀ p:Fin 100,(sm.drop (p.val*2)).take 2=[48+p.val / 10,48+p.val % 10]:=by decide +kernel
theorem Rs {n:Nat}(h:n<256):(UInt8.ofNat n).toNat=n:=by rw[UInt8.toNat_ofNat',aiY h]
theorem adJ {n:Nat}(h:n<10):dec (n:Int)=[48+n]:=by
 unfold dec Lib.itoa
 rw[if_neg (by omega),acr,Lib.decDigits_one h]
 simp only[acW,List.map_nil]
 rw[Rs (by omega)]
theorem afc {n:Nat}(h1:¬ n<10)(h2:n<100):dec (n:Int)=[48+n / 10,48+n % 10]:=by
 unfold dec Lib.itoa
 rw[if_neg (by omega),acr,Lib.decDigits_two h1 h2]
 simp only[acW,List.map_nil]
 rw[Rs (by omega),Rs (by omega)]
theorem afe {n:Nat}(h:n<100)(H:Hp):cK (.func (.func 164) [] []) [.int .i64 n] H=some (.str (dec n),H):=by
 refine agA ?_
 unfold Qs
 by_cases h1:n<10
 ·have d:decide ((n:Int)<10)=true:=decide_eq_true (by omega)
  have e:IntKind.wrap .i64 ((n:Int)+1)=((n+1:Nat):Int):=by rw[wrap_i64 (by omega) (by omega)];rfl
  have q:=SE (s:=[48,49,50,51,52,53,54,55,56,57,97,98,99,100,101,102,103,104,105,106,107,108,109,110,111,112,113,114,115,116,117,118,119,120,121,122]) (a:=n) (b:=n+1) .i64 .i64 (by omega) (by simp only[aaL,acG];omega)
  rw[aep,amc ⟨n,h1⟩] at q
  simp only[d,e,q,adJ h1,ai,aj,simprocAttr]
 ·have d:decide ((n:Int)<10)=false:=decide_eq_false (by omega)
  have e1:IntKind.wrap .i64 ((n:Int)*2)=((n*2:Nat):Int):=by rw[wrap_i64 (by omega) (by omega)];omega
  have e2:IntKind.wrap .i64 (((n*2:Nat):Int)+2)=((n*2+2:Nat):Int):=by rw[wrap_i64 (by omega) (by omega)];rfl
  have q:=SE (s:=sm) (a:=n*2) (b:=n*2+2) .i64 .i64 (by omega) (by simp only[aaL,acG];omega)
  rw[aep,amn ⟨n,h⟩] at q
  simp only[d,e1,e2,q,afc h1 h,ai,aj,simprocAttr]
theorem aoD {u:Nat}(h1:1<=u)(h2:u<18446744073709551616){H:Hp}(hg:Gl H):cK (.func (.func 165) [] []) [.int .u64 u] H=some (.int .i64 (Lib.nDigits u:Nat),H):=by
 refine adt ?_
 unfold Zp
 have hl:cK (.func (.func 182) [] []) [.int .u64 u] H=some (.int .i64 (Lib.bitLen u:Nat),H):=by
  refine zq (p:=Ea) (by kernel_rfl) ?_
  unfold Ea
  simp only
  rw[if_pos ⟨by omega,by omega⟩,acr]
 obtain⟨n1,n2⟩:=Lib.numDigits_eq u h1 h2
 have hb:Lib.bitLen u<=100:=by
  have:Lib.l10 (Lib.bitLen u)<=19:=n2
  unfold Lib.l10 at this
  omega
 have hp:cK (.func (.func 181) [] []) [.int .i64 (Lib.bitLen u:Nat)] H=some (.int .i64 (Lib.l10 (Lib.bitLen u):Nat),H):=by
  refine ak2 ?_
  unfold Wr
  have e:IntKind.wrap .i64 ((Lib.bitLen u:Int)*78913)=((Lib.bitLen u*78913:Nat):Int):=by rw[wrap_i64 (by omega) (by omega)];omega
  have e2:Al (.int .i64 ((Lib.bitLen u*78913:Nat):Int)) (.int .u64 18)=some (.int .i64 ((Lib.l10 (Lib.bitLen u):Nat):Int)):=by
   have:=afO (k := .i64) (j := .u64) (a:=Lib.bitLen u*78913) (b:=18)
   rw[show ((18:Nat):Int)=18 from rfl] at this
   rw[this]
   rfl
  simp only[e,e2,ai,aj,simprocAttr]
 generalize hq:Lib.l10 (Lib.bitLen u)=q at *
 have np:nj 20 1 (.ptr 0 0) (.int .i64 (q:Nat))=some (.ptr 0 q):=by
  unfold nj
  simp only
  rw[if_pos (by omega),acr,afZ,adG]
 have hc:=hg.pow q (by omega)
 by_cases hle:10 ^ q<=u
 ·rw[if_pos hle] at n1
  have d:decide (((10 ^ q:Nat):Int)<=(u:Int))=true:=decide_eq_true (by exact Int.ofNat_le.2 hle)
  have fT:cK (.func (.func 183) [] []) [.bool true] H=some (.int .i64 1,H):=by
   refine abx ?_
   unfold O5
   simp only[ai,aj,simprocAttr]
  have e:IntKind.wrap .i64 ((q:Int)+1)=((Lib.nDigits u:Nat):Int):=by rw[wrap_i64 (by omega) (by omega)];omega
  simp only[hl,hp,np,La,hc,Lw,d,fT,e,ai,aj,simprocAttr]
 ·rw[if_neg hle] at n1
  have d:decide (((10 ^ q:Nat):Int)<=(u:Int))=false:=decide_eq_false (by intro x;exact hle (Int.ofNat_le.1 x))
  have fT:cK (.func (.func 183) [] []) [.bool false] H=some (.int .i64 0,H):=by
   refine abx ?_
   unfold O5
   simp only[ai,aj,simprocAttr]
  have e:IntKind.wrap .i64 ((q:Int)+0)=((Lib.nDigits u:Nat):Int):=by rw[wrap_i64 (by omega) (by omega)];omega
  simp only[hl,hp,np,La,hc,Lw,d,fT,e,ai,aj,simprocAttr]
theorem afI {H:Hp}{i off n u cap:Nat}{ex:Bool}{l:List AV}{el fl:Nat}(h:Cs H i l el fl)(hf:fl<=1)(kZ:0<n)(ho:off+n<=l.length)(hn:n<=100)(hu:u<18446744073709551616)(OO:u<10 ^ n)(hb:∀ v∈l,∃ b:Nat,b<256/\v = .int .u8 b) :
  ∃ H',cK (.func (.func 166) [] []) [.slice i off n cap ex 1,.int .u64 u] H=some (.tuple [],H')/\Cs H' i (iO l off (nz u n)) el fl/\Out [i] H H':=by
 obtain⟨hi,c,hc,hg⟩:=h
 have fO:(nz u n).length=n:=by simp[nz]
 have xx:=Cs.ar ⟨hi,c,hc,hg⟩ n off ho
 refine⟨{ H with h:=H.h.bP i (.cells (c.bY off (nz u n)) 0 l.length el fl) },zq (p:=Ft) (by kernel_rfl) ?_,⟨hi,c.bY off (nz u n),?_,?_⟩,⟨aaC _,fun j hj FF => ?_⟩⟩
 ·unfold Ft
  simp only
  rw[if_pos ⟨trivial,kZ,by omega,by omega,by omega,by rw[acr];exact OO⟩,hc,acK,acr]
  unfold Q3
  simp only
  rw[if_pos ⟨by omega,ho,hf,_,xx,fun v hv=>hb v (List.mem_of_mem_drop (List.mem_of_mem_take hv))⟩]
 ·show (H.h.bP i _).get i=_
  rw[Tr.bP,Tr.fj,if_pos rfl,Gv]
 ·intro k v hk
  rw[AN _ _ _ _ (by rw[fO];exact ho)] at hk
  rw[Tr.um]
  split
  ·rename_i gN
   rw[if_pos gN] at hk
   exact hk
  ·rename_i gN
   rw[if_neg gN] at hk
   exact hg k v hk
 ·show (H.h.bP i _).get j=_
  rw[Tr.bP,Tr.fj,if_neg (by simpa using FF)]
theorem Xx (u:Nat):nz u (Lib.nDigits u)=bs ((Lib.decDigits u).map (·.toNat)):=by
 unfold nz bs
 rw[Lib.decDigits_eq,ajf,ajf]
 rfl
theorem Qa {H:Hp}{i a b:Nat}{l:List AV}{el fl:Nat}(h:Cs H i l el fl)(hl:l.length=24)(vj:a<=b)(hb:b<=24){lo:Option AV}(gX:Bd lo a 0):qQ P 238 (.ptr i 0) lo (some (.int .i64 b)) none H=some (.slice i a (b-a) (24-a) true 1):=by
 have hu:P.underlying 238=some (.array 24 5):=Tryz.underlying238
 have hs:sz P 5=some 1:=by kernel_rfl
 have hc:=h.cellAt (o:=23) (v:=l[23]'(by omega)) (aai (by omega))
 unfold qQ
 simp only[hu,hs,acC,acK,yg vj hb (aaC _) gX (Bd.yes .i64 b 24),afZ,adG]
 have h1:(decide (0<24)&&(cellAt H i (0+24-1)).isSome)=true:=by
  rw[show 0+24-1=23 by rfl,hc];rfl
 simp[hc]
theorem UX {n:Int}(h:n<0):dec n=45::(Lib.decDigits n.natAbs).map (·.toNat):=by
 unfold dec Lib.itoa
 rw[if_pos h];rfl
theorem YJ {n:Int}(h:¬ n<0):dec n=(Lib.decDigits n.toNat).map (·.toNat):=by
 unfold dec Lib.itoa
 rw[if_neg h]
theorem ah3 {u:Nat}(h:u<18446744073709551616)(h1:1<=u):Lib.nDigits u<=20:=by
 obtain⟨n1,n2⟩:=Lib.numDigits_eq u h1 h
 split at n1<;>omega
theorem Ux (u:Nat):∀ b∈(Lib.decDigits u).map (·.toNat),b<256:=by
 intro b hb
 obtain⟨c,_,rfl⟩:=acS.1 hb
 exact c.toNat_lt
abbrev z24:List AV:=[(.int .u8 0),(.int .u8 0),(.int .u8 0),(.int .u8 0),(.int .u8 0),(.int .u8 0),(.int .u8 0),(.int .u8 0),(.int .u8 0),(.int .u8 0),(.int .u8 0),(.int .u8 0),(.int .u8 0),(.int .u8 0),(.int .u8 0),(.int .u8 0),(.int .u8 0),(.int .u8 0),(.int .u8 0),(.int .u8 0),(.int .u8 0),(.int .u8 0),(.int .u8 0),(.int .u8 0)]
theorem af0 {n:Int}(h0 : -9223372036854775808<=n)(h1:n<=9223372036854775807){H:Hp}(hg:Gl H):∃ H',cK (.func (.func 146) [] []) [.int .i64 n,.int .i64 10] H=some (.str (dec n),H')/\Out [] H H':=by
 by_cases hs:0<=n/\n<100
 ·obtain⟨m,rfl⟩:∃ m:Nat,n=m:=⟨n.toNat,by omega⟩
  refine⟨H,QF ?_,Out.refl _ _⟩
  unfold E9
  have d1:decide ((0:Int)<=(m:Int))=true:=decide_eq_true (by omega)
  have d2:decide ((m:Int)<100)=true:=decide_eq_true hs.2
  simp only[d1,d2,afe (show m<100 by omega),ai,aj,simprocAttr]
 ·obtain⟨u,wh,qV,hu3⟩:∃ u:Nat,1<=u/\u<18446744073709551616/\u=n.natAbs:=⟨n.natAbs,by omega,by omega,rfl⟩
  have hd:=ah3 qV wh
  have hd0:=Lib.nDigits_pos u
  have OO:=Lib.lt_pow_nDigits u
  have ha:aE H z24 238 0=some (H.next,al H z24 238 0):=gk (by simp)
  have fu:=bg H z24 238 0
  have uP:=hg.out0 (aI H z24 238 0)
  have gO:=aoD wh qV uP
  have oK:=Qa fu rfl (a:=1) (b:=1+Lib.nDigits u) (lo:=some (.int .i64 1)) (by omega) (by omega) (Bd.yes .i64 1 0)
  rw[aep] at oK
  obtain⟨H1,f1,f2,f3⟩:=afI (cap:=24-1) (ex:=true) fu (by decide) hd0 (off:=1) (by show 1+_<=24;omega) (by omega) qV OO (by intro v hv;refine⟨0,by omega,?_⟩;simp at hv;exact hv)
  have hlen:(iO z24 1 (nz u (Lib.nDigits u))).length=24:=by rw[Gv];rfl
  have fO:(nz u (Lib.nDigits u)).length=Lib.nDigits u:=by simp[nz]
  have e1:IntKind.wrap .i64 (1+(Lib.nDigits u:Int))=((1+Lib.nDigits u:Nat):Int):=by rw[wrap_i64 (by omega) (by omega)];omega
  have mg:Out [] H H1:=(aI H z24 238 0).then f3 fun j hj=>by rw[No] at hj;exact .inr (by omega)
  have arh:(decide ((0:Int)<=n)&&decide (n<100))=false:=by
   rw[Bool.and_eq_false_iff]
   by_cases q:0<=n
   ·right;exact decide_eq_false (by omega)
   ·left;exact decide_eq_false (by omega)
  by_cases hn:n<0
  ·have d1:decide ((0:Int)<=n)=false:=decide_eq_false (by omega)
   have d2:decide (n<0)=true:=decide_eq_true hn
   have e2:fX .neg (.int .u64 (IntKind.wrap .u64 n))=some (.int .u64 (u:Nat)):=by
    show some (AV.int .u64 (IntKind.wrap .u64 (0-IntKind.wrap .u64 n)))=_
    congr 2
    simp only[IntKind.wrap,IntKind.bits,IntKind.signed]
    simp
    omega
   have aC:=fG f2 (by decide) (o:=0) (by rw[hlen];decide) (v := .int .u8 45) rfl
   obtain⟨H2,w1,w2,w3,w4⟩:=aC
   have Cv:=Qa w2 (by rw[ac4];exact hlen) (a:=0) (b:=1+Lib.nDigits u) (lo:=none) (by omega) (by omega) (Bd.no 0)
   rw[agq,agq] at Cv
   have so:(((iO z24 1 (nz u (Lib.nDigits u))).set 0 (.int .u8 45)).take (1+Lib.nDigits u))=bs (dec n):=by
    rw[UX hn,<-hu3]
    show _=AV.int .u8 (45:Nat)::bs _
    rw[<-Xx]
    apply ahF
    intro k
    rw[ag7]
    by_cases hk:k<1+Lib.nDigits u
    ·rw[if_pos hk,af6]
     by_cases sI:0=k
     ·subst sI
      rw[if_pos rfl,if_pos (by rw[hlen];decide)];rfl
     ·obtain⟨j,rfl⟩:∃ j,k=j+1:=⟨k-1,by omega⟩
      rw[if_neg sI,AN _ _ _ _ (by rw[fO];show 1+_<=24;omega),if_pos (by rw[fO];omega),Nat.add_sub_cancel,ac1]
    ·rw[if_neg hk,af1 (by rw[aaL,fO];omega)]
   have GS:Rw H2 1 (.slice H.next 0 (1+Lib.nDigits u) 24 true 1) (bs (dec n)):=by
    rw[<-so]
    exact .mk (w2.ro.take _) (by rw[aes,ac4,hlen];omega) (by omega) rfl
   have iz:=abw GS (by
    rw[UX hn]
    intro b hb
    rcases aaD.1 hb with rfl | hb
    ·omega
    ·exact Ux _ b hb)
   refine⟨H2,QF ?_,mg.then w3 fun j hj=>by rw[No] at hj;exact .inr (by omega)⟩
   unfold E9
   have hir:nj 24 1 (.ptr H.next 0) (.int .i64 0)=some (.ptr H.next 0):=by unfold nj;simp
   simp only[d1,ha,d2,e2,gO,e1,oK,f1,hir,w1,Cv,iz,ai,aj,simprocAttr]
  ·obtain⟨m,rfl⟩:∃ m:Nat,n=m:=⟨n.toNat,by omega⟩
   have hum:u=m:=by omega
   subst hum
   have d1:decide ((0:Int)<=(u:Int))=true:=decide_eq_true (by omega)
   have d1':decide ((u:Int)<100)=false:=decide_eq_false (by omega)
   have d2:decide ((u:Int)<0)=false:=decide_eq_false hn
   have e2:IntKind.wrap .u64 (u:Int)=(u:Int):=afA rfl (by show u<2 ^ 64;omega)
   have Cv:=Qa f2 hlen (a:=1) (b:=1+Lib.nDigits u) (lo:=some (.int .i64 1)) (by omega) (by omega) (Bd.yes .i64 1 0)
   rw[aep] at Cv
   have so:(((iO z24 1 (nz u (Lib.nDigits u))).drop 1).take (Lib.nDigits u))=bs (dec (u:Int)):=by
    rw[YJ hn,acr,<-Xx]
    apply ahF
    intro k
    rw[ag7]
    by_cases hk:k<Lib.nDigits u
    ·rw[if_pos hk,afL,AN _ _ _ _ (by rw[fO];show 1+_<=24;omega),if_pos (by rw[fO];omega),aep]
    ·rw[if_neg hk,af1 (by rw[fO];omega)]
   have GS:Rw H1 1 (.slice H.next 1 (Lib.nDigits u) (24-1) true 1) (bs (dec (u:Int))):=by
    rw[<-so]
    exact .mk ((f2.ro.drop 1 (by rw[hlen];decide)).take _) (by rw[aes,agf,hlen];omega) (by omega) rfl
   have iz:=abw GS (by rw[YJ hn];exact Ux _)
   refine⟨H1,QF ?_,mg⟩
   unfold E9
   simp only[d1,d1',ha,d2,e2,gO,e1,oK,f1,Cv,iz,ai,aj,simprocAttr]
theorem Eo {n:Int}(h0 : -9223372036854775808<=n)(h1:n<=9223372036854775807){H:Hp}(hg:Gl H):∃ H',cK (.func (.func 84) [] []) [.int .i64 n] H=some (.str (dec n),H')/\Out [] H H':=by
 obtain⟨H',h2,h3⟩:=af0 h0 h1 hg
 refine⟨H',alw ?_,h3⟩
 unfold Zb
 have:cK (.func (.func 111) [] []) [.int .i64 n] H=some (.str (dec n),H'):=by
  refine ah1 ?_
  unfold SY
  simp only[h2,ai,aj,simprocAttr]
 simp only[this,ai,aj,simprocAttr]
theorem ana {s:aq}(hs:s.length<=281474976710656){H:Hp}(hg:Gl H):cK (.func (.func 173) [] []) [.str s] H=some (IN s,H):=by
 refine zq (p:=GC) (by kernel_rfl) ?_
 unfold GC
 simp only
 rw[if_pos ⟨hg.err,hs⟩]
theorem ap6 (i o n c:Nat)(ex:Bool)(es:Nat):same (.slice i o n c ex es) (.slice i o n c ex es)=true:=by simp[same,oz,agQ]
theorem afm (k:IntKind)(z:Int):same (.int k z) (.int k z)=true:=by simp[same,oz]
theorem alp (i o n c:Nat)(ex:Bool)(es:Nat)(x:R):SM (.slice i o n c ex es) (.slice i o n c ex es) x=x:=lT (ap6 ..)
theorem J5 (k:IntKind)(z:Int)(x:R):SM (.int k z) (.int k z) x=x:=lT (afm ..)
structure Bu (H:Hp)(p:Nat)(sl:AV)(l:aq):Prop where
 c:Cs H p [.ptr p 0,sl] 180 0
 o:Ow H 5 1 sl (bs l)
 ne:p∉ak sl
theorem apE (x:AV)(H:Hp):cK (.func (.func 168) [] []) [x] H=some (x,H):=
 I6 (k := .same) (by kernel_rfl) Tryz.func168 rfl (by kernel_rfl) rfl
theorem aec {n:Nat}(hn:n<=1048576)(H:Hp):cK (.func (.func 169) [] []) [.int .i64 n] H=some (.slice H.next 0 n n false 1,al H (List.replicate n .cP) 5 0):=by
 refine I6 (k := .DZ 52) (by kernel_rfl) Tryz.func169 rfl (by kernel_rfl) ?_
 have hu:P.underlying 52=some (.slice 5):=Tryz.underlying52
 unfold DN
 simp only[hu]
 rw[if_pos ⟨by omega,by omega⟩,acr,gk (by rw[aeF];omega)]
 rfl
theorem ajR {H:Hp}{p:Nat}{l:List AV}{el fl:Nat}(h:Cs H p l el fl)(hl:0<l.length):jr P 178 242 (.ptr p 0) H=some (.ptr p 0,H):=by
 have h1:P.underlying 178=some (.pointer 180):=Tryz.underlying178
 have h2:P.underlying 242=some .unsafePointer:=Tryz.underlying242
 have h3:wW P 180=true:=by kernel_rfl
 have h4:=h.cellAt (aai hl)
 unfold jr
 simp only[h1,h2,h3,h4,afV,Bool.and_self,cond_true]
theorem aoK {H:Hp}{p:Nat}{a b:AV}(h:Cs H p [a,b] 180 0):jr P 242 178 (.ptr p 0) H=some (.ptr p 0,H):=by
 have h1:P.underlying 178=some (.pointer 180):=Tryz.underlying178
 have h2:P.underlying 242=some .unsafePointer:=Tryz.underlying242
 have h3:P.cellsOf 180=2:=by kernel_rfl
 have h4:=h.cellAt (o:=1) (v:=b) rfl
 obtain⟨_,c,hc,_⟩:=h
 unfold jr
 simp only[h1,h2,hc,h3,Nat.reduceSub,h4]
 rfl
theorem aiI {H:Hp}{p:Nat}(h:Cs H p [.fD,.ah] 180 0):∃ H',cK (.func (.func 147) [] []) [.ptr p 0] H=some (.tuple [],H')/\Cs H' p [.ptr p 0,.ah] 180 0/\Out [p] H H'/\H'.next=H.next:=by
 obtain⟨H',w1,w2,w3,w4⟩:=fG h (by decide) (o:=0) (by decide) (v := .ptr p 0) rfl
 refine⟨H',Zx ?_,w2,w3,w4⟩
 unfold Ni
 have h1:=h.ld (o:=0) (v := .fD) rfl
 simp only[aej,h1,ajR h (by decide),apE,aoK h,w1,ai,aj,Int.reduceBEq,Int.reduceBNe,Int.reduceLT,Int.reduceLE,Int.reduceGT,Int.reduceGE,Int.reduceNeg]
theorem ai9 (p o:Nat)(H:Hp):pe (.ptr p o) (.ptr p o) H=some true:=by
 unfold pe
 simp[agQ]
theorem acp {H:Hp}{p:Nat}{sl:AV}{l:aq}(h:Bu H p sl l):cK (.func (.func 147) [] []) [.ptr p 0] H=some (.tuple [],H):=by
 refine Zx ?_
 unfold Ni
 have h1:=h.c.ld (o:=0) (v := .ptr p 0) rfl
 simp only[aej,h1,ai9,ai,aj,Int.reduceBEq,Int.reduceBNe,Int.reduceLT,Int.reduceLE,Int.reduceGT,Int.reduceGE,Int.reduceNeg]
theorem ant {H:Hp}{n el:Nat}(hn:0<n):Ow (al H (List.replicate n .cP) el 0) el 1 (.slice H.next 0 0 n false 1) []:=by
 have fu:=bg H (List.replicate n .cP) el 0
 obtain⟨hi,c,hc,hg⟩:=fu
 refine .mk hi hc (by decide) (aaC _) (by rw[aeF];omega) (acD _) (by simp) (fun k v hk=>by simp at hk) (fun k hk => ?_) (fun v hv=>by cases hv) rfl
 rw[adG,hg k .cP (by rw[aif,if_pos (by omega)])];rfl
theorem agb {H:Hp}{p n:Nat}(kZ:0<n)(hn:n<=1000000)(h:Cs H p [.fD,.ah] 180 0):∃ sl H',cK (.func (.func 112) [] []) [.ptr p 0,.int .i64 n] H=some (.tuple [],H')/\Bu H' p sl []/\Out [p] H H'/\∀ j∈ak sl,H.next<=j:=by
 obtain⟨H1,c1,c2,c3,c4⟩:=aiI h
 have hu:P.underlying 52=some (.slice 5):=Tryz.underlying52
 have iq:∀ H:Hp,gp P .cap #[52] [.ah] H=some (.int .i64 0,H):=fun H=>by
  unfold gp
  simp only
  unfold Kq
  simp only[hu,aet,adg,acK]
  rfl
 have l1:=c2.ld (o:=1) (v := .ah) rfl
 have e1:IntKind.wrap .i64 (0+(n:Int))=(n:Int):=by rw[wrap_i64 (by omega) (by omega)];omega
 have e0:IntKind.wrap .i64 (2*0)=0:=by rw[wrap_i64 (by omega) (by omega)];omega
 have e2:IntKind.wrap .i64 (0-0)=0:=by rw[wrap_i64 (by omega) (by omega)];omega
 have hm:=aec (show n<=1048576 by omega) H1
 have Td:=aI H1 (List.replicate n .cP) 5 0
 have zP:=c2.out Td (by simp)
 have l1':=zP.ld (o:=1) (v := .ah) rfl
 have oK:qi 1 (.slice H1.next 0 n n false 1) none (some (.int .i64 0)) none=some (.slice H1.next 0 0 n false 1):=by
  unfold qi
  have:=yg (len:=n) (cap:=n) (a:=0) (b:=0) (lo:=none) (hi:=some (.int .i64 0)) (aaC _) (acD _) (aaC _) (Bd.no 0) (Bd.am7 .i64 _)
  simp only[this]
  simp
 have hcp:∀ H:Hp,BR 1 (.slice H1.next 0 0 n false 1) .ah H=some (.int .i64 0,H):=fun H=>by unfold BR;simp[Kr]
 obtain⟨H2,w1,w2,w3,w4⟩:=fG zP (by decide) (o:=1) (by simp) (v := .slice H1.next 0 0 n false 1) rfl
 have hg:cK (.func (.func 148) [] []) [.ptr p 0,.int .i64 n] H1=some (.tuple [],H2):=by
  refine apa ?_
  unfold Xn
  have ux:∀ x:R,SM .ah .ah x=x:=fun x=>lT rfl
  simp only[l1,iq,e0,e1,hm,l1',oK,ux,J5,hcp,w1,ai,aj,Int.reduceBEq,Int.reduceBNe,Int.reduceLT,Int.reduceLE,Int.reduceGT,Int.reduceGE,Int.reduceNeg]
 have aJ:p<H1.next:=by rw[c4];exact h.1
 refine⟨.slice H1.next 0 0 n false 1,H2,apJ ?_,⟨w2,(ant kZ).out w3 (fun j hj=>by
  rw[mi (by rfl),No] at hj
  rw[No];omega),by rw[mi (by rfl),No];omega⟩,(c3.trans (Td.mono (S':=[p]) (fun j hj=>by cases hj))).trans w3,fun j hj=>by rw[mi (by rfl),No] at hj;omega⟩
 unfold Wv
 have d1:decide ((n:Int)<0)=false:=decide_eq_false (by omega)
 have d2:decide ((0:Int)<(n:Int))=true:=decide_eq_true (by omega)
 simp only[c1,d1,l1,iq,e2,d2,hg,ai,aj,Int.reduceBEq,Int.reduceBNe,Int.reduceLT,Int.reduceLE,Int.reduceGT,Int.reduceGE,Int.reduceNeg]
theorem Rc {H:Hp}{p:Nat}{sl:AV}{l s:aq}(h:Bu H p sl l)(hl:l.length+s.length<=16777216):∃ tc H',cK (.func (.func 113) [] []) [.ptr p 0,.str s] H=some (.tuple [.int .i64 s.length,.nilIface],H')/\Bu H' p tc (l++s)/\Out (p::ak sl) H H'/\∀ j∈ak tc,j∈ak sl\/H.next<=j:=by
 obtain⟨tc,H1,a1,a2,a3,a4⟩:=I2 (n:=s.length) (new:=bs s) h.o (by rw[Dr,afZ]) (aib s) (by decide) (by rw[Dr,Dr];exact hl)
 have Jb:gg 5 1 [(.int .u8 0)] false sl (.str s) H=some (tc,H1):=by
  unfold gg
  have:Af 1 [(.int .u8 0)] false (.str s) H=some (s.length,bs s):=by unfold Af;simp[bs]
  rw[this];exact a1
 have y7:=h.c.out a3 h.ne
 obtain⟨H2,w1,w2,w3,w4⟩:=fG y7 (by decide) (o:=1) (by simp) (v:=tc) a2.jG
 have aO:p∉ak tc:=fun q=>(a4 p q).elim h.ne fun q=>by have:=h.c.1;omega
 refine⟨tc,H2,afQ ?_,⟨w2,by rw[ak7];exact a2.out w3 (fun j hj=>by rw[No];intro e;subst e;exact aO hj),aO⟩,?_,a4⟩
 ·unfold aaH
  have l1:=h.c.ld (o:=1) (v:=sl) rfl
  simp only[acp h,l1,Jb,w1,ai,aj,Int.reduceBEq,Int.reduceBNe,Int.reduceLT,Int.reduceLE,Int.reduceGT,Int.reduceGE,Int.reduceNeg]
 ·exact (a3.mono fun j hj => .tail _ hj).trans (w3.mono fun j hj=>by rw[No] at hj;subst hj;exact .head _)
theorem aot {H:Hp}{p:Nat}{sl:AV}{l:aq}(h:Bu H p sl l)(h0:0<l.length)(hl:l.length<16777216)(hb:∀ b∈l,b<256):∃ H',cK (.func (.func 114) [] []) [.ptr p 0] H=some (.str l,H')/\Out (ak sl) H H':=by
 have l1:=h.c.ld (o:=1) (v:=sl) rfl
 have ho:=h.o
 have aO:=h.ne
 generalize lq:bs l=cs at ho
 cases ho with
 | nil=>
  have:l=[]:=by simpa[bs] using lq
  subst this;simp at h0
 | emp=>
  have:l=[]:=by simpa[bs] using lq
  subst this;simp at h0
 | @mk i off n cap ex _ c lo hi fl iR hg hf gX jd iq hn ic hs h1 he=>
  subst lq
  rw[Dr,afZ] at hn
  have Hh:Ro H i off (bs l):=⟨iR,c,lo,hi,5,fl,hg,gX,by rw[Dr];omega,ic⟩
  have EN:=Hh.ar
  rw[Dr,hn] at EN
  rw[mi he,No] at aO
  have hx:((ar H i off n).bind uy)=some l:=by rw[EN];exact O9 l hb
  refine⟨{ H with h:=H.h.bP i (.cells c lo hi 5 2) },adW ?_,⟨aaC _,fun j hj yN => ?_⟩⟩
  ·unfold aa7
   have b1:gp P .unsafeSliceData #[52] [.slice i off n cap ex 1] H=some (.ptr i off,H):=by
    unfold gp
    have:Nat.blt 0 n=true:=by rw[adE];omega
    simp only[this,cond_true]
   have b2:gp P .unsafeString #[222,3] [.ptr i off,.int .i64 (n:Nat)] H=some (.str l,{ H with h:=H.h.bP i (.cells c lo hi 5 2) }):=by
    have hu:P.underlying 222=some (.pointer 5):=Tryz.underlying222
    have y7:P.cellsOf 5=1:=by kernel_rfl
    unfold gp
    simp only
    unfold Lr
    simp only[hu]
    rw[if_neg (by omega)]
    simp only[hg]
    rw[if_pos ⟨trivial,y7,by omega,by omega,hf⟩,acr,hx]
    rfl
   simp only[l1,b1,b2,alp,J5,ai,aj,Int.reduceBEq,Int.reduceBNe,Int.reduceLT,Int.reduceLE,Int.reduceGT,Int.reduceGE,Int.reduceNeg]
  ·rw[mi he,No] at yN
   show (Tr.bP H.h i _).get j=_
   rw[Tr.bP,Tr.fj,if_neg yN]
def pA (sep:aq):List aq->aq
 | []=>[]
 | a::l=>sep++a++pA sep l
def uA (sep:aq):List aq->aq
 | []=>[]
 | a::l=>a++pA sep l
theorem XW (c:Nat):∀ l:List aq,uA [c] l=jm c l
 | []=>rfl
 | [a]=>by simp[uA,pA,jm]
 | a::b::l=>by
  have:=XW c (b::l)
  show a++([c]++b++pA [c] l)=a++c::jm c (b::l)
  rw[<-this]
  simp[uA]
def cN (l:List aq):Nat:=(l.map List.length).sum
theorem P9 (sep:aq):∀ l,(pA sep l).length=sep.length*l.length+cN l
 | []=>by simp[pA,cN]
 | a::l=>by
  have:=P9 sep l
  simp only[pA,aaX,this,aaL,Nat.mul_add,afZ,cN,acW,aiv]
  omega
theorem Xb {x:AV}{l:List aq}{H:Hp}(hx:Rw H 1 x (strs l))(hl:l.length<=1000)(hb:∀ s∈l,s.length<=100000)(k:K.Fn 3)(y z:AV):∀ (r:List aq) (i acc:Nat),i<=l.length->l.drop i=r->acc<=1000000+i*100000->
  Gy JN GO cK k y z (.int .i64 acc) x (.int .i64 (l.length:Nat)) (.int .i64 (i:Nat)) H=k y z (.int .i64 ((acc+cN r:Nat):Int)) H
 | [],i,acc,hi,h,ha=>by
  obtain rfl:=drop_nil hi h
  rw[Zs]
  simp only[I0,fU,cN,List.map_nil,List.sum_nil,aej,ai,aj,Int.reduceBEq,Int.reduceBNe,Int.reduceLT,Int.reduceLE,Int.reduceGT,Int.reduceGE,Int.reduceNeg]
 | a::r,i,acc,hi,h,ha=>by
  obtain⟨h1,h2,h3⟩:=gG h
  obtain⟨q,q1,q2⟩:=hx.lK (yE h2) .i64
  have e:=gf h1 (by omega)
  have dm:=hb a (aao h2)
  have ac5:acc+a.length<=1000000+(i+1)*100000:=by omega
  have ih:=Xb hx hl hb k y z r (i+1) (acc+a.length) h1 h3 ac5
  have e1:IntKind.wrap .i64 (9223372036854775807-(acc:Int))=9223372036854775807-(acc:Int):=wrap_i64 (by omega) (by omega)
  have d:decide (9223372036854775807-(acc:Int)<(a.length:Int))=false:=decide_eq_false (by omega)
  have e2:IntKind.wrap .i64 ((acc:Int)+(a.length:Int))=((acc+a.length:Nat):Int):=by rw[wrap_i64 (by omega) (by omega)];rfl
  have e3:acc+cN (a::r)=acc+a.length+cN r:=by simp[cN];omega
  rw[Zs,e3]
  simp only[I0,bI h1,q1,q2,e1,d,e2,e,ih,ai,aj,Int.reduceBEq,Int.reduceBNe,Int.reduceLT,Int.reduceLE,Int.reduceGT,Int.reduceGE,Int.reduceNeg]
theorem SI {sep:aq}{x:AV}{l:List aq}{p:Nat}{H0:Hp}(hx:Rw H0 1 x (strs l))(hl:l.length<=1000):∀ (r:List aq) (i:Nat) (H:Hp) (sl:AV) (acc:aq),i<=l.length->l.drop i=r->Rw H 1 x (strs l)->Bu H p sl acc->(∀ j∈ak x,j≠p/\j∉ak sl)->acc.length+(pA sep r).length<=16777216->
  ∃ tc H',(∀ k:K.Fn 1,Fb JN GO cK k (.str sep) (.ptr p 0) x (.int .i64 (l.length:Nat)) (.int .i64 (i:Nat)) H=k (.ptr p 0) H')/\Bu H' p tc (acc++pA sep r)/\Out (p::ak sl) H H'/\∀ j∈ak tc,j∈ak sl\/H.next<=j
 | [],i,H,sl,acc,hi,h,iL,hB,hd,hlen=>by
  obtain rfl:=drop_nil hi h
  refine⟨sl,H,fun k => ?_,by simpa[pA] using hB,Out.refl _ _,fun j hj => .inl hj⟩
  rw[Yf]
  simp only[Q8,fU,ai,aj,Int.reduceBEq,Int.reduceBNe,Int.reduceLT,Int.reduceLE,Int.reduceGT,Int.reduceGE,Int.reduceNeg]
 | a::r,i,H,sl,acc,hi,h,iL,hB,hd,hlen=>by
  obtain⟨h1,h2,h3⟩:=gG h
  obtain⟨q,q1,q2⟩:=iL.lK (yE h2) .i64
  have e:=gf h1 (by omega)
  simp only[pA,aaX] at hlen
  obtain⟨sl1,H1,a1,a2,a3,a4⟩:=Rc (s:=sep) hB (by omega)
  obtain⟨DV,H2,b1,b2,b3,b4⟩:=Rc (s:=a) a2 (by rw[aaX];omega)
  have aJ:=iL.lt
  have gy:∀ j∈ak x,j≠p/\j∉ak sl1:=fun j hj=>⟨(hd j hj).1,fun q=>(a4 j q).elim (hd j hj).2 fun q=>by have:=aJ j hj;omega⟩
  have jF:=a3.nx
  have qe:∀ j∈ak x,j≠p/\j∉ak DV:=fun j hj=>⟨(hd j hj).1,fun q=>(b4 j q).elim (gy j hj).2 fun q=>by have:=aJ j hj;omega⟩
  have kH:=iL.out a3 fun j hj=>by rw[aaD,not_or];exact hd j hj
  have og:=kH.out b3 fun j hj=>by rw[aaD,not_or];exact gy j hj
  obtain⟨tc,H',i1,i2,i3,i4⟩:=SI (sep:=sep) hx hl r (i+1) H2 DV (acc++sep++a) h1 h3 og b2 qe (by simp only[aaX];omega)
  have o2:Out (p::ak sl) H H2:=a3.then b3 fun j hj=>by
   rcases aaD.1 hj with rfl | hj
   ·exact .inl (.head _)
   ·exact (a4 j hj).imp (fun q => .tail _ q) id
  have n2:∀ j∈ak DV,j∈ak sl\/H.next<=j:=fun j hj=>(b4 j hj).elim (fun q=>a4 j q) fun q => .inr (by omega)
  refine⟨tc,H',fun k => ?_,by rw[pA];simpa[aeR] using i2,o2.then i3 fun j hj => ?_,fun j hj=>(i4 j hj).elim (n2 j) fun q => .inr (by have:=o2.nx;omega)⟩
  ·rw[Yf]
   simp only[Q8,bI h1,q1,q2,a1,b1,e,i1,ai,aj,Int.reduceBEq,Int.reduceBNe,Int.reduceLT,Int.reduceLE,Int.reduceGT,Int.reduceGE,Int.reduceNeg]
  ·rcases aaD.1 hj with rfl | hj
   ·exact .inl (.head _)
   ·exact (n2 j hj).imp (fun q => .tail _ q) id
theorem agD (sep:aq)(l:List aq)(h:0<l.length):(uA sep l).length=sep.length*(l.length-1)+cN l:=by
 cases l with
 | nil=>simp at h
 | cons a l=>simp only[uA,aaX,P9,aaL,cN,acW,aiv,Nat.add_sub_cancel];omega
theorem Wf {sep:aq}(uc:sep.length=1){x:AV}{l:List aq}{H:Hp}(hx:Rw H 1 x (strs l))(hl:l.length<=200)(hb:∀ s∈l,s.length<=100000)(ru:cN l<=900000)(mq:∀ s∈sep::l,∀ b∈s,b<256) :
  ∃ H',cK (.func (.func 85) [] []) [x,.str sep] H=some (.str (uA sep l),H')/\Out [] H H':=by
 have eg:=hx.mQ
 rw[iZ] at eg
 match l,hx,hl,hb,ru,mq,eg with
 | [],hx,hl,hb,ru,mq,eg=>
  refine⟨H,PE ?_,Out.refl _ _⟩
  unfold G5
  simp only[acG,Int.natCast_zero] at eg
  simp only[eg,uA,ai,aj,Int.reduceBEq,Int.reduceBNe,Int.reduceLT,Int.reduceLE,Int.reduceGT,Int.reduceGE,Int.reduceNeg]
 | [a],hx,hl,hb,ru,mq,eg=>
  obtain⟨q,q1,q2⟩:=hx.lK (i:=0) (v := .str a) rfl .i64
  refine⟨H,PE ?_,Out.refl _ _⟩
  unfold G5
  simp only[aaL,acG,adG,Int.natCast_one] at eg
  rw[show (((0:Nat):Int))=0 from rfl] at q1
  simp only[eg,q1,q2,uA,pA,ag8,ai,aj,Int.reduceBEq,Int.reduceBNe,Int.reduceLT,Int.reduceLE,Int.reduceGT,Int.reduceGE,Int.reduceNeg]
 | a::b::l,hx,hl,hb,ru,mq,eg=>
  generalize hm:a::b::l=L at *
  have hL2:2<=L.length:=by rw[<-hm];simp
  have TT:L[0]? = some a:=by rw[<-hm];rfl
  obtain⟨q,q1,q2⟩:=hx.lK (yE TT) .i64
  rw[show (((0:Nat):Int))=0 from rfl] at q1
  have d1:(((L.length:Nat):Int)==0)=false:=beq_false_of_ne (by omega)
  have d2:(((L.length:Nat):Int)==1)=false:=beq_false_of_ne (by omega)
  have e1:IntKind.wrap .i64 (((L.length:Nat):Int)-1)=((L.length-1:Nat):Int):=by rw[wrap_i64 (by omega) (by omega)];omega
  have e2:AW (.int .i64 9223372036854775807) (.int .i64 ((L.length-1:Nat):Int))=some (.int .i64 (9223372036854775807 / ((L.length-1:Nat):Int))):=by
   rw[aoM _ _ _ (by omega),Int.tdiv_eq_ediv_of_nonneg (by omega)]
   congr 2
   rw[wrap_i64]
   ·have:0<=9223372036854775807 / ((L.length-1:Nat):Int):=Int.ediv_nonneg (by omega) (by omega)
    omega
   ·exact Int.le_trans (Int.ediv_le_self _ (by omega)) (Int.le_refl _)
  have hq:(200:Int)<=9223372036854775807 / ((L.length-1:Nat):Int):=by
   rw[Int.le_ediv_iff_mul_le (by omega)]
   omega
  have d3:decide (9223372036854775807 / ((L.length-1:Nat):Int)<=((1:Nat):Int))=false:=decide_eq_false (by omega)
  have e3:IntKind.wrap .i64 (((1:Nat):Int)*((L.length-1:Nat):Int))=((L.length-1:Nat):Int):=by rw[wrap_i64 (by omega) (by omega)];omega
  have e4:IntKind.wrap .i64 (0+((L.length-1:Nat):Int))=((L.length-1:Nat):Int):=by rw[wrap_i64 (by omega) (by omega)];omega
  have i1:=fun k=>Xb hx (by omega) hb k x (.str sep) L 0 (L.length-1) (acD _) acI (by omega)
  rw[show (((0:Nat):Int))=0 from rfl] at i1
  have hU:aE H [.fD,.ah] 180 0=some (H.next,al H [.fD,.ah] 180 0):=gk (by simp)
  have ho:=aI H [.fD,.ah] 180 0
  obtain⟨sl,H1,g1,g2,g3,g4⟩:=agb (n:=L.length-1+cN L) (by omega) (by omega) (bg H [.fD,.ah] 180 0)
  have aJ:=hx.lt
  have kH:=(hx.out0 ho).out g3 fun j hj=>by rw[No];have:=aJ j hj;omega
  obtain⟨q',Zf,q2'⟩:=kH.lK (yE TT) .i64
  rw[show (((0:Nat):Int))=0 from rfl] at Zf
  have dm:a.length<=cN L:=by rw[<-hm];simp[cN]
  obtain⟨DV,H2,b1,b2,b3,b4⟩:=Rc (s:=a) g2 (by simp;omega)
  rw[ahO] at b2
  have og:=kH.out b3 fun j hj=>by
   rw[aaD,not_or]
   exact⟨by have:=aJ j hj;omega,fun q=>by have:=g4 j q;have:=aJ j hj;rw[bK] at *;omega⟩
  have qd:=GP og (n:=L.length) (by rw[iZ,afZ]) (by decide) (a:=1) (b:=L.length) (lo:=some (.int .i64 1)) (hi:=none) (by omega) (aaC _) (Bd.yes .i64 1 0) (Bd.no _)
  obtain⟨x',x1,x2,x3⟩:=qd
  have yo:(((strs L).drop (1*1)).take ((L.length-1)*1))=strs (b::l):=by rw[<-hm,afZ,afZ];exact ae3 (by simp[strs])
  rw[yo] at x2
  have Xz:=x2.mQ
  rw[iZ] at Xz
  have fT:(b::l).length<=1000:=by rw[<-hm] at hl;simp only[aaL] at *;omega
  have jF:=g3.nx
  rw[bK] at jF
  have pV:sep.length*(b::l).length+cN (b::l)<=1000000:=by
   rw[uc,ait]
   rw[<-hm] at ru hl
   simp only[cN,acW,aiv,aaL] at *
   omega
  obtain⟨sl3,H3,c1,c2,c3,c4⟩:=SI (sep:=sep) x2 fT (b::l) 0 H2 DV a (acD _) acI x2 b2 (fun j hj=>by
   have hj:=aJ j (x3 j hj)
   exact⟨by omega,fun q=>(b4 j q).elim (fun q=>by have:=g4 j q;rw[bK] at this;omega) fun q=>by omega⟩) (by rw[P9];omega)
  have BA:a++pA sep (b::l)=uA sep L:=by rw[<-hm];rfl
  rw[BA] at c2
  have ff:=agD sep L (by omega)
  rw[uc,ait] at ff
  have adj:∀ c∈uA sep L,c<256:=by
   have key:∀ l:List aq,(∀ s∈l,∀ b∈s,b<256)->∀ c∈pA sep l,c<256:=by
    intro l
    induction l with
    | nil=>intro _ c hc;cases hc
    | cons s l ih=>
     intro h c hc
     simp only[pA,abL] at hc
     rcases hc with (hc | hc) | hc
     ·exact mq sep (.head _) c hc
     ·exact h s (.head _) c hc
     ·exact ih (fun s hs=>h s (.tail _ hs)) c hc
   intro c hc
   rw[<-BA,abL] at hc
   have o8:∀ s∈a::b::l,∀ b∈s,b<256:=fun s hs=>mq s (.tail _ (by rw[<-hm];exact hs))
   rcases hc with hc | hc
   ·exact o8 a (.head _) c hc
   ·exact key _ (fun s hs=>o8 s (.tail _ hs)) c hc
  obtain⟨H4,s1,s2⟩:=aot c2 (by omega) (by omega) adj
  have n2:=b3.nx
  have n3:=c3.nx
  have oy:∀ j∈ak DV,H.next<=j:=fun j hj=>(b4 j hj).elim (fun q=>by have:=g4 j q;rw[bK] at this;omega) fun q=>by omega
  have OQ:∀ j∈ak sl3,H.next<=j:=fun j hj=>(c4 j hj).elim (oy j) fun q=>by omega
  have o1:Out [] H H1:=ho.then g3 fun j hj=>by rw[No] at hj;exact .inr (by omega)
  have o2:Out [] H H2:=o1.then b3 fun j hj=>by
   rcases aaD.1 hj with rfl | hj
   ·exact .inr (by omega)
   ·have:=g4 j hj;rw[bK] at this;exact .inr (by omega)
  have o3:Out [] H H3:=o2.then c3 fun j hj=>by
   rcases aaD.1 hj with rfl | hj
   ·exact .inr (by omega)
   ·exact .inr (oy j hj)
  refine⟨H4,PE ?_,o3.then s2 fun j hj => .inr (OQ j hj)⟩
  unfold G5
  have e5:((L.length-1+cN L:Nat):Int)=((L.length-1+cN L:Nat):Int):=rfl
  rw[show (((0:Nat):Int))=0 from rfl] at c1
  have d4:decide ((0:Int)<((1:Nat):Int))=true:=rfl
  simp only[eg,d1,d2,uc,d4,e1,e2,d3,e3,e4,i1,hU,g1,Zf,q2',b1,x1,Xz,c1,s1,ge_iff_le,ai,aj,Int.reduceBEq,Int.reduceBNe,Int.reduceLT,Int.reduceLE,Int.reduceGT,Int.reduceGE,Int.reduceNeg]
end Go.Proofs.YtodfajmihkagnaaGreatDoor.DfK
namespace Go.Proofs.YtodfajmihkagnaaGreatDoor.nU
section
variable (sc:Nat->List Nat)
def ry (steps:Nat)(s:List Nat × List Nat)(b:Nat):List Nat × List Nat:=if s.1[b]? = some 0 then (s.1.set b steps,s.2++[b]) else s
def qj (steps:Nat)(bs:List Nat)(s:List Nat × List Nat):List Nat × List Nat:=bs.foldl (ry steps) s
def sU (steps:Nat)(l:List Nat)(s:List Nat × List Nat):List Nat × List Nat:=l.foldl (fun s a=>qj steps (sc a) s) s
def tN:Nat->List Nat->List Nat->Nat->List Nat
 | 0,_,out,_=>out
 | f+1,l,out,steps=>if l=[] then out else tN f (sU sc steps l (out,[])).2 (sU sc steps l (out,[])).1 (steps+1)
def far (N n:Nat):List Nat:=tN sc (N+1) [n] (List.replicate N 0) 1
end
def eW (l:List Nat):Nat:=l.countP (· == 0)
def V (out:List Nat)(b:Nat):Bool:=match out[b]? with | some (_+1)=>true | _=>false
theorem IM {out:List Nat}{b steps c:Nat}(h:out[b]? = some 0)(hs:0<steps):V (out.set b steps) c=(V out c||c==b):=by
 unfold V
 have hb:=(aah.1 h).1
 rw[af6]
 by_cases hc:b=c
 ·subst hc
  rw[if_pos rfl,if_pos hb]
  obtain⟨k,rfl⟩:∃ k,steps=k+1:=⟨steps-1,by omega⟩
  simp
 ·rw[if_neg hc]
  have:(c==b)=false:=by simp;exact fun q=>hc q.symm
  rw[this,Bool.or_false]
theorem afB {out:List Nat}{b steps:Nat}(h:out[b]? = some 0)(hs:0<steps):eW (out.set b steps)+1=eW out:=by
 unfold eW
 induction out generalizing b with
 | nil=>simp at h
 | cons a l ih=>
  cases b with
  | zero=>
   simp only[adg,acV] at h
   subst h
   rw[List.set_cons_zero,ajn,ajn]
   have:(steps==0)=false:=by simp;omega
   rw[this];simp
  | succ b=>
   simp only[ac1] at h
   rw[List.set_cons_succ,ajn,ajn]
   have:=ih h
   omega
structure Step (s s':List Nat × List Nat)(bs:Nat->Prop):Prop where
 len:s'.1.length=s.1.length
 zU:eW s'.1+s'.2.length=eW s.1+s.2.length
 mono:∀ c,V s.1 c=true->V s'.1 c=true
 rZ:∀ c∈s.2,c∈s'.2
 new:∀ c,V s'.1 c=true->V s.1 c=true\/(bs c/\c∈s'.2)
 FG:∀ c∈s'.2,c∈s.2\/(bs c/\V s'.1 c=true)
 all:∀ c,bs c->c<s.1.length->V s'.1 c=true
theorem Step.refl (s:List Nat × List Nat):Step s s (fun _=>False):=⟨rfl,rfl,fun _ h=>h,fun _ h=>h,fun _ h => .inl h,fun _ h => .inl h,fun _ h=>h.elim⟩
theorem Step.trans {s s' s'':List Nat × List Nat}{p q:Nat->Prop}(h:Step s s' p)(k:Step s' s'' q):Step s s'' (fun c=>p c\/q c) where
 len:=k.len.trans h.len
 zU:=k.zU.trans h.zU
 mono:=fun c hc=>k.mono c (h.mono c hc)
 rZ:=fun c hc=>k.rZ c (h.rZ c hc)
 new:=fun c hc=>(k.new c hc).elim (fun a=>(h.new c a).imp id fun b=>⟨.inl b.1,k.rZ c b.2⟩) (fun a => .inr ⟨.inr a.1,a.2⟩)
 FG:=fun c hc=>(k.FG c hc).elim (fun a=>(h.FG c a).imp id fun b=>⟨.inl b.1,k.mono c b.2⟩) (fun a => .inr ⟨.inr a.1,a.2⟩)
 all:=fun c hc hl=>hc.elim (fun a=>k.mono c (h.all c a hl)) (fun a=>k.all c a (by rw[h.len];exact hl))
theorem Step.congr {s s':List Nat × List Nat}{p q:Nat->Prop}(h:Step s s' p)(Bz:∀ c,p c↔q c):Step s s' q:=
 ⟨h.len,h.zU,h.mono,h.rZ,fun c hc=>(h.new c hc).imp id fun b=>⟨(Bz c).1 b.1,b.2⟩,fun c hc=>(h.FG c hc).imp id fun b=>⟨(Bz c).1 b.1,b.2⟩,fun c hc hl=>h.all c ((Bz c).2 hc) hl⟩
theorem am6 {out:List Nat}{b:Nat}(hb:b<out.length)(h:out[b]? ≠ some 0):V out b=true:=by
 unfold V
 rw[aai hb] at h ⊢
 cases hx:out[b] with
 | zero=>rw[hx] at h;exact absurd rfl h
 | succ k=>rfl
theorem afs {steps:Nat}(hs:0<steps)(s:List Nat × List Nat)(b:Nat):Step s (ry steps s b) (fun c=>c=b):=by
 unfold ry
 split
 ·rename_i h
  have hz:=afB h hs
  refine⟨ac4,by simp;omega,fun c hc => ?_,fun c hc=>abG _ hc,fun c hc => ?_,fun c hc => ?_,fun c hc hl => ?_⟩
  ·rw[IM h hs,hc];rfl
  ·rw[IM h hs,agK] at hc
   refine hc.imp id fun q => ?_
   have q:c=b:=by simpa using q
   exact⟨q,by subst q;simp⟩
  ·rcases abL.1 hc with hc | hc
   ·exact .inl hc
   ·rw[No] at hc
    subst hc
    exact .inr ⟨rfl,by rw[IM h hs];simp⟩
  ·subst hc;rw[IM h hs];simp
 ·rename_i h
  exact⟨rfl,rfl,fun _ h=>h,fun _ h=>h,fun _ h => .inl h,fun _ h => .inl h,fun c hc hl=>by subst hc;exact am6 hl h⟩
theorem PG {steps:Nat}(hs:0<steps):∀ (bs:List Nat) (s:List Nat × List Nat),Step s (qj steps bs s) (fun c=>c∈bs)
 | [],s=>(Step.refl s).congr fun c=>by simp
 | b::bs,s=>((afs hs s b).trans (PG hs bs _)).congr fun c=>by simp
theorem Il {sc:Nat->List Nat}{steps:Nat}(hs:0<steps):∀ (l:List Nat) (s:List Nat × List Nat),Step s (sU sc steps l s) (fun c=>∃ a∈l,c∈sc a)
 | [],s=>(Step.refl s).congr fun c=>by simp
 | a::l,s=>((PG hs (sc a) s).trans (Il hs l _)).congr fun c=>by simp
theorem abS {sc:Nat->List Nat}{N n:Nat}(hN:∀ a,∀ b∈sc a,b<N){C:Nat->Prop}(HJ:∀ b∈sc n,C b)(hC:∀ a,C a->∀ b∈sc a,C b) :
  ∀ (f:Nat) (l out:List Nat) (steps:Nat),0<steps->out.length=N->(l=[]\/eW out<f)->(∀ a,(a=n\/V out a=true)->a∈l\/∀ b∈sc a,V out b=true)->
   (∀ a∈l,a=n\/C a)->(∀ a,V out a=true->C a)->
   (tN sc f l out steps).length=N/\(∀ a,(a=n\/V (tN sc f l out steps) a=true)->∀ b∈sc a,V (tN sc f l out steps) b=true)/\∀ a,V (tN sc f l out steps) a=true->C a
 | 0,l,out,steps,hs,hl,hz,h1,h2,h3=>by
  have:l=[]:=hz.resolve_right (by omega)
  subst this
  exact⟨hl,fun a ha=>(h1 a ha).resolve_left (by simp),h3⟩
 | f+1,l,out,steps,hs,hl,hz,h1,h2,h3=>by
  unfold tN
  split
  ·rename_i h
   subst h
   exact⟨hl,fun a ha=>(h1 a ha).resolve_left (by simp),h3⟩
  ·rename_i aO
   have hz:=hz.resolve_left aO
   have S:=Il (sc:=sc) hs l (out,[])
   refine abS hN HJ hC f _ _ (steps+1) (by omega) (S.len.trans hl) ?_ ?_ ?_ ?_
   ·have:=S.zU
    simp only[acG,aej] at this
    cases hx:(sU sc steps l (out,[])).2 with
    | nil=>exact .inl rfl
    | cons x y=>rw[hx] at this;simp only[aaL] at this;exact .inr (by omega)
   ·intro a ha
    have key:(a=n\/V out a=true)->a∈(sU sc steps l (out,[])).2\/∀ b∈sc a,V (sU sc steps l (out,[])).1 b=true:=by
     intro ha
     refine .inr fun b hb => ?_
     rcases h1 a ha with q | q
     ·exact S.all b ⟨a,q,hb⟩ (by rw[hl];exact hN a b hb)
     ·exact S.mono b (q b hb)
    rcases ha with ha | ha
    ·exact key (.inl ha)
    ·rcases S.new a ha with q | q
     ·exact key (.inr q)
     ·exact .inl q.2
   ·intro a ha
    rcases S.FG a ha with q | ⟨⟨x,hx,Hz⟩,_⟩
    ·cases q
    ·refine .inr ?_
     rcases h2 x hx with rfl | q
     ·exact HJ a Hz
     ·exact hC x q a Hz
   ·intro a ha
    rcases S.new a ha with q | ⟨⟨x,hx,Hz⟩,_⟩
    ·exact h3 a q
    ·rcases h2 x hx with rfl | q
     ·exact HJ a Hz
     ·exact hC x q a Hz
theorem Uv (N b:Nat):V (List.replicate N 0) b=false:=by
 unfold V
 rw[aif]
 split
 ·rename_i h
  split at h<;>cases h
 ·rfl
theorem U0 (N:Nat):eW (List.replicate N 0)=N:=by unfold eW;rw[List.countP_replicate];simp
theorem aoA {sc:Nat->List Nat}{N n:Nat}(hN:∀ a,∀ b∈sc a,b<N){C:Nat->Prop}(HJ:∀ b∈sc n,C b)(hC:∀ a,C a->∀ b∈sc a,C b) :
  (far sc N n).length=N/\(∀ a,(a=n\/V (far sc N n) a=true)->∀ b∈sc a,V (far sc N n) b=true)/\∀ a,V (far sc N n) a=true->C a:=
 abS hN HJ hC _ _ _ _ (by decide) (by simp) (.inr (by rw[U0];omega)) (fun a ha=>by
  rcases ha with rfl | ha
  ·exact .inl (.head _)
  ·rw[Uv] at ha;cases ha) (fun a ha=>by rw[No] at ha;exact .inl ha) (fun a ha=>by rw[Uv] at ha;cases ha)
end Go.Proofs.YtodfajmihkagnaaGreatDoor.nU
namespace Go.Proofs.YtodfajmihkagnaaGreatDoor.DfK
open Go Am Am.K kb mc jR
theorem agB (N n:Int)(e:AV)(he:aY e=true)(H:Hp):cK (.func (.func 175) [] []) [.agg [.int .i64 N,e],.int .i64 n] H=some (.bool (decide (0<=n)&&decide (n<N)),al H [.int .i64 N,e] 201 0):=by
 refine aeA ?_
 unfold Z2
 by_cases h1:0<=n
 ·simp(disch:=first|exact zqq|fail)only[h1,aeD,av,au,Nat.reduceAdd,ai,aj,Int.reduceBEq,Int.reduceBNe,Int.reduceLT,Int.reduceLE,Int.reduceGT,Int.reduceGE,Int.reduceNeg]
 ·simp(disch:=first|exact zqq|fail)only[h1,aeL,av,au,Nat.reduceAdd,ai,aj,Int.reduceBEq,Int.reduceBNe,Int.reduceLT,Int.reduceLE,Int.reduceGT,Int.reduceGE,Int.reduceNeg]
theorem pP (n a b:Int)(H:Hp):cK (.func (.func 119) [] []) [.int .i64 n,.int .i64 a,.int .i64 b] H=some (.bool (decide (a<=n)&&decide (n<=b)),H):=by
 refine anO ?_
 unfold XG
 by_cases h1:a<=n
 ·simp(disch:=first|exact zqq|fail)only[h1,aeD,av,au,Nat.reduceAdd,ai,aj,Int.reduceBEq,Int.reduceBNe,Int.reduceLT,Int.reduceLE,Int.reduceGT,Int.reduceGE,Int.reduceNeg]
 ·simp(disch:=first|exact zqq|fail)only[h1,aeL,av,au,Nat.reduceAdd,ai,aj,Int.reduceBEq,Int.reduceBNe,Int.reduceLT,Int.reduceLE,Int.reduceGT,Int.reduceGE,Int.reduceNeg]
abbrev Ed:=Nat × Nat
def bR (e:Ed):List AV:=[.int .i64 e.1,.int .i64 e.2]
def jy (E:List Ed):List (List AV):=E.map bR
theorem JA (E:List Ed):(jy E).length=E.length:=by simp[jy]
theorem Oc {E:List Ed}{i:Nat}{e:Ed}(h:E[i]? = some e):(jy E)[i]? = some (bR e):=by simp[jy,h]
theorem XR (a b c d:Int)(n:Nat)(H:Hp):dH P (n+2) 231 (.agg [.int .i64 a,.int .i64 b]) (.agg [.int .i64 c,.int .i64 d]) H=some (a==c&&b==d):=by
 have hu:P.underlying 231=some (.array 2 3):=Tryz.underlying231
 have hi:P.underlying 3=some (.int .i64):=Tryz.underlying3
 have hs:sz P 3=some 1:=by kernel_rfl
 have ha:va P 3=some false:=by kernel_rfl
 have h1:∀ x y:Int,dH P (n+1) 3 (.int .i64 x) (.int .i64 y) H=some (x==y):=by
  intro x y;unfold dH;simp only[hi,if_true]
 rw[dH.eq_def]
 simp only[hu,hs]
 show sH _ [0,1]=_
 simp only[sH,mr,ha,acC,acK,ahi,ait,adg,ac1,h1]
 cases hac:(a==c)<;>cases LN:(b==d)<;>simp[h1,hac,LN]
def u7 (E:List (Ed × Nat)):List ME:=E.map fun x=>⟨.agg (bR x.1),.bool true,x.2⟩
theorem Q4 {H:Hp}{e:Ed}:∀ (E:List (Ed × Nat)) (i:Nat),(∀ x∈E,x.1≠e)->mn P H 231 (.agg (bR e)) (u7 E) i=some none
 | [],i,_=>rfl
 | x::E,i,h=>by
  have h1:=XR e.1 e.2 x.1.1 x.1.2 18 H
  have h2:(((e.1:Nat):Int)==((x.1.1:Nat):Int)&&((e.2:Nat):Int)==((x.1.2:Nat):Int))=false:=by
   rw[<-agk,aau,beq_iff_eq,beq_iff_eq]
   intro q
   exact h x (.head _) (Prod.ext (by have:=q.1;omega) (by have:=q.2;omega))
  rw[h2] at h1
  show mn P H _ (.agg (bR e)) (⟨.agg (bR x.1),.bool true,x.2⟩::u7 E) i=_
  unfold mn
  have Ji:dH P 20 231 (.agg (bR e)) (.agg (bR x.1)) H=some false:=h1
  rw[Ji]
  exact Q4 E (i+1) fun y hy=>h y (.tail _ hy)
theorem Yw (e:Ed):nw P 20 231 (.agg (bR e))=true:=by kernel_rfl
theorem lkE {H:Hp}{m c:Nat}{E:List (Ed × Nat)}{e:Ed}(hm:Mp H m (u7 E) c)(h:∀ x∈E,x.1≠e):qo P 248 (.map m) (.agg (bR e)) false H=some (.bool false):=by
 have hu:P.underlying 248=some (.map 231 4):=Tryz.underlying248
 have hz:((P.info? 4).bind (·.zero)).bind ja=some (.bool false):=by kernel_rfl
 unfold qo
 simp only[hu,Yw,cond_true,EZ hm,Q4 E 0 h,hz,aee,cond_false]
theorem upE {H:Hp}{m c:Nat}{E:List (Ed × Nat)}{e:Ed}(hm:Mp H m (u7 E) c)(h:∀ x∈E,x.1≠e):∃ H',nF P 248 (.map m) (.agg (bR e)) (.bool true) H=some H'/\Mp H' m (u7 (E++[(e,c)])) (c+1)/\Out [m] H H'/\H'.next=H.next:=by
 have hu:P.underlying 248=some (.map 231 4):=Tryz.underlying248
 have he:u7 (E++[(e,c)])=u7 E++[⟨.agg (bR e),.bool true,c⟩]:=by simp[u7]
 rw[he]
 refine⟨_,?_,(hm.set _ _).1,(hm.set _ _).2,rfl⟩
 unfold nF
 simp only[hu,Yw,cond_true,hm.2,Q4 E 0 h]
structure oY (N:Nat)(E:List Ed):Prop where
 n:N<=16
 lt:∀ e∈E,e.1<N/\e.2<N/\e.1≠e.2
 nd:E.Nodup
 len:E.length<=300
theorem V9 {N:Nat}{E:List Ed}{x:AV}{g m:Nat}{H0:Hp}(hE:oY N E)(hx:RL H0 2 x (jy E))(hg:Cs H0 g [.int .i64 N,x] 201 0)(Lv:g≠m)(Vv:∀ j∈ak x,j≠m)(k:K.Fn 0):∀ (r:List Ed) (i:Nat) (H:Hp) (M:List (Ed × Nat)) (c:Nat),i<=E.length->E.drop i=r->Out [m] H0 H->Mp H m (u7 M) c->M.map (·.1)=E.take i->
  ∃ H',Fk JN GO cK k (.ptr g 0) (.map m) x (.int .i64 (E.length:Nat)) (.int .i64 (i:Nat)) H=k H'/\Out [m] H H'
 | [],i,H,M,c,hi,h,ho,hm,hM=>by
  obtain rfl:=drop_nil hi h
  refine⟨H,?_,Out.refl _ _⟩
  rw[UG]
  simp only[IL,fU,ai,aj,Int.reduceBEq,Int.reduceBNe,Int.reduceLT,Int.reduceLE,Int.reduceGT,Int.reduceGE,Int.reduceNeg]
 | e::r,i,H,M,c,hi,h,ho,hm,hM=>by
  obtain⟨h1,h2,h3⟩:=gG h
  obtain⟨l1,l2,l3⟩:=hE.lt e (aao h2)
  obtain⟨b,o,q1,q2,q3,q4,_⟩:=(hx.out ho fun j hj=>by rw[No];exact Vv j hj).at (by decide) (Oc h2)
  have W7:=hg.out ho (by rw[No];exact Lv)
  have xc:=W7.1
  have xA:=hm.1
  have ju:=W7.ar 2 0 (by simp)
  have es:=gf h1 (by have:=hE.len;omega)
  have d1:decide ((0:Int)<=((e.1:Nat):Int))=true:=decide_eq_true (by omega)
  have d2:decide (((e.1:Nat):Int)<(N:Int))=true:=decide_eq_true (by omega)
  have d3:decide ((0:Int)<=((e.2:Nat):Int))=true:=decide_eq_true (by omega)
  have d4:decide (((e.2:Nat):Int)<(N:Int))=true:=decide_eq_true (by omega)
  have d5:(((e.1:Nat):Int)==((e.2:Nat):Int))=false:=beq_false_of_ne (by omega)
  have aO:∀ y∈M,y.1≠e:=by
   intro y hy heq
   have h4:y.1∈E.take i:=by rw[<-hM];exact List.mem_map_of_mem hy
   have gO:=hE.nd
   rw[<-ahH i E,h,aeY] at gO
   exact gO.2.2 _ h4 e (.head _) heq
  have kH:=hx.one
  have XD:Mp (al (al (al H (bR e) 231 0) [.int .i64 N,x] 201 0) [.int .i64 N,x] 201 0) m (u7 M) c:=((hm.out (aI H _ _ _) (by simp)).out (aI _ _ _ _) (by simp)).out (aI _ _ _ _) (by simp)
  obtain⟨H1,u1,u2,u3,u4⟩:=upE XD aO
  have arf:(al (al (al H (bR e) 231 0) [.int .i64 N,x] 201 0) [.int .i64 N,x] 201 0).next=H.next+3:=rfl
  have o1:Out [m] H H1:=((((aI H (bR e) 231 0).al [.int .i64 N,x] 201 0).al [.int .i64 N,x] 201 0).mono (S':=[m]) (fun j hj=>by cases hj)).trans u3
  obtain⟨H',i1,i2⟩:=V9 hE hx hg Lv Vv k r (i+1) H1 (M++[(e,c)]) (c+1) h1 h3 (ho.trans o1) u2 (by rw[adI,hM,agZ,h2];rfl)
  refine⟨H',?_,o1.trans i2⟩
  have lk:=lkE XD aO
  have y9:ar H b o 2=some (bR e):=q4
  have q5:ar H g 0 2=some [.int .i64 N,x]:=ju
  have e0:(bR e)[0]? = some (.int .i64 e.1):=rfl
  have e1:(bR e)[1]? = some (.int .i64 e.2):=rfl
  have e2:(bR e).take 2=bR e:=rfl
  have B8:(bR e).length=2:=rfl
  have jY:(bR e).all aY=true:=rfl
  have vH:st 2 (.ptr H.next 0) (.agg (bR e)) (al H [.int .i64 0,.int .i64 0] 231 0)=some (al H (bR e) 231 0):=iI rfl rfl rfl (by decide) rfl
  rw[UG]
  simp(disch:=first|exact zqq|fail)only[IL,bI h1,q1,y9,q5,vH,e0,e1,e2,B8,agB _ _ _ kH,d1,d2,d3,d4,d5,lk,u1,es,i1,Bool.and_self,av,au,Nat.reduceAdd,ai,aj,Int.reduceBEq,Int.reduceBNe,Int.reduceLT,Int.reduceLE,Int.reduceGT,Int.reduceGE,Int.reduceNeg]
abbrev gv (N:Nat)(x:AV):AV := .agg [.int .i64 N,x]
theorem UY {N:Nat}{E:List Ed}{x:AV}{H:Hp}(hE:oY N E)(hx:RL H 2 x (jy E)):∃ H',cK (.func (.func 155) [] []) [gv N x] H=some (.bool true,H')/\Out [] H H':=by
 have kH:=hx.one
 have hN:=hE.n
 have mg:=aI H [.int .i64 N,x] 201 0
 obtain⟨H2,m1,m2,m3,m4⟩:=IG (al H [.int .i64 N,x] 201 0)
 have nE:Out [] H H2:=mg.trans m3
 rw[bK] at m1 m2
 have aJ:=hx.1.lt
 obtain⟨H',i1,i2⟩:=V9 (g:=H.next) (m:=H.next+1) hE (hx.out0 nE) ((bg H [.int .i64 N,x] 201 0).out m3 (by simp)) (by omega) (fun j hj=>by have:=aJ j hj;omega) (fun h=>some (.bool true,h)) E 0 H2 [] 0 (acD _) acI (Out.refl _ _) m2 rfl
 refine⟨H',ae7 ?_,nE.then i2 fun j hj=>by rw[No] at hj;exact .inr (by omega)⟩
 have hl:=(hx.out0 nE).len (by decide)
 rw[JA] at hl
 have d1:decide ((N:Int)<0)=false:=decide_eq_false (by omega)
 have d2:decide ((16:Int)<(N:Int))=false:=decide_eq_false (by omega)
 rw[show (((0:Nat):Int))=0 from rfl] at i1
 have xS:cellAt H2 H.next 1=some x:=by
  rw[m3.cellAt (by rw[bK];omega) (by simp)]
  exact (bg H [.int .i64 N,x] 201 0).cellAt rfl
 unfold Sc
 simp(disch:=first|exact zqq|fail)only[d1,d2,m1,hl,i1,xS,av,au,Nat.reduceAdd,ai,aj,Int.reduceBEq,Int.reduceBNe,Int.reduceLT,Int.reduceLE,Int.reduceGT,Int.reduceGE,Int.reduceNeg]
def uH (E:List Ed)(n:Nat)(UW:Bool):List Nat:=E.filterMap fun e=>if (bif UW then e.2 else e.1)=n then some (bif UW then e.1 else e.2) else none
def cZ (l:List Nat):List Int:=l.map fun (n:Nat)=>(n:Int)
theorem wk (l:List Nat):(cZ l).length=l.length:=by simp[cZ]
theorem LQ (a b:List Nat):cZ (a++b)=cZ a++cZ b:=by simp[cZ]
theorem aa1 (E:List Ed)(n:Nat)(b:Bool):(uH E n b).length<=E.length:=List.length_filterMap_le _ _
theorem Pq {N:Nat}{E:List Ed}{x:AV}{H0:Hp}(b1:Bool){n:Nat}(hE:E.length<=300)(hx:RL H0 2 x (jy E)):∀ (r:List Ed) (i:Nat) (H:Hp) (y:AV) (acc:List Nat) (S:List Nat),i<=E.length->E.drop i=r->Out S H0 H->(∀ j∈S,H0.next<=j)->Ow H 3 1 y (ints (cZ acc))->(∀ j∈ak y,H0.next<=j)->acc.length<=i->
  ∃ y' H',(∀ k:K.Fn 1,GK JN GO cK k (.int .i64 n) (.int .i64 (bif b1 then 1 else 0)) y x (.int .i64 (E.length:Nat)) (.int .i64 (i:Nat)) H=k y' H')/\Ow H' 3 1 y' (ints (cZ (acc++uH r n b1)))/\Out (ak y) H H'/\∀ j∈ak y',j∈ak y\/H.next<=j
 | [],i,H,y,acc,S,hi,h,ho,hS,hy,Gf,ha=>by
  obtain rfl:=drop_nil hi h
  refine⟨y,H,fun k => ?_,by simpa[uH] using hy,Out.refl _ _,fun j hj => .inl hj⟩
  rw[RU]
  simp only[Dg,fU,ai,aj,Int.reduceBEq,Int.reduceBNe,Int.reduceLT,Int.reduceLE,Int.reduceGT,Int.reduceGE,Int.reduceNeg]
 | e::r,i,H,y,acc,S,hi,h,ho,hS,hy,Gf,ha=>by
  obtain⟨h1,h2,h3⟩:=gG h
  have eg:=hx.1.lt
  obtain⟨b,o,q1,q2,q3,q4,_⟩:=(hx.out ho fun j hj=>fun q=>by have:=hS j q;have:=eg j hj;omega).at (by decide) (Oc h2)
  have es:=gf h1 (by omega)
  have y9:ar H b o 2=some (bR e):=q4
  have e0:(bR e)[0]? = some (.int .i64 e.1):=rfl
  have e1:(bR e)[1]? = some (.int .i64 e.2):=rfl
  have B8:(bR e).length=2:=rfl
  have vH:st 2 (.ptr H.next 0) (.agg (bR e)) (al H [.int .i64 0,.int .i64 0] 231 0)=some (al H (bR e) 231 0):=iI rfl rfl rfl (by decide) rfl
  have mg:=aI H (bR e) 231 0
  have w0:IntKind.wrap .i64 (1-0)=1:=rfl
  have w1:IntKind.wrap .i64 (1-1)=0:=rfl
  by_cases hq:(bif b1 then e.2 else e.1)=n
  ·have hb:uH (e::r) n b1=(bif b1 then e.1 else e.2)::uH r n b1:=by simp[uH,hq]
   obtain⟨y1,H1,p1,p2,p3,p4,p5⟩:=uE (fH:=3) (z:=[(.int .i64 0)]) (vs:=[.int .i64 ((bif b1 then e.1 else e.2:Nat):Int)]) (hy.out mg (by simp)) rfl rfl (by decide) (by rw[lG,wk];simp;omega)
   have pX:ints (cZ acc)++[.int .i64 ((bif b1 then e.1 else e.2:Nat):Int)]=ints (cZ (acc++[bif b1 then e.1 else e.2])):=by rw[LQ,Kh];rfl
   rw[pX] at p2
   have o1:Out (ak y) H H1:=(mg.mono (S':=ak y) fun j hj=>by cases hj).trans p3
   have jF:=o1.nx
   have kZ:=ho.nx
   obtain⟨y',H',i1,i2,i3,i4⟩:=Pq (N:=N) b1 (n:=n) hE hx r (i+1) H1 y1 (acc++[bif b1 then e.1 else e.2]) (S++ak y) h1 h3 ((ho.mono (S':=S++ak y) fun j hj=>abG _ hj).trans (o1.mono fun j hj=>abr _ hj)) (fun j hj=>(abL.1 hj).elim (hS j) (Gf j)) p2 (fun j hj=>(p4 j hj).elim (Gf j) fun q=>by rw[bK] at q;omega) (by simp;omega)
   refine⟨y',H',fun k => ?_,by rw[hb];simpa[aeR] using i2,o1.then i3 fun j hj=>(p4 j hj).imp id fun q=>by rw[bK] at q;omega,fun j hj=>(i4 j hj).elim (fun q=>(p4 j q).imp id fun q=>by rw[bK] at q;omega) fun q => .inr (by omega)⟩
   have iQ:=p1 (H.next+1) rfl
   rw[RU]
   cases b1 with
   | true=>
    simp only[cond_true] at hq iQ i1
    subst hq
    simp(disch:=first|exact zqq|fail)only[cond_true,Dg,bI h1,q1,y9,vH,e0,e1,B8,w1,iQ,es,i1,av,au,Nat.reduceAdd,ai,aj,Int.reduceBEq,Int.reduceBNe,Int.reduceLT,Int.reduceLE,Int.reduceGT,Int.reduceGE,Int.reduceNeg]
   | false=>
    simp only[cond_false] at hq iQ i1
    subst hq
    simp(disch:=first|exact zqq|fail)only[cond_false,Dg,bI h1,q1,y9,vH,e0,e1,B8,w0,iQ,es,i1,av,au,Nat.reduceAdd,ai,aj,Int.reduceBEq,Int.reduceBNe,Int.reduceLT,Int.reduceLE,Int.reduceGT,Int.reduceGE,Int.reduceNeg]
  ·have hb:uH (e::r) n b1=uH r n b1:=by simp[uH,hq]
   obtain⟨y',H',i1,i2,i3,i4⟩:=Pq (N:=N) b1 (n:=n) hE hx r (i+1) (al H (bR e) 231 0) y acc S h1 h3 (ho.al _ _ _) hS (hy.out mg (by simp)) Gf (by omega)
   refine⟨y',H',fun k => ?_,by rw[hb];exact i2,(mg.mono (S':=ak y) fun j hj=>by cases hj).trans i3,fun j hj=>(i4 j hj).imp id fun q=>by rw[bK] at q;omega⟩
   rw[RU]
   cases b1 with
   | true=>
    simp only[cond_true] at hq i1
    have aO:(((e.2:Nat):Int)==(n:Int))=false:=beq_false_of_ne (by omega)
    simp(disch:=first|exact zqq|fail)only[cond_true,Dg,bI h1,q1,y9,vH,e0,e1,B8,aO,es,i1,av,au,Nat.reduceAdd,ai,aj,Int.reduceBEq,Int.reduceBNe,Int.reduceLT,Int.reduceLE,Int.reduceGT,Int.reduceGE,Int.reduceNeg]
   | false=>
    simp only[cond_false] at hq i1
    have aO:(((e.1:Nat):Int)==(n:Int))=false:=beq_false_of_ne (by omega)
    simp(disch:=first|exact zqq|fail)only[cond_false,Dg,bI h1,q1,y9,vH,e0,e1,B8,aO,es,i1,av,au,Nat.reduceAdd,ai,aj,Int.reduceBEq,Int.reduceBNe,Int.reduceLT,Int.reduceLE,Int.reduceGT,Int.reduceGE,Int.reduceNeg]
open nU
theorem aoL {H:Hp}{x:AV}{zs:List Int}(hx:Ow H 3 1 x (ints zs))(hl:zs.length<=16777216) :
  ∃ H',cK (.func (.func 192) [] []) [x] H=some (.tuple [],H')/\Ow H' 3 1 x (ints (hJ.pD zs))/\Out (ak x) H H':=by
 generalize hz:ints zs=l at hx
 cases hx with
 | nil=>
  have:zs=[]:=by simpa[ints] using hz
  subst this
  refine⟨H,zq (p:=hJ.sQ) (by kernel_rfl) rfl,?_,Out.refl _ _⟩
  simp[hJ.pD,ints];exact .nil
 | @emp i off=>
  have:zs=[]:=by simpa[ints] using hz
  subst this
  refine⟨H,zq (p:=hJ.sQ) (by kernel_rfl) ?_,?_,Out.refl _ _⟩
  ·unfold hJ.sQ
   simp only[if_true]
  ·simp[hJ.pD,ints];exact .emp
 | @mk i off n cap ex _ c lo hi fl iR hg hf gX jd iq hn hc hs h1 he=>
  subst hz
  rw[lG,afZ] at hn
  by_cases h0:n=0
  ·subst h0
   have:zs=[]:=List.length_eq_zero_iff.1 hn
   subst this
   refine⟨H,zq (p:=hJ.sQ) (by kernel_rfl) ?_,?_,Out.refl _ _⟩
   ·unfold hJ.sQ
    simp only[if_true]
   ·exact .mk iR hg hf gX jd iq (by simp[hJ.pD,ints]) (by simp[hJ.pD,ints]) hs (by simp[hJ.pD,ints]) he
  ·have oK:=hJ.abI zs
   have Hh:Ro H i off (ints zs):=⟨iR,c,lo,hi,3,fl,hg,gX,by rw[lG];omega,hc⟩
   have EN:=Hh.ar
   rw[lG,hn] at EN
   have agx:(Am.ar H i off n).bind hJ.yy=some zs:=by rw[EN];exact hJ.ZD zs
   have iW:hJ.sQ [.slice i off n cap ex 1] H=some (.tuple [],{ H with h:=H.h.bP i (.cells (c.bY off (hJ.rr (hJ.pD zs))) lo hi 3 fl) }):=by
    unfold hJ.sQ
    simp only
    rw[if_neg h0,if_pos ⟨trivial,by omega⟩,hg,acK]
    unfold hJ.Pu
    simp only
    rw[if_pos ⟨gX,by omega,hf⟩,agx]
    rfl
   have ey:∀ j,(H.h.bP i (AO.cells (c.bY off (hJ.rr (hJ.pD zs))) lo hi 3 fl)).get j=if j=i then some (AO.cells (c.bY off (hJ.rr (hJ.pD zs))) lo hi 3 fl) else H.h.get j:=fun j=>Tr.yf _ _ _ _ (by rw[hg];rfl)
   refine⟨_,zq (p:=hJ.sQ) (by kernel_rfl) iW,?_,⟨aaC _,fun j hj FF => ?_⟩⟩
   ·refine .mk (c:=c.bY off (ints (hJ.pD zs))) iR ?_ hf gX jd iq (by rw[lG];omega) (fun k v hk => ?_) (fun k hk => ?_) (akU _) he
    ·show (H.h.bP i _).get i=_
     rw[ey,if_pos rfl]
     rfl
    ·have pB:=(aah.1 hk).1
     rw[Tr.um,if_pos ⟨by omega,by omega⟩,aep]
     exact hk
    ·rw[Tr.um]
     split
     ·rename_i gN
      rw[aai (by omega)]
      rfl
     ·exact hs k hk
   ·show (H.h.bP i _).get j=_
    rw[ey,if_neg (fun q=>FF (by subst q;rw[mi he];exact .head _))]
def sortN (l:List Nat):List Nat:=l.mergeSort fun x y=>decide (x<=y)
theorem aeZ (l:List Nat):(sortN l).length=l.length:=(List.mergeSort_perm l _).length_eq
theorem ZN {l:List Nat}{x:Nat}:x∈sortN l↔x∈l:=(List.mergeSort_perm l _).mem_iff
theorem adH (l:List Nat):hJ.pD (cZ l)=cZ (sortN l):=by
 unfold hJ.pD cZ sortN
 rw[List.map_mergeSort]
 intro a _ b _
 simp
def jQ (E:List Ed)(n:Nat)(b:Bool):List Nat:=sortN (uH E n b)
theorem Xo (E:List Ed)(n:Nat)(b:Bool):(jQ E n b).length<=E.length:=by unfold jQ;rw[aeZ];exact aa1 E n b
theorem Rz {E:List Ed}{n x:Nat}:(x∈jQ E n false↔(n,x)∈E)/\(x∈jQ E n true↔(x,n)∈E):=by
 unfold jQ uH
 rw[ZN,ZN,List.mem_filterMap,List.mem_filterMap]
 constructor
 ·constructor
  ·rintro⟨e,he,h⟩
   simp only[cond_false] at h
   split at h
   ·rename_i h1;cases h;subst h1;exact he
   ·cases h
  ·intro h;exact⟨_,h,by simp⟩
 ·constructor
  ·rintro⟨e,he,h⟩
   simp only[cond_true] at h
   split at h
   ·rename_i h1;cases h;subst h1;exact he
   ·cases h
  ·intro h;exact⟨_,h,by simp⟩
theorem agv {N:Nat}{E:List Ed}{x:AV}{H:Hp}(b:Bool)(n:Nat)(hE:oY N E)(hx:RL H 2 x (jy E)) :
  ∃ y H',cK (.func (.func 176) [] []) [gv N x,.int .i64 n,.int .i64 (bif b then 1 else 0)] H=some (y,H')/\Ow H' 3 1 y (ints (cZ (jQ E n b)))/\Out [] H H'/\∀ j∈ak y,H.next<=j:=by
 have kH:=hx.one
 have mg:=aI H [.int .i64 N,x] 201 0
 obtain⟨H2,g1,g2⟩:=UY hE (hx.out0 mg)
 have gL:=g2.nx
 rw[bK] at gL
 have nE:=mg.trans g2
 have og:=hx.out0 nE
 obtain⟨y,H3,i1,i2,i3,i4⟩:=Pq (N:=N) b (n:=n) hE.len og E 0 H2 .ah [] [] (acD _) acI (Out.refl _ _) (fun j hj=>by cases hj) .nil (fun j hj=>by cases hj) (aaC _)
 rw[ahO] at i2
 have hr:∀ j∈ak y,H2.next<=j:=fun j hj=>(i4 j hj).elim (fun q=>by cases q) id
 obtain⟨H4,s1,s2,s3⟩:=aoL i2 (by rw[wk];have:=aa1 E n b;have:=hE.len;omega)
 rw[adH] at s2
 refine⟨y,H4,akt ?_,s2,nE.trans ((i3.mono fun j hj=>by cases hj).then s3 fun j hj => .inr (hr j hj)),fun j hj=>by have:=hr j hj;omega⟩
 have hl:=og.len (by decide)
 rw[JA] at hl
 have xS:cellAt H2 H.next 1=some x:=by
  rw[g2.cellAt (by rw[bK];omega) (by simp)]
  exact (bg H [.int .i64 N,x] 201 0).cellAt rfl
 rw[show (((0:Nat):Int))=0 from rfl] at i1
 unfold WE
 simp(disch:=first|exact zqz|fail)only[g1,xS,hl,i1,s1,av,au,ai,aj,simprocAttr]
theorem Tn {N:Nat}{E:List Ed}{x:AV}{H:Hp}(n:Nat)(hE:oY N E)(hx:RL H 2 x (jy E)) :
  ∃ y H',cK (.func (.func 157) [] []) [gv N x,.int .i64 n] H=some (y,H')/\Ow H' 3 1 y (ints (cZ (jQ E n false)))/\Out [] H H'/\∀ j∈ak y,H.next<=j:=by
 have kH:=hx.one
 have mg:=aI H [.int .i64 N,x] 201 0
 obtain⟨y,H',h1,h2,h3,h4⟩:=agv false n hE (hx.out0 mg)
 refine⟨y,H',afi ?_,h2,mg.trans h3,fun j hj=>by have:=h4 j hj;rw[bK] at this;omega⟩
 simp only[cond_false] at h1
 unfold W6
 simp(disch:=first|exact zqz|fail)only[h1,av,au,ai,aj,simprocAttr]
theorem CJ {l:List Nat}{i n:Nat}(h:l[i]? = some n):(ints (cZ l))[i]? = some (.int .i64 (n:Int)):=BB (by simp[cZ,h])
theorem O2 {N steps:Nat}{bl:List Nat}{bx:AV}{A:Nat}(aC:0<steps)(fT:∀ b∈bl,b<N)(lA:bl.length<=300)(bB eK dE bZ:AV)(hA:A∉ak bx) :
  ∀ (r:List Nat) (i:Nat) (H:Hp) (out nx:List Nat) (ny:AV),i<=bl.length->bl.drop i=r->Rw H 1 bx (ints (cZ bl))->(∀ j∈ak ny,j∉ak bx/\j≠A)->out.length=N->nx.length+r.length<=100000->Cs H A (ints (cZ out)) 3 0->Ow H 3 1 ny (ints (cZ nx))->
  ∃ rU H',(∀ (aD:K.Fn 1) (aF eZ:K.Fn 4) (dq eh:K.Fn 7),HO JN GO cK aD aF eZ dq eh bB (.slice A 0 N N true 1) (.int .i64 steps) ny eK dE bZ bx (.int .i64 (bl.length:Nat)) (.int .i64 (i:Nat)) H=eh bB (.slice A 0 N N true 1) (.int .i64 steps) rU eK dE bZ H')/\
   Cs H' A (ints (cZ (qj steps r (out,nx)).1)) 3 0/\Ow H' 3 1 rU (ints (cZ (qj steps r (out,nx)).2))/\Out (A::ak ny) H H'/\∀ j∈ak rU,j∈ak ny\/H.next<=j
 | [],i,H,out,nx,ny,hi,h,hb,hd,jf,hU,hC,hO=>by
  obtain rfl:=drop_nil hi h
  refine⟨ny,H,fun aD aF eZ dq eh => ?_,hC,hO,Out.refl _ _,fun j hj => .inl hj⟩
  rw[QR]
  simp only[GX,fU,ai,aj,simprocAttr]
 | b::r,i,H,out,nx,ny,hi,h,hb,hd,jf,hU,hC,hO=>by
  obtain⟨h1,h2,h3⟩:=gG h
  obtain⟨q,q1,q2⟩:=hb.lK (CJ h2) .i64
  have PL:=fT b (aao h2)
  have es:=gf h1 (by omega)
  have tJ:out[b]? = some (out[b]'(by omega)):=aai (by omega)
  have MO:=hC.ld (CJ tJ)
  have np:ia 1 (.slice A 0 N N true 1) (.int .i64 (b:Int))=some (.ptr A b):=by rw[yO PL];simp
  simp only[aaL] at hU
  by_cases h0:out[b]'(by omega)=0
  ·rw[h0] at tJ MO
   obtain⟨H1,w1,w2,w3,w4⟩:=fG hC (by decide) (o:=b) (by rw[lG,wk];omega) (v := .int .i64 (steps:Int)) rfl
   have fh:(ints (cZ out)).set b (.int .i64 (steps:Int))=ints (cZ (out.set b steps)):=by simp[ints,cZ,List.map_set]
   rw[fh] at w2
   have zj:=hO.out w3 fun j hj=>by rw[No];exact (hd j hj).2
   obtain⟨QE,H2,p1,p2,p3,p4,p5⟩:=uE (fH:=3) (z:=[(.int .i64 0)]) (vs:=[.int .i64 (b:Int)]) zj rfl rfl (by decide) (by rw[lG,wk];simp;omega)
   have pX:ints (cZ nx)++[.int .i64 (b:Int)]=ints (cZ (nx++[b])):=by rw[LQ,Kh];rfl
   rw[pX] at p2
   have aO:A∉ak ny:=fun q=>(hd A q).2 rfl
   have hCl:=hC.1
   have ahU:=hb.lt
   obtain⟨rU,H',i1,i2,i3,i4,i5⟩:=O2 (N:=N) aC fT lA bB eK dE bZ hA r (i+1) H2 (out.set b steps) (nx++[b]) QE h1 h3 ((hb.out w3 fun j hj=>by rw[No];intro e;subst e;exact hA hj).out p3 fun j hj q=>(hd j q).1 hj)
    (fun j hj=>(p4 j hj).elim (hd j) fun q=>⟨fun z=>by have:=ahU j z;omega,by omega⟩) (by rw[ac4];exact jf) (by simp;omega) (w2.out p3 aO) p2
   have hex:qj steps (b::r) (out,nx)=qj steps r (out.set b steps,nx++[b]):=by
    show qj steps r (ry steps (out,nx) b)=_
    unfold ry
    rw[if_pos tJ]
   have o2:Out (A::ak ny) H H2:=(w3.mono fun j hj=>by rw[No] at hj;subst hj;exact .head _).trans (p3.mono fun j hj => .tail _ hj)
   have jF:=p3.nx
   rw[hex]
   refine⟨rU,H',fun aD aF eZ dq eh => ?_,i2,i3,o2.then i4 fun j hj => ?_,fun j hj=>(i5 j hj).elim (fun q=>(p4 j q).imp id fun q=>by omega) fun q => .inr (by omega)⟩
   ·have iQ:=p1 _ rfl
    rw[QR]
    simp(disch:=first|exact zqz|fail)only[GX,bI h1,q1,q2,np,MO,Int.natCast_zero,w1,iQ,es,i1,av,au,ai,aj,simprocAttr]
   ·rcases aaD.1 hj with rfl | hj
    ·exact .inl (.head _)
    ·exact (p4 j hj).imp (fun q => .tail _ q) fun q=>by omega
  ·have ahd:out[b]? ≠ some 0:=fun q=>h0 (by rw[tJ] at q;exact acN q)
   have hex:qj steps (b::r) (out,nx)=qj steps r (out,nx):=by
    show qj steps r (ry steps (out,nx) b)=_
    unfold ry
    rw[if_neg ahd]
   obtain⟨rU,H',i1,i2⟩:=O2 (N:=N) aC fT lA bB eK dE bZ hA r (i+1) H out nx ny h1 h3 hb hd jf (by omega) hC hO
   rw[hex]
   refine⟨rU,H',fun aD aF eZ dq eh => ?_,i2⟩
   have aO:(((out[b]'(by omega):Nat):Int)==0)=false:=beq_false_of_ne (by omega)
   rw[QR]
   simp(disch:=first|exact zqz|fail)only[GX,bI h1,q1,q2,np,MO,aO,es,i1,av,au,ai,aj,simprocAttr]
theorem U1 {N steps:Nat}{E:List Ed}{x:AV}{g:Nat}{l:List Nat}{lx:AV}{A:Nat}(hE:oY N E)(aC:0<steps)(HG:l.length<=100)(hA:A∉ak lx/\A∉ak x/\A≠g) :
  ∀ (r:List Nat) (i:Nat) (H:Hp) (out nx:List Nat) (ny:AV),i<=l.length->l.drop i=r->Rw H 1 lx (ints (cZ l))->RL H 2 x (jy E)->Cs H g [.int .i64 N,x] 201 0->(∀ j∈ak ny,j∉ak lx/\j∉ak x/\j≠g/\j≠A)->out.length=N->nx.length+r.length*300<=90000->Cs H A (ints (cZ out)) 3 0->Ow H 3 1 ny (ints (cZ nx))->
  ∃ rU H',(∀ (aD:K.Fn 1) (aF eZ:K.Fn 4),Ib JN GO cK aD aF eZ (.ptr g 0) (.slice A 0 N N true 1) (.int .i64 steps) ny lx (.int .i64 (l.length:Nat)) (.int .i64 (i:Nat)) H=eZ (.ptr g 0) (.slice A 0 N N true 1) (.int .i64 steps) rU H')/\
   Cs H' A (ints (cZ (sU (fun n=>jQ E n false) steps r (out,nx)).1)) 3 0/\Ow H' 3 1 rU (ints (cZ (sU (fun n=>jQ E n false) steps r (out,nx)).2))/\Out (A::ak ny) H H'/\∀ j∈ak rU,j∈ak ny\/H.next<=j
 | [],i,H,out,nx,ny,hi,h,eS,hx,hg,hd,jf,hU,hC,hO=>by
  obtain rfl:=drop_nil hi h
  refine⟨ny,H,fun aD aF eZ => ?_,hC,hO,Out.refl _ _,fun j hj => .inl hj⟩
  rw[abF]
  simp only[MY,fU,ai,aj,simprocAttr]
 | a::r,i,H,out,nx,ny,hi,h,eS,hx,hg,hd,jf,hU,hC,hO=>by
  obtain⟨h1,h2,h3⟩:=gG h
  obtain⟨q,q1,q2⟩:=eS.lK (CJ h2) .i64
  have es:=gf h1 (by omega)
  have kH:=hx.one
  have ju:=hg.ar 2 0 (by simp)
  have ajm:ar H g 0 2=some [.int .i64 N,x]:=ju
  obtain⟨bx,H1,b1,b2,b3,b4⟩:=Tn a hE hx
  have fT:∀ b∈jQ E a false,b<N:=fun b hb=>(hE.lt _ (Rz.1.1 hb)).2.1
  have lA:=Xo E a false
  have hEl:=hE.len
  have hCl:=hC.1
  have aja:=hO.rw.lt
  simp only[aaL,af9,ait] at hU
  obtain⟨QE,H2,i1,i2,i3,i4,i5⟩:=O2 (N:=N) aC fT (by omega) (.ptr g 0) lx (.int .i64 (l.length:Nat)) (.int .i64 (i:Nat)) (fun q=>by have:=b4 A q;omega) (jQ E a false) 0 H1 out nx ny (acD _) acI b2.rw (fun j hj=>⟨fun q=>by have:=b4 j q;have:=aja j hj;omega,(hd j hj).2.2.2⟩) jf (by omega) (hC.out b3 (by simp)) (hO.out b3 (by simp))
  have jF:=b3.nx
  have Sg:=eS.lt
  have eg:=hx.1.lt
  have xc:=hg.1
  have key:∀ j,j<H.next->j≠A->j∉ak ny->H2.h.get j=H.h.get j:=fun j hj ha hn=>by
   rw[i4.2 j (by omega) (by rw[aaD,not_or];exact⟨ha,hn⟩),b3.2 j hj (by simp)]
  have o2:Out (A::ak ny) H H2:=(b3.mono fun j hj=>by cases hj).trans i4
  have d1:∀ j∈ak lx,j∉A::ak ny:=fun j hj=>by rw[aaD,not_or];exact⟨fun e=>hA.1 (e▸hj),fun q=>(hd j q).1 hj⟩
  have d2:∀ j∈ak x,j∉A::ak ny:=fun j hj=>by rw[aaD,not_or];exact⟨fun e=>hA.2.1 (e▸hj),fun q=>(hd j q).2.1 hj⟩
  have d3:g∉A::ak ny:=by rw[aaD,not_or];exact⟨fun e=>hA.2.2 e.symm,fun q=>(hd g q).2.2.1 rfl⟩
  have oK:=(Il (sc:=fun n=>jQ E n false) aC [a] (out,nx)).len
  have hl1:sU (fun n=>jQ E n false) steps (a::r) (out,nx)=sU (fun n=>jQ E n false) steps r (qj steps (jQ E a false) (out,nx)):=rfl
  have DW:=PG aC (jQ E a false) (out,nx)
  have hz:=DW.zU
  have ZW:(qj steps (jQ E a false) (out,nx)).2.length<=nx.length+(jQ E a false).length:=by
   have key2:∀ (bs:List Nat) (s:List Nat × List Nat),(qj steps bs s).2.length<=s.2.length+bs.length:=by
    intro bs
    induction bs with
    | nil=>intro s;exact aaC _
    | cons b bs ih=>
     intro s
     have h5:=ih (ry steps s b)
     have h6:(ry steps s b).2.length<=s.2.length+1:=by unfold ry;split<;>simp
     show (qj steps bs (ry steps s b)).2.length<=_
     simp only[aaL];omega
   exact key2 _ _
  obtain⟨rU,H',k1,k2,k3,k4,k5⟩:=U1 hE aC HG hA r (i+1) H2 _ _ QE h1 h3 (eS.out o2 d1) (hx.out o2 d2) (hg.out o2 d3) (fun j hj=>(i5 j hj).elim (fun q=>⟨(hd j q).1,(hd j q).2.1,(hd j q).2.2.1,(hd j q).2.2.2⟩) fun q=>⟨fun z=>by have:=Sg j z;omega,fun z=>by have:=eg j z;omega,by omega,by omega⟩) (DW.len.trans jf) (by omega) i2 i3
  rw[hl1]
  refine⟨rU,H',fun aD aF eZ => ?_,k2,k3,o2.then k4 fun j hj => ?_,fun j hj=>(k5 j hj).elim (fun q=>(i5 j q).imp id fun q=>by omega) fun q => .inr (by have:=o2.nx;omega)⟩
  ·have yu:=b2.rw.mQ
   rw[lG,wk] at yu
   rw[show (((0:Nat):Int))=0 from rfl] at i1
   rw[abF]
   simp(disch:=first|exact zqz|fail)only[MY,bI h1,q1,q2,ajm,b1,yu,i1,es,k1,av,au,ai,aj,simprocAttr]
  ·rcases aaD.1 hj with rfl | hj
   ·exact .inl (.head _)
   ·exact (i5 j hj).imp (fun q => .tail _ q) fun q=>by omega
theorem ah5 {N:Nat}{E:List Ed}{x:AV}{g A:Nat}(hE:oY N E)(hA:A∉ak x/\A≠g):∀ (f:Nat) (l out:List Nat) (steps:Nat) (lx:AV) (H:Hp),0<steps->steps+f<=100->out.length=N->l.length<=100->(l=[]\/eW out<f)->Rw H 1 lx (ints (cZ l))->A∉ak lx->RL H 2 x (jy E)->Cs H g [.int .i64 N,x] 201 0->Cs H A (ints (cZ out)) 3 0->
  ∃ H',(∀ k:K.Fn 1,Dq JN GO cK k (.ptr g 0) (.slice A 0 N N true 1) lx (.int .i64 steps) H=k (.slice A 0 N N true 1) H')/\Cs H' A (ints (cZ (tN (fun n=>jQ E n false) f l out steps))) 3 0/\Out [A] H H':=by
 have aa9:∀ (out:List Nat) (steps:Nat) (lx:AV) (H:Hp),Rw H 1 lx (ints (cZ []))->∀ k:K.Fn 1,Dq JN GO cK k (.ptr g 0) (.slice A 0 N N true 1) lx (.int .i64 steps) H=k (.slice A 0 N N true 1) H:=by
  intro out steps lx H eS k
  have hl:=eS.mQ
  have rq:bq lx=some (.int .i64 0):=hl
  rw[aba]
  simp only[RB,rq,ai,aj,simprocAttr]
 intro f
 induction f with
 | zero=>
  intro l out steps lx H hs Sb jf kO hz eS Vw hx hg hC
  obtain rfl:=hz.resolve_right (by omega)
  exact⟨H,aa9 out steps lx H eS,hC,Out.refl _ _⟩
 | succ f ih=>
  intro l out steps lx H hs Sb jf kO hz eS Vw hx hg hC
  by_cases pS:l=[]
  ·subst pS
   refine⟨H,aa9 out steps lx H eS,?_,Out.refl _ _⟩
   unfold tN
   rw[if_pos rfl];exact hC
  ·have hlp:0<l.length:=List.length_pos_iff.2 pS
   have S:=Il (sc:=fun n=>jQ E n false) hs l (out,[])
   have ft:=S.zU
   simp only[acG,aej] at ft
   have hzN:eW out<=N:=by unfold eW;rw[<-jf];exact List.countP_le_length
   have hN:=hE.n
   obtain⟨ny,H1,i1,i2,i3,i4,i5⟩:=U1 hE hs kO ⟨Vw,hA.1,hA.2⟩ l 0 H out [] .ah (acD _) acI eS hx hg (fun j hj=>by cases hj) jf (by simp;omega) hC .nil
   have o1:Out [A] H H1:=i4.mono fun j hj=>by
    rcases aaD.1 hj with rfl | hj
    ·exact .head _
    ·cases hj
   have yi:∀ j∈ak ny,H.next<=j:=fun j hj=>(i5 j hj).elim (fun q=>by cases q) id
   obtain⟨H',k1,k2,k3⟩:=ih _ _ (steps+1) ny H1 (by omega) (by omega) (S.len.trans jf) (by omega) (by
    have:=hz.resolve_left pS
    cases Lt:(sU (fun n=>jQ E n false) steps l (out,[])).2 with
    | nil=>exact .inl rfl
    | cons p q=>rw[Lt] at ft;simp only[aaL] at ft;exact .inr (by omega)) i3.rw (fun q=>by have:=yi A q;have:=hC.1;omega) (hx.out o1 fun j hj=>by rw[No];intro e;subst e;exact hA.1 hj) (hg.out o1 (by rw[No];exact fun e=>hA.2 e.symm)) i2
   refine⟨H',fun k => ?_,?_,o1.trans k3⟩
   ·have hl:=eS.mQ
    rw[lG,wk] at hl
    have d:decide ((0:Int)<((l.length:Nat):Int))=true:=decide_eq_true (by omega)
    have e:IntKind.wrap .i64 ((steps:Int)+1)=((steps+1:Nat):Int):=by rw[wrap_i64 (by omega) (by omega)];rfl
    rw[show (((0:Nat):Int))=0 from rfl] at i1
    rw[aba]
    simp only[RB,hl,d,i1,e,k1,ai,aj,simprocAttr]
   ·unfold tN
    rw[if_neg pS];exact k2
theorem abu {N:Nat}{E:List Ed}{x:AV}{H:Hp}{n:Nat}(hE:oY N E)(hx:RL H 2 x (jy E)):∃ A H',cK (.func (.func 156) [] []) [gv N x,.int .i64 n] H=some (.slice A 0 N N true 1,H')/\Cs H' A (ints (cZ (far (fun n=>jQ E n false) N n))) 3 0/\Out [] H H'/\H.next<=A:=by
 have kH:=hx.one
 have hN:=hE.n
 have mg:=aI H [.int .i64 N,x] 201 0
 have hm:=Zm (H:=al H [.int .i64 N,x] 201 0) (z := .int .i64 0) (el:=3) (n:=N) .i64 .i64 (by omega)
 have afa:List.replicate N (AV.int .i64 0)=ints (cZ (List.replicate N 0)):=by simp[ints,cZ]
 rw[bK,afa] at hm
 have nE:=mg.al (ints (cZ (List.replicate N 0))) 3 0
 have c2:=bg (al H [.int .i64 N,x] 201 0) (ints (cZ (List.replicate N 0))) 3 0
 have c1:=(bg H [.int .i64 N,x] 201 0).out (aI (al H [.int .i64 N,x] 201 0) (ints (cZ (List.replicate N 0))) 3 0) (by simp)
 have o3:=aI (al (al H [.int .i64 N,x] 201 0) (ints (cZ (List.replicate N 0))) 3 0) [.int .i64 (n:Int)] 3 0
 have wi:=nE.trans o3
 have c3:=bg (al (al H [.int .i64 N,x] 201 0) (ints (cZ (List.replicate N 0))) 3 0) [.int .i64 (n:Int)] 3 0
 have OQ:Rw (al (al (al H [.int .i64 N,x] 201 0) (ints (cZ (List.replicate N 0))) 3 0) [.int .i64 (n:Int)] 3 0) 1 (.slice (H.next+2) 0 1 1 true 1) (ints (cZ [n])) := .mk c3.ro rfl (aaC _) rfl
 have eg:=hx.1.lt
 obtain⟨H',i1,i2,i3⟩:=ah5 (g:=H.next) (A:=H.next+1) hE ⟨fun q=>by have:=eg _ q;omega,by omega⟩ (N+1) [n] (List.replicate N 0) 1 (.slice (H.next+2) 0 1 1 true 1) _ (by decide) (by omega) (by simp) (by simp) (.inr (by rw[U0];omega)) OQ (by rw[mi (by rfl),No];omega) (hx.out0 wi) (c1.out o3 (by simp)) (c2.out o3 (by simp))
 refine⟨H.next+1,H',ahh ?_,i2,wi.then i3 fun j hj=>by rw[No] at hj;exact .inr (by omega),by omega⟩
 rw[show (((1:Nat):Int))=1 from rfl] at i1
 unfold T9
 simp(disch:=first|exact zqz|fail)only[hm,i1,av,au,ai,aj,simprocAttr]
abbrev tI (E:List Ed)(N n:Nat):List Nat:=far (fun n=>jQ E n false) N n
theorem apL {sc:Nat->List Nat}{B:Nat}:∀ (f:Nat) (l out:List Nat) (steps:Nat),steps+f<=B->(∀ v∈out,v<=B)->∀ v∈tN sc f l out steps,v<=B:=by
 have h1:∀ (steps b:Nat) (s:List Nat × List Nat),steps<=B->(∀ v∈s.1,v<=B)->∀ v∈(ry steps s b).1,v<=B:=by
  intro steps b s hs h v hv
  unfold ry at hv
  split at hv
  ·rcases agu hv with hv | rfl
   ·exact h v hv
   ·exact hs
  ·exact h v hv
 have h2:∀ (steps:Nat) (bs:List Nat) (s:List Nat × List Nat),steps<=B->(∀ v∈s.1,v<=B)->∀ v∈(qj steps bs s).1,v<=B:=by
  intro steps bs
  induction bs with
  | nil=>intro s hs h;exact h
  | cons b bs ih=>intro s hs h;exact ih _ hs (h1 steps b s hs h)
 have h3:∀ (steps:Nat) (l:List Nat) (s:List Nat × List Nat),steps<=B->(∀ v∈s.1,v<=B)->∀ v∈(sU sc steps l s).1,v<=B:=by
  intro steps l
  induction l with
  | nil=>intro s hs h;exact h
  | cons b bs ih=>intro s hs h;exact ih _ hs (h2 steps _ s hs h)
 intro f
 induction f with
 | zero=>intro l out steps hs h;exact h
 | succ f ih=>
  intro l out steps hs h
  unfold tN
  split
  ·exact h
  ·exact ih _ _ _ (by omega) (h3 steps l _ (by omega) h)
theorem agP {E:List Ed}{N n:Nat}(hN:N<=16):∀ v∈tI E N n,v<=100:=by
 refine apL _ _ _ _ (by omega) ?_
 intro v hv
 rw[List.eq_of_mem_replicate hv];omega
theorem aic {N n:Nat}{E:List Ed}(hE:oY N E):(tI E N n).length=N:=
 (aoA (C:=fun _=>True) (fun a b hb=>(hE.lt _ (Rz.1.1 hb)).2.1) (fun _ _=>trivial) (fun _ _ _ _=>trivial)).1
def rN (E:List Ed)(N n:Nat):Nat:=(tI E N n).getD n 0
theorem U5 {N n m:Nat}{E:List Ed}(hE:oY N E)(hm:m<N):(tI E N n)[m]? = some ((tI E N n).getD m 0):=by
 rw[agp,aai (by rw[aic hE];exact hm)];rfl
theorem ZG {N n m:Nat}{E:List Ed}{H':Hp}{A:Nat}(hE:oY N E)(hm:m<N)(hC:Cs H' A (ints (cZ (tI E N n))) 3 0):ia 1 (.slice A 0 N N true 1) (.int .i64 (m:Int))=some (.ptr A m)/\cellAt H' A m=some (.int .i64 (((tI E N n).getD m 0:Nat):Int)):=
 ⟨by rw[yO hm];simp,hC.cellAt (CJ (U5 hE hm))⟩
theorem ajw {N n m:Nat}{E:List Ed}(hE:oY N E)(hm:m<N):(tI E N n).getD m 0<=100:=agP hE.n _ (aao (U5 hE hm))
theorem afr {N:Nat}{E:List Ed}{x:AV}{g:Nat}(hE:oY N E):∀ (m i st sp:Nat) (H:Hp),i+m=N->st<N+1->(0<sp->st<N)->sp<=100->(sp=0 ↔ ∀ n,n<i->rN E N n=0)->RL H 2 x (jy E)->Cs H g [.int .i64 N,x] 201 0->
  ∃ vV tj H',(∀ k:K.Fn 3,FR JN GO cK k (.ptr g 0) (.int .i64 st) (.int .i64 sp) (.int .i64 N) (.int .i64 i) H=k (.ptr g 0) (.int .i64 (vV:Nat)) (.int .i64 (tj:Nat)) H')/\(0<tj->vV<N)/\tj<=100/\(tj=0 ↔ ∀ n,n<N->rN E N n=0)/\Out [] H H':=by
 intro m
 induction m with
 | zero=>
  intro i st sp H hi aC Ip mh Oa hx hg
  obtain rfl:i=N:=by omega
  refine⟨st,sp,H,fun k => ?_,Ip,mh,Oa,Out.refl _ _⟩
  rw[Ee]
  simp only[Ai,fU,ai,aj,simprocAttr]
 | succ m ih=>
  intro i st sp H hi aC Ip mh Oa hx hg
  have kH:=hx.one
  have hN:=hE.n
  have yD:i<N:=by omega
  have ju:ar H g 0 2=some [.int .i64 N,x]:=hg.ar 2 0 (by simp)
  obtain⟨A,H1,f1,f2,f3,f4⟩:=abu (n:=i) hE hx
  obtain⟨a1,a2⟩:=ZG hE yD f2
  have hle:=ajw (n:=i) hE yD
  have hd:(tI E N i).getD i 0=rN E N i:=rfl
  rw[hd] at a2 hle
  have es:IntKind.wrap .i64 ((i:Int)+1)=((i+1:Nat):Int):=by rw[wrap_i64 (by omega) (by omega)];rfl
  have aJ:decide (((i:Nat):Int)<((N:Nat):Int))=true:=decide_eq_true (by omega)
  by_cases hk:0<rN E N i
  ·have dk:decide ((0:Int)<((rN E N i:Nat):Int))=true:=decide_eq_true (by omega)
   by_cases h0:sp=0
   ·obtain⟨vV,tj,H',i1,i2,i3,i4,i5⟩:=ih (i+1) i (rN E N i) H1 (by omega) (by omega) (fun _=>yD) hle ⟨fun q=>by omega,fun q=>by have:=q i (by omega);omega⟩ (hx.out0 f3) (hg.out f3 (by simp))
    refine⟨vV,tj,H',fun k => ?_,i2,i3,i4,f3.trans i5⟩
    subst h0
    rw[Ee]
    simp(disch:=first|exact zqz|fail)only[Ai,aJ,ju,f1,a1,a2,dk,Int.natCast_zero,es,i1,av,au,ai,aj,simprocAttr]
   ·have e0:((sp:Int)==0)=false:=beq_false_of_ne (by omega)
    by_cases h1:rN E N i<sp
    ·have dl:decide (((rN E N i:Nat):Int)<((sp:Nat):Int))=true:=decide_eq_true (by omega)
     obtain⟨vV,tj,H',i1,i2,i3,i4,i5⟩:=ih (i+1) i (rN E N i) H1 (by omega) (by omega) (fun _=>yD) hle ⟨fun q=>by omega,fun q=>by have:=q i (by omega);omega⟩ (hx.out0 f3) (hg.out f3 (by simp))
     refine⟨vV,tj,H',fun k => ?_,i2,i3,i4,f3.trans i5⟩
     rw[Ee]
     simp(disch:=first|exact zqz|fail)only[Ai,aJ,ju,f1,a1,a2,dk,e0,dl,es,i1,av,au,ai,aj,simprocAttr]
    ·have dl:decide (((rN E N i:Nat):Int)<((sp:Nat):Int))=false:=decide_eq_false (by omega)
     obtain⟨vV,tj,H',i1,i2,i3,i4,i5⟩:=ih (i+1) st sp H1 (by omega) aC Ip mh ⟨fun q=>by omega,fun q=>by have:=q i (by omega);omega⟩ (hx.out0 f3) (hg.out f3 (by simp))
     refine⟨vV,tj,H',fun k => ?_,i2,i3,i4,f3.trans i5⟩
     rw[Ee]
     simp(disch:=first|exact zqz|fail)only[Ai,aJ,ju,f1,a1,a2,dk,e0,dl,es,i1,av,au,ai,aj,simprocAttr]
  ·have sI:rN E N i=0:=by omega
   have dk:decide ((0:Int)<((rN E N i:Nat):Int))=false:=decide_eq_false (by omega)
   obtain⟨vV,tj,H',i1,i2,i3,i4,i5⟩:=ih (i+1) st sp H1 (by omega) aC Ip mh (Oa.trans ⟨fun q n hn=>by
    by_cases hni:n=i
    ·subst hni;exact sI
    ·exact q n (by omega),fun q n hn=>q n (by omega)⟩) (hx.out0 f3) (hg.out f3 (by simp))
   refine⟨vV,tj,H',fun k => ?_,i2,i3,i4,f3.trans i5⟩
   rw[Ee]
   simp(disch:=first|exact zqz|fail)only[Ai,aJ,ju,f1,a1,a2,dk,es,i1,av,au,ai,aj,simprocAttr]
theorem Pr {N:Nat}{E:List Ed}{x:AV}{g st left:Nat}{bl:List Nat}(hE:oY N E)(aC:st<N)(fT:∀ b∈bl,b<N)(lA:bl.length<=300):∀ (r:List Nat) (i:Nat) (bx y:AV) (out:List Nat) (H:Hp),i<=bl.length->bl.drop i=r->Rw H 1 bx (ints (cZ bl))->RL H 2 x (jy E)->Cs H g [.int .i64 N,x] 201 0->Ow H 3 1 y (ints (cZ out))->out.length<=10000->
  ∃ y' kC H',(∀ (iF:K.Fn 1) (mo la:K.Fn 4),Ia JN GO cK iF mo la (.ptr g 0) (.int .i64 st) y (.int .i64 left) bx (.int .i64 (bl.length:Nat)) (.int .i64 (i:Nat)) H=la (.ptr g 0) (.int .i64 st) y' (.int .i64 left) H')/\Ow H' 3 1 y' (ints (cZ kC))/\(kC=out\/∃ b,b<N/\kC=out++[b])/\Out (ak y) H H'/\∀ j∈ak y',j∈ak y\/H.next<=j
 | [],i,bx,y,out,H,hi,h,hb,hx,hg,hO,jf=>by
  obtain rfl:=drop_nil hi h
  refine⟨y,out,H,fun iF mo la => ?_,hO,.inl rfl,Out.refl _ _,fun j hj => .inl hj⟩
  rw[Li]
  simp only[BP,fU,ai,aj,simprocAttr]
 | b::r,i,bx,y,out,H,hi,h,hb,hx,hg,hO,jf=>by
  obtain⟨h1,h2,h3⟩:=gG h
  obtain⟨q,q1,q2⟩:=hb.lK (CJ h2) .i64
  have PL:=fT b (aao h2)
  have es:=gf h1 (by omega)
  have kH:=hx.one
  have ju:ar H g 0 2=some [.int .i64 N,x]:=hg.ar 2 0 (by simp)
  by_cases so:b=st
  ·have d:(((b:Nat):Int) != ((st:Nat):Int))=false:=by subst so;simp
   obtain⟨y',kC,H',i1,i2⟩:=Pr (left:=left) hE aC fT lA r (i+1) bx y out H h1 h3 hb hx hg hO jf
   refine⟨y',kC,H',fun iF mo la => ?_,i2⟩
   rw[Li]
   simp(disch:=first|exact zqz|fail)only[BP,bI h1,q1,q2,d,es,i1,av,au,ai,aj,simprocAttr]
  ·have d:(((b:Nat):Int) != ((st:Nat):Int))=true:=by simp;omega
   obtain⟨A,H1,f1,f2,f3,f4⟩:=abu (n:=b) hE hx
   obtain⟨a1,a2⟩:=ZG hE aC f2
   by_cases hl:(tI E N b).getD st 0=left
   ·have d2:((((tI E N b).getD st 0:Nat):Int)==((left:Nat):Int))=true:=by rw[hl];simp
    obtain⟨y1,H2,p1,p2,p3,p4,p5⟩:=uE (fH:=3) (z:=[(.int .i64 0)]) (vs:=[.int .i64 (b:Int)]) (hO.out f3 (by simp)) rfl rfl (by decide) (by rw[lG,wk];simp;omega)
    have pX:ints (cZ out)++[.int .i64 (b:Int)]=ints (cZ (out++[b])):=by rw[LQ,Kh];rfl
    rw[pX] at p2
    have jF:=f3.nx
    refine⟨y1,out++[b],H2,fun iF mo la => ?_,p2,.inr ⟨b,PL,rfl⟩,(f3.mono fun j hj=>by cases hj).trans p3,fun j hj=>(p4 j hj).imp id fun q=>by omega⟩
    have iQ:=p1 _ rfl
    rw[Li]
    simp(disch:=first|exact zqz|fail)only[BP,bI h1,q1,q2,d,ju,f1,a1,a2,d2,iQ,av,au,ai,aj,simprocAttr]
   ·have d2:((((tI E N b).getD st 0:Nat):Int)==((left:Nat):Int))=false:=beq_false_of_ne (by omega)
    obtain⟨y',kC,H',i1,i2,i3,i4,i5⟩:=Pr (left:=left) hE aC fT lA r (i+1) bx y out H1 h1 h3 (hb.out0 f3) (hx.out0 f3) (hg.out f3 (by simp)) (hO.out f3 (by simp)) jf
    have jF:=f3.nx
    refine⟨y',kC,H',fun iF mo la => ?_,i2,i3,(f3.mono fun j hj=>by cases hj).trans i4,fun j hj=>(i5 j hj).imp id fun q=>by omega⟩
    rw[Li]
    simp(disch:=first|exact zqz|fail)only[BP,bI h1,q1,q2,d,ju,f1,a1,a2,d2,es,i1,av,au,ai,aj,simprocAttr]
theorem ape {N:Nat}{E:List Ed}{x:AV}{g st:Nat}(hE:oY N E)(aC:st<N):∀ (left:Nat) (y:AV) (out:List Nat) (H:Hp),out≠[]->(∀ b∈out,b<N)->out.length+left<=1000->RL H 2 x (jy E)->Cs H g [.int .i64 N,x] 201 0->Ow H 3 1 y (ints (cZ out))->(∀ j∈ak y,j∉ak x/\j≠g)->
  ∃ y' kC H',(∀ k:K.Fn 1,HN JN GO cK k (.ptr g 0) (.int .i64 st) y (.int .i64 left) H=k y' H')/\Ow H' 3 1 y' (ints (cZ kC))/\kC≠[]/\Out (ak y) H H':=by
 intro left
 induction left with
 | zero=>
  intro y out H h0 aJ hn hx hg hO hd
  refine⟨y,out,H,fun k => ?_,hO,h0,Out.refl _ _⟩
  have d:decide ((0:Int)<((0:Nat):Int))=false:=rfl
  rw[Va]
  simp only[O7,d,ai,aj,simprocAttr]
 | succ left ih=>
  intro y out H h0 aJ hn hx hg hO hd
  have aT:0<out.length:=List.length_pos_iff.2 h0
  have kH:=hx.one
  have ju:ar H g 0 2=some [.int .i64 N,x]:=hg.ar 2 0 (by simp)
  have yu:=hO.rw.mQ
  rw[lG,wk] at yu
  obtain⟨a,ha⟩:∃ a,out[out.length-1]? = some a:=⟨_,aai (by omega)⟩
  obtain⟨q,q1,q2⟩:=hO.rw.lK (CJ ha) .i64
  have hEl:=hE.len
  have fT:∀ b∈jQ E a false,b<N:=fun b hb=>(hE.lt _ (Rz.1.1 hb)).2.1
  have lA:=Xo E a false
  obtain⟨bx,H1,b1,b2,b3,b4⟩:=Tn a hE hx
  have aaU:=b2.rw.mQ
  rw[lG,wk] at aaU
  have Gf:=hO.rw.lt
  obtain⟨y1,K0,H2,i1,i2,i3,i4,i5⟩:=Pr (left:=left+1) hE aC fT (by omega) (jQ E a false) 0 bx y out H1 (acD _) acI b2.rw (hx.out0 b3) (hg.out b3 (by simp)) (hO.out b3 (by simp)) (by omega)
  have jF:=b3.nx
  have o2:Out (ak y) H H2:=(b3.mono fun j hj=>by cases hj).trans i4
  have eg:=hx.1.lt
  have xc:=hg.1
  have iB:∀ j∈ak y1,j∈ak y\/H.next<=j:=fun j hj=>(i5 j hj).imp id fun q=>by omega
  have Mn:K0≠[]/\(∀ b∈K0,b<N)/\K0.length<=out.length+1:=by
   rcases i3 with rfl | ⟨b,hb,rfl⟩
   ·exact⟨h0,aJ,by omega⟩
   ·refine⟨by simp,fun c hc => ?_,by simp⟩
    rcases abL.1 hc with hc | hc
    ·exact aJ c hc
    ·rw[No] at hc;subst hc;exact hb
  obtain⟨y',kC,H',k1,k2,k3,k4⟩:=ih y1 K0 H2 Mn.1 Mn.2.1 (by have:=Mn.2.2;omega) (hx.out o2 fun j hj q=>(hd j q).1 hj) (hg.out o2 fun q=>(hd g q).2 rfl) i2 (fun j hj=>(iB j hj).elim (hd j) fun q=>⟨fun z=>by have:=eg j z;omega,by omega⟩)
  refine⟨y',kC,H',fun k => ?_,k2,k3,o2.then k4 iB⟩
  have d:decide ((0:Int)<((left+1:Nat):Int))=true:=decide_eq_true (by omega)
  have e1:IntKind.wrap .i64 (((out.length:Nat):Int)-1)=((out.length-1:Nat):Int):=by rw[wrap_i64 (by omega) (by omega)];omega
  have e2:IntKind.wrap .i64 (((left+1:Nat):Int)-1)=((left:Nat):Int):=by rw[wrap_i64 (by omega) (by omega)];omega
  rw[show (((0:Nat):Int))=0 from rfl] at i1
  rw[Va]
  simp(disch:=first|exact zqz|fail)only[O7,d,ju,yu,e1,q1,q2,b1,aaU,i1,e2,k1,av,au,ai,aj,simprocAttr]
def yX (N:Nat)(E:List Ed):Prop:=∀ n,n<N->rN E N n=0
theorem ao8 {N:Nat}{E:List Ed}{x:AV}{H:Hp}(hE:oY N E)(hx:RL H 2 x (jy E)):∃ (y:AV) (k:Nat) (H':Hp),cK (.func (.func 126) [] []) [gv N x] H=some (y,H')/\bq y=some (.int .i64 k)/\(k=0↔yX N E)/\Out [] H H':=by
 have kH:=hx.one
 have hN:=hE.n
 have mg:=aI H [.int .i64 N,x] 201 0
 have c1:=bg H [.int .i64 N,x] 201 0
 obtain⟨H2,g1,g2⟩:=UY hE (hx.out0 mg)
 have gL:=g2.nx
 rw[bK] at gL
 have nE:=mg.trans g2
 have c2:=c1.out g2 (by simp)
 obtain⟨st,sp,H3,i1,i2,i3,i4,i5⟩:=afr (g:=H.next) hE N 0 0 0 H2 (by omega) (by omega) (by omega) (by omega) ⟨fun _ n hn=>by omega,fun _=>rfl⟩ (hx.out0 nE) c2
 rw[show (((0:Nat):Int))=0 from rfl] at i1
 have CY:cellAt H2 H.next 0=some (.int .i64 N):=c2.cellAt rfl
 have wi:=nE.trans i5
 have c3:=c2.out i5 (by simp)
 have xu:=i5.nx
 by_cases h0:sp=0
 ·refine⟨.ah,0,H3,aa2 ?_,rfl,⟨fun _=>i4.1 h0,fun _=>rfl⟩,wi⟩
  subst h0
  unfold Ju
  simp(disch:=first|exact zqz|fail)only[g1,CY,i1,Int.natCast_zero,av,au,ai,aj,simprocAttr]
 ·have X1:=i2 (by omega)
  have c4:=bg H3 [.int .i64 (st:Int)] 3 0
  have o4:=aI H3 [.int .i64 (st:Int)] 3 0
  have hO:Ow (al H3 [.int .i64 (st:Int)] 3 0) 3 1 (.slice H3.next 0 1 1 true 1) (ints (cZ [st])):=c4.ow (by decide) rfl (by intro v hv;rw[No] at hv;subst hv;rfl) true
  have eg:=hx.1.lt
  obtain⟨y,out,H5,k1,k2,k3,k4⟩:=ape (g:=H.next) hE X1 (sp-1) _ [st] _ (by simp) (by intro b hb;rw[No] at hb;subst hb;exact X1) (by simp;omega) (hx.out0 (wi.trans o4)) (c3.out o4 (by simp)) hO (fun j hj=>by
   rw[mi (by rfl),No] at hj
   exact⟨fun q=>by have:=eg j q;omega,by omega⟩)
  have yu:=k2.rw.mQ
  rw[lG,wk] at yu
  have aT:0<out.length:=List.length_pos_iff.2 k3
  refine⟨y,out.length,H5,aa2 ?_,yu,⟨fun q=>by omega,fun q=>absurd (i4.2 q) h0⟩,(wi.trans o4).then k4 fun j hj => ?_⟩
  ·have d:(((sp:Nat):Int)==0)=false:=beq_false_of_ne (by omega)
   have e:IntKind.wrap .i64 (((sp:Nat):Int)-1)=((sp-1:Nat):Int):=by rw[wrap_i64 (by omega) (by omega)];omega
   unfold Ju
   simp(disch:=first|exact zqz|fail)only[g1,CY,i1,d,e,k1,av,au,ai,aj,simprocAttr]
  ·rw[mi (by rfl),No] at hj;exact .inr (by omega)
abbrev qc:aq:=[97,98,99,100,101,102,103,104,105,106,107,108,109,110,111,112,113,114,115,116,117,118,119,120,121,122,48,49,50,51,52,53,54,55,56,57]
noncomputable def tX (s:aq):Bool := !(s==[])&&(decide ((s.length:Int)<=16)&&(yB s qc==[]))
theorem JU (s:aq)(H:Hp):cK (.func (.func 54) [] []) [.str s] H=some (.bool (tX s),H):=by
 refine ahR ?_
 unfold VI tX
 cases h0:(s==[]) with
 | true=>simp only[h0,aie,aeL,ai,aj,simprocAttr]
 | false=>
  by_cases h1:(s.length:Int)<=16
  ·have ht:=ad1 s qc H (by omega) (by decide) (by decide)
   simp only[h0,h1,ht,aeD,ai,aj,simprocAttr]
  ·simp only[h0,h1,aeD,aeL,ai,aj,simprocAttr]
noncomputable def pM (s:aq):Option Nat:=if s.length<=4 then (match Lib.atoiAll (wq s) with | .ok v=>if dec v=s/\0<=v then some v.toNat else none | _=>none) else none
theorem ab2 (T:Nat)(v:AV)(H:Hp):gA P .eql 183 true (.iface T v) .nilIface=true/\eG P .eql 183 (.iface T v) .nilIface H=some (.bool false):=by
 have hu:∃ m,P.underlying 183=some (.interface m):=⟨_,Tryz.underlying183⟩
 obtain⟨m,hu⟩:=hu
 refine⟨rfl,?_⟩
 unfold eG dH
 simp only[hu];rfl
theorem akQ (H:Hp):gA P .eql 183 true .nilIface .nilIface=true/\eG P .eql 183 .nilIface .nilIface H=some (.bool true):=by
 have hu:∃ m,P.underlying 183=some (.interface m):=⟨_,Tryz.underlying183⟩
 obtain⟨m,hu⟩:=hu
 refine⟨rfl,?_⟩
 unfold eG dH
 simp only[hu];rfl
theorem ai5 {s:aq}(hs:s.length<=4){v:Int}(h:Lib.atoiAll (wq s) = .ok v) : -9223372036854775808<=v/\v<=9223372036854775807:=by
 unfold Lib.atoiAll at h
 split at h
 ·cases h
 ·simp only at h
  split at h
  ·cases h
  ·cases h
  ·split at h
   ·cases h
   ·split at h
    ·cases h
    ·injection h with h
     rename_i h1 h2
     split at h<;>omega
theorem ak3 {s:aq}{H:Hp}(hg:Gl H):∃ n ok H',cK (.func (.func 153) [] []) [.str s] H=some (.tuple [.int .i64 n,.bool ok],H')/\(pM s=if ok then some n.toNat else none)/\(ok=true->0<=n)/\Out [] H H':=by
 by_cases hl:s.length<=4
 ·have d:decide ((4:Int)<(s.length:Int))=false:=decide_eq_false (by omega)
  have ha:=ana (s:=s) (by omega) hg
  have uD:pM s=(match Lib.atoiAll (wq s) with | .ok v=>if dec v=s/\0<=v then some v.toNat else none | _=>none):=by unfold pM;rw[if_pos hl]
  unfold IN at ha
  cases hr:Lib.atoiAll (wq s) with
  | ok v=>
   rw[hr] at ha uD
   obtain⟨b1,b2⟩:=ai5 hl hr
   obtain⟨H',i1,i2⟩:=Eo b1 b2 hg
   have hn:=akQ H
   by_cases h1:dec v=s
   ·have e1:(dec v==s)=true:=by rw[h1];simp
    refine⟨v,decide (0<=v),H',G7 ?_,?_,fun q=>by simpa using q,i2⟩
    ·unfold Dy
     simp(disch:=first|exact zqz|fail)only[d,ha,hn.1,hn.2,mH,i1,e1,av,au,ai,aj,simprocAttr]
    ·rw[uD]
     by_cases h0:0<=v<;>simp[h1,h0]
   ·have e1:(dec v==s)=false:=beq_false_of_ne h1
    refine⟨v,false,H',G7 ?_,?_,(fun q=>by cases q),i2⟩
    ·unfold Dy
     simp(disch:=first|exact zqz|fail)only[d,ha,hn.1,hn.2,mH,i1,e1,av,au,ai,aj,simprocAttr]
    ·rw[uD];simp[h1]
  | range=>
   rw[hr] at ha uD
   have hn:=ab2 269 .cP H
   refine⟨Lib.atoiSat (wq s),false,H,G7 ?_,by rw[uD];rfl,(fun q=>by cases q),Out.refl _ _⟩
   unfold Dy
   simp(disch:=first|exact zqz|fail)only[d,ha,hn.1,hn.2,mH,av,au,ai,aj,simprocAttr]
  | _=>
   rw[hr] at ha uD
   have hn:=ab2 269 .cP H
   refine⟨0,false,H,G7 ?_,by rw[uD];rfl,(fun q=>by cases q),Out.refl _ _⟩
   unfold Dy
   simp(disch:=first|exact zqz|fail)only[d,ha,hn.1,hn.2,mH,av,au,ai,aj,simprocAttr]
 ·have d:decide ((4:Int)<(s.length:Int))=true:=decide_eq_true (by omega)
  refine⟨0,false,H,G7 ?_,by unfold pM;rw[if_neg hl];rfl,(fun q=>by cases q),Out.refl _ _⟩
  unfold Dy
  simp(disch:=first|exact zqz|fail)only[d,av,au,ai,aj,simprocAttr]
structure Tk where
 name:aq
 after:List Int
 retry:Int
 wait:Int
 base:Int
 on:aq
 deriving DecidableEq
def aL (t:Tk)(x:AV):List AV:=[.str t.name,x,.int .i64 t.retry,.int .i64 t.wait,.int .i64 t.base,.str t.on]
def kX (dx:AV)(xs:List AV):List Nat:=ak dx++xs.flatMap ak
structure RD (H:Hp)(dx:AV)(xs:List AV)(ts:List Tk):Prop where
 len:xs.length=ts.length
 row:RL H 6 dx (List.zipWith aL ts xs)
 jn:∀ (i:Nat) (x:AV) (t:Tk),xs[i]? = some x->ts[i]? = some t->Rw H 1 x (ints t.after)
theorem RD.out {H H':Hp}{dx:AV}{xs:List AV}{ts:List Tk}{S:List Nat}(h:RD H dx xs ts)(k:Out S H H')(hs:∀ j∈kX dx xs,j∉S):RD H' dx xs ts:=
 ⟨h.len,h.row.out k fun j hj=>hs j (abG _ hj),fun i x t hx ht=>(h.jn i x t hx ht).out k fun j hj=>hs j (abr _ (agY.2 ⟨x,aao hx,hj⟩))⟩
theorem RD.out0 {H H':Hp}{dx:AV}{xs:List AV}{ts:List Tk}(h:RD H dx xs ts)(k:Out [] H H'):RD H' dx xs ts:=h.out k fun _ _ q=>by cases q
theorem RD.lt {H:Hp}{dx:AV}{xs:List AV}{ts:List Tk}(h:RD H dx xs ts):∀ j∈kX dx xs,j<H.next:=by
 intro j hj
 rcases abL.1 hj with hj | hj
 ·exact h.row.1.lt j hj
 ·obtain⟨x,hx,hj⟩:=agY.1 hj
  obtain⟨i,hi⟩:=adi hx
  have hit:i<ts.length:=by rw[<-h.len];exact (aah.1 hi).1
  exact (h.jn i x _ hi (aai hit)).lt j hj
theorem RD.at {H:Hp}{dx:AV}{xs:List AV}{ts:List Tk}(h:RD H dx xs ts){i:Nat}{t:Tk}(ht:ts[i]? = some t) :
  ∃ x b o,xs[i]? = some x/\aY x=true/\Rw H 1 x (ints t.after)/\(∀ k,ia 6 dx (.int k i)=some (.ptr b o))/\b<H.next/\ar H b o 6=some (aL t x)/\cellAt H b o=some (.str t.name):=by
 have hi:=(aah.1 ht).1
 have hx:xs[i]? = some (xs[i]'(by rw[h.len];exact hi)):=aai _
 have hw:=h.jn i _ t hx ht
 have hz:(List.zipWith aL ts xs)[i]? = some (aL t (xs[i]'(by rw[h.len];exact hi))):=by rw[adT,ht,hx]
 obtain⟨b,o,h1,h2,h3,h4,h5⟩:=h.row.at (by decide) hz
 exact⟨_,b,o,hx,hw.one,hw,h1,h3,h4,by have:=h5 0 _ rfl;rw[aej] at this;exact this⟩
theorem RD.bq {H:Hp}{dx:AV}{xs:List AV}{ts:List Tk}(h:RD H dx xs ts):bq dx=some (.int .i64 (ts.length:Nat)):=by
 have:=h.row.len (by decide)
 rw[agd,h.len,Nat.min_self] at this
 exact this
abbrev dv (dx:AV):AV := .agg [dx]
noncomputable def vM (t:Tk):Bool := !tX t.name||(!(t.on==[])&&!tX t.on)
def sO (t:Tk):Bool := !(decide (0<=t.retry)&&decide (t.retry<=8))||(!(decide (1<=t.wait)&&decide (t.wait<=1000))||!(decide (1<=t.base)&&decide (t.base<=1000)))
theorem uC (t:Tk)(x:AV):(aL t x)[0]? = some (.str t.name)/\(aL t x)[1]? = some x/\(aL t x)[2]? = some (.int .i64 t.retry)/\(aL t x)[3]? = some (.int .i64 t.wait)/\(aL t x)[4]? = some (.int .i64 t.base)/\(aL t x)[5]? = some (.str t.on):=⟨rfl,rfl,rfl,rfl,rfl,rfl⟩
theorem wX (t:Tk)(x:AV):(aL t x).length=6:=rfl
theorem S6 (t:Tk)(x:AV):(aL t x).take 6=aL t x:=rfl
theorem wA (t:Tk)(x:AV)(H:Hp):bx 99 (.agg (aL t x)) H=some (H.next,al H (aL t x) 99 0):=ji (by rw[wX];omega)
theorem yS (t:Tk)(x:AV)(hx:aY x=true)(H:Hp):st 6 (.ptr H.next 0) (.agg (aL t x)) (al H [(.str []),.ah,(.int .i64 0),(.int .i64 0),(.int .i64 0),(.str [])] 99 0)=some (al H (aL t x) 99 0):=
 iI (by simp[aL,C7,kK,hx]) rfl rfl (by decide) rfl
theorem ahQ (t:Tk)(x:AV)(i:Int)(H:Hp):∃ H',cK (.func (.func 120) [] []) [.int .i64 i,.agg (aL t x)] H=some (.bool (vM t),H')/\Out [] H H':=by
 refine⟨al H (aL t x) 99 0,ad4 ?_,aI _ _ _ _⟩
 obtain⟨e0,e1,e2,e3,e4,e5⟩:=uC t x
 unfold abf vM
 cases h1:tX t.name with
 | false=>simp(disch:=first|exact zqz|fail)only[wA,e0,e5,JU,h1,air,Bool.true_or,av,au,ai,aj,simprocAttr]
 | true=>
  cases h2:(t.on==[]) with
  | true=>simp(disch:=first|exact zqz|fail)only[wA,e0,e5,JU,h1,h2,aie,Bool.false_or,aeL,av,au,ai,aj,simprocAttr]
  | false=>simp(disch:=first|exact zqz|fail)only[wA,e0,e5,JU,h1,h2,aie,air,Bool.false_or,aeD,av,au,ai,aj,simprocAttr]
theorem acv (t:Tk)(x:AV)(i:Int)(H:Hp):∃ H',cK (.func (.func 122) [] []) [.int .i64 i,.agg (aL t x)] H=some (.bool (sO t),H')/\Out [] H H':=by
 refine⟨al H (aL t x) 99 0,aoQ ?_,aI _ _ _ _⟩
 obtain⟨e0,e1,e2,e3,e4,e5⟩:=uC t x
 unfold UA sO
 cases h1:(decide (0<=t.retry)&&decide (t.retry<=8)) with
 | false=>simp(disch:=first|exact zqz|fail)only[wA,e2,e3,e4,pP,h1,air,Bool.true_or,av,au,ai,aj,simprocAttr]
 | true=>
  cases h2:(decide (1<=t.wait)&&decide (t.wait<=1000)) with
  | false=>simp(disch:=first|exact zqz|fail)only[wA,e2,e3,e4,pP,h1,h2,aie,air,Bool.false_or,Bool.true_or,av,au,ai,aj,simprocAttr]
  | true=>simp(disch:=first|exact zqz|fail)only[wA,e2,e3,e4,pP,h1,h2,aie,Bool.false_or,av,au,ai,aj,simprocAttr]
def qn (n:Int)(i:Int)(pre:List Int):List Int->Bool
 | []=>true
 | a::l=>(decide (0<=a)&&decide (a<=n-1))&&(!(i==a)&&(!(pre.any (fun b=>a==b))&&qn n i (pre++[a]) l))
theorem ab3 {dx:AV}{n:Nat}{l:List Int}{lx:AV}{g:Nat}{i:Int}(hn:n<=100000)(hl:l.length<=100000)(tE:bq dx=some (.int .i64 n)):∀ (r:List Int) (k:Nat) (H:Hp) (j4:K.Fn 0),k<=l.length->l.drop k=r->Rw H 1 lx (ints l)->cellAt H g 0=some dx->
  FJ JN GO cK j4 (.int .i64 i) lx (.ptr g 0) lx (.int .i64 (l.length:Nat)) (.int .i64 (k:Nat)) H=if qn n i (l.take k) r then j4 H else some (.bool false,H)
 | [],k,H,j4,hk,h,eS,hg=>by
  obtain rfl:=drop_nil hk h
  rw[aas]
  simp only[AY,fU,qn,if_true,ai,aj,simprocAttr]
 | a::r,k,H,j4,hk,h,eS,hg=>by
  obtain⟨h1,h2,h3⟩:=gG h
  obtain⟨q,q1,q2⟩:=eS.lK (BB h2) .i64
  have es:=gf h1 (by omega)
  have ih:=ab3 (i:=i) hn hl tE r (k+1) H j4 h1 h3 eS hg
  have ql:l.take (k+1)=l.take k++[a]:=by rw[agZ,h2];rfl
  rw[ql] at ih
  have e1:IntKind.wrap .i64 ((n:Int)-1)=(n:Int)-1:=wrap_i64 (by omega) (by omega)
  obtain⟨tC,s1,s2,s3⟩:=GP (n:=l.length) eS (by rw[lG,afZ]) (by decide) (a:=0) (b:=k) (lo:=none) (hi:=some (.int .i64 (k:Nat))) (acD _) hk (Bd.no 0) (Bd.yes _ _ _)
  have qd:((ints l).drop (0*1)).take ((k-0)*1)=ints (l.take k):=by simp[ints,List.map_take]
  rw[qd] at s2
  have nW:=apN s2 (by rw[aes];omega) a
  rw[aas]
  unfold qn
  cases c1:(decide (0<=a)&&decide (a<=(n:Int)-1)) with
  | false=>simp(disch:=first|exact zqz|fail)only[AY,bI h1,q1,q2,hg,tE,e1,pP,c1,aeL,aby,if_false,av,au,ai,aj,simprocAttr]
  | true=>
   cases c2:(a==i) with
   | true=>
    have zP:(i==a)=true:=by rw[beq_iff_eq] at c2 ⊢;exact c2.symm
    simp(disch:=first|exact zqz|fail)only[AY,bI h1,q1,q2,hg,tE,e1,pP,c1,c2,zP,aie,aeL,Bool.and_false,aby,if_false,av,au,ai,aj,simprocAttr]
   | false=>
    have zP:(i==a)=false:=by rw[<-agk,beq_iff_eq] at c2 ⊢;exact fun e=>c2 e.symm
    cases c3:((l.take k).any (fun b=>a==b)) with
    | true=>simp(disch:=first|exact zqz|fail)only[AY,bI h1,q1,q2,hg,tE,e1,pP,c1,c2,zP,s1,nW,c3,aie,air,aeL,Bool.and_false,aeD,aby,if_false,av,au,ai,aj,simprocAttr]
    | false=>simp(disch:=first|exact zqz|fail)only[AY,bI h1,q1,q2,hg,tE,e1,pP,c1,c2,zP,s1,nW,c3,es,ih,air,aeD,av,au,ai,aj,simprocAttr]
theorem akr {dx:AV}{n:Nat}{l:List Int}{lx:AV}{i:Int}{H:Hp}(hn:n<=100000)(hl:l.length<=100000)(tE:bq dx=some (.int .i64 n))(gy:aY dx=true)(eS:Rw H 1 lx (ints l)) :
  cK (.func (.func 124) [] []) [dv dx,.int .i64 i,lx] H=some (.bool (qn n i [] l),al H [dx] 72 0):=by
 refine acw ?_
 have kO:=eS.mQ
 rw[lG] at kO
 have h1:=fun j4=>ab3 (i:=i) (g:=H.next) hn hl tE l 0 (al H [dx] 72 0) j4 (acD _) acI (eS.out0 (aI _ _ _ _)) (vP rfl)
 rw[show (((0:Nat):Int))=0 from rfl,aht] at h1
 unfold PN
 simp(disch:=first|exact zqz|fail)only[kO,h1,av,au,ai,aj,simprocAttr]
 cases qn n i [] l<;>rfl
theorem anD {dx:AV}{n p:Nat}{t:Tk}{x:AV}{i:Int}{H:Hp}(hn:n<=100000)(hl:t.after.length<=100000)(tE:bq dx=some (.int .i64 n))(gy:aY dx=true)(hp:cellAt H p 0=some dx)(mz:p<H.next)(hx:Rw H 1 x (ints t.after)) :
  ∃ H',cK (.func (.func 123) [] [.ptr p 0]) [.int .i64 i,.agg (aL t x)] H=some (.bool (!qn n i [] t.after),H')/\Out [] H H':=by
 have o1:=aI H (aL t x) 99 0
 have ha:=akr (i:=i) hn hl tE gy (hx.out0 o1)
 refine⟨al (al H (aL t x) 99 0) [dx] 72 0,ajy ?_,o1.trans (aI _ _ _ _)⟩
 obtain⟨e0,e1,e2,e3,e4,e5⟩:=uC t x
 have hc:ar H p 0 1=some [dx]:=by unfold ar ar;rw[hp];rfl
 unfold X7
 simp(disch:=first|exact zqz|fail)only[wA,hc,e1,ha,av,au,ai,aj,simprocAttr]
theorem Z0 {S:List Nat}{p:Nat->Bool}{dx fv:AV}{xs:List AV}{ts:List Tk}(I:Nat->Hp->Prop)(hn:ts.length<=100000)(hS:∀ j∈kX dx xs,j∉S)
  (hI:∀ i H H',I i H->Out [] H H'->I i H')
  (hp:∀ i t x H,ts[i]? = some t->xs[i]? = some x->RD H dx xs ts->I i H->∃ H',cK fv [.int .i64 (i:Nat),.agg (aL t x)] H=some (.bool (p i),H')/\Out S H H'/\(p i=false->I (i+1) H')) :
  ∀ (r:List Tk) (i:Nat) (H:Hp),i<=ts.length->ts.drop i=r->RD H dx xs ts->I i H->
  ∃ H',(∀ k:K.Fn 0,EW JN GO cK k fv dx (.int .i64 (ts.length:Nat)) (.int .i64 (i:Nat)) H=if (List.range' i r.length).any p then some (.bool true,H') else k H')/\Out S H H'/\((List.range' i r.length).any p=false->I ts.length H')
 | [],i,H,hi,h,hR,M4=>by
  obtain rfl:=drop_nil hi h
  refine⟨H,fun k => ?_,Out.refl _ _,fun _=>M4⟩
  rw[MW]
  simp only[Jg,fU,acG,List.range'_zero,List.any_nil,aby,if_false,ai,aj,simprocAttr]
 | t::r,i,H,hi,h,hR,M4=>by
  obtain⟨h1,h2,h3⟩:=gG h
  obtain⟨x,b,o,q0,q1,q2,q3,q4,q5,_⟩:=hR.at h2
  have es:=gf h1 (by omega)
  have o1:=aI H (aL t x) 99 0
  obtain⟨H1,c1,c2,c3⟩:=hp i t x _ h2 q0 (hR.out0 o1) (hI _ _ _ M4 o1)
  have o2:Out S H H1:=(o1.mono fun j hj=>by cases hj).trans c2
  have aC:=yS t x q1 H
  have Ll:(List.range' i (t::r).length).any p=(p i||(List.range' (i+1) r.length).any p):=by rw[aaL,aiO,List.any_cons]
  rw[Ll]
  have Bm:=wX t x
  have YT:=S6 t x
  cases rK:p i with
  | true=>
   refine⟨H1,fun k => ?_,o2,fun q=>by simp at q⟩
   rw[rK] at c1
   rw[MW]
   simp(disch:=first|exact zqz|fail)only[Jg,bI h1,q3,q5,aC,Bm,YT,c1,Bool.true_or,if_true,av,au,ai,aj,simprocAttr]
  | false=>
   rw[rK] at c1
   obtain⟨H',i1,i2,i3⟩:=Z0 I hn hS hI hp r (i+1) H1 h1 h3 (hR.out o2 hS) (c3 rK)
   refine⟨H',fun k => ?_,o2.trans i2,fun q=>i3 (by simpa using q)⟩
   rw[MW]
   simp(disch:=first|exact zqz|fail)only[Jg,bI h1,q3,q5,aC,Bm,YT,c1,es,i1,Bool.false_or,av,au,ai,aj,simprocAttr]
theorem IC {S:List Nat}{p:Nat->Bool}{dx fv:AV}{xs:List AV}{ts:List Tk}{H:Hp}(I:Nat->Hp->Prop)(hn:ts.length<=100000)(hS:∀ j∈kX dx xs,j∉S)
  (hI:∀ i H H',I i H->Out [] H H'->I i H')
  (hp:∀ i t x H,ts[i]? = some t->xs[i]? = some x->RD H dx xs ts->I i H->∃ H',cK fv [.int .i64 (i:Nat),.agg (aL t x)] H=some (.bool (p i),H')/\Out S H H'/\(p i=false->I (i+1) H')) (hR:RD H dx xs ts) (h0:I 0 H) :
  ∃ H',cK (.func (.func 125) [] []) [dv dx,fv] H=some (.bool ((List.range ts.length).any p),H')/\Out S H H':=by
 have o1:=aI H [dx] 72 0
 obtain⟨H',i1,i2,_⟩:=Z0 I hn hS hI hp ts 0 _ (acD _) acI (hR.out0 o1) (hI _ _ _ h0 o1)
 rw[show (((0:Nat):Int))=0 from rfl,<-List.range_eq_range'] at i1
 refine⟨H',ajS ?_,(o1.mono fun j hj=>by cases hj).trans i2⟩
 have fO:=hR.bq
 have gy:=hR.row.one
 unfold TB
 simp(disch:=first|exact zqz|fail)only[fO,i1,av,au,ai,aj,simprocAttr]
 cases (List.range ts.length).any p<;>rfl
def names (ts:List Tk):List aq:=ts.map (·.name)
def dup (ts:List Tk)(i:Nat):Bool:=match ts[i]? with | some t=>(names (ts.take i)).any (fun s=>s==t.name) | none=>false
def yW (l:List (aq × Nat)):List ME:=l.map fun x=>⟨.str x.1,.bool true,x.2⟩
theorem C6 {l:List (aq × Nat)}{s:aq}(h:∀ x∈l,x.1≠s):∀ e∈yW l,∃ q,e.key = .str q/\q≠s:=by
 intro e he
 obtain⟨x,hx,rfl⟩:=acS.1 he
 exact⟨_,rfl,h x hx⟩
def IX (m q:Nat)(ts:List Tk)(i:Nat)(H:Hp):Prop:=∃ el l c,Cs H q [.map m] el 0/\Mp H m (yW l) c/\l.map (·.1)=names (ts.take i)/\q≠m/\(l.map (·.1)).Nodup
theorem aih {m q:Nat}{ts:List Tk}{i:Nat}{t:Tk}{x:AV}{H:Hp}(hI:IX m q ts i H)(ht:ts[i]? = some t) :
  ∃ H',cK (.func (.func 121) [] [.ptr q 0]) [.int .i64 (i:Nat),.agg (aL t x)] H=some (.bool (dup ts i),H')/\Out [m] H H'/\(dup ts i=false->IX m q ts (i+1) H'):=by
 obtain⟨el,l,c,hq,hm,hl,aO,gO⟩:=hI
 obtain⟨e0,e1,e2,e3,e4,e5⟩:=uC t x
 have o1:=aI H (aL t x) 99 0
 have vb:=hq.out o1 (by simp)
 have yU:=hm.out o1 (by simp)
 have hql:=hq.1
 have TC:cellAt H q 0=some (.map m):=hq.cellAt rfl
 have abq:dup ts i=l.any (fun y=>y.1==t.name):=by
  unfold dup
  rw[ht]
  simp only
  rw[<-hl,List.any_map];rfl
 rw[abq]
 have ql:names (ts.take (i+1))=names (ts.take i)++[t.name]:=by rw[agZ,ht];simp[names]
 cases hb:l.any (fun y=>y.1==t.name) with
 | false=>
  have hno:∀ y∈l,y.1≠t.name:=by
   intro y hy e
   rw[ahM] at hb
   exact hb y hy (by simpa using e)
  have EY:=ZX yU (C6 hno) (.bool false) false
  obtain⟨H',u1,u2,u3⟩:=YR yU (C6 hno) (.bool true)
  refine⟨H',T6 ?_,(o1.mono fun j hj=>by cases hj).trans u3,fun _=>⟨el,l++[(t.name,c)],c+1,vb.out u3 (by rw[No];exact aO),by simpa[yW] using u2,by rw[adI,hl,ql];rfl,aO,by
   rw[adI,aeY]
   refine⟨gO,by simp,fun p hp r hr e => ?_⟩
   obtain⟨y,hy,rfl⟩:=acS.1 hp
   simp at hr
   exact hno y hy (e.trans hr)⟩⟩
  simp only[cond_false] at EY
  unfold OA
  simp(disch:=first|exact zqz|fail)only[wA,TC,e0,EY,u1,av,au,ai,aj,simprocAttr]
 | true=>
  rw[List.any_eq_true] at hb
  obtain⟨y,hy,Ob⟩:=hb
  have Ob:y.1=t.name:=by simpa using Ob
  have ade:∃ a z b,l=a++z::b/\z.1=t.name/\∀ w∈a,w.1≠t.name:=by
   clear hm yU hl abq gO
   induction l with
   | nil=>cases hy
   | cons w l ih=>
    by_cases hw:w.1=t.name
    ·exact⟨[],w,l,rfl,hw,fun _ h=>by cases h⟩
    ·rcases aaD.1 hy with rfl | hy
     ·exact absurd Ob hw
     ·obtain⟨a,z,b,rfl,h2,h3⟩:=ih hy
      refine⟨w::a,z,b,rfl,h2,fun v hv => ?_⟩
      rcases aaD.1 hv with rfl | hv
      ·exact hw
      ·exact h3 v hv
  obtain⟨a,z,b,rfl,hz,ha⟩:=ade
  have mh:yW (a++z::b)=yW a++⟨.str z.1,.bool true,z.2⟩::yW b:=by simp[yW]
  rw[mh] at yU
  have lA:∀ w∈b,w.1≠t.name:=by
   intro w hw e
   rw[adI,acW,aeY,ahG] at gO
   exact gO.2.1.1 (acS.2 ⟨w,hw,e.trans hz.symm⟩)
  have EY:=Yx (k:=t.name) yU (by rw[hz]) (C6 ha) (C6 lA) (.bool false) false
  obtain⟨H',u1,u2,u3⟩:=agU (k:=t.name) yU (by rw[hz]) (C6 ha) (C6 lA) (.bool true)
  refine⟨H',T6 ?_,(o1.mono fun j hj=>by cases hj).trans u3,fun q=>by cases q⟩
  simp only[cond_false] at EY
  unfold OA
  simp(disch:=first|exact zqz|fail)only[wA,TC,e0,EY,u1,av,au,ai,aj,simprocAttr]
theorem gAE (a b c d:AV):gA P .eql 231 false (.agg [a,b]) (.agg [c,d])=true:=by kernel_rfl
theorem ajC (e f:Ed)(H:Hp):eG P .eql 231 (.agg (bR e)) (.agg (bR f)) H=some (.bool (decide (e=f))):=by
 have h:=XR e.1 e.2 f.1 f.2 48 H
 have h2:((((e.1:Nat):Int)==((f.1:Nat):Int))&&(((e.2:Nat):Int)==((f.2:Nat):Int)))=decide (e=f):=by
  by_cases q:e=f
  ·subst q;simp
  ·rw[decide_eq_false q,<-agk,aau,beq_iff_eq,beq_iff_eq]
   intro z
   exact q (Prod.ext (by have:=z.1;omega) (by have:=z.2;omega))
 rw[h2] at h
 unfold eG
 show (dH P 50 _ (.agg (bR e)) (.agg (bR f)) H).map AV.bool=_
 have:dH P 50 231 (.agg (bR e)) (.agg (bR f)) H=some (decide (e=f)):=h
 rw[this];rfl
theorem VW {x:AV}{E:List Ed}{e:Ed}{b:Nat}{H:Hp}(hx:RL H 2 x (jy E))(hl:E.length<=16777216)(hb:ar H b 0 2=some (bR e))(hno:e∉E)(k:K.Fn 0):∀ (r:List Ed) (i:Nat),i<=E.length->E.drop i=r->
  F7 JN GO cK k x (.ptr b 0) (.int .i64 (E.length:Nat)) (.int .i64 (i:Nat)) H=k H
 | [],i,hi,h=>by
  obtain rfl:=drop_nil hi h
  rw[Xl]
  simp only[Ry,fU,ai,aj,simprocAttr]
 | f::r,i,hi,h=>by
  obtain⟨h1,h2,h3⟩:=gG h
  obtain⟨c,o,q1,q2,q3,q4,_⟩:=hx.at (by decide) (Oc h2)
  have es:=gf h1 hl
  have ih:=VW hx hl hb hno k r (i+1) h1 h3
  have hd:decide (e=f)=false:=decide_eq_false fun q=>hno (q▸aao h2)
  have hg:gA P .eql 231 false (.agg (bR e)) (.agg (bR f))=true:=gAE _ _ _ _
  have Zi:=ajC e f H
  rw[hd] at Zi
  have y9:ar H c o 2=some (bR f):=q4
  rw[Xl]
  simp(disch:=first|exact zqz|fail)only[Ry,bI h1,hb,q1,y9,hg,Zi,mH,es,ih,av,au,ai,aj,simprocAttr]
theorem amF {x:AV}{E:List Ed}{e:Ed}{H:Hp}(hx:RL H 2 x (jy E))(hl:E.length<=16777216)(hno:e∉E) :
  ∃ H',cK (.func (.func 158) [] []) [x,.agg (bR e)] H=some (.bool false,H')/\Out [] H H':=by
 have o1:=aI H (bR e) 231 0
 have o2:=o1.al (bR e) 231 0
 have aW:∀ H:Hp,bx 231 (.agg (bR e)) H=some (H.next,al H (bR e) 231 0):=fun H=>ji (by show 2<=_;omega)
 have hlen:(bR e).length=2:=rfl
 have ql:(bR e).take 2=bR e:=rfl
 have mN:cK (.func (.func 177) [] []) [x,.agg (bR e)] (al H (bR e) 231 0)=some (.int .i64 (-1),al (al H (bR e) 231 0) (bR e) 231 0):=by
  refine alH ?_
  have eg:=(hx.out0 o2).len (by decide)
  rw[JA] at eg
  have h1:=VW (b:=H.next+1) (hx.out0 o2) hl (Fg (by rw[bK]) (by rw[hlen];omega)) hno (fun h=>some (.int .i64 (-1),h)) E 0 (acD _) acI
  rw[show (((0:Nat):Int))=0 from rfl] at h1
  unfold ZK
  simp(disch:=first|exact zqz|fail)only[aW,eg,h1,av,au,ai,aj,simprocAttr]
 refine⟨_,aeM ?_,o2⟩
 unfold Vh
 have d:decide ((0:Int) <= -1)=false:=by decide
 simp(disch:=first|exact zqz|fail)only[aW,hlen,ql,mN,d,av,au,ai,aj,simprocAttr]
def qz (i:Nat)(l:List Int):List Ed:=l.map fun a=>(a.toNat,i)
def jc (i:Nat):List Tk->List Ed
 | []=>[]
 | t::r=>qz i t.after++jc (i+1) r
theorem ak1 (ts us:List Tk):∀ i,jc i (ts++us)=jc i ts++jc (i+ts.length) us:=by
 induction ts with
 | nil=>intro i;rfl
 | cons t ts ih=>intro i;simp only[List.cons_append,jc,ih,aeR,aaL];rw[show i+1+ts.length=i+(ts.length+1) by omega]
theorem P6 {ts:List Tk}{i:Nat}{t:Tk}(ht:ts[i]? = some t):jc 0 (ts.take (i+1))=jc 0 (ts.take i)++qz i t.after:=by
 have hi:=(aah.1 ht).1
 rw[agZ,ht]
 show jc 0 (ts.take i++[t])=_
 rw[ak1,aes,Nat.min_eq_left (by omega),adG]
 simp[jc]
theorem U7 {ts:List Tk}:∀ {i:Nat} {e:Ed},e∈jc i ts->i<=e.2/\e.2<i+ts.length:=by
 induction ts with
 | nil=>intro i e h;cases h
 | cons t ts ih=>
  intro i e h
  simp only[jc,abL] at h
  rcases h with h | h
  ·obtain⟨a,_,rfl⟩:=acS.1 h
   simp
  ·have:=ih h
   simp only[aaL];omega
def uY (ts:List Tk):Prop:=∀ (i:Nat) (t:Tk),ts[i]? = some t->qn ts.length i [] t.after=true
theorem Zj {n i:Int}{pre:List Int}{a:Int}{l:List Int}(h:qn n i pre (a::l)=true):0<=a/\a<=n-1/\a≠i/\a∉pre/\qn n i (pre++[a]) l=true:=by
 unfold qn at h
 simp only[aau,decide_eq_true_eq,aix,ahM,beq_iff_eq,beq_eq_false_iff_ne] at h
 obtain⟨⟨h1,h2⟩,h3,h4,h5⟩:=h
 exact⟨h1,h2,fun e=>h3 e.symm,fun q=>h4 a q rfl,h5⟩
theorem Ut {dx:AV}{n i:Nat}{E0:List Ed}{D R g:Nat}{l:List Int}{lx:AV}(hn:n<=16)(gN:i<n)(tE:bq dx=some (.int .i64 n))(Un:∀ e∈E0,e.2<i)(afF:E0.length<=10000)(kO:l.length<=16)(BE:D≠g) :
  ∀ (r:List Int) (k:Nat) (H:Hp) (ex:AV) (c5 c6 c7:AV),k<=l.length->l.drop k=r->qn n i (l.take k) r=true->(∀ b∈l.take k,(0:Int)<=b)->Rw H 1 lx (ints l)->cellAt H D 0=some dx->D<H.next->Cs H g [.int .i64 n,ex] 201 0->OL H 231 2 ex (jy (E0++qz i (l.take k)))->(∀ j∈ak ex,j∉ak lx/\j≠D/\j≠g)->g∉ak lx->
  ∃ uX H' S,(∀ (aF:K.Fn 2) (cn kV:K.Fn 6),GB JN GO cK aF cn kV (.ptr D 0) (.ptr R 0) (.ptr g 0) (.int .i64 i) c5 c6 c7 lx (.int .i64 (l.length:Nat)) (.int .i64 (k:Nat)) H=kV (.ptr D 0) (.ptr R 0) (.ptr g 0) c5 c6 c7 H')/\Cs H' g [.int .i64 n,uX] 201 0/\OL H' 231 2 uX (jy (E0++qz i l))/\Out S H H'/\(∀ j∈S,j=g\/j∈ak ex\/H.next<=j)/\∀ j∈ak uX,j∈ak ex\/H.next<=j
 | [],k,H,ex,c5,c6,c7,hk,h,ha,lZ,eS,hD,vX,hg,hO,hd,xc=>by
  obtain rfl:=drop_nil hk h
  refine⟨ex,H,[],fun aF cn kV => ?_,hg,by rw[ae3 (aaC _)] at hO;exact hO,Out.refl _ _,(fun j hj=>by cases hj),fun j hj => .inl hj⟩
  rw[Y4]
  simp only[J6,fU,ai,aj,simprocAttr]
 | a::r,k,H,ex,c5,c6,c7,hk,h,ha,lZ,eS,hD,vX,hg,hO,hd,xc=>by
  obtain⟨h1,h2,h3⟩:=gG h
  obtain⟨q,q1,q2⟩:=eS.lK (BB h2) .i64
  have es:=gf h1 (by omega)
  obtain⟨a0,a1,a2,a3,a4⟩:=Zj ha
  obtain⟨m,rfl⟩:∃ m:Nat,a=m:=⟨a.toNat,by omega⟩
  have ql:l.take (k+1)=l.take k++[(m:Int)]:=by rw[agZ,h2];rfl
  have hEk:(qz i (l.take k)).length<=16:=by simp[qz];omega
  have hno:((m,i):Ed)∉E0++qz i (l.take k):=by
   intro q
   rcases abL.1 q with q | q
   ·have:=Un _ q;simp at this
   ·obtain⟨b,hb,he⟩:=acS.1 q
    have mZ:=lZ b hb
    have:b.toNat=m:=congrArg Prod.fst he
    exact a3 (by rw[show ((m:Nat):Int)=b by omega];exact hb)
  have o1:=aI H (bR (m,i)) 231 0
  obtain⟨H1,c1,c2⟩:=amF (hO.rl.out0 o1) (by rw[aaX];omega) hno
  have o2:Out [] H H1:=o1.trans c2
  have gL:=c2.nx
  rw[bK] at gL
  have uP:=hg.out o2 (by simp)
  have B6:cellAt H g 1=some ex:=hg.cellAt rfl
  have ad2:cellAt H1 g 1=some ex:=uP.cellAt rfl
  have aqr:=hg.1
  have PT:ar H1 H.next 0 2=some (bR (m,i)):=by
   rw[c2.ar (by rw[bK];omega) (by simp)]
   exact Fg rfl (by show 0+2<=2;omega)
  obtain⟨Bn,H2,p1,p2,p3,p4,p5⟩:=(hO.out o2 (by simp)).push (fH:=231) (z:=[(.int .i64 0),(.int .i64 0)]) (vs:=bR (m,i)) rfl rfl (by decide) (by rw[JA,aaX];omega)
  have pX:jy (E0++qz i (l.take k))++[bR (m,i)]=jy (E0++qz i (l.take (k+1))):=by rw[ql];simp[jy,qz]
  rw[pX] at p2
  have ju:=uP.out p3 fun q=>(hd g q).2.2 rfl
  obtain⟨H3,w1,w2,w3,w4⟩:=fG ju (by decide) (o:=1) (by simp) (v:=Bn) p5
  have xu:=p3.nx
  have Sg:=eS.lt
  have iB:∀ j∈ak Bn,j∉ak lx/\j≠D/\j≠g:=fun j hj=>(p4 j hj).elim (hd j) fun z=>⟨fun y=>by have:=Sg j y;omega,by omega,by omega⟩
  have o3:Out (g::ak ex) H H3:=((o2.mono fun j hj=>by cases hj).trans (p3.mono fun j hj => .tail _ hj)).trans (w3.mono fun j hj=>by rw[No] at hj;subst hj;exact .head _)
  have zW:cellAt H3 D 0=some dx:=by rw[o3.cellAt vX (by rw[aaD,not_or];exact⟨BE,fun q=>(hd D q).2.1 rfl⟩)];exact hD
  have hn4:=o3.nx
  obtain⟨uX,H',S,i1,i2,i3,i4,i5,i6⟩:=Ut (R:=R) hn gN tE Un afF kO BE r (k+1) H3 Bn c5 c6 c7 h1 h3 (by rw[ql];exact a4) (by rw[ql];intro b hb;rcases abL.1 hb with hb | hb;exact lZ b hb;rw[No] at hb;omega)
   (eS.out o3 fun j hj=>by rw[aaD,not_or];exact⟨fun e=>xc (e▸hj),fun q=>(hd j q).1 hj⟩) zW (by omega) w2 (p2.out w3 fun j hj=>by rw[No];exact (iB j hj).2.2) iB xc
  have key:∀ j∈ak Bn,j∈ak ex\/H.next<=j:=fun j hj=>(p4 j hj).imp id fun z=>by omega
  refine⟨uX,H',(g::ak ex)++S,fun aF cn kV => ?_,i2,i3,(o3.mono fun j hj=>abG _ hj).trans (i4.mono fun j hj=>abr _ hj),fun j hj => ?_,fun j hj=>(i6 j hj).elim (key j) fun z => .inr (by omega)⟩
  ·have e1:IntKind.wrap .i64 ((n:Int)-1)=(n:Int)-1:=wrap_i64 (by omega) (by omega)
   have d1:(decide ((0:Int)<=(m:Int))&&decide ((m:Int)<=(n:Int)-1))=true:=by rw[aau];exact⟨decide_eq_true a0,decide_eq_true a1⟩
   have d2:(((m:Nat):Int) != ((i:Nat):Int))=true:=by simp;omega
   have lu:fl [(.int .i64 0),(.int .i64 0)] [(0,1,.int .i64 (m:Int)),(1,1,.int .i64 (i:Int))]=some (bR (m,i)):=rfl
   have CN:fl [(.int .i64 0),(.int .i64 0)] [(0,2,.agg (bR (m,i)))]=some (bR (m,i)):=rfl
   have vH:st 2 (.ptr H.next 0) (.agg (bR (m,i))) (al H [.int .i64 0,.int .i64 0] 231 0)=some (al H (bR (m,i)) 231 0):=iI rfl rfl rfl (by decide) rfl
   have oJ:(bR (m,i)).length=2:=rfl
   have akc:(bR (m,i)).take 2=bR (m,i):=rfl
   have dL:aE H1 (bR (m,i)) 231 0=some (H1.next,al H1 (bR (m,i)) 231 0):=gk (by rw[oJ];omega)
   have iQ:=p1 _ rfl
   rw[Y4]
   simp(disch:=first|exact zqz|fail)only[J6,bI h1,q1,q2,lu,CN,vH,oJ,akc,hD,tE,e1,pP,d1,d2,B6,ad2,c1,PT,dL,iQ,w1,es,i1,av,au,ai,aj,simprocAttr]
  ·rcases abL.1 hj with hj | hj
   ·rcases aaD.1 hj with rfl | hj
    ·exact .inl rfl
    ·exact .inr (.inl hj)
   ·rcases i5 j hj with z | z | z
    ·exact .inl z
    ·exact .inr (key j z)
    ·exact .inr (.inr (by omega))
theorem Xu {dx:AV}{xs:List AV}{ts:List Tk}{D R g:Nat}(hn:ts.length<=16)(dm:∀ t∈ts,t.after.length<=16)(ha:uY ts)(BE:D≠g)(Qm:g∉kX dx xs) :
  ∀ (r:List Tk) (i:Nat) (H:Hp) (ex:AV),i<=ts.length->ts.drop i=r->RD H dx xs ts->cellAt H D 0=some dx->D<H.next->Cs H g [.int .i64 (ts.length:Nat),ex] 201 0->OL H 231 2 ex (jy (jc 0 (ts.take i)))->(jc 0 (ts.take i)).length<=i*16->(∀ j∈ak ex,j∉kX dx xs/\j≠D/\j≠g)->
  ∃ uX H' S,(∀ aF:K.Fn 2,EV JN GO cK aF (.ptr D 0) (.ptr R 0) (.ptr g 0) dx (.int .i64 (ts.length:Nat)) (.int .i64 (i:Nat)) H=aF (.ptr R 0) (.ptr g 0) H')/\Cs H' g [.int .i64 (ts.length:Nat),uX] 201 0/\OL H' 231 2 uX (jy (jc 0 ts))/\Out S H H'/\(∀ j∈S,j=g\/j∈ak ex\/H.next<=j)/\∀ j∈ak uX,j∈ak ex\/H.next<=j
 | [],i,H,ex,hi,h,hR,hD,vX,hg,hO,hlen,hd=>by
  obtain rfl:=drop_nil hi h
  refine⟨ex,H,[],fun aF => ?_,hg,by rw[ae3 (aaC _)] at hO;exact hO,Out.refl _ _,(fun j hj=>by cases hj),fun j hj => .inl hj⟩
  rw[Tg]
  simp only[NN,fU,ai,aj,simprocAttr]
 | t::r,i,H,ex,hi,h,hR,hD,vX,hg,hO,hlen,hd=>by
  obtain⟨h1,h2,h3⟩:=gG h
  obtain⟨x,b,o,q0,q1,q2,q3,q4,q5,_⟩:=hR.at h2
  have es:=gf h1 (by omega)
  have hht:=dm t (aao h2)
  have o1:=aI H (aL t x) 99 0
  have hxf:∀ j∈ak x,j∈kX dx xs:=fun j hj=>abr _ (agY.2 ⟨x,aao q0,hj⟩)
  have xc:=hg.1
  have GA:=hO.1.rw.lt
  obtain⟨Bn,H1,S1,i1,i2,i3,i4,i5,i6⟩:=Ut (E0:=jc 0 (ts.take i)) (R:=R) (D:=D) (g:=g) hn h1 hR.bq (fun e he=>by have:=U7 he;rw[aes] at this;omega) (by omega) hht BE t.after 0 _ ex dx (.int .i64 (ts.length:Nat)) (.int .i64 (i:Nat)) (acD _) acI (by rw[aht];exact ha i t h2) (by intro b hb;rw[aht] at hb;cases hb) (q2.out0 o1) (by rw[tQ vX];exact hD) (by rw[bK];omega) (hg.out o1 (by simp)) (by rw[aht];simpa[qz] using hO.out o1 (by simp)) (fun j hj=>⟨fun z=>(hd j hj).1 (hxf j z),(hd j hj).2⟩) (fun z=>Qm (hxf g z))
  rw[<-P6 h2] at i3
  have ZW:(jc 0 (ts.take (i+1))).length<=(i+1)*16:=by rw[P6 h2,aaX];simp[qz];omega
  have lu:=hR.lt
  have MV:∀ j∈S1,j=g\/j∈ak ex\/H.next<=j:=fun j hj=>by
   rcases i5 j hj with z | z | z
   ·exact .inl z
   ·exact .inr (.inl z)
   ·rw[bK] at z;exact .inr (.inr (by omega))
  have key:∀ j∈ak Bn,j∈ak ex\/H.next<=j:=fun j hj=>(i6 j hj).imp id fun z=>by rw[bK] at z;omega
  have o2:Out S1 H H1:=(o1.mono fun j hj=>by cases hj).trans i4
  have gL:=o2.nx
  have hfS:∀ j∈kX dx xs,j∉S1:=fun j hj z=>by
   rcases MV j z with rfl | y | y
   ·exact Qm hj
   ·exact (hd j y).1 hj
   ·have:=lu j hj;omega
  have hDS:D∉S1:=fun z=>by
   rcases MV D z with y | y | y
   ·exact BE y
   ·exact (hd D y).2.1 rfl
   ·omega
  obtain⟨uX,H',S,k1,k2,k3,k4,k5,k6⟩:=Xu (R:=R) hn dm ha BE Qm r (i+1) H1 Bn h1 h3 (hR.out o2 hfS) (by rw[o2.cellAt vX hDS];exact hD) (by omega) i2 i3 ZW (fun j hj=>(key j hj).elim (hd j) fun z=>⟨fun y=>by have:=lu j y;omega,by omega,by omega⟩)
  refine⟨uX,H',S1++S,fun aF => ?_,k2,k3,(o2.mono fun j hj=>abG _ hj).trans (k4.mono fun j hj=>abr _ hj),fun j hj => ?_,fun j hj=>(k6 j hj).elim (key j) fun z => .inr (by omega)⟩
  ·have aC:=yS t x q1 H
   obtain⟨e0,e1,e2,e3,e4,e5⟩:=uC t x
   have hl:=q2.mQ
   rw[lG] at hl
   rw[show (((0:Nat):Int))=0 from rfl] at i1
   rw[Tg]
   simp(disch:=first|exact zqz|fail)only[NN,bI h1,q3,q5,aC,e1,hl,i1,es,k1,av,au,ai,aj,simprocAttr]
  ·rcases abL.1 hj with hj | hj
   ·exact MV j hj
   ·rcases k5 j hj with z | z | z
    ·exact .inl z
    ·exact .inr (key j z)
    ·exact .inr (.inr (by omega))
theorem ajh {dx:AV}{xs:List AV}{ts:List Tk}{H:Hp}(hn:ts.length<=16)(dm:∀ t∈ts,t.after.length<=16)(ha:uY ts)(hR:RD H dx xs ts) :
  ∃ ex H',cK (.func (.func 127) [] []) [dv dx] H=some (gv ts.length ex,H')/\RL H' 2 ex (jy (jc 0 ts))/\Out [] H H'/\∀ j∈ak ex,H.next<=j:=by
 have gy:=hR.row.one
 have fO:=hR.bq
 have lu:=hR.lt
 have o1:=aI H [dx] 72 0
 have o2:=o1.al [.int .i64 0,.ah] 201 0
 have o3:=o2.al [.int .i64 (ts.length:Nat),.ah] 201 0
 have c3:=bg (al (al H [dx] 72 0) [.int .i64 0,.ah] 201 0) [.int .i64 (ts.length:Nat),.ah] 201 0
 have c2:=(bg (al H [dx] 72 0) [.int .i64 0,.ah] 201 0).out (aI (al (al H [dx] 72 0) [.int .i64 0,.ah] 201 0) [.int .i64 (ts.length:Nat),.ah] 201 0) (by simp)
 have hD:cellAt (al (al (al H [dx] 72 0) [.int .i64 0,.ah] 201 0) [.int .i64 (ts.length:Nat),.ah] 201 0) H.next 0=some dx:=by
  rw[tQ (by rw[bK,bK];omega),tQ (by rw[bK];omega),vP rfl];rfl
 obtain⟨ex,H1,S,i1,i2,i3,i4,i5,i6⟩:=Xu (D:=H.next) (R:=H.next+1) (g:=H.next+2) hn dm ha (by omega) (fun z=>by have:=lu _ z;omega) ts 0 _ .ah (acD _) acI (hR.out0 o3) hD (by rw[bK,bK,bK];omega) c3 (by rw[aht];exact OL.nil _ _ _) (by rw[aht];simp[jc]) (fun j hj=>by cases hj)
 have ki:(al (al (al H [dx] 72 0) [.int .i64 0,.ah] 201 0) [.int .i64 (ts.length:Nat),.ah] 201 0).next=H.next+3:=rfl
 have hS:∀ j∈S,j=H.next+2\/H.next+3<=j:=fun j hj=>by
  rcases i5 j hj with z | z | z
  ·exact .inl z
  ·cases z
  ·exact .inr (by omega)
 have jF:=i4.nx
 have xS:Cs H1 (H.next+1) [.int .i64 0,.ah] 201 0:=c2.out i4 fun z=>by have:=hS _ z;rw[bK] at this;omega
 have akF:=i3.1.jG
 obtain⟨H2,w1,w2,w3,w4⟩:∃ H2,st 2 (.ptr (H.next+1) 0) (.agg [.int .i64 (ts.length:Nat),ex]) H1=some H2/\Cs H2 (H.next+1) [.int .i64 (ts.length:Nat),ex] 201 0/\Out [H.next+1] H1 H2/\H2.next=H1.next:=by
  obtain⟨Ha,a1,a2,a3,a4⟩:=Mv xS (by decide) (o:=0) (by decide) (v := .int .i64 (ts.length:Nat)) rfl
  obtain⟨Hb,b1,b2,b3,b4⟩:=Mv a2 (by decide) (o:=1) (by simp) (v:=ex) akF
  refine⟨Hb,?_,b2,a3.trans b3,by rw[b4,a4]⟩
  unfold st
  simp only[Ar]
  show setCells H1 (H.next+1) 0 [.int .i64 (ts.length:Nat),ex]=_
  simp only[setCells,a1,b1,acC,acK]
 have VZ:∀ j∈ak ex,H.next+3<=j:=fun j hj=>(i6 j hj).elim (fun z=>by cases z) fun z=>by omega
 refine⟨ex,H2,agj ?_,(i3.rl).out w3 fun j hj=>by rw[No];have:=VZ j hj;omega,(o3.then i4 fun j hj => .inr (by have:=hS j hj;omega)).then w3 fun j hj=>by rw[No] at hj;exact .inr (by omega),fun j hj=>by have:=VZ j hj;omega⟩
 have CN:fl [.int .i64 0,.ah] [(0,1,.int .i64 (ts.length:Nat))]=some [.int .i64 (ts.length:Nat),.ah]:=rfl
 have ju:ar H1 (H.next+2) 0 2=some [.int .i64 (ts.length:Nat),ex]:=i2.ar 2 0 (by simp)
 have oy:ar H2 (H.next+1) 0 2=some [.int .i64 (ts.length:Nat),ex]:=w2.ar 2 0 (by simp)
 have vH:st 2 (.ptr (H.next+2) 0) (.agg [.int .i64 (ts.length:Nat),.ah]) (al (al (al H [dx] 72 0) [.int .i64 0,.ah] 201 0) [.int .i64 0,.ah] 201 0)=some (al (al (al H [dx] 72 0) [.int .i64 0,.ah] 201 0) [.int .i64 (ts.length:Nat),.ah] 201 0):=iI rfl rfl rfl (by decide) rfl
 rw[show (((0:Nat):Int))=0 from rfl] at i1
 unfold UP
 simp(disch:=first|exact zqz|fail)only[fO,CN,vH,i1,ju,w1,oy,av,au,ai,aj,simprocAttr]
theorem yF {ts:List Tk}{i:Nat}{t:Tk}(ha:uY ts)(ht:ts[i]? = some t):(∀ a∈t.after,0<=a/\a<=(ts.length:Int)-1/\a≠(i:Int))/\t.after.Nodup:=by
 have key:∀ (l pre:List Int),qn ts.length i pre l=true->(∀ a∈l,0<=a/\a<=(ts.length:Int)-1/\a≠(i:Int)/\a∉pre)/\l.Nodup:=by
  intro l
  induction l with
  | nil=>intro pre _;exact⟨(fun a ha=>by cases ha),aiB⟩
  | cons a l ih=>
   intro pre h
   obtain⟨a0,a1,a2,a3,a4⟩:=Zj h
   obtain⟨i1,i2⟩:=ih _ a4
   refine⟨fun b hb => ?_,ahG.2 ⟨fun q=>(i1 a q).2.2.2 (by simp),i2⟩⟩
   rcases aaD.1 hb with rfl | hb
   ·exact⟨a0,a1,a2,a3⟩
   ·obtain⟨x1,x2,x3,x4⟩:=i1 b hb
    exact⟨x1,x2,x3,fun q=>x4 (abG _ q)⟩
 obtain⟨k1,k2⟩:=key _ _ (ha i t ht)
 exact⟨fun a h=>⟨(k1 a h).1,(k1 a h).2.1,(k1 a h).2.2.1⟩,k2⟩
theorem NO:∀ (n:Nat) (l:List Nat),l.Nodup->(∀ a∈l,a<n)->l.length<=n
 | 0,l,_,h=>by
  cases l with
  | nil=>exact aaC _
  | cons a l=>have:=h a (.head _);omega
 | n+1,l,hn,h=>by
  by_cases hm:n∈l
  ·have h1:=NO n (l.erase n) (hn.erase n) fun a ha=>by
    rw[hn.mem_erase_iff] at ha
    have:=h a ha.2
    omega
   rw[List.length_erase_of_mem hm] at h1
   omega
  ·have h1:=NO n l hn fun a ha=>by
    have:=h a ha
    have:a≠n:=fun e=>hm (e▸ha)
    omega
   omega
theorem Jd {n:Nat}{l:List Int}(h:∀ a∈l,0<=a/\a<=(n:Int)-1)(hn:l.Nodup):l.length<=n:=by
 have h1:(l.map Int.toNat).Nodup:=by
  rw[List.nodup_iff_pairwise_ne,List.pairwise_map]
  refine (List.nodup_iff_pairwise_ne.1 hn).imp_of_mem ?_
  intro a b ha hb vj e
  have:=h a ha;have:=h b hb;omega
 have:=NO n _ h1 fun m hm=>by
  obtain⟨a,ha,rfl⟩:=acS.1 hm
  have:=h a ha;omega
 simpa using this
theorem afq {ts:List Tk}(hn:ts.length<=16)(ha:uY ts):oY ts.length (jc 0 ts):=by
 have key:∀ (k:Nat),k<=ts.length->(∀ e∈jc 0 (ts.take k),e.1<ts.length/\e.2<ts.length/\e.1≠e.2)/\(jc 0 (ts.take k)).Nodup/\(jc 0 (ts.take k)).length<=k*16:=by
  intro k
  induction k with
  | zero=>intro _;rw[aht];exact⟨(fun e he=>by cases he),aiB,acD _⟩
  | succ k ih=>
   intro hk
   obtain⟨i1,i2,i3⟩:=ih (by omega)
   have ht:ts[k]? = some (ts[k]'(by omega)):=aai _
   obtain⟨a1,a2⟩:=yF ha ht
   have hle:=Jd (n:=ts.length) (fun a h=>⟨(a1 a h).1,(a1 a h).2.1⟩) a2
   rw[P6 ht]
   refine⟨fun e he => ?_,aeY.2 ⟨i2,?_,fun e he f hf hef => ?_⟩,?_⟩
   ·rcases abL.1 he with he | he
    ·exact i1 e he
    ·obtain⟨a,h,rfl⟩:=acS.1 he
     have:=a1 a h
     exact⟨by simp;omega,by simp;omega,by simp;omega⟩
   ·unfold qz
    rw[List.nodup_iff_pairwise_ne,List.pairwise_map]
    refine (List.nodup_iff_pairwise_ne.1 a2).imp_of_mem ?_
    intro a b h1 h2 vj e
    have e1:=congrArg Prod.fst e
    have:=a1 a h1;have:=a1 b h2
    simp only at e1
    omega
   ·obtain⟨a,h,rfl⟩:=acS.1 hf
    have:=U7 he
    rw[aes] at this
    rw[hef] at this
    simp at this;omega
   ·rw[aaX];simp[qz];omega
 obtain⟨k1,k2,k3⟩:=key ts.length (aaC _)
 rw[ae3 (aaC _)] at k1 k2 k3
 exact⟨hn,k1,k2,by omega⟩
noncomputable def p1 (ts:List Tk)(i:Nat):Bool:=match ts[i]? with | some t=>vM t | none=>false
def p3 (ts:List Tk)(i:Nat):Bool:=match ts[i]? with | some t=>sO t | none=>false
def p4 (ts:List Tk)(i:Nat):Bool:=match ts[i]? with | some t => !qn ts.length i [] t.after | none=>false
instance (N:Nat) (E:List Ed):Decidable (yX N E):=by unfold yX;infer_instance
noncomputable def iY (ts:List Tk):Int:=
 if ¬ (1<=ts.length/\ts.length<=16) then 1
 else if (List.range ts.length).any (p1 ts) then 2
 else if (List.range ts.length).any (dup ts) then 5
 else if (List.range ts.length).any (p3 ts) then 1
 else if (List.range ts.length).any (p4 ts) then 1
 else if yX ts.length (jc 0 ts) then 0 else 7
theorem Km {ts:List Tk}(h:(List.range ts.length).any (p4 ts)=false):uY ts:=by
 intro i t ht
 have hi:=(aah.1 ht).1
 rw[ahM] at h
 have:=h i (aiA.2 hi)
 unfold p4 at this
 rw[ht] at this
 simpa using this
theorem S4:∀ (i:Nat) (H H':Hp),True->Out [] H H'->True:=fun _ _ _ _ _=>trivial
abbrev ly:Nat:=194
theorem Nn {dx:AV}{xs:List AV}{ts:List Tk}{H:Hp}(hn:ts.length<=100000)(dm:∀ t∈ts,t.after.length<=100000)(hR:RD H dx xs ts) :
  ∃ H',cK (.func (.func 90) [] []) [dv dx] H=some (.int .i64 (iY ts),H')/\Out [] H H':=by
 have gy:=hR.row.one
 have fO:=hR.bq
 have lu:=hR.lt
 have o1:=aI H [dx] 72 0
 by_cases hr:¬ (1<=ts.length/\ts.length<=16)
 ·refine⟨al H [dx] 72 0,BF ?_,o1⟩
  have d:(decide ((1:Int)<=(ts.length:Int))&&decide ((ts.length:Int)<=16))=false:=by
   rw[<-agk,aau,decide_eq_true_eq,decide_eq_true_eq];omega
  unfold xz iY
  rw[if_pos hr]
  simp(disch:=first|exact zqz|fail)only[fO,pP,d,av,au,ai,aj,simprocAttr]
 have eu:=hr
 replace hr:1<=ts.length/\ts.length<=16:=ahk.1 hr
 have d:(decide ((1:Int)<=(ts.length:Int))&&decide ((ts.length:Int)<=16))=true:=by
  rw[aau,decide_eq_true_eq,decide_eq_true_eq];omega
 obtain⟨H2,m1,m2,m3,m4⟩:=IG (al H [dx] 72 0)
 rw[bK] at m1 m2 m4
 have o2:Out [] H H2:=o1.trans m3
 let L8:List AV:=[.func (.func 120) [] [],.int .i64 2,.func (.func 121) [] [.ptr (H.next+2) 0],.int .i64 5,.func (.func 122) [] [],.int .i64 1,.func (.func 123) [] [.ptr H.next 0],.int .i64 1]
 have gL:H2.next=H.next+2:=by rw[m4]
 have o3:=aI H2 [.map (H.next+1)] 192 0
 have o4:=aI (al H2 [.map (H.next+1)] 192 0) L8 ly 0
 have hC4:=bg (al H2 [.map (H.next+1)] 192 0) L8 ly 0
 have TQ:Out [] H (al (al H2 [.map (H.next+1)] 192 0) L8 ly 0):=(o2.trans o3).trans o4
 have agh:(al (al H2 [.map (H.next+1)] 192 0) L8 ly 0).next=H.next+4:=by rw[bK,bK,gL]
 have JG:(al H2 [.map (H.next+1)] 192 0).next=H.next+3:=by rw[bK,gL]
 have G0:∀ {H':Hp} {S:List Nat},Out S (al (al H2 [.map (H.next+1)] 192 0) L8 ly 0) H'->(∀ j∈S,j=H.next+1)->cellAt H' H.next 0=some dx/\ar H' H.next 0 1=some [dx]/\RD H' dx xs ts/\(∀ k:Nat,k<4->∃ a b,L8[k*2]? = some a/\L8[k*2+1]? = some b/\ar H' (H.next+3) (k*2) 2=some [a,b]):=by
  intro H' S ho hS
  have aO:∀ j,j<H.next+4->j≠H.next+1->∀ o,cellAt H' j o=cellAt (al (al H2 [.map (H.next+1)] 192 0) L8 ly 0) j o:=fun j hj M9 o=>ho.cellAt (by rw[agh];exact hj) fun q=>M9 (hS j q)
  have h0:cellAt H' H.next 0=some dx:=by
   rw[aO _ (by omega) (by omega),tQ (by rw[JG];omega),tQ (by rw[gL];omega),m3.cellAt (by rw[bK];omega) (by simp),vP rfl];rfl
  refine⟨h0,?_,(hR.out0 TQ).out ho fun j hj q=>by have:=lu j hj;have:=hS j q;omega,fun k hk => ?_⟩
  ·unfold ar ar;rw[h0];rfl
  ·have hL:L8.length=8:=rfl
   have ha:L8[k*2]? = some (L8[k*2]'(by rw[hL];omega)):=aai _
   have hb:L8[k*2+1]? = some (L8[k*2+1]'(by rw[hL];omega)):=aai _
   refine⟨_,_,ha,hb,?_⟩
   unfold ar ar ar
   rw[aO _ (by omega) (by omega),aO _ (by omega) (by omega),vP JG.symm,vP JG.symm,ha,hb]
   rfl
 have hm4:Mp (al (al H2 [.map (H.next+1)] 192 0) L8 ly 0) (H.next+1) (yW []) 0:=(m2.out o3 (by simp)).out o4 (by simp)
 have Nv:Cs (al (al H2 [.map (H.next+1)] 192 0) L8 ly 0) (H.next+2) [.map (H.next+1)] 192 0:=by
  have:=(bg H2 [.map (H.next+1)] 192 0).out o4 (by simp)
  rw[gL] at this;exact this
 have ajt:∀ (H':Hp) (a b:AV),aY a=true->aY b=true->st 2 (.ptr H'.next 0) (.agg [a,b]) (al H' [.nilFunc,.int .i64 0] ly 0)=some (al H' [a,b] ly 0):=fun H' a b ha hb=>iI (by simp[ha,hb]) rfl rfl (by decide) rfl
 have one:∀ (k:Nat) (z z':Int) (p:Nat->Bool) (e:Int) (fv:AV) (H':Hp) (lV:Hp),k<4->z=(k:Nat)->z'=(k+1:Nat)->L8[k*2]? = some fv->L8[k*2+1]? = some (.int .i64 e)->aY fv=true->
   ar H' H.next 0 1=some [dx]->H.next+4<=H'.next->(∀ a b,L8[k*2]? = some a->L8[k*2+1]? = some b->ar H' (H.next+3) (k*2) 2=some [a,b])->
   cK (.func (.func 125) [] []) [dv dx,fv] (al H' [fv,.int .i64 e] ly 0)=some (.bool ((List.range ts.length).any p),lV)->Out [H.next+1] (al H' [fv,.int .i64 e] ly 0) lV->
   ∀ dq:K.Fn 1,zQ JN GO cK dq (.ptr H.next 0) (.slice (H.next+3) 0 4 4 true 2) (.int .i64 4) (.int .i64 z) H'=if (List.range ts.length).any p then some (.int .i64 e,lV) else zQ JN GO cK dq (.ptr H.next 0) (.slice (H.next+3) 0 4 4 true 2) (.int .i64 4) (.int .i64 z') lV:=by
  intro k z z' p e fv H' lV hk hz Dn ha hb hfv Bw hHn hl hs hos dq
  subst hz;subst Dn
  have kO:=hl _ _ ha hb
  have np:ia 2 (.slice (H.next+3) 0 4 4 true 2) (.int .i64 (k:Nat))=some (.ptr (H.next+3) (k*2)):=by rw[yO hk];simp
  have aJ:decide (((k:Nat):Int)<4)=true:=decide_eq_true (by omega)
  have es:IntKind.wrap .i64 ((k:Int)+1)=((k+1:Nat):Int):=by rw[wrap_i64 (by omega) (by omega)];rfl
  have aC:=ajt H' fv (.int .i64 e) hfv rfl
  have he:cellAt lV H'.next 1=some (.int .i64 e):=by
   rw[hos.cellAt (by rw[bK];omega) (by rw[No];omega),vP rfl];rfl
  have dL:aE H' [.nilFunc,.int .i64 0] ly 0=some (H'.next,al H' [.nilFunc,.int .i64 0] ly 0):=gk (by simp)
  rw[VV]
  cases Ll:(List.range ts.length).any p with
  | true=>
   rw[Ll] at hs
   simp(disch:=first|exact zqz|fail)only[FN,aJ,np,kO,dL,aC,Bw,hs,he,if_true,av,au,ai,aj,simprocAttr]
  | false=>
   rw[Ll] at hs
   simp(disch:=first|exact zqz|fail)only[FN,aJ,np,kO,dL,aC,Bw,hs,es,aby,if_false,av,au,ai,aj,simprocAttr]
 generalize hH4:al (al H2 [.map (H.next+1)] 192 0) L8 ly 0=H4 at *
 have rW:∀ {A B:Hp},Out [] A B->Out [H.next+1] A B:=fun h=>h.mono fun j hj=>by cases hj
 have EI:∀ j∈([H.next+1]:List Nat),j=H.next+1:=fun j hj=>by rw[No] at hj;exact hj
 obtain⟨a1,a2,a3,a4⟩:=G0 (Out.refl [H.next+1] H4) EI
 have r1:=aI H4 [.func (.func 120) [] [],.int .i64 2] ly 0
 obtain⟨H5,s1,s2⟩:=IC (S:=[]) (fv := .func (.func 120) [] []) (p:=p1 ts) (fun _ _=>True) hn (by simp) S4 (fun i t x H' ht hx bw _=>by
  obtain⟨lV,c1,c2⟩:=ahQ t x i H'
  have hp:p1 ts i=vM t:=by unfold p1;rw[ht]
  exact⟨lV,by rw[hp];exact c1,c2,fun _=>trivial⟩) (a3.out0 r1) trivial
 have g1:=one 0 0 1 (p1 ts) 2 _ H4 H5 (by omega) rfl rfl rfl rfl rfl a2 (by omega) (fun a b ha hb=>by obtain⟨a',b',x1,x2,x3⟩:=a4 0 (by omega);rw[x1] at ha;rw[x2] at hb;cases ha;cases hb;exact x3) s1 (rW s2)
 have t5:Out [H.next+1] H4 H5:=rW (r1.trans s2)
 obtain⟨b1,b2,b3,b4⟩:=G0 t5 EI
 have n5:=t5.nx
 have r2:=aI H5 [.func (.func 121) [] [.ptr (H.next+2) 0],.int .i64 5] ly 0
 have hHI:IX (H.next+1) (H.next+2) ts 0 (al H5 [.func (.func 121) [] [.ptr (H.next+2) 0],.int .i64 5] ly 0):=
  ⟨192,[],0,((Nv.out (r1.trans s2) (by simp)).out r2 (by simp)),(hm4.out (r1.trans s2) (by simp)).out r2 (by simp),by rw[aht];rfl,by omega,aiB⟩
 have KI:∀ j∈kX dx xs,j∉([H.next+1]:List Nat):=fun j hj=>by rw[No];have:=lu j hj;omega
 obtain⟨H6,u1,u2⟩:=IC (S:=[H.next+1]) (fv := .func (.func 121) [] [.ptr (H.next+2) 0]) (p:=dup ts) (IX (H.next+1) (H.next+2) ts) hn KI (fun i A B hA Fp=>by
  obtain⟨el,l,c,x1,x2,x3,x4⟩:=hA
  exact⟨el,l,c,x1.out Fp (by simp),x2.out Fp (by simp),x3,x4⟩) (fun i t x H' ht hx bw hI=>aih hI ht) (b3.out0 r2) hHI
 have g2:=one 1 1 2 (dup ts) 5 _ H5 H6 (by omega) rfl rfl rfl rfl rfl b2 (by omega) (fun a b ha hb=>by obtain⟨a',b',x1,x2,x3⟩:=b4 1 (by omega);rw[x1] at ha;rw[x2] at hb;cases ha;cases hb;exact x3) u1 u2
 have t6:Out [H.next+1] H4 H6:=t5.trans ((rW r2).trans u2)
 obtain⟨c1,c2,c3,c4⟩:=G0 t6 EI
 have n6:=t6.nx
 have r3:=aI H6 [.func (.func 122) [] [],.int .i64 1] ly 0
 obtain⟨H7,v1,v2⟩:=IC (S:=[]) (fv := .func (.func 122) [] []) (p:=p3 ts) (fun _ _=>True) hn (by simp) S4 (fun i t x H' ht hx bw _=>by
  obtain⟨lV,c1,c2⟩:=acv t x i H'
  have hp:p3 ts i=sO t:=by unfold p3;rw[ht]
  exact⟨lV,by rw[hp];exact c1,c2,fun _=>trivial⟩) (c3.out0 r3) trivial
 have g3:=one 2 2 3 (p3 ts) 1 _ H6 H7 (by omega) rfl rfl rfl rfl rfl c2 (by omega) (fun a b ha hb=>by obtain⟨a',b',x1,x2,x3⟩:=c4 2 (by omega);rw[x1] at ha;rw[x2] at hb;cases ha;cases hb;exact x3) v1 (rW v2)
 have t7:Out [H.next+1] H4 H7:=t6.trans (rW (r3.trans v2))
 obtain⟨d1,d2,d3,d4⟩:=G0 t7 EI
 have n7:=t7.nx
 have r4:=aI H7 [.func (.func 123) [] [.ptr H.next 0],.int .i64 1] ly 0
 obtain⟨H8,w1,w2⟩:=IC (S:=[]) (fv := .func (.func 123) [] [.ptr H.next 0]) (p:=p4 ts) (fun _ H'=>cellAt H' H.next 0=some dx/\H.next<H'.next) hn (by simp) (fun i A B hA Fp=>⟨by rw[Fp.cellAt hA.2 (by simp)];exact hA.1,by have:=Fp.nx;omega⟩) (fun i t x H' ht hx bw hI=>by
  obtain⟨x',bb,oo,y1,y2,y3,_⟩:=bw.at ht
  rw[hx] at y1
  cases y1
  obtain⟨lV,c1,c2⟩:=anD (i:=(i:Int)) (n:=ts.length) hn (dm t (aao ht)) fO gy hI.1 hI.2 y3
  have hp:p4 ts i = !qn ts.length i [] t.after:=by unfold p4;rw[ht]
  exact⟨lV,by rw[hp];exact c1,c2,fun _=>⟨by rw[c2.cellAt hI.2 (by simp)];exact hI.1,by have:=c2.nx;omega⟩⟩) (d3.out0 r4) ⟨by rw[r4.cellAt (by omega) (by simp)];exact d1,by rw[bK];omega⟩
 have g4:=one 3 3 4 (p4 ts) 1 _ H7 H8 (by omega) rfl rfl rfl rfl rfl d2 (by omega) (fun a b ha hb=>by obtain⟨a',b',x1,x2,x3⟩:=d4 3 (by omega);rw[x1] at ha;rw[x2] at hb;cases ha;cases hb;exact x3) w1 (rW w2)
 have t8:Out [H.next+1] H4 H8:=t7.trans (rW (r4.trans w2))
 obtain⟨e1,e2,e3,e4⟩:=G0 t8 EI
 have fin:∀ {B:Hp},Out [H.next+1] H4 B->Out [] H B:=fun h=>TQ.then h fun j hj=>by rw[No] at hj;exact .inr (by omega)
 have g5:∀ dq:K.Fn 1,zQ JN GO cK dq (.ptr H.next 0) (.slice (H.next+3) 0 4 4 true 2) (.int .i64 4) (.int .i64 4) H8=dq (.ptr H.next 0) H8:=fun dq=>by
  have d:decide ((4:Int)<4)=false:=rfl
  rw[VV]
  simp only[FN,d,ai,aj,simprocAttr]
 have uw:st 1 (.ptr (H.next+2) 0) (.map (H.next+1)) (al H2 [.jk] 192 0)=some (al H2 [.map (H.next+1)] 192 0):=Sy rfl (by rw[gL]) (by decide) (by simp)
 have dL:aE (al H2 [.map (H.next+1)] 192 0) L8 ly 0=some (H.next+3,H4):=by rw[<-hH4,gk (by show 8<=_;omega),JG]
 have BW:fl [.nilFunc,(.int .i64 0),.nilFunc,(.int .i64 0),.nilFunc,(.int .i64 0),.nilFunc,(.int .i64 0)] [(0,2,(.agg [.func (.func 120) [] [],.int .i64 2])),(2,2,(.agg [.func (.func 121) [] [.ptr (H.next+2) 0],.int .i64 5])),(4,2,(.agg [.func (.func 122) [] [],.int .i64 1])),(6,2,(.agg [.func (.func 123) [] [.ptr H.next 0],.int .i64 1]))]=some L8:=rfl
 have Lv:iY ts=if (List.range ts.length).any (p1 ts) then 2 else if (List.range ts.length).any (dup ts) then 5 else if (List.range ts.length).any (p3 ts) then 1 else if (List.range ts.length).any (p4 ts) then 1 else if yX ts.length (jc 0 ts) then 0 else 7:=by unfold iY;rw[if_neg eu]
 rw[Lv]
 have CG:xj (al H [dx] 72 0)=some (H.next+1,H2):=m1
 have ef:((4:Nat):Int)=4:=rfl
 have DP:H.next+2+1=H.next+3:=rfl
 have CZ:al (al H2 [.map (H.next+1)] 192 0) [.func (.func 120) [] [],.int .i64 2,.func (.func 121) [] [.ptr (H.next+2) 0],.int .i64 5,.func (.func 122) [] [],.int .i64 1,.func (.func 123) [] [.ptr H.next 0],.int .i64 1] ly 0=H4:=hH4
 have YY:bq (.slice (H.next+3) 0 4 4 true 2)=some (.int .i64 4):=rfl
 have DU:H2.next=H.next+2:=gL
 cases q1:(List.range ts.length).any (p1 ts) with
 | true=>
  simp only[q1,if_true] at g1
  refine⟨H5,BF ?_,fin t5⟩
  unfold xz
  simp(disch:=first|exact zqz|fail)only[fO,pP,d,CG,DU,uw,BW,ef,DP,CZ,g1,if_true,av,au,ai,aj,simprocAttr]
 | false=>
 cases q2:(List.range ts.length).any (dup ts) with
 | true=>
  simp only[q1,aby,if_false] at g1
  simp only[q2,if_true] at g2
  refine⟨H6,BF ?_,fin t6⟩
  unfold xz
  simp(disch:=first|exact zqz|fail)only[fO,pP,d,CG,DU,uw,BW,ef,DP,CZ,g1,g2,if_true,aby,if_false,av,au,ai,aj,simprocAttr]
 | false=>
 cases q3:(List.range ts.length).any (p3 ts) with
 | true=>
  simp only[q1,aby,if_false] at g1
  simp only[q2,aby,if_false] at g2
  simp only[q3,if_true] at g3
  refine⟨H7,BF ?_,fin t7⟩
  unfold xz
  simp(disch:=first|exact zqz|fail)only[fO,pP,d,CG,DU,uw,BW,ef,DP,CZ,g1,g2,g3,if_true,aby,if_false,av,au,ai,aj,simprocAttr]
 | false=>
 cases q4:(List.range ts.length).any (p4 ts) with
 | true=>
  simp only[q1,aby,if_false] at g1
  simp only[q2,aby,if_false] at g2
  simp only[q3,aby,if_false] at g3
  simp only[q4,if_true] at g4
  refine⟨H8,BF ?_,fin t8⟩
  unfold xz
  simp(disch:=first|exact zqz|fail)only[fO,pP,d,CG,DU,uw,BW,ef,DP,CZ,g1,g2,g3,g4,if_true,aby,if_false,av,au,ai,aj,simprocAttr]
 | false=>
  simp only[q1,aby,if_false] at g1
  simp only[q2,aby,if_false] at g2
  simp only[q3,aby,if_false] at g3
  simp only[q4,aby,if_false] at g4
  have Qi:=Km q4
  have agm:∀ t∈ts,t.after.length<=16:=fun t ht=>by
   obtain⟨i,hi⟩:=adi ht
   obtain⟨x1,x2⟩:=yF Qi hi
   have:=Jd (n:=ts.length) (fun a h=>⟨(x1 a h).1,(x1 a h).2.1⟩) x2
   omega
  obtain⟨ex,H9,y1,y2,y3,y4⟩:=ajh hr.2 agm Qi e3
  obtain⟨cy,kk,uJ,z1,z2,z3,z4⟩:=ao8 (afq hr.2 Qi) y2
  refine⟨uJ,BF ?_,(fin t8).trans (y3.trans z4)⟩
  by_cases hk:kk=0
  ·have RG:=z3.1 hk
   rw[if_pos RG]
   have dk:decide ((0:Int)<((kk:Nat):Int))=false:=decide_eq_false (by omega)
   unfold xz
   simp(disch:=first|exact zqz|fail)only[fO,pP,d,CG,DU,uw,BW,ef,DP,CZ,g1,g2,g3,g4,g5,e2,y1,z1,z2,dk,aby,if_false,av,au,ai,aj,simprocAttr]
  ·have RG:¬ yX ts.length (jc 0 ts):=fun q=>hk (z3.2 q)
   rw[if_neg RG]
   have dk:decide ((0:Int)<((kk:Nat):Int))=true:=decide_eq_true (by omega)
   unfold xz
   simp(disch:=first|exact zqz|fail)only[fO,pP,d,CG,DU,uw,BW,ef,DP,CZ,g1,g2,g3,g4,g5,e2,y1,z1,z2,dk,aby,if_false,av,au,ai,aj,simprocAttr]
def sr (names:List aq):List aq->Option (List Int)
 | []=>some []
 | s::r=>match names.findIdx? (fun a=>s==a) with
  | some i=>(sr names r).map fun l=>(i:Int)::l
  | none=>none
abbrev wu:aq:=[97,102,116,101,114]
abbrev xQ:aq:=[114,101,116,114,121]
abbrev vd:aq:=[119,97,105,116]
abbrev ur:aq:=[98,97,115,101]
abbrev sC:aq:=[111,110]
noncomputable def iV (t:Tk)(key value:aq)(names:List aq):Option Tk:=
 if key=wu then (sr names (cq 44 value)).map fun l=>{ t with after:=t.after++l }
 else if key=xQ then (pM value).map fun (n:Nat)=>{ t with retry:=n }
 else if key=vd then (pM value).map fun (n:Nat)=>{ t with wait:=n }
 else if key=ur then (pM value).map fun (n:Nat)=>{ t with base:=n }
 else if key=sC then (if value=[] then none else some { t with on:=value })
 else (pM value).map fun _=>t
structure TO (H:Hp)(p:Nat)(t:Tk)(x:AV):Prop where
 c:Cs H p (aL t x) 99 0
 o:Ow H 3 1 x (ints t.after)
 ne:p∉ak x
theorem TO.out0 {H H':Hp}{p:Nat}{t:Tk}{x:AV}(h:TO H p t x)(k:Out [] H H'):TO H' p t x:=⟨h.c.out k (by simp),h.o.out k (by simp),h.ne⟩
theorem TO.st {H:Hp}{p:Nat}{t:Tk}{x:AV}(h:TO H p t x)(o:Nat)(ho:o<6)(v:AV)(hv:aY v=true)(t':Tk)(ht:(aL t x).set o v=aL t' x)(ha:t'.after=t.after) :
  ∃ H',st 1 (.ptr p o) v H=some H'/\TO H' p t' x/\Out [p] H H':=by
 obtain⟨H',w1,w2,w3,w4⟩:=fG h.c (by decide) (o:=o) (by rw[wX];exact ho) hv
 rw[ht] at w2
 exact⟨H',w1,⟨w2,by rw[ha];exact h.o.out w3 fun j hj=>by rw[No];intro e;subst e;exact h.ne hj,h.ne⟩,w3⟩
theorem YE {names:List aq}{nx sx:AV}{p:Nat}{parts:List aq}(lZ:names.length<=100000)(mz:parts.length<=100000):∀ (r:List aq) (i:Nat) (H:Hp) (t:Tk) (x:AV),i<=parts.length->parts.drop i=r->Rw H 1 nx (strs names)->Rw H 1 sx (strs parts)->TO H p t x->(∀ j,j∈ak nx\/j∈ak sx->j≠p/\j∉ak x)->t.after.length+r.length<=200000->
  ∃ H',Out (p::ak x) H H'/\((∃ l x',sr names r=some l/\(∀ (eN:K.Fn 1) (bO:K.Fn 0),Di JN GO cK eN bO (.ptr p 0) nx sx (.int .i64 (parts.length:Nat)) (.int .i64 (i:Nat)) H=bO H')/\TO H' p { t with after:=t.after++l } x'/\∀ j∈ak x',j∈ak x\/H.next<=j)\/
   (sr names r=none/\∀ (eN:K.Fn 1) (bO:K.Fn 0),Di JN GO cK eN bO (.ptr p 0) nx sx (.int .i64 (parts.length:Nat)) (.int .i64 (i:Nat)) H=some (.bool false,H')))
 | [],i,H,t,x,hi,h,ki,Lc,hT,hd,dm=>by
  obtain rfl:=drop_nil hi h
  refine⟨H,Out.refl _ _,.inl ⟨[],x,rfl,fun eN bO => ?_,by simpa using hT,fun j hj => .inl hj⟩⟩
  rw[K5]
  simp only[Cg,fU,ai,aj,simprocAttr]
 | s::r,i,H,t,x,hi,h,ki,Lc,hT,hd,dm=>by
  obtain⟨h1,h2,h3⟩:=gG h
  obtain⟨q,q1,q2⟩:=Lc.lK (yE h2) .i64
  have es:=gf h1 (by omega)
  have mN:=Oj ki (by omega) s
  simp only[aaL] at dm
  unfold sr
  cases hf:names.findIdx? (fun a=>s==a) with
  | none=>
   rw[hf] at mN
   have d:decide (kY none<0)=true:=rfl
   refine⟨H,Out.refl _ _,.inr ⟨rfl,fun eN bO => ?_⟩⟩
   rw[K5]
   simp(disch:=first|exact zqz|fail)only[Cg,bI h1,q1,q2,mN,d,av,au,ai,aj,simprocAttr]
  | some m=>
   rw[hf] at mN
   have d:decide (kY (some m)<0)=false:=decide_eq_false (by show ¬ ((m:Int)<0);omega)
   have p9:kY (some m)=(m:Int):=rfl
   rw[p9] at mN d
   have Bw:cellAt H p 1=some x:=hT.c.cellAt rfl
   have aqj:=hT.c.1
   obtain⟨x1,H1,p1,p2,p3,p4,p5⟩:=uE (fH:=3) (z:=[(.int .i64 0)]) (vs:=[.int .i64 (m:Int)]) hT.o rfl rfl (by decide) (by rw[lG];simp;omega)
   have pX:ints t.after++[.int .i64 (m:Int)]=ints (t.after++[(m:Int)]):=by rw[Kh];rfl
   rw[pX] at p2
   have y7:=hT.c.out p3 hT.ne
   obtain⟨H2,w1,w2,w3,w4⟩:=fG y7 (by decide) (o:=1) (by rw[wX];omega) (v:=x1) p5
   have fh:(aL t x).set 1 x1=aL { t with after:=t.after++[(m:Int)] } x1:=rfl
   rw[fh] at w2
   have jF:=p3.nx
   have ZI:p∉ak x1:=fun z=>(p4 p z).elim hT.ne fun z=>by omega
   have nc:TO H2 p { t with after:=t.after++[(m:Int)] } x1:=⟨w2,p2.out w3 fun j hj=>by rw[No];intro e;subst e;exact ZI hj,ZI⟩
   have o2:Out (p::ak x) H H2:=(p3.mono fun j hj => .tail _ hj).trans (w3.mono fun j hj=>by rw[No] at hj;subst hj;exact .head _)
   have hU:=ki.lt
   have oK:=Lc.lt
   have qe:∀ j,j∈ak nx\/j∈ak sx->j≠p/\j∉ak x1:=fun j hj=>⟨(hd j hj).1,fun z=>(p4 j z).elim (hd j hj).2 fun y=>by have:=hj.elim (hU j) (oK j);omega⟩
   obtain⟨H',i1,i2⟩:=YE (p:=p) lZ mz r (i+1) H2 { t with after:=t.after++[(m:Int)] } x1 h1 h3 (ki.out o2 fun j hj=>by rw[aaD,not_or];exact hd j (.inl hj)) (Lc.out o2 fun j hj=>by rw[aaD,not_or];exact hd j (.inr hj)) nc qe (by simp;omega)
   have key:∀ j∈ak x1,j∈ak x\/H.next<=j:=fun j hj=>(p4 j hj).imp id fun z=>by omega
   have gL:=o2.nx
   have oo:Out (p::ak x) H H':=o2.then i1 fun j hj=>by
    rcases aaD.1 hj with rfl | hj
    ·exact .inl (.head _)
    ·exact (key j hj).imp (fun z => .tail _ z) id
   have iQ:=p1 _ rfl
   refine⟨H',oo,?_⟩
   rcases i2 with⟨l,x',k1,k2,k3,k4⟩ | ⟨k1,k2⟩
   ·refine .inl ⟨(m:Int)::l,x',by simp[k1],fun eN bO => ?_,by simpa[aeR] using k3,fun j hj=>(k4 j hj).elim (key j) fun z => .inr (by omega)⟩
    rw[K5]
    simp(disch:=first|exact zqz|fail)only[Cg,bI h1,q1,q2,mN,d,Bw,iQ,w1,es,k2,av,au,ai,aj,simprocAttr]
   ·refine .inr ⟨by simp[k1],fun eN bO => ?_⟩
    rw[K5]
    simp(disch:=first|exact zqz|fail)only[Cg,bI h1,q1,q2,mN,d,Bw,iQ,w1,es,k2,av,au,ai,aj,simprocAttr]
theorem Gg {a b:aq}(h:a≠b):(a==b)=false:=beq_false_of_ne h
theorem aev {names:List aq}{nx:AV}{p:Nat}{key value:aq}{t:Tk}{x:AV}{H:Hp}(hg:Gl H)(lZ:names.length<=100000)(hv:value.length<=90000)(ki:Rw H 1 nx (strs names))(hT:TO H p t x)(hd:∀ j,j∈ak nx->j≠p/\j∉ak x)(dm:t.after.length<=10000) :
  ∃ ok H',cK (.func (.func 118) [] []) [.ptr p 0,.str key,.str value,nx] H=some (.bool ok,H')/\Out (p::ak x) H H'/\(ok=true->∃ t' x',iV t key value names=some t'/\TO H' p t' x'/\∀ j∈ak x',j∈ak x\/H.next<=j)/\(ok=false->iV t key value names=none):=by
 obtain⟨n,Qn,H1,n1,n2,n3,n4⟩:=ak3 (s:=value) hg
 have qT:=hT.out0 n4
 have hp1:=qT.c.1
 have Bl:=ki.out0 n4
 have jF:=n4.nx
 have rW:∀ {S:List Nat} {A B:Hp},Out [] A B->Out S A B:=fun h=>h.mono fun j hj=>by cases hj
 have num:∀ (o:Nat) (f:Nat->Tk),o<6->(∀ m:Nat,(aL t x).set o (.int .i64 (m:Int))=aL (f m) x)->(∀ m,(f m).after=t.after)->iV t key value names=(pM value).map f->
   (∀ H2,st 1 (.ptr p o) (.int .i64 n) H1=some H2->uG JN GO cK (.ptr p 0) (.str key) (.str value) nx H=some (.bool Qn,H2))->∃ ok H',cK (.func (.func 118) [] []) [.ptr p 0,.str key,.str value,nx] H=some (.bool ok,H')/\Out (p::ak x) H H'/\(ok=true->∃ t' x',iV t key value names=some t'/\TO H' p t' x'/\∀ j∈ak x',j∈ak x\/H.next<=j)/\(ok=false->iV t key value names=none):=by
  intro o f ho hf hfa hm iW
  cases Qn with
  | true=>
   obtain⟨m,rfl⟩:∃ m:Nat,n=m:=⟨n.toNat,by have:=n3 rfl;omega⟩
   obtain⟨H2,w1,w2,w3⟩:=qT.st o ho (.int .i64 (m:Int)) rfl (f m) (hf m) (hfa m)
   refine⟨true,H2,Bj (iW H2 w1),(rW n4).trans (w3.mono fun j hj=>by rw[No] at hj;subst hj;exact .head _),fun _=>⟨f m,x,?_,w2,fun j hj => .inl hj⟩,fun q=>by cases q⟩
   rw[hm,n2,if_pos rfl,acr];rfl
  | false=>
   obtain⟨H2,w1,w2,w3,w4⟩:=fG qT.c (by decide) (o:=o) (by rw[wX];exact ho) (v := .int .i64 n) rfl
   refine⟨false,H2,Bj (iW H2 w1),(rW n4).trans (w3.mono fun j hj=>by rw[No] at hj;subst hj;exact .head _),fun q=>(by cases q),fun _ => ?_⟩
   rw[hm,n2];rfl
 by_cases k1:key=wu
 ·subst k1
  obtain⟨sx,H2,s1,s2,s3,s4⟩:=N9 (c:=44) (by decide) (s:=value) (by omega) H1
  have oK:=s2.mQ
  rw[iZ] at oK
  have mz:(cq 44 value).length<=90001:=by rw[B3];have:=Lz 44 value;omega
  have nc:=qT.out0 s3
  have yi:=ki.lt
  have GA:=hT.o.rw.lt
  have hpH:=hT.c.1
  obtain⟨H',i1,i2⟩:=YE (p:=p) lZ (by omega) (cq 44 value) 0 H2 t x (acD _) acI (Bl.out0 s3) s2 nc (fun j hj=>hj.elim (hd j) fun z=>⟨by have:=s4 j z;omega,fun y=>by have:=s4 j z;have:=GA j y;omega⟩) (by omega)
  have hm:iV t wu value names=(sr names (cq 44 value)).map fun l=>{ t with after:=t.after++l }:=by unfold iV;rw[if_pos rfl]
  have oo:Out (p::ak x) H H':=(rW (n4.trans s3)).trans i1
  have gL:=(n4.trans s3).nx
  have e:(wu==wu)=true:=rfl
  rcases i2 with⟨l,x',q1,q2,q3,q4⟩ | ⟨q1,q2⟩
  ·rw[show (((0:Nat):Int))=0 from rfl] at q2
   refine⟨true,H',Bj ?_,oo,fun _=>⟨_,x',by rw[hm,q1];rfl,q3,fun j hj=>(q4 j hj).imp id fun z=>by omega⟩,fun q=>by cases q⟩
   unfold uG
   simp(disch:=first|exact zqz|fail)only[n1,e,s1,oK,q2,av,au,ai,aj,simprocAttr]
  ·rw[show (((0:Nat):Int))=0 from rfl] at q2
   refine⟨false,H',Bj ?_,oo,fun q=>(by cases q),fun _=>by rw[hm,q1];rfl⟩
   unfold uG
   simp(disch:=first|exact zqz|fail)only[n1,e,s1,oK,q2,av,au,ai,aj,simprocAttr]
 have e1:=Gg k1
 by_cases k2:key=xQ
 ·subst k2
  have e2:(xQ==xQ)=true:=rfl
  refine num 2 (fun m=>{ t with retry:=(m:Int) }) (by omega) (fun m=>rfl) (fun m=>rfl) (by unfold iV;rw[if_neg k1,if_pos rfl]) fun H2 aC => ?_
  unfold uG
  simp(disch:=first|exact zqz|fail)only[n1,e1,e2,aC,av,au,ai,aj,simprocAttr]
 have e2:=Gg k2
 by_cases k3:key=vd
 ·subst k3
  have e3:(vd==vd)=true:=rfl
  refine num 3 (fun m=>{ t with wait:=(m:Int) }) (by omega) (fun m=>rfl) (fun m=>rfl) (by unfold iV;rw[if_neg k1,if_neg k2,if_pos rfl]) fun H2 aC => ?_
  unfold uG
  simp(disch:=first|exact zqz|fail)only[n1,e1,e2,e3,aC,av,au,ai,aj,simprocAttr]
 have e3:=Gg k3
 by_cases k4:key=ur
 ·subst k4
  have e4:(ur==ur)=true:=rfl
  refine num 4 (fun m=>{ t with base:=(m:Int) }) (by omega) (fun m=>rfl) (fun m=>rfl) (by unfold iV;rw[if_neg k1,if_neg k2,if_neg k3,if_pos rfl]) fun H2 aC => ?_
  unfold uG
  simp(disch:=first|exact zqz|fail)only[n1,e1,e2,e3,e4,aC,av,au,ai,aj,simprocAttr]
 have e4:=Gg k4
 by_cases k5:key=sC
 ·subst k5
  have e5:(sC==sC)=true:=rfl
  obtain⟨H2,w1,w2,w3⟩:=qT.st 5 (by omega) (.str value) rfl { t with on:=value } rfl rfl
  have oo:Out (p::ak x) H H2:=(rW n4).trans (w3.mono fun j hj=>by rw[No] at hj;subst hj;exact .head _)
  have hm:iV t sC value names=if value=[] then none else some { t with on:=value }:=by unfold iV;rw[if_neg k1,if_neg k2,if_neg k3,if_neg k4,if_pos rfl]
  by_cases Du:value=[]
  ·have e6:(value==[])=true:=by rw[Du];rfl
   refine⟨false,H2,Bj ?_,oo,fun q=>(by cases q),fun _=>by rw[hm,if_pos Du]⟩
   unfold uG
   simp(disch:=first|exact zqz|fail)only[n1,e1,e2,e3,e4,e5,e6,w1,av,au,ai,aj,simprocAttr]
  ·have e6:(value==[])=false:=beq_false_of_ne Du
   refine⟨true,H2,Bj ?_,oo,fun _=>⟨_,x,by rw[hm,if_neg Du],w2,fun j hj => .inl hj⟩,fun q=>by cases q⟩
   unfold uG
   simp(disch:=first|exact zqz|fail)only[n1,e1,e2,e3,e4,e5,e6,w1,av,au,ai,aj,simprocAttr]
 ·have e5:=Gg k5
  have hm:iV t key value names=(pM value).map fun _=>t:=by unfold iV;rw[if_neg k1,if_neg k2,if_neg k3,if_neg k4,if_neg k5]
  refine⟨Qn,H1,Bj ?_,rW n4,fun q=>⟨t,x,?_,qT,fun j hj => .inl hj⟩,fun q => ?_⟩
  ·unfold uG
   simp(disch:=first|exact zqz|fail)only[n1,e1,e2,e3,e4,e5,av,au,ai,aj,simprocAttr]
  ·rw[hm,n2,if_pos q];rfl
  ·rw[hm,n2,q];rfl
noncomputable def lQ (names:List aq):List aq->Tk->List aq->Option Tk
 | [],t,_=>some t
 | s::r,t,ks=>match ks.findIdx? (fun a=>(cut 61 s).1==a) with
  | none=>none
  | some m=>if (cut 61 s).1.length=s.length then none else match iV t (cut 61 s).1 (cut 61 s).2.1 names with
   | none=>none
   | some t'=>lQ names r t' (ks.drop (m+1))
theorem Xw (c:Nat)(s:aq):(cut c s).1.length<=s.length/\(cut c s).2.1.length<=s.length:=by
 unfold cut
 split
 ·exact⟨by rw[aes];exact ajs _ _,by rw[agf];exact Nat.sub_le _ _⟩
 ·exact⟨aaC _,acD _⟩
theorem aca {names:List aq}:∀ {r:List aq} {l:List Int},sr names r=some l->l.length=r.length
 | [],l,h=>by cases h;rfl
 | s::r,l,h=>by
  unfold sr at h
  split at h
  ·rw[aaa] at h
   obtain⟨l',h1,rfl⟩:=h
   simp[aca h1]
  ·cases h
theorem ab8 {t t':Tk}{key value:aq}{names:List aq}(h:iV t key value names=some t'):t'.after.length<=t.after.length+value.length+1:=by
 unfold iV at h
 split at h
 ·rw[aaa] at h
  obtain⟨l,h1,rfl⟩:=h
  have:=aca h1
  rw[B3] at this
  have:=Lz 44 value
  simp only[aaX];omega
 ·split at h
  ·rw[aaa] at h;obtain⟨m,_,rfl⟩:=h;simp only;omega
  ·split at h
   ·rw[aaa] at h;obtain⟨m,_,rfl⟩:=h;simp only;omega
   ·split at h
    ·rw[aaa] at h;obtain⟨m,_,rfl⟩:=h;simp only;omega
    ·split at h
     ·split at h
      ·cases h
      ·cases h;simp only;omega
     ·rw[aaa] at h;obtain⟨m,_,rfl⟩:=h;omega
theorem aaS {α:Type}{p:α->Bool}:∀ {l:List α} {m:Nat},l.findIdx? p=some m->m<l.length
 | [],m,h=>by cases h
 | a::l,m,h=>by
  rw[ahv] at h
  split at h
  ·cases h;simp
  ·rw[aaa] at h
   obtain⟨k,h1,rfl⟩:=h
   have:=aaS h1
   simp only[aaL];omega
theorem WJ {names w:List aq}{nx wx:AV}{p q:Nat}(lZ:names.length<=100000)(zZ:w.length<=100000)(Cz:∀ s∈w,s.length<=80000)(Bz:p≠q):∀ (r:List aq) (i:Nat) (H:Hp) (t:Tk) (x kx:AV) (ks:List aq),i<=w.length->w.drop i=r->Gl H->11<=p->(∀ j∈ak x,11<=j)->Rw H 1 nx (strs names)->Rw H 1 wx (strs w)->Rw H 1 kx (strs ks)->ks.length<=10->TO H p t x->(∀ j,j∈ak nx\/j∈ak wx\/j∈ak kx->j≠p/\j∉ak x)->t.after.length+cN r+r.length<=10000->
  ∃ H',Out (p::ak x) H H'/\((∃ t' x',lQ names r t ks=some t'/\(∀ aF:K.Fn 2,BV JN GO cK aF nx (.ptr q 0) (.ptr p 0) kx wx (.int .i64 (w.length:Nat)) (.int .i64 (i:Nat)) H=aF (.ptr q 0) (.ptr p 0) H')/\TO H' p t' x'/\∀ j∈ak x',j∈ak x\/H.next<=j)\/
   (lQ names r t ks=none/\(cellAt H q 0).isSome=true/\False)\/(lQ names r t ks=none/\∃ H2,Out (p::ak x) H H2/\∀ aF:K.Fn 2,BV JN GO cK aF nx (.ptr q 0) (.ptr p 0) kx wx (.int .i64 (w.length:Nat)) (.int .i64 (i:Nat)) H=B1 (st 6 (.ptr q 0) (.agg [(.str []),.ah,(.int .i64 0),(.int .i64 0),(.int .i64 0),(.str [])]) H2) fun h=>B1 (aA 6 (.ptr q 0) h) fun v=>some (.tuple [v,.bool false],h)))
 | [],i,H,t,x,kx,ks,hi,h,hg,NK,Pt,ki,xo,KQ,jS,hT,hd,dm=>by
  obtain rfl:=drop_nil hi h
  refine⟨H,Out.refl _ _,.inl ⟨t,x,rfl,fun aF => ?_,hT,fun j hj => .inl hj⟩⟩
  rw[Dp]
  simp only[yt,fU,ai,aj,simprocAttr]
 | s::r,i,H,t,x,kx,ks,hi,h,hg,NK,Pt,ki,xo,KQ,jS,hT,hd,dm=>by
  obtain⟨h1,h2,h3⟩:=gG h
  obtain⟨y,q1,q2⟩:=xo.lK (yE h2) .i64
  have es:=gf h1 (by omega)
  have oK:=Cz s (aao h2)
  have zd:=ans (c:=61) (by decide) (s:=s) (by omega) H
  obtain⟨cl1,cl2⟩:=Xw 61 s
  have mN:=Oj KQ (by omega) (cut 61 s).1
  have ru:cN (s::r)=s.length+cN r:=by simp[cN]
  rw[ru] at dm
  simp only[aaL] at dm
  have B4:fl [(.str []),.ah,(.int .i64 0),(.int .i64 0),(.int .i64 0),(.str [])] []=some [(.str []),.ah,(.int .i64 0),(.int .i64 0),(.int .i64 0),(.str [])]:=rfl
  unfold lQ
  cases hf:ks.findIdx? (fun a=>(cut 61 s).1==a) with
  | none=>
   rw[hf] at mN
   have d:decide (kY none<0)=true:=rfl
   refine⟨H,Out.refl _ _,.inr (.inr ⟨rfl,H,Out.refl _ _,fun aF => ?_⟩)⟩
   rw[Dp]
   simp(disch:=first|exact zqz|fail)only[yt,bI h1,q1,q2,zd,mN,d,B4,av,au,ai,aj,simprocAttr]
  | some m=>
   rw[hf] at mN
   have hm:=aaS hf
   have d:decide (kY (some m)<0)=false:=decide_eq_false (by show ¬ ((m:Int)<0);omega)
   have p9:kY (some m)=(m:Int):=rfl
   rw[p9] at mN d
   simp only
   by_cases hl:(cut 61 s).1.length=s.length
   ·have d2:(((cut 61 s).1.length:Int)==(s.length:Int))=true:=by rw[hl];simp
    rw[if_pos hl]
    refine⟨H,Out.refl _ _,.inr (.inr ⟨rfl,H,Out.refl _ _,fun aF => ?_⟩)⟩
    rw[Dp]
    simp(disch:=first|exact zqz|fail)only[yt,bI h1,q1,q2,zd,mN,d,d2,B4,av,au,ai,aj,simprocAttr]
   ·have d2:(((cut 61 s).1.length:Int)==(s.length:Int))=false:=beq_false_of_ne (by omega)
    rw[if_neg hl]
    obtain⟨ok,H1,s1,s2,s3,s4⟩:=aev (key:=(cut 61 s).1) (value:=(cut 61 s).2.1) hg lZ (by omega) ki hT (fun j hj=>hd j (.inl hj)) (by omega)
    cases ok with
    | false=>
     have hs:=s4 rfl
     rw[hs]
     refine⟨H1,s2,.inr (.inr ⟨rfl,H1,s2,fun aF => ?_⟩)⟩
     rw[Dp]
     simp(disch:=first|exact zqz|fail)only[yt,bI h1,q1,q2,zd,mN,d,d2,s1,B4,av,au,ai,aj,simprocAttr]
    | true=>
     obtain⟨t',x',u1,u2,u3⟩:=s3 rfl
     rw[u1]
     have Cv:=ab8 u1
     have e1:IntKind.wrap .i64 ((m:Int)+1)=((m+1:Nat):Int):=by rw[wrap_i64 (by omega) (by omega)];rfl
     have gy:∀ j,j∈ak nx\/j∈ak wx\/j∈ak kx->j∉p::ak x:=fun j hj=>by rw[aaD,not_or];exact hd j hj
     have aea:=KQ.out s2 fun j hj=>gy j (.inr (.inr hj))
     obtain⟨kx',k1,k2,k3⟩:=GP (n:=ks.length) aea (by rw[iZ,afZ]) (by decide) (a:=m+1) (b:=ks.length) (lo:=some (.int .i64 (m+1:Nat))) (hi:=none) (by omega) (aaC _) (Bd.yes _ _ _) (Bd.no _)
     have fN:((strs ks).drop ((m+1)*1)).take ((ks.length-(m+1))*1)=strs (ks.drop (m+1)):=by
      rw[afZ,afZ,ae3 (by rw[agf,iZ];omega)]
      simp[strs,List.map_drop]
     rw[fN] at k2
     have aJ:∀ j,j∈ak nx\/j∈ak wx\/j∈ak kx->j<H.next:=fun j hj=>by
      rcases hj with hj | hj | hj
      ·exact ki.lt j hj
      ·exact xo.lt j hj
      ·exact KQ.lt j hj
     have I8:=hg.nx
     have jF:=s2.nx
     obtain⟨H',i1,i2⟩:=WJ (q:=q) lZ zZ Cz Bz r (i+1) H1 t' x' kx' (ks.drop (m+1)) h1 h3 (hg.out s2 fun j hj=>by
      rcases aaD.1 hj with rfl | hj
      ·exact NK
      ·exact Pt j hj) NK (fun j hj=>(u3 j hj).elim (Pt j) fun z=>by omega) (ki.out s2 fun j hj=>gy j (.inl hj)) (xo.out s2 fun j hj=>gy j (.inr (.inl hj))) k2 (by rw[agf];omega) u2 (fun j hj=>by
       have iU:j∈ak nx\/j∈ak wx\/j∈ak kx:=hj.imp id fun z=>z.imp id (k3 j)
       exact⟨(hd j iU).1,fun z=>(u3 j z).elim (hd j iU).2 fun y=>by have:=aJ j iU;omega⟩) (by omega)
     have key:∀ j∈p::ak x',j∈p::ak x\/H.next<=j:=fun j hj=>by
      rcases aaD.1 hj with rfl | hj
      ·exact .inl (.head _)
      ·exact (u3 j hj).imp (fun z => .tail _ z) id
     refine⟨H',s2.then i1 key,?_⟩
     simp only
     rcases i2 with⟨t2,x2,v1,v2,v3,v4⟩ | ⟨_,_,v⟩ | ⟨v1,H2,v2,v3⟩
     ·refine .inl ⟨t2,x2,v1,fun aF => ?_,v3,fun j hj=>(v4 j hj).elim (u3 j) fun z => .inr (by omega)⟩
      rw[Dp]
      simp(disch:=first|exact zqz|fail)only[yt,bI h1,q1,q2,zd,mN,d,d2,s1,e1,k1,es,v2,av,au,ai,aj,simprocAttr]
     ·exact v.elim
     ·refine .inr (.inr ⟨v1,H2,s2.then v2 key,fun aF => ?_⟩)
      rw[Dp]
      simp(disch:=first|exact zqz|fail)only[yt,bI h1,q1,q2,zd,mN,d,d2,s1,e1,k1,es,v3,av,au,ai,aj,simprocAttr]
abbrev jZ:List aq:=[wu,xQ,vd,ur,sC]
noncomputable def uB (names w:List aq):Option Tk:=lQ names w.tail ⟨w.headD [],[],0,10,1,[]⟩ jZ
theorem fx {H:Hp}{i n el:Nat}{l vs:List AV}(h:Cs H i l el 0)(hn:n=vs.length)(hl:l.length=vs.length)(hv:vs.all aY=true):∃ H',st n (.ptr i 0) (.agg vs) H=some H'/\Cs H' i vs el 0/\Out [i] H H'/\H'.next=H.next:=by
 obtain⟨hi,c,hc,hg⟩:=h
 obtain⟨H',c',q1,q2,q3,q4,q5⟩:=KD vs H i 0 c 0 l.length el 0 hc (by omega) (aaC _) (by omega) (fun k hk=>by rw[adG,hg k (l[k]'(by omega)) (aai (by omega))];rfl) (adA.1 hv)
 refine⟨H',?_,⟨by omega,c',?_,fun k v hk => ?_⟩,⟨by omega,fun j hj hn=>q4 j (by simpa using hn)⟩,q2⟩
 ·unfold st
  have:Nat.beq n vs.length=true:=by subst hn;exact agQ _
  simp only[Ar,this,cond_true]
  exact q1
 ·rw[q3,hl]
 ·have:=(aah.1 hk).1
  rw[q5,if_pos (by omega),agq];exact hk
theorem ahC {names w:List aq}{nx wx:AV}{H:Hp}(hg:Gl H)(lZ:names.length<=100000)(hw0:w≠[])(zZ:w.length<=5000)(Cz:∀ s∈w,s.length<=80000)(ru:cN w+w.length<=10000)(ki:Rw H 1 nx (strs names))(xo:Rw H 1 wx (strs w)) :
  ∃ H',Out [] H H'/\((∃ t x,uB names w=some t/\cK (.func (.func 89) [] []) [wx,nx] H=some (.tuple [.agg (aL t x),.bool true],H')/\Rw H' 1 x (ints t.after)/\∀ j∈ak x,H.next<=j)\/(uB names w=none/\∃ v,cK (.func (.func 89) [] []) [wx,nx] H=some (.tuple [.agg v,.bool false],H')/\v.length=6/\v.all aY=true)):=by
 obtain⟨w0,w,rfl⟩:∃ a b,w=a::b:=by
  cases w with
  | nil=>exact absurd rfl hw0
  | cons a b=>exact⟨a,b,rfl⟩
 have I8:=hg.nx
 have o1:=aI H [(AV.str []),AV.ah,(AV.int .i64 0),(AV.int .i64 0),(AV.int .i64 0),(AV.str [])] 99 0
 have o2:=aI (al H [(AV.str []),AV.ah,(AV.int .i64 0),(AV.int .i64 0),(AV.int .i64 0),(AV.str [])] 99 0) (aL ⟨w0,[],0,10,1,[]⟩ .ah) 99 0
 have o3:=aI (al (al H [(AV.str []),AV.ah,(AV.int .i64 0),(AV.int .i64 0),(AV.int .i64 0),(AV.str [])] 99 0) (aL ⟨w0,[],0,10,1,[]⟩ .ah) 99 0) (strs jZ) 9 0
 have dQ:=o1.trans o2
 have gS:=dQ.trans o3
 have c1:=((bg H [(AV.str []),AV.ah,(AV.int .i64 0),(AV.int .i64 0),(AV.int .i64 0),(AV.str [])] 99 0).out o2 (by simp)).out o3 (by simp)
 have c2:=(bg (al H [(AV.str []),AV.ah,(AV.int .i64 0),(AV.int .i64 0),(AV.int .i64 0),(AV.str [])] 99 0) (aL ⟨w0,[],0,10,1,[]⟩ .ah) 99 0).out o3 (by simp)
 have c3:=bg (al (al H [(AV.str []),AV.ah,(AV.int .i64 0),(AV.int .i64 0),(AV.int .i64 0),(AV.str [])] 99 0) (aL ⟨w0,[],0,10,1,[]⟩ .ah) 99 0) (strs jZ) 9 0
 generalize hH3:al (al (al H [(AV.str []),AV.ah,(AV.int .i64 0),(AV.int .i64 0),(AV.int .i64 0),(AV.str [])] 99 0) (aL ⟨w0,[],0,10,1,[]⟩ .ah) 99 0) (strs jZ) 9 0=H3 at *
 have xu:H3.next=H.next+3:=by rw[<-hH3];rfl
 have ku:Rw H3 1 (.slice (H.next+2) 0 5 5 true 1) (strs jZ) := .mk c3.ro rfl (aaC _) rfl
 have ah2:=xo.out0 gS
 obtain⟨wx',s1,s2,s3⟩:=GP (n:=w.length+1) ah2 (by rw[iZ];simp) (by decide) (a:=1) (b:=w.length+1) (lo:=some (.int .i64 1)) (hi:=none) (by omega) (aaC _) (Bd.yes .i64 1 0) (Bd.no _)
 have qd:((strs (w0::w)).drop (1*1)).take ((w.length+1-1)*1)=strs w:=by
  rw[afZ,afZ,Nat.add_sub_cancel]
  show (strs w).take w.length=_
  rw[ae3 (by rw[iZ];omega)]
 rw[qd] at s2
 have RS:=s2.mQ
 rw[iZ] at RS
 have LJ:=xo.lt
 have yi:=ki.lt
 obtain⟨y,y1,y2⟩:=(xo.out0 o1).lK (i:=0) (v := .str w0) rfl .i64
 rw[show (((0:Nat):Int))=0 from rfl] at y1
 have ux:cN (w0::w)=w0.length+cN w:=by simp[cN]
 rw[ux] at ru
 simp only[aaL] at ru zZ
 have hT:TO H3 (H.next+1) ⟨w0,[],0,10,1,[]⟩ .ah:=⟨c2,.nil,by simp[ak]⟩
 obtain⟨H4,i1,i2⟩:=WJ (q:=H.next) (p:=H.next+1) lZ (by omega) (fun s hs=>Cz s (.tail _ hs)) (by omega) w 0 H3 ⟨w0,[],0,10,1,[]⟩ .ah (.slice (H.next+2) 0 5 5 true 1) jZ (acD _) acI (hg.out0 gS) (by omega) (fun j hj=>by cases hj) (ki.out0 gS) s2 ku (by decide) hT (fun j hj=>by
  refine⟨?_,by simp[ak]⟩
  rcases hj with hj | hj | hj
  ·have:=yi j hj;omega
  ·have:=LJ j (s3 j hj);omega
  ·rw[mi (by rfl),No] at hj;omega) (by simp;omega)
 have DL:Out [H.next+1] H3 H4:=i1.mono fun j hj=>by
  rcases aaD.1 hj with rfl | hj
  ·exact .head _
  ·cases hj
 have JF:fl [(.str []),.ah,(.int .i64 0),(.int .i64 0),(.int .i64 0),(.str [])] [(0,1,.str w0),(3,1,.int .i64 10),(4,1,.int .i64 1)]=some (aL ⟨w0,[],0,10,1,[]⟩ .ah):=rfl
 have CN:fl [(.str []),(.str []),(.str []),(.str []),(.str [])] [(0,1,.str [97,102,116,101,114]),(1,1,.str [114,101,116,114,121]),(2,1,.str [119,97,105,116]),(3,1,.str [98,97,115,101]),(4,1,.str [111,110])]=some (strs jZ):=rfl
 have aC:=yS ⟨w0,[],0,10,1,[]⟩ .ah rfl (al H [(AV.str []),AV.ah,(AV.int .i64 0),(AV.int .i64 0),(AV.int .i64 0),(AV.str [])] 99 0)
 have LW:aE (al (al H [(AV.str []),AV.ah,(AV.int .i64 0),(AV.int .i64 0),(AV.int .i64 0),(AV.str [])] 99 0) (aL ⟨w0,[],0,10,1,[]⟩ .ah) 99 0) (strs jZ) 9 0=some (H.next+2,H3):=by rw[<-hH3,gk (by show 5<=_;omega)];rfl
 have SX:H.next+1+1=H.next+2:=rfl
 have hm:uB names (w0::w)=lQ names w ⟨w0,[],0,10,1,[]⟩ jZ:=rfl
 rw[hm]
 have fin:∀ {A:Hp} {S:List Nat},Out S H3 A->(∀ j∈S,H.next<=j)->Out [] H A:=fun h hS=>gS.then h fun j hj => .inr (hS j hj)
 have fV:(al H [(AV.str []),AV.ah,(AV.int .i64 0),(AV.int .i64 0),(AV.int .i64 0),(AV.str [])] 99 0).next=H.next+1:=rfl
 rw[fV] at aC
 rw[show (((0:Nat):Int))=0 from rfl] at i2
 rcases i2 with⟨t,x,v1,v2,v3,v4⟩ | ⟨_,_,v⟩ | ⟨v1,H5,v2,v3⟩
 ·have kH:=v3.o.jG
  have nW:ar H4 (H.next+1) 0 6=some (aL t x):=v3.c.ar 6 0 (by rw[wX];omega)
  have c4:=c1.out DL (by simp)
  obtain⟨H5,w1,w2,w3,w4⟩:=fx (n:=6) (vs:=aL t x) c4 rfl rfl (by simp[aL,C7,kK,kH])
  have hc5:ar H5 H.next 0 6=some (aL t x):=w2.ar 6 0 (by rw[wX];omega)
  have GA:∀ j∈ak x,H3.next<=j:=fun j hj=>(v4 j hj).elim (fun z=>by cases z) id
  refine⟨H5,(fin DL (fun j hj=>by rw[No] at hj;omega)).then w3 fun j hj=>by rw[No] at hj;exact .inr (by omega),.inl ⟨t,x,v1,Vf ?_,v3.o.rw.out w3 fun j hj=>by rw[No];have:=GA j hj;omega,fun j hj=>by have:=GA j hj;omega⟩⟩
  unfold Ix
  simp(disch:=first|exact zqz|fail)only[y1,y2,JF,aC,CN,LW,hH3,SX,s1,RS,v2,nW,w1,hc5,av,au,ai,aj,simprocAttr]
 ·exact v.elim
 ·have BX:Out [H.next+1] H3 H5:=v2.mono fun j hj=>by
   rcases aaD.1 hj with rfl | hj
   ·exact .head _
   ·cases hj
  have c5:=c1.out BX (by simp)
  obtain⟨H6,w1,w2,w3,w4⟩:=fx (n:=6) (vs:=[(AV.str []),AV.ah,(AV.int .i64 0),(AV.int .i64 0),(AV.int .i64 0),(AV.str [])]) c5 rfl rfl rfl
  have hc6:ar H6 H.next 0 6=some [(AV.str []),AV.ah,(AV.int .i64 0),(AV.int .i64 0),(AV.int .i64 0),(AV.str [])]:=w2.ar 6 0 (by show 0+6<=6;omega)
  refine⟨H6,(fin BX (fun j hj=>by rw[No] at hj;omega)).then w3 fun j hj=>by rw[No] at hj;exact .inr (by omega),.inr ⟨v1,[(AV.str []),AV.ah,(AV.int .i64 0),(AV.int .i64 0),(AV.int .i64 0),(AV.str [])],Vf ?_,rfl,rfl⟩⟩
  unfold Ix
  simp(disch:=first|exact zqz|fail)only[y1,y2,JF,aC,CN,LW,hH3,SX,s1,RS,v3,w1,hc6,av,au,ai,aj,simprocAttr]
end Go.Proofs.YtodfajmihkagnaaGreatDoor.DfK
