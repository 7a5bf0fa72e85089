/- Laws that the proof uses. -/
import Derived.Test.YtodfajmihkagnaaGreatDoorDfKb
import Derived.Test.YtodfajmihkagnaaGreatDoorAm16
import Derived.Lib.ItoaNum
import Derived.Test.YtodfajmihkagnaaGreatDoorAm13
set_option linter.unusedVariables false
set_option linter.unusedSimpArgs false
set_option maxRecDepth 10000
namespace Go.Proofs.YtodfajmihkagnaaGreatDoor.me
open Go Am
abbrev aq:=List Nat
def cx (c:Nat):aq->List aq
 | []=>[[]]
 | b::s=>if b=c then []::cx c s else match cx c s with | []=>[[b]] | h::t=>(b::h)::t
theorem wG (c:Nat):∀ s,cx c s≠[]
 | []=>by simp[cx]
 | b::s=>by
  unfold cx
  split
  ·simp
  ·split<;>simp
theorem KP {c:Nat}:∀ {s:aq},c∉s->cx c s=[s]
 | [],_=>rfl
 | b::s,h=>by
  rw[aaY,not_or] at h
  unfold cx
  rw[if_neg (fun e=>h.1 e.symm),KP h.2]
theorem LC {c:Nat}:∀ {a:aq} (r:aq),c∉a->cx c (a++c::r)=a::cx c r
 | [],r,_=>by
  show cx c (c::r)=_
  unfold cx
  rw[if_pos rfl]
  cases r<;>rfl
 | b::a,r,h=>by
  rw[aaY,not_or] at h
  show cx c (b::(a++c::r))=_
  have:=LC r h.2
  rw[cx,if_neg (fun e=>h.1 e.symm),this]
theorem P1 {c:Nat}:∀ {s:aq} {k:Nat},jD c s k=none->c∉s
 | [],k,_=>by simp
 | b::s,k,h=>by
  unfold jD at h
  cases hb:Nat.beq b c with
  | true=>rw[hb] at h;cases h
  | false=>
   rw[hb] at h
   have h1:b≠c:=fun e=>by subst e;rw[ahj] at hb;cases hb
   rw[aaY,not_or]
   exact⟨fun e=>h1 e.symm,P1 h⟩
theorem HV {c:Nat}:∀ {s:aq} {k i:Nat},jD c s k=some i->∃ a r,s=a++c::r/\i=k+a.length/\c∉a
 | [],k,i,h=>by cases h
 | b::s,k,i,h=>by
  unfold jD at h
  cases hb:Nat.beq b c with
  | true=>
   rw[hb] at h
   cases h
   have:b=c:=aa9 hb
   subst this
   exact⟨[],s,rfl,rfl,by simp⟩
  | false=>
   rw[hb] at h
   have h1:b≠c:=fun e=>by subst e;rw[ahj] at hb;cases hb
   obtain⟨a,r,rfl,rfl,h3⟩:=HV h
   refine⟨b::a,r,rfl,by simp;omega,?_⟩
   rw[aaY,not_or]
   exact⟨fun e=>h1 e.symm,h3⟩
theorem abI {c:Nat}:∀ {a:aq} (r:aq) (k:Nat),c∉a->jD c (a++c::r) k=some (k+a.length)
 | [],r,k,_=>by
  show jD c (c::r) k=_
  unfold jD
  rw[ahj];rfl
 | b::a,r,k,h=>by
  rw[aaY,not_or] at h
  show jD c (b::(a++c::r)) k=_
  unfold jD
  have hb:Nat.beq b c=false:=by
   rw[<-agC];exact fun e=>h.1 (aa9 e).symm
  rw[hb,cond_false,abI r (k+1) h.2,aaN]
  congr 1;omega
theorem CA (c:Nat):∀ s,(cx c s).length=gg c s+1
 | []=>rfl
 | b::s=>by
  have ih:=CA c s
  unfold cx gg
  by_cases h:b=c
  ·subst h
   rw[if_pos rfl,ahj,cond_true,aaN,ih]
  ·have hb:Nat.beq b c=false:=by
    rw[<-agC];exact fun e=>h (aa9 e)
   rw[if_neg h,hb,cond_false]
   cases hs:cx c s with
   | nil=>exact absurd hs (wG c s)
   | cons x y=>rw[hs] at ih;exact ih
theorem Kc (c:Nat):∀ s:aq,gg c s<=s.length
 | []=>aaH _
 | b::s=>by
  have:=Kc c s
  unfold gg
  cases Nat.beq b c<;>simp<;>omega
theorem EA {c:Nat}:∀ {s:aq} {p:aq},p∈cx c s->(∀ b∈p,b∈s)/\c∉p/\p.length<=s.length
 | [],p,h=>by
  have:p=[]:=by simpa[cx] using h
  subst this;simp
 | b::s,p,h=>by
  unfold cx at h
  by_cases hb:b=c
  ·rw[if_pos hb] at h
   rcases aaY.1 h with rfl | h
   ·simp
   ·obtain⟨h1,h2,h3⟩:=EA h
    exact⟨fun x hx => .tail _ (h1 x hx),h2,by simp;omega⟩
  ·rw[if_neg hb] at h
   cases hs:cx c s with
   | nil=>exact absurd hs (wG c s)
   | cons x y=>
    rw[hs] at h
    rcases aaY.1 h with rfl | h
    ·obtain⟨h1,h2,h3⟩:=EA (c:=c) (s:=s) (p:=x) (by rw[hs];exact .head _)
     refine⟨fun z hz => ?_,?_,by simp;omega⟩
     ·rcases aaY.1 hz with rfl | hz
      ·exact .head _
      ·exact .tail _ (h1 z hz)
     ·rw[aaY,not_or];exact⟨fun e=>hb e.symm,h2⟩
    ·obtain⟨h1,h2,h3⟩:=EA (c:=c) (s:=s) (p:=p) (by rw[hs];exact .tail _ h)
     exact⟨fun z hz => .tail _ (h1 z hz),h2,by simp;omega⟩
def jk (c:Nat):List aq->aq
 | []=>[]
 | [a]=>a
 | a::b::l=>a++c::jk c (b::l)
theorem KX {c:Nat}:∀ {l:List aq},l≠[]->(∀ p∈l,c∉p)->cx c (jk c l)=l
 | [],h,_=>absurd rfl h
 | [a],_,h=>KP (h a (.head _))
 | a::b::l,_,h=>by
  show cx c (a++c::jk c (b::l))=_
  rw[LC _ (h a (.head _)),KX (by simp) fun p hp=>h p (.tail _ hp)]
theorem WE (c:Nat):∀ s,jk c (cx c s)=s
 | []=>rfl
 | b::s=>by
  have ih:=WE c s
  unfold cx
  by_cases h:b=c
  ·rw[if_pos h]
   cases hs:cx c s with
   | nil=>exact absurd hs (wG c s)
   | cons x y=>rw[hs] at ih;show[]++c::jk c (x::y)=_;rw[ih,h];rfl
  ·rw[if_neg h]
   cases hs:cx c s with
   | nil=>exact absurd hs (wG c s)
   | cons x y=>
    rw[hs] at ih
    cases y with
    | nil=>show b::x=_;rw[<-ih];rfl
    | cons z w=>show b::x++c::jk c (z::w)=_;rw[<-ih];rfl
end Go.Proofs.YtodfajmihkagnaaGreatDoor.me
namespace Go.Proofs.YtodfajmihkagnaaGreatDoor.DfK
open Go Am Am.K jY me
theorem LL {aY:Nat}{k:Ext}{fn:Func}{args:List AV}{H:Hp}{r:AV × Hp}(hp:aR aY=none)(hf:P.funcs[aY]? = some fn)(hb:fn.body=none)(he:ext aY=some k)(h:BJ P k args H=some r):cK (.func (.func aY) [] []) args H=some r:=by
 refine Rm Lo ?_
 unfold vu
 simp only[hp,aiT,ahD,hf,hb,he]
 exact h
def lB:Option Nat->Int
 | some i=>i
 | none => -1
theorem afd {c:Nat}(hc:c<256)(s:aq)(H:Hp):cK (.func (.func 197) [] []) [.str s,.int .u8 c] H=some (.int .i64 (lB (jD c s 0)),H):=by
 refine LL (k := .La) (by kernel_rfl) Tryz.func197 rfl (by kernel_rfl) ?_
 show some (AV.int .i64 (match jD (Int.toNat (c:Int) % 256) s 0 with | some i=>(i:Int) | none => -1),H)=_
 rw[acT,akv hc]
 cases jD c s 0<;>rfl
theorem adg {c:Nat}(hc:c<256)(s:aq)(H:Hp):cK (.func (.func 171) [] []) [.str s,.int .u8 c] H=some (.int .i64 (gg c s:Nat),H):=by
 refine LL (k := .count) (by kernel_rfl) Tryz.func171 rfl (by kernel_rfl) ?_
 show some (AV.int .i64 (gg (Int.toNat (c:Int) % 256) s:Nat),H)=_
 rw[acT,akv hc]
theorem agH {c:Nat}(hc:c<256)(s:aq)(H:Hp):cK (.func (.func 186) [] []) [.str s,.int .u8 c] H=some (.int .i64 (lB (jD c s 0)),H):=by
 refine agw ?_
 unfold ZD
 simp only[afd hc,aj,ai,Int.reduceBEq,Int.reduceBNe,Int.reduceLT,Int.reduceLE,Int.reduceGT,Int.reduceGE,Int.reduceNeg]
theorem Pj {c:Nat}(hc:c<256)(s:aq)(H:Hp):cK (.func (.func 172) [] []) [.str s,.str [c]] H=some (.int .i64 (lB (jD c s 0)),H):=by
 refine ajw ?_
 unfold NZ
 have h1:ue (.str [c]) (.int .i64 0)=some (.int .u8 c):=aag .i64 rfl
 simp only[agH hc,h1,aaN,ads,Int.ofNat_one,Nat.reduceAdd,Int.natCast_one,aj,ai,Int.reduceBEq,Int.reduceBNe,Int.reduceLT,Int.reduceLE,Int.reduceGT,Int.reduceGE,Int.reduceNeg]
 rw[MP]
 split
 ·rename_i h
  have h:[c]=s:=by simpa using h
  subst h
  unfold jD
  rw[ahj];rfl
 ·rfl
theorem akc {c:Nat}(hc:c<256)(s:aq)(H:Hp):cK (.func (.func 151) [] []) [.str s,.str [c]] H=some (.int .i64 (lB (jD c s 0)),H):=by
 refine apr ?_
 unfold Wl
 simp only[Pj hc,aj,ai,Int.reduceBEq,Int.reduceBNe,Int.reduceLT,Int.reduceLE,Int.reduceGT,Int.reduceGE,Int.reduceNeg]
theorem air {c:Nat}(hc:c<256)(s:aq)(H:Hp):cK (.func (.func 150) [] []) [.str s,.str [c]] H=some (.int .i64 (gg c s:Nat),H):=by
 refine amh ?_
 unfold aaC
 have h1:ue (.str [c]) (.int .i64 0)=some (.int .u8 c):=aag .i64 rfl
 simp only[adg hc,h1,aaN,ads,Int.ofNat_one,Nat.reduceAdd,Int.natCast_one,aj,ai,Int.reduceBEq,Int.reduceBNe,Int.reduceLT,Int.reduceLE,Int.reduceGT,Int.reduceGE,Int.reduceNeg]
def cut (c:Nat)(s:aq):aq × aq × Bool:=match jD c s 0 with
 | some i=>(s.take i,s.drop (i+1),true)
 | none=>(s,[],false)
theorem agG {c:Nat}(hc:c<256){s:aq}(hs:s.length<=1073741824)(H:Hp):cK (.func (.func 152) [] []) [.str s,.str [c]] H=some (.tuple [.str (cut c s).1,.str (cut c s).2.1,.bool (cut c s).2.2],H):=by
 refine aiH ?_
 unfold U9 cut
 cases hi:jD c s 0 with
 | none=>
  have d:decide ((0:Int) <= -1)=false:=by decide
  simp only[Pj hc,hi,lB,d,aj,ai,Int.reduceBEq,Int.reduceBNe,Int.reduceLT,Int.reduceLE,Int.reduceGT,Int.reduceGE,Int.reduceNeg]
 | some i=>
  obtain⟨a,r,rfl,rfl,ha⟩:=HV hi
  rw[ad6] at hi
  simp only[aa0,aaN] at hs
  have d:decide ((0:Int)<=((a.length:Nat):Int))=true:=decide_eq_true (by omega)
  have w:IntKind.wrap .i64 ((a.length:Int)+((1:Nat):Int))=((a.length+1:Nat):Int):=by rw[wrap_i64 (by omega) (by omega)];rfl
  have h1:nJ (.str (a++c::r)) none (some (.int .i64 (a.length:Nat)))=some (.str ((a++c::r).take a.length)):=US .i64 (by simp)
  have h2:nJ (.str (a++c::r)) (some (.int .i64 (a.length+1:Nat))) none=some (.str ((a++c::r).drop (a.length+1))):=Vk .i64 (by simp)
  simp only[Pj hc,hi,lB,d,h1,h2,w,aaN,ads,ad6,aj,ai,Int.reduceBEq,Int.reduceBNe,Int.reduceLT,Int.reduceLE,Int.reduceGT,Int.reduceGE,Int.reduceNeg]
theorem alx {c:Nat}(hc:c<256){s:aq}(hs:s.length<=1073741824)(H:Hp):cK (.func (.func 117) [] []) [.str s,.str [c]] H=some (.tuple [.str (cut c s).1,.str (cut c s).2.1,.bool (cut c s).2.2],H):=by
 refine am7 ?_
 unfold W5
 simp only[agG hc hs,aj,ai,Int.reduceBEq,Int.reduceBNe,Int.reduceLT,Int.reduceLE,Int.reduceGT,Int.reduceGE,Int.reduceNeg]
def strs (l:List aq):List AV:=l.map .str
theorem ji (l:List aq):(strs l).length=l.length:=by simp[strs]
theorem EJ (a b:List aq):strs (a++b)=strs a++strs b:=by simp[strs]
theorem yP {l:List aq}{j:Nat}{z:aq}(h:l[j]? = some z):(strs l)[j]? = some (.str z):=by simp[strs,h]
theorem akC {c:Nat}(hc:c<256){A n:Nat}{el:Nat}:∀ (m:Nat) (s:aq) (dn:List aq) (H:Hp),s.length=m->m<=1073741824->n<=1073741824->dn.length+(cx c s).length=n->Cs H A (strs dn++List.replicate (n-dn.length) (AV.str [])) el 0->
  ∃ AB s' H',(∀ k:K.Fn 3,Ek JN GO cK k (.str s) (.str [c]) (.int .i64 0) (.int .i64 ((n-1:Nat):Int)) (.slice A 0 n n true 1) (.int .i64 (dn.length:Nat)) H=k (.str s') (.slice A 0 n n true 1) (.int .i64 (AB.length:Nat)) H')/\
   AB++[s']=dn++cx c s/\AB.length<n/\Cs H' A (strs AB++List.replicate (n-AB.length) (AV.str [])) el 0/\Out [A] H H':=by
 intro m
 induction m using Nat.strongRecOn with
 | _ m ih=>
 intro s dn H hm hmb zp hn hC
 have Gh:=CA c s
 by_cases abw:dn.length+1=n
 ·have Ck:cx c s=[s]:=by
   cases hi:jD c s 0 with
   | none=>exact KP (P1 hi)
   | some i=>
    obtain⟨a,r,rfl,rfl,ha⟩:=HV hi
    have h1:=LC (c:=c) r ha
    have h2:=CA c r
    rw[h1,aaN] at hn
    omega
  have d:decide (((dn.length:Nat):Int)<((n-1:Nat):Int))=false:=decide_eq_false (by omega)
  refine⟨dn,s,H,fun k => ?_,by rw[Ck],by omega,hC,Out.refl _ _⟩
  rw[U7]
  simp only[Ln,d,aj,ai,Int.reduceBEq,Int.reduceBNe,Int.reduceLT,Int.reduceLE,Int.reduceGT,Int.reduceGE,Int.reduceNeg]
 ·have d:decide (((dn.length:Nat):Int)<((n-1:Nat):Int))=true:=decide_eq_true (by omega)
  cases hi:jD c s 0 with
  | none=>
   have Ck:=KP (P1 hi)
   rw[Ck] at hn
   simp only[aaN,ads] at hn
   omega
  | some i=>
   obtain⟨a,r,rfl,rfl,ha⟩:=HV hi
   rw[ad6] at hi
   have h1:=LC (c:=c) r ha
   rw[h1,aaN] at hn
   simp only[aa0,aaN] at hm
   obtain⟨H1,w1,w2,w3,w4⟩:=fG hC (by decide) (o:=dn.length) (by rw[aa0,ji,aeX];omega) (v := .str a) rfl
   have fh:(strs dn++List.replicate (n-dn.length) (AV.str [])).set dn.length (AV.str a)=strs (dn++[a])++List.replicate (n-(dn++[a]).length) (AV.str []):=by
    rw[ajU _ _ (by rw[ji];omega),ji,ahF,EJ,ae9]
    congr 1
    rw[aa0,show n-dn.length=(n-(dn.length + [a].length))+1 by simp;omega,List.replicate_succ]
    rfl
   rw[fh] at w2
   obtain⟨AB,s',H',i1,i2,i3,i4,i5⟩:=ih r.length (by omega) r (dn++[a]) H1 rfl (by omega) zp (by rw[aa0];simp;omega) w2
   have d2:decide ((((a.length:Nat)):Int)<0)=false:=decide_eq_false (by omega)
   have e1:IntKind.wrap .i64 ((a.length:Int)+0)=((a.length:Nat):Int):=by rw[wrap_i64 (by omega) (by omega)];omega
   have e2:IntKind.wrap .i64 ((a.length:Int)+((1:Nat):Int))=((a.length+1:Nat):Int):=by rw[wrap_i64 (by omega) (by omega)];rfl
   have e3:IntKind.wrap .i64 ((dn.length:Int)+1)=(((dn++[a]).length:Nat):Int):=by rw[wrap_i64 (by omega) (by omega),aa0];rfl
   have q1:nJ (.str (a++c::r)) none (some (.int .i64 (a.length:Nat)))=some (.str a):=by rw[US .i64 (by simp)];simp
   have q2:nJ (.str (a++c::r)) (some (.int .i64 (a.length+1:Nat))) none=some (.str r):=by rw[Vk .i64 (by simp)];simp[List.drop_append]
   have q3:ia 1 (.slice A 0 n n true 1) (.int .i64 (dn.length:Nat))=some (.ptr A dn.length):=by rw[yh (by omega)];simp
   refine⟨AB,s',H',fun k => ?_,by rw[i2,h1,ae9];rfl,i3,i4,w3.trans i5⟩
   rw[U7]
   simp only[Ln,d,akc hc,hi,lB,d2,e1,q1,q3,w1,aaN,ads,e2,q2,e3,i1,aj,ai,Int.reduceBEq,Int.reduceBNe,Int.reduceLT,Int.reduceLE,Int.reduceGT,Int.reduceGE,Int.reduceNeg]
theorem X6 {H:Hp}{z:AV}{el n:Nat}(k j:IntKind)(hn:n<=1048576):xj [z] el 1 (.int k n) (.int j n) H=some (.slice H.next 0 n n true 1,al H (List.replicate n z) el 0):=by
 unfold xj
 have hr:rep n [z]=List.replicate n z:=by
  unfold rep
  induction n with
  | zero=>rfl
  | succ m ih=>rw[List.replicate_succ,aj1,ih (by omega),List.replicate_succ];rfl
 simp only
 rw[if_pos ⟨by omega,by omega,by omega⟩,acT,hr,gB (by rw[aeX];omega)]
 rfl
theorem apK {c:Nat}(hc:c<256){s:aq}(hs:s.length<=1000000)(H:Hp) :
  ∃ x H',cK (.func (.func 116) [] []) [.str s,.str [c],.int .i64 0,.int .i64 (-1)] H=some (x,H')/\Rw H' 1 x (strs (cx c s))/\Out [] H H'/\∀ j∈ak x,H.next<=j:=by
 have hn:=CA c s
 have hle:=Kc c s
 have e0:([c]==([]:List Nat))=false:=rfl
 have e1:IntKind.wrap .i64 ((gg c s:Int)+1)=((gg c s+1:Nat):Int):=by rw[wrap_i64 (by omega) (by omega)];rfl
 have e2:IntKind.wrap .i64 ((s.length:Int)+1)=((s.length+1:Nat):Int):=by rw[wrap_i64 (by omega) (by omega)];rfl
 have e3:(if ((s.length+1:Nat):Int)<((gg c s+1:Nat):Int) then ((s.length+1:Nat):Int) else ((gg c s+1:Nat):Int))=((gg c s+1:Nat):Int):=if_neg (by omega)
 have e4:IntKind.wrap .i64 (((gg c s+1:Nat):Int)-1)=((gg c s+1-1:Nat):Int):=by rw[wrap_i64 (by omega) (by omega)];omega
 have hm:=X6 (H:=H) (z := .str []) (el:=9) (n:=gg c s+1) .i64 .i64 (by omega)
 have hC:Cs (al H (List.replicate (gg c s+1) (AV.str [])) 9 0) H.next (strs []++List.replicate (gg c s+1-([]:List aq).length) (AV.str [])) 9 0:=bo H _ _ _
 obtain⟨dn,s',H1,i1,i2,i3,i4,i5⟩:=akC hc (n:=gg c s+1) s.length s [] _ rfl (by omega) (by omega) (by simp;omega) hC
 obtain⟨H2,w1,w2,w3,w4⟩:=fG i4 (by decide) (o:=dn.length) (by rw[aa0,ji,aeX];omega) (v := .str s') rfl
 have fO:dn.length+1=gg c s+1:=by
  have:=congrArg List.length i2
  simp only[aa0,aaN,ads] at this
  omega
 have fh:(strs dn++List.replicate (gg c s+1-dn.length) (AV.str [])).set dn.length (AV.str s')=strs (cx c s):=by
  rw[ajU _ _ (by rw[ji];omega),ji,ahF,show gg c s+1-dn.length=1 by omega]
  have:cx c s=dn++[s']:=by rw[i2];rfl
  rw[this,EJ];rfl
 rw[fh] at w2
 have e5:IntKind.wrap .i64 ((dn.length:Int)+1)=((gg c s+1:Nat):Int):=by rw[wrap_i64 (by omega) (by omega)];omega
 have q3:ia 1 (.slice H.next 0 (gg c s+1) (gg c s+1) true 1) (.int .i64 (dn.length:Nat))=some (.ptr H.next dn.length):=by rw[yh (by omega)];simp
 have Fw:Rw H2 1 (.slice H.next 0 (gg c s+1) (gg c s+1) true 1) (strs (cx c s)) := .mk w2.ro (by rw[ji,hn,agf]) (aaH _) (by rw[nW (Nat.succ_ne_zero _)];rfl)
 obtain⟨x,x1,x2,x3⟩:=Hk (n:=gg c s+1) Fw (by rw[ji,hn,agf]) (by decide) (a:=0) (b:=gg c s+1) (lo:=none) (hi:=some (.int .i64 (gg c s+1:Nat))) (by omega) (aaH _) (Bd.no 0) (Bd.yes _ _ _)
 rw[ahk,ada,agR,agf,afi (by rw[ji];omega)] at x2
 refine⟨x,H2,adS ?_,x2,?_,fun j hj => ?_⟩
 ·unfold RP
  have CO:=i1
  simp only[ads] at CO
  rw[show (((0:Nat):Int))=0 from rfl] at CO
  simp only[e0,air hc,e1,e2,Av,e3,hm,e4,CO,q3,w1,e5,x1,aj,ai,Int.reduceBEq,Int.reduceBNe,Int.reduceLT,Int.reduceLE,Int.reduceGT,Int.reduceGE,Int.reduceNeg]
 ·have:Out [H.next] (al H (List.replicate (gg c s+1) (AV.str [])) 9 0) H2:=i5.trans w3
  exact (aJ H _ _ _).then this fun j hj=>by rw[No] at hj;exact .inr (by omega)
 ·have:=x3 j hj
  rw[my (by rw[nW (Nat.succ_ne_zero _)];rfl)] at this
  rw[No] at this;omega
theorem Oj {c:Nat}(hc:c<256){s:aq}(hs:s.length<=1000000)(H:Hp) :
  ∃ x H',cK (.func (.func 88) [] []) [.str s,.str [c]] H=some (x,H')/\Rw H' 1 x (strs (cx c s))/\Out [] H H'/\∀ j∈ak x,H.next<=j:=by
 obtain⟨x,H',h1,h2⟩:=apK hc hs H
 refine⟨x,H',alA ?_,h2⟩
 unfold UP
 simp only[h1,aj,ai,Int.reduceBEq,Int.reduceBNe,Int.reduceLT,Int.reduceLE,Int.reduceGT,Int.reduceGE,Int.reduceNeg]
def ints (l:List Int):List AV:=l.map fun z => .int .i64 z
theorem lW (l:List Int):(ints l).length=l.length:=by simp[ints]
theorem afP (l:List Int):∀ v∈ints l,ba v=true:=by
 intro v hv
 obtain⟨b,_,rfl⟩:=adD.1 hv
 rfl
theorem Kq (a b:List Int):ints (a++b)=ints a++ints b:=by simp[ints]
theorem Di {l:List Int}{j:Nat}{z:Int}(h:l[j]? = some z):(ints l)[j]? = some (.int .i64 z):=by simp[ints,h]
theorem Gn (o:Option Nat):decide ((0:Int)<=lB o)=o.isSome:=by
 cases o with
 | none=>rfl
 | some i=>exact decide_eq_true (by show (0:Int)<=(i:Int);omega)
theorem gq {i n:Nat}(h:i<n)(hn:n<=16777216):IntKind.wrap .i64 ((i:Int)+1)=((i+1:Nat):Int):=by rw[wrap_i64 (by omega) (by omega)];rfl
theorem bH {i n:Nat}(h:i<n):decide (((i:Nat):Int)<((n:Nat):Int))=true:=decide_eq_true (by omega)
theorem fZ {n:Nat}:decide (((n:Nat):Int)<((n:Nat):Int))=false:=decide_eq_false (by omega)
theorem drop_nil {α:Type}{l:List α}{i:Nat}(hi:i<=l.length)(h:l.drop i=[]):i=l.length:=by
 have:=congrArg List.length h
 rw[afK,ads] at this;omega
theorem Ve {x:AV}{l:List aq}{s:aq}{H:Hp}(hx:Rw H 1 x (strs l))(hl:l.length<=16777216)(k:K.Fn 0):∀ (r:List aq) (i:Nat),i<=l.length->l.drop i=r->
  Gv JN GO cK k x (.str s) (.int .i64 (l.length:Nat)) (.int .i64 (i:Nat)) H=match r.findIdx? (fun a=>s==a) with | some j=>some (.int .i64 ((i+j:Nat):Int),H) | none=>k H
 | [],i,hi,h=>by
  obtain rfl:=drop_nil hi h
  rw[Zp]
  simp only[Sg,fZ,List.findIdx?_nil,aj,ai,simprocAttr]
 | a::r,i,hi,h=>by
  obtain⟨h1,h2,h3⟩:=gy h
  obtain⟨q,q1,q2⟩:=hx.mb (yP h2) .i64
  have e:=gq h1 hl
  have ih:=Ve (s:=s) hx hl k r (i+1) h1 h3
  rw[Zp]
  simp only[Sg,bH h1,q1,q2,e,ih,MP,aia,aj,ai,simprocAttr]
  cases hb:(s==a) with
  | true=>simp
  | false=>
   cases hf:r.findIdx? (fun a=>s==a) with
   | none=>simp
   | some j=>simp;omega
theorem NQ {x:AV}{l:List aq}{H:Hp}(hx:Rw H 1 x (strs l))(hl:l.length<=16777216)(s:aq):cK (.func (.func 104) [] []) [x,.str s] H=some (.int .i64 (lB (l.findIdx? (fun a=>s==a))),H):=by
 refine amm ?_
 unfold Zr
 have h1:=hx.mZ
 rw[ji] at h1
 have h2:=fun k=>Ve (s:=s) hx hl k l 0 (ac4 _) ada
 rw[show (((0:Nat):Int))=0 from rfl] at h2
 simp only[h1,h2,aj,ai,simprocAttr]
 cases l.findIdx? (fun a=>s==a)<;>rfl
theorem Xv {x:AV}{l:List aq}{H:Hp}(hx:Rw H 1 x (strs l))(hl:l.length<=16777216)(s:aq):cK (.func (.func 94) [] []) [x,.str s] H=some (.bool (l.any (fun a=>s==a)),H):=by
 refine ap0 ?_
 unfold SR
 simp only[NQ hx hl,Gn,List.findIdx?_isSome,aj,ai,simprocAttr]
theorem acg {x:AV}{l:List Int}{s:Int}{H:Hp}(hx:Rw H 1 x (ints l))(hl:l.length<=16777216)(k:K.Fn 0):∀ (r:List Int) (i:Nat),i<=l.length->l.drop i=r->
  EY JN GO cK k x (.int .i64 s) (.int .i64 (l.length:Nat)) (.int .i64 (i:Nat)) H=match r.findIdx? (fun a=>s==a) with | some j=>some (.int .i64 ((i+j:Nat):Int),H) | none=>k H
 | [],i,hi,h=>by
  obtain rfl:=drop_nil hi h
  rw[aby]
  simp only[OF,fZ,List.findIdx?_nil,aj,ai,simprocAttr]
 | a::r,i,hi,h=>by
  obtain⟨h1,h2,h3⟩:=gy h
  obtain⟨q,q1,q2⟩:=hx.mb (Di h2) .i64
  have e:=gq h1 hl
  have ih:=acg (s:=s) hx hl k r (i+1) h1 h3
  rw[aby]
  simp only[OF,bH h1,q1,q2,e,ih,MP,aia,aj,ai,simprocAttr]
  cases hb:(s==a) with
  | true=>simp
  | false=>
   cases hf:r.findIdx? (fun a=>s==a) with
   | none=>simp
   | some j=>simp;omega
theorem akD {x:AV}{l:List Int}{H:Hp}(hx:Rw H 1 x (ints l))(hl:l.length<=16777216)(s:Int):cK (.func (.func 174) [] []) [x,.int .i64 s] H=some (.int .i64 (lB (l.findIdx? (fun a=>s==a))),H):=by
 refine ae5 ?_
 unfold Z7
 have h1:=hx.mZ
 rw[lW] at h1
 have h2:=fun k=>acg (s:=s) hx hl k l 0 (ac4 _) ada
 rw[show (((0:Nat):Int))=0 from rfl] at h2
 simp only[h1,h2,aj,ai,simprocAttr]
 cases l.findIdx? (fun a=>s==a)<;>rfl
theorem aly {x:AV}{l:List Int}{H:Hp}(hx:Rw H 1 x (ints l))(hl:l.length<=16777216)(s:Int):cK (.func (.func 154) [] []) [x,.int .i64 s] H=some (.bool (l.any (fun a=>s==a)),H):=by
 refine agN ?_
 unfold aap
 simp only[akD hx hl,Gn,List.findIdx?_isSome,aj,ai,simprocAttr]
theorem abT {x fv:AV}{l:List Int}{p:Int->Bool}{H0:Hp}(hx:Rw H0 1 x (ints l))(hl:l.length<=16777216)(hp:∀ H,Out [] H0 H->∀ a∈l,∃ H',cK fv [.int .i64 a] H=some (.bool (p a),H')/\Out [] H H'):∀ (r:List Int) (i:Nat) (H:Hp),Out [] H0 H->i<=l.length->l.drop i=r->
  ∃ H',Out [] H H'/\∀ k:K.Fn 0,HA JN GO cK k x fv (.int .i64 (l.length:Nat)) (.int .i64 (i:Nat)) H=match r.findIdx? p with | some j=>some (.int .i64 ((i+j:Nat):Int),H') | none=>k H'
 | [],i,H,ho,hi,h=>by
  obtain rfl:=drop_nil hi h
  refine⟨H,Out.refl _ _,fun k => ?_⟩
  rw[Rv]
  simp only[Le,fZ,List.findIdx?_nil,aj,ai,simprocAttr]
 | a::r,i,H,ho,hi,h=>by
  obtain⟨h1,h2,h3⟩:=gy h
  obtain⟨q,q1,q2⟩:=(hx.out0 ho).mb (Di h2) .i64
  have e:=gq h1 hl
  obtain⟨H1,p1,p2⟩:=hp H ho a (aaF h2)
  cases hb:p a with
  | true=>
   refine⟨H1,p2,fun k => ?_⟩
   rw[Rv]
   simp only[Le,bH h1,q1,q2,p1,hb,aia,if_true,aem,aj,ai,simprocAttr]
  | false=>
   obtain⟨H',i1,i2⟩:=abT hx hl hp r (i+1) H1 (ho.trans p2) h1 h3
   refine⟨H',p2.trans i1,fun k => ?_⟩
   rw[Rv]
   simp only[Le,bH h1,q1,q2,p1,hb,e,i2,aia,aj,ai,simprocAttr]
   cases hf:r.findIdx? p with
   | none=>simp
   | some j=>simp;omega
theorem ags {x fv:AV}{l:List Int}{p:Int->Bool}{H0:Hp}(hx:Rw H0 1 x (ints l))(hl:l.length<=16777216)(hp:∀ H,Out [] H0 H->∀ a∈l,∃ H',cK fv [.int .i64 a] H=some (.bool (p a),H')/\Out [] H H') :
  ∃ H',cK (.func (.func 143) [] []) [x,fv] H0=some (.bool (l.any p),H')/\Out [] H0 H':=by
 obtain⟨H',h1,h2⟩:=abT hx hl hp l 0 H0 (Out.refl _ _) (ac4 _) ada
 rw[show (((0:Nat):Int))=0 from rfl] at h2
 have hn:=hx.mZ
 rw[lW] at hn
 have:cK (.func (.func 163) [] []) [x,fv] H0=some (.int .i64 (lB (l.findIdx? p)),H'):=by
  refine aim ?_
  unfold VE
  simp only[hn,h2,aj,ai,simprocAttr]
  cases l.findIdx? p<;>simp[lB]
 refine⟨H',aee ?_,h1⟩
 unfold WD
 simp only[this,Gn,List.findIdx?_isSome,aj,ai,simprocAttr]
theorem XE {x fv:AV}{L:List (List AV)}{p:List AV->Bool}{H0:Hp}(hx:RL H0 6 x L)(hl:L.length<=16777216)(hp:∀ H,Out [] H0 H->∀ a∈L,∃ H',cK fv [.agg a] H=some (.bool (p a),H')/\Out [] H H'):∀ (r:List (List AV)) (i:Nat) (H:Hp),Out [] H0 H->i<=L.length->L.drop i=r->
  ∃ H',Out [] H H'/\∀ k:K.Fn 0,ED JN GO cK k x fv (.int .i64 (L.length:Nat)) (.int .i64 (i:Nat)) H=match r.findIdx? p with | some j=>some (.int .i64 ((i+j:Nat):Int),H') | none=>k H'
 | [],i,H,ho,hi,h=>by
  obtain rfl:=drop_nil hi h
  refine⟨H,Out.refl _ _,fun k => ?_⟩
  rw[Oa]
  simp only[Kx,fZ,List.findIdx?_nil,aj,ai,simprocAttr]
 | a::r,i,H,ho,hi,h=>by
  obtain⟨h1,h2,h3⟩:=gy h
  obtain⟨b,o,q1,_,_,q2,_⟩:=(hx.out0 ho).at (by decide) h2
  have e:=gq h1 hl
  obtain⟨H1,p1,p2⟩:=hp H ho a (aaF h2)
  cases hb:p a with
  | true=>
   refine⟨H1,p2,fun k => ?_⟩
   rw[Oa]
   simp only[Kx,bH h1,q1,JS,q2,aek,p1,hb,aia,if_true,aem,aj,ai,simprocAttr]
  | false=>
   obtain⟨H',i1,i2⟩:=XE hx hl hp r (i+1) H1 (ho.trans p2) h1 h3
   refine⟨H',p2.trans i1,fun k => ?_⟩
   rw[Oa]
   simp only[Kx,bH h1,q1,JS,q2,aek,p1,hb,e,i2,aia,aj,ai,simprocAttr]
   cases hf:r.findIdx? p with
   | none=>simp
   | some j=>simp;omega
theorem akw {x fv:AV}{L:List (List AV)}{p:List AV->Bool}{H0:Hp}(hx:RL H0 6 x L)(hl:L.length<=16777216)(hp:∀ H,Out [] H0 H->∀ a∈L,∃ H',cK fv [.agg a] H=some (.bool (p a),H')/\Out [] H H') :
  ∃ H',cK (.func (.func 95) [] []) [x,fv] H0=some (.bool (L.any p),H')/\Out [] H0 H':=by
 obtain⟨H',h1,h2⟩:=XE hx hl hp L 0 H0 (Out.refl _ _) (ac4 _) ada
 rw[show (((0:Nat):Int))=0 from rfl] at h2
 have hn:=hx.len (by decide)
 have:cK (.func (.func 135) [] []) [x,fv] H0=some (.int .i64 (lB (L.findIdx? p)),H'):=by
  refine an2 ?_
  unfold Wt
  simp only[hn,h2,aj,ai,simprocAttr]
  cases L.findIdx? p<;>simp[lB]
 refine⟨H',ank ?_,h1⟩
 unfold Th
 simp only[this,Gn,List.findIdx?_isSome,aj,ai,simprocAttr]
theorem aov {H:Hp}{x:AV}{l:List AV}(hx:Rw H 1 x l)(ho:∀ v∈l,ba v=true)(hl:l.length<=16777216) :
  ∃ y H',cK (.func (.func 137) [] []) [x] H=some (y,H')/\Ow H' 3 1 y l/\Out [] H H'/\(∀ j∈ak y,H.next<=j)/\(x = .ah->y = .ah):=by
 have hu:P.underlying 97=some (.slice 3):=Tryz.underlying97
 by_cases h0:x = .ah
 ·subst h0
  have:l=[]:=by cases hx;rfl
  subst this
  refine⟨.ah,H,YN ?_,.nil,Out.refl _ _,fun j hj=>by simp[ak] at hj,fun _=>rfl⟩
  unfold PW
  simp only[Ez,lf,Ht hu,aj,ai,simprocAttr]
 ·obtain⟨y,H',h1,h2,h3,h4⟩:=Ej (el:=3) (fJ:=3) (z:=[(.int .i64 0)]) hx ho (by decide) hl
  refine⟨y,H',YN ?_,h2,h3,h4,fun q=>absurd q h0⟩
  have hq:∃ i o n c ex aL,x = .slice i o n c ex aL:=by
   cases hx with
   | nil=>exact absurd rfl h0
   | emp=>exact⟨_,_,_,_,_,_,rfl⟩
   | mk _ _ _ _=>exact⟨_,_,_,_,_,_,rfl⟩
  obtain⟨i,o,n,c,ex,aL,rfl⟩:=hq
  unfold PW
  have dN:aE H [] 3 0=some (H.next,al H [] 3 0):=gB (by simp)
  simp only[F3,lf,HR hu,tP,dN,h1,aj,ai,simprocAttr]
theorem Y8 {H:Hp}{x:AV}{l:List AV}(hx:Rw H 1 x l)(ho:∀ v∈l,ba v=true)(hl:l.length<=16777216) :
  ∃ y H',cK (.func (.func 30) [] []) [x] H=some (y,H')/\Ow H' 9 1 y l/\Out [] H H'/\(∀ j∈ak y,H.next<=j)/\(x = .ah->y = .ah):=by
 have hu:P.underlying 46=some (.slice 9):=Tryz.underlying46
 by_cases h0:x = .ah
 ·subst h0
  have:l=[]:=by cases hx;rfl
  subst this
  refine⟨.ah,H,UH ?_,.nil,Out.refl _ _,fun j hj=>by simp[ak] at hj,fun _=>rfl⟩
  unfold PJ
  simp only[Ez,lf,Ht hu,aj,ai,simprocAttr]
 ·obtain⟨y,H',h1,h2,h3,h4⟩:=Ej (el:=9) (fJ:=9) (z:=[(.str [])]) hx ho (by decide) hl
  refine⟨y,H',UH ?_,h2,h3,h4,fun q=>absurd q h0⟩
  have hq:∃ i o n c ex aL,x = .slice i o n c ex aL:=by
   cases hx with
   | nil=>exact absurd rfl h0
   | emp=>exact⟨_,_,_,_,_,_,rfl⟩
   | mk _ _ _ _=>exact⟨_,_,_,_,_,_,rfl⟩
  obtain⟨i,o,n,c,ex,aL,rfl⟩:=hq
  unfold PJ
  have dN:aE H [] 9 0=some (H.next,al H [] 9 0):=gB (by simp)
  simp only[F3,lf,HR hu,tP,dN,h1,aj,ai,simprocAttr]
theorem ah6 {H:Hp}{x:AV}{l:List AV}(hx:Rw H 6 x l)(ho:∀ v∈l,ba v=true)(hl:l.length<=16777216) :
  ∃ y H',cK (.func (.func 136) [] []) [x] H=some (y,H')/\Ow H' 99 6 y l/\Out [] H H'/\(∀ j∈ak y,H.next<=j)/\(x = .ah->y = .ah):=by
 have hu:P.underlying 70=some (.slice 99):=Tryz.underlying70
 by_cases h0:x = .ah
 ·subst h0
  have:l=[]:=by cases hx;rfl
  subst this
  refine⟨.ah,H,aaq ?_,.nil,Out.refl _ _,fun j hj=>by simp[ak] at hj,fun _=>rfl⟩
  unfold LN
  simp only[Ez,lf,Ht hu,aj,ai,simprocAttr]
 ·obtain⟨y,H',h1,h2,h3,h4⟩:=Ej (el:=99) (fJ:=99) (z:=[(.str []),.ah,(.int .i64 0),(.int .i64 0),(.int .i64 0),(.str [])]) hx ho (by decide) hl
  refine⟨y,H',aaq ?_,h2,h3,h4,fun q=>absurd q h0⟩
  have hq:∃ i o n c ex aL,x = .slice i o n c ex aL:=by
   cases hx with
   | nil=>exact absurd rfl h0
   | emp=>exact⟨_,_,_,_,_,_,rfl⟩
   | mk _ _ _ _=>exact⟨_,_,_,_,_,_,rfl⟩
  obtain⟨i,o,n,c,ex,aL,rfl⟩:=hq
  unfold LN
  have dN:aE H [] 99 0=some (H.next,al H [] 99 0):=gB (by simp)
  simp only[F3,lf,HR hu,tP,dN,h1,aj,ai,simprocAttr]
theorem aot {H:Hp}{x:AV}{l:List AV}(hx:Rw H 4 x l)(ho:∀ v∈l,ba v=true)(hl:l.length<=16777216) :
  ∃ y H',cK (.func (.func 138) [] []) [x] H=some (y,H')/\Ow H' 132 4 y l/\Out [] H H'/\(∀ j∈ak y,H.next<=j)/\(x = .ah->y = .ah):=by
 have hu:P.underlying 73=some (.slice 132):=Tryz.underlying73
 by_cases h0:x = .ah
 ·subst h0
  have:l=[]:=by cases hx;rfl
  subst this
  refine⟨.ah,H,Tv ?_,.nil,Out.refl _ _,fun j hj=>by simp[ak] at hj,fun _=>rfl⟩
  unfold Rh
  simp only[Ez,lf,Ht hu,aj,ai,simprocAttr]
 ·obtain⟨y,H',h1,h2,h3,h4⟩:=Ej (el:=132) (fJ:=132) (z:=[(.int .i64 0),(.int .i64 0),(.int .i64 0),(.str [])]) hx ho (by decide) hl
  refine⟨y,H',Tv ?_,h2,h3,h4,fun q=>absurd q h0⟩
  have hq:∃ i o n c ex aL,x = .slice i o n c ex aL:=by
   cases hx with
   | nil=>exact absurd rfl h0
   | emp=>exact⟨_,_,_,_,_,_,rfl⟩
   | mk _ _ _ _=>exact⟨_,_,_,_,_,_,rfl⟩
  obtain⟨i,o,n,c,ex,aL,rfl⟩:=hq
  unfold Rh
  have dN:aE H [] 132 0=some (H.next,al H [] 132 0):=gB (by simp)
  simp only[F3,lf,HR hu,tP,dN,h1,aj,ai,simprocAttr]
open jQ
structure Gl (H:Hp):Prop where
 pow:∀ i:Nat,i<20->cellAt H 0 i=some (.int .u64 ((10 ^ i:Nat):Int))
 err:IC H
 nx:11<=H.next
theorem QQ {H:Hp}{L:List (Nat × List AV)}(h:DE H L){g:Nat}{l:List AV}(hm:(g,l)∈L){k:Nat}{v:AV}(hk:l[k]? = some v):cellAt H g k=some v:=by
 obtain⟨el,h⟩:=h
 have h1:=h g l hm
 have jF:=(aas.1 hk).1
 unfold cellAt
 rw[h1]
 have hb:(Nat.ble 0 k&&Nat.blt k l.length)=true:=by
  rw[aaG,aez,ad5];omega
 simp only[hb,cond_true]
 rw[wY,if_pos (by omega)]
 exact hk
theorem ahW:∀ i:Fin 20,(Jf.map (AV.int .u64))[i.val]? = some (.int .u64 ((10 ^ i.val:Nat):Int)):=by
 intro i
 match i with
 | ⟨0,_⟩=>rfl
 | ⟨1,_⟩=>rfl
 | ⟨2,_⟩=>rfl
 | ⟨3,_⟩=>rfl
 | ⟨4,_⟩=>rfl
 | ⟨5,_⟩=>rfl
 | ⟨6,_⟩=>rfl
 | ⟨7,_⟩=>rfl
 | ⟨8,_⟩=>rfl
 | ⟨9,_⟩=>rfl
 | ⟨10,_⟩=>rfl
 | ⟨11,_⟩=>rfl
 | ⟨12,_⟩=>rfl
 | ⟨13,_⟩=>rfl
 | ⟨14,_⟩=>rfl
 | ⟨15,_⟩=>rfl
 | ⟨16,_⟩=>rfl
 | ⟨17,_⟩=>rfl
 | ⟨18,_⟩=>rfl
 | ⟨19,_⟩=>rfl
 | ⟨n+20,h⟩=>omega
theorem Gl.of {H:Hp}(h:DE H pf)(hn:11<=H.next):Gl H where
 pow:=fun i hi=>QQ h (l:=Jf.map (AV.int .u64)) (by unfold pf;simp) (ahW ⟨i,hi⟩)
 err:=⟨⟨_,_,QQ h (g:=6) (k:=0) (by unfold pf;simp;rfl) rfl⟩,⟨_,_,QQ h (g:=7) (k:=0) (by unfold pf;simp;rfl) rfl⟩⟩
 nx:=hn
theorem Gl.out {H H':Hp}{S:List Nat}(h:Gl H)(k:Out S H H')(hs:∀ j∈S,11<=j):Gl H' where
 pow:=fun i hi=>by
  rw[k.cellAt (by have:=h.nx;omega) (fun q=>by have:=hs _ q;omega)]
  exact h.pow i hi
 err:=by
  have hn:=h.nx
  refine⟨?_,?_⟩
  ·obtain⟨t,p,q⟩:=h.err.syn
   exact⟨t,p,by rw[k.cellAt (by omega) (fun q=>by have:=hs _ q;omega)];exact q⟩
  ·obtain⟨t,p,q⟩:=h.err.Tc
   exact⟨t,p,by rw[k.cellAt (by omega) (fun q=>by have:=hs _ q;omega)];exact q⟩
 nx:=agr h.nx k.1
theorem Gl.out0 {H H':Hp}(h:Gl H)(k:Out [] H H'):Gl H':=h.out k fun j hj=>by cases hj
theorem ahc (s c:List Nat)(H:Hp)(hs:s.length<=4294967296)(hc:Bz c=true)(kW:c.length<=4294967280):cK (.func (.func 91) [] []) [.str s,.str c] H=some (.str (yR s c),H):=by
 refine yC (p:=Ec) (by kernel_rfl) ?_
 have h2:F.GW (Bz c) (F.GW (Nat.ble (F.Cd s) 4294967296) (Nat.ble (F.Cd c) 4294967280))=true:=by
  rw[F.Im,F.Im,F.Ji,F.Ji,hc]
  simp only[aeV,aaG,aez]
  exact⟨hs,kW⟩
 show Jo H s c=_
 unfold Jo
 rw[h2]
def dec (n:Int):aq:=(Lib.itoa n).map (·.toNat)
theorem apz:∀ p:Fin 10,(([48,49,50,51,52,53,54,55,56,57,97,98,99,100,101,102,103,104,105,106,107,108,109,110,111,112,113,114,115,116,117,118,119,120,121,122]:List Nat).drop p.val).take 1=[48+p.val]:=by decide +kernel
abbrev sm:List Nat:=[48,48,48,49,48,50,48,51,48,52,48,53,48,54,48,55,48,56,48,57,49,48,49,49,49,50,49,51,49,52,49,53,49,54,49,55,49,56,49,57,50,48,50,49,50,50,50,51,50,52,50,53,50,54,50,55,50,56,50,57,51,48,51,49,51,50,51,51,51,52,51,53,51,54,51,55,51,56,51,57,52,48,52,49,52,50,52,51,52,52,52,53,52,54,52,55,52,56,52,57,53,48,53,49,53,50,53,51,53,52,53,53,53,54,53,55,53,56,53,57,54,48,54,49,54,50,54,51,54,52,54,53,54,54,54,55,54,56,54,57,55,48,55,49,55,50,55,51,55,52,55,53,55,54,55,55,55,56,55,57,56,48,56,49,56,50,56,51,56,52,56,53,56,54,56,55,56,56,56,57,57,48,57,49,57,50,57,51,57,52,57,53,57,54,57,55,57,56,57,57]
theorem aoP:∀ p:Fin 100,(sm.drop (p.val*2)).take 2=[48+p.val / 10,48+p.val % 10]:=by decide +kernel
theorem Mo {n:Nat}(h:n<256):(UInt8.ofNat n).toNat=n:=by rw[UInt8.toNat_ofNat',akv h]
theorem aeY {n:Nat}(h:n<10):dec (n:Int)=[48+n]:=by
 unfold dec Lib.itoa
 rw[if_neg (by omega),acT,Lib.decDigits_one h]
 simp only[adK,List.map_nil]
 rw[Mo (by omega)]
theorem acA {n:Nat}(h1:¬ n<10)(h2:n<100):dec (n:Int)=[48+n / 10,48+n % 10]:=by
 unfold dec Lib.itoa
 rw[if_neg (by omega),acT,Lib.decDigits_two h1 h2]
 simp only[adK,List.map_nil]
 rw[Mo (by omega),Mo (by omega)]
theorem ac9 {n:Nat}(h:n<100)(H:Hp):cK (.func (.func 164) [] []) [.int .i64 n] H=some (.str (dec n),H):=by
 refine ann ?_
 unfold LQ
 by_cases h1:n<10
 ·have d:decide ((n:Int)<10)=true:=decide_eq_true (by omega)
  have e:IntKind.wrap .i64 ((n:Int)+1)=((n+1:Nat):Int):=by rw[wrap_i64 (by omega) (by omega)];rfl
  have q:=YW (s:=[48,49,50,51,52,53,54,55,56,57,97,98,99,100,101,102,103,104,105,106,107,108,109,110,111,112,113,114,115,116,117,118,119,120,121,122]) (a:=n) (b:=n+1) .i64 .i64 (by omega) (by simp only[aaN,ads];omega)
  rw[aex,apz ⟨n,h1⟩] at q
  simp only[d,e,q,aeY h1,aj,ai,simprocAttr]
 ·have d:decide ((n:Int)<10)=false:=decide_eq_false (by omega)
  have e1:IntKind.wrap .i64 ((n:Int)*2)=((n*2:Nat):Int):=by rw[wrap_i64 (by omega) (by omega)];omega
  have e2:IntKind.wrap .i64 (((n*2:Nat):Int)+2)=((n*2+2:Nat):Int):=by rw[wrap_i64 (by omega) (by omega)];rfl
  have q:=YW (s:=sm) (a:=n*2) (b:=n*2+2) .i64 .i64 (by omega) (by simp only[aaN,ads];omega)
  rw[aex,aoP ⟨n,h⟩] at q
  simp only[d,e1,e2,q,acA h1 h,aj,ai,simprocAttr]
theorem ahz {u:Nat}(h1:1<=u)(h2:u<18446744073709551616){H:Hp}(hg:Gl H):cK (.func (.func 165) [] []) [.int .u64 u] H=some (.int .i64 (Lib.nDigits u:Nat),H):=by
 refine apc ?_
 unfold SI
 have hl:cK (.func (.func 182) [] []) [.int .u64 u] H=some (.int .i64 (Lib.bitLen u:Nat),H):=by
  refine yC (p:=GZ) (by kernel_rfl) ?_
  unfold GZ
  simp only
  rw[if_pos ⟨by omega,by omega⟩,acT]
 obtain⟨n1,n2⟩:=Lib.numDigits_eq u h1 h2
 have hb:Lib.bitLen u<=100:=by
  have:Lib.l10 (Lib.bitLen u)<=19:=n2
  unfold Lib.l10 at this
  omega
 have hp:cK (.func (.func 181) [] []) [.int .i64 (Lib.bitLen u:Nat)] H=some (.int .i64 (Lib.l10 (Lib.bitLen u):Nat),H):=by
  refine aje ?_
  unfold XH
  have e:IntKind.wrap .i64 ((Lib.bitLen u:Int)*78913)=((Lib.bitLen u*78913:Nat):Int):=by rw[wrap_i64 (by omega) (by omega)];omega
  have e2:Ag (.int .i64 ((Lib.bitLen u*78913:Nat):Int)) (.int .u64 18)=some (.int .i64 ((Lib.l10 (Lib.bitLen u):Nat):Int)):=by
   have:=an1 (k := .i64) (j := .u64) (a:=Lib.bitLen u*78913) (b:=18)
   rw[show ((18:Nat):Int)=18 from rfl] at this
   rw[this]
   rfl
  simp only[e,e2,aj,ai,simprocAttr]
 generalize hq:Lib.l10 (Lib.bitLen u)=q at *
 have nB:nj 20 1 (.ptr 0 0) (.int .i64 (q:Nat))=some (.ptr 0 q):=by
  unfold nj
  simp only
  rw[if_pos (by omega),acT,agf,ad6]
 have hc:=hg.pow q (by omega)
 by_cases hle:10 ^ q<=u
 ·rw[if_pos hle] at n1
  have d:decide (((10 ^ q:Nat):Int)<=(u:Int))=true:=decide_eq_true (by exact Int.ofNat_le.2 hle)
  have gj:cK (.func (.func 183) [] []) [.bool true] H=some (.int .i64 1,H):=by
   refine YQ ?_
   unfold R3
   simp only[aj,ai,simprocAttr]
  have e:IntKind.wrap .i64 ((q:Int)+1)=((Lib.nDigits u:Nat):Int):=by rw[wrap_i64 (by omega) (by omega)];omega
  simp only[hl,hp,nB,Kn,hc,I6,d,gj,e,aj,ai,simprocAttr]
 ·rw[if_neg hle] at n1
  have d:decide (((10 ^ q:Nat):Int)<=(u:Int))=false:=decide_eq_false (by intro x;exact hle (Int.ofNat_le.1 x))
  have gj:cK (.func (.func 183) [] []) [.bool false] H=some (.int .i64 0,H):=by
   refine YQ ?_
   unfold R3
   simp only[aj,ai,simprocAttr]
  have e:IntKind.wrap .i64 ((q:Int)+0)=((Lib.nDigits u:Nat):Int):=by rw[wrap_i64 (by omega) (by omega)];omega
  simp only[hl,hp,nB,Kn,hc,I6,d,gj,e,aj,ai,simprocAttr]
theorem aix {H:Hp}{i off n u cap:Nat}{ex:Bool}{l:List AV}{el fl:Nat}(h:Cs H i l el fl)(hf:fl<=1)(lu:0<n)(ho:off+n<=l.length)(hn:n<=100)(hu:u<18446744073709551616)(Ps:u<10 ^ n)(hb:∀ v∈l,∃ b:Nat,b<256/\v = .int .u8 b) :
  ∃ H',cK (.func (.func 166) [] []) [.slice i off n cap ex 1,.int .u64 u] H=some (.tuple [],H')/\Cs H' i (iK l off (nG u n)) el fl/\Out [i] H H':=by
 obtain⟨hi,c,hc,hg⟩:=h
 have fO:(nG u n).length=n:=by simp[nG]
 have xo:=Cs.av ⟨hi,c,hc,hg⟩ n off ho
 refine⟨{ H with h:=H.h.bO i (.cells (c.bZ off (nG u n)) 0 l.length el fl) },yC (p:=Gi) (by kernel_rfl) ?_,⟨hi,c.bZ off (nG u n),?_,?_⟩,⟨aaH _,fun j hj Gw => ?_⟩⟩
 ·unfold Gi
  simp only
  rw[if_pos ⟨trivial,lu,by omega,by omega,by omega,by rw[acT];exact Ps⟩,hc,adu,acT]
  unfold Rt
  simp only
  rw[if_pos ⟨by omega,ho,hf,_,xo,fun v hv=>hb v (List.mem_of_mem_drop (List.mem_of_mem_take hv))⟩]
 ·show (H.h.bO i _).get i=_
  rw[Tr.bO,Tr.fj,if_pos rfl,ER]
 ·intro k v hk
  rw[A8 _ _ _ _ (by rw[fO];exact ho)] at hk
  rw[Tr.uH]
  split
  ·rename_i gX
   rw[if_pos gX] at hk
   exact hk
  ·rename_i gX
   rw[if_neg gX] at hk
   exact hg k v hk
 ·show (H.h.bO i _).get j=_
  rw[Tr.bO,Tr.fj,if_neg (by simpa using Gw)]
theorem VH (u:Nat):nG u (Lib.nDigits u)=bs ((Lib.decDigits u).map (·.toNat)):=by
 unfold nG bs
 rw[Lib.decDigits_eq,akI,akI]
 rfl
theorem OQ {H:Hp}{i a b:Nat}{l:List AV}{el fl:Nat}(h:Cs H i l el fl)(hl:l.length=24)(vw:a<=b)(hb:b<=24){lo:Option AV}(gT:Bd lo a 0):rq P 238 (.ptr i 0) lo (some (.int .i64 b)) none H=some (.slice i a (b-a) (24-a) true 1):=by
 have hu:P.underlying 238=some (.array 24 5):=Tryz.underlying238
 have hs:sz P 5=some 1:=by kernel_rfl
 have hc:=h.cellAt (o:=23) (v:=l[23]'(by omega)) (aau (by omega))
 unfold rq
 simp only[hu,hs,acX,adu,ze vw hb (aaH _) gT (Bd.yes .i64 b 24),agf,ad6]
 have h1:(decide (0<24)&&(cellAt H i (0+24-1)).isSome)=true:=by
  rw[show 0+24-1=23 by rfl,hc];rfl
 simp[hc]
theorem XC {n:Int}(h:n<0):dec n=45::(Lib.decDigits n.natAbs).map (·.toNat):=by
 unfold dec Lib.itoa
 rw[if_pos h];rfl
theorem abC {n:Int}(h:¬ n<0):dec n=(Lib.decDigits n.toNat).map (·.toNat):=by
 unfold dec Lib.itoa
 rw[if_neg h]
theorem afp {u:Nat}(h:u<18446744073709551616)(h1:1<=u):Lib.nDigits u<=20:=by
 obtain⟨n1,n2⟩:=Lib.numDigits_eq u h1 h
 split at n1<;>omega
theorem VW (u:Nat):∀ b∈(Lib.decDigits u).map (·.toNat),b<256:=by
 intro b hb
 obtain⟨c,_,rfl⟩:=adD.1 hb
 exact c.toNat_lt
abbrev z24:List AV:=[(.int .u8 0),(.int .u8 0),(.int .u8 0),(.int .u8 0),(.int .u8 0),(.int .u8 0),(.int .u8 0),(.int .u8 0),(.int .u8 0),(.int .u8 0),(.int .u8 0),(.int .u8 0),(.int .u8 0),(.int .u8 0),(.int .u8 0),(.int .u8 0),(.int .u8 0),(.int .u8 0),(.int .u8 0),(.int .u8 0),(.int .u8 0),(.int .u8 0),(.int .u8 0),(.int .u8 0)]
theorem apX {n:Int}(h0 : -9223372036854775808<=n)(h1:n<=9223372036854775807){H:Hp}(hg:Gl H):∃ H',cK (.func (.func 146) [] []) [.int .i64 n,.int .i64 10] H=some (.str (dec n),H')/\Out [] H H':=by
 by_cases hs:0<=n/\n<100
 ·obtain⟨m,rfl⟩:∃ m:Nat,n=m:=⟨n.toNat,by omega⟩
  refine⟨H,Su ?_,Out.refl _ _⟩
  unfold Fi
  have d1:decide ((0:Int)<=(m:Int))=true:=decide_eq_true (by omega)
  have d2:decide ((m:Int)<100)=true:=decide_eq_true hs.2
  simp only[d1,d2,ac9 (show m<100 by omega),aj,ai,simprocAttr]
 ·obtain⟨u,vd,qY,hu3⟩:∃ u:Nat,1<=u/\u<18446744073709551616/\u=n.natAbs:=⟨n.natAbs,by omega,by omega,rfl⟩
  have hd:=afp qY vd
  have Wd:=Lib.nDigits_pos u
  have Ps:=Lib.lt_pow_nDigits u
  have ha:aE H z24 238 0=some (H.next,al H z24 238 0):=gB (by simp)
  have fu:=bo H z24 238 0
  have uN:=hg.out0 (aJ H z24 238 0)
  have gU:=ahz vd qY uN
  have og:=OQ fu rfl (a:=1) (b:=1+Lib.nDigits u) (lo:=some (.int .i64 1)) (by omega) (by omega) (Bd.yes .i64 1 0)
  rw[aex] at og
  obtain⟨H1,f1,f2,f3⟩:=aix (cap:=24-1) (ex:=true) fu (by decide) Wd (off:=1) (by show 1+_<=24;omega) (by omega) qY Ps (by intro v hv;refine⟨0,by omega,?_⟩;simp at hv;exact hv)
  have hlen:(iK z24 1 (nG u (Lib.nDigits u))).length=24:=by rw[ER];rfl
  have fO:(nG u (Lib.nDigits u)).length=Lib.nDigits u:=by simp[nG]
  have e1:IntKind.wrap .i64 (1+(Lib.nDigits u:Int))=((1+Lib.nDigits u:Nat):Int):=by rw[wrap_i64 (by omega) (by omega)];omega
  have mF:Out [] H H1:=(aJ H z24 238 0).then f3 fun j hj=>by rw[No] at hj;exact .inr (by omega)
  have aqD:(decide ((0:Int)<=n)&&decide (n<100))=false:=by
   rw[Bool.and_eq_false_iff]
   by_cases q:0<=n
   ·right;exact decide_eq_false (by omega)
   ·left;exact decide_eq_false (by omega)
  by_cases hn:n<0
  ·have d1:decide ((0:Int)<=n)=false:=decide_eq_false (by omega)
   have d2:decide (n<0)=true:=decide_eq_true hn
   have e2:fT .neg (.int .u64 (IntKind.wrap .u64 n))=some (.int .u64 (u:Nat)):=by
    show some (AV.int .u64 (IntKind.wrap .u64 (0-IntKind.wrap .u64 n)))=_
    congr 2
    simp only[IntKind.wrap,IntKind.bits,IntKind.signed]
    simp
    omega
   have aC:=fG f2 (by decide) (o:=0) (by rw[hlen];decide) (v := .int .u8 45) rfl
   obtain⟨H2,w1,w2,w3,w4⟩:=aC
   have Ct:=OQ w2 (by rw[adM];exact hlen) (a:=0) (b:=1+Lib.nDigits u) (lo:=none) (by omega) (by omega) (Bd.no 0)
   rw[agR,agR] at Ct
   have sB:(((iK z24 1 (nG u (Lib.nDigits u))).set 0 (.int .u8 45)).take (1+Lib.nDigits u))=bs (dec n):=by
    rw[XC hn,<-hu3]
    show _=AV.int .u8 (45:Nat)::bs _
    rw[<-VH]
    apply aij
    intro k
    rw[ahB]
    by_cases hk:k<1+Lib.nDigits u
    ·rw[if_pos hk,agu]
     by_cases AX:0=k
     ·subst AX
      rw[if_pos rfl,if_pos (by rw[hlen];decide)];rfl
     ·obtain⟨j,rfl⟩:∃ j,k=j+1:=⟨k-1,by omega⟩
      rw[if_neg AX,A8 _ _ _ _ (by rw[fO];show 1+_<=24;omega),if_pos (by rw[fO];omega),Nat.add_sub_cancel,adL]
    ·rw[if_neg hk,agl (by rw[aaN,fO];omega)]
   have Fw:Rw H2 1 (.slice H.next 0 (1+Lib.nDigits u) 24 true 1) (bs (dec n)):=by
    rw[<-sB]
    exact .mk (w2.ro.take _) (by rw[ael,adM,hlen];omega) (by omega) rfl
   have iv:=UL Fw (by
    rw[XC hn]
    intro b hb
    rcases aaY.1 hb with rfl | hb
    ·omega
    ·exact VW _ b hb)
   refine⟨H2,Su ?_,mF.then w3 fun j hj=>by rw[No] at hj;exact .inr (by omega)⟩
   unfold Fi
   have hir:nj 24 1 (.ptr H.next 0) (.int .i64 0)=some (.ptr H.next 0):=by unfold nj;simp
   simp only[d1,ha,d2,e2,gU,e1,og,f1,hir,w1,Ct,iv,aj,ai,simprocAttr]
  ·obtain⟨m,rfl⟩:∃ m:Nat,n=m:=⟨n.toNat,by omega⟩
   have hum:u=m:=by omega
   subst hum
   have d1:decide ((0:Int)<=(u:Int))=true:=decide_eq_true (by omega)
   have d1':decide ((u:Int)<100)=false:=decide_eq_false (by omega)
   have d2:decide ((u:Int)<0)=false:=decide_eq_false hn
   have e2:IntKind.wrap .u64 (u:Int)=(u:Int):=ahi rfl (by show u<2 ^ 64;omega)
   have Ct:=OQ f2 hlen (a:=1) (b:=1+Lib.nDigits u) (lo:=some (.int .i64 1)) (by omega) (by omega) (Bd.yes .i64 1 0)
   rw[aex] at Ct
   have sB:(((iK z24 1 (nG u (Lib.nDigits u))).drop 1).take (Lib.nDigits u))=bs (dec (u:Int)):=by
    rw[abC hn,acT,<-VH]
    apply aij
    intro k
    rw[ahB]
    by_cases hk:k<Lib.nDigits u
    ·rw[if_pos hk,afT,A8 _ _ _ _ (by rw[fO];show 1+_<=24;omega),if_pos (by rw[fO];omega),aex]
    ·rw[if_neg hk,agl (by rw[fO];omega)]
   have Fw:Rw H1 1 (.slice H.next 1 (Lib.nDigits u) (24-1) true 1) (bs (dec (u:Int))):=by
    rw[<-sB]
    exact .mk ((f2.ro.drop 1 (by rw[hlen];decide)).take _) (by rw[ael,afK,hlen];omega) (by omega) rfl
   have iv:=UL Fw (by rw[abC hn];exact VW _)
   refine⟨H1,Su ?_,mF⟩
   unfold Fi
   simp only[d1,d1',ha,d2,e2,gU,e1,og,f1,Ct,iv,aj,ai,simprocAttr]
theorem HZ {n:Int}(h0 : -9223372036854775808<=n)(h1:n<=9223372036854775807){H:Hp}(hg:Gl H):∃ H',cK (.func (.func 84) [] []) [.int .i64 n] H=some (.str (dec n),H')/\Out [] H H':=by
 obtain⟨H',h2,h3⟩:=apX h0 h1 hg
 refine⟨H',aoj ?_,h3⟩
 unfold X8
 have:cK (.func (.func 111) [] []) [.int .i64 n] H=some (.str (dec n),H'):=by
  refine apR ?_
  unfold abU
  simp only[h2,aj,ai,simprocAttr]
 simp only[this,aj,ai,simprocAttr]
theorem aeK {s:aq}(hs:s.length<=281474976710656){H:Hp}(hg:Gl H):cK (.func (.func 173) [] []) [.str s] H=some (JE s,H):=by
 refine yC (p:=Fv) (by kernel_rfl) ?_
 unfold Fv
 simp only
 rw[if_pos ⟨hg.err,hs⟩]
theorem aea (i o n c:Nat)(ex:Bool)(es:Nat):same (.slice i o n c ex es) (.slice i o n c ex es)=true:=by simp[same,n0,ahj]
theorem ait (k:IntKind)(z:Int):same (.int k z) (.int k z)=true:=by simp[same,n0]
theorem adh (i o n c:Nat)(ex:Bool)(es:Nat)(x:R):SM (.slice i o n c ex es) (.slice i o n c ex es) x=x:=lK (aea ..)
theorem JW (k:IntKind)(z:Int)(x:R):SM (.int k z) (.int k z) x=x:=lK (ait ..)
structure Bu (H:Hp)(p:Nat)(sl:AV)(l:aq):Prop where
 c:Cs H p [.ptr p 0,sl] 180 0
 o:Ow H 5 1 sl (bs l)
 ne:p∉ak sl
theorem aci (x:AV)(H:Hp):cK (.func (.func 168) [] []) [x] H=some (x,H):=
 LL (k := .same) (by kernel_rfl) Tryz.func168 rfl (by kernel_rfl) rfl
theorem ana {n:Nat}(hn:n<=1048576)(H:Hp):cK (.func (.func 169) [] []) [.int .i64 n] H=some (.slice H.next 0 n n false 1,al H (List.replicate n .cU) 5 0):=by
 refine LL (k := .Fq 52) (by kernel_rfl) Tryz.func169 rfl (by kernel_rfl) ?_
 have hu:P.underlying 52=some (.slice 5):=Tryz.underlying52
 unfold BJ
 simp only[hu]
 rw[if_pos ⟨by omega,by omega⟩,acT,gB (by rw[aeX];omega)]
 rfl
theorem al9 {H:Hp}{p:Nat}{l:List AV}{el fl:Nat}(h:Cs H p l el fl)(hl:0<l.length):iY P 178 242 (.ptr p 0) H=some (.ptr p 0,H):=by
 have h1:P.underlying 178=some (.pointer 180):=Tryz.underlying178
 have h2:P.underlying 242=some .unsafePointer:=Tryz.underlying242
 have h3:xC P 180=true:=by kernel_rfl
 have h4:=h.cellAt (aau hl)
 unfold iY
 simp only[h1,h2,h3,h4,af7,Bool.and_self,cond_true]
theorem ad7 {H:Hp}{p:Nat}{a b:AV}(h:Cs H p [a,b] 180 0):iY P 242 178 (.ptr p 0) H=some (.ptr p 0,H):=by
 have h1:P.underlying 178=some (.pointer 180):=Tryz.underlying178
 have h2:P.underlying 242=some .unsafePointer:=Tryz.underlying242
 have h3:P.cellsOf 180=2:=by kernel_rfl
 have h4:=h.cellAt (o:=1) (v:=b) rfl
 obtain⟨_,c,hc,_⟩:=h
 unfold iY
 simp only[h1,h2,hc,h3,Nat.reduceSub,h4]
 rfl
theorem ahY {H:Hp}{p:Nat}(h:Cs H p [.fB,.ah] 180 0):∃ H',cK (.func (.func 147) [] []) [.ptr p 0] H=some (.tuple [],H')/\Cs H' p [.ptr p 0,.ah] 180 0/\Out [p] H H'/\H'.next=H.next:=by
 obtain⟨H',w1,w2,w3,w4⟩:=fG h (by decide) (o:=0) (by decide) (v := .ptr p 0) rfl
 refine⟨H',WW ?_,w2,w3,w4⟩
 unfold NN
 have h1:=h.ld (o:=0) (v := .fB) rfl
 simp only[aem,h1,al9 h (by decide),aci,ad7 h,w1,aj,ai,Int.reduceBEq,Int.reduceBNe,Int.reduceLT,Int.reduceLE,Int.reduceGT,Int.reduceGE,Int.reduceNeg]
theorem ai6 (p o:Nat)(H:Hp):pe (.ptr p o) (.ptr p o) H=some true:=by
 unfold pe
 simp[ahj]
theorem apb {H:Hp}{p:Nat}{sl:AV}{l:aq}(h:Bu H p sl l):cK (.func (.func 147) [] []) [.ptr p 0] H=some (.tuple [],H):=by
 refine WW ?_
 unfold NN
 have h1:=h.c.ld (o:=0) (v := .ptr p 0) rfl
 simp only[aem,h1,ai6,aj,ai,Int.reduceBEq,Int.reduceBNe,Int.reduceLT,Int.reduceLE,Int.reduceGT,Int.reduceGE,Int.reduceNeg]
theorem ais {H:Hp}{n el:Nat}(hn:0<n):Ow (al H (List.replicate n .cU) el 0) el 1 (.slice H.next 0 0 n false 1) []:=by
 have fu:=bo H (List.replicate n .cU) el 0
 obtain⟨hi,c,hc,hg⟩:=fu
 refine .mk hi hc (by decide) (aaH _) (by rw[aeX];omega) (ac4 _) (by simp) (fun k v hk=>by simp at hk) (fun k hk => ?_) (fun v hv=>by cases hv) rfl
 rw[ad6,hg k .cU (by rw[ajQ,if_pos (by omega)])];rfl
theorem ado {H:Hp}{p n:Nat}(lu:0<n)(hn:n<=1000000)(h:Cs H p [.fB,.ah] 180 0):∃ sl H',cK (.func (.func 112) [] []) [.ptr p 0,.int .i64 n] H=some (.tuple [],H')/\Bu H' p sl []/\Out [p] H H'/\∀ j∈ak sl,H.next<=j:=by
 obtain⟨H1,c1,c2,c3,c4⟩:=ahY h
 have hu:P.underlying 52=some (.slice 5):=Tryz.underlying52
 have hJ:∀ H:Hp,gG P .cap #[52] [.ah] H=some (.int .i64 0,H):=fun H=>by
  unfold gG
  simp only
  unfold KV
  simp only[hu,aeB,adR,adu]
  rfl
 have l1:=c2.ld (o:=1) (v := .ah) rfl
 have e1:IntKind.wrap .i64 (0+(n:Int))=(n:Int):=by rw[wrap_i64 (by omega) (by omega)];omega
 have e0:IntKind.wrap .i64 (2*0)=0:=by rw[wrap_i64 (by omega) (by omega)];omega
 have e2:IntKind.wrap .i64 (0-0)=0:=by rw[wrap_i64 (by omega) (by omega)];omega
 have hm:=ana (show n<=1048576 by omega) H1
 have Yr:=aJ H1 (List.replicate n .cU) 5 0
 have AJ:=c2.out Yr (by simp)
 have l1':=AJ.ld (o:=1) (v := .ah) rfl
 have og:qq 1 (.slice H1.next 0 n n false 1) none (some (.int .i64 0)) none=some (.slice H1.next 0 0 n false 1):=by
  unfold qq
  have:=ze (len:=n) (cap:=n) (a:=0) (b:=0) (lo:=none) (hi:=some (.int .i64 0)) (aaH _) (ac4 _) (aaH _) (Bd.no 0) (Bd.afC .i64 _)
  simp only[this]
  simp
 have hcp:∀ H:Hp,Cf 1 (.slice H1.next 0 0 n false 1) .ah H=some (.int .i64 0,H):=fun H=>by unfold Cf;simp[IL]
 obtain⟨H2,w1,w2,w3,w4⟩:=fG AJ (by decide) (o:=1) (by simp) (v := .slice H1.next 0 0 n false 1) rfl
 have hg:cK (.func (.func 148) [] []) [.ptr p 0,.int .i64 n] H1=some (.tuple [],H2):=by
  refine amd ?_
  unfold VY
  have tY:∀ x:R,SM .ah .ah x=x:=fun x=>lK rfl
  simp only[l1,hJ,e0,e1,hm,l1',og,tY,JW,hcp,w1,aj,ai,Int.reduceBEq,Int.reduceBNe,Int.reduceLT,Int.reduceLE,Int.reduceGT,Int.reduceGE,Int.reduceNeg]
 have aI:p<H1.next:=by rw[c4];exact h.1
 refine⟨.slice H1.next 0 0 n false 1,H2,afL ?_,⟨w2,(ais lu).out w3 (fun j hj=>by
  rw[my (by rfl),No] at hj
  rw[No];omega),by rw[my (by rfl),No];omega⟩,(c3.trans (Yr.mono (S':=[p]) (fun j hj=>by cases hj))).trans w3,fun j hj=>by rw[my (by rfl),No] at hj;omega⟩
 unfold Yz
 have d1:decide ((n:Int)<0)=false:=decide_eq_false (by omega)
 have d2:decide ((0:Int)<(n:Int))=true:=decide_eq_true (by omega)
 simp only[c1,d1,l1,hJ,e2,d2,hg,aj,ai,Int.reduceBEq,Int.reduceBNe,Int.reduceLT,Int.reduceLE,Int.reduceGT,Int.reduceGE,Int.reduceNeg]
theorem M4 {H:Hp}{p:Nat}{sl:AV}{l s:aq}(h:Bu H p sl l)(hl:l.length+s.length<=16777216):∃ tc H',cK (.func (.func 113) [] []) [.ptr p 0,.str s] H=some (.tuple [.int .i64 s.length,.nilIface],H')/\Bu H' p tc (l++s)/\Out (p::ak sl) H H'/\∀ j∈ak tc,j∈ak sl\/H.next<=j:=by
 obtain⟨tc,H1,a1,a2,a3,a4⟩:=Ip (n:=s.length) (new:=bs s) h.o (by rw[By,agf]) (agj s) (by decide) (by rw[By,By];exact hl)
 have Kv:gw 5 1 [(.int .u8 0)] false sl (.str s) H=some (tc,H1):=by
  unfold gw
  have:Aw 1 [(.int .u8 0)] false (.str s) H=some (s.length,bs s):=by unfold Aw;simp[bs]
  rw[this];exact a1
 have yY:=h.c.out a3 h.ne
 obtain⟨H2,w1,w2,w3,w4⟩:=fG yY (by decide) (o:=1) (by simp) (v:=tc) a2.jO
 have aO:p∉ak tc:=fun q=>(a4 p q).elim h.ne fun q=>by have:=h.c.1;omega
 refine⟨tc,H2,ahE ?_,⟨w2,by rw[ajC];exact a2.out w3 (fun j hj=>by rw[No];intro e;subst e;exact aO hj),aO⟩,?_,a4⟩
 ·unfold VC
  have l1:=h.c.ld (o:=1) (v:=sl) rfl
  simp only[apb h,l1,Kv,w1,aj,ai,Int.reduceBEq,Int.reduceBNe,Int.reduceLT,Int.reduceLE,Int.reduceGT,Int.reduceGE,Int.reduceNeg]
 ·exact (a3.mono fun j hj => .tail _ hj).trans (w3.mono fun j hj=>by rw[No] at hj;subst hj;exact .head _)
theorem ajW {H:Hp}{p:Nat}{sl:AV}{l:aq}(h:Bu H p sl l)(h0:0<l.length)(hl:l.length<16777216)(hb:∀ b∈l,b<256):∃ H',cK (.func (.func 114) [] []) [.ptr p 0] H=some (.str l,H')/\Out (ak sl) H H':=by
 have l1:=h.c.ld (o:=1) (v:=sl) rfl
 have ho:=h.o
 have aO:=h.ne
 generalize kW:bs l=cs at ho
 cases ho with
 | nil=>
  have:l=[]:=by simpa[bs] using kW
  subst this;simp at h0
 | emp=>
  have:l=[]:=by simpa[bs] using kW
  subst this;simp at h0
 | @mk i off n cap ex _ c lo hi fl iS hg hf gT je hJ hn gZ hs h1 he=>
  subst kW
  rw[By,agf] at hn
  have Fz:Ro H i off (bs l):=⟨iS,c,lo,hi,5,fl,hg,gT,by rw[By];omega,gZ⟩
  have G3:=Fz.av
  rw[By,hn] at G3
  rw[my he,No] at aO
  have hx:((av H i off n).bind uV)=some l:=by rw[G3];exact Px l hb
  refine⟨{ H with h:=H.h.bO i (.cells c lo hi 5 2) },afw ?_,⟨aaH _,fun j hj zr => ?_⟩⟩
  ·unfold Z5
   have b1:gG P .unsafeSliceData #[52] [.slice i off n cap ex 1] H=some (.ptr i off,H):=by
    unfold gG
    have:Nat.blt 0 n=true:=by rw[ad5];omega
    simp only[this,cond_true]
   have b2:gG P .unsafeString #[222,3] [.ptr i off,.int .i64 (n:Nat)] H=some (.str l,{ H with h:=H.h.bO i (.cells c lo hi 5 2) }):=by
    have hu:P.underlying 222=some (.pointer 5):=Tryz.underlying222
    have yY:P.cellsOf 5=1:=by kernel_rfl
    unfold gG
    simp only
    unfold Kt
    simp only[hu]
    rw[if_neg (by omega)]
    simp only[hg]
    rw[if_pos ⟨trivial,yY,by omega,by omega,hf⟩,acT,hx]
    rfl
   simp only[l1,b1,b2,adh,JW,aj,ai,Int.reduceBEq,Int.reduceBNe,Int.reduceLT,Int.reduceLE,Int.reduceGT,Int.reduceGE,Int.reduceNeg]
  ·rw[my he,No] at zr
   show (Tr.bO H.h i _).get j=_
   rw[Tr.bO,Tr.fj,if_neg zr]
def oV (sep:aq):List aq->aq
 | []=>[]
 | a::l=>sep++a++oV sep l
def uw (sep:aq):List aq->aq
 | []=>[]
 | a::l=>a++oV sep l
theorem TX (c:Nat):∀ l:List aq,uw [c] l=jk c l
 | []=>rfl
 | [a]=>by simp[uw,oV,jk]
 | a::b::l=>by
  have:=TX c (b::l)
  show a++([c]++b++oV [c] l)=a++c::jk c (b::l)
  rw[<-this]
  simp[uw]
def cO (l:List aq):Nat:=(l.map List.length).sum
theorem Sx (sep:aq):∀ l,(oV sep l).length=sep.length*l.length+cO l
 | []=>by simp[oV,cO]
 | a::l=>by
  have:=Sx sep l
  simp only[oV,aa0,this,aaN,Nat.mul_add,agf,cO,adK,ajY]
  omega
theorem Xk {x:AV}{l:List aq}{H:Hp}(hx:Rw H 1 x (strs l))(hl:l.length<=1000)(hb:∀ s∈l,s.length<=100000)(k:K.Fn 3)(y z:AV):∀ (r:List aq) (i acc:Nat),i<=l.length->l.drop i=r->acc<=1000000+i*100000->
  FM JN GO cK k y z (.int .i64 acc) x (.int .i64 (l.length:Nat)) (.int .i64 (i:Nat)) H=k y z (.int .i64 ((acc+cO r:Nat):Int)) H
 | [],i,acc,hi,h,ha=>by
  obtain rfl:=drop_nil hi h
  rw[SZ]
  simp only[Li,fZ,cO,List.map_nil,List.sum_nil,aem,aj,ai,Int.reduceBEq,Int.reduceBNe,Int.reduceLT,Int.reduceLE,Int.reduceGT,Int.reduceGE,Int.reduceNeg]
 | a::r,i,acc,hi,h,ha=>by
  obtain⟨h1,h2,h3⟩:=gy h
  obtain⟨q,q1,q2⟩:=hx.mb (yP h2) .i64
  have e:=gq h1 (by omega)
  have dm:=hb a (aaF h2)
  have ajm:acc+a.length<=1000000+(i+1)*100000:=by omega
  have ih:=Xk hx hl hb k y z r (i+1) (acc+a.length) h1 h3 ajm
  have e1:IntKind.wrap .i64 (9223372036854775807-(acc:Int))=9223372036854775807-(acc:Int):=wrap_i64 (by omega) (by omega)
  have d:decide (9223372036854775807-(acc:Int)<(a.length:Int))=false:=decide_eq_false (by omega)
  have e2:IntKind.wrap .i64 ((acc:Int)+(a.length:Int))=((acc+a.length:Nat):Int):=by rw[wrap_i64 (by omega) (by omega)];rfl
  have e3:acc+cO (a::r)=acc+a.length+cO r:=by simp[cO];omega
  rw[SZ,e3]
  simp only[Li,bH h1,q1,q2,e1,d,e2,e,ih,aj,ai,Int.reduceBEq,Int.reduceBNe,Int.reduceLT,Int.reduceLE,Int.reduceGT,Int.reduceGE,Int.reduceNeg]
theorem S8 {sep:aq}{x:AV}{l:List aq}{p:Nat}{H0:Hp}(hx:Rw H0 1 x (strs l))(hl:l.length<=1000):∀ (r:List aq) (i:Nat) (H:Hp) (sl:AV) (acc:aq),i<=l.length->l.drop i=r->Rw H 1 x (strs l)->Bu H p sl acc->(∀ j∈ak x,j≠p/\j∉ak sl)->acc.length+(oV sep r).length<=16777216->
  ∃ tc H',(∀ k:K.Fn 1,Fp JN GO cK k (.str sep) (.ptr p 0) x (.int .i64 (l.length:Nat)) (.int .i64 (i:Nat)) H=k (.ptr p 0) H')/\Bu H' p tc (acc++oV sep r)/\Out (p::ak sl) H H'/\∀ j∈ak tc,j∈ak sl\/H.next<=j
 | [],i,H,sl,acc,hi,h,iE,hB,hd,hlen=>by
  obtain rfl:=drop_nil hi h
  refine⟨sl,H,fun k => ?_,by simpa[oV] using hB,Out.refl _ _,fun j hj => .inl hj⟩
  rw[UF]
  simp only[Ns,fZ,aj,ai,Int.reduceBEq,Int.reduceBNe,Int.reduceLT,Int.reduceLE,Int.reduceGT,Int.reduceGE,Int.reduceNeg]
 | a::r,i,H,sl,acc,hi,h,iE,hB,hd,hlen=>by
  obtain⟨h1,h2,h3⟩:=gy h
  obtain⟨q,q1,q2⟩:=iE.mb (yP h2) .i64
  have e:=gq h1 (by omega)
  simp only[oV,aa0] at hlen
  obtain⟨sl1,H1,a1,a2,a3,a4⟩:=M4 (s:=sep) hB (by omega)
  obtain⟨CY,H2,b1,b2,b3,b4⟩:=M4 (s:=a) a2 (by rw[aa0];omega)
  have aI:=iE.lt
  have gp:∀ j∈ak x,j≠p/\j∉ak sl1:=fun j hj=>⟨(hd j hj).1,fun q=>(a4 j q).elim (hd j hj).2 fun q=>by have:=aI j hj;omega⟩
  have jJ:=a3.nx
  have pG:∀ j∈ak x,j≠p/\j∉ak CY:=fun j hj=>⟨(hd j hj).1,fun q=>(b4 j q).elim (gp j hj).2 fun q=>by have:=aI j hj;omega⟩
  have jN:=iE.out a3 fun j hj=>by rw[aaY,not_or];exact hd j hj
  have oC:=jN.out b3 fun j hj=>by rw[aaY,not_or];exact gp j hj
  obtain⟨tc,H',i1,i2,i3,i4⟩:=S8 (sep:=sep) hx hl r (i+1) H2 CY (acc++sep++a) h1 h3 oC b2 pG (by simp only[aa0];omega)
  have o2:Out (p::ak sl) H H2:=a3.then b3 fun j hj=>by
   rcases aaY.1 hj with rfl | hj
   ·exact .inl (.head _)
   ·exact (a4 j hj).imp (fun q => .tail _ q) id
  have n2:∀ j∈ak CY,j∈ak sl\/H.next<=j:=fun j hj=>(b4 j hj).elim (fun q=>a4 j q) fun q => .inr (by omega)
  refine⟨tc,H',fun k => ?_,by rw[oV];simpa[ae9] using i2,o2.then i3 fun j hj => ?_,fun j hj=>(i4 j hj).elim (n2 j) fun q => .inr (by have:=o2.nx;omega)⟩
  ·rw[UF]
   simp only[Ns,bH h1,q1,q2,a1,b1,e,i1,aj,ai,Int.reduceBEq,Int.reduceBNe,Int.reduceLT,Int.reduceLE,Int.reduceGT,Int.reduceGE,Int.reduceNeg]
  ·rcases aaY.1 hj with rfl | hj
   ·exact .inl (.head _)
   ·exact (n2 j hj).imp (fun q => .tail _ q) id
theorem aeQ (sep:aq)(l:List aq)(h:0<l.length):(uw sep l).length=sep.length*(l.length-1)+cO l:=by
 cases l with
 | nil=>simp at h
 | cons a l=>simp only[uw,aa0,Sx,aaN,cO,adK,ajY,Nat.add_sub_cancel];omega
theorem TG {sep:aq}(sK:sep.length=1){x:AV}{l:List aq}{H:Hp}(hx:Rw H 1 x (strs l))(hl:l.length<=200)(hb:∀ s∈l,s.length<=100000)(rj:cO l<=900000)(mr:∀ s∈sep::l,∀ b∈s,b<256) :
  ∃ H',cK (.func (.func 85) [] []) [x,.str sep] H=some (.str (uw sep l),H')/\Out [] H H':=by
 have dH:=hx.mZ
 rw[ji] at dH
 match l,hx,hl,hb,rj,mr,dH with
 | [],hx,hl,hb,rj,mr,dH=>
  refine⟨H,NI ?_,Out.refl _ _⟩
  unfold Ff
  simp only[ads,Int.natCast_zero] at dH
  simp only[dH,uw,aj,ai,Int.reduceBEq,Int.reduceBNe,Int.reduceLT,Int.reduceLE,Int.reduceGT,Int.reduceGE,Int.reduceNeg]
 | [a],hx,hl,hb,rj,mr,dH=>
  obtain⟨q,q1,q2⟩:=hx.mb (i:=0) (v := .str a) rfl .i64
  refine⟨H,NI ?_,Out.refl _ _⟩
  unfold Ff
  simp only[aaN,ads,ad6,Int.natCast_one] at dH
  rw[show (((0:Nat):Int))=0 from rfl] at q1
  simp only[dH,q1,q2,uw,oV,ahD,aj,ai,Int.reduceBEq,Int.reduceBNe,Int.reduceLT,Int.reduceLE,Int.reduceGT,Int.reduceGE,Int.reduceNeg]
 | a::b::l,hx,hl,hb,rj,mr,dH=>
  generalize hm:a::b::l=L at *
  have hL2:2<=L.length:=by rw[<-hm];simp
  have Zo:L[0]? = some a:=by rw[<-hm];rfl
  obtain⟨q,q1,q2⟩:=hx.mb (yP Zo) .i64
  rw[show (((0:Nat):Int))=0 from rfl] at q1
  have d1:(((L.length:Nat):Int)==0)=false:=beq_false_of_ne (by omega)
  have d2:(((L.length:Nat):Int)==1)=false:=beq_false_of_ne (by omega)
  have e1:IntKind.wrap .i64 (((L.length:Nat):Int)-1)=((L.length-1:Nat):Int):=by rw[wrap_i64 (by omega) (by omega)];omega
  have e2:Bf (.int .i64 9223372036854775807) (.int .i64 ((L.length-1:Nat):Int))=some (.int .i64 (9223372036854775807 / ((L.length-1:Nat):Int))):=by
   rw[ahS _ _ _ (by omega),Int.tdiv_eq_ediv_of_nonneg (by omega)]
   congr 2
   rw[wrap_i64]
   ·have:0<=9223372036854775807 / ((L.length-1:Nat):Int):=Int.ediv_nonneg (by omega) (by omega)
    omega
   ·exact Int.le_trans (Int.ediv_le_self _ (by omega)) (Int.le_refl _)
  have hq:(200:Int)<=9223372036854775807 / ((L.length-1:Nat):Int):=by
   rw[Int.le_ediv_iff_mul_le (by omega)]
   omega
  have d3:decide (9223372036854775807 / ((L.length-1:Nat):Int)<=((1:Nat):Int))=false:=decide_eq_false (by omega)
  have e3:IntKind.wrap .i64 (((1:Nat):Int)*((L.length-1:Nat):Int))=((L.length-1:Nat):Int):=by rw[wrap_i64 (by omega) (by omega)];omega
  have e4:IntKind.wrap .i64 (0+((L.length-1:Nat):Int))=((L.length-1:Nat):Int):=by rw[wrap_i64 (by omega) (by omega)];omega
  have i1:=fun k=>Xk hx (by omega) hb k x (.str sep) L 0 (L.length-1) (ac4 _) ada (by omega)
  rw[show (((0:Nat):Int))=0 from rfl] at i1
  have ic:aE H [.fB,.ah] 180 0=some (H.next,al H [.fB,.ah] 180 0):=gB (by simp)
  have ho:=aJ H [.fB,.ah] 180 0
  obtain⟨sl,H1,g1,g2,g3,g4⟩:=ado (n:=L.length-1+cO L) (by omega) (by omega) (bo H [.fB,.ah] 180 0)
  have aI:=hx.lt
  have jN:=(hx.out0 ho).out g3 fun j hj=>by rw[No];have:=aI j hj;omega
  obtain⟨q',q1',q2'⟩:=jN.mb (yP Zo) .i64
  rw[show (((0:Nat):Int))=0 from rfl] at q1'
  have dm:a.length<=cO L:=by rw[<-hm];simp[cO]
  obtain⟨CY,H2,b1,b2,b3,b4⟩:=M4 (s:=a) g2 (by simp;omega)
  rw[aiT] at b2
  have oC:=jN.out b3 fun j hj=>by
   rw[aaY,not_or]
   exact⟨by have:=aI j hj;omega,fun q=>by have:=g4 j q;have:=aI j hj;rw[bI] at *;omega⟩
  have pT:=Hk oC (n:=L.length) (by rw[ji,agf]) (by decide) (a:=1) (b:=L.length) (lo:=some (.int .i64 1)) (hi:=none) (by omega) (aaH _) (Bd.yes .i64 1 0) (Bd.no _)
  obtain⟨x',x1,x2,x3⟩:=pT
  have yJ:(((strs L).drop (1*1)).take ((L.length-1)*1))=strs (b::l):=by rw[<-hm,agf,agf];exact afi (by simp[strs])
  rw[yJ] at x2
  have Uf:=x2.mZ
  rw[ji] at Uf
  have gj:(b::l).length<=1000:=by rw[<-hm] at hl;simp only[aaN] at *;omega
  have jJ:=g3.nx
  rw[bI] at jJ
  have pW:sep.length*(b::l).length+cO (b::l)<=1000000:=by
   rw[sK,aiO]
   rw[<-hm] at rj hl
   simp only[cO,adK,ajY,aaN] at *
   omega
  obtain⟨sl3,H3,c1,c2,c3,c4⟩:=S8 (sep:=sep) x2 gj (b::l) 0 H2 CY a (ac4 _) ada x2 b2 (fun j hj=>by
   have hj:=aI j (x3 j hj)
   exact⟨by omega,fun q=>(b4 j q).elim (fun q=>by have:=g4 j q;rw[bI] at this;omega) fun q=>by omega⟩) (by rw[Sx];omega)
  have AI:a++oV sep (b::l)=uw sep L:=by rw[<-hm];rfl
  rw[AI] at c2
  have ff:=aeQ sep L (by omega)
  rw[sK,aiO] at ff
  have akQ:∀ c∈uw sep L,c<256:=by
   have key:∀ l:List aq,(∀ s∈l,∀ b∈s,b<256)->∀ c∈oV sep l,c<256:=by
    intro l
    induction l with
    | nil=>intro _ c hc;cases hc
    | cons s l ih=>
     intro h c hc
     simp only[oV,abV] at hc
     rcases hc with (hc | hc) | hc
     ·exact mr sep (.head _) c hc
     ·exact h s (.head _) c hc
     ·exact ih (fun s hs=>h s (.tail _ hs)) c hc
   intro c hc
   rw[<-AI,abV] at hc
   have oM:∀ s∈a::b::l,∀ b∈s,b<256:=fun s hs=>mr s (.tail _ (by rw[<-hm];exact hs))
   rcases hc with hc | hc
   ·exact oM a (.head _) c hc
   ·exact key _ (fun s hs=>oM s (.tail _ hs)) c hc
  obtain⟨H4,s1,s2⟩:=ajW c2 (by omega) (by omega) akQ
  have n2:=b3.nx
  have n3:=c3.nx
  have nM:∀ j∈ak CY,H.next<=j:=fun j hj=>(b4 j hj).elim (fun q=>by have:=g4 j q;rw[bI] at this;omega) fun q=>by omega
  have OD:∀ j∈ak sl3,H.next<=j:=fun j hj=>(c4 j hj).elim (nM j) fun q=>by omega
  have o1:Out [] H H1:=ho.then g3 fun j hj=>by rw[No] at hj;exact .inr (by omega)
  have o2:Out [] H H2:=o1.then b3 fun j hj=>by
   rcases aaY.1 hj with rfl | hj
   ·exact .inr (by omega)
   ·have:=g4 j hj;rw[bI] at this;exact .inr (by omega)
  have o3:Out [] H H3:=o2.then c3 fun j hj=>by
   rcases aaY.1 hj with rfl | hj
   ·exact .inr (by omega)
   ·exact .inr (nM j hj)
  refine⟨H4,NI ?_,o3.then s2 fun j hj => .inr (OD j hj)⟩
  unfold Ff
  have e5:((L.length-1+cO L:Nat):Int)=((L.length-1+cO L:Nat):Int):=rfl
  rw[show (((0:Nat):Int))=0 from rfl] at c1
  have d4:decide ((0:Int)<((1:Nat):Int))=true:=rfl
  simp only[dH,d1,d2,sK,d4,e1,e2,d3,e3,e4,i1,ic,g1,q1',q2',b1,x1,Uf,c1,s1,ge_iff_le,aj,ai,Int.reduceBEq,Int.reduceBNe,Int.reduceLT,Int.reduceLE,Int.reduceGT,Int.reduceGE,Int.reduceNeg]
end Go.Proofs.YtodfajmihkagnaaGreatDoor.DfK
namespace Go.Proofs.YtodfajmihkagnaaGreatDoor.nY
section
variable (sc:Nat->List Nat)
def sD (steps:Nat)(s:List Nat × List Nat)(b:Nat):List Nat × List Nat:=if s.1[b]? = some 0 then (s.1.set b steps,s.2++[b]) else s
def pL (steps:Nat)(bs:List Nat)(s:List Nat × List Nat):List Nat × List Nat:=bs.foldl (sD steps) s
def tS (steps:Nat)(l:List Nat)(s:List Nat × List Nat):List Nat × List Nat:=l.foldl (fun s a=>pL steps (sc a) s) s
def tK:Nat->List Nat->List Nat->Nat->List Nat
 | 0,_,out,_=>out
 | f+1,l,out,steps=>if l=[] then out else tK f (tS sc steps l (out,[])).2 (tS sc steps l (out,[])).1 (steps+1)
def far (N n:Nat):List Nat:=tK sc (N+1) [n] (List.replicate N 0) 1
end
def eV (l:List Nat):Nat:=l.countP (· == 0)
def V (out:List Nat)(b:Nat):Bool:=match out[b]? with | some (_+1)=>true | _=>false
theorem Lp {out:List Nat}{b steps c:Nat}(h:out[b]? = some 0)(hs:0<steps):V (out.set b steps) c=(V out c||c==b):=by
 unfold V
 have hb:=(aas.1 h).1
 rw[agu]
 by_cases hc:b=c
 ·subst hc
  rw[if_pos rfl,if_pos hb]
  obtain⟨k,rfl⟩:∃ k,steps=k+1:=⟨steps-1,by omega⟩
  simp
 ·rw[if_neg hc]
  have:(c==b)=false:=by simp;exact fun q=>hc q.symm
  rw[this,Bool.or_false]
theorem anN {out:List Nat}{b steps:Nat}(h:out[b]? = some 0)(hs:0<steps):eV (out.set b steps)+1=eV out:=by
 unfold eV
 induction out generalizing b with
 | nil=>simp at h
 | cons a l ih=>
  cases b with
  | zero=>
   simp only[adR,adG] at h
   subst h
   rw[List.set_cons_zero,akO,akO]
   have:(steps==0)=false:=by simp;omega
   rw[this];simp
  | succ b=>
   simp only[adL] at h
   rw[List.set_cons_succ,akO,akO]
   have:=ih h
   omega
structure Step (s s':List Nat × List Nat)(bs:Nat->Prop):Prop where
 len:s'.1.length=s.1.length
 Bt:eV s'.1+s'.2.length=eV s.1+s.2.length
 mono:∀ c,V s.1 c=true->V s'.1 c=true
 rJ:∀ c∈s.2,c∈s'.2
 new:∀ c,V s'.1 c=true->V s.1 c=true\/(bs c/\c∈s'.2)
 Hl:∀ c∈s'.2,c∈s.2\/(bs c/\V s'.1 c=true)
 all:∀ c,bs c->c<s.1.length->V s'.1 c=true
theorem Step.refl (s:List Nat × List Nat):Step s s (fun _=>False):=⟨rfl,rfl,fun _ h=>h,fun _ h=>h,fun _ h => .inl h,fun _ h => .inl h,fun _ h=>h.elim⟩
theorem Step.trans {s s' Vu:List Nat × List Nat}{p q:Nat->Prop}(h:Step s s' p)(k:Step s' Vu q):Step s Vu (fun c=>p c\/q c) where
 len:=k.len.trans h.len
 Bt:=k.Bt.trans h.Bt
 mono:=fun c hc=>k.mono c (h.mono c hc)
 rJ:=fun c hc=>k.rJ c (h.rJ c hc)
 new:=fun c hc=>(k.new c hc).elim (fun a=>(h.new c a).imp id fun b=>⟨.inl b.1,k.rJ c b.2⟩) (fun a => .inr ⟨.inr a.1,a.2⟩)
 Hl:=fun c hc=>(k.Hl c hc).elim (fun a=>(h.Hl c a).imp id fun b=>⟨.inl b.1,k.mono c b.2⟩) (fun a => .inr ⟨.inr a.1,a.2⟩)
 all:=fun c hc hl=>hc.elim (fun a=>k.mono c (h.all c a hl)) (fun a=>k.all c a (by rw[h.len];exact hl))
theorem Step.congr {s s':List Nat × List Nat}{p q:Nat->Prop}(h:Step s s' p)(Ab:∀ c,p c↔q c):Step s s' q:=
 ⟨h.len,h.Bt,h.mono,h.rJ,fun c hc=>(h.new c hc).imp id fun b=>⟨(Ab c).1 b.1,b.2⟩,fun c hc=>(h.Hl c hc).imp id fun b=>⟨(Ab c).1 b.1,b.2⟩,fun c hc hl=>h.all c ((Ab c).2 hc) hl⟩
theorem ad0 {out:List Nat}{b:Nat}(hb:b<out.length)(h:out[b]? ≠ some 0):V out b=true:=by
 unfold V
 rw[aau hb] at h ⊢
 cases hx:out[b] with
 | zero=>rw[hx] at h;exact absurd rfl h
 | succ k=>rfl
theorem akr {steps:Nat}(hs:0<steps)(s:List Nat × List Nat)(b:Nat):Step s (sD steps s b) (fun c=>c=b):=by
 unfold sD
 split
 ·rename_i h
  have hz:=anN h hs
  refine⟨adM,by simp;omega,fun c hc => ?_,fun c hc=>abA _ hc,fun c hc => ?_,fun c hc => ?_,fun c hc hl => ?_⟩
  ·rw[Lp h hs,hc];rfl
  ·rw[Lp h hs,ag6] at hc
   refine hc.imp id fun q => ?_
   have q:c=b:=by simpa using q
   exact⟨q,by subst q;simp⟩
  ·rcases abV.1 hc with hc | hc
   ·exact .inl hc
   ·rw[No] at hc
    subst hc
    exact .inr ⟨rfl,by rw[Lp h hs];simp⟩
  ·subst hc;rw[Lp h hs];simp
 ·rename_i h
  exact⟨rfl,rfl,fun _ h=>h,fun _ h=>h,fun _ h => .inl h,fun _ h => .inl h,fun c hc hl=>by subst hc;exact ad0 hl h⟩
theorem Oh {steps:Nat}(hs:0<steps):∀ (bs:List Nat) (s:List Nat × List Nat),Step s (pL steps bs s) (fun c=>c∈bs)
 | [],s=>(Step.refl s).congr fun c=>by simp
 | b::bs,s=>((akr hs s b).trans (Oh hs bs _)).congr fun c=>by simp
theorem Ld {sc:Nat->List Nat}{steps:Nat}(hs:0<steps):∀ (l:List Nat) (s:List Nat × List Nat),Step s (tS sc steps l s) (fun c=>∃ a∈l,c∈sc a)
 | [],s=>(Step.refl s).congr fun c=>by simp
 | a::l,s=>((Oh hs (sc a) s).trans (Ld hs l _)).congr fun c=>by simp
theorem aak {sc:Nat->List Nat}{N n:Nat}(hN:∀ a,∀ b∈sc a,b<N){C:Nat->Prop}(GH:∀ b∈sc n,C b)(hC:∀ a,C a->∀ b∈sc a,C b) :
  ∀ (f:Nat) (l out:List Nat) (steps:Nat),0<steps->out.length=N->(l=[]\/eV out<f)->(∀ a,(a=n\/V out a=true)->a∈l\/∀ b∈sc a,V out b=true)->
   (∀ a∈l,a=n\/C a)->(∀ a,V out a=true->C a)->
   (tK sc f l out steps).length=N/\(∀ a,(a=n\/V (tK sc f l out steps) a=true)->∀ b∈sc a,V (tK sc f l out steps) b=true)/\∀ a,V (tK sc f l out steps) a=true->C a
 | 0,l,out,steps,hs,hl,hz,h1,h2,h3=>by
  have:l=[]:=hz.resolve_right (by omega)
  subst this
  exact⟨hl,fun a ha=>(h1 a ha).resolve_left (by simp),h3⟩
 | f+1,l,out,steps,hs,hl,hz,h1,h2,h3=>by
  unfold tK
  split
  ·rename_i h
   subst h
   exact⟨hl,fun a ha=>(h1 a ha).resolve_left (by simp),h3⟩
  ·rename_i aO
   have hz:=hz.resolve_left aO
   have S:=Ld (sc:=sc) hs l (out,[])
   refine aak hN GH hC f _ _ (steps+1) (by omega) (S.len.trans hl) ?_ ?_ ?_ ?_
   ·have:=S.Bt
    simp only[ads,aem] at this
    cases hx:(tS sc steps l (out,[])).2 with
    | nil=>exact .inl rfl
    | cons x y=>rw[hx] at this;simp only[aaN] at this;exact .inr (by omega)
   ·intro a ha
    have key:(a=n\/V out a=true)->a∈(tS sc steps l (out,[])).2\/∀ b∈sc a,V (tS sc steps l (out,[])).1 b=true:=by
     intro ha
     refine .inr fun b hb => ?_
     rcases h1 a ha with q | q
     ·exact S.all b ⟨a,q,hb⟩ (by rw[hl];exact hN a b hb)
     ·exact S.mono b (q b hb)
    rcases ha with ha | ha
    ·exact key (.inl ha)
    ·rcases S.new a ha with q | q
     ·exact key (.inr q)
     ·exact .inl q.2
   ·intro a ha
    rcases S.Hl a ha with q | ⟨⟨x,hx,Ij⟩,_⟩
    ·cases q
    ·refine .inr ?_
     rcases h2 x hx with rfl | q
     ·exact GH a Ij
     ·exact hC x q a Ij
   ·intro a ha
    rcases S.new a ha with q | ⟨⟨x,hx,Ij⟩,_⟩
    ·exact h3 a q
    ·rcases h2 x hx with rfl | q
     ·exact GH a Ij
     ·exact hC x q a Ij
theorem Sz (N b:Nat):V (List.replicate N 0) b=false:=by
 unfold V
 rw[ajQ]
 split
 ·rename_i h
  split at h<;>cases h
 ·rfl
theorem Xl (N:Nat):eV (List.replicate N 0)=N:=by unfold eV;rw[List.countP_replicate];simp
theorem alQ {sc:Nat->List Nat}{N n:Nat}(hN:∀ a,∀ b∈sc a,b<N){C:Nat->Prop}(GH:∀ b∈sc n,C b)(hC:∀ a,C a->∀ b∈sc a,C b) :
  (far sc N n).length=N/\(∀ a,(a=n\/V (far sc N n) a=true)->∀ b∈sc a,V (far sc N n) b=true)/\∀ a,V (far sc N n) a=true->C a:=
 aak hN GH hC _ _ _ _ (by decide) (by simp) (.inr (by rw[Xl];omega)) (fun a ha=>by
  rcases ha with rfl | ha
  ·exact .inl (.head _)
  ·rw[Sz] at ha;cases ha) (fun a ha=>by rw[No] at ha;exact .inl ha) (fun a ha=>by rw[Sz] at ha;cases ha)
end Go.Proofs.YtodfajmihkagnaaGreatDoor.nY
namespace Go.Proofs.YtodfajmihkagnaaGreatDoor.DfK
open Go Am Am.K jY me jQ
theorem ao9 (N n:Int)(e:AV)(he:ba e=true)(H:Hp):cK (.func (.func 175) [] []) [.agg [.int .i64 N,e],.int .i64 n] H=some (.bool (decide (0<=n)&&decide (n<N)),al H [.int .i64 N,e] 201 0):=by
 refine adx ?_
 unfold Vs
 by_cases h1:0<=n
 ·simp(disch:=first|exact zqq|fail)only[h1,aeV,ar,au,Nat.reduceAdd,aj,ai,Int.reduceBEq,Int.reduceBNe,Int.reduceLT,Int.reduceLE,Int.reduceGT,Int.reduceGE,Int.reduceNeg]
 ·simp(disch:=first|exact zqq|fail)only[h1,ae8,ar,au,Nat.reduceAdd,aj,ai,Int.reduceBEq,Int.reduceBNe,Int.reduceLT,Int.reduceLE,Int.reduceGT,Int.reduceGE,Int.reduceNeg]
theorem qf (n a b:Int)(H:Hp):cK (.func (.func 119) [] []) [.int .i64 n,.int .i64 a,.int .i64 b] H=some (.bool (decide (a<=n)&&decide (n<=b)),H):=by
 refine adm ?_
 unfold Wx
 by_cases h1:a<=n
 ·simp(disch:=first|exact zqq|fail)only[h1,aeV,ar,au,Nat.reduceAdd,aj,ai,Int.reduceBEq,Int.reduceBNe,Int.reduceLT,Int.reduceLE,Int.reduceGT,Int.reduceGE,Int.reduceNeg]
 ·simp(disch:=first|exact zqq|fail)only[h1,ae8,ar,au,Nat.reduceAdd,aj,ai,Int.reduceBEq,Int.reduceBNe,Int.reduceLT,Int.reduceLE,Int.reduceGT,Int.reduceGE,Int.reduceNeg]
abbrev Ed:=Nat × Nat
def bR (e:Ed):List AV:=[.int .i64 e.1,.int .i64 e.2]
def jC (E:List Ed):List (List AV):=E.map bR
theorem KE (E:List Ed):(jC E).length=E.length:=by simp[jC]
theorem PN {E:List Ed}{i:Nat}{e:Ed}(h:E[i]? = some e):(jC E)[i]? = some (bR e):=by simp[jC,h]
theorem Vt (a b c d:Int)(n:Nat)(H:Hp):dC P (n+2) 231 (.agg [.int .i64 a,.int .i64 b]) (.agg [.int .i64 c,.int .i64 d]) H=some (a==c&&b==d):=by
 have hu:P.underlying 231=some (.array 2 3):=Tryz.underlying231
 have hi:P.underlying 3=some (.int .i64):=Tryz.underlying3
 have hs:sz P 3=some 1:=by kernel_rfl
 have ha:wu P 3=some false:=by kernel_rfl
 have h1:∀ x y:Int,dC P (n+1) 3 (.int .i64 x) (.int .i64 y) H=some (x==y):=by
  intro x y;unfold dC;simp only[hi,if_true]
 rw[dC.eq_def]
 simp only[hu,hs]
 show rR _ [0,1]=_
 simp only[rR,mi,ha,acX,adu,ahk,aiO,adR,adL,h1]
 cases hac:(a==c)<;>cases QG:(b==d)<;>simp[h1,hac,QG]
def vW (E:List (Ed × Nat)):List ME:=E.map fun x=>⟨.agg (bR x.1),.bool true,x.2⟩
theorem MA {H:Hp}{e:Ed}:∀ (E:List (Ed × Nat)) (i:Nat),(∀ x∈E,x.1≠e)->mz P H 231 (.agg (bR e)) (vW E) i=some none
 | [],i,_=>rfl
 | x::E,i,h=>by
  have h1:=Vt e.1 e.2 x.1.1 x.1.2 18 H
  have h2:(((e.1:Nat):Int)==((x.1.1:Nat):Int)&&((e.2:Nat):Int)==((x.1.2:Nat):Int))=false:=by
   rw[<-agC,aaG,beq_iff_eq,beq_iff_eq]
   intro q
   exact h x (.head _) (Prod.ext (by have:=q.1;omega) (by have:=q.2;omega))
  rw[h2] at h1
  show mz P H _ (.agg (bR e)) (⟨.agg (bR x.1),.bool true,x.2⟩::vW E) i=_
  unfold mz
  have KF:dC P 20 231 (.agg (bR e)) (.agg (bR x.1)) H=some false:=h1
  rw[KF]
  exact MA E (i+1) fun y hy=>h y (.tail _ hy)
theorem ZA (e:Ed):nc P 20 231 (.agg (bR e))=true:=by kernel_rfl
theorem lkE {H:Hp}{m c:Nat}{E:List (Ed × Nat)}{e:Ed}(hm:Mp H m (vW E) c)(h:∀ x∈E,x.1≠e):pZ P 248 (.map m) (.agg (bR e)) false H=some (.bool false):=by
 have hu:P.underlying 248=some (.map 231 4):=Tryz.underlying248
 have hz:((P.info? 4).bind (·.zero)).bind jr=some (.bool false):=by kernel_rfl
 unfold pZ
 simp only[hu,ZA,cond_true,Ge hm,MA E 0 h,hz,aek,cond_false]
theorem upE {H:Hp}{m c:Nat}{E:List (Ed × Nat)}{e:Ed}(hm:Mp H m (vW E) c)(h:∀ x∈E,x.1≠e):∃ H',nH P 248 (.map m) (.agg (bR e)) (.bool true) H=some H'/\Mp H' m (vW (E++[(e,c)])) (c+1)/\Out [m] H H'/\H'.next=H.next:=by
 have hu:P.underlying 248=some (.map 231 4):=Tryz.underlying248
 have he:vW (E++[(e,c)])=vW E++[⟨.agg (bR e),.bool true,c⟩]:=by simp[vW]
 rw[he]
 refine⟨_,?_,(hm.set _ _).1,(hm.set _ _).2,rfl⟩
 unfold nH
 simp only[hu,ZA,cond_true,hm.2,MA E 0 h]
structure pD (N:Nat)(E:List Ed):Prop where
 n:N<=16
 lt:∀ e∈E,e.1<N/\e.2<N/\e.1≠e.2
 nd:E.Nodup
 len:E.length<=300
theorem VV {N:Nat}{E:List Ed}{x:AV}{g m:Nat}{H0:Hp}(hE:pD N E)(hx:RL H0 2 x (jC E))(hg:Cs H0 g [.int .i64 N,x] 201 0)(IK:g≠m)(Zg:∀ j∈ak x,j≠m)(k:K.Fn 0):∀ (r:List Ed) (i:Nat) (H:Hp) (M:List (Ed × Nat)) (c:Nat),i<=E.length->E.drop i=r->Out [m] H0 H->Mp H m (vW M) c->M.map (·.1)=E.take i->
  ∃ H',Gc JN GO cK k (.ptr g 0) (.map m) x (.int .i64 (E.length:Nat)) (.int .i64 (i:Nat)) H=k H'/\Out [m] H H'
 | [],i,H,M,c,hi,h,ho,hm,hM=>by
  obtain rfl:=drop_nil hi h
  refine⟨H,?_,Out.refl _ _⟩
  rw[Tt]
  simp only[JU,fZ,aj,ai,Int.reduceBEq,Int.reduceBNe,Int.reduceLT,Int.reduceLE,Int.reduceGT,Int.reduceGE,Int.reduceNeg]
 | e::r,i,H,M,c,hi,h,ho,hm,hM=>by
  obtain⟨h1,h2,h3⟩:=gy h
  obtain⟨l1,l2,l3⟩:=hE.lt e (aaF h2)
  obtain⟨b,o,q1,q2,q3,q4,_⟩:=(hx.out ho fun j hj=>by rw[No];exact Zg j hj).at (by decide) (PN h2)
  have ZH:=hg.out ho (by rw[No];exact IK)
  have xE:=ZH.1
  have wX:=hm.1
  have jy:=ZH.av 2 0 (by simp)
  have es:=gq h1 (by have:=hE.len;omega)
  have d1:decide ((0:Int)<=((e.1:Nat):Int))=true:=decide_eq_true (by omega)
  have d2:decide (((e.1:Nat):Int)<(N:Int))=true:=decide_eq_true (by omega)
  have d3:decide ((0:Int)<=((e.2:Nat):Int))=true:=decide_eq_true (by omega)
  have d4:decide (((e.2:Nat):Int)<(N:Int))=true:=decide_eq_true (by omega)
  have d5:(((e.1:Nat):Int)==((e.2:Nat):Int))=false:=beq_false_of_ne (by omega)
  have aO:∀ y∈M,y.1≠e:=by
   intro y hy heq
   have h4:y.1∈E.take i:=by rw[<-hM];exact List.mem_map_of_mem hy
   have gU:=hE.nd
   rw[<-ah8 i E,h,aff] at gU
   exact gU.2.2 _ h4 e (.head _) heq
  have jN:=hx.one
  have ha1:Mp (al (al (al H (bR e) 231 0) [.int .i64 N,x] 201 0) [.int .i64 N,x] 201 0) m (vW M) c:=((hm.out (aJ H _ _ _) (by simp)).out (aJ _ _ _ _) (by simp)).out (aJ _ _ _ _) (by simp)
  obtain⟨H1,u1,u2,u3,u4⟩:=upE ha1 aO
  have ara:(al (al (al H (bR e) 231 0) [.int .i64 N,x] 201 0) [.int .i64 N,x] 201 0).next=H.next+3:=rfl
  have o1:Out [m] H H1:=((((aJ H (bR e) 231 0).al [.int .i64 N,x] 201 0).al [.int .i64 N,x] 201 0).mono (S':=[m]) (fun j hj=>by cases hj)).trans u3
  obtain⟨H',i1,i2⟩:=VV hE hx hg IK Zg k r (i+1) H1 (M++[(e,c)]) (c+1) h1 h3 (ho.trans o1) u2 (by rw[ad8,hM,ahw,h2];rfl)
  refine⟨H',?_,o1.trans i2⟩
  have lk:=lkE ha1 aO
  have yS:av H b o 2=some (bR e):=q4
  have q5:av H g 0 2=some [.int .i64 N,x]:=jy
  have e0:(bR e)[0]? = some (.int .i64 e.1):=rfl
  have e1:(bR e)[1]? = some (.int .i64 e.2):=rfl
  have e2:(bR e).take 2=bR e:=rfl
  have BU:(bR e).length=2:=rfl
  have jZ:(bR e).all ba=true:=rfl
  have vg:st 2 (.ptr H.next 0) (.agg (bR e)) (al H [.int .i64 0,.int .i64 0] 231 0)=some (al H (bR e) 231 0):=iV rfl rfl rfl (by decide) rfl
  rw[Tt]
  simp(disch:=first|exact zqq|fail)only[JU,bH h1,q1,yS,q5,vg,e0,e1,e2,BU,ao9 _ _ _ jN,d1,d2,d3,d4,d5,lk,u1,es,i1,Bool.and_self,ar,au,Nat.reduceAdd,aj,ai,Int.reduceBEq,Int.reduceBNe,Int.reduceLT,Int.reduceLE,Int.reduceGT,Int.reduceGE,Int.reduceNeg]
abbrev gv (N:Nat)(x:AV):AV := .agg [.int .i64 N,x]
theorem Z4 {N:Nat}{E:List Ed}{x:AV}{H:Hp}(hE:pD N E)(hx:RL H 2 x (jC E)):∃ H',cK (.func (.func 155) [] []) [gv N x] H=some (.bool true,H')/\Out [] H H':=by
 have jN:=hx.one
 have hN:=hE.n
 have mF:=aJ H [.int .i64 N,x] 201 0
 obtain⟨H2,m1,m2,m3,m4⟩:=KK (al H [.int .i64 N,x] 201 0)
 have nz:Out [] H H2:=mF.trans m3
 rw[bI] at m1 m2
 have aI:=hx.1.lt
 obtain⟨H',i1,i2⟩:=VV (g:=H.next) (m:=H.next+1) hE (hx.out0 nz) ((bo H [.int .i64 N,x] 201 0).out m3 (by simp)) (by omega) (fun j hj=>by have:=aI j hj;omega) (fun h=>some (.bool true,h)) E 0 H2 [] 0 (ac4 _) ada (Out.refl _ _) m2 rfl
 refine⟨H',aeb ?_,nz.then i2 fun j hj=>by rw[No] at hj;exact .inr (by omega)⟩
 have hl:=(hx.out0 nz).len (by decide)
 rw[KE] at hl
 have d1:decide ((N:Int)<0)=false:=decide_eq_false (by omega)
 have d2:decide ((16:Int)<(N:Int))=false:=decide_eq_false (by omega)
 rw[show (((0:Nat):Int))=0 from rfl] at i1
 have xM:cellAt H2 H.next 1=some x:=by
  rw[m3.cellAt (by rw[bI];omega) (by simp)]
  exact (bo H [.int .i64 N,x] 201 0).cellAt rfl
 unfold NP
 simp(disch:=first|exact zqq|fail)only[d1,d2,m1,hl,i1,xM,ar,au,Nat.reduceAdd,aj,ai,Int.reduceBEq,Int.reduceBNe,Int.reduceLT,Int.reduceLE,Int.reduceGT,Int.reduceGE,Int.reduceNeg]
def uj (E:List Ed)(n:Nat)(abf:Bool):List Nat:=E.filterMap fun e=>if (bif abf then e.2 else e.1)=n then some (bif abf then e.1 else e.2) else none
def c8 (l:List Nat):List Int:=l.map fun (n:Nat)=>(n:Int)
theorem vM (l:List Nat):(c8 l).length=l.length:=by simp[c8]
theorem RM (a b:List Nat):c8 (a++b)=c8 a++c8 b:=by simp[c8]
theorem VB (E:List Ed)(n:Nat)(b:Bool):(uj E n b).length<=E.length:=List.length_filterMap_le _ _
theorem Ql {N:Nat}{E:List Ed}{x:AV}{H0:Hp}(b1:Bool){n:Nat}(hE:E.length<=300)(hx:RL H0 2 x (jC E)):∀ (r:List Ed) (i:Nat) (H:Hp) (y:AV) (acc:List Nat) (S:List Nat),i<=E.length->E.drop i=r->Out S H0 H->(∀ j∈S,H0.next<=j)->Ow H 3 1 y (ints (c8 acc))->(∀ j∈ak y,H0.next<=j)->acc.length<=i->
  ∃ y' H',(∀ k:K.Fn 1,G4 JN GO cK k (.int .i64 n) (.int .i64 (bif b1 then 1 else 0)) y x (.int .i64 (E.length:Nat)) (.int .i64 (i:Nat)) H=k y' H')/\Ow H' 3 1 y' (ints (c8 (acc++uj r n b1)))/\Out (ak y) H H'/\∀ j∈ak y',j∈ak y\/H.next<=j
 | [],i,H,y,acc,S,hi,h,ho,hS,hy,Fc,ha=>by
  obtain rfl:=drop_nil hi h
  refine⟨y,H,fun k => ?_,by simpa[uj] using hy,Out.refl _ _,fun j hj => .inl hj⟩
  rw[Qw]
  simp only[CJ,fZ,aj,ai,Int.reduceBEq,Int.reduceBNe,Int.reduceLT,Int.reduceLE,Int.reduceGT,Int.reduceGE,Int.reduceNeg]
 | e::r,i,H,y,acc,S,hi,h,ho,hS,hy,Fc,ha=>by
  obtain⟨h1,h2,h3⟩:=gy h
  have dH:=hx.1.lt
  obtain⟨b,o,q1,q2,q3,q4,_⟩:=(hx.out ho fun j hj=>fun q=>by have:=hS j q;have:=dH j hj;omega).at (by decide) (PN h2)
  have es:=gq h1 (by omega)
  have yS:av H b o 2=some (bR e):=q4
  have e0:(bR e)[0]? = some (.int .i64 e.1):=rfl
  have e1:(bR e)[1]? = some (.int .i64 e.2):=rfl
  have BU:(bR e).length=2:=rfl
  have vg:st 2 (.ptr H.next 0) (.agg (bR e)) (al H [.int .i64 0,.int .i64 0] 231 0)=some (al H (bR e) 231 0):=iV rfl rfl rfl (by decide) rfl
  have mF:=aJ H (bR e) 231 0
  have w0:IntKind.wrap .i64 (1-0)=1:=rfl
  have w1:IntKind.wrap .i64 (1-1)=0:=rfl
  by_cases hq:(bif b1 then e.2 else e.1)=n
  ·have hb:uj (e::r) n b1=(bif b1 then e.1 else e.2)::uj r n b1:=by simp[uj,hq]
   obtain⟨y1,H1,p1,p2,p3,p4,p5⟩:=uf (fJ:=3) (z:=[(.int .i64 0)]) (vs:=[.int .i64 ((bif b1 then e.1 else e.2:Nat):Int)]) (hy.out mF (by simp)) rfl rfl (by decide) (by rw[lW,vM];simp;omega)
   have pH:ints (c8 acc)++[.int .i64 ((bif b1 then e.1 else e.2:Nat):Int)]=ints (c8 (acc++[bif b1 then e.1 else e.2])):=by rw[RM,Kq];rfl
   rw[pH] at p2
   have o1:Out (ak y) H H1:=(mF.mono (S':=ak y) fun j hj=>by cases hj).trans p3
   have jJ:=o1.nx
   have lu:=ho.nx
   obtain⟨y',H',i1,i2,i3,i4⟩:=Ql (N:=N) b1 (n:=n) hE hx r (i+1) H1 y1 (acc++[bif b1 then e.1 else e.2]) (S++ak y) h1 h3 ((ho.mono (S':=S++ak y) fun j hj=>abA _ hj).trans (o1.mono fun j hj=>abx _ hj)) (fun j hj=>(abV.1 hj).elim (hS j) (Fc j)) p2 (fun j hj=>(p4 j hj).elim (Fc j) fun q=>by rw[bI] at q;omega) (by simp;omega)
   refine⟨y',H',fun k => ?_,by rw[hb];simpa[ae9] using i2,o1.then i3 fun j hj=>(p4 j hj).imp id fun q=>by rw[bI] at q;omega,fun j hj=>(i4 j hj).elim (fun q=>(p4 j q).imp id fun q=>by rw[bI] at q;omega) fun q => .inr (by omega)⟩
   have iM:=p1 (H.next+1) rfl
   rw[Qw]
   cases b1 with
   | true=>
    simp only[cond_true] at hq iM i1
    subst hq
    simp(disch:=first|exact zqq|fail)only[cond_true,CJ,bH h1,q1,yS,vg,e0,e1,BU,w1,iM,es,i1,ar,au,Nat.reduceAdd,aj,ai,Int.reduceBEq,Int.reduceBNe,Int.reduceLT,Int.reduceLE,Int.reduceGT,Int.reduceGE,Int.reduceNeg]
   | false=>
    simp only[cond_false] at hq iM i1
    subst hq
    simp(disch:=first|exact zqq|fail)only[cond_false,CJ,bH h1,q1,yS,vg,e0,e1,BU,w0,iM,es,i1,ar,au,Nat.reduceAdd,aj,ai,Int.reduceBEq,Int.reduceBNe,Int.reduceLT,Int.reduceLE,Int.reduceGT,Int.reduceGE,Int.reduceNeg]
  ·have hb:uj (e::r) n b1=uj r n b1:=by simp[uj,hq]
   obtain⟨y',H',i1,i2,i3,i4⟩:=Ql (N:=N) b1 (n:=n) hE hx r (i+1) (al H (bR e) 231 0) y acc S h1 h3 (ho.al _ _ _) hS (hy.out mF (by simp)) Fc (by omega)
   refine⟨y',H',fun k => ?_,by rw[hb];exact i2,(mF.mono (S':=ak y) fun j hj=>by cases hj).trans i3,fun j hj=>(i4 j hj).imp id fun q=>by rw[bI] at q;omega⟩
   rw[Qw]
   cases b1 with
   | true=>
    simp only[cond_true] at hq i1
    have aO:(((e.2:Nat):Int)==(n:Int))=false:=beq_false_of_ne (by omega)
    simp(disch:=first|exact zqq|fail)only[cond_true,CJ,bH h1,q1,yS,vg,e0,e1,BU,aO,es,i1,ar,au,Nat.reduceAdd,aj,ai,Int.reduceBEq,Int.reduceBNe,Int.reduceLT,Int.reduceLE,Int.reduceGT,Int.reduceGE,Int.reduceNeg]
   | false=>
    simp only[cond_false] at hq i1
    have aO:(((e.1:Nat):Int)==(n:Int))=false:=beq_false_of_ne (by omega)
    simp(disch:=first|exact zqq|fail)only[cond_false,CJ,bH h1,q1,yS,vg,e0,e1,BU,aO,es,i1,ar,au,Nat.reduceAdd,aj,ai,Int.reduceBEq,Int.reduceBNe,Int.reduceLT,Int.reduceLE,Int.reduceGT,Int.reduceGE,Int.reduceNeg]
open nY
theorem ano {H:Hp}{x:AV}{zs:List Int}(hx:Ow H 3 1 x (ints zs))(hl:zs.length<=16777216) :
  ∃ H',cK (.func (.func 192) [] []) [x] H=some (.tuple [],H')/\Ow H' 3 1 x (ints (hZ.pA zs))/\Out (ak x) H H':=by
 generalize hz:ints zs=l at hx
 cases hx with
 | nil=>
  have:zs=[]:=by simpa[ints] using hz
  subst this
  refine⟨H,yC (p:=hZ.sU) (by kernel_rfl) rfl,?_,Out.refl _ _⟩
  simp[hZ.pA,ints];exact .nil
 | @emp i off=>
  have:zs=[]:=by simpa[ints] using hz
  subst this
  refine⟨H,yC (p:=hZ.sU) (by kernel_rfl) ?_,?_,Out.refl _ _⟩
  ·unfold hZ.sU
   simp only[if_true]
  ·simp[hZ.pA,ints];exact .emp
 | @mk i off n cap ex _ c lo hi fl iS hg hf gT je hJ hn hc hs h1 he=>
  subst hz
  rw[lW,agf] at hn
  by_cases h0:n=0
  ·subst h0
   have:zs=[]:=List.length_eq_zero_iff.1 hn
   subst this
   refine⟨H,yC (p:=hZ.sU) (by kernel_rfl) ?_,?_,Out.refl _ _⟩
   ·unfold hZ.sU
    simp only[if_true]
   ·exact .mk iS hg hf gT je hJ (by simp[hZ.pA,ints]) (by simp[hZ.pA,ints]) hs (by simp[hZ.pA,ints]) he
  ·have og:=hZ.Ua zs
   have Fz:Ro H i off (ints zs):=⟨iS,c,lo,hi,3,fl,hg,gT,by rw[lW];omega,hc⟩
   have G3:=Fz.av
   rw[lW,hn] at G3
   have adl:(Am.av H i off n).bind hZ.xW=some zs:=by rw[G3];exact hZ.Wv zs
   have iR:hZ.sU [.slice i off n cap ex 1] H=some (.tuple [],{ H with h:=H.h.bO i (.cells (c.bZ off (hZ.qu (hZ.pA zs))) lo hi 3 fl) }):=by
    unfold hZ.sU
    simp only
    rw[if_neg h0,if_pos ⟨trivial,by omega⟩,hg,adu]
    unfold hZ.QU
    simp only
    rw[if_pos ⟨gT,by omega,hf⟩,adl]
    rfl
   have eB:∀ j,(H.h.bO i (AO.cells (c.bZ off (hZ.qu (hZ.pA zs))) lo hi 3 fl)).get j=if j=i then some (AO.cells (c.bZ off (hZ.qu (hZ.pA zs))) lo hi 3 fl) else H.h.get j:=fun j=>Tr.ye _ _ _ _ (by rw[hg];rfl)
   refine⟨_,yC (p:=hZ.sU) (by kernel_rfl) iR,?_,⟨aaH _,fun j hj Gw => ?_⟩⟩
   ·refine .mk (c:=c.bZ off (ints (hZ.pA zs))) iS ?_ hf gT je hJ (by rw[lW];omega) (fun k v hk => ?_) (fun k hk => ?_) (afP _) he
    ·show (H.h.bO i _).get i=_
     rw[eB,if_pos rfl]
     rfl
    ·have po:=(aas.1 hk).1
     rw[Tr.uH,if_pos ⟨by omega,by omega⟩,aex]
     exact hk
    ·rw[Tr.uH]
     split
     ·rename_i gX
      rw[aau (by omega)]
      rfl
     ·exact hs k hk
   ·show (H.h.bO i _).get j=_
    rw[eB,if_neg (fun q=>Gw (by subst q;rw[my he];exact .head _))]
def sortN (l:List Nat):List Nat:=l.mergeSort fun x y=>decide (x<=y)
theorem aop (l:List Nat):(sortN l).length=l.length:=(List.mergeSort_perm l _).length_eq
theorem Wm {l:List Nat}{x:Nat}:x∈sortN l↔x∈l:=(List.mergeSort_perm l _).mem_iff
theorem aeH (l:List Nat):hZ.pA (c8 l)=c8 (sortN l):=by
 unfold hZ.pA c8 sortN
 rw[List.map_mergeSort]
 intro a _ b _
 simp
def jR (E:List Ed)(n:Nat)(b:Bool):List Nat:=sortN (uj E n b)
theorem XR (E:List Ed)(n:Nat)(b:Bool):(jR E n b).length<=E.length:=by unfold jR;rw[aop];exact VB E n b
theorem OW {E:List Ed}{n x:Nat}:(x∈jR E n false↔(n,x)∈E)/\(x∈jR E n true↔(x,n)∈E):=by
 unfold jR uj
 rw[Wm,Wm,List.mem_filterMap,List.mem_filterMap]
 constructor
 ·constructor
  ·rintro⟨e,he,h⟩
   simp only[cond_false] at h
   split at h
   ·rename_i h1;cases h;subst h1;exact he
   ·cases h
  ·intro h;exact⟨_,h,by simp⟩
 ·constructor
  ·rintro⟨e,he,h⟩
   simp only[cond_true] at h
   split at h
   ·rename_i h1;cases h;subst h1;exact he
   ·cases h
  ·intro h;exact⟨_,h,by simp⟩
theorem aoO {N:Nat}{E:List Ed}{x:AV}{H:Hp}(b:Bool)(n:Nat)(hE:pD N E)(hx:RL H 2 x (jC E)) :
  ∃ y H',cK (.func (.func 176) [] []) [gv N x,.int .i64 n,.int .i64 (bif b then 1 else 0)] H=some (y,H')/\Ow H' 3 1 y (ints (c8 (jR E n b)))/\Out [] H H'/\∀ j∈ak y,H.next<=j:=by
 have jN:=hx.one
 have mF:=aJ H [.int .i64 N,x] 201 0
 obtain⟨H2,g1,g2⟩:=Z4 hE (hx.out0 mF)
 have gK:=g2.nx
 rw[bI] at gK
 have nz:=mF.trans g2
 have oC:=hx.out0 nz
 obtain⟨y,H3,i1,i2,i3,i4⟩:=Ql (N:=N) b (n:=n) hE.len oC E 0 H2 .ah [] [] (ac4 _) ada (Out.refl _ _) (fun j hj=>by cases hj) .nil (fun j hj=>by cases hj) (aaH _)
 rw[aiT] at i2
 have hr:∀ j∈ak y,H2.next<=j:=fun j hj=>(i4 j hj).elim (fun q=>by cases q) id
 obtain⟨H4,s1,s2,s3⟩:=ano i2 (by rw[vM];have:=VB E n b;have:=hE.len;omega)
 rw[aeH] at s2
 refine⟨y,H4,amL ?_,s2,nz.trans ((i3.mono fun j hj=>by cases hj).then s3 fun j hj => .inr (hr j hj)),fun j hj=>by have:=hr j hj;omega⟩
 have hl:=oC.len (by decide)
 rw[KE] at hl
 have xM:cellAt H2 H.next 1=some x:=by
  rw[g2.cellAt (by rw[bI];omega) (by simp)]
  exact (bo H [.int .i64 N,x] 201 0).cellAt rfl
 rw[show (((0:Nat):Int))=0 from rfl] at i1
 unfold TK
 simp(disch:=first|exact zqz|fail)only[g1,xM,hl,i1,s1,ar,au,aj,ai,simprocAttr]
theorem aaU {N:Nat}{E:List Ed}{x:AV}{H:Hp}(n:Nat)(hE:pD N E)(hx:RL H 2 x (jC E)) :
  ∃ y H',cK (.func (.func 157) [] []) [gv N x,.int .i64 n] H=some (y,H')/\Ow H' 3 1 y (ints (c8 (jR E n false)))/\Out [] H H'/\∀ j∈ak y,H.next<=j:=by
 have jN:=hx.one
 have mF:=aJ H [.int .i64 N,x] 201 0
 obtain⟨y,H',h1,h2,h3,h4⟩:=aoO false n hE (hx.out0 mF)
 refine⟨y,H',aiV ?_,h2,mF.trans h3,fun j hj=>by have:=h4 j hj;rw[bI] at this;omega⟩
 simp only[cond_false] at h1
 unfold ace
 simp(disch:=first|exact zqz|fail)only[h1,ar,au,aj,ai,simprocAttr]
theorem B0 {l:List Nat}{i n:Nat}(h:l[i]? = some n):(ints (c8 l))[i]? = some (.int .i64 (n:Int)):=Di (by simp[c8,h])
theorem Rk {N steps:Nat}{bl:List Nat}{bx:AV}{A:Nat}(aC:0<steps)(gj:∀ b∈bl,b<N)(ll:bl.length<=300)(bC eP di bP:AV)(hA:A∉ak bx) :
  ∀ (r:List Nat) (i:Nat) (H:Hp) (out nx:List Nat) (ny:AV),i<=bl.length->bl.drop i=r->Rw H 1 bx (ints (c8 bl))->(∀ j∈ak ny,j∉ak bx/\j≠A)->out.length=N->nx.length+r.length<=100000->Cs H A (ints (c8 out)) 3 0->Ow H 3 1 ny (ints (c8 nx))->
  ∃ sr H',(∀ (aD:K.Fn 1) (aF fc:K.Fn 4) (dc ey:K.Fn 7),G9 JN GO cK aD aF fc dc ey bC (.slice A 0 N N true 1) (.int .i64 steps) ny eP di bP bx (.int .i64 (bl.length:Nat)) (.int .i64 (i:Nat)) H=ey bC (.slice A 0 N N true 1) (.int .i64 steps) sr eP di bP H')/\
   Cs H' A (ints (c8 (pL steps r (out,nx)).1)) 3 0/\Ow H' 3 1 sr (ints (c8 (pL steps r (out,nx)).2))/\Out (A::ak ny) H H'/\∀ j∈ak sr,j∈ak ny\/H.next<=j
 | [],i,H,out,nx,ny,hi,h,hb,hd,jg,ic,hC,hO=>by
  obtain rfl:=drop_nil hi h
  refine⟨ny,H,fun aD aF fc dc ey => ?_,hC,hO,Out.refl _ _,fun j hj => .inl hj⟩
  rw[Sf]
  simp only[Es,fZ,aj,ai,simprocAttr]
 | b::r,i,H,out,nx,ny,hi,h,hb,hd,jg,ic,hC,hO=>by
  obtain⟨h1,h2,h3⟩:=gy h
  obtain⟨q,q1,q2⟩:=hb.mb (B0 h2) .i64
  have Mm:=gj b (aaF h2)
  have es:=gq h1 (by omega)
  have tf:out[b]? = some (out[b]'(by omega)):=aau (by omega)
  have P7:=hC.ld (B0 tf)
  have nB:ia 1 (.slice A 0 N N true 1) (.int .i64 (b:Int))=some (.ptr A b):=by rw[yh Mm];simp
  simp only[aaN] at ic
  by_cases h0:out[b]'(by omega)=0
  ·rw[h0] at tf P7
   obtain⟨H1,w1,w2,w3,w4⟩:=fG hC (by decide) (o:=b) (by rw[lW,vM];omega) (v := .int .i64 (steps:Int)) rfl
   have fh:(ints (c8 out)).set b (.int .i64 (steps:Int))=ints (c8 (out.set b steps)):=by simp[ints,c8,List.map_set]
   rw[fh] at w2
   have zo:=hO.out w3 fun j hj=>by rw[No];exact (hd j hj).2
   obtain⟨Mt,H2,p1,p2,p3,p4,p5⟩:=uf (fJ:=3) (z:=[(.int .i64 0)]) (vs:=[.int .i64 (b:Int)]) zo rfl rfl (by decide) (by rw[lW,vM];simp;omega)
   have pH:ints (c8 nx)++[.int .i64 (b:Int)]=ints (c8 (nx++[b])):=by rw[RM,Kq];rfl
   rw[pH] at p2
   have aO:A∉ak ny:=fun q=>(hd A q).2 rfl
   have hCl:=hC.1
   have amD:=hb.lt
   obtain⟨sr,H',i1,i2,i3,i4,i5⟩:=Rk (N:=N) aC gj ll bC eP di bP hA r (i+1) H2 (out.set b steps) (nx++[b]) Mt h1 h3 ((hb.out w3 fun j hj=>by rw[No];intro e;subst e;exact hA hj).out p3 fun j hj q=>(hd j q).1 hj)
    (fun j hj=>(p4 j hj).elim (hd j) fun q=>⟨fun z=>by have:=amD j z;omega,by omega⟩) (by rw[adM];exact jg) (by simp;omega) (w2.out p3 aO) p2
   have hex:pL steps (b::r) (out,nx)=pL steps r (out.set b steps,nx++[b]):=by
    show pL steps r (sD steps (out,nx) b)=_
    unfold sD
    rw[if_pos tf]
   have o2:Out (A::ak ny) H H2:=(w3.mono fun j hj=>by rw[No] at hj;subst hj;exact .head _).trans (p3.mono fun j hj => .tail _ hj)
   have jJ:=p3.nx
   rw[hex]
   refine⟨sr,H',fun aD aF fc dc ey => ?_,i2,i3,o2.then i4 fun j hj => ?_,fun j hj=>(i5 j hj).elim (fun q=>(p4 j q).imp id fun q=>by omega) fun q => .inr (by omega)⟩
   ·have iM:=p1 _ rfl
    rw[Sf]
    simp(disch:=first|exact zqz|fail)only[Es,bH h1,q1,q2,nB,P7,Int.natCast_zero,w1,iM,es,i1,ar,au,aj,ai,simprocAttr]
   ·rcases aaY.1 hj with rfl | hj
    ·exact .inl (.head _)
    ·exact (p4 j hj).imp (fun q => .tail _ q) fun q=>by omega
  ·have aoZ:out[b]? ≠ some 0:=fun q=>h0 (by rw[tf] at q;exact adw q)
   have hex:pL steps (b::r) (out,nx)=pL steps r (out,nx):=by
    show pL steps r (sD steps (out,nx) b)=_
    unfold sD
    rw[if_neg aoZ]
   obtain⟨sr,H',i1,i2⟩:=Rk (N:=N) aC gj ll bC eP di bP hA r (i+1) H out nx ny h1 h3 hb hd jg (by omega) hC hO
   rw[hex]
   refine⟨sr,H',fun aD aF fc dc ey => ?_,i2⟩
   have aO:(((out[b]'(by omega):Nat):Int)==0)=false:=beq_false_of_ne (by omega)
   rw[Sf]
   simp(disch:=first|exact zqz|fail)only[Es,bH h1,q1,q2,nB,P7,aO,es,i1,ar,au,aj,ai,simprocAttr]
theorem aaJ {N steps:Nat}{E:List Ed}{x:AV}{g:Nat}{l:List Nat}{lx:AV}{A:Nat}(hE:pD N E)(aC:0<steps)(nu:l.length<=100)(hA:A∉ak lx/\A∉ak x/\A≠g) :
  ∀ (r:List Nat) (i:Nat) (H:Hp) (out nx:List Nat) (ny:AV),i<=l.length->l.drop i=r->Rw H 1 lx (ints (c8 l))->RL H 2 x (jC E)->Cs H g [.int .i64 N,x] 201 0->(∀ j∈ak ny,j∉ak lx/\j∉ak x/\j≠g/\j≠A)->out.length=N->nx.length+r.length*300<=90000->Cs H A (ints (c8 out)) 3 0->Ow H 3 1 ny (ints (c8 nx))->
  ∃ sr H',(∀ (aD:K.Fn 1) (aF fc:K.Fn 4),Ef JN GO cK aD aF fc (.ptr g 0) (.slice A 0 N N true 1) (.int .i64 steps) ny lx (.int .i64 (l.length:Nat)) (.int .i64 (i:Nat)) H=fc (.ptr g 0) (.slice A 0 N N true 1) (.int .i64 steps) sr H')/\
   Cs H' A (ints (c8 (tS (fun n=>jR E n false) steps r (out,nx)).1)) 3 0/\Ow H' 3 1 sr (ints (c8 (tS (fun n=>jR E n false) steps r (out,nx)).2))/\Out (A::ak ny) H H'/\∀ j∈ak sr,j∈ak ny\/H.next<=j
 | [],i,H,out,nx,ny,hi,h,eY,hx,hg,hd,jg,ic,hC,hO=>by
  obtain rfl:=drop_nil hi h
  refine⟨ny,H,fun aD aF fc => ?_,hC,hO,Out.refl _ _,fun j hj => .inl hj⟩
  rw[Tn]
  simp only[Sk,fZ,aj,ai,simprocAttr]
 | a::r,i,H,out,nx,ny,hi,h,eY,hx,hg,hd,jg,ic,hC,hO=>by
  obtain⟨h1,h2,h3⟩:=gy h
  obtain⟨q,q1,q2⟩:=eY.mb (B0 h2) .i64
  have es:=gq h1 (by omega)
  have jN:=hx.one
  have jy:=hg.av 2 0 (by simp)
  have afH:av H g 0 2=some [.int .i64 N,x]:=jy
  obtain⟨bx,H1,b1,b2,b3,b4⟩:=aaU a hE hx
  have gj:∀ b∈jR E a false,b<N:=fun b hb=>(hE.lt _ (OW.1.1 hb)).2.1
  have ll:=XR E a false
  have hEl:=hE.len
  have hCl:=hC.1
  have anI:=hO.rw.lt
  simp only[aaN,afA,aiO] at ic
  obtain⟨Mt,H2,i1,i2,i3,i4,i5⟩:=Rk (N:=N) aC gj (by omega) (.ptr g 0) lx (.int .i64 (l.length:Nat)) (.int .i64 (i:Nat)) (fun q=>by have:=b4 A q;omega) (jR E a false) 0 H1 out nx ny (ac4 _) ada b2.rw (fun j hj=>⟨fun q=>by have:=b4 j q;have:=anI j hj;omega,(hd j hj).2.2.2⟩) jg (by omega) (hC.out b3 (by simp)) (hO.out b3 (by simp))
  have jJ:=b3.nx
  have N6:=eY.lt
  have dH:=hx.1.lt
  have xE:=hg.1
  have key:∀ j,j<H.next->j≠A->j∉ak ny->H2.h.get j=H.h.get j:=fun j hj ha hn=>by
   rw[i4.2 j (by omega) (by rw[aaY,not_or];exact⟨ha,hn⟩),b3.2 j hj (by simp)]
  have o2:Out (A::ak ny) H H2:=(b3.mono fun j hj=>by cases hj).trans i4
  have d1:∀ j∈ak lx,j∉A::ak ny:=fun j hj=>by rw[aaY,not_or];exact⟨fun e=>hA.1 (e▸hj),fun q=>(hd j q).1 hj⟩
  have d2:∀ j∈ak x,j∉A::ak ny:=fun j hj=>by rw[aaY,not_or];exact⟨fun e=>hA.2.1 (e▸hj),fun q=>(hd j q).2.1 hj⟩
  have d3:g∉A::ak ny:=by rw[aaY,not_or];exact⟨fun e=>hA.2.2 e.symm,fun q=>(hd g q).2.2.1 rfl⟩
  have og:=(Ld (sc:=fun n=>jR E n false) aC [a] (out,nx)).len
  have hl1:tS (fun n=>jR E n false) steps (a::r) (out,nx)=tS (fun n=>jR E n false) steps r (pL steps (jR E a false) (out,nx)):=rfl
  have Dn:=Oh aC (jR E a false) (out,nx)
  have hz:=Dn.Bt
  have Xf:(pL steps (jR E a false) (out,nx)).2.length<=nx.length+(jR E a false).length:=by
   have key2:∀ (bs:List Nat) (s:List Nat × List Nat),(pL steps bs s).2.length<=s.2.length+bs.length:=by
    intro bs
    induction bs with
    | nil=>intro s;exact aaH _
    | cons b bs ih=>
     intro s
     have h5:=ih (sD steps s b)
     have h6:(sD steps s b).2.length<=s.2.length+1:=by unfold sD;split<;>simp
     show (pL steps bs (sD steps s b)).2.length<=_
     simp only[aaN];omega
   exact key2 _ _
  obtain⟨sr,H',k1,k2,k3,k4,k5⟩:=aaJ hE aC nu hA r (i+1) H2 _ _ Mt h1 h3 (eY.out o2 d1) (hx.out o2 d2) (hg.out o2 d3) (fun j hj=>(i5 j hj).elim (fun q=>⟨(hd j q).1,(hd j q).2.1,(hd j q).2.2.1,(hd j q).2.2.2⟩) fun q=>⟨fun z=>by have:=N6 j z;omega,fun z=>by have:=dH j z;omega,by omega,by omega⟩) (Dn.len.trans jg) (by omega) i2 i3
  rw[hl1]
  refine⟨sr,H',fun aD aF fc => ?_,k2,k3,o2.then k4 fun j hj => ?_,fun j hj=>(k5 j hj).elim (fun q=>(i5 j q).imp id fun q=>by omega) fun q => .inr (by have:=o2.nx;omega)⟩
  ·have yW:=b2.rw.mZ
   rw[lW,vM] at yW
   rw[show (((0:Nat):Int))=0 from rfl] at i1
   rw[Tn]
   simp(disch:=first|exact zqz|fail)only[Sk,bH h1,q1,q2,afH,b1,yW,i1,es,k1,ar,au,aj,ai,simprocAttr]
  ·rcases aaY.1 hj with rfl | hj
   ·exact .inl (.head _)
   ·exact (i5 j hj).imp (fun q => .tail _ q) fun q=>by omega
theorem ag9 {N:Nat}{E:List Ed}{x:AV}{g A:Nat}(hE:pD N E)(hA:A∉ak x/\A≠g):∀ (f:Nat) (l out:List Nat) (steps:Nat) (lx:AV) (H:Hp),0<steps->steps+f<=100->out.length=N->l.length<=100->(l=[]\/eV out<f)->Rw H 1 lx (ints (c8 l))->A∉ak lx->RL H 2 x (jC E)->Cs H g [.int .i64 N,x] 201 0->Cs H A (ints (c8 out)) 3 0->
  ∃ H',(∀ k:K.Fn 1,Ch JN GO cK k (.ptr g 0) (.slice A 0 N N true 1) lx (.int .i64 steps) H=k (.slice A 0 N N true 1) H')/\Cs H' A (ints (c8 (tK (fun n=>jR E n false) f l out steps))) 3 0/\Out [A] H H':=by
 have Zh:∀ (out:List Nat) (steps:Nat) (lx:AV) (H:Hp),Rw H 1 lx (ints (c8 []))->∀ k:K.Fn 1,Ch JN GO cK k (.ptr g 0) (.slice A 0 N N true 1) lx (.int .i64 steps) H=k (.slice A 0 N N true 1) H:=by
  intro out steps lx H eY k
  have hl:=eY.mZ
  have qA:bq lx=some (.int .i64 0):=hl
  rw[XN]
  simp only[NJ,qA,aj,ai,simprocAttr]
 intro f
 induction f with
 | zero=>
  intro l out steps lx H hs RG jg kD hz eY S7 hx hg hC
  obtain rfl:=hz.resolve_right (by omega)
  exact⟨H,Zh out steps lx H eY,hC,Out.refl _ _⟩
 | succ f ih=>
  intro l out steps lx H hs RG jg kD hz eY S7 hx hg hC
  by_cases pM:l=[]
  ·subst pM
   refine⟨H,Zh out steps lx H eY,?_,Out.refl _ _⟩
   unfold tK
   rw[if_pos rfl];exact hC
  ·have hlp:0<l.length:=List.length_pos_iff.2 pM
   have S:=Ld (sc:=fun n=>jR E n false) hs l (out,[])
   have fw:=S.Bt
   simp only[ads,aem] at fw
   have hzN:eV out<=N:=by unfold eV;rw[<-jg];exact List.countP_le_length
   have hN:=hE.n
   obtain⟨ny,H1,i1,i2,i3,i4,i5⟩:=aaJ hE hs kD ⟨S7,hA.1,hA.2⟩ l 0 H out [] .ah (ac4 _) ada eY hx hg (fun j hj=>by cases hj) jg (by simp;omega) hC .nil
   have o1:Out [A] H H1:=i4.mono fun j hj=>by
    rcases aaY.1 hj with rfl | hj
    ·exact .head _
    ·cases hj
   have yv:∀ j∈ak ny,H.next<=j:=fun j hj=>(i5 j hj).elim (fun q=>by cases q) id
   obtain⟨H',k1,k2,k3⟩:=ih _ _ (steps+1) ny H1 (by omega) (by omega) (S.len.trans jg) (by omega) (by
    have:=hz.resolve_left pM
    cases JJ:(tS (fun n=>jR E n false) steps l (out,[])).2 with
    | nil=>exact .inl rfl
    | cons p q=>rw[JJ] at fw;simp only[aaN] at fw;exact .inr (by omega)) i3.rw (fun q=>by have:=yv A q;have:=hC.1;omega) (hx.out o1 fun j hj=>by rw[No];intro e;subst e;exact hA.1 hj) (hg.out o1 (by rw[No];exact fun e=>hA.2 e.symm)) i2
   refine⟨H',fun k => ?_,?_,o1.trans k3⟩
   ·have hl:=eY.mZ
    rw[lW,vM] at hl
    have d:decide ((0:Int)<((l.length:Nat):Int))=true:=decide_eq_true (by omega)
    have e:IntKind.wrap .i64 ((steps:Int)+1)=((steps+1:Nat):Int):=by rw[wrap_i64 (by omega) (by omega)];rfl
    rw[show (((0:Nat):Int))=0 from rfl] at i1
    rw[XN]
    simp only[NJ,hl,d,i1,e,k1,aj,ai,simprocAttr]
   ·unfold tK
    rw[if_neg pM];exact k2
theorem VI {N:Nat}{E:List Ed}{x:AV}{H:Hp}{n:Nat}(hE:pD N E)(hx:RL H 2 x (jC E)):∃ A H',cK (.func (.func 156) [] []) [gv N x,.int .i64 n] H=some (.slice A 0 N N true 1,H')/\Cs H' A (ints (c8 (far (fun n=>jR E n false) N n))) 3 0/\Out [] H H'/\H.next<=A:=by
 have jN:=hx.one
 have hN:=hE.n
 have mF:=aJ H [.int .i64 N,x] 201 0
 have hm:=X6 (H:=al H [.int .i64 N,x] 201 0) (z := .int .i64 0) (el:=3) (n:=N) .i64 .i64 (by omega)
 have aiS:List.replicate N (AV.int .i64 0)=ints (c8 (List.replicate N 0)):=by simp[ints,c8]
 rw[bI,aiS] at hm
 have nz:=mF.al (ints (c8 (List.replicate N 0))) 3 0
 have c2:=bo (al H [.int .i64 N,x] 201 0) (ints (c8 (List.replicate N 0))) 3 0
 have c1:=(bo H [.int .i64 N,x] 201 0).out (aJ (al H [.int .i64 N,x] 201 0) (ints (c8 (List.replicate N 0))) 3 0) (by simp)
 have o3:=aJ (al (al H [.int .i64 N,x] 201 0) (ints (c8 (List.replicate N 0))) 3 0) [.int .i64 (n:Int)] 3 0
 have vH:=nz.trans o3
 have c3:=bo (al (al H [.int .i64 N,x] 201 0) (ints (c8 (List.replicate N 0))) 3 0) [.int .i64 (n:Int)] 3 0
 have OD:Rw (al (al (al H [.int .i64 N,x] 201 0) (ints (c8 (List.replicate N 0))) 3 0) [.int .i64 (n:Int)] 3 0) 1 (.slice (H.next+2) 0 1 1 true 1) (ints (c8 [n])) := .mk c3.ro rfl (aaH _) rfl
 have dH:=hx.1.lt
 obtain⟨H',i1,i2,i3⟩:=ag9 (g:=H.next) (A:=H.next+1) hE ⟨fun q=>by have:=dH _ q;omega,by omega⟩ (N+1) [n] (List.replicate N 0) 1 (.slice (H.next+2) 0 1 1 true 1) _ (by decide) (by omega) (by simp) (by simp) (.inr (by rw[Xl];omega)) OD (by rw[my (by rfl),No];omega) (hx.out0 vH) (c1.out o3 (by simp)) (c2.out o3 (by simp))
 refine⟨H.next+1,H',aey ?_,i2,vH.then i3 fun j hj=>by rw[No] at hj;exact .inr (by omega),by omega⟩
 rw[show (((1:Nat):Int))=1 from rfl] at i1
 unfold abL
 simp(disch:=first|exact zqz|fail)only[hm,i1,ar,au,aj,ai,simprocAttr]
abbrev sX (E:List Ed)(N n:Nat):List Nat:=far (fun n=>jR E n false) N n
theorem akh {sc:Nat->List Nat}{B:Nat}:∀ (f:Nat) (l out:List Nat) (steps:Nat),steps+f<=B->(∀ v∈out,v<=B)->∀ v∈tK sc f l out steps,v<=B:=by
 have h1:∀ (steps b:Nat) (s:List Nat × List Nat),steps<=B->(∀ v∈s.1,v<=B)->∀ v∈(sD steps s b).1,v<=B:=by
  intro steps b s hs h v hv
  unfold sD at hv
  split at hv
  ·rcases agY hv with hv | rfl
   ·exact h v hv
   ·exact hs
  ·exact h v hv
 have h2:∀ (steps:Nat) (bs:List Nat) (s:List Nat × List Nat),steps<=B->(∀ v∈s.1,v<=B)->∀ v∈(pL steps bs s).1,v<=B:=by
  intro steps bs
  induction bs with
  | nil=>intro s hs h;exact h
  | cons b bs ih=>intro s hs h;exact ih _ hs (h1 steps b s hs h)
 have h3:∀ (steps:Nat) (l:List Nat) (s:List Nat × List Nat),steps<=B->(∀ v∈s.1,v<=B)->∀ v∈(tS sc steps l s).1,v<=B:=by
  intro steps l
  induction l with
  | nil=>intro s hs h;exact h
  | cons b bs ih=>intro s hs h;exact ih _ hs (h2 steps _ s hs h)
 intro f
 induction f with
 | zero=>intro l out steps hs h;exact h
 | succ f ih=>
  intro l out steps hs h
  unfold tK
  split
  ·exact h
  ·exact ih _ _ _ (by omega) (h3 steps l _ (by omega) h)
theorem anQ {E:List Ed}{N n:Nat}(hN:N<=16):∀ v∈sX E N n,v<=100:=by
 refine akh _ _ _ _ (by omega) ?_
 intro v hv
 rw[List.eq_of_mem_replicate hv];omega
theorem afR {N n:Nat}{E:List Ed}(hE:pD N E):(sX E N n).length=N:=
 (alQ (C:=fun _=>True) (fun a b hb=>(hE.lt _ (OW.1.1 hb)).2.1) (fun _ _=>trivial) (fun _ _ _ _=>trivial)).1
def ru (E:List Ed)(N n:Nat):Nat:=(sX E N n).getD n 0
theorem abZ {N n m:Nat}{E:List Ed}(hE:pD N E)(hm:m<N):(sX E N n)[m]? = some ((sX E N n).getD m 0):=by
 rw[agQ,aau (by rw[afR hE];exact hm)];rfl
theorem abQ {N n m:Nat}{E:List Ed}{H':Hp}{A:Nat}(hE:pD N E)(hm:m<N)(hC:Cs H' A (ints (c8 (sX E N n))) 3 0):ia 1 (.slice A 0 N N true 1) (.int .i64 (m:Int))=some (.ptr A m)/\cellAt H' A m=some (.int .i64 (((sX E N n).getD m 0:Nat):Int)):=
 ⟨by rw[yh hm];simp,hC.cellAt (B0 (abZ hE hm))⟩
theorem anP {N n m:Nat}{E:List Ed}(hE:pD N E)(hm:m<N):(sX E N n).getD m 0<=100:=anQ hE.n _ (aaF (abZ hE hm))
theorem alm {N:Nat}{E:List Ed}{x:AV}{g:Nat}(hE:pD N E):∀ (m i st sp:Nat) (H:Hp),i+m=N->st<N+1->(0<sp->st<N)->sp<=100->(sp=0 ↔ ∀ n,n<i->ru E N n=0)->RL H 2 x (jC E)->Cs H g [.int .i64 N,x] 201 0->
  ∃ vG tJ H',(∀ k:K.Fn 3,Gj JN GO cK k (.ptr g 0) (.int .i64 st) (.int .i64 sp) (.int .i64 N) (.int .i64 i) H=k (.ptr g 0) (.int .i64 (vG:Nat)) (.int .i64 (tJ:Nat)) H')/\(0<tJ->vG<N)/\tJ<=100/\(tJ=0 ↔ ∀ n,n<N->ru E N n=0)/\Out [] H H':=by
 intro m
 induction m with
 | zero=>
  intro i st sp H hi aC Lw mh RS hx hg
  obtain rfl:i=N:=by omega
  refine⟨st,sp,H,fun k => ?_,Lw,mh,RS,Out.refl _ _⟩
  rw[FR]
  simp only[AU,fZ,aj,ai,simprocAttr]
 | succ m ih=>
  intro i st sp H hi aC Lw mh RS hx hg
  have jN:=hx.one
  have hN:=hE.n
  have zq:i<N:=by omega
  have jy:av H g 0 2=some [.int .i64 N,x]:=hg.av 2 0 (by simp)
  obtain⟨A,H1,f1,f2,f3,f4⟩:=VI (n:=i) hE hx
  obtain⟨a1,a2⟩:=abQ hE zq f2
  have hle:=anP (n:=i) hE zq
  have hd:(sX E N i).getD i 0=ru E N i:=rfl
  rw[hd] at a2 hle
  have es:IntKind.wrap .i64 ((i:Int)+1)=((i+1:Nat):Int):=by rw[wrap_i64 (by omega) (by omega)];rfl
  have aI:decide (((i:Nat):Int)<((N:Nat):Int))=true:=decide_eq_true (by omega)
  by_cases hk:0<ru E N i
  ·have dk:decide ((0:Int)<((ru E N i:Nat):Int))=true:=decide_eq_true (by omega)
   by_cases h0:sp=0
   ·obtain⟨vG,tJ,H',i1,i2,i3,i4,i5⟩:=ih (i+1) i (ru E N i) H1 (by omega) (by omega) (fun _=>zq) hle ⟨fun q=>by omega,fun q=>by have:=q i (by omega);omega⟩ (hx.out0 f3) (hg.out f3 (by simp))
    refine⟨vG,tJ,H',fun k => ?_,i2,i3,i4,f3.trans i5⟩
    subst h0
    rw[FR]
    simp(disch:=first|exact zqz|fail)only[AU,aI,jy,f1,a1,a2,dk,Int.natCast_zero,es,i1,ar,au,aj,ai,simprocAttr]
   ·have e0:((sp:Int)==0)=false:=beq_false_of_ne (by omega)
    by_cases h1:ru E N i<sp
    ·have dl:decide (((ru E N i:Nat):Int)<((sp:Nat):Int))=true:=decide_eq_true (by omega)
     obtain⟨vG,tJ,H',i1,i2,i3,i4,i5⟩:=ih (i+1) i (ru E N i) H1 (by omega) (by omega) (fun _=>zq) hle ⟨fun q=>by omega,fun q=>by have:=q i (by omega);omega⟩ (hx.out0 f3) (hg.out f3 (by simp))
     refine⟨vG,tJ,H',fun k => ?_,i2,i3,i4,f3.trans i5⟩
     rw[FR]
     simp(disch:=first|exact zqz|fail)only[AU,aI,jy,f1,a1,a2,dk,e0,dl,es,i1,ar,au,aj,ai,simprocAttr]
    ·have dl:decide (((ru E N i:Nat):Int)<((sp:Nat):Int))=false:=decide_eq_false (by omega)
     obtain⟨vG,tJ,H',i1,i2,i3,i4,i5⟩:=ih (i+1) st sp H1 (by omega) aC Lw mh ⟨fun q=>by omega,fun q=>by have:=q i (by omega);omega⟩ (hx.out0 f3) (hg.out f3 (by simp))
     refine⟨vG,tJ,H',fun k => ?_,i2,i3,i4,f3.trans i5⟩
     rw[FR]
     simp(disch:=first|exact zqz|fail)only[AU,aI,jy,f1,a1,a2,dk,e0,dl,es,i1,ar,au,aj,ai,simprocAttr]
  ·have AX:ru E N i=0:=by omega
   have dk:decide ((0:Int)<((ru E N i:Nat):Int))=false:=decide_eq_false (by omega)
   obtain⟨vG,tJ,H',i1,i2,i3,i4,i5⟩:=ih (i+1) st sp H1 (by omega) aC Lw mh (RS.trans ⟨fun q n hn=>by
    by_cases hni:n=i
    ·subst hni;exact AX
    ·exact q n (by omega),fun q n hn=>q n (by omega)⟩) (hx.out0 f3) (hg.out f3 (by simp))
   refine⟨vG,tJ,H',fun k => ?_,i2,i3,i4,f3.trans i5⟩
   rw[FR]
   simp(disch:=first|exact zqz|fail)only[AU,aI,jy,f1,a1,a2,dk,es,i1,ar,au,aj,ai,simprocAttr]
theorem NU {N:Nat}{E:List Ed}{x:AV}{g st left:Nat}{bl:List Nat}(hE:pD N E)(aC:st<N)(gj:∀ b∈bl,b<N)(ll:bl.length<=300):∀ (r:List Nat) (i:Nat) (bx y:AV) (out:List Nat) (H:Hp),i<=bl.length->bl.drop i=r->Rw H 1 bx (ints (c8 bl))->RL H 2 x (jC E)->Cs H g [.int .i64 N,x] 201 0->Ow H 3 1 y (ints (c8 out))->out.length<=10000->
  ∃ y' kF H',(∀ (iD:K.Fn 1) (mA kZ:K.Fn 4),GX JN GO cK iD mA kZ (.ptr g 0) (.int .i64 st) y (.int .i64 left) bx (.int .i64 (bl.length:Nat)) (.int .i64 (i:Nat)) H=kZ (.ptr g 0) (.int .i64 st) y' (.int .i64 left) H')/\Ow H' 3 1 y' (ints (c8 kF))/\(kF=out\/∃ b,b<N/\kF=out++[b])/\Out (ak y) H H'/\∀ j∈ak y',j∈ak y\/H.next<=j
 | [],i,bx,y,out,H,hi,h,hb,hx,hg,hO,jg=>by
  obtain rfl:=drop_nil hi h
  refine⟨y,out,H,fun iD mA kZ => ?_,hO,.inl rfl,Out.refl _ _,fun j hj => .inl hj⟩
  rw[Lu]
  simp only[CI,fZ,aj,ai,simprocAttr]
 | b::r,i,bx,y,out,H,hi,h,hb,hx,hg,hO,jg=>by
  obtain⟨h1,h2,h3⟩:=gy h
  obtain⟨q,q1,q2⟩:=hb.mb (B0 h2) .i64
  have Mm:=gj b (aaF h2)
  have es:=gq h1 (by omega)
  have jN:=hx.one
  have jy:av H g 0 2=some [.int .i64 N,x]:=hg.av 2 0 (by simp)
  by_cases sB:b=st
  ·have d:(((b:Nat):Int) != ((st:Nat):Int))=false:=by subst sB;simp
   obtain⟨y',kF,H',i1,i2⟩:=NU (left:=left) hE aC gj ll r (i+1) bx y out H h1 h3 hb hx hg hO jg
   refine⟨y',kF,H',fun iD mA kZ => ?_,i2⟩
   rw[Lu]
   simp(disch:=first|exact zqz|fail)only[CI,bH h1,q1,q2,d,es,i1,ar,au,aj,ai,simprocAttr]
  ·have d:(((b:Nat):Int) != ((st:Nat):Int))=true:=by simp;omega
   obtain⟨A,H1,f1,f2,f3,f4⟩:=VI (n:=b) hE hx
   obtain⟨a1,a2⟩:=abQ hE aC f2
   by_cases hl:(sX E N b).getD st 0=left
   ·have d2:((((sX E N b).getD st 0:Nat):Int)==((left:Nat):Int))=true:=by rw[hl];simp
    obtain⟨y1,H2,p1,p2,p3,p4,p5⟩:=uf (fJ:=3) (z:=[(.int .i64 0)]) (vs:=[.int .i64 (b:Int)]) (hO.out f3 (by simp)) rfl rfl (by decide) (by rw[lW,vM];simp;omega)
    have pH:ints (c8 out)++[.int .i64 (b:Int)]=ints (c8 (out++[b])):=by rw[RM,Kq];rfl
    rw[pH] at p2
    have jJ:=f3.nx
    refine⟨y1,out++[b],H2,fun iD mA kZ => ?_,p2,.inr ⟨b,Mm,rfl⟩,(f3.mono fun j hj=>by cases hj).trans p3,fun j hj=>(p4 j hj).imp id fun q=>by omega⟩
    have iM:=p1 _ rfl
    rw[Lu]
    simp(disch:=first|exact zqz|fail)only[CI,bH h1,q1,q2,d,jy,f1,a1,a2,d2,iM,ar,au,aj,ai,simprocAttr]
   ·have d2:((((sX E N b).getD st 0:Nat):Int)==((left:Nat):Int))=false:=beq_false_of_ne (by omega)
    obtain⟨y',kF,H',i1,i2,i3,i4,i5⟩:=NU (left:=left) hE aC gj ll r (i+1) bx y out H1 h1 h3 (hb.out0 f3) (hx.out0 f3) (hg.out f3 (by simp)) (hO.out f3 (by simp)) jg
    have jJ:=f3.nx
    refine⟨y',kF,H',fun iD mA kZ => ?_,i2,i3,(f3.mono fun j hj=>by cases hj).trans i4,fun j hj=>(i5 j hj).imp id fun q=>by omega⟩
    rw[Lu]
    simp(disch:=first|exact zqz|fail)only[CI,bH h1,q1,q2,d,jy,f1,a1,a2,d2,es,i1,ar,au,aj,ai,simprocAttr]
theorem agi {N:Nat}{E:List Ed}{x:AV}{g st:Nat}(hE:pD N E)(aC:st<N):∀ (left:Nat) (y:AV) (out:List Nat) (H:Hp),out≠[]->(∀ b∈out,b<N)->out.length+left<=1000->RL H 2 x (jC E)->Cs H g [.int .i64 N,x] 201 0->Ow H 3 1 y (ints (c8 out))->(∀ j∈ak y,j∉ak x/\j≠g)->
  ∃ y' kF H',(∀ k:K.Fn 1,Fs JN GO cK k (.ptr g 0) (.int .i64 st) y (.int .i64 left) H=k y' H')/\Ow H' 3 1 y' (ints (c8 kF))/\kF≠[]/\Out (ak y) H H':=by
 intro left
 induction left with
 | zero=>
  intro y out H h0 aI hn hx hg hO hd
  refine⟨y,out,H,fun k => ?_,hO,h0,Out.refl _ _⟩
  have d:decide ((0:Int)<((0:Nat):Int))=false:=rfl
  rw[aat]
  simp only[Na,d,aj,ai,simprocAttr]
 | succ left ih=>
  intro y out H h0 aI hn hx hg hO hd
  have aU:0<out.length:=List.length_pos_iff.2 h0
  have jN:=hx.one
  have jy:av H g 0 2=some [.int .i64 N,x]:=hg.av 2 0 (by simp)
  have yW:=hO.rw.mZ
  rw[lW,vM] at yW
  obtain⟨a,ha⟩:∃ a,out[out.length-1]? = some a:=⟨_,aau (by omega)⟩
  obtain⟨q,q1,q2⟩:=hO.rw.mb (B0 ha) .i64
  have hEl:=hE.len
  have gj:∀ b∈jR E a false,b<N:=fun b hb=>(hE.lt _ (OW.1.1 hb)).2.1
  have ll:=XR E a false
  obtain⟨bx,H1,b1,b2,b3,b4⟩:=aaU a hE hx
  have SF:=b2.rw.mZ
  rw[lW,vM] at SF
  have Fc:=hO.rw.lt
  obtain⟨y1,Iz,H2,i1,i2,i3,i4,i5⟩:=NU (left:=left+1) hE aC gj (by omega) (jR E a false) 0 bx y out H1 (ac4 _) ada b2.rw (hx.out0 b3) (hg.out b3 (by simp)) (hO.out b3 (by simp)) (by omega)
  have jJ:=b3.nx
  have o2:Out (ak y) H H2:=(b3.mono fun j hj=>by cases hj).trans i4
  have dH:=hx.1.lt
  have xE:=hg.1
  have iq:∀ j∈ak y1,j∈ak y\/H.next<=j:=fun j hj=>(i5 j hj).imp id fun q=>by omega
  have Ph:Iz≠[]/\(∀ b∈Iz,b<N)/\Iz.length<=out.length+1:=by
   rcases i3 with rfl | ⟨b,hb,rfl⟩
   ·exact⟨h0,aI,by omega⟩
   ·refine⟨by simp,fun c hc => ?_,by simp⟩
    rcases abV.1 hc with hc | hc
    ·exact aI c hc
    ·rw[No] at hc;subst hc;exact hb
  obtain⟨y',kF,H',k1,k2,k3,k4⟩:=ih y1 Iz H2 Ph.1 Ph.2.1 (by have:=Ph.2.2;omega) (hx.out o2 fun j hj q=>(hd j q).1 hj) (hg.out o2 fun q=>(hd g q).2 rfl) i2 (fun j hj=>(iq j hj).elim (hd j) fun q=>⟨fun z=>by have:=dH j z;omega,by omega⟩)
  refine⟨y',kF,H',fun k => ?_,k2,k3,o2.then k4 iq⟩
  have d:decide ((0:Int)<((left+1:Nat):Int))=true:=decide_eq_true (by omega)
  have e1:IntKind.wrap .i64 (((out.length:Nat):Int)-1)=((out.length-1:Nat):Int):=by rw[wrap_i64 (by omega) (by omega)];omega
  have e2:IntKind.wrap .i64 (((left+1:Nat):Int)-1)=((left:Nat):Int):=by rw[wrap_i64 (by omega) (by omega)];omega
  rw[show (((0:Nat):Int))=0 from rfl] at i1
  rw[aat]
  simp(disch:=first|exact zqz|fail)only[Na,d,jy,yW,e1,q1,q2,b1,SF,i1,e2,k1,ar,au,aj,ai,simprocAttr]
def ym (N:Nat)(E:List Ed):Prop:=∀ n,n<N->ru E N n=0
theorem aos {N:Nat}{E:List Ed}{x:AV}{H:Hp}(hE:pD N E)(hx:RL H 2 x (jC E)):∃ (y:AV) (k:Nat) (H':Hp),cK (.func (.func 126) [] []) [gv N x] H=some (y,H')/\bq y=some (.int .i64 k)/\(k=0↔ym N E)/\Out [] H H':=by
 have jN:=hx.one
 have hN:=hE.n
 have mF:=aJ H [.int .i64 N,x] 201 0
 have c1:=bo H [.int .i64 N,x] 201 0
 obtain⟨H2,g1,g2⟩:=Z4 hE (hx.out0 mF)
 have gK:=g2.nx
 rw[bI] at gK
 have nz:=mF.trans g2
 have c2:=c1.out g2 (by simp)
 obtain⟨st,sp,H3,i1,i2,i3,i4,i5⟩:=alm (g:=H.next) hE N 0 0 0 H2 (by omega) (by omega) (by omega) (by omega) ⟨fun _ n hn=>by omega,fun _=>rfl⟩ (hx.out0 nz) c2
 rw[show (((0:Nat):Int))=0 from rfl] at i1
 have CW:cellAt H2 H.next 0=some (.int .i64 N):=c2.cellAt rfl
 have vH:=nz.trans i5
 have c3:=c2.out i5 (by simp)
 have wH:=i5.nx
 by_cases h0:sp=0
 ·refine⟨.ah,0,H3,Xi ?_,rfl,⟨fun _=>i4.1 h0,fun _=>rfl⟩,vH⟩
  subst h0
  unfold Lq
  simp(disch:=first|exact zqz|fail)only[g1,CW,i1,Int.natCast_zero,ar,au,aj,ai,simprocAttr]
 ·have V8:=i2 (by omega)
  have c4:=bo H3 [.int .i64 (st:Int)] 3 0
  have o4:=aJ H3 [.int .i64 (st:Int)] 3 0
  have hO:Ow (al H3 [.int .i64 (st:Int)] 3 0) 3 1 (.slice H3.next 0 1 1 true 1) (ints (c8 [st])):=c4.ow (by decide) rfl (by intro v hv;rw[No] at hv;subst hv;rfl) true
  have dH:=hx.1.lt
  obtain⟨y,out,H5,k1,k2,k3,k4⟩:=agi (g:=H.next) hE V8 (sp-1) _ [st] _ (by simp) (by intro b hb;rw[No] at hb;subst hb;exact V8) (by simp;omega) (hx.out0 (vH.trans o4)) (c3.out o4 (by simp)) hO (fun j hj=>by
   rw[my (by rfl),No] at hj
   exact⟨fun q=>by have:=dH j q;omega,by omega⟩)
  have yW:=k2.rw.mZ
  rw[lW,vM] at yW
  have aU:0<out.length:=List.length_pos_iff.2 k3
  refine⟨y,out.length,H5,Xi ?_,yW,⟨fun q=>by omega,fun q=>absurd (i4.2 q) h0⟩,(vH.trans o4).then k4 fun j hj => ?_⟩
  ·have d:(((sp:Nat):Int)==0)=false:=beq_false_of_ne (by omega)
   have e:IntKind.wrap .i64 (((sp:Nat):Int)-1)=((sp-1:Nat):Int):=by rw[wrap_i64 (by omega) (by omega)];omega
   unfold Lq
   simp(disch:=first|exact zqz|fail)only[g1,CW,i1,d,e,k1,ar,au,aj,ai,simprocAttr]
  ·rw[my (by rfl),No] at hj;exact .inr (by omega)
abbrev p9:aq:=[97,98,99,100,101,102,103,104,105,106,107,108,109,110,111,112,113,114,115,116,117,118,119,120,121,122,48,49,50,51,52,53,54,55,56,57]
noncomputable def uL (s:aq):Bool := !(s==[])&&(decide ((s.length:Int)<=16)&&(yR s p9==[]))
theorem IG (s:aq)(H:Hp):cK (.func (.func 54) [] []) [.str s] H=some (.bool (uL s),H):=by
 refine al3 ?_
 unfold YT uL
 cases h0:(s==[]) with
 | true=>simp only[h0,ajM,ae8,aj,ai,simprocAttr]
 | false=>
  by_cases h1:(s.length:Int)<=16
  ·have ht:=ahc s p9 H (by omega) (by decide) (by decide)
   simp only[h0,h1,ht,aeV,aj,ai,simprocAttr]
  ·simp only[h0,h1,aeV,ae8,aj,ai,simprocAttr]
noncomputable def pO (s:aq):Option Nat:=if s.length<=4 then (match Lib.atoiAll (vT s) with | .ok v=>if dec v=s/\0<=v then some v.toNat else none | _=>none) else none
theorem ach (T:Nat)(v:AV)(H:Hp):gA P .eql 183 true (.iface T v) .nilIface=true/\eA P .eql 183 (.iface T v) .nilIface H=some (.bool false):=by
 have hu:∃ m,P.underlying 183=some (.interface m):=⟨_,Tryz.underlying183⟩
 obtain⟨m,hu⟩:=hu
 refine⟨rfl,?_⟩
 unfold eA dC
 simp only[hu];rfl
theorem acR (H:Hp):gA P .eql 183 true .nilIface .nilIface=true/\eA P .eql 183 .nilIface .nilIface H=some (.bool true):=by
 have hu:∃ m,P.underlying 183=some (.interface m):=⟨_,Tryz.underlying183⟩
 obtain⟨m,hu⟩:=hu
 refine⟨rfl,?_⟩
 unfold eA dC
 simp only[hu];rfl
theorem aiY {s:aq}(hs:s.length<=4){v:Int}(h:Lib.atoiAll (vT s) = .ok v) : -9223372036854775808<=v/\v<=9223372036854775807:=by
 unfold Lib.atoiAll at h
 split at h
 ·cases h
 ·simp only at h
  split at h
  ·cases h
  ·cases h
  ·split at h
   ·cases h
   ·split at h
    ·cases h
    ·injection h with h
     rename_i h1 h2
     split at h<;>omega
theorem anO {s:aq}{H:Hp}(hg:Gl H):∃ n ok H',cK (.func (.func 153) [] []) [.str s] H=some (.tuple [.int .i64 n,.bool ok],H')/\(pO s=if ok then some n.toNat else none)/\(ok=true->0<=n)/\Out [] H H':=by
 by_cases hl:s.length<=4
 ·have d:decide ((4:Int)<(s.length:Int))=false:=decide_eq_false (by omega)
  have ha:=aeK (s:=s) (by omega) hg
  have ug:pO s=(match Lib.atoiAll (vT s) with | .ok v=>if dec v=s/\0<=v then some v.toNat else none | _=>none):=by unfold pO;rw[if_pos hl]
  unfold JE at ha
  cases hr:Lib.atoiAll (vT s) with
  | ok v=>
   rw[hr] at ha ug
   obtain⟨b1,b2⟩:=aiY hl hr
   obtain⟨H',i1,i2⟩:=HZ b1 b2 hg
   have hn:=acR H
   by_cases h1:dec v=s
   ·have e1:(dec v==s)=true:=by rw[h1];simp
    refine⟨v,decide (0<=v),H',GS ?_,?_,fun q=>by simpa using q,i2⟩
    ·unfold Dd
     simp(disch:=first|exact zqz|fail)only[d,ha,hn.1,hn.2,lf,i1,e1,ar,au,aj,ai,simprocAttr]
    ·rw[ug]
     by_cases h0:0<=v<;>simp[h1,h0]
   ·have e1:(dec v==s)=false:=beq_false_of_ne h1
    refine⟨v,false,H',GS ?_,?_,(fun q=>by cases q),i2⟩
    ·unfold Dd
     simp(disch:=first|exact zqz|fail)only[d,ha,hn.1,hn.2,lf,i1,e1,ar,au,aj,ai,simprocAttr]
    ·rw[ug];simp[h1]
  | range=>
   rw[hr] at ha ug
   have hn:=ach 269 .cU H
   refine⟨Lib.atoiSat (vT s),false,H,GS ?_,by rw[ug];rfl,(fun q=>by cases q),Out.refl _ _⟩
   unfold Dd
   simp(disch:=first|exact zqz|fail)only[d,ha,hn.1,hn.2,lf,ar,au,aj,ai,simprocAttr]
  | _=>
   rw[hr] at ha ug
   have hn:=ach 269 .cU H
   refine⟨0,false,H,GS ?_,by rw[ug];rfl,(fun q=>by cases q),Out.refl _ _⟩
   unfold Dd
   simp(disch:=first|exact zqz|fail)only[d,ha,hn.1,hn.2,lf,ar,au,aj,ai,simprocAttr]
 ·have d:decide ((4:Int)<(s.length:Int))=true:=decide_eq_true (by omega)
  refine⟨0,false,H,GS ?_,by unfold pO;rw[if_neg hl];rfl,(fun q=>by cases q),Out.refl _ _⟩
  unfold Dd
  simp(disch:=first|exact zqz|fail)only[d,ar,au,aj,ai,simprocAttr]
structure Tk where
 name:aq
 after:List Int
 retry:Int
 wait:Int
 base:Int
 on:aq
 deriving DecidableEq
def aK (t:Tk)(x:AV):List AV:=[.str t.name,x,.int .i64 t.retry,.int .i64 t.wait,.int .i64 t.base,.str t.on]
def lD (dx:AV)(xs:List AV):List Nat:=ak dx++xs.flatMap ak
structure RD (H:Hp)(dx:AV)(xs:List AV)(ts:List Tk):Prop where
 len:xs.length=ts.length
 row:RL H 6 dx (List.zipWith aK ts xs)
 jn:∀ (i:Nat) (x:AV) (t:Tk),xs[i]? = some x->ts[i]? = some t->Rw H 1 x (ints t.after)
theorem RD.out {H H':Hp}{dx:AV}{xs:List AV}{ts:List Tk}{S:List Nat}(h:RD H dx xs ts)(k:Out S H H')(hs:∀ j∈lD dx xs,j∉S):RD H' dx xs ts:=
 ⟨h.len,h.row.out k fun j hj=>hs j (abA _ hj),fun i x t hx ht=>(h.jn i x t hx ht).out k fun j hj=>hs j (abx _ (ahu.2 ⟨x,aaF hx,hj⟩))⟩
theorem RD.out0 {H H':Hp}{dx:AV}{xs:List AV}{ts:List Tk}(h:RD H dx xs ts)(k:Out [] H H'):RD H' dx xs ts:=h.out k fun _ _ q=>by cases q
theorem RD.lt {H:Hp}{dx:AV}{xs:List AV}{ts:List Tk}(h:RD H dx xs ts):∀ j∈lD dx xs,j<H.next:=by
 intro j hj
 rcases abV.1 hj with hj | hj
 ·exact h.row.1.lt j hj
 ·obtain⟨x,hx,hj⟩:=ahu.1 hj
  obtain⟨i,hi⟩:=adQ hx
  have hit:i<ts.length:=by rw[<-h.len];exact (aas.1 hi).1
  exact (h.jn i x _ hi (aau hit)).lt j hj
theorem RD.at {H:Hp}{dx:AV}{xs:List AV}{ts:List Tk}(h:RD H dx xs ts){i:Nat}{t:Tk}(ht:ts[i]? = some t) :
  ∃ x b o,xs[i]? = some x/\ba x=true/\Rw H 1 x (ints t.after)/\(∀ k,ia 6 dx (.int k i)=some (.ptr b o))/\b<H.next/\av H b o 6=some (aK t x)/\cellAt H b o=some (.str t.name):=by
 have hi:=(aas.1 ht).1
 have hx:xs[i]? = some (xs[i]'(by rw[h.len];exact hi)):=aau _
 have hw:=h.jn i _ t hx ht
 have hz:(List.zipWith aK ts xs)[i]? = some (aK t (xs[i]'(by rw[h.len];exact hi))):=by rw[aeh,ht,hx]
 obtain⟨b,o,h1,h2,h3,h4,h5⟩:=h.row.at (by decide) hz
 exact⟨_,b,o,hx,hw.one,hw,h1,h3,h4,by have:=h5 0 _ rfl;rw[aem] at this;exact this⟩
theorem RD.bq {H:Hp}{dx:AV}{xs:List AV}{ts:List Tk}(h:RD H dx xs ts):bq dx=some (.int .i64 (ts.length:Nat)):=by
 have:=h.row.len (by decide)
 rw[agy,h.len,Nat.min_self] at this
 exact this
abbrev dv (dx:AV):AV := .agg [dx]
noncomputable def vK (t:Tk):Bool := !uL t.name||(!(t.on==[])&&!uL t.on)
def tV (t:Tk):Bool := !(decide (0<=t.retry)&&decide (t.retry<=8))||(!(decide (1<=t.wait)&&decide (t.wait<=1000))||!(decide (1<=t.base)&&decide (t.base<=1000)))
theorem uh (t:Tk)(x:AV):(aK t x)[0]? = some (.str t.name)/\(aK t x)[1]? = some x/\(aK t x)[2]? = some (.int .i64 t.retry)/\(aK t x)[3]? = some (.int .i64 t.wait)/\(aK t x)[4]? = some (.int .i64 t.base)/\(aK t x)[5]? = some (.str t.on):=⟨rfl,rfl,rfl,rfl,rfl,rfl⟩
theorem xI (t:Tk)(x:AV):(aK t x).length=6:=rfl
theorem TF (t:Tk)(x:AV):(aK t x).take 6=aK t x:=rfl
theorem ve (t:Tk)(x:AV)(H:Hp):bx 99 (.agg (aK t x)) H=some (H.next,al H (aK t x) 99 0):=iW (by rw[xI];omega)
theorem yA (t:Tk)(x:AV)(hx:ba x=true)(H:Hp):st 6 (.ptr H.next 0) (.agg (aK t x)) (al H [(.str []),.ah,(.int .i64 0),(.int .i64 0),(.int .i64 0),(.str [])] 99 0)=some (al H (aK t x) 99 0):=
 iV (by simp[aK,Du,kA,hx]) rfl rfl (by decide) rfl
theorem afo (t:Tk)(x:AV)(i:Int)(H:Hp):∃ H',cK (.func (.func 120) [] []) [.int .i64 i,.agg (aK t x)] H=some (.bool (vK t),H')/\Out [] H H':=by
 refine⟨al H (aK t x) 99 0,ac3 ?_,aJ _ _ _ _⟩
 obtain⟨e0,e1,e2,e3,e4,e5⟩:=uh t x
 unfold UT vK
 cases h1:uL t.name with
 | false=>simp(disch:=first|exact zqz|fail)only[ve,e0,e5,IG,h1,ajT,Bool.true_or,ar,au,aj,ai,simprocAttr]
 | true=>
  cases h2:(t.on==[]) with
  | true=>simp(disch:=first|exact zqz|fail)only[ve,e0,e5,IG,h1,h2,ajM,Bool.false_or,ae8,ar,au,aj,ai,simprocAttr]
  | false=>simp(disch:=first|exact zqz|fail)only[ve,e0,e5,IG,h1,h2,ajM,ajT,Bool.false_or,aeV,ar,au,aj,ai,simprocAttr]
theorem akW (t:Tk)(x:AV)(i:Int)(H:Hp):∃ H',cK (.func (.func 122) [] []) [.int .i64 i,.agg (aK t x)] H=some (.bool (tV t),H')/\Out [] H H':=by
 refine⟨al H (aK t x) 99 0,agA ?_,aJ _ _ _ _⟩
 obtain⟨e0,e1,e2,e3,e4,e5⟩:=uh t x
 unfold Wf tV
 cases h1:(decide (0<=t.retry)&&decide (t.retry<=8)) with
 | false=>simp(disch:=first|exact zqz|fail)only[ve,e2,e3,e4,qf,h1,ajT,Bool.true_or,ar,au,aj,ai,simprocAttr]
 | true=>
  cases h2:(decide (1<=t.wait)&&decide (t.wait<=1000)) with
  | false=>simp(disch:=first|exact zqz|fail)only[ve,e2,e3,e4,qf,h1,h2,ajM,ajT,Bool.false_or,Bool.true_or,ar,au,aj,ai,simprocAttr]
  | true=>simp(disch:=first|exact zqz|fail)only[ve,e2,e3,e4,qf,h1,h2,ajM,Bool.false_or,ar,au,aj,ai,simprocAttr]
def qp (n:Int)(i:Int)(pre:List Int):List Int->Bool
 | []=>true
 | a::l=>(decide (0<=a)&&decide (a<=n-1))&&(!(i==a)&&(!(pre.any (fun b=>a==b))&&qp n i (pre++[a]) l))
theorem Ym {dx:AV}{n:Nat}{l:List Int}{lx:AV}{g:Nat}{i:Int}(hn:n<=100000)(hl:l.length<=100000)(sP:bq dx=some (.int .i64 n)):∀ (r:List Int) (k:Nat) (H:Hp) (j4:K.Fn 0),k<=l.length->l.drop k=r->Rw H 1 lx (ints l)->cellAt H g 0=some dx->
  Hn JN GO cK j4 (.int .i64 i) lx (.ptr g 0) lx (.int .i64 (l.length:Nat)) (.int .i64 (k:Nat)) H=if qp n i (l.take k) r then j4 H else some (.bool false,H)
 | [],k,H,j4,hk,h,eY,hg=>by
  obtain rfl:=drop_nil hk h
  rw[SH]
  simp only[zB,fZ,qp,if_true,aj,ai,simprocAttr]
 | a::r,k,H,j4,hk,h,eY,hg=>by
  obtain⟨h1,h2,h3⟩:=gy h
  obtain⟨q,q1,q2⟩:=eY.mb (Di h2) .i64
  have es:=gq h1 (by omega)
  have ih:=Ym (i:=i) hn hl sP r (k+1) H j4 h1 h3 eY hg
  have pV:l.take (k+1)=l.take k++[a]:=by rw[ahw,h2];rfl
  rw[pV] at ih
  have e1:IntKind.wrap .i64 ((n:Int)-1)=(n:Int)-1:=wrap_i64 (by omega) (by omega)
  obtain⟨sR,s1,s2,s3⟩:=Hk (n:=l.length) eY (by rw[lW,agf]) (by decide) (a:=0) (b:=k) (lo:=none) (hi:=some (.int .i64 (k:Nat))) (ac4 _) hk (Bd.no 0) (Bd.yes _ _ _)
  have pT:((ints l).drop (0*1)).take ((k-0)*1)=ints (l.take k):=by simp[ints,List.map_take]
  rw[pT] at s2
  have ou:=aly s2 (by rw[ael];omega) a
  rw[SH]
  unfold qp
  cases c1:(decide (0<=a)&&decide (a<=(n:Int)-1)) with
  | false=>simp(disch:=first|exact zqz|fail)only[zB,bH h1,q1,q2,hg,sP,e1,qf,c1,ae8,abz,if_false,ar,au,aj,ai,simprocAttr]
  | true=>
   cases c2:(a==i) with
   | true=>
    have AJ:(i==a)=true:=by rw[beq_iff_eq] at c2 ⊢;exact c2.symm
    simp(disch:=first|exact zqz|fail)only[zB,bH h1,q1,q2,hg,sP,e1,qf,c1,c2,AJ,ajM,ae8,Bool.and_false,abz,if_false,ar,au,aj,ai,simprocAttr]
   | false=>
    have AJ:(i==a)=false:=by rw[<-agC,beq_iff_eq] at c2 ⊢;exact fun e=>c2 e.symm
    cases c3:((l.take k).any (fun b=>a==b)) with
    | true=>simp(disch:=first|exact zqz|fail)only[zB,bH h1,q1,q2,hg,sP,e1,qf,c1,c2,AJ,s1,ou,c3,ajM,ajT,ae8,Bool.and_false,aeV,abz,if_false,ar,au,aj,ai,simprocAttr]
    | false=>simp(disch:=first|exact zqz|fail)only[zB,bH h1,q1,q2,hg,sP,e1,qf,c1,c2,AJ,s1,ou,c3,es,ih,ajT,aeV,ar,au,aj,ai,simprocAttr]
theorem afq {dx:AV}{n:Nat}{l:List Int}{lx:AV}{i:Int}{H:Hp}(hn:n<=100000)(hl:l.length<=100000)(sP:bq dx=some (.int .i64 n))(gp:ba dx=true)(eY:Rw H 1 lx (ints l)) :
  cK (.func (.func 124) [] []) [dv dx,.int .i64 i,lx] H=some (.bool (qp n i [] l),al H [dx] 72 0):=by
 refine ahx ?_
 have kD:=eY.mZ
 rw[lW] at kD
 have h1:=fun j4=>Ym (i:=i) (g:=H.next) hn hl sP l 0 (al H [dx] 72 0) j4 (ac4 _) ada (eY.out0 (aJ _ _ _ _)) (vc rfl)
 rw[show (((0:Nat):Int))=0 from rfl,ah5] at h1
 unfold MQ
 simp(disch:=first|exact zqz|fail)only[kD,h1,ar,au,aj,ai,simprocAttr]
 cases qp n i [] l<;>rfl
theorem aha {dx:AV}{n p:Nat}{t:Tk}{x:AV}{i:Int}{H:Hp}(hn:n<=100000)(hl:t.after.length<=100000)(sP:bq dx=some (.int .i64 n))(gp:ba dx=true)(hp:cellAt H p 0=some dx)(ml:p<H.next)(hx:Rw H 1 x (ints t.after)) :
  ∃ H',cK (.func (.func 123) [] [.ptr p 0]) [.int .i64 i,.agg (aK t x)] H=some (.bool (!qp n i [] t.after),H')/\Out [] H H':=by
 have o1:=aJ H (aK t x) 99 0
 have ha:=afq (i:=i) hn hl sP gp (hx.out0 o1)
 refine⟨al (al H (aK t x) 99 0) [dx] 72 0,ad3 ?_,o1.trans (aJ _ _ _ _)⟩
 obtain⟨e0,e1,e2,e3,e4,e5⟩:=uh t x
 have hc:av H p 0 1=some [dx]:=by unfold av av;rw[hp];rfl
 unfold UX
 simp(disch:=first|exact zqz|fail)only[ve,hc,e1,ha,ar,au,aj,ai,simprocAttr]
theorem aae {S:List Nat}{p:Nat->Bool}{dx fv:AV}{xs:List AV}{ts:List Tk}(I:Nat->Hp->Prop)(hn:ts.length<=100000)(hS:∀ j∈lD dx xs,j∉S)
  (hI:∀ i H H',I i H->Out [] H H'->I i H')
  (hp:∀ i t x H,ts[i]? = some t->xs[i]? = some x->RD H dx xs ts->I i H->∃ H',cK fv [.int .i64 (i:Nat),.agg (aK t x)] H=some (.bool (p i),H')/\Out S H H'/\(p i=false->I (i+1) H')) :
  ∀ (r:List Tk) (i:Nat) (H:Hp),i<=ts.length->ts.drop i=r->RD H dx xs ts->I i H->
  ∃ H',(∀ k:K.Fn 0,GN JN GO cK k fv dx (.int .i64 (ts.length:Nat)) (.int .i64 (i:Nat)) H=if (List.range' i r.length).any p then some (.bool true,H') else k H')/\Out S H H'/\((List.range' i r.length).any p=false->I ts.length H')
 | [],i,H,hi,h,hR,ML=>by
  obtain rfl:=drop_nil hi h
  refine⟨H,fun k => ?_,Out.refl _ _,fun _=>ML⟩
  rw[Mf]
  simp only[Lt,fZ,ads,List.range'_zero,List.any_nil,abz,if_false,aj,ai,simprocAttr]
 | t::r,i,H,hi,h,hR,ML=>by
  obtain⟨h1,h2,h3⟩:=gy h
  obtain⟨x,b,o,q0,q1,q2,q3,q4,q5,_⟩:=hR.at h2
  have es:=gq h1 (by omega)
  have o1:=aJ H (aK t x) 99 0
  obtain⟨H1,c1,c2,c3⟩:=hp i t x _ h2 q0 (hR.out0 o1) (hI _ _ _ ML o1)
  have o2:Out S H H1:=(o1.mono fun j hj=>by cases hj).trans c2
  have aC:=yA t x q1 H
  have Jn:(List.range' i (t::r).length).any p=(p i||(List.range' (i+1) r.length).any p):=by rw[aaN,akt,List.any_cons]
  rw[Jn]
  have z7:=xI t x
  have Xy:=TF t x
  cases sG:p i with
  | true=>
   refine⟨H1,fun k => ?_,o2,fun q=>by simp at q⟩
   rw[sG] at c1
   rw[Mf]
   simp(disch:=first|exact zqz|fail)only[Lt,bH h1,q3,q5,aC,z7,Xy,c1,Bool.true_or,if_true,ar,au,aj,ai,simprocAttr]
  | false=>
   rw[sG] at c1
   obtain⟨H',i1,i2,i3⟩:=aae I hn hS hI hp r (i+1) H1 h1 h3 (hR.out o2 hS) (c3 sG)
   refine⟨H',fun k => ?_,o2.trans i2,fun q=>i3 (by simpa using q)⟩
   rw[Mf]
   simp(disch:=first|exact zqz|fail)only[Lt,bH h1,q3,q5,aC,z7,Xy,c1,es,i1,Bool.false_or,ar,au,aj,ai,simprocAttr]
theorem JF {S:List Nat}{p:Nat->Bool}{dx fv:AV}{xs:List AV}{ts:List Tk}{H:Hp}(I:Nat->Hp->Prop)(hn:ts.length<=100000)(hS:∀ j∈lD dx xs,j∉S)
  (hI:∀ i H H',I i H->Out [] H H'->I i H')
  (hp:∀ i t x H,ts[i]? = some t->xs[i]? = some x->RD H dx xs ts->I i H->∃ H',cK fv [.int .i64 (i:Nat),.agg (aK t x)] H=some (.bool (p i),H')/\Out S H H'/\(p i=false->I (i+1) H')) (hR:RD H dx xs ts) (h0:I 0 H) :
  ∃ H',cK (.func (.func 125) [] []) [dv dx,fv] H=some (.bool ((List.range ts.length).any p),H')/\Out S H H':=by
 have o1:=aJ H [dx] 72 0
 obtain⟨H',i1,i2,_⟩:=aae I hn hS hI hp ts 0 _ (ac4 _) ada (hR.out0 o1) (hI _ _ _ h0 o1)
 rw[show (((0:Nat):Int))=0 from rfl,<-List.range_eq_range'] at i1
 refine⟨H',ap6 ?_,(o1.mono fun j hj=>by cases hj).trans i2⟩
 have fO:=hR.bq
 have gp:=hR.row.one
 unfold Ub
 simp(disch:=first|exact zqz|fail)only[fO,i1,ar,au,aj,ai,simprocAttr]
 cases (List.range ts.length).any p<;>rfl
def names (ts:List Tk):List aq:=ts.map (·.name)
def dup (ts:List Tk)(i:Nat):Bool:=match ts[i]? with | some t=>(names (ts.take i)).any (fun s=>s==t.name) | none=>false
def yq (l:List (aq × Nat)):List ME:=l.map fun x=>⟨.str x.1,.bool true,x.2⟩
theorem Bx {l:List (aq × Nat)}{s:aq}(h:∀ x∈l,x.1≠s):∀ e∈yq l,∃ q,e.key = .str q/\q≠s:=by
 intro e he
 obtain⟨x,hx,rfl⟩:=adD.1 he
 exact⟨_,rfl,h x hx⟩
def Jy (m q:Nat)(ts:List Tk)(i:Nat)(H:Hp):Prop:=∃ el l c,Cs H q [.map m] el 0/\Mp H m (yq l) c/\l.map (·.1)=names (ts.take i)/\q≠m/\(l.map (·.1)).Nodup
theorem ac7 {m q:Nat}{ts:List Tk}{i:Nat}{t:Tk}{x:AV}{H:Hp}(hI:Jy m q ts i H)(ht:ts[i]? = some t) :
  ∃ H',cK (.func (.func 121) [] [.ptr q 0]) [.int .i64 (i:Nat),.agg (aK t x)] H=some (.bool (dup ts i),H')/\Out [m] H H'/\(dup ts i=false->Jy m q ts (i+1) H'):=by
 obtain⟨el,l,c,hq,hm,hl,aO,gU⟩:=hI
 obtain⟨e0,e1,e2,e3,e4,e5⟩:=uh t x
 have o1:=aJ H (aK t x) 99 0
 have vm:=hq.out o1 (by simp)
 have y7:=hm.out o1 (by simp)
 have hql:=hq.1
 have Uo:cellAt H q 0=some (.map m):=hq.cellAt rfl
 have VA:dup ts i=l.any (fun y=>y.1==t.name):=by
  unfold dup
  rw[ht]
  simp only
  rw[<-hl,List.any_map];rfl
 rw[VA]
 have pV:names (ts.take (i+1))=names (ts.take i)++[t.name]:=by rw[ahw,ht];simp[names]
 cases hb:l.any (fun y=>y.1==t.name) with
 | false=>
  have hno:∀ y∈l,y.1≠t.name:=by
   intro y hy e
   rw[aiQ] at hb
   exact hb y hy (by simpa using e)
  have F0:=YO y7 (Bx hno) (.bool false) false
  obtain⟨H',u1,u2,u3⟩:=aam y7 (Bx hno) (.bool true)
  refine⟨H',YH ?_,(o1.mono fun j hj=>by cases hj).trans u3,fun _=>⟨el,l++[(t.name,c)],c+1,vm.out u3 (by rw[No];exact aO),by simpa[yq] using u2,by rw[ad8,hl,pV];rfl,aO,by
   rw[ad8,aff]
   refine⟨gU,by simp,fun p hp r hr e => ?_⟩
   obtain⟨y,hy,rfl⟩:=adD.1 hp
   simp at hr
   exact hno y hy (e.trans hr)⟩⟩
  simp only[cond_false] at F0
  unfold Qe
  simp(disch:=first|exact zqz|fail)only[ve,Uo,e0,F0,u1,ar,au,aj,ai,simprocAttr]
 | true=>
  rw[List.any_eq_true] at hb
  obtain⟨y,hy,OM⟩:=hb
  have OM:y.1=t.name:=by simpa using OM
  have acE:∃ a z b,l=a++z::b/\z.1=t.name/\∀ w∈a,w.1≠t.name:=by
   clear hm y7 hl VA gU
   induction l with
   | nil=>cases hy
   | cons w l ih=>
    by_cases hw:w.1=t.name
    ·exact⟨[],w,l,rfl,hw,fun _ h=>by cases h⟩
    ·rcases aaY.1 hy with rfl | hy
     ·exact absurd OM hw
     ·obtain⟨a,z,b,rfl,h2,h3⟩:=ih hy
      refine⟨w::a,z,b,rfl,h2,fun v hv => ?_⟩
      rcases aaY.1 hv with rfl | hv
      ·exact hw
      ·exact h3 v hv
  obtain⟨a,z,b,rfl,hz,ha⟩:=acE
  have mh:yq (a++z::b)=yq a++⟨.str z.1,.bool true,z.2⟩::yq b:=by simp[yq]
  rw[mh] at y7
  have ll:∀ w∈b,w.1≠t.name:=by
   intro w hw e
   rw[ad8,adK,aff,aio] at gU
   exact gU.2.1.1 (adD.2 ⟨w,hw,e.trans hz.symm⟩)
  have F0:=Xm (k:=t.name) y7 (by rw[hz]) (Bx ha) (Bx ll) (.bool false) false
  obtain⟨H',u1,u2,u3⟩:=afE (k:=t.name) y7 (by rw[hz]) (Bx ha) (Bx ll) (.bool true)
  refine⟨H',YH ?_,(o1.mono fun j hj=>by cases hj).trans u3,fun q=>by cases q⟩
  simp only[cond_false] at F0
  unfold Qe
  simp(disch:=first|exact zqz|fail)only[ve,Uo,e0,F0,u1,ar,au,aj,ai,simprocAttr]
theorem gAE (a b c d:AV):gA P .eql 231 false (.agg [a,b]) (.agg [c,d])=true:=by kernel_rfl
theorem adA (e f:Ed)(H:Hp):eA P .eql 231 (.agg (bR e)) (.agg (bR f)) H=some (.bool (decide (e=f))):=by
 have h:=Vt e.1 e.2 f.1 f.2 48 H
 have h2:((((e.1:Nat):Int)==((f.1:Nat):Int))&&(((e.2:Nat):Int)==((f.2:Nat):Int)))=decide (e=f):=by
  by_cases q:e=f
  ·subst q;simp
  ·rw[decide_eq_false q,<-agC,aaG,beq_iff_eq,beq_iff_eq]
   intro z
   exact q (Prod.ext (by have:=z.1;omega) (by have:=z.2;omega))
 rw[h2] at h
 unfold eA
 show (dC P 50 _ (.agg (bR e)) (.agg (bR f)) H).map AV.bool=_
 have:dC P 50 231 (.agg (bR e)) (.agg (bR f)) H=some (decide (e=f)):=h
 rw[this];rfl
theorem abq {x:AV}{E:List Ed}{e:Ed}{b:Nat}{H:Hp}(hx:RL H 2 x (jC E))(hl:E.length<=16777216)(hb:av H b 0 2=some (bR e))(hno:e∉E)(k:K.Fn 0):∀ (r:List Ed) (i:Nat),i<=E.length->E.drop i=r->
  EB JN GO cK k x (.ptr b 0) (.int .i64 (E.length:Nat)) (.int .i64 (i:Nat)) H=k H
 | [],i,hi,h=>by
  obtain rfl:=drop_nil hi h
  rw[XG]
  simp only[Nz,fZ,aj,ai,simprocAttr]
 | f::r,i,hi,h=>by
  obtain⟨h1,h2,h3⟩:=gy h
  obtain⟨c,o,q1,q2,q3,q4,_⟩:=hx.at (by decide) (PN h2)
  have es:=gq h1 hl
  have ih:=abq hx hl hb hno k r (i+1) h1 h3
  have hd:decide (e=f)=false:=decide_eq_false fun q=>hno (q▸aaF h2)
  have hg:gA P .eql 231 false (.agg (bR e)) (.agg (bR f))=true:=gAE _ _ _ _
  have hbe:=adA e f H
  rw[hd] at hbe
  have yS:av H c o 2=some (bR f):=q4
  rw[XG]
  simp(disch:=first|exact zqz|fail)only[Nz,bH h1,hb,q1,yS,hg,hbe,lf,es,ih,ar,au,aj,ai,simprocAttr]
theorem ai0 {x:AV}{E:List Ed}{e:Ed}{H:Hp}(hx:RL H 2 x (jC E))(hl:E.length<=16777216)(hno:e∉E) :
  ∃ H',cK (.func (.func 158) [] []) [x,.agg (bR e)] H=some (.bool false,H')/\Out [] H H':=by
 have o1:=aJ H (bR e) 231 0
 have o2:=o1.al (bR e) 231 0
 have aW:∀ H:Hp,bx 231 (.agg (bR e)) H=some (H.next,al H (bR e) 231 0):=fun H=>iW (by show 2<=_;omega)
 have hlen:(bR e).length=2:=rfl
 have pV:(bR e).take 2=bR e:=rfl
 have mW:cK (.func (.func 177) [] []) [x,.agg (bR e)] (al H (bR e) 231 0)=some (.int .i64 (-1),al (al H (bR e) 231 0) (bR e) 231 0):=by
  refine apy ?_
  have dH:=(hx.out0 o2).len (by decide)
  rw[KE] at dH
  have h1:=abq (b:=H.next+1) (hx.out0 o2) hl (El (by rw[bI]) (by rw[hlen];omega)) hno (fun h=>some (.int .i64 (-1),h)) E 0 (ac4 _) ada
  rw[show (((0:Nat):Int))=0 from rfl] at h1
  unfold U1
  simp(disch:=first|exact zqz|fail)only[aW,dH,h1,ar,au,aj,ai,simprocAttr]
 refine⟨_,adi ?_,o2⟩
 unfold T7
 have d:decide ((0:Int) <= -1)=false:=by decide
 simp(disch:=first|exact zqz|fail)only[aW,hlen,pV,mW,d,ar,au,aj,ai,simprocAttr]
def qC (i:Nat)(l:List Int):List Ed:=l.map fun a=>(a.toNat,i)
def iX (i:Nat):List Tk->List Ed
 | []=>[]
 | t::r=>qC i t.after++iX (i+1) r
theorem acB (ts us:List Tk):∀ i,iX i (ts++us)=iX i ts++iX (i+ts.length) us:=by
 induction ts with
 | nil=>intro i;rfl
 | cons t ts ih=>intro i;simp only[List.cons_append,iX,ih,ae9,aaN];rw[show i+1+ts.length=i+(ts.length+1) by omega]
theorem Pc {ts:List Tk}{i:Nat}{t:Tk}(ht:ts[i]? = some t):iX 0 (ts.take (i+1))=iX 0 (ts.take i)++qC i t.after:=by
 have hi:=(aas.1 ht).1
 rw[ahw,ht]
 show iX 0 (ts.take i++[t])=_
 rw[acB,ael,Nat.min_eq_left (by omega),ad6]
 simp[iX]
theorem YA {ts:List Tk}:∀ {i:Nat} {e:Ed},e∈iX i ts->i<=e.2/\e.2<i+ts.length:=by
 induction ts with
 | nil=>intro i e h;cases h
 | cons t ts ih=>
  intro i e h
  simp only[iX,abV] at h
  rcases h with h | h
  ·obtain⟨a,_,rfl⟩:=adD.1 h
   simp
  ·have:=ih h
   simp only[aaN];omega
def uD (ts:List Tk):Prop:=∀ (i:Nat) (t:Tk),ts[i]? = some t->qp ts.length i [] t.after=true
theorem UZ {n i:Int}{pre:List Int}{a:Int}{l:List Int}(h:qp n i pre (a::l)=true):0<=a/\a<=n-1/\a≠i/\a∉pre/\qp n i (pre++[a]) l=true:=by
 unfold qp at h
 simp only[aaG,decide_eq_true_eq,aj3,aiQ,beq_iff_eq,beq_eq_false_iff_ne] at h
 obtain⟨⟨h1,h2⟩,h3,h4,h5⟩:=h
 exact⟨h1,h2,fun e=>h3 e.symm,fun q=>h4 a q rfl,h5⟩
theorem Ta {dx:AV}{n i:Nat}{E0:List Ed}{D R g:Nat}{l:List Int}{lx:AV}(hn:n<=16)(gX:i<n)(sP:bq dx=some (.int .i64 n))(hE0:∀ e∈E0,e.2<i)(ajy:E0.length<=10000)(kD:l.length<=16)(DS:D≠g) :
  ∀ (r:List Int) (k:Nat) (H:Hp) (ex:AV) (c5 c6 c7:AV),k<=l.length->l.drop k=r->qp n i (l.take k) r=true->(∀ b∈l.take k,(0:Int)<=b)->Rw H 1 lx (ints l)->cellAt H D 0=some dx->D<H.next->Cs H g [.int .i64 n,ex] 201 0->OL H 231 2 ex (jC (E0++qC i (l.take k)))->(∀ j∈ak ex,j∉ak lx/\j≠D/\j≠g)->g∉ak lx->
  ∃ uT H' S,(∀ (aF:K.Fn 2) (cu kT:K.Fn 6),FG JN GO cK aF cu kT (.ptr D 0) (.ptr R 0) (.ptr g 0) (.int .i64 i) c5 c6 c7 lx (.int .i64 (l.length:Nat)) (.int .i64 (k:Nat)) H=kT (.ptr D 0) (.ptr R 0) (.ptr g 0) c5 c6 c7 H')/\Cs H' g [.int .i64 n,uT] 201 0/\OL H' 231 2 uT (jC (E0++qC i l))/\Out S H H'/\(∀ j∈S,j=g\/j∈ak ex\/H.next<=j)/\∀ j∈ak uT,j∈ak ex\/H.next<=j
 | [],k,H,ex,c5,c6,c7,hk,h,ha,mf,eY,hD,vN,hg,hO,hd,xE=>by
  obtain rfl:=drop_nil hk h
  refine⟨ex,H,[],fun aF cu kT => ?_,hg,by rw[afi (aaH _)] at hO;exact hO,Out.refl _ _,(fun j hj=>by cases hj),fun j hj => .inl hj⟩
  rw[aa7]
  simp only[KR,fZ,aj,ai,simprocAttr]
 | a::r,k,H,ex,c5,c6,c7,hk,h,ha,mf,eY,hD,vN,hg,hO,hd,xE=>by
  obtain⟨h1,h2,h3⟩:=gy h
  obtain⟨q,q1,q2⟩:=eY.mb (Di h2) .i64
  have es:=gq h1 (by omega)
  obtain⟨a0,a1,a2,a3,a4⟩:=UZ ha
  obtain⟨m,rfl⟩:∃ m:Nat,a=m:=⟨a.toNat,by omega⟩
  have pV:l.take (k+1)=l.take k++[(m:Int)]:=by rw[ahw,h2];rfl
  have hEk:(qC i (l.take k)).length<=16:=by simp[qC];omega
  have hno:((m,i):Ed)∉E0++qC i (l.take k):=by
   intro q
   rcases abV.1 q with q | q
   ·have:=hE0 _ q;simp at this
   ·obtain⟨b,hb,he⟩:=adD.1 q
    have mO:=mf b hb
    have:b.toNat=m:=congrArg Prod.fst he
    exact a3 (by rw[show ((m:Nat):Int)=b by omega];exact hb)
  have o1:=aJ H (bR (m,i)) 231 0
  obtain⟨H1,c1,c2⟩:=ai0 (hO.rl.out0 o1) (by rw[aa0];omega) hno
  have o2:Out [] H H1:=o1.trans c2
  have gK:=c2.nx
  rw[bI] at gK
  have uN:=hg.out o2 (by simp)
  have CM:cellAt H g 1=some ex:=hg.cellAt rfl
  have aeT:cellAt H1 g 1=some ex:=uN.cellAt rfl
  have aqY:=hg.1
  have Ng:av H1 H.next 0 2=some (bR (m,i)):=by
   rw[c2.av (by rw[bI];omega) (by simp)]
   exact El rfl (by show 0+2<=2;omega)
  obtain⟨Ak,H2,p1,p2,p3,p4,p5⟩:=(hO.out o2 (by simp)).push (fJ:=231) (z:=[(.int .i64 0),(.int .i64 0)]) (vs:=bR (m,i)) rfl rfl (by decide) (by rw[KE,aa0];omega)
  have pH:jC (E0++qC i (l.take k))++[bR (m,i)]=jC (E0++qC i (l.take (k+1))):=by rw[pV];simp[jC,qC]
  rw[pH] at p2
  have jy:=uN.out p3 fun q=>(hd g q).2.2 rfl
  obtain⟨H3,w1,w2,w3,w4⟩:=fG jy (by decide) (o:=1) (by simp) (v:=Ak) p5
  have wH:=p3.nx
  have N6:=eY.lt
  have iq:∀ j∈ak Ak,j∉ak lx/\j≠D/\j≠g:=fun j hj=>(p4 j hj).elim (hd j) fun z=>⟨fun y=>by have:=N6 j y;omega,by omega,by omega⟩
  have o3:Out (g::ak ex) H H3:=((o2.mono fun j hj=>by cases hj).trans (p3.mono fun j hj => .tail _ hj)).trans (w3.mono fun j hj=>by rw[No] at hj;subst hj;exact .head _)
  have AN:cellAt H3 D 0=some dx:=by rw[o3.cellAt vN (by rw[aaY,not_or];exact⟨DS,fun q=>(hd D q).2.1 rfl⟩)];exact hD
  have hn4:=o3.nx
  obtain⟨uT,H',S,i1,i2,i3,i4,i5,i6⟩:=Ta (R:=R) hn gX sP hE0 ajy kD DS r (k+1) H3 Ak c5 c6 c7 h1 h3 (by rw[pV];exact a4) (by rw[pV];intro b hb;rcases abV.1 hb with hb | hb;exact mf b hb;rw[No] at hb;omega)
   (eY.out o3 fun j hj=>by rw[aaY,not_or];exact⟨fun e=>xE (e▸hj),fun q=>(hd j q).1 hj⟩) AN (by omega) w2 (p2.out w3 fun j hj=>by rw[No];exact (iq j hj).2.2) iq xE
  have key:∀ j∈ak Ak,j∈ak ex\/H.next<=j:=fun j hj=>(p4 j hj).imp id fun z=>by omega
  refine⟨uT,H',(g::ak ex)++S,fun aF cu kT => ?_,i2,i3,(o3.mono fun j hj=>abA _ hj).trans (i4.mono fun j hj=>abx _ hj),fun j hj => ?_,fun j hj=>(i6 j hj).elim (key j) fun z => .inr (by omega)⟩
  ·have e1:IntKind.wrap .i64 ((n:Int)-1)=(n:Int)-1:=wrap_i64 (by omega) (by omega)
   have d1:(decide ((0:Int)<=(m:Int))&&decide ((m:Int)<=(n:Int)-1))=true:=by rw[aaG];exact⟨decide_eq_true a0,decide_eq_true a1⟩
   have d2:(((m:Nat):Int) != ((i:Nat):Int))=true:=by simp;omega
   have kY:fl [(.int .i64 0),(.int .i64 0)] [(0,1,.int .i64 (m:Int)),(1,1,.int .i64 (i:Int))]=some (bR (m,i)):=rfl
   have BP:fl [(.int .i64 0),(.int .i64 0)] [(0,2,.agg (bR (m,i)))]=some (bR (m,i)):=rfl
   have vg:st 2 (.ptr H.next 0) (.agg (bR (m,i))) (al H [.int .i64 0,.int .i64 0] 231 0)=some (al H (bR (m,i)) 231 0):=iV rfl rfl rfl (by decide) rfl
   have nV:(bR (m,i)).length=2:=rfl
   have aoT:(bR (m,i)).take 2=bR (m,i):=rfl
   have dN:aE H1 (bR (m,i)) 231 0=some (H1.next,al H1 (bR (m,i)) 231 0):=gB (by rw[nV];omega)
   have iM:=p1 _ rfl
   rw[aa7]
   simp(disch:=first|exact zqz|fail)only[KR,bH h1,q1,q2,kY,BP,vg,nV,aoT,hD,sP,e1,qf,d1,d2,CM,aeT,c1,Ng,dN,iM,w1,es,i1,ar,au,aj,ai,simprocAttr]
  ·rcases abV.1 hj with hj | hj
   ·rcases aaY.1 hj with rfl | hj
    ·exact .inl rfl
    ·exact .inr (.inl hj)
   ·rcases i5 j hj with z | z | z
    ·exact .inl z
    ·exact .inr (key j z)
    ·exact .inr (.inr (by omega))
theorem WS {dx:AV}{xs:List AV}{ts:List Tk}{D R g:Nat}(hn:ts.length<=16)(dm:∀ t∈ts,t.after.length<=16)(ha:uD ts)(DS:D≠g)(Qy:g∉lD dx xs) :
  ∀ (r:List Tk) (i:Nat) (H:Hp) (ex:AV),i<=ts.length->ts.drop i=r->RD H dx xs ts->cellAt H D 0=some dx->D<H.next->Cs H g [.int .i64 (ts.length:Nat),ex] 201 0->OL H 231 2 ex (jC (iX 0 (ts.take i)))->(iX 0 (ts.take i)).length<=i*16->(∀ j∈ak ex,j∉lD dx xs/\j≠D/\j≠g)->
  ∃ uT H' S,(∀ aF:K.Fn 2,EC JN GO cK aF (.ptr D 0) (.ptr R 0) (.ptr g 0) dx (.int .i64 (ts.length:Nat)) (.int .i64 (i:Nat)) H=aF (.ptr R 0) (.ptr g 0) H')/\Cs H' g [.int .i64 (ts.length:Nat),uT] 201 0/\OL H' 231 2 uT (jC (iX 0 ts))/\Out S H H'/\(∀ j∈S,j=g\/j∈ak ex\/H.next<=j)/\∀ j∈ak uT,j∈ak ex\/H.next<=j
 | [],i,H,ex,hi,h,hR,hD,vN,hg,hO,hlen,hd=>by
  obtain rfl:=drop_nil hi h
  refine⟨ex,H,[],fun aF => ?_,hg,by rw[afi (aaH _)] at hO;exact hO,Out.refl _ _,(fun j hj=>by cases hj),fun j hj => .inl hj⟩
  rw[YB]
  simp only[Q6,fZ,aj,ai,simprocAttr]
 | t::r,i,H,ex,hi,h,hR,hD,vN,hg,hO,hlen,hd=>by
  obtain⟨h1,h2,h3⟩:=gy h
  obtain⟨x,b,o,q0,q1,q2,q3,q4,q5,_⟩:=hR.at h2
  have es:=gq h1 (by omega)
  have hht:=dm t (aaF h2)
  have o1:=aJ H (aK t x) 99 0
  have WI:∀ j∈ak x,j∈lD dx xs:=fun j hj=>abx _ (ahu.2 ⟨x,aaF q0,hj⟩)
  have xE:=hg.1
  have Eo:=hO.1.rw.lt
  obtain⟨Ak,H1,S1,i1,i2,i3,i4,i5,i6⟩:=Ta (E0:=iX 0 (ts.take i)) (R:=R) (D:=D) (g:=g) hn h1 hR.bq (fun e he=>by have:=YA he;rw[ael] at this;omega) (by omega) hht DS t.after 0 _ ex dx (.int .i64 (ts.length:Nat)) (.int .i64 (i:Nat)) (ac4 _) ada (by rw[ah5];exact ha i t h2) (by intro b hb;rw[ah5] at hb;cases hb) (q2.out0 o1) (by rw[tw vN];exact hD) (by rw[bI];omega) (hg.out o1 (by simp)) (by rw[ah5];simpa[qC] using hO.out o1 (by simp)) (fun j hj=>⟨fun z=>(hd j hj).1 (WI j z),(hd j hj).2⟩) (fun z=>Qy (WI g z))
  rw[<-Pc h2] at i3
  have Xf:(iX 0 (ts.take (i+1))).length<=(i+1)*16:=by rw[Pc h2,aa0];simp[qC];omega
  have kY:=hR.lt
  have O1:∀ j∈S1,j=g\/j∈ak ex\/H.next<=j:=fun j hj=>by
   rcases i5 j hj with z | z | z
   ·exact .inl z
   ·exact .inr (.inl z)
   ·rw[bI] at z;exact .inr (.inr (by omega))
  have key:∀ j∈ak Ak,j∈ak ex\/H.next<=j:=fun j hj=>(i6 j hj).imp id fun z=>by rw[bI] at z;omega
  have o2:Out S1 H H1:=(o1.mono fun j hj=>by cases hj).trans i4
  have gK:=o2.nx
  have hfS:∀ j∈lD dx xs,j∉S1:=fun j hj z=>by
   rcases O1 j z with rfl | y | y
   ·exact Qy hj
   ·exact (hd j y).1 hj
   ·have:=kY j hj;omega
  have hDS:D∉S1:=fun z=>by
   rcases O1 D z with y | y | y
   ·exact DS y
   ·exact (hd D y).2.1 rfl
   ·omega
  obtain⟨uT,H',S,k1,k2,k3,k4,k5,k6⟩:=WS (R:=R) hn dm ha DS Qy r (i+1) H1 Ak h1 h3 (hR.out o2 hfS) (by rw[o2.cellAt vN hDS];exact hD) (by omega) i2 i3 Xf (fun j hj=>(key j hj).elim (hd j) fun z=>⟨fun y=>by have:=kY j y;omega,by omega,by omega⟩)
  refine⟨uT,H',S1++S,fun aF => ?_,k2,k3,(o2.mono fun j hj=>abA _ hj).trans (k4.mono fun j hj=>abx _ hj),fun j hj => ?_,fun j hj=>(k6 j hj).elim (key j) fun z => .inr (by omega)⟩
  ·have aC:=yA t x q1 H
   obtain⟨e0,e1,e2,e3,e4,e5⟩:=uh t x
   have hl:=q2.mZ
   rw[lW] at hl
   rw[show (((0:Nat):Int))=0 from rfl] at i1
   rw[YB]
   simp(disch:=first|exact zqz|fail)only[Q6,bH h1,q3,q5,aC,e1,hl,i1,es,k1,ar,au,aj,ai,simprocAttr]
  ·rcases abV.1 hj with hj | hj
   ·exact O1 j hj
   ·rcases k5 j hj with z | z | z
    ·exact .inl z
    ·exact .inr (key j z)
    ·exact .inr (.inr (by omega))
theorem akZ {dx:AV}{xs:List AV}{ts:List Tk}{H:Hp}(hn:ts.length<=16)(dm:∀ t∈ts,t.after.length<=16)(ha:uD ts)(hR:RD H dx xs ts) :
  ∃ ex H',cK (.func (.func 127) [] []) [dv dx] H=some (gv ts.length ex,H')/\RL H' 2 ex (jC (iX 0 ts))/\Out [] H H'/\∀ j∈ak ex,H.next<=j:=by
 have gp:=hR.row.one
 have fO:=hR.bq
 have kY:=hR.lt
 have o1:=aJ H [dx] 72 0
 have o2:=o1.al [.int .i64 0,.ah] 201 0
 have o3:=o2.al [.int .i64 (ts.length:Nat),.ah] 201 0
 have c3:=bo (al (al H [dx] 72 0) [.int .i64 0,.ah] 201 0) [.int .i64 (ts.length:Nat),.ah] 201 0
 have c2:=(bo (al H [dx] 72 0) [.int .i64 0,.ah] 201 0).out (aJ (al (al H [dx] 72 0) [.int .i64 0,.ah] 201 0) [.int .i64 (ts.length:Nat),.ah] 201 0) (by simp)
 have hD:cellAt (al (al (al H [dx] 72 0) [.int .i64 0,.ah] 201 0) [.int .i64 (ts.length:Nat),.ah] 201 0) H.next 0=some dx:=by
  rw[tw (by rw[bI,bI];omega),tw (by rw[bI];omega),vc rfl];rfl
 obtain⟨ex,H1,S,i1,i2,i3,i4,i5,i6⟩:=WS (D:=H.next) (R:=H.next+1) (g:=H.next+2) hn dm ha (by omega) (fun z=>by have:=kY _ z;omega) ts 0 _ .ah (ac4 _) ada (hR.out0 o3) hD (by rw[bI,bI,bI];omega) c3 (by rw[ah5];exact OL.nil _ _ _) (by rw[ah5];simp[iX]) (fun j hj=>by cases hj)
 have kP:(al (al (al H [dx] 72 0) [.int .i64 0,.ah] 201 0) [.int .i64 (ts.length:Nat),.ah] 201 0).next=H.next+3:=rfl
 have hS:∀ j∈S,j=H.next+2\/H.next+3<=j:=fun j hj=>by
  rcases i5 j hj with z | z | z
  ·exact .inl z
  ·cases z
  ·exact .inr (by omega)
 have jJ:=i4.nx
 have xM:Cs H1 (H.next+1) [.int .i64 0,.ah] 201 0:=c2.out i4 fun z=>by have:=hS _ z;rw[bI] at this;omega
 have ag1:=i3.1.jO
 obtain⟨H2,w1,w2,w3,w4⟩:∃ H2,st 2 (.ptr (H.next+1) 0) (.agg [.int .i64 (ts.length:Nat),ex]) H1=some H2/\Cs H2 (H.next+1) [.int .i64 (ts.length:Nat),ex] 201 0/\Out [H.next+1] H1 H2/\H2.next=H1.next:=by
  obtain⟨Ha,a1,a2,a3,a4⟩:=MM xM (by decide) (o:=0) (by decide) (v := .int .i64 (ts.length:Nat)) rfl
  obtain⟨Hb,b1,b2,b3,b4⟩:=MM a2 (by decide) (o:=1) (by simp) (v:=ex) ag1
  refine⟨Hb,?_,b2,a3.trans b3,by rw[b4,a4]⟩
  unfold st
  simp only[Bl]
  show setCells H1 (H.next+1) 0 [.int .i64 (ts.length:Nat),ex]=_
  simp only[setCells,a1,b1,acX,adu]
 have V5:∀ j∈ak ex,H.next+3<=j:=fun j hj=>(i6 j hj).elim (fun z=>by cases z) fun z=>by omega
 refine⟨ex,H2,ahZ ?_,(i3.rl).out w3 fun j hj=>by rw[No];have:=V5 j hj;omega,(o3.then i4 fun j hj => .inr (by have:=hS j hj;omega)).then w3 fun j hj=>by rw[No] at hj;exact .inr (by omega),fun j hj=>by have:=V5 j hj;omega⟩
 have BP:fl [.int .i64 0,.ah] [(0,1,.int .i64 (ts.length:Nat))]=some [.int .i64 (ts.length:Nat),.ah]:=rfl
 have jy:av H1 (H.next+2) 0 2=some [.int .i64 (ts.length:Nat),ex]:=i2.av 2 0 (by simp)
 have nM:av H2 (H.next+1) 0 2=some [.int .i64 (ts.length:Nat),ex]:=w2.av 2 0 (by simp)
 have vg:st 2 (.ptr (H.next+2) 0) (.agg [.int .i64 (ts.length:Nat),.ah]) (al (al (al H [dx] 72 0) [.int .i64 0,.ah] 201 0) [.int .i64 0,.ah] 201 0)=some (al (al (al H [dx] 72 0) [.int .i64 0,.ah] 201 0) [.int .i64 (ts.length:Nat),.ah] 201 0):=iV rfl rfl rfl (by decide) rfl
 rw[show (((0:Nat):Int))=0 from rfl] at i1
 unfold Uy
 simp(disch:=first|exact zqz|fail)only[fO,BP,vg,i1,jy,w1,nM,ar,au,aj,ai,simprocAttr]
theorem yi {ts:List Tk}{i:Nat}{t:Tk}(ha:uD ts)(ht:ts[i]? = some t):(∀ a∈t.after,0<=a/\a<=(ts.length:Int)-1/\a≠(i:Int))/\t.after.Nodup:=by
 have key:∀ (l pre:List Int),qp ts.length i pre l=true->(∀ a∈l,0<=a/\a<=(ts.length:Int)-1/\a≠(i:Int)/\a∉pre)/\l.Nodup:=by
  intro l
  induction l with
  | nil=>intro pre _;exact⟨(fun a ha=>by cases ha),ake⟩
  | cons a l ih=>
   intro pre h
   obtain⟨a0,a1,a2,a3,a4⟩:=UZ h
   obtain⟨i1,i2⟩:=ih _ a4
   refine⟨fun b hb => ?_,aio.2 ⟨fun q=>(i1 a q).2.2.2 (by simp),i2⟩⟩
   rcases aaY.1 hb with rfl | hb
   ·exact⟨a0,a1,a2,a3⟩
   ·obtain⟨x1,x2,x3,x4⟩:=i1 b hb
    exact⟨x1,x2,x3,fun q=>x4 (abA _ q)⟩
 obtain⟨k1,k2⟩:=key _ _ (ha i t ht)
 exact⟨fun a h=>⟨(k1 a h).1,(k1 a h).2.1,(k1 a h).2.2.1⟩,k2⟩
theorem M0:∀ (n:Nat) (l:List Nat),l.Nodup->(∀ a∈l,a<n)->l.length<=n
 | 0,l,_,h=>by
  cases l with
  | nil=>exact aaH _
  | cons a l=>have:=h a (.head _);omega
 | n+1,l,hn,h=>by
  by_cases hm:n∈l
  ·have h1:=M0 n (l.erase n) (hn.erase n) fun a ha=>by
    rw[hn.mem_erase_iff] at ha
    have:=h a ha.2
    omega
   rw[List.length_erase_of_mem hm] at h1
   omega
  ·have h1:=M0 n l hn fun a ha=>by
    have:=h a ha
    have:a≠n:=fun e=>hm (e▸ha)
    omega
   omega
theorem Kp {n:Nat}{l:List Int}(h:∀ a∈l,0<=a/\a<=(n:Int)-1)(hn:l.Nodup):l.length<=n:=by
 have h1:(l.map Int.toNat).Nodup:=by
  rw[List.nodup_iff_pairwise_ne,List.pairwise_map]
  refine (List.nodup_iff_pairwise_ne.1 hn).imp_of_mem ?_
  intro a b ha hb vw e
  have:=h a ha;have:=h b hb;omega
 have:=M0 n _ h1 fun m hm=>by
  obtain⟨a,ha,rfl⟩:=adD.1 hm
  have:=h a ha;omega
 simpa using this
theorem apa {ts:List Tk}(hn:ts.length<=16)(ha:uD ts):pD ts.length (iX 0 ts):=by
 have key:∀ (k:Nat),k<=ts.length->(∀ e∈iX 0 (ts.take k),e.1<ts.length/\e.2<ts.length/\e.1≠e.2)/\(iX 0 (ts.take k)).Nodup/\(iX 0 (ts.take k)).length<=k*16:=by
  intro k
  induction k with
  | zero=>intro _;rw[ah5];exact⟨(fun e he=>by cases he),ake,ac4 _⟩
  | succ k ih=>
   intro hk
   obtain⟨i1,i2,i3⟩:=ih (by omega)
   have ht:ts[k]? = some (ts[k]'(by omega)):=aau _
   obtain⟨a1,a2⟩:=yi ha ht
   have hle:=Kp (n:=ts.length) (fun a h=>⟨(a1 a h).1,(a1 a h).2.1⟩) a2
   rw[Pc ht]
   refine⟨fun e he => ?_,aff.2 ⟨i2,?_,fun e he f hf hef => ?_⟩,?_⟩
   ·rcases abV.1 he with he | he
    ·exact i1 e he
    ·obtain⟨a,h,rfl⟩:=adD.1 he
     have:=a1 a h
     exact⟨by simp;omega,by simp;omega,by simp;omega⟩
   ·unfold qC
    rw[List.nodup_iff_pairwise_ne,List.pairwise_map]
    refine (List.nodup_iff_pairwise_ne.1 a2).imp_of_mem ?_
    intro a b h1 h2 vw e
    have e1:=congrArg Prod.fst e
    have:=a1 a h1;have:=a1 b h2
    simp only at e1
    omega
   ·obtain⟨a,h,rfl⟩:=adD.1 hf
    have:=YA he
    rw[ael] at this
    rw[hef] at this
    simp at this;omega
   ·rw[aa0];simp[qC];omega
 obtain⟨k1,k2,k3⟩:=key ts.length (aaH _)
 rw[afi (aaH _)] at k1 k2 k3
 exact⟨hn,k1,k2,by omega⟩
noncomputable def p1 (ts:List Tk)(i:Nat):Bool:=match ts[i]? with | some t=>vK t | none=>false
def p3 (ts:List Tk)(i:Nat):Bool:=match ts[i]? with | some t=>tV t | none=>false
def p4 (ts:List Tk)(i:Nat):Bool:=match ts[i]? with | some t => !qp ts.length i [] t.after | none=>false
instance (N:Nat) (E:List Ed):Decidable (ym N E):=by unfold ym;infer_instance
noncomputable def jc (ts:List Tk):Int:=
 if ¬ (1<=ts.length/\ts.length<=16) then 1
 else if (List.range ts.length).any (p1 ts) then 2
 else if (List.range ts.length).any (dup ts) then 5
 else if (List.range ts.length).any (p3 ts) then 1
 else if (List.range ts.length).any (p4 ts) then 1
 else if ym ts.length (iX 0 ts) then 0 else 7
theorem IT {ts:List Tk}(h:(List.range ts.length).any (p4 ts)=false):uD ts:=by
 intro i t ht
 have hi:=(aas.1 ht).1
 rw[aiQ] at h
 have:=h i (aj4.2 hi)
 unfold p4 at this
 rw[ht] at this
 simpa using this
theorem tri:∀ (i:Nat) (H H':Hp),True->Out [] H H'->True:=fun _ _ _ _ _=>trivial
abbrev lq:Nat:=194
theorem Oc {dx:AV}{xs:List AV}{ts:List Tk}{H:Hp}(hn:ts.length<=100000)(dm:∀ t∈ts,t.after.length<=100000)(hR:RD H dx xs ts) :
  ∃ H',cK (.func (.func 90) [] []) [dv dx] H=some (.int .i64 (jc ts),H')/\Out [] H H':=by
 have gp:=hR.row.one
 have fO:=hR.bq
 have kY:=hR.lt
 have o1:=aJ H [dx] 72 0
 by_cases hr:¬ (1<=ts.length/\ts.length<=16)
 ·refine⟨al H [dx] 72 0,DG ?_,o1⟩
  have d:(decide ((1:Int)<=(ts.length:Int))&&decide ((ts.length:Int)<=16))=false:=by
   rw[<-agC,aaG,decide_eq_true_eq,decide_eq_true_eq];omega
  unfold xK jc
  rw[if_pos hr]
  simp(disch:=first|exact zqz|fail)only[fO,qf,d,ar,au,aj,ai,simprocAttr]
 have eH:=hr
 replace hr:1<=ts.length/\ts.length<=16:=ahN.1 hr
 have d:(decide ((1:Int)<=(ts.length:Int))&&decide ((ts.length:Int)<=16))=true:=by
  rw[aaG,decide_eq_true_eq,decide_eq_true_eq];omega
 obtain⟨H2,m1,m2,m3,m4⟩:=KK (al H [dx] 72 0)
 rw[bI] at m1 m2 m4
 have o2:Out [] H H2:=o1.trans m3
 let L8:List AV:=[.func (.func 120) [] [],.int .i64 2,.func (.func 121) [] [.ptr (H.next+2) 0],.int .i64 5,.func (.func 122) [] [],.int .i64 1,.func (.func 123) [] [.ptr H.next 0],.int .i64 1]
 have gK:H2.next=H.next+2:=by rw[m4]
 have o3:=aJ H2 [.map (H.next+1)] 192 0
 have o4:=aJ (al H2 [.map (H.next+1)] 192 0) L8 lq 0
 have hC4:=bo (al H2 [.map (H.next+1)] 192 0) L8 lq 0
 have V7:Out [] H (al (al H2 [.map (H.next+1)] 192 0) L8 lq 0):=(o2.trans o3).trans o4
 have aik:(al (al H2 [.map (H.next+1)] 192 0) L8 lq 0).next=H.next+4:=by rw[bI,bI,gK]
 have Jh:(al H2 [.map (H.next+1)] 192 0).next=H.next+3:=by rw[bI,gK]
 have Gs:∀ {H':Hp} {S:List Nat},Out S (al (al H2 [.map (H.next+1)] 192 0) L8 lq 0) H'->(∀ j∈S,j=H.next+1)->cellAt H' H.next 0=some dx/\av H' H.next 0 1=some [dx]/\RD H' dx xs ts/\(∀ k:Nat,k<4->∃ a b,L8[k*2]? = some a/\L8[k*2+1]? = some b/\av H' (H.next+3) (k*2) 2=some [a,b]):=by
  intro H' S ho hS
  have aO:∀ j,j<H.next+4->j≠H.next+1->∀ o,cellAt H' j o=cellAt (al (al H2 [.map (H.next+1)] 192 0) L8 lq 0) j o:=fun j hj Md o=>ho.cellAt (by rw[aik];exact hj) fun q=>Md (hS j q)
  have h0:cellAt H' H.next 0=some dx:=by
   rw[aO _ (by omega) (by omega),tw (by rw[Jh];omega),tw (by rw[gK];omega),m3.cellAt (by rw[bI];omega) (by simp),vc rfl];rfl
  refine⟨h0,?_,(hR.out0 V7).out ho fun j hj q=>by have:=kY j hj;have:=hS j q;omega,fun k hk => ?_⟩
  ·unfold av av;rw[h0];rfl
  ·have hL:L8.length=8:=rfl
   have ha:L8[k*2]? = some (L8[k*2]'(by rw[hL];omega)):=aau _
   have hb:L8[k*2+1]? = some (L8[k*2+1]'(by rw[hL];omega)):=aau _
   refine⟨_,_,ha,hb,?_⟩
   unfold av av av
   rw[aO _ (by omega) (by omega),aO _ (by omega) (by omega),vc Jh.symm,vc Jh.symm,ha,hb]
   rfl
 have hm4:Mp (al (al H2 [.map (H.next+1)] 192 0) L8 lq 0) (H.next+1) (yq []) 0:=(m2.out o3 (by simp)).out o4 (by simp)
 have L6:Cs (al (al H2 [.map (H.next+1)] 192 0) L8 lq 0) (H.next+2) [.map (H.next+1)] 192 0:=by
  have:=(bo H2 [.map (H.next+1)] 192 0).out o4 (by simp)
  rw[gK] at this;exact this
 have aiK:∀ (H':Hp) (a b:AV),ba a=true->ba b=true->st 2 (.ptr H'.next 0) (.agg [a,b]) (al H' [.nilFunc,.int .i64 0] lq 0)=some (al H' [a,b] lq 0):=fun H' a b ha hb=>iV (by simp[ha,hb]) rfl rfl (by decide) rfl
 have one:∀ (k:Nat) (z z':Int) (p:Nat->Bool) (e:Int) (fv:AV) (H':Hp) (lG:Hp),k<4->z=(k:Nat)->z'=(k+1:Nat)->L8[k*2]? = some fv->L8[k*2+1]? = some (.int .i64 e)->ba fv=true->
   av H' H.next 0 1=some [dx]->H.next+4<=H'.next->(∀ a b,L8[k*2]? = some a->L8[k*2+1]? = some b->av H' (H.next+3) (k*2) 2=some [a,b])->
   cK (.func (.func 125) [] []) [dv dx,fv] (al H' [fv,.int .i64 e] lq 0)=some (.bool ((List.range ts.length).any p),lG)->Out [H.next+1] (al H' [fv,.int .i64 e] lq 0) lG->
   ∀ dc:K.Fn 1,Bq JN GO cK dc (.ptr H.next 0) (.slice (H.next+3) 0 4 4 true 2) (.int .i64 4) (.int .i64 z) H'=if (List.range ts.length).any p then some (.int .i64 e,lG) else Bq JN GO cK dc (.ptr H.next 0) (.slice (H.next+3) 0 4 4 true 2) (.int .i64 4) (.int .i64 z') lG:=by
  intro k z z' p e fv H' lG hk hz Dc ha hb hfv Au hHn hl hs hos dc
  subst hz;subst Dc
  have kD:=hl _ _ ha hb
  have nB:ia 2 (.slice (H.next+3) 0 4 4 true 2) (.int .i64 (k:Nat))=some (.ptr (H.next+3) (k*2)):=by rw[yh hk];simp
  have aI:decide (((k:Nat):Int)<4)=true:=decide_eq_true (by omega)
  have es:IntKind.wrap .i64 ((k:Int)+1)=((k+1:Nat):Int):=by rw[wrap_i64 (by omega) (by omega)];rfl
  have aC:=aiK H' fv (.int .i64 e) hfv rfl
  have he:cellAt lG H'.next 1=some (.int .i64 e):=by
   rw[hos.cellAt (by rw[bI];omega) (by rw[No];omega),vc rfl];rfl
  have dN:aE H' [.nilFunc,.int .i64 0] lq 0=some (H'.next,al H' [.nilFunc,.int .i64 0] lq 0):=gB (by simp)
  rw[Ui]
  cases Jn:(List.range ts.length).any p with
  | true=>
   rw[Jn] at hs
   simp(disch:=first|exact zqz|fail)only[HQ,aI,nB,kD,dN,aC,Au,hs,he,if_true,ar,au,aj,ai,simprocAttr]
  | false=>
   rw[Jn] at hs
   simp(disch:=first|exact zqz|fail)only[HQ,aI,nB,kD,dN,aC,Au,hs,es,abz,if_false,ar,au,aj,ai,simprocAttr]
 generalize hH4:al (al H2 [.map (H.next+1)] 192 0) L8 lq 0=H4 at *
 have rI:∀ {A B:Hp},Out [] A B->Out [H.next+1] A B:=fun h=>h.mono fun j hj=>by cases hj
 have Gm:∀ j∈([H.next+1]:List Nat),j=H.next+1:=fun j hj=>by rw[No] at hj;exact hj
 obtain⟨a1,a2,a3,a4⟩:=Gs (Out.refl [H.next+1] H4) Gm
 have r1:=aJ H4 [.func (.func 120) [] [],.int .i64 2] lq 0
 obtain⟨H5,s1,s2⟩:=JF (S:=[]) (fv := .func (.func 120) [] []) (p:=p1 ts) (fun _ _=>True) hn (by simp) tri (fun i t x H' ht hx bA _=>by
  obtain⟨lG,c1,c2⟩:=afo t x i H'
  have hp:p1 ts i=vK t:=by unfold p1;rw[ht]
  exact⟨lG,by rw[hp];exact c1,c2,fun _=>trivial⟩) (a3.out0 r1) trivial
 have g1:=one 0 0 1 (p1 ts) 2 _ H4 H5 (by omega) rfl rfl rfl rfl rfl a2 (by omega) (fun a b ha hb=>by obtain⟨a',b',x1,x2,x3⟩:=a4 0 (by omega);rw[x1] at ha;rw[x2] at hb;cases ha;cases hb;exact x3) s1 (rI s2)
 have t5:Out [H.next+1] H4 H5:=rI (r1.trans s2)
 obtain⟨b1,b2,b3,b4⟩:=Gs t5 Gm
 have n5:=t5.nx
 have r2:=aJ H5 [.func (.func 121) [] [.ptr (H.next+2) 0],.int .i64 5] lq 0
 have hHI:Jy (H.next+1) (H.next+2) ts 0 (al H5 [.func (.func 121) [] [.ptr (H.next+2) 0],.int .i64 5] lq 0):=
  ⟨192,[],0,((L6.out (r1.trans s2) (by simp)).out r2 (by simp)),(hm4.out (r1.trans s2) (by simp)).out r2 (by simp),by rw[ah5];rfl,by omega,ake⟩
 have J8:∀ j∈lD dx xs,j∉([H.next+1]:List Nat):=fun j hj=>by rw[No];have:=kY j hj;omega
 obtain⟨H6,u1,u2⟩:=JF (S:=[H.next+1]) (fv := .func (.func 121) [] [.ptr (H.next+2) 0]) (p:=dup ts) (Jy (H.next+1) (H.next+2) ts) hn J8 (fun i A B hA Gr=>by
  obtain⟨el,l,c,x1,x2,x3,x4⟩:=hA
  exact⟨el,l,c,x1.out Gr (by simp),x2.out Gr (by simp),x3,x4⟩) (fun i t x H' ht hx bA hI=>ac7 hI ht) (b3.out0 r2) hHI
 have g2:=one 1 1 2 (dup ts) 5 _ H5 H6 (by omega) rfl rfl rfl rfl rfl b2 (by omega) (fun a b ha hb=>by obtain⟨a',b',x1,x2,x3⟩:=b4 1 (by omega);rw[x1] at ha;rw[x2] at hb;cases ha;cases hb;exact x3) u1 u2
 have t6:Out [H.next+1] H4 H6:=t5.trans ((rI r2).trans u2)
 obtain⟨c1,c2,c3,c4⟩:=Gs t6 Gm
 have n6:=t6.nx
 have r3:=aJ H6 [.func (.func 122) [] [],.int .i64 1] lq 0
 obtain⟨H7,v1,v2⟩:=JF (S:=[]) (fv := .func (.func 122) [] []) (p:=p3 ts) (fun _ _=>True) hn (by simp) tri (fun i t x H' ht hx bA _=>by
  obtain⟨lG,c1,c2⟩:=akW t x i H'
  have hp:p3 ts i=tV t:=by unfold p3;rw[ht]
  exact⟨lG,by rw[hp];exact c1,c2,fun _=>trivial⟩) (c3.out0 r3) trivial
 have g3:=one 2 2 3 (p3 ts) 1 _ H6 H7 (by omega) rfl rfl rfl rfl rfl c2 (by omega) (fun a b ha hb=>by obtain⟨a',b',x1,x2,x3⟩:=c4 2 (by omega);rw[x1] at ha;rw[x2] at hb;cases ha;cases hb;exact x3) v1 (rI v2)
 have t7:Out [H.next+1] H4 H7:=t6.trans (rI (r3.trans v2))
 obtain⟨d1,d2,d3,d4⟩:=Gs t7 Gm
 have n7:=t7.nx
 have r4:=aJ H7 [.func (.func 123) [] [.ptr H.next 0],.int .i64 1] lq 0
 obtain⟨H8,w1,w2⟩:=JF (S:=[]) (fv := .func (.func 123) [] [.ptr H.next 0]) (p:=p4 ts) (fun _ H'=>cellAt H' H.next 0=some dx/\H.next<H'.next) hn (by simp) (fun i A B hA Gr=>⟨by rw[Gr.cellAt hA.2 (by simp)];exact hA.1,by have:=Gr.nx;omega⟩) (fun i t x H' ht hx bA hI=>by
  obtain⟨x',bb,oo,y1,y2,y3,_⟩:=bA.at ht
  rw[hx] at y1
  cases y1
  obtain⟨lG,c1,c2⟩:=aha (i:=(i:Int)) (n:=ts.length) hn (dm t (aaF ht)) fO gp hI.1 hI.2 y3
  have hp:p4 ts i = !qp ts.length i [] t.after:=by unfold p4;rw[ht]
  exact⟨lG,by rw[hp];exact c1,c2,fun _=>⟨by rw[c2.cellAt hI.2 (by simp)];exact hI.1,by have:=c2.nx;omega⟩⟩) (d3.out0 r4) ⟨by rw[r4.cellAt (by omega) (by simp)];exact d1,by rw[bI];omega⟩
 have g4:=one 3 3 4 (p4 ts) 1 _ H7 H8 (by omega) rfl rfl rfl rfl rfl d2 (by omega) (fun a b ha hb=>by obtain⟨a',b',x1,x2,x3⟩:=d4 3 (by omega);rw[x1] at ha;rw[x2] at hb;cases ha;cases hb;exact x3) w1 (rI w2)
 have t8:Out [H.next+1] H4 H8:=t7.trans (rI (r4.trans w2))
 obtain⟨e1,e2,e3,e4⟩:=Gs t8 Gm
 have fin:∀ {B:Hp},Out [H.next+1] H4 B->Out [] H B:=fun h=>V7.then h fun j hj=>by rw[No] at hj;exact .inr (by omega)
 have g5:∀ dc:K.Fn 1,Bq JN GO cK dc (.ptr H.next 0) (.slice (H.next+3) 0 4 4 true 2) (.int .i64 4) (.int .i64 4) H8=dc (.ptr H.next 0) H8:=fun dc=>by
  have d:decide ((4:Int)<4)=false:=rfl
  rw[Ui]
  simp only[HQ,d,aj,ai,simprocAttr]
 have uC:st 1 (.ptr (H.next+2) 0) (.map (H.next+1)) (al H2 [.ja] 192 0)=some (al H2 [.map (H.next+1)] 192 0):=Sp rfl (by rw[gK]) (by decide) (by simp)
 have dN:aE (al H2 [.map (H.next+1)] 192 0) L8 lq 0=some (H.next+3,H4):=by rw[<-hH4,gB (by show 8<=_;omega),Jh]
 have B7:fl [.nilFunc,(.int .i64 0),.nilFunc,(.int .i64 0),.nilFunc,(.int .i64 0),.nilFunc,(.int .i64 0)] [(0,2,(.agg [.func (.func 120) [] [],.int .i64 2])),(2,2,(.agg [.func (.func 121) [] [.ptr (H.next+2) 0],.int .i64 5])),(4,2,(.agg [.func (.func 122) [] [],.int .i64 1])),(6,2,(.agg [.func (.func 123) [] [.ptr H.next 0],.int .i64 1]))]=some L8:=rfl
 have IK:jc ts=if (List.range ts.length).any (p1 ts) then 2 else if (List.range ts.length).any (dup ts) then 5 else if (List.range ts.length).any (p3 ts) then 1 else if (List.range ts.length).any (p4 ts) then 1 else if ym ts.length (iX 0 ts) then 0 else 7:=by unfold jc;rw[if_neg eH]
 rw[IK]
 have Bw:xc (al H [dx] 72 0)=some (H.next+1,H2):=m1
 have dT:((4:Nat):Int)=4:=rfl
 have CC:H.next+2+1=H.next+3:=rfl
 have DT:al (al H2 [.map (H.next+1)] 192 0) [.func (.func 120) [] [],.int .i64 2,.func (.func 121) [] [.ptr (H.next+2) 0],.int .i64 5,.func (.func 122) [] [],.int .i64 1,.func (.func 123) [] [.ptr H.next 0],.int .i64 1] lq 0=H4:=hH4
 have Y5:bq (.slice (H.next+3) 0 4 4 true 2)=some (.int .i64 4):=rfl
 have Dh:H2.next=H.next+2:=gK
 cases q1:(List.range ts.length).any (p1 ts) with
 | true=>
  simp only[q1,if_true] at g1
  refine⟨H5,DG ?_,fin t5⟩
  unfold xK
  simp(disch:=first|exact zqz|fail)only[fO,qf,d,Bw,Dh,uC,B7,dT,CC,DT,g1,if_true,ar,au,aj,ai,simprocAttr]
 | false=>
 cases q2:(List.range ts.length).any (dup ts) with
 | true=>
  simp only[q1,abz,if_false] at g1
  simp only[q2,if_true] at g2
  refine⟨H6,DG ?_,fin t6⟩
  unfold xK
  simp(disch:=first|exact zqz|fail)only[fO,qf,d,Bw,Dh,uC,B7,dT,CC,DT,g1,g2,if_true,abz,if_false,ar,au,aj,ai,simprocAttr]
 | false=>
 cases q3:(List.range ts.length).any (p3 ts) with
 | true=>
  simp only[q1,abz,if_false] at g1
  simp only[q2,abz,if_false] at g2
  simp only[q3,if_true] at g3
  refine⟨H7,DG ?_,fin t7⟩
  unfold xK
  simp(disch:=first|exact zqz|fail)only[fO,qf,d,Bw,Dh,uC,B7,dT,CC,DT,g1,g2,g3,if_true,abz,if_false,ar,au,aj,ai,simprocAttr]
 | false=>
 cases q4:(List.range ts.length).any (p4 ts) with
 | true=>
  simp only[q1,abz,if_false] at g1
  simp only[q2,abz,if_false] at g2
  simp only[q3,abz,if_false] at g3
  simp only[q4,if_true] at g4
  refine⟨H8,DG ?_,fin t8⟩
  unfold xK
  simp(disch:=first|exact zqz|fail)only[fO,qf,d,Bw,Dh,uC,B7,dT,CC,DT,g1,g2,g3,g4,if_true,abz,if_false,ar,au,aj,ai,simprocAttr]
 | false=>
  simp only[q1,abz,if_false] at g1
  simp only[q2,abz,if_false] at g2
  simp only[q3,abz,if_false] at g3
  simp only[q4,abz,if_false] at g4
  have QF:=IT q4
  have akU:∀ t∈ts,t.after.length<=16:=fun t ht=>by
   obtain⟨i,hi⟩:=adQ ht
   obtain⟨x1,x2⟩:=yi QF hi
   have:=Kp (n:=ts.length) (fun a h=>⟨(x1 a h).1,(x1 a h).2.1⟩) x2
   omega
  obtain⟨ex,H9,y1,y2,y3,y4⟩:=akZ hr.2 akU QF e3
  obtain⟨cy,kk,vl,z1,z2,z3,z4⟩:=aos (apa hr.2 QF) y2
  refine⟨vl,DG ?_,(fin t8).trans (y3.trans z4)⟩
  by_cases hk:kk=0
  ·have QJ:=z3.1 hk
   rw[if_pos QJ]
   have dk:decide ((0:Int)<((kk:Nat):Int))=false:=decide_eq_false (by omega)
   unfold xK
   simp(disch:=first|exact zqz|fail)only[fO,qf,d,Bw,Dh,uC,B7,dT,CC,DT,g1,g2,g3,g4,g5,e2,y1,z1,z2,dk,abz,if_false,ar,au,aj,ai,simprocAttr]
  ·have QJ:¬ ym ts.length (iX 0 ts):=fun q=>hk (z3.2 q)
   rw[if_neg QJ]
   have dk:decide ((0:Int)<((kk:Nat):Int))=true:=decide_eq_true (by omega)
   unfold xK
   simp(disch:=first|exact zqz|fail)only[fO,qf,d,Bw,Dh,uC,B7,dT,CC,DT,g1,g2,g3,g4,g5,e2,y1,z1,z2,dk,abz,if_false,ar,au,aj,ai,simprocAttr]
def rK (names:List aq):List aq->Option (List Int)
 | []=>some []
 | s::r=>match names.findIdx? (fun a=>s==a) with
  | some i=>(rK names r).map fun l=>(i:Int)::l
  | none=>none
abbrev vo:aq:=[97,102,116,101,114]
abbrev xB:aq:=[114,101,116,114,121]
abbrev wC:aq:=[119,97,105,116]
abbrev uX:aq:=[98,97,115,101]
abbrev rB:aq:=[111,110]
noncomputable def iU (t:Tk)(key value:aq)(names:List aq):Option Tk:=
 if key=vo then (rK names (cx 44 value)).map fun l=>{ t with after:=t.after++l }
 else if key=xB then (pO value).map fun (n:Nat)=>{ t with retry:=n }
 else if key=wC then (pO value).map fun (n:Nat)=>{ t with wait:=n }
 else if key=uX then (pO value).map fun (n:Nat)=>{ t with base:=n }
 else if key=rB then (if value=[] then none else some { t with on:=value })
 else (pO value).map fun _=>t
structure TO (H:Hp)(p:Nat)(t:Tk)(x:AV):Prop where
 c:Cs H p (aK t x) 99 0
 o:Ow H 3 1 x (ints t.after)
 ne:p∉ak x
theorem TO.out0 {H H':Hp}{p:Nat}{t:Tk}{x:AV}(h:TO H p t x)(k:Out [] H H'):TO H' p t x:=⟨h.c.out k (by simp),h.o.out k (by simp),h.ne⟩
theorem TO.st {H:Hp}{p:Nat}{t:Tk}{x:AV}(h:TO H p t x)(o:Nat)(ho:o<6)(v:AV)(hv:ba v=true)(t':Tk)(ht:(aK t x).set o v=aK t' x)(ha:t'.after=t.after) :
  ∃ H',st 1 (.ptr p o) v H=some H'/\TO H' p t' x/\Out [p] H H':=by
 obtain⟨H',w1,w2,w3,w4⟩:=fG h.c (by decide) (o:=o) (by rw[xI];exact ho) hv
 rw[ht] at w2
 exact⟨H',w1,⟨w2,by rw[ha];exact h.o.out w3 fun j hj=>by rw[No];intro e;subst e;exact h.ne hj,h.ne⟩,w3⟩
theorem ZC {names:List aq}{nx sx:AV}{p:Nat}{parts:List aq}(mf:names.length<=100000)(ml:parts.length<=100000):∀ (r:List aq) (i:Nat) (H:Hp) (t:Tk) (x:AV),i<=parts.length->parts.drop i=r->Rw H 1 nx (strs names)->Rw H 1 sx (strs parts)->TO H p t x->(∀ j,j∈ak nx\/j∈ak sx->j≠p/\j∉ak x)->t.after.length+r.length<=200000->
  ∃ H',Out (p::ak x) H H'/\((∃ l x',rK names r=some l/\(∀ (eQ:K.Fn 1) (bL:K.Fn 0),DU JN GO cK eQ bL (.ptr p 0) nx sx (.int .i64 (parts.length:Nat)) (.int .i64 (i:Nat)) H=bL H')/\TO H' p { t with after:=t.after++l } x'/\∀ j∈ak x',j∈ak x\/H.next<=j)\/
   (rK names r=none/\∀ (eQ:K.Fn 1) (bL:K.Fn 0),DU JN GO cK eQ bL (.ptr p 0) nx sx (.int .i64 (parts.length:Nat)) (.int .i64 (i:Nat)) H=some (.bool false,H')))
 | [],i,H,t,x,hi,h,kP,K6,hT,hd,dm=>by
  obtain rfl:=drop_nil hi h
  refine⟨H,Out.refl _ _,.inl ⟨[],x,rfl,fun eQ bL => ?_,by simpa using hT,fun j hj => .inl hj⟩⟩
  rw[KS]
  simp only[De,fZ,aj,ai,simprocAttr]
 | s::r,i,H,t,x,hi,h,kP,K6,hT,hd,dm=>by
  obtain⟨h1,h2,h3⟩:=gy h
  obtain⟨q,q1,q2⟩:=K6.mb (yP h2) .i64
  have es:=gq h1 (by omega)
  have mW:=NQ kP (by omega) s
  simp only[aaN] at dm
  unfold rK
  cases hf:names.findIdx? (fun a=>s==a) with
  | none=>
   rw[hf] at mW
   have d:decide (lB none<0)=true:=rfl
   refine⟨H,Out.refl _ _,.inr ⟨rfl,fun eQ bL => ?_⟩⟩
   rw[KS]
   simp(disch:=first|exact zqz|fail)only[De,bH h1,q1,q2,mW,d,ar,au,aj,ai,simprocAttr]
  | some m=>
   rw[hf] at mW
   have d:decide (lB (some m)<0)=false:=decide_eq_false (by show ¬ ((m:Int)<0);omega)
   have qc:lB (some m)=(m:Int):=rfl
   rw[qc] at mW d
   have Au:cellAt H p 1=some x:=hT.c.cellAt rfl
   have aqR:=hT.c.1
   obtain⟨x1,H1,p1,p2,p3,p4,p5⟩:=uf (fJ:=3) (z:=[(.int .i64 0)]) (vs:=[.int .i64 (m:Int)]) hT.o rfl rfl (by decide) (by rw[lW];simp;omega)
   have pH:ints t.after++[.int .i64 (m:Int)]=ints (t.after++[(m:Int)]):=by rw[Kq];rfl
   rw[pH] at p2
   have yY:=hT.c.out p3 hT.ne
   obtain⟨H2,w1,w2,w3,w4⟩:=fG yY (by decide) (o:=1) (by rw[xI];omega) (v:=x1) p5
   have fh:(aK t x).set 1 x1=aK { t with after:=t.after++[(m:Int)] } x1:=rfl
   rw[fh] at w2
   have jJ:=p3.nx
   have Uh:p∉ak x1:=fun z=>(p4 p z).elim hT.ne fun z=>by omega
   have mX:TO H2 p { t with after:=t.after++[(m:Int)] } x1:=⟨w2,p2.out w3 fun j hj=>by rw[No];intro e;subst e;exact Uh hj,Uh⟩
   have o2:Out (p::ak x) H H2:=(p3.mono fun j hj => .tail _ hj).trans (w3.mono fun j hj=>by rw[No] at hj;subst hj;exact .head _)
   have ic:=kP.lt
   have og:=K6.lt
   have pG:∀ j,j∈ak nx\/j∈ak sx->j≠p/\j∉ak x1:=fun j hj=>⟨(hd j hj).1,fun z=>(p4 j z).elim (hd j hj).2 fun y=>by have:=hj.elim (ic j) (og j);omega⟩
   obtain⟨H',i1,i2⟩:=ZC (p:=p) mf ml r (i+1) H2 { t with after:=t.after++[(m:Int)] } x1 h1 h3 (kP.out o2 fun j hj=>by rw[aaY,not_or];exact hd j (.inl hj)) (K6.out o2 fun j hj=>by rw[aaY,not_or];exact hd j (.inr hj)) mX pG (by simp;omega)
   have key:∀ j∈ak x1,j∈ak x\/H.next<=j:=fun j hj=>(p4 j hj).imp id fun z=>by omega
   have gK:=o2.nx
   have oo:Out (p::ak x) H H':=o2.then i1 fun j hj=>by
    rcases aaY.1 hj with rfl | hj
    ·exact .inl (.head _)
    ·exact (key j hj).imp (fun z => .tail _ z) id
   have iM:=p1 _ rfl
   refine⟨H',oo,?_⟩
   rcases i2 with⟨l,x',k1,k2,k3,k4⟩ | ⟨k1,k2⟩
   ·refine .inl ⟨(m:Int)::l,x',by simp[k1],fun eQ bL => ?_,by simpa[ae9] using k3,fun j hj=>(k4 j hj).elim (key j) fun z => .inr (by omega)⟩
    rw[KS]
    simp(disch:=first|exact zqz|fail)only[De,bH h1,q1,q2,mW,d,Au,iM,w1,es,k2,ar,au,aj,ai,simprocAttr]
   ·refine .inr ⟨by simp[k1],fun eQ bL => ?_⟩
    rw[KS]
    simp(disch:=first|exact zqz|fail)only[De,bH h1,q1,q2,mW,d,Au,iM,w1,es,k2,ar,au,aj,ai,simprocAttr]
theorem HP {a b:aq}(h:a≠b):(a==b)=false:=beq_false_of_ne h
theorem apj {names:List aq}{nx:AV}{p:Nat}{key value:aq}{t:Tk}{x:AV}{H:Hp}(hg:Gl H)(mf:names.length<=100000)(hv:value.length<=90000)(kP:Rw H 1 nx (strs names))(hT:TO H p t x)(hd:∀ j,j∈ak nx->j≠p/\j∉ak x)(dm:t.after.length<=10000) :
  ∃ ok H',cK (.func (.func 118) [] []) [.ptr p 0,.str key,.str value,nx] H=some (.bool ok,H')/\Out (p::ak x) H H'/\(ok=true->∃ t' x',iU t key value names=some t'/\TO H' p t' x'/\∀ j∈ak x',j∈ak x\/H.next<=j)/\(ok=false->iU t key value names=none):=by
 obtain⟨n,N3,H1,n1,n2,n3,n4⟩:=anO (s:=value) hg
 have qR:=hT.out0 n4
 have UU:=qR.c.1
 have AT:=kP.out0 n4
 have jJ:=n4.nx
 have rI:∀ {S:List Nat} {A B:Hp},Out [] A B->Out S A B:=fun h=>h.mono fun j hj=>by cases hj
 have num:∀ (o:Nat) (f:Nat->Tk),o<6->(∀ m:Nat,(aK t x).set o (.int .i64 (m:Int))=aK (f m) x)->(∀ m,(f m).after=t.after)->iU t key value names=(pO value).map f->
   (∀ H2,st 1 (.ptr p o) (.int .i64 n) H1=some H2->uE JN GO cK (.ptr p 0) (.str key) (.str value) nx H=some (.bool N3,H2))->∃ ok H',cK (.func (.func 118) [] []) [.ptr p 0,.str key,.str value,nx] H=some (.bool ok,H')/\Out (p::ak x) H H'/\(ok=true->∃ t' x',iU t key value names=some t'/\TO H' p t' x'/\∀ j∈ak x',j∈ak x\/H.next<=j)/\(ok=false->iU t key value names=none):=by
  intro o f ho hf hfa hm iR
  cases N3 with
  | true=>
   obtain⟨m,rfl⟩:∃ m:Nat,n=m:=⟨n.toNat,by have:=n3 rfl;omega⟩
   obtain⟨H2,w1,w2,w3⟩:=qR.st o ho (.int .i64 (m:Int)) rfl (f m) (hf m) (hfa m)
   refine⟨true,H2,zv (iR H2 w1),(rI n4).trans (w3.mono fun j hj=>by rw[No] at hj;subst hj;exact .head _),fun _=>⟨f m,x,?_,w2,fun j hj => .inl hj⟩,fun q=>by cases q⟩
   rw[hm,n2,if_pos rfl,acT];rfl
  | false=>
   obtain⟨H2,w1,w2,w3,w4⟩:=fG qR.c (by decide) (o:=o) (by rw[xI];exact ho) (v := .int .i64 n) rfl
   refine⟨false,H2,zv (iR H2 w1),(rI n4).trans (w3.mono fun j hj=>by rw[No] at hj;subst hj;exact .head _),fun q=>(by cases q),fun _ => ?_⟩
   rw[hm,n2];rfl
 by_cases k1:key=vo
 ·subst k1
  obtain⟨sx,H2,s1,s2,s3,s4⟩:=Oj (c:=44) (by decide) (s:=value) (by omega) H1
  have og:=s2.mZ
  rw[ji] at og
  have ml:(cx 44 value).length<=90001:=by rw[CA];have:=Kc 44 value;omega
  have mX:=qR.out0 s3
  have yv:=kP.lt
  have Eo:=hT.o.rw.lt
  have hpH:=hT.c.1
  obtain⟨H',i1,i2⟩:=ZC (p:=p) mf (by omega) (cx 44 value) 0 H2 t x (ac4 _) ada (AT.out0 s3) s2 mX (fun j hj=>hj.elim (hd j) fun z=>⟨by have:=s4 j z;omega,fun y=>by have:=s4 j z;have:=Eo j y;omega⟩) (by omega)
  have hm:iU t vo value names=(rK names (cx 44 value)).map fun l=>{ t with after:=t.after++l }:=by unfold iU;rw[if_pos rfl]
  have oo:Out (p::ak x) H H':=(rI (n4.trans s3)).trans i1
  have gK:=(n4.trans s3).nx
  have e:(vo==vo)=true:=rfl
  rcases i2 with⟨l,x',q1,q2,q3,q4⟩ | ⟨q1,q2⟩
  ·rw[show (((0:Nat):Int))=0 from rfl] at q2
   refine⟨true,H',zv ?_,oo,fun _=>⟨_,x',by rw[hm,q1];rfl,q3,fun j hj=>(q4 j hj).imp id fun z=>by omega⟩,fun q=>by cases q⟩
   unfold uE
   simp(disch:=first|exact zqz|fail)only[n1,e,s1,og,q2,ar,au,aj,ai,simprocAttr]
  ·rw[show (((0:Nat):Int))=0 from rfl] at q2
   refine⟨false,H',zv ?_,oo,fun q=>(by cases q),fun _=>by rw[hm,q1];rfl⟩
   unfold uE
   simp(disch:=first|exact zqz|fail)only[n1,e,s1,og,q2,ar,au,aj,ai,simprocAttr]
 have e1:=HP k1
 by_cases k2:key=xB
 ·subst k2
  have e2:(xB==xB)=true:=rfl
  refine num 2 (fun m=>{ t with retry:=(m:Int) }) (by omega) (fun m=>rfl) (fun m=>rfl) (by unfold iU;rw[if_neg k1,if_pos rfl]) fun H2 aC => ?_
  unfold uE
  simp(disch:=first|exact zqz|fail)only[n1,e1,e2,aC,ar,au,aj,ai,simprocAttr]
 have e2:=HP k2
 by_cases k3:key=wC
 ·subst k3
  have e3:(wC==wC)=true:=rfl
  refine num 3 (fun m=>{ t with wait:=(m:Int) }) (by omega) (fun m=>rfl) (fun m=>rfl) (by unfold iU;rw[if_neg k1,if_neg k2,if_pos rfl]) fun H2 aC => ?_
  unfold uE
  simp(disch:=first|exact zqz|fail)only[n1,e1,e2,e3,aC,ar,au,aj,ai,simprocAttr]
 have e3:=HP k3
 by_cases k4:key=uX
 ·subst k4
  have e4:(uX==uX)=true:=rfl
  refine num 4 (fun m=>{ t with base:=(m:Int) }) (by omega) (fun m=>rfl) (fun m=>rfl) (by unfold iU;rw[if_neg k1,if_neg k2,if_neg k3,if_pos rfl]) fun H2 aC => ?_
  unfold uE
  simp(disch:=first|exact zqz|fail)only[n1,e1,e2,e3,e4,aC,ar,au,aj,ai,simprocAttr]
 have e4:=HP k4
 by_cases k5:key=rB
 ·subst k5
  have e5:(rB==rB)=true:=rfl
  obtain⟨H2,w1,w2,w3⟩:=qR.st 5 (by omega) (.str value) rfl { t with on:=value } rfl rfl
  have oo:Out (p::ak x) H H2:=(rI n4).trans (w3.mono fun j hj=>by rw[No] at hj;subst hj;exact .head _)
  have hm:iU t rB value names=if value=[] then none else some { t with on:=value }:=by unfold iU;rw[if_neg k1,if_neg k2,if_neg k3,if_neg k4,if_pos rfl]
  by_cases C9:value=[]
  ·have e6:(value==[])=true:=by rw[C9];rfl
   refine⟨false,H2,zv ?_,oo,fun q=>(by cases q),fun _=>by rw[hm,if_pos C9]⟩
   unfold uE
   simp(disch:=first|exact zqz|fail)only[n1,e1,e2,e3,e4,e5,e6,w1,ar,au,aj,ai,simprocAttr]
  ·have e6:(value==[])=false:=beq_false_of_ne C9
   refine⟨true,H2,zv ?_,oo,fun _=>⟨_,x,by rw[hm,if_neg C9],w2,fun j hj => .inl hj⟩,fun q=>by cases q⟩
   unfold uE
   simp(disch:=first|exact zqz|fail)only[n1,e1,e2,e3,e4,e5,e6,w1,ar,au,aj,ai,simprocAttr]
 ·have e5:=HP k5
  have hm:iU t key value names=(pO value).map fun _=>t:=by unfold iU;rw[if_neg k1,if_neg k2,if_neg k3,if_neg k4,if_neg k5]
  refine⟨N3,H1,zv ?_,rI n4,fun q=>⟨t,x,?_,qR,fun j hj => .inl hj⟩,fun q => ?_⟩
  ·unfold uE
   simp(disch:=first|exact zqz|fail)only[n1,e1,e2,e3,e4,e5,ar,au,aj,ai,simprocAttr]
  ·rw[hm,n2,if_pos q];rfl
  ·rw[hm,n2,q];rfl
noncomputable def lQ (names:List aq):List aq->Tk->List aq->Option Tk
 | [],t,_=>some t
 | s::r,t,ks=>match ks.findIdx? (fun a=>(cut 61 s).1==a) with
  | none=>none
  | some m=>if (cut 61 s).1.length=s.length then none else match iU t (cut 61 s).1 (cut 61 s).2.1 names with
   | none=>none
   | some t'=>lQ names r t' (ks.drop (m+1))
theorem abO (c:Nat)(s:aq):(cut c s).1.length<=s.length/\(cut c s).2.1.length<=s.length:=by
 unfold cut
 split
 ·exact⟨by rw[ael];exact akR _ _,by rw[afK];exact Nat.sub_le _ _⟩
 ·exact⟨aaH _,ac4 _⟩
theorem U2 {names:List aq}:∀ {r:List aq} {l:List Int},rK names r=some l->l.length=r.length
 | [],l,h=>by cases h;rfl
 | s::r,l,h=>by
  unfold rK at h
  split at h
  ·rw[aaa] at h
   obtain⟨l',h1,rfl⟩:=h
   simp[U2 h1]
  ·cases h
theorem WJ {t t':Tk}{key value:aq}{names:List aq}(h:iU t key value names=some t'):t'.after.length<=t.after.length+value.length+1:=by
 unfold iU at h
 split at h
 ·rw[aaa] at h
  obtain⟨l,h1,rfl⟩:=h
  have:=U2 h1
  rw[CA] at this
  have:=Kc 44 value
  simp only[aa0];omega
 ·split at h
  ·rw[aaa] at h;obtain⟨m,_,rfl⟩:=h;simp only;omega
  ·split at h
   ·rw[aaa] at h;obtain⟨m,_,rfl⟩:=h;simp only;omega
   ·split at h
    ·rw[aaa] at h;obtain⟨m,_,rfl⟩:=h;simp only;omega
    ·split at h
     ·split at h
      ·cases h
      ·cases h;simp only;omega
     ·rw[aaa] at h;obtain⟨m,_,rfl⟩:=h;omega
theorem Ys {α:Type}{p:α->Bool}:∀ {l:List α} {m:Nat},l.findIdx? p=some m->m<l.length
 | [],m,h=>by cases h
 | a::l,m,h=>by
  rw[aia] at h
  split at h
  ·cases h;simp
  ·rw[aaa] at h
   obtain⟨k,h1,rfl⟩:=h
   have:=Ys h1
   simp only[aaN];omega
theorem XQ {names w:List aq}{nx wx:AV}{p q:Nat}(mf:names.length<=100000)(Ad:w.length<=100000)(CG:∀ s∈w,s.length<=80000)(Ab:p≠q):∀ (r:List aq) (i:Nat) (H:Hp) (t:Tk) (x kx:AV) (ks:List aq),i<=w.length->w.drop i=r->Gl H->11<=p->(∀ j∈ak x,11<=j)->Rw H 1 nx (strs names)->Rw H 1 wx (strs w)->Rw H 1 kx (strs ks)->ks.length<=10->TO H p t x->(∀ j,j∈ak nx\/j∈ak wx\/j∈ak kx->j≠p/\j∉ak x)->t.after.length+cO r+r.length<=10000->
  ∃ H',Out (p::ak x) H H'/\((∃ t' x',lQ names r t ks=some t'/\(∀ aF:K.Fn 2,BK JN GO cK aF nx (.ptr q 0) (.ptr p 0) kx wx (.int .i64 (w.length:Nat)) (.int .i64 (i:Nat)) H=aF (.ptr q 0) (.ptr p 0) H')/\TO H' p t' x'/\∀ j∈ak x',j∈ak x\/H.next<=j)\/
   (lQ names r t ks=none/\(cellAt H q 0).isSome=true/\False)\/(lQ names r t ks=none/\∃ H2,Out (p::ak x) H H2/\∀ aF:K.Fn 2,BK JN GO cK aF nx (.ptr q 0) (.ptr p 0) kx wx (.int .i64 (w.length:Nat)) (.int .i64 (i:Nat)) H=B1 (st 6 (.ptr q 0) (.agg [(.str []),.ah,(.int .i64 0),(.int .i64 0),(.int .i64 0),(.str [])]) H2) fun h=>B1 (aA 6 (.ptr q 0) h) fun v=>some (.tuple [v,.bool false],h)))
 | [],i,H,t,x,kx,ks,hi,h,hg,O8,On,kP,wP,IZ,jF,hT,hd,dm=>by
  obtain rfl:=drop_nil hi h
  refine⟨H,Out.refl _ _,.inl ⟨t,x,rfl,fun aF => ?_,hT,fun j hj => .inl hj⟩⟩
  rw[BQ]
  simp only[zb,fZ,aj,ai,simprocAttr]
 | s::r,i,H,t,x,kx,ks,hi,h,hg,O8,On,kP,wP,IZ,jF,hT,hd,dm=>by
  obtain⟨h1,h2,h3⟩:=gy h
  obtain⟨y,q1,q2⟩:=wP.mb (yP h2) .i64
  have es:=gq h1 (by omega)
  have og:=CG s (aaF h2)
  have yz:=alx (c:=61) (by decide) (s:=s) (by omega) H
  obtain⟨cl1,cl2⟩:=abO 61 s
  have mW:=NQ IZ (by omega) (cut 61 s).1
  have rj:cO (s::r)=s.length+cO r:=by simp[cO]
  rw[rj] at dm
  simp only[aaN] at dm
  have CV:fl [(.str []),.ah,(.int .i64 0),(.int .i64 0),(.int .i64 0),(.str [])] []=some [(.str []),.ah,(.int .i64 0),(.int .i64 0),(.int .i64 0),(.str [])]:=rfl
  unfold lQ
  cases hf:ks.findIdx? (fun a=>(cut 61 s).1==a) with
  | none=>
   rw[hf] at mW
   have d:decide (lB none<0)=true:=rfl
   refine⟨H,Out.refl _ _,.inr (.inr ⟨rfl,H,Out.refl _ _,fun aF => ?_⟩)⟩
   rw[BQ]
   simp(disch:=first|exact zqz|fail)only[zb,bH h1,q1,q2,yz,mW,d,CV,ar,au,aj,ai,simprocAttr]
  | some m=>
   rw[hf] at mW
   have hm:=Ys hf
   have d:decide (lB (some m)<0)=false:=decide_eq_false (by show ¬ ((m:Int)<0);omega)
   have qc:lB (some m)=(m:Int):=rfl
   rw[qc] at mW d
   simp only
   by_cases hl:(cut 61 s).1.length=s.length
   ·have d2:(((cut 61 s).1.length:Int)==(s.length:Int))=true:=by rw[hl];simp
    rw[if_pos hl]
    refine⟨H,Out.refl _ _,.inr (.inr ⟨rfl,H,Out.refl _ _,fun aF => ?_⟩)⟩
    rw[BQ]
    simp(disch:=first|exact zqz|fail)only[zb,bH h1,q1,q2,yz,mW,d,d2,CV,ar,au,aj,ai,simprocAttr]
   ·have d2:(((cut 61 s).1.length:Int)==(s.length:Int))=false:=beq_false_of_ne (by omega)
    rw[if_neg hl]
    obtain⟨ok,H1,s1,s2,s3,s4⟩:=apj (key:=(cut 61 s).1) (value:=(cut 61 s).2.1) hg mf (by omega) kP hT (fun j hj=>hd j (.inl hj)) (by omega)
    cases ok with
    | false=>
     have hs:=s4 rfl
     rw[hs]
     refine⟨H1,s2,.inr (.inr ⟨rfl,H1,s2,fun aF => ?_⟩)⟩
     rw[BQ]
     simp(disch:=first|exact zqz|fail)only[zb,bH h1,q1,q2,yz,mW,d,d2,s1,CV,ar,au,aj,ai,simprocAttr]
    | true=>
     obtain⟨t',x',u1,u2,u3⟩:=s3 rfl
     rw[u1]
     have Ct:=WJ u1
     have e1:IntKind.wrap .i64 ((m:Int)+1)=((m+1:Nat):Int):=by rw[wrap_i64 (by omega) (by omega)];rfl
     have gp:∀ j,j∈ak nx\/j∈ak wx\/j∈ak kx->j∉p::ak x:=fun j hj=>by rw[aaY,not_or];exact hd j hj
     have aoD:=IZ.out s2 fun j hj=>gp j (.inr (.inr hj))
     obtain⟨kx',k1,k2,k3⟩:=Hk (n:=ks.length) aoD (by rw[ji,agf]) (by decide) (a:=m+1) (b:=ks.length) (lo:=some (.int .i64 (m+1:Nat))) (hi:=none) (by omega) (aaH _) (Bd.yes _ _ _) (Bd.no _)
     have fR:((strs ks).drop ((m+1)*1)).take ((ks.length-(m+1))*1)=strs (ks.drop (m+1)):=by
      rw[agf,agf,afi (by rw[afK,ji];omega)]
      simp[strs,List.map_drop]
     rw[fR] at k2
     have aI:∀ j,j∈ak nx\/j∈ak wx\/j∈ak kx->j<H.next:=fun j hj=>by
      rcases hj with hj | hj | hj
      ·exact kP.lt j hj
      ·exact wP.lt j hj
      ·exact IZ.lt j hj
     have KM:=hg.nx
     have jJ:=s2.nx
     obtain⟨H',i1,i2⟩:=XQ (q:=q) mf Ad CG Ab r (i+1) H1 t' x' kx' (ks.drop (m+1)) h1 h3 (hg.out s2 fun j hj=>by
      rcases aaY.1 hj with rfl | hj
      ·exact O8
      ·exact On j hj) O8 (fun j hj=>(u3 j hj).elim (On j) fun z=>by omega) (kP.out s2 fun j hj=>gp j (.inl hj)) (wP.out s2 fun j hj=>gp j (.inr (.inl hj))) k2 (by rw[afK];omega) u2 (fun j hj=>by
       have iQ:j∈ak nx\/j∈ak wx\/j∈ak kx:=hj.imp id fun z=>z.imp id (k3 j)
       exact⟨(hd j iQ).1,fun z=>(u3 j z).elim (hd j iQ).2 fun y=>by have:=aI j iQ;omega⟩) (by omega)
     have key:∀ j∈p::ak x',j∈p::ak x\/H.next<=j:=fun j hj=>by
      rcases aaY.1 hj with rfl | hj
      ·exact .inl (.head _)
      ·exact (u3 j hj).imp (fun z => .tail _ z) id
     refine⟨H',s2.then i1 key,?_⟩
     simp only
     rcases i2 with⟨t2,x2,v1,v2,v3,v4⟩ | ⟨_,_,v⟩ | ⟨v1,H2,v2,v3⟩
     ·refine .inl ⟨t2,x2,v1,fun aF => ?_,v3,fun j hj=>(v4 j hj).elim (u3 j) fun z => .inr (by omega)⟩
      rw[BQ]
      simp(disch:=first|exact zqz|fail)only[zb,bH h1,q1,q2,yz,mW,d,d2,s1,e1,k1,es,v2,ar,au,aj,ai,simprocAttr]
     ·exact v.elim
     ·refine .inr (.inr ⟨v1,H2,s2.then v2 key,fun aF => ?_⟩)
      rw[BQ]
      simp(disch:=first|exact zqz|fail)only[zb,bH h1,q1,q2,yz,mW,d,d2,s1,e1,k1,es,v3,ar,au,aj,ai,simprocAttr]
abbrev kg:List aq:=[vo,xB,wC,uX,rB]
noncomputable def uv (names w:List aq):Option Tk:=lQ names w.tail ⟨w.headD [],[],0,10,1,[]⟩ kg
theorem fN {H:Hp}{i n el:Nat}{l vs:List AV}(h:Cs H i l el 0)(hn:n=vs.length)(hl:l.length=vs.length)(hv:vs.all ba=true):∃ H',st n (.ptr i 0) (.agg vs) H=some H'/\Cs H' i vs el 0/\Out [i] H H'/\H'.next=H.next:=by
 obtain⟨hi,c,hc,hg⟩:=h
 obtain⟨H',c',q1,q2,q3,q4,q5⟩:=I0 vs H i 0 c 0 l.length el 0 hc (by omega) (aaH _) (by omega) (fun k hk=>by rw[ad6,hg k (l[k]'(by omega)) (aau (by omega))];rfl) (adY.1 hv)
 refine⟨H',?_,⟨by omega,c',?_,fun k v hk => ?_⟩,⟨by omega,fun j hj hn=>q4 j (by simpa using hn)⟩,q2⟩
 ·unfold st
  have:Nat.beq n vs.length=true:=by subst hn;exact ahj _
  simp only[Bl,this,cond_true]
  exact q1
 ·rw[q3,hl]
 ·have:=(aas.1 hk).1
  rw[q5,if_pos (by omega),agR];exact hk
theorem adU {names w:List aq}{nx wx:AV}{H:Hp}(hg:Gl H)(mf:names.length<=100000)(hw0:w≠[])(Ad:w.length<=5000)(CG:∀ s∈w,s.length<=80000)(rj:cO w+w.length<=10000)(kP:Rw H 1 nx (strs names))(wP:Rw H 1 wx (strs w)) :
  ∃ H',Out [] H H'/\((∃ t x,uv names w=some t/\cK (.func (.func 89) [] []) [wx,nx] H=some (.tuple [.agg (aK t x),.bool true],H')/\Rw H' 1 x (ints t.after)/\∀ j∈ak x,H.next<=j)\/(uv names w=none/\∃ v,cK (.func (.func 89) [] []) [wx,nx] H=some (.tuple [.agg v,.bool false],H')/\v.length=6/\v.all ba=true)):=by
 obtain⟨w0,w,rfl⟩:∃ a b,w=a::b:=by
  cases w with
  | nil=>exact absurd rfl hw0
  | cons a b=>exact⟨a,b,rfl⟩
 have KM:=hg.nx
 have o1:=aJ H [(AV.str []),AV.ah,(AV.int .i64 0),(AV.int .i64 0),(AV.int .i64 0),(AV.str [])] 99 0
 have o2:=aJ (al H [(AV.str []),AV.ah,(AV.int .i64 0),(AV.int .i64 0),(AV.int .i64 0),(AV.str [])] 99 0) (aK ⟨w0,[],0,10,1,[]⟩ .ah) 99 0
 have o3:=aJ (al (al H [(AV.str []),AV.ah,(AV.int .i64 0),(AV.int .i64 0),(AV.int .i64 0),(AV.str [])] 99 0) (aK ⟨w0,[],0,10,1,[]⟩ .ah) 99 0) (strs kg) 9 0
 have dW:=o1.trans o2
 have gW:=dW.trans o3
 have c1:=((bo H [(AV.str []),AV.ah,(AV.int .i64 0),(AV.int .i64 0),(AV.int .i64 0),(AV.str [])] 99 0).out o2 (by simp)).out o3 (by simp)
 have c2:=(bo (al H [(AV.str []),AV.ah,(AV.int .i64 0),(AV.int .i64 0),(AV.int .i64 0),(AV.str [])] 99 0) (aK ⟨w0,[],0,10,1,[]⟩ .ah) 99 0).out o3 (by simp)
 have c3:=bo (al (al H [(AV.str []),AV.ah,(AV.int .i64 0),(AV.int .i64 0),(AV.int .i64 0),(AV.str [])] 99 0) (aK ⟨w0,[],0,10,1,[]⟩ .ah) 99 0) (strs kg) 9 0
 generalize hH3:al (al (al H [(AV.str []),AV.ah,(AV.int .i64 0),(AV.int .i64 0),(AV.int .i64 0),(AV.str [])] 99 0) (aK ⟨w0,[],0,10,1,[]⟩ .ah) 99 0) (strs kg) 9 0=H3 at *
 have wH:H3.next=H.next+3:=by rw[<-hH3];rfl
 have kH:Rw H3 1 (.slice (H.next+2) 0 5 5 true 1) (strs kg) := .mk c3.ro rfl (aaH _) rfl
 have afF:=wP.out0 gW
 obtain⟨wx',s1,s2,s3⟩:=Hk (n:=w.length+1) afF (by rw[ji];simp) (by decide) (a:=1) (b:=w.length+1) (lo:=some (.int .i64 1)) (hi:=none) (by omega) (aaH _) (Bd.yes .i64 1 0) (Bd.no _)
 have pT:((strs (w0::w)).drop (1*1)).take ((w.length+1-1)*1)=strs w:=by
  rw[agf,agf,Nat.add_sub_cancel]
  show (strs w).take w.length=_
  rw[afi (by rw[ji];omega)]
 rw[pT] at s2
 have Oq:=s2.mZ
 rw[ji] at Oq
 have N5:=wP.lt
 have yv:=kP.lt
 obtain⟨y,y1,y2⟩:=(wP.out0 o1).mb (i:=0) (v := .str w0) rfl .i64
 rw[show (((0:Nat):Int))=0 from rfl] at y1
 have tY:cO (w0::w)=w0.length+cO w:=by simp[cO]
 rw[tY] at rj
 simp only[aaN] at rj Ad
 have hT:TO H3 (H.next+1) ⟨w0,[],0,10,1,[]⟩ .ah:=⟨c2,.nil,by simp[ak]⟩
 obtain⟨H4,i1,i2⟩:=XQ (q:=H.next) (p:=H.next+1) mf (by omega) (fun s hs=>CG s (.tail _ hs)) (by omega) w 0 H3 ⟨w0,[],0,10,1,[]⟩ .ah (.slice (H.next+2) 0 5 5 true 1) kg (ac4 _) ada (hg.out0 gW) (by omega) (fun j hj=>by cases hj) (kP.out0 gW) s2 kH (by decide) hT (fun j hj=>by
  refine⟨?_,by simp[ak]⟩
  rcases hj with hj | hj | hj
  ·have:=yv j hj;omega
  ·have:=N5 j (s3 j hj);omega
  ·rw[my (by rfl),No] at hj;omega) (by simp;omega)
 have CO:Out [H.next+1] H3 H4:=i1.mono fun j hj=>by
  rcases aaY.1 hj with rfl | hj
  ·exact .head _
  ·cases hj
 have IQ:fl [(.str []),.ah,(.int .i64 0),(.int .i64 0),(.int .i64 0),(.str [])] [(0,1,.str w0),(3,1,.int .i64 10),(4,1,.int .i64 1)]=some (aK ⟨w0,[],0,10,1,[]⟩ .ah):=rfl
 have BP:fl [(.str []),(.str []),(.str []),(.str []),(.str [])] [(0,1,.str [97,102,116,101,114]),(1,1,.str [114,101,116,114,121]),(2,1,.str [119,97,105,116]),(3,1,.str [98,97,115,101]),(4,1,.str [111,110])]=some (strs kg):=rfl
 have aC:=yA ⟨w0,[],0,10,1,[]⟩ .ah rfl (al H [(AV.str []),AV.ah,(AV.int .i64 0),(AV.int .i64 0),(AV.int .i64 0),(AV.str [])] 99 0)
 have Sd:aE (al (al H [(AV.str []),AV.ah,(AV.int .i64 0),(AV.int .i64 0),(AV.int .i64 0),(AV.str [])] 99 0) (aK ⟨w0,[],0,10,1,[]⟩ .ah) 99 0) (strs kg) 9 0=some (H.next+2,H3):=by rw[<-hH3,gB (by show 5<=_;omega)];rfl
 have aai:H.next+1+1=H.next+2:=rfl
 have hm:uv names (w0::w)=lQ names w ⟨w0,[],0,10,1,[]⟩ kg:=rfl
 rw[hm]
 have fin:∀ {A:Hp} {S:List Nat},Out S H3 A->(∀ j∈S,H.next<=j)->Out [] H A:=fun h hS=>gW.then h fun j hj => .inr (hS j hj)
 have fW:(al H [(AV.str []),AV.ah,(AV.int .i64 0),(AV.int .i64 0),(AV.int .i64 0),(AV.str [])] 99 0).next=H.next+1:=rfl
 rw[fW] at aC
 rw[show (((0:Nat):Int))=0 from rfl] at i2
 rcases i2 with⟨t,x,v1,v2,v3,v4⟩ | ⟨_,_,v⟩ | ⟨v1,H5,v2,v3⟩
 ·have jN:=v3.o.jO
  have ou:av H4 (H.next+1) 0 6=some (aK t x):=v3.c.av 6 0 (by rw[xI];omega)
  have c4:=c1.out CO (by simp)
  obtain⟨H5,w1,w2,w3,w4⟩:=fN (n:=6) (vs:=aK t x) c4 rfl rfl (by simp[aK,Du,kA,jN])
  have hc5:av H5 H.next 0 6=some (aK t x):=w2.av 6 0 (by rw[xI];omega)
  have Eo:∀ j∈ak x,H3.next<=j:=fun j hj=>(v4 j hj).elim (fun z=>by cases z) id
  refine⟨H5,(fin CO (fun j hj=>by rw[No] at hj;omega)).then w3 fun j hj=>by rw[No] at hj;exact .inr (by omega),.inl ⟨t,x,v1,Xn ?_,v3.o.rw.out w3 fun j hj=>by rw[No];have:=Eo j hj;omega,fun j hj=>by have:=Eo j hj;omega⟩⟩
  unfold K4
  simp(disch:=first|exact zqz|fail)only[y1,y2,IQ,aC,BP,Sd,hH3,aai,s1,Oq,v2,ou,w1,hc5,ar,au,aj,ai,simprocAttr]
 ·exact v.elim
 ·have DC:Out [H.next+1] H3 H5:=v2.mono fun j hj=>by
   rcases aaY.1 hj with rfl | hj
   ·exact .head _
   ·cases hj
  have c5:=c1.out DC (by simp)
  obtain⟨H6,w1,w2,w3,w4⟩:=fN (n:=6) (vs:=[(AV.str []),AV.ah,(AV.int .i64 0),(AV.int .i64 0),(AV.int .i64 0),(AV.str [])]) c5 rfl rfl rfl
  have hc6:av H6 H.next 0 6=some [(AV.str []),AV.ah,(AV.int .i64 0),(AV.int .i64 0),(AV.int .i64 0),(AV.str [])]:=w2.av 6 0 (by show 0+6<=6;omega)
  refine⟨H6,(fin DC (fun j hj=>by rw[No] at hj;omega)).then w3 fun j hj=>by rw[No] at hj;exact .inr (by omega),.inr ⟨v1,[(AV.str []),AV.ah,(AV.int .i64 0),(AV.int .i64 0),(AV.int .i64 0),(AV.str [])],Xn ?_,rfl,rfl⟩⟩
  unfold K4
  simp(disch:=first|exact zqz|fail)only[y1,y2,IQ,aC,BP,Sd,hH3,aai,s1,Oq,v3,w1,hc6,ar,au,aj,ai,simprocAttr]
end Go.Proofs.YtodfajmihkagnaaGreatDoor.DfK
