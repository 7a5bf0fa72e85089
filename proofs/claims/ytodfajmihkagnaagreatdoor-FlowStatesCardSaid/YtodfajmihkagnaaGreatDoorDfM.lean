/- Laws that the proof uses. -/
import Derived.Test.YtodfajmihkagnaaGreatDoorDfKb
import Derived.Test.YtodfajmihkagnaaGreatDoorAm16
import Derived.Lib.ItoaNum
import Derived.Test.YtodfajmihkagnaaGreatDoorAm13
set_option linter.unusedVariables false
set_option linter.unusedSimpArgs false
set_option maxRecDepth 10000
namespace Go.Proofs.YtodfajmihkagnaaGreatDoor.nC
open Go Am
abbrev ai:=List Nat
def da (c:Nat):ai->List ai
 | []=>[[]]
 | b::s=>if b=c then []::da c s else match da c s with | []=>[[b]] | h::t=>(b::h)::t
theorem zP (c:Nat):∀ s,da c s≠[]
 | []=>by simp[da]
 | b::s=>by
  unfold da
  split
  ·simp
  ·split<;>simp
theorem Nf {c:Nat}:∀ {s:ai},c∉s->da c s=[s]
 | [],_=>rfl
 | b::s,h=>by
  rw[aa7,not_or] at h
  unfold da
  rw[if_neg (fun e=>h.1 e.symm),Nf h.2]
theorem Nb {c:Nat}:∀ {a:ai} (r:ai),c∉a->da c (a++c::r)=a::da c r
 | [],r,_=>by
  show da c (c::r)=_
  unfold da
  rw[if_pos rfl]
  cases r<;>rfl
 | b::a,r,h=>by
  rw[aa7,not_or] at h
  show da c (b::(a++c::r))=_
  have:=Nb r h.2
  rw[da,if_neg (fun e=>h.1 e.symm),this]
theorem Rf {c:Nat}:∀ {s:ai} {k:Nat},kg c s k=none->c∉s
 | [],k,_=>by simp
 | b::s,k,h=>by
  unfold kg at h
  cases hb:Nat.beq b c with
  | true=>rw[hb] at h;cases h
  | false=>
   rw[hb] at h
   have h1:b≠c:=fun e=>by subst e;rw[aie] at hb;cases hb
   rw[aa7,not_or]
   exact⟨fun e=>h1 e.symm,Rf h⟩
theorem Hu {c:Nat}:∀ {s:ai} {k i:Nat},kg c s k=some i->∃ a r,s=a++c::r/\i=k+a.length/\c∉a
 | [],k,i,h=>by cases h
 | b::s,k,i,h=>by
  unfold kg at h
  cases hb:Nat.beq b c with
  | true=>
   rw[hb] at h
   cases h
   have:b=c:=abI hb
   subst this
   exact⟨[],s,rfl,rfl,by simp⟩
  | false=>
   rw[hb] at h
   have h1:b≠c:=fun e=>by subst e;rw[aie] at hb;cases hb
   obtain⟨a,r,rfl,rfl,h3⟩:=Hu h
   refine⟨b::a,r,rfl,by simp;omega,?_⟩
   rw[aa7,not_or]
   exact⟨fun e=>h1 e.symm,h3⟩
theorem Xx {c:Nat}:∀ {a:ai} (r:ai) (k:Nat),c∉a->kg c (a++c::r) k=some (k+a.length)
 | [],r,k,_=>by
  show kg c (c::r) k=_
  unfold kg
  rw[aie];rfl
 | b::a,r,k,h=>by
  rw[aa7,not_or] at h
  show kg c (b::(a++c::r)) k=_
  unfold kg
  have hb:Nat.beq b c=false:=by
   rw[<-ah4];exact fun e=>h.1 (abI e).symm
  rw[hb,cond_false,Xx r (k+1) h.2,aa1]
  congr 1;omega
theorem DJ (c:Nat):∀ s,(da c s).length=gy c s+1
 | []=>rfl
 | b::s=>by
  have ih:=DJ c s
  unfold da gy
  by_cases h:b=c
  ·subst h
   rw[if_pos rfl,aie,cond_true,aa1,ih]
  ·have hb:Nat.beq b c=false:=by
    rw[<-ah4];exact fun e=>h (abI e)
   rw[if_neg h,hb,cond_false]
   cases hs:da c s with
   | nil=>exact absurd hs (zP c s)
   | cons x y=>rw[hs] at ih;exact ih
theorem Na (c:Nat):∀ s:ai,gy c s<=s.length
 | []=>aaU _
 | b::s=>by
  have:=Na c s
  unfold gy
  cases Nat.beq b c<;>simp<;>omega
theorem Gx {c:Nat}:∀ {s:ai} {p:ai},p∈da c s->(∀ b∈p,b∈s)/\c∉p/\p.length<=s.length
 | [],p,h=>by
  have:p=[]:=by simpa[da] using h
  subst this;simp
 | b::s,p,h=>by
  unfold da at h
  by_cases hb:b=c
  ·rw[if_pos hb] at h
   rcases aa7.1 h with rfl | h
   ·simp
   ·obtain⟨h1,h2,h3⟩:=Gx h
    exact⟨fun x hx => .tail _ (h1 x hx),h2,by simp;omega⟩
  ·rw[if_neg hb] at h
   cases hs:da c s with
   | nil=>exact absurd hs (zP c s)
   | cons x y=>
    rw[hs] at h
    rcases aa7.1 h with rfl | h
    ·obtain⟨h1,h2,h3⟩:=Gx (c:=c) (s:=s) (p:=x) (by rw[hs];exact .head _)
     refine⟨fun z hz => ?_,?_,by simp;omega⟩
     ·rcases aa7.1 hz with rfl | hz
      ·exact .head _
      ·exact .tail _ (h1 z hz)
     ·rw[aa7,not_or];exact⟨fun e=>hb e.symm,h2⟩
    ·obtain⟨h1,h2,h3⟩:=Gx (c:=c) (s:=s) (p:=p) (by rw[hs];exact .tail _ h)
     exact⟨fun z hz => .tail _ (h1 z hz),h2,by simp;omega⟩
def jV (c:Nat):List ai->ai
 | []=>[]
 | [a]=>a
 | a::b::l=>a++c::jV c (b::l)
theorem Md {c:Nat}:∀ {l:List ai},l≠[]->(∀ p∈l,c∉p)->da c (jV c l)=l
 | [],h,_=>absurd rfl h
 | [a],_,h=>Nf (h a (.head _))
 | a::b::l,_,h=>by
  show da c (a++c::jV c (b::l))=_
  rw[Nb _ (h a (.head _)),Md (by simp) fun p hp=>h p (.tail _ hp)]
theorem acP (c:Nat):∀ s,jV c (da c s)=s
 | []=>rfl
 | b::s=>by
  have ih:=acP c s
  unfold da
  by_cases h:b=c
  ·rw[if_pos h]
   cases hs:da c s with
   | nil=>exact absurd hs (zP c s)
   | cons x y=>rw[hs] at ih;show[]++c::jV c (x::y)=_;rw[ih,h];rfl
  ·rw[if_neg h]
   cases hs:da c s with
   | nil=>exact absurd hs (zP c s)
   | cons x y=>
    rw[hs] at ih
    cases y with
    | nil=>show b::x=_;rw[<-ih];rfl
    | cons z w=>show b::x++c::jV c (z::w)=_;rw[<-ih];rfl
end Go.Proofs.YtodfajmihkagnaaGreatDoor.nC
namespace Go.Proofs.YtodfajmihkagnaaGreatDoor.DfK
open Go Am Am.K lN nC
theorem Mh {bg:Nat}{k:Ext}{fn:Func}{args:List AV}{H:Hp}{r:AV × Hp}(hp:aR bg=none)(hf:P.funcs[bg]? = some fn)(hb:fn.body=none)(he:ext bg=some k)(h:Fq P k args H=some r):cK (.func (.func bg) [] []) args H=some r:=by
 refine UP Ov ?_
 unfold ym
 simp only[hp,ai6,af9,hf,hb,he]
 exact h
def mr:Option Nat->Int
 | some i=>i
 | none => -1
theorem ame {c:Nat}(hc:c<256)(s:ai)(H:Hp):cK (.func (.func 197) [] []) [.str s,.int .u8 c] H=some (.int .i64 (mr (kg c s 0)),H):=by
 refine Mh (k := .Lo) (by kernel_rfl) Tryz.func197 rfl (by kernel_rfl) ?_
 show some (AV.int .i64 (match kg (Int.toNat (c:Int) % 256) s 0 with | some i=>(i:Int) | none => -1),H)=_
 rw[acB,akL hc]
 cases kg c s 0<;>rfl
theorem ams {c:Nat}(hc:c<256)(s:ai)(H:Hp):cK (.func (.func 171) [] []) [.str s,.int .u8 c] H=some (.int .i64 (gy c s:Nat),H):=by
 refine Mh (k := .count) (by kernel_rfl) Tryz.func171 rfl (by kernel_rfl) ?_
 show some (AV.int .i64 (gy (Int.toNat (c:Int) % 256) s:Nat),H)=_
 rw[acB,akL hc]
theorem apd {c:Nat}(hc:c<256)(s:ai)(H:Hp):cK (.func (.func 186) [] []) [.str s,.int .u8 c] H=some (.int .i64 (mr (kg c s 0)),H):=by
 refine af4 ?_
 unfold aes
 simp only[ame hc,ag,af,Int.reduceBEq,Int.reduceBNe,Int.reduceLT,Int.reduceLE,Int.reduceGT,Int.reduceGE,Int.reduceNeg]
theorem Sz {c:Nat}(hc:c<256)(s:ai)(H:Hp):cK (.func (.func 172) [] []) [.str s,.str [c]] H=some (.int .i64 (mr (kg c s 0)),H):=by
 refine ajh ?_
 unfold Ud
 have h1:wW (.str [c]) (.int .i64 0)=some (.int .u8 c):=aeK .i64 rfl
 simp only[apd hc,h1,aa1,acG,Int.ofNat_one,Nat.reduceAdd,Int.natCast_one,ag,af,Int.reduceBEq,Int.reduceBNe,Int.reduceLT,Int.reduceLE,Int.reduceGT,Int.reduceGE,Int.reduceNeg]
 rw[I6]
 split
 ·rename_i h
  have h:[c]=s:=by simpa using h
  subst h
  unfold kg
  rw[aie];rfl
 ·rfl
theorem aoO {c:Nat}(hc:c<256)(s:ai)(H:Hp):cK (.func (.func 151) [] []) [.str s,.str [c]] H=some (.int .i64 (mr (kg c s 0)),H):=by
 refine aor ?_
 unfold X5
 simp only[Sz hc,ag,af,Int.reduceBEq,Int.reduceBNe,Int.reduceLT,Int.reduceLE,Int.reduceGT,Int.reduceGE,Int.reduceNeg]
theorem akb {c:Nat}(hc:c<256)(s:ai)(H:Hp):cK (.func (.func 150) [] []) [.str s,.str [c]] H=some (.int .i64 (gy c s:Nat),H):=by
 refine aiW ?_
 unfold aeX
 have h1:wW (.str [c]) (.int .i64 0)=some (.int .u8 c):=aeK .i64 rfl
 simp only[ams hc,h1,aa1,acG,Int.ofNat_one,Nat.reduceAdd,Int.natCast_one,ag,af,Int.reduceBEq,Int.reduceBNe,Int.reduceLT,Int.reduceLE,Int.reduceGT,Int.reduceGE,Int.reduceNeg]
def cut (c:Nat)(s:ai):ai × ai × Bool:=match kg c s 0 with
 | some i=>(s.take i,s.drop (i+1),true)
 | none=>(s,[],false)
theorem amJ {c:Nat}(hc:c<256){s:ai}(hs:s.length<=1073741824)(H:Hp):cK (.func (.func 152) [] []) [.str s,.str [c]] H=some (.tuple [.str (cut c s).1,.str (cut c s).2.1,.bool (cut c s).2.2],H):=by
 refine ajc ?_
 unfold YQ cut
 cases hi:kg c s 0 with
 | none=>
  have d:decide ((0:Int) <= -1)=false:=by decide
  simp only[Sz hc,hi,mr,d,ag,af,Int.reduceBEq,Int.reduceBNe,Int.reduceLT,Int.reduceLE,Int.reduceGT,Int.reduceGE,Int.reduceNeg]
 | some i=>
  obtain⟨a,r,rfl,rfl,ha⟩:=Hu hi
  rw[aeJ] at hi
  simp only[abj,aa1] at hs
  have d:decide ((0:Int)<=((a.length:Nat):Int))=true:=decide_eq_true (by omega)
  have w:IntKind.wrap .i64 ((a.length:Int)+((1:Nat):Int))=((a.length+1:Nat):Int):=by rw[wrap_i64 (by omega) (by omega)];rfl
  have h1:oL (.str (a++c::r)) none (some (.int .i64 (a.length:Nat)))=some (.str ((a++c::r).take a.length)):=Y3 .i64 (by simp)
  have h2:oL (.str (a++c::r)) (some (.int .i64 (a.length+1:Nat))) none=some (.str ((a++c::r).drop (a.length+1))):=Wx .i64 (by simp)
  simp only[Sz hc,hi,mr,d,h1,h2,w,aa1,acG,aeJ,ag,af,Int.reduceBEq,Int.reduceBNe,Int.reduceLT,Int.reduceLE,Int.reduceGT,Int.reduceGE,Int.reduceNeg]
theorem awO {c:Nat}(hc:c<256){s:ai}(hs:s.length<=1073741824)(H:Hp):cK (.func (.func 117) [] []) [.str s,.str [c]] H=some (.tuple [.str (cut c s).1,.str (cut c s).2.1,.bool (cut c s).2.2],H):=by
 refine aww ?_
 unfold abS
 simp only[amJ hc hs,ag,af,Int.reduceBEq,Int.reduceBNe,Int.reduceLT,Int.reduceLE,Int.reduceGT,Int.reduceGE,Int.reduceNeg]
def strs (l:List ai):List AV:=l.map .str
theorem gB (l:List ai):(strs l).length=l.length:=by simp[strs]
theorem FZ (a b:List ai):strs (a++b)=strs a++strs b:=by simp[strs]
theorem nE {l:List ai}{j:Nat}{z:ai}(h:l[j]? = some z):(strs l)[j]? = some (.str z):=by simp[strs,h]
theorem aqj {c:Nat}(hc:c<256){A n:Nat}{el:Nat}:∀ (m:Nat) (s:ai) (dn:List ai) (H:Hp),s.length=m->m<=1073741824->n<=1073741824->dn.length+(da c s).length=n->Cs H A (strs dn++List.replicate (n-dn.length) (AV.str [])) el 0->
  ∃ Cr s' H',(∀ k:K.Fn 3,KB JN GO cK k (.str s) (.str [c]) (.int .i64 0) (.int .i64 ((n-1:Nat):Int)) (.slice A 0 n n true 1) (.int .i64 (dn.length:Nat)) H=k (.str s') (.slice A 0 n n true 1) (.int .i64 (Cr.length:Nat)) H')/\
   Cr++[s']=dn++da c s/\Cr.length<n/\Cs H' A (strs Cr++List.replicate (n-Cr.length) (AV.str [])) el 0/\Out [A] H H':=by
 intro m
 induction m using Nat.strongRecOn with
 | _ m ih=>
 intro s dn H hm hmb Ph hn hC
 have G2:=DJ c s
 by_cases Gu:dn.length+1=n
 ·have Ef:da c s=[s]:=by
   cases hi:kg c s 0 with
   | none=>exact Nf (Rf hi)
   | some i=>
    obtain⟨a,r,rfl,rfl,ha⟩:=Hu hi
    have h1:=Nb (c:=c) r ha
    have h2:=DJ c r
    rw[h1,aa1] at hn
    omega
  have d:decide (((dn.length:Nat):Int)<((n-1:Nat):Int))=false:=decide_eq_false (by omega)
  refine⟨dn,s,H,fun k => ?_,by rw[Ef],by omega,hC,Out.refl _ _⟩
  rw[ZC]
  simp only[NM,d,ag,af,Int.reduceBEq,Int.reduceBNe,Int.reduceLT,Int.reduceLE,Int.reduceGT,Int.reduceGE,Int.reduceNeg]
 ·have d:decide (((dn.length:Nat):Int)<((n-1:Nat):Int))=true:=decide_eq_true (by omega)
  cases hi:kg c s 0 with
  | none=>
   have Ef:=Nf (Rf hi)
   rw[Ef] at hn
   simp only[aa1,acG] at hn
   omega
  | some i=>
   obtain⟨a,r,rfl,rfl,ha⟩:=Hu hi
   rw[aeJ] at hi
   have h1:=Nb (c:=c) r ha
   rw[h1,aa1] at hn
   simp only[abj,aa1] at hm
   obtain⟨H1,w1,w2,w3,w4⟩:=fP hC (by decide) (o:=dn.length) (by rw[abj,gB,agw];omega) (v := .str a) rfl
   have e9:(strs dn++List.replicate (n-dn.length) (AV.str [])).set dn.length (AV.str a)=strs (dn++[a])++List.replicate (n-(dn++[a]).length) (AV.str []):=by
    rw[akr _ _ (by rw[gB];omega),gB,aiG,FZ,afk]
    congr 1
    rw[abj,show n-dn.length=(n-(dn.length + [a].length))+1 by simp;omega,List.replicate_succ]
    rfl
   rw[e9] at w2
   obtain⟨Cr,s',H',i1,i2,i3,i4,i5⟩:=ih r.length (by omega) r (dn++[a]) H1 rfl (by omega) Ph (by rw[abj];simp;omega) w2
   have d2:decide ((((a.length:Nat)):Int)<0)=false:=decide_eq_false (by omega)
   have e1:IntKind.wrap .i64 ((a.length:Int)+0)=((a.length:Nat):Int):=by rw[wrap_i64 (by omega) (by omega)];omega
   have e2:IntKind.wrap .i64 ((a.length:Int)+((1:Nat):Int))=((a.length+1:Nat):Int):=by rw[wrap_i64 (by omega) (by omega)];rfl
   have e3:IntKind.wrap .i64 ((dn.length:Int)+1)=(((dn++[a]).length:Nat):Int):=by rw[wrap_i64 (by omega) (by omega),abj];rfl
   have q1:oL (.str (a++c::r)) none (some (.int .i64 (a.length:Nat)))=some (.str a):=by rw[Y3 .i64 (by simp)];simp
   have q2:oL (.str (a++c::r)) (some (.int .i64 (a.length+1:Nat))) none=some (.str r):=by rw[Wx .i64 (by simp)];simp[List.drop_append]
   have q3:ia 1 (.slice A 0 n n true 1) (.int .i64 (dn.length:Nat))=some (.ptr A dn.length):=by rw[Ai (by omega)];simp
   refine⟨Cr,s',H',fun k => ?_,by rw[i2,h1,afk];rfl,i3,i4,w3.trans i5⟩
   rw[ZC]
   simp only[NM,d,aoO hc,hi,mr,d2,e1,q1,q3,w1,aa1,acG,e2,q2,e3,i1,ag,af,Int.reduceBEq,Int.reduceBNe,Int.reduceLT,Int.reduceLE,Int.reduceGT,Int.reduceGE,Int.reduceNeg]
theorem aeh {H:Hp}{z:AV}{el n:Nat}(k j:IntKind)(hn:n<=1048576):zK [z] el 1 (.int k n) (.int j n) H=some (.slice H.next 0 n n true 1,al H (List.replicate n z) el 0):=by
 unfold zK
 have hr:rep n [z]=List.replicate n z:=by
  unfold rep
  induction n with
  | zero=>rfl
  | succ m ih=>rw[List.replicate_succ,akC,ih (by omega),List.replicate_succ];rfl
 simp only
 rw[if_pos ⟨by omega,by omega,by omega⟩,acB,hr,gJ (by rw[agw];omega)]
 rfl
theorem amm {c:Nat}(hc:c<256){s:ai}(hs:s.length<=1000000)(H:Hp) :
  ∃ x H',cK (.func (.func 116) [] []) [.str s,.str [c],.int .i64 0,.int .i64 (-1)] H=some (x,H')/\Rw H' 1 x (strs (da c s))/\Out [] H H'/\∀ j∈ah x,H.next<=j:=by
 have hn:=DJ c s
 have hle:=Na c s
 have e0:([c]==([]:List Nat))=false:=rfl
 have e1:IntKind.wrap .i64 ((gy c s:Int)+1)=((gy c s+1:Nat):Int):=by rw[wrap_i64 (by omega) (by omega)];rfl
 have e2:IntKind.wrap .i64 ((s.length:Int)+1)=((s.length+1:Nat):Int):=by rw[wrap_i64 (by omega) (by omega)];rfl
 have e3:(if ((s.length+1:Nat):Int)<((gy c s+1:Nat):Int) then ((s.length+1:Nat):Int) else ((gy c s+1:Nat):Int))=((gy c s+1:Nat):Int):=if_neg (by omega)
 have e4:IntKind.wrap .i64 (((gy c s+1:Nat):Int)-1)=((gy c s+1-1:Nat):Int):=by rw[wrap_i64 (by omega) (by omega)];omega
 have hm:=aeh (H:=H) (z := .str []) (el:=9) (n:=gy c s+1) .i64 .i64 (by omega)
 have hC:Cs (al H (List.replicate (gy c s+1) (AV.str [])) 9 0) H.next (strs []++List.replicate (gy c s+1-([]:List ai).length) (AV.str [])) 9 0:=aZ H _ _ _
 obtain⟨dn,s',H1,i1,i2,i3,i4,i5⟩:=aqj hc (n:=gy c s+1) s.length s [] _ rfl (by omega) (by omega) (by simp;omega) hC
 obtain⟨H2,w1,w2,w3,w4⟩:=fP i4 (by decide) (o:=dn.length) (by rw[abj,gB,agw];omega) (v := .str s') rfl
 have gi:dn.length+1=gy c s+1:=by
  have:=congrArg List.length i2
  simp only[abj,aa1,acG] at this
  omega
 have e9:(strs dn++List.replicate (gy c s+1-dn.length) (AV.str [])).set dn.length (AV.str s')=strs (da c s):=by
  rw[akr _ _ (by rw[gB];omega),gB,aiG,show gy c s+1-dn.length=1 by omega]
  have:da c s=dn++[s']:=by rw[i2];rfl
  rw[this,FZ];rfl
 rw[e9] at w2
 have e5:IntKind.wrap .i64 ((dn.length:Int)+1)=((gy c s+1:Nat):Int):=by rw[wrap_i64 (by omega) (by omega)];omega
 have q3:ia 1 (.slice H.next 0 (gy c s+1) (gy c s+1) true 1) (.int .i64 (dn.length:Nat))=some (.ptr H.next dn.length):=by rw[Ai (by omega)];simp
 have Kh:Rw H2 1 (.slice H.next 0 (gy c s+1) (gy c s+1) true 1) (strs (da c s)) := .mk w2.ro (by rw[gB,hn,ahD]) (aaU _) (by rw[pq (Nat.succ_ne_zero _)];rfl)
 obtain⟨x,x1,x2,x3⟩:=ET (n:=gy c s+1) Kh (by rw[gB,hn,ahD]) (by decide) (a:=0) (b:=gy c s+1) (lo:=none) (hi:=some (.int .i64 (gy c s+1:Nat))) (by omega) (aaU _) (Bd.no 0) (Bd.yes _ _ _)
 rw[aiA,abK,aih,ahD,ag8 (by rw[gB];omega)] at x2
 refine⟨x,H2,ahr ?_,x2,?_,fun j hj => ?_⟩
 ·unfold Sj
  have Ex:=i1
  simp only[acG] at Ex
  rw[show (((0:Nat):Int))=0 from rfl] at Ex
  simp only[e0,akb hc,e1,e2,Kl,e3,hm,e4,Ex,q3,w1,e5,x1,ag,af,Int.reduceBEq,Int.reduceBNe,Int.reduceLT,Int.reduceLE,Int.reduceGT,Int.reduceGE,Int.reduceNeg]
 ·have:Out [H.next] (al H (List.replicate (gy c s+1) (AV.str [])) 9 0) H2:=i5.trans w3
  exact (aG H _ _ _).then this fun j hj=>by rw[No] at hj;exact .inr (by omega)
 ·have:=x3 j hj
  rw[nF (by rw[pq (Nat.succ_ne_zero _)];rfl)] at this
  rw[No] at this;omega
theorem U9 {c:Nat}(hc:c<256){s:ai}(hs:s.length<=1000000)(H:Hp) :
  ∃ x H',cK (.func (.func 88) [] []) [.str s,.str [c]] H=some (x,H')/\Rw H' 1 x (strs (da c s))/\Out [] H H'/\∀ j∈ah x,H.next<=j:=by
 obtain⟨x,H',h1,h2⟩:=amm hc hs H
 refine⟨x,H',ari ?_,h2⟩
 unfold adh
 simp only[h1,ag,af,Int.reduceBEq,Int.reduceBNe,Int.reduceLT,Int.reduceLE,Int.reduceGT,Int.reduceGE,Int.reduceNeg]
def ints (l:List Int):List AV:=l.map fun z => .int .i64 z
theorem lK (l:List Int):(ints l).length=l.length:=by simp[ints]
theorem ar4 (l:List Int):∀ v∈ints l,bq v=true:=by
 intro v hv
 obtain⟨b,_,rfl⟩:=adD.1 hv
 rfl
theorem Lc (a b:List Int):ints (a++b)=ints a++ints b:=by simp[ints]
theorem BB {l:List Int}{j:Nat}{z:Int}(h:l[j]? = some z):(ints l)[j]? = some (.int .i64 z):=by simp[ints,h]
theorem Io (o:Option Nat):decide ((0:Int)<=mr o)=o.isSome:=by
 cases o with
 | none=>rfl
 | some i=>exact decide_eq_true (by show (0:Int)<=(i:Int);omega)
theorem eE {i n:Nat}(h:i<n)(hn:n<=16777216):IntKind.wrap .i64 ((i:Int)+1)=((i+1:Nat):Int):=by rw[wrap_i64 (by omega) (by omega)];rfl
theorem aU {i n:Nat}(h:i<n):decide (((i:Nat):Int)<((n:Nat):Int))=true:=decide_eq_true (by omega)
theorem ez {n:Nat}:decide (((n:Nat):Int)<((n:Nat):Int))=false:=decide_eq_false (by omega)
theorem drop_nil {α:Type}{l:List α}{i:Nat}(hi:i<=l.length)(h:l.drop i=[]):i=l.length:=by
 have:=congrArg List.length h
 rw[ahT,acG] at this;omega
theorem abv {x:AV}{l:List ai}{s:ai}{H:Hp}(hx:Rw H 1 x (strs l))(hl:l.length<=16777216)(k:K.Fn 0):∀ (r:List ai) (i:Nat),i<=l.length->l.drop i=r->
  Ib JN GO cK k x (.str s) (.int .i64 (l.length:Nat)) (.int .i64 (i:Nat)) H=match r.findIdx? (fun a=>s==a) with | some j=>some (.int .i64 ((i+j:Nat):Int),H) | none=>k H
 | [],i,hi,h=>by
  obtain rfl:=drop_nil hi h
  rw[aed]
  simp only[PQ,ez,List.findIdx?_nil,ag,af,simprocAttr]
 | a::r,i,hi,h=>by
  obtain⟨h1,h2,h3⟩:=eF h
  obtain⟨q,q1,q2⟩:=hx.gw (nE h2) .i64
  have e:=eE h1 hl
  have ih:=abv (s:=s) hx hl k r (i+1) h1 h3
  rw[aed]
  simp only[PQ,aU h1,q1,q2,e,ih,I6,ai8,ag,af,simprocAttr]
  cases hb:(s==a) with
  | true=>simp
  | false=>
   cases hf:r.findIdx? (fun a=>s==a) with
   | none=>simp
   | some j=>simp;omega
theorem St {x:AV}{l:List ai}{H:Hp}(hx:Rw H 1 x (strs l))(hl:l.length<=16777216)(s:ai):cK (.func (.func 104) [] []) [x,.str s] H=some (.int .i64 (mr (l.findIdx? (fun a=>s==a))),H):=by
 refine alE ?_
 unfold ac2
 have h1:=hx.jn
 rw[gB] at h1
 have h2:=fun k=>abv (s:=s) hx hl k l 0 (ace _) abK
 rw[show (((0:Nat):Int))=0 from rfl] at h2
 simp only[h1,h2,ag,af,simprocAttr]
 cases l.findIdx? (fun a=>s==a)<;>rfl
theorem Va {x:AV}{l:List ai}{H:Hp}(hx:Rw H 1 x (strs l))(hl:l.length<=16777216)(s:ai):cK (.func (.func 94) [] []) [x,.str s] H=some (.bool (l.any (fun a=>s==a)),H):=by
 refine am9 ?_
 unfold ZU
 simp only[St hx hl,Io,List.findIdx?_isSome,ag,af,simprocAttr]
theorem Wj {x:AV}{l:List Int}{s:Int}{H:Hp}(hx:Rw H 1 x (ints l))(hl:l.length<=16777216)(k:K.Fn 0):∀ (r:List Int) (i:Nat),i<=l.length->l.drop i=r->
  JZ JN GO cK k x (.int .i64 s) (.int .i64 (l.length:Nat)) (.int .i64 (i:Nat)) H=match r.findIdx? (fun a=>s==a) with | some j=>some (.int .i64 ((i+j:Nat):Int),H) | none=>k H
 | [],i,hi,h=>by
  obtain rfl:=drop_nil hi h
  rw[W7]
  simp only[P9,ez,List.findIdx?_nil,ag,af,simprocAttr]
 | a::r,i,hi,h=>by
  obtain⟨h1,h2,h3⟩:=eF h
  obtain⟨q,q1,q2⟩:=hx.gw (BB h2) .i64
  have e:=eE h1 hl
  have ih:=Wj (s:=s) hx hl k r (i+1) h1 h3
  rw[W7]
  simp only[P9,aU h1,q1,q2,e,ih,I6,ai8,ag,af,simprocAttr]
  cases hb:(s==a) with
  | true=>simp
  | false=>
   cases hf:r.findIdx? (fun a=>s==a) with
   | none=>simp
   | some j=>simp;omega
theorem av4 {x:AV}{l:List Int}{H:Hp}(hx:Rw H 1 x (ints l))(hl:l.length<=16777216)(s:Int):cK (.func (.func 174) [] []) [x,.int .i64 s] H=some (.int .i64 (mr (l.findIdx? (fun a=>s==a))),H):=by
 refine am6 ?_
 unfold aaV
 have h1:=hx.jn
 rw[lK] at h1
 have h2:=fun k=>Wj (s:=s) hx hl k l 0 (ace _) abK
 rw[show (((0:Nat):Int))=0 from rfl] at h2
 simp only[h1,h2,ag,af,simprocAttr]
 cases l.findIdx? (fun a=>s==a)<;>rfl
theorem aiS {x:AV}{l:List Int}{H:Hp}(hx:Rw H 1 x (ints l))(hl:l.length<=16777216)(s:Int):cK (.func (.func 154) [] []) [x,.int .i64 s] H=some (.bool (l.any (fun a=>s==a)),H):=by
 refine ajp ?_
 unfold afn
 simp only[av4 hx hl,Io,List.findIdx?_isSome,ag,af,simprocAttr]
theorem ae4 {x fv:AV}{l:List Int}{p:Int->Bool}{H0:Hp}(hx:Rw H0 1 x (ints l))(hl:l.length<=16777216)(hp:∀ H,Out [] H0 H->∀ a∈l,∃ H',cK fv [.int .i64 a] H=some (.bool (p a),H')/\Out [] H H'):∀ (r:List Int) (i:Nat) (H:Hp),Out [] H0 H->i<=l.length->l.drop i=r->
  ∃ H',Out [] H H'/\∀ k:K.Fn 0,HA JN GO cK k x fv (.int .i64 (l.length:Nat)) (.int .i64 (i:Nat)) H=match r.findIdx? p with | some j=>some (.int .i64 ((i+j:Nat):Int),H') | none=>k H'
 | [],i,H,ho,hi,h=>by
  obtain rfl:=drop_nil hi h
  refine⟨H,Out.refl _ _,fun k => ?_⟩
  rw[Pq]
  simp only[LS,ez,List.findIdx?_nil,ag,af,simprocAttr]
 | a::r,i,H,ho,hi,h=>by
  obtain⟨h1,h2,h3⟩:=eF h
  obtain⟨q,q1,q2⟩:=(hx.ar ho).gw (BB h2) .i64
  have e:=eE h1 hl
  obtain⟨H1,p1,p2⟩:=hp H ho a (aaO h2)
  cases hb:p a with
  | true=>
   refine⟨H1,p2,fun k => ?_⟩
   rw[Pq]
   simp only[LS,aU h1,q1,q2,p1,hb,ai8,if_true,afF,ag,af,simprocAttr]
  | false=>
   obtain⟨H',i1,i2⟩:=ae4 hx hl hp r (i+1) H1 (ho.trans p2) h1 h3
   refine⟨H',p2.trans i1,fun k => ?_⟩
   rw[Pq]
   simp only[LS,aU h1,q1,q2,p1,hb,e,i2,ai8,ag,af,simprocAttr]
   cases hf:r.findIdx? p with
   | none=>simp
   | some j=>simp;omega
theorem aoR {x fv:AV}{l:List Int}{p:Int->Bool}{H0:Hp}(hx:Rw H0 1 x (ints l))(hl:l.length<=16777216)(hp:∀ H,Out [] H0 H->∀ a∈l,∃ H',cK fv [.int .i64 a] H=some (.bool (p a),H')/\Out [] H H') :
  ∃ H',cK (.func (.func 143) [] []) [x,fv] H0=some (.bool (l.any p),H')/\Out [] H0 H':=by
 obtain⟨H',h1,h2⟩:=ae4 hx hl hp l 0 H0 (Out.refl _ _) (ace _) abK
 rw[show (((0:Nat):Int))=0 from rfl] at h2
 have hn:=hx.jn
 rw[lK] at hn
 have:cK (.func (.func 163) [] []) [x,fv] H0=some (.int .i64 (mr (l.findIdx? p)),H'):=by
  refine ak1 ?_
  unfold X3
  simp only[hn,h2,ag,af,simprocAttr]
  cases l.findIdx? p<;>simp[mr]
 refine⟨H',agm ?_,h1⟩
 unfold WT
 simp only[this,Io,List.findIdx?_isSome,ag,af,simprocAttr]
theorem aaG {x fv:AV}{L:List (List AV)}{p:List AV->Bool}{H0:Hp}(hx:RL H0 6 x L)(hl:L.length<=16777216)(hp:∀ H,Out [] H0 H->∀ a∈L,∃ H',cK fv [.agg a] H=some (.bool (p a),H')/\Out [] H H'):∀ (r:List (List AV)) (i:Nat) (H:Hp),Out [] H0 H->i<=L.length->L.drop i=r->
  ∃ H',Out [] H H'/\∀ k:K.Fn 0,I9 JN GO cK k x fv (.int .i64 (L.length:Nat)) (.int .i64 (i:Nat)) H=match r.findIdx? p with | some j=>some (.int .i64 ((i+j:Nat):Int),H') | none=>k H'
 | [],i,H,ho,hi,h=>by
  obtain rfl:=drop_nil hi h
  refine⟨H,Out.refl _ _,fun k => ?_⟩
  rw[Vo]
  simp only[MQ,ez,List.findIdx?_nil,ag,af,simprocAttr]
 | a::r,i,H,ho,hi,h=>by
  obtain⟨h1,h2,h3⟩:=eF h
  obtain⟨b,o,q1,_,_,q2,_⟩:=(hx.ar ho).at (by decide) h2
  have e:=eE h1 hl
  obtain⟨H1,p1,p2⟩:=hp H ho a (aaO h2)
  cases hb:p a with
  | true=>
   refine⟨H1,p2,fun k => ?_⟩
   rw[Vo]
   simp only[MQ,aU h1,q1,M3,q2,ae6,p1,hb,ai8,if_true,afF,ag,af,simprocAttr]
  | false=>
   obtain⟨H',i1,i2⟩:=aaG hx hl hp r (i+1) H1 (ho.trans p2) h1 h3
   refine⟨H',p2.trans i1,fun k => ?_⟩
   rw[Vo]
   simp only[MQ,aU h1,q1,M3,q2,ae6,p1,hb,e,i2,ai8,ag,af,simprocAttr]
   cases hf:r.findIdx? p with
   | none=>simp
   | some j=>simp;omega
theorem adI {x fv:AV}{L:List (List AV)}{p:List AV->Bool}{H0:Hp}(hx:RL H0 6 x L)(hl:L.length<=16777216)(hp:∀ H,Out [] H0 H->∀ a∈L,∃ H',cK fv [.agg a] H=some (.bool (p a),H')/\Out [] H H') :
  ∃ H',cK (.func (.func 95) [] []) [x,fv] H0=some (.bool (L.any p),H')/\Out [] H0 H':=by
 obtain⟨H',h1,h2⟩:=aaG hx hl hp L 0 H0 (Out.refl _ _) (ace _) abK
 rw[show (((0:Nat):Int))=0 from rfl] at h2
 have hn:=hx.len (by decide)
 have:cK (.func (.func 135) [] []) [x,fv] H0=some (.int .i64 (mr (L.findIdx? p)),H'):=by
  refine akh ?_
  unfold abn
  simp only[hn,h2,ag,af,simprocAttr]
  cases L.findIdx? p<;>simp[mr]
 refine⟨H',aum ?_,h1⟩
 unfold afy
 simp only[this,Io,List.findIdx?_isSome,ag,af,simprocAttr]
theorem alC {H:Hp}{x:AV}{l:List AV}(hx:Rw H 1 x l)(ho:∀ v∈l,bq v=true)(hl:l.length<=16777216) :
  ∃ y H',cK (.func (.func 137) [] []) [x] H=some (y,H')/\Ow H' 3 1 y l/\Out [] H H'/\(∀ j∈ah y,H.next<=j)/\(x = .ae->y = .ae):=by
 have hu:P.underlying 97=some (.slice 3):=Tryz.underlying97
 by_cases h0:x = .ae
 ·subst h0
  have:l=[]:=by cases hx;rfl
  subst this
  refine⟨.ae,H,adl ?_,.nil,Out.refl _ _,fun j hj=>by simp[ah] at hj,fun _=>rfl⟩
  unfold Qt
  simp only[LK,og,M1 hu,ag,af,simprocAttr]
 ·obtain⟨y,H',h1,h2,h3,h4⟩:=Ly (el:=3) (fM:=3) (z:=[(.int .i64 0)]) hx ho (by decide) hl
  refine⟨y,H',adl ?_,h2,h3,h4,fun q=>absurd q h0⟩
  have hq:∃ i o n c ex aQ,x = .slice i o n c ex aQ:=by
   cases hx with
   | nil=>exact absurd rfl h0
   | emp=>exact⟨_,_,_,_,_,_,rfl⟩
   | mk _ _ _ _=>exact⟨_,_,_,_,_,_,rfl⟩
  obtain⟨i,o,n,c,ex,aQ,rfl⟩:=hq
  unfold Qt
  have dJ:aC H [] 3 0=some (H.next,al H [] 3 0):=gJ (by simp)
  simp only[Og,og,NT hu,rZ,dJ,h1,ag,af,simprocAttr]
theorem acE {H:Hp}{x:AV}{l:List AV}(hx:Rw H 1 x l)(ho:∀ v∈l,bq v=true)(hl:l.length<=16777216) :
  ∃ y H',cK (.func (.func 30) [] []) [x] H=some (y,H')/\Ow H' 9 1 y l/\Out [] H H'/\(∀ j∈ah y,H.next<=j)/\(x = .ae->y = .ae):=by
 have hu:P.underlying 46=some (.slice 9):=Tryz.underlying46
 by_cases h0:x = .ae
 ·subst h0
  have:l=[]:=by cases hx;rfl
  subst this
  refine⟨.ae,H,XX ?_,.nil,Out.refl _ _,fun j hj=>by simp[ah] at hj,fun _=>rfl⟩
  unfold QP
  simp only[LK,og,M1 hu,ag,af,simprocAttr]
 ·obtain⟨y,H',h1,h2,h3,h4⟩:=Ly (el:=9) (fM:=9) (z:=[(.str [])]) hx ho (by decide) hl
  refine⟨y,H',XX ?_,h2,h3,h4,fun q=>absurd q h0⟩
  have hq:∃ i o n c ex aQ,x = .slice i o n c ex aQ:=by
   cases hx with
   | nil=>exact absurd rfl h0
   | emp=>exact⟨_,_,_,_,_,_,rfl⟩
   | mk _ _ _ _=>exact⟨_,_,_,_,_,_,rfl⟩
  obtain⟨i,o,n,c,ex,aQ,rfl⟩:=hq
  unfold QP
  have dJ:aC H [] 9 0=some (H.next,al H [] 9 0):=gJ (by simp)
  simp only[Og,og,NT hu,rZ,dJ,h1,ag,af,simprocAttr]
theorem avu {H:Hp}{x:AV}{l:List AV}(hx:Rw H 6 x l)(ho:∀ v∈l,bq v=true)(hl:l.length<=16777216) :
  ∃ y H',cK (.func (.func 136) [] []) [x] H=some (y,H')/\Ow H' 99 6 y l/\Out [] H H'/\(∀ j∈ah y,H.next<=j)/\(x = .ae->y = .ae):=by
 have hu:P.underlying 70=some (.slice 99):=Tryz.underlying70
 by_cases h0:x = .ae
 ·subst h0
  have:l=[]:=by cases hx;rfl
  subst this
  refine⟨.ae,H,ZV ?_,.nil,Out.refl _ _,fun j hj=>by simp[ah] at hj,fun _=>rfl⟩
  unfold Uo
  simp only[LK,og,M1 hu,ag,af,simprocAttr]
 ·obtain⟨y,H',h1,h2,h3,h4⟩:=Ly (el:=99) (fM:=99) (z:=[(.str []),.ae,(.int .i64 0),(.int .i64 0),(.int .i64 0),(.str [])]) hx ho (by decide) hl
  refine⟨y,H',ZV ?_,h2,h3,h4,fun q=>absurd q h0⟩
  have hq:∃ i o n c ex aQ,x = .slice i o n c ex aQ:=by
   cases hx with
   | nil=>exact absurd rfl h0
   | emp=>exact⟨_,_,_,_,_,_,rfl⟩
   | mk _ _ _ _=>exact⟨_,_,_,_,_,_,rfl⟩
  obtain⟨i,o,n,c,ex,aQ,rfl⟩:=hq
  unfold Uo
  have dJ:aC H [] 99 0=some (H.next,al H [] 99 0):=gJ (by simp)
  simp only[Og,og,NT hu,rZ,dJ,h1,ag,af,simprocAttr]
theorem alT {H:Hp}{x:AV}{l:List AV}(hx:Rw H 4 x l)(ho:∀ v∈l,bq v=true)(hl:l.length<=16777216) :
  ∃ y H',cK (.func (.func 138) [] []) [x] H=some (y,H')/\Ow H' 132 4 y l/\Out [] H H'/\(∀ j∈ah y,H.next<=j)/\(x = .ae->y = .ae):=by
 have hu:P.underlying 73=some (.slice 132):=Tryz.underlying73
 by_cases h0:x = .ae
 ·subst h0
  have:l=[]:=by cases hx;rfl
  subst this
  refine⟨.ae,H,XN ?_,.nil,Out.refl _ _,fun j hj=>by simp[ah] at hj,fun _=>rfl⟩
  unfold Sx
  simp only[LK,og,M1 hu,ag,af,simprocAttr]
 ·obtain⟨y,H',h1,h2,h3,h4⟩:=Ly (el:=132) (fM:=132) (z:=[(.int .i64 0),(.int .i64 0),(.int .i64 0),(.str [])]) hx ho (by decide) hl
  refine⟨y,H',XN ?_,h2,h3,h4,fun q=>absurd q h0⟩
  have hq:∃ i o n c ex aQ,x = .slice i o n c ex aQ:=by
   cases hx with
   | nil=>exact absurd rfl h0
   | emp=>exact⟨_,_,_,_,_,_,rfl⟩
   | mk _ _ _ _=>exact⟨_,_,_,_,_,_,rfl⟩
  obtain⟨i,o,n,c,ex,aQ,rfl⟩:=hq
  unfold Sx
  have dJ:aC H [] 132 0=some (H.next,al H [] 132 0):=gJ (by simp)
  simp only[Og,og,NT hu,rZ,dJ,h1,ag,af,simprocAttr]
theorem ZH {x y:AV}{l m:List ai}{H:Hp}(hx:Rw H 1 x (strs l))(hy:Rw H 1 y (strs m))(hl:l.length<=16777216)(eO:l.length=m.length)(k:K.Fn 0):∀ (r:List ai) (i:Nat),i<=l.length->l.drop i=r->
  HN JN GO cK k x y (.int .i64 (l.length:Nat)) (.int .i64 (i:Nat)) H=if r=m.drop i then k H else some (.bool false,H)
 | [],i,hi,h=>by
  obtain rfl:=drop_nil hi h
  rw[XS]
  have:m.drop l.length=[]:=aiv (by omega)
  simp only[Q2,ez,this,if_true,ag,af,simprocAttr]
 | a::r,i,hi,h=>by
  obtain⟨h1,h2,h3⟩:=eF h
  obtain⟨q,q1,q2⟩:=hx.gw (nE h2) .i64
  obtain⟨b,hm⟩:∃ b,m[i]? = some b:=⟨_,aaC (by omega)⟩
  obtain⟨p,p1,p2⟩:=hy.gw (nE hm) .i64
  have e:=eE h1 hl
  have ih:=ZH hx hy hl eO k r (i+1) h1 h3
  have hd:m.drop i=b::m.drop (i+1):=by
   obtain⟨w1,w2⟩:=aaw.1 hm
   rw[aik w1,w2]
  rw[XS,hd]
  generalize m.drop (i+1)=t at ih
  simp only[Q2,aU h1,q1,q2,p1,p2,e,ih,I6,ag,af,simprocAttr]
  by_cases hb:a=b
  ·subst hb;simp
  ·simp[hb]
theorem ajl {x y:AV}{l m:List ai}{H:Hp}(hx:Rw H 1 x (strs l))(hy:Rw H 1 y (strs m))(hl:l.length<=16777216):cK (.func (.func 74) [] []) [x,y] H=some (.bool (decide (l=m)),H):=by
 refine alD ?_
 unfold aby
 have h1:=hx.jn
 rw[gB] at h1
 have h2:=hy.jn
 rw[gB] at h2
 by_cases eO:l.length=m.length
 ·have h3:=fun k=>ZH hx hy hl eO k l 0 (ace _) abK
  rw[show (((0:Nat):Int))=0 from rfl] at h3
  have aH:(((l.length:Nat):Int) != ((m.length:Nat):Int))=false:=by simp[eO]
  simp only[h1,h2,aH,h3,abK,ag,af,simprocAttr]
  by_cases hb:l=m<;>simp[hb]
 ·have aH:(((l.length:Nat):Int) != ((m.length:Nat):Int))=true:=by simp;omega
  have hb:l≠m:=fun e=>eO (by rw[e])
  simp only[h1,h2,aH,hb,ag,af,simprocAttr]
theorem acS {x y:AV}{l m:List Int}{H:Hp}(hx:Rw H 1 x (ints l))(hy:Rw H 1 y (ints m))(hl:l.length<=16777216)(eO:l.length=m.length)(k:K.Fn 0):∀ (r:List Int) (i:Nat),i<=l.length->l.drop i=r->
  Gw JN GO cK k x y (.int .i64 (l.length:Nat)) (.int .i64 (i:Nat)) H=if r=m.drop i then k H else some (.bool false,H)
 | [],i,hi,h=>by
  obtain rfl:=drop_nil hi h
  rw[ae9]
  have:m.drop l.length=[]:=aiv (by omega)
  simp only[Qz,ez,this,if_true,ag,af,simprocAttr]
 | a::r,i,hi,h=>by
  obtain⟨h1,h2,h3⟩:=eF h
  obtain⟨q,q1,q2⟩:=hx.gw (BB h2) .i64
  obtain⟨b,hm⟩:∃ b,m[i]? = some b:=⟨_,aaC (by omega)⟩
  obtain⟨p,p1,p2⟩:=hy.gw (BB hm) .i64
  have e:=eE h1 hl
  have ih:=acS hx hy hl eO k r (i+1) h1 h3
  have hd:m.drop i=b::m.drop (i+1):=by
   obtain⟨w1,w2⟩:=aaw.1 hm
   rw[aik w1,w2]
  rw[ae9,hd]
  generalize m.drop (i+1)=t at ih
  simp only[Qz,aU h1,q1,q2,p1,p2,e,ih,I6,ag,af,simprocAttr]
  by_cases hb:a=b
  ·subst hb;simp
  ·simp[hb]
theorem aqJ {x y:AV}{l m:List Int}{H:Hp}(hx:Rw H 1 x (ints l))(hy:Rw H 1 y (ints m))(hl:l.length<=16777216):cK (.func (.func 72) [] []) [x,y] H=some (.bool (decide (l=m)),H):=by
 refine ag5 ?_
 unfold VI
 have h1:=hx.jn
 rw[lK] at h1
 have h2:=hy.jn
 rw[lK] at h2
 by_cases eO:l.length=m.length
 ·have h3:=fun k=>acS hx hy hl eO k l 0 (ace _) abK
  rw[show (((0:Nat):Int))=0 from rfl] at h3
  have aH:(((l.length:Nat):Int) != ((m.length:Nat):Int))=false:=by simp[eO]
  simp only[h1,h2,aH,h3,abK,ag,af,simprocAttr]
  by_cases hb:l=m<;>simp[hb]
 ·have aH:(((l.length:Nat):Int) != ((m.length:Nat):Int))=true:=by simp;omega
  have hb:l≠m:=fun e=>eO (by rw[e])
  simp only[h1,h2,aH,hb,ag,af,simprocAttr]
open kI
structure Gl (H:Hp):Prop where
 pow:∀ i:Nat,i<20->cellAt H 0 i=some (.int .u64 ((10 ^ i:Nat):Int))
 err:NQ H
 nx:11<=H.next
theorem Sc {H:Hp}{L:List (Nat × List AV)}(h:AP H L){g:Nat}{l:List AV}(hm:(g,l)∈L){k:Nat}{v:AV}(hk:l[k]? = some v):cellAt H g k=some v:=by
 obtain⟨el,h⟩:=h
 have h1:=h g l hm
 have kO:=(aaw.1 hk).1
 unfold cellAt
 rw[h1]
 have hb:(Nat.ble 0 k&&Nat.blt k l.length)=true:=by
  rw[aaT,afV,ae2];omega
 simp only[hb,cond_true]
 rw[yK,if_pos (by omega)]
 exact hk
theorem at3:∀ i:Fin 20,(Nj.map (AV.int .u64))[i.val]? = some (.int .u64 ((10 ^ i.val:Nat):Int)):=by
 intro i
 match i with
 | ⟨0,_⟩=>rfl
 | ⟨1,_⟩=>rfl
 | ⟨2,_⟩=>rfl
 | ⟨3,_⟩=>rfl
 | ⟨4,_⟩=>rfl
 | ⟨5,_⟩=>rfl
 | ⟨6,_⟩=>rfl
 | ⟨7,_⟩=>rfl
 | ⟨8,_⟩=>rfl
 | ⟨9,_⟩=>rfl
 | ⟨10,_⟩=>rfl
 | ⟨11,_⟩=>rfl
 | ⟨12,_⟩=>rfl
 | ⟨13,_⟩=>rfl
 | ⟨14,_⟩=>rfl
 | ⟨15,_⟩=>rfl
 | ⟨16,_⟩=>rfl
 | ⟨17,_⟩=>rfl
 | ⟨18,_⟩=>rfl
 | ⟨19,_⟩=>rfl
 | ⟨n+20,h⟩=>omega
theorem Gl.of {H:Hp}(h:AP H ot)(hn:11<=H.next):Gl H where
 pow:=fun i hi=>Sc h (l:=Nj.map (AV.int .u64)) (by unfold ot;simp) (at3 ⟨i,hi⟩)
 err:=⟨⟨_,_,Sc h (g:=6) (k:=0) (by unfold ot;simp;rfl) rfl⟩,⟨_,_,Sc h (g:=7) (k:=0) (by unfold ot;simp;rfl) rfl⟩⟩
 nx:=hn
theorem Gl.out {H H':Hp}{S:List Nat}(h:Gl H)(k:Out S H H')(hs:∀ j∈S,11<=j):Gl H' where
 pow:=fun i hi=>by
  rw[k.cellAt (by have:=h.nx;omega) (fun q=>by have:=hs _ q;omega)]
  exact h.pow i hi
 err:=by
  have hn:=h.nx
  refine⟨?_,?_⟩
  ·obtain⟨t,p,q⟩:=h.err.syn
   exact⟨t,p,by rw[k.cellAt (by omega) (fun q=>by have:=hs _ q;omega)];exact q⟩
  ·obtain⟨t,p,q⟩:=h.err.rng
   exact⟨t,p,by rw[k.cellAt (by omega) (fun q=>by have:=hs _ q;omega)];exact q⟩
 nx:=ahS h.nx k.1
theorem Gl.ar {H H':Hp}(h:Gl H)(k:Out [] H H'):Gl H':=h.out k fun j hj=>by cases hj
theorem atu (s c:List Nat)(H:Hp)(hs:s.length<=4294967296)(hc:Fc c=true)(sM:c.length<=4294967280):cK (.func (.func 91) [] []) [.str s,.str c] H=some (.str (Bm s c),H):=by
 refine z6 (p:=GW) (by kernel_rfl) ?_
 have h2:F.HX (Fc c) (F.HX (Nat.ble (F.Ge s) 4294967296) (Nat.ble (F.Ge c) 4294967280))=true:=by
  rw[F.Nu,F.Nu,F.Lu,F.Lu,hc]
  simp only[ac5,aaT,afV]
  exact⟨hs,sM⟩
 show K8 H s c=_
 unfold K8
 rw[h2]
def dec (n:Int):ai:=(Lib.itoa n).map (·.toNat)
theorem agA:∀ p:Fin 10,(([48,49,50,51,52,53,54,55,56,57,97,98,99,100,101,102,103,104,105,106,107,108,109,110,111,112,113,114,115,116,117,118,119,120,121,122]:List Nat).drop p.val).take 1=[48+p.val]:=by decide +kernel
abbrev sm:List Nat:=[48,48,48,49,48,50,48,51,48,52,48,53,48,54,48,55,48,56,48,57,49,48,49,49,49,50,49,51,49,52,49,53,49,54,49,55,49,56,49,57,50,48,50,49,50,50,50,51,50,52,50,53,50,54,50,55,50,56,50,57,51,48,51,49,51,50,51,51,51,52,51,53,51,54,51,55,51,56,51,57,52,48,52,49,52,50,52,51,52,52,52,53,52,54,52,55,52,56,52,57,53,48,53,49,53,50,53,51,53,52,53,53,53,54,53,55,53,56,53,57,54,48,54,49,54,50,54,51,54,52,54,53,54,54,54,55,54,56,54,57,55,48,55,49,55,50,55,51,55,52,55,53,55,54,55,55,55,56,55,57,56,48,56,49,56,50,56,51,56,52,56,53,56,54,56,55,56,56,56,57,57,48,57,49,57,50,57,51,57,52,57,53,57,54,57,55,57,56,57,57]
theorem asZ:∀ p:Fin 100,(sm.drop (p.val*2)).take 2=[48+p.val / 10,48+p.val % 10]:=by decide +kernel
theorem Uv {n:Nat}(h:n<256):(UInt8.ofNat n).toNat=n:=by rw[UInt8.toNat_ofNat',akL h]
theorem ahN {n:Nat}(h:n<10):dec (n:Int)=[48+n]:=by
 unfold dec Lib.itoa
 rw[if_neg (by omega),acB,Lib.decDigits_one h]
 simp only[ac4,akP]
 rw[Uv (by omega)]
theorem awm {n:Nat}(h1:¬ n<10)(h2:n<100):dec (n:Int)=[48+n / 10,48+n % 10]:=by
 unfold dec Lib.itoa
 rw[if_neg (by omega),acB,Lib.decDigits_two h1 h2]
 simp only[ac4,akP]
 rw[Uv (by omega),Uv (by omega)]
theorem ajV {n:Nat}(h:n<100)(H:Hp):cK (.func (.func 164) [] []) [.int .i64 n] H=some (.str (dec n),H):=by
 refine at1 ?_
 unfold Qu
 by_cases h1:n<10
 ·have d:decide ((n:Int)<10)=true:=decide_eq_true (by omega)
  have e:IntKind.wrap .i64 ((n:Int)+1)=((n+1:Nat):Int):=by rw[wrap_i64 (by omega) (by omega)];rfl
  have q:=aci (s:=[48,49,50,51,52,53,54,55,56,57,97,98,99,100,101,102,103,104,105,106,107,108,109,110,111,112,113,114,115,116,117,118,119,120,121,122]) (a:=n) (b:=n+1) .i64 .i64 (by omega) (by simp only[aa1,acG];omega)
  rw[afG,agA ⟨n,h1⟩] at q
  simp only[d,e,q,ahN h1,ag,af,simprocAttr]
 ·have d:decide ((n:Int)<10)=false:=decide_eq_false (by omega)
  have e1:IntKind.wrap .i64 ((n:Int)*2)=((n*2:Nat):Int):=by rw[wrap_i64 (by omega) (by omega)];omega
  have e2:IntKind.wrap .i64 (((n*2:Nat):Int)+2)=((n*2+2:Nat):Int):=by rw[wrap_i64 (by omega) (by omega)];rfl
  have q:=aci (s:=sm) (a:=n*2) (b:=n*2+2) .i64 .i64 (by omega) (by simp only[aa1,acG];omega)
  rw[afG,asZ ⟨n,h⟩] at q
  simp only[d,e1,e2,q,awm h1 h,ag,af,simprocAttr]
theorem anu {u:Nat}(h1:1<=u)(h2:u<18446744073709551616){H:Hp}(hg:Gl H):cK (.func (.func 165) [] []) [.int .u64 u] H=some (.int .i64 (Lib.nDigits u:Nat),H):=by
 refine aje ?_
 unfold aa5
 have hl:cK (.func (.func 182) [] []) [.int .u64 u] H=some (.int .i64 (Lib.bitLen u:Nat),H):=by
  refine z6 (p:=IJ) (by kernel_rfl) ?_
  unfold IJ
  simp only
  rw[if_pos ⟨by omega,by omega⟩,acB]
 obtain⟨n1,n2⟩:=Lib.numDigits_eq u h1 h2
 have hb:Lib.bitLen u<=100:=by
  have:Lib.l10 (Lib.bitLen u)<=19:=n2
  unfold Lib.l10 at this
  omega
 have hp:cK (.func (.func 181) [] []) [.int .i64 (Lib.bitLen u:Nat)] H=some (.int .i64 (Lib.l10 (Lib.bitLen u):Nat),H):=by
  refine aoX ?_
  unfold aaq
  have e:IntKind.wrap .i64 ((Lib.bitLen u:Int)*78913)=((Lib.bitLen u*78913:Nat):Int):=by rw[wrap_i64 (by omega) (by omega)];omega
  have e2:B6 (.int .i64 ((Lib.bitLen u*78913:Nat):Int)) (.int .u64 18)=some (.int .i64 ((Lib.l10 (Lib.bitLen u):Nat):Int)):=by
   have:=aqi (k := .i64) (j := .u64) (a:=Lib.bitLen u*78913) (b:=18)
   rw[show ((18:Nat):Int)=18 from rfl] at this
   rw[this]
   rfl
  simp only[e,e2,ag,af,simprocAttr]
 generalize hq:Lib.l10 (Lib.bitLen u)=q at *
 have oK:pj 20 1 (.ptr 0 0) (.int .i64 (q:Nat))=some (.ptr 0 q):=by
  unfold pj
  simp only
  rw[if_pos (by omega),acB,ahD,aeJ]
 have hc:=hg.pow q (by omega)
 by_cases hle:10 ^ q<=u
 ·rw[if_pos hle] at n1
  have d:decide (((10 ^ q:Nat):Int)<=(u:Int))=true:=decide_eq_true (by exact Int.ofNat_le.2 hle)
  have jQ:cK (.func (.func 183) [] []) [.bool true] H=some (.int .i64 1,H):=by
   refine adx ?_
   unfold US
   simp only[ag,af,simprocAttr]
  have e:IntKind.wrap .i64 ((q:Int)+1)=((Lib.nDigits u:Nat):Int):=by rw[wrap_i64 (by omega) (by omega)];omega
  simp only[hl,hp,oK,Oc,hc,On,d,jQ,e,ag,af,simprocAttr]
 ·rw[if_neg hle] at n1
  have d:decide (((10 ^ q:Nat):Int)<=(u:Int))=false:=decide_eq_false (by intro x;exact hle (Int.ofNat_le.1 x))
  have jQ:cK (.func (.func 183) [] []) [.bool false] H=some (.int .i64 0,H):=by
   refine adx ?_
   unfold US
   simp only[ag,af,simprocAttr]
  have e:IntKind.wrap .i64 ((q:Int)+0)=((Lib.nDigits u:Nat):Int):=by rw[wrap_i64 (by omega) (by omega)];omega
  simp only[hl,hp,oK,Oc,hc,On,d,jQ,e,ag,af,simprocAttr]
theorem aiZ {H:Hp}{i off n u cap:Nat}{ex:Bool}{l:List AV}{el fl:Nat}(h:Cs H i l el fl)(hf:fl<=1)(mG:0<n)(ho:off+n<=l.length)(hn:n<=100)(hu:u<18446744073709551616)(Qb:u<10 ^ n)(hb:∀ v∈l,∃ b:Nat,b<256/\v = .int .u8 b) :
  ∃ H',cK (.func (.func 166) [] []) [.slice i off n cap ex 1,.int .u64 u] H=some (.tuple [],H')/\Cs H' i (js l off (oT u n)) el fl/\Out [i] H H':=by
 obtain⟨hi,c,hc,hg⟩:=h
 have gi:(oT u n).length=n:=by simp[oT]
 have yV:=Cs.aq ⟨hi,c,hc,hg⟩ n off ho
 refine⟨{ H with h:=H.h.df i (.cells (c.cJ off (oT u n)) 0 l.length el fl) },z6 (p:=Kj) (by kernel_rfl) ?_,⟨hi,c.cJ off (oT u n),?_,?_⟩,⟨aaU _,fun j hj IU => ?_⟩⟩
 ·unfold Kj
  simp only
  rw[if_pos ⟨trivial,mG,by omega,by omega,by omega,by rw[acB];exact Qb⟩,hc,acF,acB]
  unfold RJ
  simp only
  rw[if_pos ⟨by omega,ho,hf,_,yV,fun v hv=>hb v (List.mem_of_mem_drop (List.mem_of_mem_take hv))⟩]
 ·show (H.h.df i _).get i=_
  rw[Tr.df,Tr.fH,if_pos rfl,Jn]
 ·intro k v hk
  rw[Ch _ _ _ _ (by rw[gi];exact ho)] at hk
  rw[Tr.wZ]
  split
  ·rename_i lG
   rw[if_pos lG] at hk
   exact hk
  ·rename_i lG
   rw[if_neg lG] at hk
   exact hg k v hk
 ·show (H.h.df i _).get j=_
  rw[Tr.df,Tr.fH,if_neg (by simpa using IU)]
theorem abt (u:Nat):oT u (Lib.nDigits u)=bs ((Lib.decDigits u).map (·.toNat)):=by
 unfold oT bs
 rw[Lib.decDigits_eq,List.map_map,List.map_map]
 rfl
theorem QL {H:Hp}{i a b:Nat}{l:List AV}{el fl:Nat}(h:Cs H i l el fl)(hl:l.length=24)(xv:a<=b)(hb:b<=24){lo:Option AV}(ij:Bd lo a 0):su P 238 (.ptr i 0) lo (some (.int .i64 b)) none H=some (.slice i a (b-a) (24-a) true 1):=by
 have hu:P.underlying 238=some (.array 24 5):=Tryz.underlying238
 have hs:sz P 5=some 1:=by kernel_rfl
 have hc:=h.cellAt (o:=23) (v:=l[23]'(by omega)) (aaC (by omega))
 unfold su
 simp only[hu,hs,acy,acF,Bo xv hb (aaU _) ij (Bd.yes .i64 b 24),ahD,aeJ]
 have h1:(decide (0<24)&&(cellAt H i (0+24-1)).isSome)=true:=by
  rw[show 0+24-1=23 by rfl,hc];rfl
 simp[hc]
theorem Yc {n:Int}(h:n<0):dec n=45::(Lib.decDigits n.natAbs).map (·.toNat):=by
 unfold dec Lib.itoa
 rw[if_pos h];rfl
theorem adk {n:Int}(h:¬ n<0):dec n=(Lib.decDigits n.toNat).map (·.toNat):=by
 unfold dec Lib.itoa
 rw[if_neg h]
theorem av8 {u:Nat}(h:u<18446744073709551616)(h1:1<=u):Lib.nDigits u<=20:=by
 obtain⟨n1,n2⟩:=Lib.numDigits_eq u h1 h
 split at n1<;>omega
theorem afK (u:Nat):∀ b∈(Lib.decDigits u).map (·.toNat),b<256:=by
 intro b hb
 obtain⟨c,_,rfl⟩:=adD.1 hb
 exact c.toNat_lt
abbrev z24:List AV:=[(.int .u8 0),(.int .u8 0),(.int .u8 0),(.int .u8 0),(.int .u8 0),(.int .u8 0),(.int .u8 0),(.int .u8 0),(.int .u8 0),(.int .u8 0),(.int .u8 0),(.int .u8 0),(.int .u8 0),(.int .u8 0),(.int .u8 0),(.int .u8 0),(.int .u8 0),(.int .u8 0),(.int .u8 0),(.int .u8 0),(.int .u8 0),(.int .u8 0),(.int .u8 0),(.int .u8 0)]
theorem as1 {n:Int}(h0 : -9223372036854775808<=n)(h1:n<=9223372036854775807){H:Hp}(hg:Gl H):∃ H',cK (.func (.func 146) [] []) [.int .i64 n,.int .i64 10] H=some (.str (dec n),H')/\Out [] H H':=by
 by_cases hs:0<=n/\n<100
 ·obtain⟨m,rfl⟩:∃ m:Nat,n=m:=⟨n.toNat,by omega⟩
  refine⟨H,PE ?_,Out.refl _ _⟩
  unfold Kp
  have d1:decide ((0:Int)<=(m:Int))=true:=decide_eq_true (by omega)
  have d2:decide ((m:Int)<100)=true:=decide_eq_true hs.2
  simp only[d1,d2,ajV (show m<100 by omega),ag,af,simprocAttr]
 ·obtain⟨u,xN,vm,hu3⟩:∃ u:Nat,1<=u/\u<18446744073709551616/\u=n.natAbs:=⟨n.natAbs,by omega,by omega,rfl⟩
  have hd:=av8 vm xN
  have Yo:=Lib.nDigits_pos u
  have Qb:=Lib.lt_pow_nDigits u
  have ha:aC H z24 238 0=some (H.next,al H z24 238 0):=gJ (by simp)
  have fK:=aZ H z24 238 0
  have AK:=hg.ar (aG H z24 238 0)
  have iO:=anu xN vm AK
  have mM:=QL fK rfl (a:=1) (b:=1+Lib.nDigits u) (lo:=some (.int .i64 1)) (by omega) (by omega) (Bd.yes .i64 1 0)
  rw[afG] at mM
  obtain⟨H1,f1,f2,f3⟩:=aiZ (cap:=24-1) (ex:=true) fK (by decide) Yo (off:=1) (by show 1+_<=24;omega) (by omega) vm Qb (by intro v hv;refine⟨0,by omega,?_⟩;simp at hv;exact hv)
  have hlen:(js z24 1 (oT u (Lib.nDigits u))).length=24:=by rw[Jn];rfl
  have gi:(oT u (Lib.nDigits u)).length=Lib.nDigits u:=by simp[oT]
  have e1:IntKind.wrap .i64 (1+(Lib.nDigits u:Int))=((1+Lib.nDigits u:Nat):Int):=by rw[wrap_i64 (by omega) (by omega)];omega
  have nD:Out [] H H1:=(aG H z24 238 0).then f3 fun j hj=>by rw[No] at hj;exact .inr (by omega)
  have axg:(decide ((0:Int)<=n)&&decide (n<100))=false:=by
   rw[Bool.and_eq_false_iff]
   by_cases q:0<=n
   ·right;exact decide_eq_false (by omega)
   ·left;exact decide_eq_false (by omega)
  by_cases hn:n<0
  ·have d1:decide ((0:Int)<=n)=false:=decide_eq_false (by omega)
   have d2:decide (n<0)=true:=decide_eq_true hn
   have e2:eu .neg (.int .u64 (IntKind.wrap .u64 n))=some (.int .u64 (u:Nat)):=by
    show some (AV.int .u64 (IntKind.wrap .u64 (0-IntKind.wrap .u64 n)))=_
    congr 2
    simp only[IntKind.wrap,IntKind.bits,IntKind.signed]
    simp
    omega
   have aA:=fP f2 (by decide) (o:=0) (by rw[hlen];decide) (v := .int .u8 45) rfl
   obtain⟨H2,w1,w2,w3,w4⟩:=aA
   have EP:=QL w2 (by rw[adU];exact hlen) (a:=0) (b:=1+Lib.nDigits u) (lo:=none) (by omega) (by omega) (Bd.no 0)
   rw[aih,aih] at EP
   have uh:(((js z24 1 (oT u (Lib.nDigits u))).set 0 (.int .u8 45)).take (1+Lib.nDigits u))=bs (dec n):=by
    rw[Yc hn,<-hu3]
    show _=AV.int .u8 (45:Nat)::bs _
    rw[<-abt]
    apply ajs
    intro k
    rw[aiC]
    by_cases hk:k<1+Lib.nDigits u
    ·rw[if_pos hk,ah2]
     by_cases Cd:0=k
     ·subst Cd
      rw[if_pos rfl,if_pos (by rw[hlen];decide)];rfl
     ·obtain⟨j,rfl⟩:∃ j,k=j+1:=⟨k-1,by omega⟩
      rw[if_neg Cd,Ch _ _ _ _ (by rw[gi];show 1+_<=24;omega),if_pos (by rw[gi];omega),Nat.add_sub_cancel,adL]
    ·rw[if_neg hk,ahX (by rw[aa1,gi];omega)]
   have Kh:Rw H2 1 (.slice H.next 0 (1+Lib.nDigits u) 24 true 1) (bs (dec n)):=by
    rw[<-uh]
    exact .mk (w2.ro.take _) (by rw[afs,adU,hlen];omega) (by omega) rfl
   have iP:=aeY Kh (by
    rw[Yc hn]
    intro b hb
    rcases aa7.1 hb with rfl | hb
    ·omega
    ·exact afK _ b hb)
   refine⟨H2,PE ?_,nD.then w3 fun j hj=>by rw[No] at hj;exact .inr (by omega)⟩
   unfold Kp
   have hir:pj 24 1 (.ptr H.next 0) (.int .i64 0)=some (.ptr H.next 0):=by unfold pj;simp
   simp only[d1,ha,d2,e2,iO,e1,mM,f1,hir,w1,EP,iP,ag,af,simprocAttr]
  ·obtain⟨m,rfl⟩:∃ m:Nat,n=m:=⟨n.toNat,by omega⟩
   have hum:u=m:=by omega
   subst hum
   have d1:decide ((0:Int)<=(u:Int))=true:=decide_eq_true (by omega)
   have d1':decide ((u:Int)<100)=false:=decide_eq_false (by omega)
   have d2:decide ((u:Int)<0)=false:=decide_eq_false hn
   have e2:IntKind.wrap .u64 (u:Int)=(u:Int):=aui rfl (by show u<2 ^ 64;omega)
   have EP:=QL f2 hlen (a:=1) (b:=1+Lib.nDigits u) (lo:=some (.int .i64 1)) (by omega) (by omega) (Bd.yes .i64 1 0)
   rw[afG] at EP
   have uh:(((js z24 1 (oT u (Lib.nDigits u))).drop 1).take (Lib.nDigits u))=bs (dec (u:Int)):=by
    rw[adk hn,acB,<-abt]
    apply ajs
    intro k
    rw[aiC]
    by_cases hk:k<Lib.nDigits u
    ·rw[if_pos hk,ahj,Ch _ _ _ _ (by rw[gi];show 1+_<=24;omega),if_pos (by rw[gi];omega),afG]
    ·rw[if_neg hk,ahX (by rw[gi];omega)]
   have Kh:Rw H1 1 (.slice H.next 1 (Lib.nDigits u) (24-1) true 1) (bs (dec (u:Int))):=by
    rw[<-uh]
    exact .mk ((f2.ro.drop 1 (by rw[hlen];decide)).take _) (by rw[afs,ahT,hlen];omega) (by omega) rfl
   have iP:=aeY Kh (by rw[adk hn];exact afK _)
   refine⟨H1,PE ?_,nD⟩
   unfold Kp
   simp only[d1,d1',ha,d2,e2,iO,e1,mM,f1,EP,iP,ag,af,simprocAttr]
theorem Wa {n:Int}(h0 : -9223372036854775808<=n)(h1:n<=9223372036854775807){H:Hp}(hg:Gl H):∃ H',cK (.func (.func 84) [] []) [.int .i64 n] H=some (.str (dec n),H')/\Out [] H H':=by
 obtain⟨H',h2,h3⟩:=as1 h0 h1 hg
 refine⟨H',apL ?_,h3⟩
 unfold adr
 have:cK (.func (.func 111) [] []) [.int .i64 n] H=some (.str (dec n),H'):=by
  refine agQ ?_
  unfold abO
  simp only[h2,ag,af,simprocAttr]
 simp only[this,ag,af,simprocAttr]
theorem alW {s:ai}(hs:s.length<=281474976710656){H:Hp}(hg:Gl H):cK (.func (.func 173) [] []) [.str s] H=some (LJ s,H):=by
 refine z6 (p:=GR) (by kernel_rfl) ?_
 unfold GR
 simp only
 rw[if_pos ⟨hg.err,hs⟩]
theorem aiY (i o n c:Nat)(ex:Bool)(es:Nat):same (.slice i o n c ex es) (.slice i o n c ex es)=true:=by simp[same,pL,aie]
theorem auz (k:IntKind)(z:Int):same (.int k z) (.int k z)=true:=by simp[same,pL]
theorem atw (i o n c:Nat)(ex:Bool)(es:Nat)(x:R):SM (.slice i o n c ex es) (.slice i o n c ex es) x=x:=ft (aiY ..)
theorem ZT (k:IntKind)(z:Int)(x:R):SM (.int k z) (.int k z) x=x:=ft (auz ..)
structure Bu (H:Hp)(p:Nat)(sl:AV)(l:ai):Prop where
 c:Cs H p [.ptr p 0,sl] 180 0
 o:Ow H 5 1 sl (bs l)
 ne:p∉ah sl
theorem ah5 (x:AV)(H:Hp):cK (.func (.func 168) [] []) [x] H=some (x,H):=
 Mh (k := .same) (by kernel_rfl) Tryz.func168 rfl (by kernel_rfl) rfl
theorem ar5 {n:Nat}(hn:n<=1048576)(H:Hp):cK (.func (.func 169) [] []) [.int .i64 n] H=some (.slice H.next 0 n n false 1,al H (List.replicate n .dD) 5 0):=by
 refine Mh (k := .Il 52) (by kernel_rfl) Tryz.func169 rfl (by kernel_rfl) ?_
 have hu:P.underlying 52=some (.slice 5):=Tryz.underlying52
 unfold Fq
 simp only[hu]
 rw[if_pos ⟨by omega,by omega⟩,acB,gJ (by rw[agw];omega)]
 rfl
theorem ait {H:Hp}{p:Nat}{l:List AV}{el fl:Nat}(h:Cs H p l el fl)(hl:0<l.length):jU P 178 242 (.ptr p 0) H=some (.ptr p 0,H):=by
 have h1:P.underlying 178=some (.pointer 180):=Tryz.underlying178
 have h2:P.underlying 242=some .unsafePointer:=Tryz.underlying242
 have h3:y9 P 180=true:=by kernel_rfl
 have h4:=h.cellAt (aaC hl)
 unfold jU
 simp only[h1,h2,h3,h4,ahx,Bool.and_self,cond_true]
theorem atW {H:Hp}{p:Nat}{a b:AV}(h:Cs H p [a,b] 180 0):jU P 242 178 (.ptr p 0) H=some (.ptr p 0,H):=by
 have h1:P.underlying 178=some (.pointer 180):=Tryz.underlying178
 have h2:P.underlying 242=some .unsafePointer:=Tryz.underlying242
 have h3:P.cellsOf 180=2:=by kernel_rfl
 have h4:=h.cellAt (o:=1) (v:=b) rfl
 obtain⟨_,c,hc,_⟩:=h
 unfold jU
 simp only[h1,h2,hc,h3,Nat.reduceSub,h4]
 rfl
theorem atY {H:Hp}{p:Nat}(h:Cs H p [.dR,.ae] 180 0):∃ H',cK (.func (.func 147) [] []) [.ptr p 0] H=some (.tuple [],H')/\Cs H' p [.ptr p 0,.ae] 180 0/\Out [p] H H'/\H'.next=H.next:=by
 obtain⟨H',w1,w2,w3,w4⟩:=fP h (by decide) (o:=0) (by decide) (v := .ptr p 0) rfl
 refine⟨H',aeL ?_,w2,w3,w4⟩
 unfold TY
 have h1:=h.ld (o:=0) (v := .dR) rfl
 simp only[afF,h1,ait h (by decide),ah5,atW h,w1,ag,af,Int.reduceBEq,Int.reduceBNe,Int.reduceLT,Int.reduceLE,Int.reduceGT,Int.reduceGE,Int.reduceNeg]
theorem amQ (p o:Nat)(H:Hp):pe (.ptr p o) (.ptr p o) H=some true:=by
 unfold pe
 simp[aie]
theorem au4 {H:Hp}{p:Nat}{sl:AV}{l:ai}(h:Bu H p sl l):cK (.func (.func 147) [] []) [.ptr p 0] H=some (.tuple [],H):=by
 refine aeL ?_
 unfold TY
 have h1:=h.c.ld (o:=0) (v := .ptr p 0) rfl
 simp only[afF,h1,amQ,ag,af,Int.reduceBEq,Int.reduceBNe,Int.reduceLT,Int.reduceLE,Int.reduceGT,Int.reduceGE,Int.reduceNeg]
theorem aqB {H:Hp}{n el:Nat}(hn:0<n):Ow (al H (List.replicate n .dD) el 0) el 1 (.slice H.next 0 0 n false 1) []:=by
 have fK:=aZ H (List.replicate n .dD) el 0
 obtain⟨hi,c,hc,hg⟩:=fK
 refine .mk hi hc (by decide) (aaU _) (by rw[agw];omega) (ace _) (by simp) (fun k v hk=>by simp at hk) (fun k hk => ?_) (fun v hv=>by cases hv) rfl
 rw[aeJ,hg k .dD (by rw[akc,if_pos (by omega)])];rfl
theorem ash {H:Hp}{p n:Nat}(mG:0<n)(hn:n<=1000000)(h:Cs H p [.dR,.ae] 180 0):∃ sl H',cK (.func (.func 112) [] []) [.ptr p 0,.int .i64 n] H=some (.tuple [],H')/\Bu H' p sl []/\Out [p] H H'/\∀ j∈ah sl,H.next<=j:=by
 obtain⟨H1,c1,c2,c3,c4⟩:=atY h
 have hu:P.underlying 52=some (.slice 5):=Tryz.underlying52
 have iA:∀ H:Hp,gS P .cap #[52] [.ae] H=some (.int .i64 0,H):=fun H=>by
  unfold gS
  simp only
  unfold NR
  simp only[hu,afW,aek,acF]
  rfl
 have l1:=c2.ld (o:=1) (v := .ae) rfl
 have e1:IntKind.wrap .i64 (0+(n:Int))=(n:Int):=by rw[wrap_i64 (by omega) (by omega)];omega
 have e0:IntKind.wrap .i64 (2*0)=0:=by rw[wrap_i64 (by omega) (by omega)];omega
 have e2:IntKind.wrap .i64 (0-0)=0:=by rw[wrap_i64 (by omega) (by omega)];omega
 have hm:=ar5 (show n<=1048576 by omega) H1
 have afI:=aG H1 (List.replicate n .dD) 5 0
 have BL:=c2.out afI (by simp)
 have l1':=BL.ld (o:=1) (v := .ae) rfl
 have mM:qE 1 (.slice H1.next 0 n n false 1) none (some (.int .i64 0)) none=some (.slice H1.next 0 0 n false 1):=by
  unfold qE
  have:=Bo (len:=n) (cap:=n) (a:=0) (b:=0) (lo:=none) (hi:=some (.int .i64 0)) (aaU _) (ace _) (aaU _) (Bd.no 0) (Bd.amF .i64 _)
  simp only[this]
  simp
 have hcp:∀ H:Hp,Ew 1 (.slice H1.next 0 0 n false 1) .ae H=some (.int .i64 0,H):=fun H=>by unfold Ew;simp[NC]
 obtain⟨H2,w1,w2,w3,w4⟩:=fP BL (by decide) (o:=1) (by simp) (v := .slice H1.next 0 0 n false 1) rfl
 have hg:cK (.func (.func 148) [] []) [.ptr p 0,.int .i64 n] H1=some (.tuple [],H2):=by
  refine aia ?_
  unfold aeW
  have xe:∀ x:R,SM .ae .ae x=x:=fun x=>ft rfl
  simp only[l1,iA,e0,e1,hm,l1',mM,xe,ZT,hcp,w1,ag,af,Int.reduceBEq,Int.reduceBNe,Int.reduceLT,Int.reduceLE,Int.reduceGT,Int.reduceGE,Int.reduceNeg]
 have ba:p<H1.next:=by rw[c4];exact h.1
 refine⟨.slice H1.next 0 0 n false 1,H2,ahk ?_,⟨w2,(aqB mG).out w3 (fun j hj=>by
  rw[nF (by rfl),No] at hj
  rw[No];omega),by rw[nF (by rfl),No];omega⟩,(c3.trans (afI.mono (S':=[p]) (fun j hj=>by cases hj))).trans w3,fun j hj=>by rw[nF (by rfl),No] at hj;omega⟩
 unfold YR
 have d1:decide ((n:Int)<0)=false:=decide_eq_false (by omega)
 have d2:decide ((0:Int)<(n:Int))=true:=decide_eq_true (by omega)
 simp only[c1,d1,l1,iA,e2,d2,hg,ag,af,Int.reduceBEq,Int.reduceBNe,Int.reduceLT,Int.reduceLE,Int.reduceGT,Int.reduceGE,Int.reduceNeg]
theorem QX {H:Hp}{p:Nat}{sl:AV}{l s:ai}(h:Bu H p sl l)(hl:l.length+s.length<=16777216):∃ uG H',cK (.func (.func 113) [] []) [.ptr p 0,.str s] H=some (.tuple [.int .i64 s.length,.nilIface],H')/\Bu H' p uG (l++s)/\Out (p::ah sl) H H'/\∀ j∈ah uG,j∈ah sl\/H.next<=j:=by
 obtain⟨uG,H1,a1,a2,a3,a4⟩:=MA (n:=s.length) (new:=bs s) h.o (by rw[ER,ahD]) (akI s) (by decide) (by rw[ER,ER];exact hl)
 have M0:eV 5 1 [(.int .u8 0)] false sl (.str s) H=some (uG,H1):=by
  unfold eV
  have:Cv 1 [(.int .u8 0)] false (.str s) H=some (s.length,bs s):=by unfold Cv;simp[bs]
  rw[this];exact a1
 have AU:=h.c.out a3 h.ne
 obtain⟨H2,w1,w2,w3,w4⟩:=fP AU (by decide) (o:=1) (by simp) (v:=uG) a2.kC
 have aH:p∉ah uG:=fun q=>(a4 p q).elim h.ne fun q=>by have:=h.c.1;omega
 refine⟨uG,H2,agf ?_,⟨w2,by rw[amU];exact a2.out w3 (fun j hj=>by rw[No];intro e;subst e;exact aH hj),aH⟩,?_,a4⟩
 ·unfold Y6
  have l1:=h.c.ld (o:=1) (v:=sl) rfl
  simp only[au4 h,l1,M0,w1,ag,af,Int.reduceBEq,Int.reduceBNe,Int.reduceLT,Int.reduceLE,Int.reduceGT,Int.reduceGE,Int.reduceNeg]
 ·exact (a3.mono fun j hj => .tail _ hj).trans (w3.mono fun j hj=>by rw[No] at hj;subst hj;exact .head _)
theorem agN {H:Hp}{p:Nat}{sl:AV}{l:ai}(h:Bu H p sl l)(h0:0<l.length)(hl:l.length<16777216)(hb:∀ b∈l,b<256):∃ H',cK (.func (.func 114) [] []) [.ptr p 0] H=some (.str l,H')/\Out (ah sl) H H':=by
 have l1:=h.c.ld (o:=1) (v:=sl) rfl
 have ho:=h.o
 have aH:=h.ne
 generalize sM:bs l=cs at ho
 cases ho with
 | nil=>
  have:l=[]:=by simpa[bs] using sM
  subst this;simp at h0
 | emp=>
  have:l=[]:=by simpa[bs] using sM
  subst this;simp at h0
 | @mk i off n cap ex _ c lo hi fl jc hg hf ij jJ iA hn jB hs h1 he=>
  subst sM
  rw[ER,ahD] at hn
  have Gz:Ro H i off (bs l):=⟨jc,c,lo,hi,5,fl,hg,ij,by rw[ER];omega,jB⟩
  have Jr:=Gz.aq
  rw[ER,hn] at Jr
  rw[nF he,No] at aH
  have hx:((aq H i off n).bind wX)=some l:=by rw[Jr];exact T9 l hb
  refine⟨{ H with h:=H.h.df i (.cells c lo hi 5 2) },aiU ?_,⟨aaU _,fun j hj Bx => ?_⟩⟩
  ·unfold Xn
   have b1:gS P .unsafeSliceData #[52] [.slice i off n cap ex 1] H=some (.ptr i off,H):=by
    unfold gS
    have:Nat.blt 0 n=true:=by rw[ae2];omega
    simp only[this,cond_true]
   have b2:gS P .unsafeString #[222,3] [.ptr i off,.int .i64 (n:Nat)] H=some (.str l,{ H with h:=H.h.df i (.cells c lo hi 5 2) }):=by
    have hu:P.underlying 222=some (.pointer 5):=Tryz.underlying222
    have AU:P.cellsOf 5=1:=by kernel_rfl
    unfold gS
    simp only
    unfold Od
    simp only[hu]
    rw[if_neg (by omega)]
    simp only[hg]
    rw[if_pos ⟨trivial,AU,by omega,by omega,hf⟩,acB,hx]
    rfl
   simp only[l1,b1,b2,atw,ZT,ag,af,Int.reduceBEq,Int.reduceBNe,Int.reduceLT,Int.reduceLE,Int.reduceGT,Int.reduceGE,Int.reduceNeg]
  ·rw[nF he,No] at Bx
   show (Tr.df H.h i _).get j=_
   rw[Tr.df,Tr.fH,if_neg Bx]
def qp (sep:ai):List ai->ai
 | []=>[]
 | a::l=>sep++a++qp sep l
def yz (sep:ai):List ai->ai
 | []=>[]
 | a::l=>a++qp sep l
theorem abp (c:Nat):∀ l:List ai,yz [c] l=jV c l
 | []=>rfl
 | [a]=>by simp[yz,qp,jV]
 | a::b::l=>by
  have:=abp c (b::l)
  show a++([c]++b++qp [c] l)=a++c::jV c (b::l)
  rw[<-this]
  simp[yz]
def dC (l:List ai):Nat:=(l.map List.length).sum
theorem TW (sep:ai):∀ l,(qp sep l).length=sep.length*l.length+dC l
 | []=>by simp[qp,dC]
 | a::l=>by
  have:=TW sep l
  simp only[qp,abj,this,aa1,Nat.mul_add,ahD,dC,ac4,List.sum_cons]
  omega
theorem aeu {x:AV}{l:List ai}{H:Hp}(hx:Rw H 1 x (strs l))(hl:l.length<=1000)(hb:∀ s∈l,s.length<=100000)(k:K.Fn 3)(y z:AV):∀ (r:List ai) (i acc:Nat),i<=l.length->l.drop i=r->acc<=1000000+i*100000->
  Gv JN GO cK k y z (.int .i64 acc) x (.int .i64 (l.length:Nat)) (.int .i64 (i:Nat)) H=k y z (.int .i64 ((acc+dC r:Nat):Int)) H
 | [],i,acc,hi,h,ha=>by
  obtain rfl:=drop_nil hi h
  rw[Xh]
  simp only[MV,ez,dC,akP,List.sum_nil,afF,ag,af,Int.reduceBEq,Int.reduceBNe,Int.reduceLT,Int.reduceLE,Int.reduceGT,Int.reduceGE,Int.reduceNeg]
 | a::r,i,acc,hi,h,ha=>by
  obtain⟨h1,h2,h3⟩:=eF h
  obtain⟨q,q1,q2⟩:=hx.gw (nE h2) .i64
  have e:=eE h1 (by omega)
  have dh:=hb a (aaO h2)
  have aiM:acc+a.length<=1000000+(i+1)*100000:=by omega
  have ih:=aeu hx hl hb k y z r (i+1) (acc+a.length) h1 h3 aiM
  have e1:IntKind.wrap .i64 (9223372036854775807-(acc:Int))=9223372036854775807-(acc:Int):=wrap_i64 (by omega) (by omega)
  have d:decide (9223372036854775807-(acc:Int)<(a.length:Int))=false:=decide_eq_false (by omega)
  have e2:IntKind.wrap .i64 ((acc:Int)+(a.length:Int))=((acc+a.length:Nat):Int):=by rw[wrap_i64 (by omega) (by omega)];rfl
  have e3:acc+dC (a::r)=acc+a.length+dC r:=by simp[dC];omega
  rw[Xh,e3]
  simp only[MV,aU h1,q1,q2,e1,d,e2,e,ih,ag,af,Int.reduceBEq,Int.reduceBNe,Int.reduceLT,Int.reduceLE,Int.reduceGT,Int.reduceGE,Int.reduceNeg]
theorem ac3 {sep:ai}{x:AV}{l:List ai}{p:Nat}{H0:Hp}(hx:Rw H0 1 x (strs l))(hl:l.length<=1000):∀ (r:List ai) (i:Nat) (H:Hp) (sl:AV) (acc:ai),i<=l.length->l.drop i=r->Rw H 1 x (strs l)->Bu H p sl acc->(∀ j∈ah x,j≠p/\j∉ah sl)->acc.length+(qp sep r).length<=16777216->
  ∃ uG H',(∀ k:K.Fn 1,GN JN GO cK k (.str sep) (.ptr p 0) x (.int .i64 (l.length:Nat)) (.int .i64 (i:Nat)) H=k (.ptr p 0) H')/\Bu H' p uG (acc++qp sep r)/\Out (p::ah sl) H H'/\∀ j∈ah uG,j∈ah sl\/H.next<=j
 | [],i,H,sl,acc,hi,h,je,hB,hd,hlen=>by
  obtain rfl:=drop_nil hi h
  refine⟨sl,H,fun k => ?_,by simpa[qp] using hB,Out.refl _ _,fun j hj => .inl hj⟩
  rw[Wg]
  simp only[QC,ez,ag,af,Int.reduceBEq,Int.reduceBNe,Int.reduceLT,Int.reduceLE,Int.reduceGT,Int.reduceGE,Int.reduceNeg]
 | a::r,i,H,sl,acc,hi,h,je,hB,hd,hlen=>by
  obtain⟨h1,h2,h3⟩:=eF h
  obtain⟨q,q1,q2⟩:=je.gw (nE h2) .i64
  have e:=eE h1 (by omega)
  simp only[qp,abj] at hlen
  obtain⟨sl1,H1,a1,a2,a3,a4⟩:=QX (s:=sep) hB (by omega)
  obtain⟨FV,H2,b1,b2,b3,b4⟩:=QX (s:=a) a2 (by rw[abj];omega)
  have ba:=je.lt
  have fE:∀ j∈ah x,j≠p/\j∉ah sl1:=fun j hj=>⟨(hd j hj).1,fun q=>(a4 j q).elim (hd j hj).2 fun q=>by have:=ba j hj;omega⟩
  have kA:=a3.nx
  have yJ:∀ j∈ah x,j≠p/\j∉ah FV:=fun j hj=>⟨(hd j hj).1,fun q=>(b4 j q).elim (fE j hj).2 fun q=>by have:=ba j hj;omega⟩
  have lQ:=je.out a3 fun j hj=>by rw[aa7,not_or];exact hd j hj
  have oM:=lQ.out b3 fun j hj=>by rw[aa7,not_or];exact fE j hj
  obtain⟨uG,H',i1,i2,i3,i4⟩:=ac3 (sep:=sep) hx hl r (i+1) H2 FV (acc++sep++a) h1 h3 oM b2 yJ (by simp only[abj];omega)
  have o2:Out (p::ah sl) H H2:=a3.then b3 fun j hj=>by
   rcases aa7.1 hj with rfl | hj
   ·exact .inl (.head _)
   ·exact (a4 j hj).imp (fun q => .tail _ q) id
  have n2:∀ j∈ah FV,j∈ah sl\/H.next<=j:=fun j hj=>(b4 j hj).elim (fun q=>a4 j q) fun q => .inr (by omega)
  refine⟨uG,H',fun k => ?_,by rw[qp];simpa[afk] using i2,o2.then i3 fun j hj => ?_,fun j hj=>(i4 j hj).elim (n2 j) fun q => .inr (by have:=o2.nx;omega)⟩
  ·rw[Wg]
   simp only[QC,aU h1,q1,q2,a1,b1,e,i1,ag,af,Int.reduceBEq,Int.reduceBNe,Int.reduceLT,Int.reduceLE,Int.reduceGT,Int.reduceGE,Int.reduceNeg]
  ·rcases aa7.1 hj with rfl | hj
   ·exact .inl (.head _)
   ·exact (n2 j hj).imp (fun q => .tail _ q) id
theorem ar8 (sep:ai)(l:List ai)(h:0<l.length):(yz sep l).length=sep.length*(l.length-1)+dC l:=by
 cases l with
 | nil=>simp at h
 | cons a l=>simp only[yz,abj,TW,aa1,dC,ac4,List.sum_cons,Nat.add_sub_cancel];omega
theorem al9 {sep:ai}(UO:sep.length=1){x:AV}{l:List ai}{H:Hp}(hx:Rw H 1 x (strs l))(hl:l.length<=200)(hb:∀ s∈l,s.length<=100000)(sE:dC l<=900000)(nA:∀ s∈sep::l,∀ b∈s,b<256) :
  ∃ H',cK (.func (.func 85) [] []) [x,.str sep] H=some (.str (yz sep l),H')/\Out [] H H':=by
 have eL:=hx.jn
 rw[gB] at eL
 match l,hx,hl,hb,sE,nA,eL with
 | [],hx,hl,hb,sE,nA,eL=>
  refine⟨H,S8 ?_,Out.refl _ _⟩
  unfold HT
  simp only[acG,Int.natCast_zero] at eL
  simp only[eL,yz,ag,af,Int.reduceBEq,Int.reduceBNe,Int.reduceLT,Int.reduceLE,Int.reduceGT,Int.reduceGE,Int.reduceNeg]
 | [a],hx,hl,hb,sE,nA,eL=>
  obtain⟨q,q1,q2⟩:=hx.gw (i:=0) (v := .str a) rfl .i64
  refine⟨H,S8 ?_,Out.refl _ _⟩
  unfold HT
  simp only[aa1,acG,aeJ,Int.natCast_one] at eL
  rw[show (((0:Nat):Int))=0 from rfl] at q1
  simp only[eL,q1,q2,yz,qp,af9,ag,af,Int.reduceBEq,Int.reduceBNe,Int.reduceLT,Int.reduceLE,Int.reduceGT,Int.reduceGE,Int.reduceNeg]
 | a::b::l,hx,hl,hb,sE,nA,eL=>
  generalize hm:a::b::l=L at *
  have hL2:2<=L.length:=by rw[<-hm];simp
  have VL:L[0]? = some a:=by rw[<-hm];rfl
  obtain⟨q,q1,q2⟩:=hx.gw (nE VL) .i64
  rw[show (((0:Nat):Int))=0 from rfl] at q1
  have d1:(((L.length:Nat):Int)==0)=false:=beq_false_of_ne (by omega)
  have d2:(((L.length:Nat):Int)==1)=false:=beq_false_of_ne (by omega)
  have e1:IntKind.wrap .i64 (((L.length:Nat):Int)-1)=((L.length-1:Nat):Int):=by rw[wrap_i64 (by omega) (by omega)];omega
  have e2:Df (.int .i64 9223372036854775807) (.int .i64 ((L.length-1:Nat):Int))=some (.int .i64 (9223372036854775807 / ((L.length-1:Nat):Int))):=by
   rw[ago _ _ _ (by omega),Int.tdiv_eq_ediv_of_nonneg (by omega)]
   congr 2
   rw[wrap_i64]
   ·have:0<=9223372036854775807 / ((L.length-1:Nat):Int):=Int.ediv_nonneg (by omega) (by omega)
    omega
   ·exact Int.le_trans (Int.ediv_le_self _ (by omega)) (Int.le_refl _)
  have hq:(200:Int)<=9223372036854775807 / ((L.length-1:Nat):Int):=by
   rw[Int.le_ediv_iff_mul_le (by omega)]
   omega
  have d3:decide (9223372036854775807 / ((L.length-1:Nat):Int)<=((1:Nat):Int))=false:=decide_eq_false (by omega)
  have e3:IntKind.wrap .i64 (((1:Nat):Int)*((L.length-1:Nat):Int))=((L.length-1:Nat):Int):=by rw[wrap_i64 (by omega) (by omega)];omega
  have e4:IntKind.wrap .i64 (0+((L.length-1:Nat):Int))=((L.length-1:Nat):Int):=by rw[wrap_i64 (by omega) (by omega)];omega
  have i1:=fun k=>aeu hx (by omega) hb k x (.str sep) L 0 (L.length-1) (ace _) abK (by omega)
  rw[show (((0:Nat):Int))=0 from rfl] at i1
  have iJ:aC H [.dR,.ae] 180 0=some (H.next,al H [.dR,.ae] 180 0):=gJ (by simp)
  have ho:=aG H [.dR,.ae] 180 0
  obtain⟨sl,H1,g1,g2,g3,g4⟩:=ash (n:=L.length-1+dC L) (by omega) (by omega) (aZ H [.dR,.ae] 180 0)
  have ba:=hx.lt
  have lQ:=(hx.ar ho).out g3 fun j hj=>by rw[No];have:=ba j hj;omega
  obtain⟨q',q1',q2'⟩:=lQ.gw (nE VL) .i64
  rw[show (((0:Nat):Int))=0 from rfl] at q1'
  have dh:a.length<=dC L:=by rw[<-hm];simp[dC]
  obtain⟨FV,H2,b1,b2,b3,b4⟩:=QX (s:=a) g2 (by simp;omega)
  rw[ai6] at b2
  have oM:=lQ.out b3 fun j hj=>by
   rw[aa7,not_or]
   exact⟨by have:=ba j hj;omega,fun q=>by have:=g4 j q;have:=ba j hj;rw[cu] at *;omega⟩
  have pG:=ET oM (n:=L.length) (by rw[gB,ahD]) (by decide) (a:=1) (b:=L.length) (lo:=some (.int .i64 1)) (hi:=none) (by omega) (aaU _) (Bd.yes .i64 1 0) (Bd.no _)
  obtain⟨x',x1,x2,x3⟩:=pG
  have AQ:(((strs L).drop (1*1)).take ((L.length-1)*1))=strs (b::l):=by rw[<-hm,ahD,ahD];exact ag8 (by simp[strs])
  rw[AQ] at x2
  have Ze:=x2.jn
  rw[gB] at Ze
  have jQ:(b::l).length<=1000:=by rw[<-hm] at hl;simp only[aa1] at *;omega
  have kA:=g3.nx
  rw[cu] at kA
  have rA:sep.length*(b::l).length+dC (b::l)<=1000000:=by
   rw[UO,ajO]
   rw[<-hm] at sE hl
   simp only[dC,ac4,List.sum_cons,aa1] at *
   omega
  obtain⟨sl3,H3,c1,c2,c3,c4⟩:=ac3 (sep:=sep) x2 jQ (b::l) 0 H2 FV a (ace _) abK x2 b2 (fun j hj=>by
   have hj:=ba j (x3 j hj)
   exact⟨by omega,fun q=>(b4 j q).elim (fun q=>by have:=g4 j q;rw[cu] at this;omega) fun q=>by omega⟩) (by rw[TW];omega)
  have Db:a++qp sep (b::l)=yz sep L:=by rw[<-hm];rfl
  rw[Db] at c2
  have fA:=ar8 sep L (by omega)
  rw[UO,ajO] at fA
  have awR:∀ c∈yz sep L,c<256:=by
   have key:∀ l:List ai,(∀ s∈l,∀ b∈s,b<256)->∀ c∈qp sep l,c<256:=by
    intro l
    induction l with
    | nil=>intro _ c hc;cases hc
    | cons s l ih=>
     intro h c hc
     simp only[qp,abN] at hc
     rcases hc with (hc | hc) | hc
     ·exact nA sep (.head _) c hc
     ·exact h s (.head _) c hc
     ·exact ih (fun s hs=>h s (.tail _ hs)) c hc
   intro c hc
   rw[<-Db,abN] at hc
   have qi:∀ s∈a::b::l,∀ b∈s,b<256:=fun s hs=>nA s (.tail _ (by rw[<-hm];exact hs))
   rcases hc with hc | hc
   ·exact qi a (.head _) c hc
   ·exact key _ (fun s hs=>qi s (.tail _ hs)) c hc
  obtain⟨H4,s1,s2⟩:=agN c2 (by omega) (by omega) awR
  have n2:=b3.nx
  have n3:=c3.nx
  have pH:∀ j∈ah FV,H.next<=j:=fun j hj=>(b4 j hj).elim (fun q=>by have:=g4 j q;rw[cu] at this;omega) fun q=>by omega
  have Vg:∀ j∈ah sl3,H.next<=j:=fun j hj=>(c4 j hj).elim (pH j) fun q=>by omega
  have o1:Out [] H H1:=ho.then g3 fun j hj=>by rw[No] at hj;exact .inr (by omega)
  have o2:Out [] H H2:=o1.then b3 fun j hj=>by
   rcases aa7.1 hj with rfl | hj
   ·exact .inr (by omega)
   ·have:=g4 j hj;rw[cu] at this;exact .inr (by omega)
  have o3:Out [] H H3:=o2.then c3 fun j hj=>by
   rcases aa7.1 hj with rfl | hj
   ·exact .inr (by omega)
   ·exact .inr (pH j hj)
  refine⟨H4,S8 ?_,o3.then s2 fun j hj => .inr (Vg j hj)⟩
  unfold HT
  have e5:((L.length-1+dC L:Nat):Int)=((L.length-1+dC L:Nat):Int):=rfl
  rw[show (((0:Nat):Int))=0 from rfl] at c1
  have d4:decide ((0:Int)<((1:Nat):Int))=true:=rfl
  simp only[eL,d1,d2,UO,d4,e1,e2,d3,e3,e4,i1,iJ,g1,q1',q2',b1,x1,Ze,c1,s1,ge_iff_le,ag,af,Int.reduceBEq,Int.reduceBNe,Int.reduceLT,Int.reduceLE,Int.reduceGT,Int.reduceGE,Int.reduceNeg]
end Go.Proofs.YtodfajmihkagnaaGreatDoor.DfK
namespace Go.Proofs.YtodfajmihkagnaaGreatDoor.py
section
variable (sc:Nat->List Nat)
def ud (steps:Nat)(s:List Nat × List Nat)(b:Nat):List Nat × List Nat:=if s.1[b]? = some 0 then (s.1.set b steps,s.2++[b]) else s
def ru (steps:Nat)(bs:List Nat)(s:List Nat × List Nat):List Nat × List Nat:=bs.foldl (ud steps) s
def uU (steps:Nat)(l:List Nat)(s:List Nat × List Nat):List Nat × List Nat:=l.foldl (fun s a=>ru steps (sc a) s) s
def vI:Nat->List Nat->List Nat->Nat->List Nat
 | 0,_,out,_=>out
 | f+1,l,out,steps=>if l=[] then out else vI f (uU sc steps l (out,[])).2 (uU sc steps l (out,[])).1 (steps+1)
def far (N n:Nat):List Nat:=vI sc (N+1) [n] (List.replicate N 0) 1
end
def fg (l:List Nat):Nat:=l.countP (· == 0)
def V (out:List Nat)(b:Nat):Bool:=match out[b]? with | some (_+1)=>true | _=>false
theorem Oy {out:List Nat}{b steps c:Nat}(h:out[b]? = some 0)(hs:0<steps):V (out.set b steps) c=(V out c||c==b):=by
 unfold V
 have hb:=(aaw.1 h).1
 rw[ah2]
 by_cases hc:b=c
 ·subst hc
  rw[if_pos rfl,if_pos hb]
  obtain⟨k,rfl⟩:∃ k,steps=k+1:=⟨steps-1,by omega⟩
  simp
 ·rw[if_neg hc]
  have:(c==b)=false:=by simp;exact fun q=>hc q.symm
  rw[this,Bool.or_false]
theorem an2 {out:List Nat}{b steps:Nat}(h:out[b]? = some 0)(hs:0<steps):fg (out.set b steps)+1=fg out:=by
 unfold fg
 induction out generalizing b with
 | nil=>simp at h
 | cons a l ih=>
  cases b with
  | zero=>
   simp only[aek,adE] at h
   subst h
   rw[List.set_cons_zero,akO,akO]
   have:(steps==0)=false:=by simp;omega
   rw[this];simp
  | succ b=>
   simp only[adL] at h
   rw[List.set_cons_succ,akO,akO]
   have:=ih h
   omega
structure Step (s s':List Nat × List Nat)(bs:Nat->Prop):Prop where
 len:s'.1.length=s.1.length
 Du:fg s'.1+s'.2.length=fg s.1+s.2.length
 mono:∀ c,V s.1 c=true->V s'.1 c=true
 zz:∀ c∈s.2,c∈s'.2
 new:∀ c,V s'.1 c=true->V s.1 c=true\/(bs c/\c∈s'.2)
 HI:∀ c∈s'.2,c∈s.2\/(bs c/\V s'.1 c=true)
 all:∀ c,bs c->c<s.1.length->V s'.1 c=true
theorem Step.refl (s:List Nat × List Nat):Step s s (fun _=>False):=⟨rfl,rfl,fun _ h=>h,fun _ h=>h,fun _ h => .inl h,fun _ h => .inl h,fun _ h=>h.elim⟩
theorem Step.trans {s s' V7:List Nat × List Nat}{p q:Nat->Prop}(h:Step s s' p)(k:Step s' V7 q):Step s V7 (fun c=>p c\/q c) where
 len:=k.len.trans h.len
 Du:=k.Du.trans h.Du
 mono:=fun c hc=>k.mono c (h.mono c hc)
 zz:=fun c hc=>k.zz c (h.zz c hc)
 new:=fun c hc=>(k.new c hc).elim (fun a=>(h.new c a).imp id fun b=>⟨.inl b.1,k.zz c b.2⟩) (fun a => .inr ⟨.inr a.1,a.2⟩)
 HI:=fun c hc=>(k.HI c hc).elim (fun a=>(h.HI c a).imp id fun b=>⟨.inl b.1,k.mono c b.2⟩) (fun a => .inr ⟨.inr a.1,a.2⟩)
 all:=fun c hc hl=>hc.elim (fun a=>k.mono c (h.all c a hl)) (fun a=>k.all c a (by rw[h.len];exact hl))
theorem Step.congr {s s':List Nat × List Nat}{p q:Nat->Prop}(h:Step s s' p)(CC:∀ c,p c↔q c):Step s s' q:=
 ⟨h.len,h.Du,h.mono,h.zz,fun c hc=>(h.new c hc).imp id fun b=>⟨(CC c).1 b.1,b.2⟩,fun c hc=>(h.HI c hc).imp id fun b=>⟨(CC c).1 b.1,b.2⟩,fun c hc hl=>h.all c ((CC c).2 hc) hl⟩
theorem alb {out:List Nat}{b:Nat}(hb:b<out.length)(h:out[b]? ≠ some 0):V out b=true:=by
 unfold V
 rw[aaC hb] at h ⊢
 cases hx:out[b] with
 | zero=>rw[hx] at h;exact absurd rfl h
 | succ k=>rfl
theorem ary {steps:Nat}(hs:0<steps)(s:List Nat × List Nat)(b:Nat):Step s (ud steps s b) (fun c=>c=b):=by
 unfold ud
 split
 ·rename_i h
  have hz:=an2 h hs
  refine⟨adU,by simp;omega,fun c hc => ?_,fun c hc=>abD _ hc,fun c hc => ?_,fun c hc => ?_,fun c hc hl => ?_⟩
  ·rw[Oy h hs,hc];rfl
  ·rw[Oy h hs,aiy] at hc
   refine hc.imp id fun q => ?_
   have q:c=b:=by simpa using q
   exact⟨q,by subst q;simp⟩
  ·rcases abN.1 hc with hc | hc
   ·exact .inl hc
   ·rw[No] at hc
    subst hc
    exact .inr ⟨rfl,by rw[Oy h hs];simp⟩
  ·subst hc;rw[Oy h hs];simp
 ·rename_i h
  exact⟨rfl,rfl,fun _ h=>h,fun _ h=>h,fun _ h => .inl h,fun _ h => .inl h,fun c hc hl=>by subst hc;exact alb hl h⟩
theorem RG {steps:Nat}(hs:0<steps):∀ (bs:List Nat) (s:List Nat × List Nat),Step s (ru steps bs s) (fun c=>c∈bs)
 | [],s=>(Step.refl s).congr fun c=>by simp
 | b::bs,s=>((ary hs s b).trans (RG hs bs _)).congr fun c=>by simp
theorem Nv {sc:Nat->List Nat}{steps:Nat}(hs:0<steps):∀ (l:List Nat) (s:List Nat × List Nat),Step s (uU sc steps l s) (fun c=>∃ a∈l,c∈sc a)
 | [],s=>(Step.refl s).congr fun c=>by simp
 | a::l,s=>((RG hs (sc a) s).trans (Nv hs l _)).congr fun c=>by simp
theorem Ys {sc:Nat->List Nat}{N n:Nat}(hN:∀ a,∀ b∈sc a,b<N){C:Nat->Prop}(Ii:∀ b∈sc n,C b)(hC:∀ a,C a->∀ b∈sc a,C b) :
  ∀ (f:Nat) (l out:List Nat) (steps:Nat),0<steps->out.length=N->(l=[]\/fg out<f)->(∀ a,(a=n\/V out a=true)->a∈l\/∀ b∈sc a,V out b=true)->
   (∀ a∈l,a=n\/C a)->(∀ a,V out a=true->C a)->
   (vI sc f l out steps).length=N/\(∀ a,(a=n\/V (vI sc f l out steps) a=true)->∀ b∈sc a,V (vI sc f l out steps) b=true)/\∀ a,V (vI sc f l out steps) a=true->C a
 | 0,l,out,steps,hs,hl,hz,h1,h2,h3=>by
  have:l=[]:=hz.resolve_right (by omega)
  subst this
  exact⟨hl,fun a ha=>(h1 a ha).resolve_left (by simp),h3⟩
 | f+1,l,out,steps,hs,hl,hz,h1,h2,h3=>by
  unfold vI
  split
  ·rename_i h
   subst h
   exact⟨hl,fun a ha=>(h1 a ha).resolve_left (by simp),h3⟩
  ·rename_i aH
   have hz:=hz.resolve_left aH
   have S:=Nv (sc:=sc) hs l (out,[])
   refine Ys hN Ii hC f _ _ (steps+1) (by omega) (S.len.trans hl) ?_ ?_ ?_ ?_
   ·have:=S.Du
    simp only[acG,afF] at this
    cases hx:(uU sc steps l (out,[])).2 with
    | nil=>exact .inl rfl
    | cons x y=>rw[hx] at this;simp only[aa1] at this;exact .inr (by omega)
   ·intro a ha
    have key:(a=n\/V out a=true)->a∈(uU sc steps l (out,[])).2\/∀ b∈sc a,V (uU sc steps l (out,[])).1 b=true:=by
     intro ha
     refine .inr fun b hb => ?_
     rcases h1 a ha with q | q
     ·exact S.all b ⟨a,q,hb⟩ (by rw[hl];exact hN a b hb)
     ·exact S.mono b (q b hb)
    rcases ha with ha | ha
    ·exact key (.inl ha)
    ·rcases S.new a ha with q | q
     ·exact key (.inr q)
     ·exact .inl q.2
   ·intro a ha
    rcases S.HI a ha with q | ⟨⟨x,hx,G8⟩,_⟩
    ·cases q
    ·refine .inr ?_
     rcases h2 x hx with rfl | q
     ·exact Ii a G8
     ·exact hC x q a G8
   ·intro a ha
    rcases S.new a ha with q | ⟨⟨x,hx,G8⟩,_⟩
    ·exact h3 a q
    ·rcases h2 x hx with rfl | q
     ·exact Ii a G8
     ·exact hC x q a G8
theorem Zm (N b:Nat):V (List.replicate N 0) b=false:=by
 unfold V
 rw[akc]
 split
 ·rename_i h
  split at h<;>cases h
 ·rfl
theorem Wq (N:Nat):fg (List.replicate N 0)=N:=by unfold fg;rw[List.countP_replicate];simp
theorem agY {sc:Nat->List Nat}{N n:Nat}(hN:∀ a,∀ b∈sc a,b<N){C:Nat->Prop}(Ii:∀ b∈sc n,C b)(hC:∀ a,C a->∀ b∈sc a,C b) :
  (far sc N n).length=N/\(∀ a,(a=n\/V (far sc N n) a=true)->∀ b∈sc a,V (far sc N n) b=true)/\∀ a,V (far sc N n) a=true->C a:=
 Ys hN Ii hC _ _ _ _ (by decide) (by simp) (.inr (by rw[Wq];omega)) (fun a ha=>by
  rcases ha with rfl | ha
  ·exact .inl (.head _)
  ·rw[Zm] at ha;cases ha) (fun a ha=>by rw[No] at ha;exact .inl ha) (fun a ha=>by rw[Zm] at ha;cases ha)
end Go.Proofs.YtodfajmihkagnaaGreatDoor.py
namespace Go.Proofs.YtodfajmihkagnaaGreatDoor.DfK
open Go Am Am.K lN nC kI
theorem aga (N n:Int)(e:AV)(he:bq e=true)(H:Hp):cK (.func (.func 175) [] []) [.agg [.int .i64 N,e],.int .i64 n] H=some (.bool (decide (0<=n)&&decide (n<N)),al H [.int .i64 N,e] 201 0):=by
 refine ajf ?_
 unfold abR
 by_cases h1:0<=n
 ·simp(disch:=first|exact zqq|fail)only[h1,ac5,aj,ak,Nat.reduceAdd,ag,af,Int.reduceBEq,Int.reduceBNe,Int.reduceLT,Int.reduceLE,Int.reduceGT,Int.reduceGE,Int.reduceNeg]
 ·simp(disch:=first|exact zqq|fail)only[h1,acL,aj,ak,Nat.reduceAdd,ag,af,Int.reduceBEq,Int.reduceBNe,Int.reduceLT,Int.reduceLE,Int.reduceGT,Int.reduceGE,Int.reduceNeg]
theorem qK (n a b:Int)(H:Hp):cK (.func (.func 119) [] []) [.int .i64 n,.int .i64 a,.int .i64 b] H=some (.bool (decide (a<=n)&&decide (n<=b)),H):=by
 refine al7 ?_
 unfold abZ
 by_cases h1:a<=n
 ·simp(disch:=first|exact zqq|fail)only[h1,ac5,aj,ak,Nat.reduceAdd,ag,af,Int.reduceBEq,Int.reduceBNe,Int.reduceLT,Int.reduceLE,Int.reduceGT,Int.reduceGE,Int.reduceNeg]
 ·simp(disch:=first|exact zqq|fail)only[h1,acL,aj,ak,Nat.reduceAdd,ag,af,Int.reduceBEq,Int.reduceBNe,Int.reduceLT,Int.reduceLE,Int.reduceGT,Int.reduceGE,Int.reduceNeg]
abbrev Ed:=Nat × Nat
def cx (e:Ed):List AV:=[.int .i64 e.1,.int .i64 e.2]
def ku (E:List Ed):List (List AV):=E.map cx
theorem OG (E:List Ed):(ku E).length=E.length:=by simp[ku]
theorem Sh {E:List Ed}{i:Nat}{e:Ed}(h:E[i]? = some e):(ku E)[i]? = some (cx e):=by simp[ku,h]
theorem eqE (a b c d:Int)(n:Nat)(H:Hp):dX P (n+2) 231 (.agg [.int .i64 a,.int .i64 b]) (.agg [.int .i64 c,.int .i64 d]) H=some (a==c&&b==d):=by
 have hu:P.underlying 231=some (.array 2 3):=Tryz.underlying231
 have hi:P.underlying 3=some (.int .i64):=Tryz.underlying3
 have hs:sz P 3=some 1:=by kernel_rfl
 have ha:xG P 3=some false:=by kernel_rfl
 have h1:∀ x y:Int,dX P (n+1) 3 (.int .i64 x) (.int .i64 y) H=some (x==y):=by
  intro x y;unfold dX;simp only[hi,if_true]
 rw[dX.eq_def]
 simp only[hu,hs]
 show rJ _ [0,1]=_
 simp only[rJ,nH,ha,acy,acF,aiA,ajO,aek,adL,h1]
 cases hac:(a==c)<;>cases hbd:(b==d)<;>simp[h1,hac,hbd]
def xB (E:List (Ed × Nat)):List ME:=E.map fun x=>⟨.agg (cx x.1),.bool true,x.2⟩
theorem UI {H:Hp}{e:Ed}:∀ (E:List (Ed × Nat)) (i:Nat),(∀ x∈E,x.1≠e)->nq P H 231 (.agg (cx e)) (xB E) i=some none
 | [],i,_=>rfl
 | x::E,i,h=>by
  have h1:=eqE e.1 e.2 x.1.1 x.1.2 18 H
  have h2:(((e.1:Nat):Int)==((x.1.1:Nat):Int)&&((e.2:Nat):Int)==((x.1.2:Nat):Int))=false:=by
   rw[<-ah4,aaT,beq_iff_eq,beq_iff_eq]
   intro q
   exact h x (.head _) (Prod.ext (by have:=q.1;omega) (by have:=q.2;omega))
  rw[h2] at h1
  show nq P H _ (.agg (cx e)) (⟨.agg (cx x.1),.bool true,x.2⟩::xB E) i=_
  unfold nq
  have N6:dX P 20 231 (.agg (cx e)) (.agg (cx x.1)) H=some false:=h1
  rw[N6]
  exact UI E (i+1) fun y hy=>h y (.tail _ hy)
theorem abL (e:Ed):pf P 20 231 (.agg (cx e))=true:=by kernel_rfl
theorem lkE {H:Hp}{m c:Nat}{E:List (Ed × Nat)}{e:Ed}(hm:Mp H m (xB E) c)(h:∀ x∈E,x.1≠e):rH P 248 (.map m) (.agg (cx e)) false H=some (.bool false):=by
 have hu:P.underlying 248=some (.map 231 4):=Tryz.underlying248
 have hz:((P.info? 4).bind (·.zero)).bind jL=some (.bool false):=by kernel_rfl
 unfold rH
 simp only[hu,abL,cond_true,Hm hm,UI E 0 h,hz,ae6,cond_false]
theorem upE {H:Hp}{m c:Nat}{E:List (Ed × Nat)}{e:Ed}(hm:Mp H m (xB E) c)(h:∀ x∈E,x.1≠e):∃ H',pZ P 248 (.map m) (.agg (cx e)) (.bool true) H=some H'/\Mp H' m (xB (E++[(e,c)])) (c+1)/\Out [m] H H'/\H'.next=H.next:=by
 have hu:P.underlying 248=some (.map 231 4):=Tryz.underlying248
 have he:xB (E++[(e,c)])=xB E++[⟨.agg (cx e),.bool true,c⟩]:=by simp[xB]
 rw[he]
 refine⟨_,?_,(hm.set _ _).1,(hm.set _ _).2,rfl⟩
 unfold pZ
 simp only[hu,abL,cond_true,hm.2,UI E 0 h]
structure qq (N:Nat)(E:List Ed):Prop where
 n:N<=16
 lt:∀ e∈E,e.1<N/\e.2<N/\e.1≠e.2
 nd:E.Nodup
 len:E.length<=300
theorem aea {N:Nat}{E:List Ed}{x:AV}{g m:Nat}{H0:Hp}(hE:qq N E)(hx:RL H0 2 x (ku E))(hg:Cs H0 g [.int .i64 N,x] 201 0)(Mx:g≠m)(Wh:∀ j∈ah x,j≠m)(k:K.Fn 0):∀ (r:List Ed) (i:Nat) (H:Hp) (M:List (Ed × Nat)) (c:Nat),i<=E.length->E.drop i=r->Out [m] H0 H->Mp H m (xB M) c->M.map (·.1)=E.take i->
  ∃ H',Ka JN GO cK k (.ptr g 0) (.map m) x (.int .i64 (E.length:Nat)) (.int .i64 (i:Nat)) H=k H'/\Out [m] H H'
 | [],i,H,M,c,hi,h,ho,hm,hM=>by
  obtain rfl:=drop_nil hi h
  refine⟨H,?_,Out.refl _ _⟩
  rw[VN]
  simp only[MB,ez,ag,af,Int.reduceBEq,Int.reduceBNe,Int.reduceLT,Int.reduceLE,Int.reduceGT,Int.reduceGE,Int.reduceNeg]
 | e::r,i,H,M,c,hi,h,ho,hm,hM=>by
  obtain⟨h1,h2,h3⟩:=eF h
  obtain⟨l1,l2,l3⟩:=hE.lt e (aaO h2)
  obtain⟨b,o,q1,q2,q3,q4,_⟩:=(hx.out ho fun j hj=>by rw[No];exact Wh j hj).at (by decide) (Sh h2)
  have hgH:=hg.out ho (by rw[No];exact Mx)
  have zb:=hgH.1
  have uJ:=hm.1
  have kJ:=hgH.aq 2 0 (by simp)
  have es:=eE h1 (by have:=hE.len;omega)
  have d1:decide ((0:Int)<=((e.1:Nat):Int))=true:=decide_eq_true (by omega)
  have d2:decide (((e.1:Nat):Int)<(N:Int))=true:=decide_eq_true (by omega)
  have d3:decide ((0:Int)<=((e.2:Nat):Int))=true:=decide_eq_true (by omega)
  have d4:decide (((e.2:Nat):Int)<(N:Int))=true:=decide_eq_true (by omega)
  have d5:(((e.1:Nat):Int)==((e.2:Nat):Int))=false:=beq_false_of_ne (by omega)
  have aH:∀ y∈M,y.1≠e:=by
   intro y hy heq
   have h4:y.1∈E.take i:=by rw[<-hM];exact List.mem_map_of_mem hy
   have iO:=hE.nd
   rw[<-ai3 i E,h,af2] at iO
   exact iO.2.2 _ h4 e (.head _) heq
  have lQ:=hx.one
  have ha1:Mp (al (al (al H (cx e) 231 0) [.int .i64 N,x] 201 0) [.int .i64 N,x] 201 0) m (xB M) c:=((hm.out (aG H _ _ _) (by simp)).out (aG _ _ _ _) (by simp)).out (aG _ _ _ _) (by simp)
  obtain⟨H1,u1,u2,u3,u4⟩:=upE ha1 aH
  have awW:(al (al (al H (cx e) 231 0) [.int .i64 N,x] 201 0) [.int .i64 N,x] 201 0).next=H.next+3:=rfl
  have o1:Out [m] H H1:=((((aG H (cx e) 231 0).al [.int .i64 N,x] 201 0).al [.int .i64 N,x] 201 0).mono (S':=[m]) (fun j hj=>by cases hj)).trans u3
  obtain⟨H',i1,i2⟩:=aea hE hx hg Mx Wh k r (i+1) H1 (M++[(e,c)]) (c+1) h1 h3 (ho.trans o1) u2 (by rw[afg,hM,aiI,h2];rfl)
  refine⟨H',?_,o1.trans i2⟩
  have lk:=lkE ha1 aH
  have AE:aq H b o 2=some (cx e):=q4
  have q5:aq H g 0 2=some [.int .i64 N,x]:=kJ
  have e0:(cx e)[0]? = some (.int .i64 e.1):=rfl
  have e1:(cx e)[1]? = some (.int .i64 e.2):=rfl
  have e2:(cx e).take 2=cx e:=rfl
  have DU:(cx e).length=2:=rfl
  have lI:(cx e).all bq=true:=rfl
  have xM:st 2 (.ptr H.next 0) (.agg (cx e)) (al H [.int .i64 0,.int .i64 0] 231 0)=some (al H (cx e) 231 0):=iI rfl rfl rfl (by decide) rfl
  rw[VN]
  simp(disch:=first|exact zqq|fail)only[MB,aU h1,q1,AE,q5,xM,e0,e1,e2,DU,aga _ _ _ lQ,d1,d2,d3,d4,d5,lk,u1,es,i1,Bool.and_self,aj,ak,Nat.reduceAdd,ag,af,Int.reduceBEq,Int.reduceBNe,Int.reduceLT,Int.reduceLE,Int.reduceGT,Int.reduceGE,Int.reduceNeg]
abbrev gv (N:Nat)(x:AV):AV := .agg [.int .i64 N,x]
theorem W3 {N:Nat}{E:List Ed}{x:AV}{H:Hp}(hE:qq N E)(hx:RL H 2 x (ku E)):∃ H',cK (.func (.func 155) [] []) [gv N x] H=some (.bool true,H')/\Out [] H H':=by
 have lQ:=hx.one
 have hN:=hE.n
 have nD:=aG H [.int .i64 N,x] 201 0
 obtain⟨H2,m1,m2,m3,m4⟩:=NK (al H [.int .i64 N,x] 201 0)
 have oU:Out [] H H2:=nD.trans m3
 rw[cu] at m1 m2
 have ba:=hx.1.lt
 obtain⟨H',i1,i2⟩:=aea (g:=H.next) (m:=H.next+1) hE (hx.ar oU) ((aZ H [.int .i64 N,x] 201 0).out m3 (by simp)) (by omega) (fun j hj=>by have:=ba j hj;omega) (fun h=>some (.bool true,h)) E 0 H2 [] 0 (ace _) abK (Out.refl _ _) m2 rfl
 refine⟨H',apB ?_,oU.then i2 fun j hj=>by rw[No] at hj;exact .inr (by omega)⟩
 have hl:=(hx.ar oU).len (by decide)
 rw[OG] at hl
 have d1:decide ((N:Int)<0)=false:=decide_eq_false (by omega)
 have d2:decide ((16:Int)<(N:Int))=false:=decide_eq_false (by omega)
 rw[show (((0:Nat):Int))=0 from rfl] at i1
 have Aa:cellAt H2 H.next 1=some x:=by
  rw[m3.cellAt (by rw[cu];omega) (by simp)]
  exact (aZ H [.int .i64 N,x] 201 0).cellAt rfl
 unfold Pw
 simp(disch:=first|exact zqq|fail)only[d1,d2,m1,hl,i1,Aa,aj,ak,Nat.reduceAdd,ag,af,Int.reduceBEq,Int.reduceBNe,Int.reduceLT,Int.reduceLE,Int.reduceGT,Int.reduceGE,Int.reduceNeg]
def vU (E:List Ed)(n:Nat)(ac9:Bool):List Nat:=E.filterMap fun e=>if (bif ac9 then e.2 else e.1)=n then some (bif ac9 then e.1 else e.2) else none
def dG (l:List Nat):List Int:=l.map fun (n:Nat)=>(n:Int)
theorem xF (l:List Nat):(dG l).length=l.length:=by simp[dG]
theorem Qe (a b:List Nat):dG (a++b)=dG a++dG b:=by simp[dG]
theorem VK (E:List Ed)(n:Nat)(b:Bool):(vU E n b).length<=E.length:=List.length_filterMap_le _ _
theorem Un {N:Nat}{E:List Ed}{x:AV}{H0:Hp}(b1:Bool){n:Nat}(hE:E.length<=300)(hx:RL H0 2 x (ku E)):∀ (r:List Ed) (i:Nat) (H:Hp) (y:AV) (acc:List Nat) (S:List Nat),i<=E.length->E.drop i=r->Out S H0 H->(∀ j∈S,H0.next<=j)->Ow H 3 1 y (ints (dG acc))->(∀ j∈ah y,H0.next<=j)->acc.length<=i->
  ∃ y' H',(∀ k:K.Fn 1,IY JN GO cK k (.int .i64 n) (.int .i64 (bif b1 then 1 else 0)) y x (.int .i64 (E.length:Nat)) (.int .i64 (i:Nat)) H=k y' H')/\Ow H' 3 1 y' (ints (dG (acc++vU r n b1)))/\Out (ah y) H H'/\∀ j∈ah y',j∈ah y\/H.next<=j
 | [],i,H,y,acc,S,hi,h,ho,hS,hy,Kr,ha=>by
  obtain rfl:=drop_nil hi h
  refine⟨y,H,fun k => ?_,by simpa[vU] using hy,Out.refl _ _,fun j hj => .inl hj⟩
  rw[RX]
  simp only[Fx,ez,ag,af,Int.reduceBEq,Int.reduceBNe,Int.reduceLT,Int.reduceLE,Int.reduceGT,Int.reduceGE,Int.reduceNeg]
 | e::r,i,H,y,acc,S,hi,h,ho,hS,hy,Kr,ha=>by
  obtain⟨h1,h2,h3⟩:=eF h
  have eL:=hx.1.lt
  obtain⟨b,o,q1,q2,q3,q4,_⟩:=(hx.out ho fun j hj=>fun q=>by have:=hS j q;have:=eL j hj;omega).at (by decide) (Sh h2)
  have es:=eE h1 (by omega)
  have AE:aq H b o 2=some (cx e):=q4
  have e0:(cx e)[0]? = some (.int .i64 e.1):=rfl
  have e1:(cx e)[1]? = some (.int .i64 e.2):=rfl
  have DU:(cx e).length=2:=rfl
  have xM:st 2 (.ptr H.next 0) (.agg (cx e)) (al H [.int .i64 0,.int .i64 0] 231 0)=some (al H (cx e) 231 0):=iI rfl rfl rfl (by decide) rfl
  have nD:=aG H (cx e) 231 0
  have w0:IntKind.wrap .i64 (1-0)=1:=rfl
  have w1:IntKind.wrap .i64 (1-1)=0:=rfl
  by_cases hq:(bif b1 then e.2 else e.1)=n
  ·have hb:vU (e::r) n b1=(bif b1 then e.1 else e.2)::vU r n b1:=by simp[vU,hq]
   obtain⟨y1,H1,p1,p2,p3,p4,p5⟩:=uB (fM:=3) (z:=[(.int .i64 0)]) (vs:=[.int .i64 ((bif b1 then e.1 else e.2:Nat):Int)]) (hy.out nD (by simp)) rfl rfl (by decide) (by rw[lK,xF];simp;omega)
   have qR:ints (dG acc)++[.int .i64 ((bif b1 then e.1 else e.2:Nat):Int)]=ints (dG (acc++[bif b1 then e.1 else e.2])):=by rw[Qe,Lc];rfl
   rw[qR] at p2
   have o1:Out (ah y) H H1:=(nD.mono (S':=ah y) fun j hj=>by cases hj).trans p3
   have kA:=o1.nx
   have mG:=ho.nx
   obtain⟨y',H',i1,i2,i3,i4⟩:=Un (N:=N) b1 (n:=n) hE hx r (i+1) H1 y1 (acc++[bif b1 then e.1 else e.2]) (S++ah y) h1 h3 ((ho.mono (S':=S++ah y) fun j hj=>abD _ hj).trans (o1.mono fun j hj=>abo _ hj)) (fun j hj=>(abN.1 hj).elim (hS j) (Kr j)) p2 (fun j hj=>(p4 j hj).elim (Kr j) fun q=>by rw[cu] at q;omega) (by simp;omega)
   refine⟨y',H',fun k => ?_,by rw[hb];simpa[afk] using i2,o1.then i3 fun j hj=>(p4 j hj).imp id fun q=>by rw[cu] at q;omega,fun j hj=>(i4 j hj).elim (fun q=>(p4 j q).imp id fun q=>by rw[cu] at q;omega) fun q => .inr (by omega)⟩
   have iu:=p1 (H.next+1) rfl
   rw[RX]
   cases b1 with
   | true=>
    simp only[cond_true] at hq iu i1
    subst hq
    simp(disch:=first|exact zqq|fail)only[cond_true,Fx,aU h1,q1,AE,xM,e0,e1,DU,w1,iu,es,i1,aj,ak,Nat.reduceAdd,ag,af,Int.reduceBEq,Int.reduceBNe,Int.reduceLT,Int.reduceLE,Int.reduceGT,Int.reduceGE,Int.reduceNeg]
   | false=>
    simp only[cond_false] at hq iu i1
    subst hq
    simp(disch:=first|exact zqq|fail)only[cond_false,Fx,aU h1,q1,AE,xM,e0,e1,DU,w0,iu,es,i1,aj,ak,Nat.reduceAdd,ag,af,Int.reduceBEq,Int.reduceBNe,Int.reduceLT,Int.reduceLE,Int.reduceGT,Int.reduceGE,Int.reduceNeg]
  ·have hb:vU (e::r) n b1=vU r n b1:=by simp[vU,hq]
   obtain⟨y',H',i1,i2,i3,i4⟩:=Un (N:=N) b1 (n:=n) hE hx r (i+1) (al H (cx e) 231 0) y acc S h1 h3 (ho.al _ _ _) hS (hy.out nD (by simp)) Kr (by omega)
   refine⟨y',H',fun k => ?_,by rw[hb];exact i2,(nD.mono (S':=ah y) fun j hj=>by cases hj).trans i3,fun j hj=>(i4 j hj).imp id fun q=>by rw[cu] at q;omega⟩
   rw[RX]
   cases b1 with
   | true=>
    simp only[cond_true] at hq i1
    have aH:(((e.2:Nat):Int)==(n:Int))=false:=beq_false_of_ne (by omega)
    simp(disch:=first|exact zqq|fail)only[cond_true,Fx,aU h1,q1,AE,xM,e0,e1,DU,aH,es,i1,aj,ak,Nat.reduceAdd,ag,af,Int.reduceBEq,Int.reduceBNe,Int.reduceLT,Int.reduceLE,Int.reduceGT,Int.reduceGE,Int.reduceNeg]
   | false=>
    simp only[cond_false] at hq i1
    have aH:(((e.1:Nat):Int)==(n:Int))=false:=beq_false_of_ne (by omega)
    simp(disch:=first|exact zqq|fail)only[cond_false,Fx,aU h1,q1,AE,xM,e0,e1,DU,aH,es,i1,aj,ak,Nat.reduceAdd,ag,af,Int.reduceBEq,Int.reduceBNe,Int.reduceLT,Int.reduceLE,Int.reduceGT,Int.reduceGE,Int.reduceNeg]
open py
theorem aqt {H:Hp}{x:AV}{zs:List Int}(hx:Ow H 3 1 x (ints zs))(hl:zs.length<=16777216) :
  ∃ H',cK (.func (.func 192) [] []) [x] H=some (.tuple [],H')/\Ow H' 3 1 x (ints (iz.qC zs))/\Out (ah x) H H':=by
 generalize hz:ints zs=l at hx
 cases hx with
 | nil=>
  have:zs=[]:=by simpa[ints] using hz
  subst this
  refine⟨H,z6 (p:=iz.uW) (by kernel_rfl) rfl,?_,Out.refl _ _⟩
  simp[iz.qC,ints];exact .nil
 | @emp i off=>
  have:zs=[]:=by simpa[ints] using hz
  subst this
  refine⟨H,z6 (p:=iz.uW) (by kernel_rfl) ?_,?_,Out.refl _ _⟩
  ·unfold iz.uW
   simp only[if_true]
  ·simp[iz.qC,ints];exact .emp
 | @mk i off n cap ex _ c lo hi fl jc hg hf ij jJ iA hn hc hs h1 he=>
  subst hz
  rw[lK,ahD] at hn
  by_cases h0:n=0
  ·subst h0
   have:zs=[]:=List.length_eq_zero_iff.1 hn
   subst this
   refine⟨H,z6 (p:=iz.uW) (by kernel_rfl) ?_,?_,Out.refl _ _⟩
   ·unfold iz.uW
    simp only[if_true]
   ·exact .mk jc hg hf ij jJ iA (by simp[iz.qC,ints]) (by simp[iz.qC,ints]) hs (by simp[iz.qC,ints]) he
  ·have mM:=iz.aem zs
   have Gz:Ro H i off (ints zs):=⟨jc,c,lo,hi,3,fl,hg,ij,by rw[lK];omega,hc⟩
   have Jr:=Gz.aq
   rw[lK,hn] at Jr
   have ak9:(Am.aq H i off n).bind iz.Au=some zs:=by rw[Jr];exact iz.abJ zs
   have lr:iz.uW [.slice i off n cap ex 1] H=some (.tuple [],{ H with h:=H.h.df i (.cells (c.cJ off (iz.sF (iz.qC zs))) lo hi 3 fl) }):=by
    unfold iz.uW
    simp only
    rw[if_neg h0,if_pos ⟨trivial,by omega⟩,hg,acF]
    unfold iz.Pd
    simp only
    rw[if_pos ⟨ij,by omega,hf⟩,ak9]
    rfl
   have ff:∀ j,(H.h.df i (AO.cells (c.cJ off (iz.sF (iz.qC zs))) lo hi 3 fl)).get j=if j=i then some (AO.cells (c.cJ off (iz.sF (iz.qC zs))) lo hi 3 fl) else H.h.get j:=fun j=>Tr.TS _ _ _ _ (by rw[hg];rfl)
   refine⟨_,z6 (p:=iz.uW) (by kernel_rfl) lr,?_,⟨aaU _,fun j hj IU => ?_⟩⟩
   ·refine .mk (c:=c.cJ off (ints (iz.qC zs))) jc ?_ hf ij jJ iA (by rw[lK];omega) (fun k v hk => ?_) (fun k hk => ?_) (ar4 _) he
    ·show (H.h.df i _).get i=_
     rw[ff,if_pos rfl]
     rfl
    ·have qe:=(aaw.1 hk).1
     rw[Tr.wZ,if_pos ⟨by omega,by omega⟩,afG]
     exact hk
    ·rw[Tr.wZ]
     split
     ·rename_i lG
      rw[aaC (by omega)]
      rfl
     ·exact hs k hk
   ·show (H.h.df i _).get j=_
    rw[ff,if_neg (fun q=>IU (by subst q;rw[nF he];exact .head _))]
def sortN (l:List Nat):List Nat:=l.mergeSort fun x y=>decide (x<=y)
theorem atx (l:List Nat):(sortN l).length=l.length:=(List.mergeSort_perm l _).length_eq
theorem Ww {l:List Nat}{x:Nat}:x∈sortN l↔x∈l:=(List.mergeSort_perm l _).mem_iff
theorem asY (l:List Nat):iz.qC (dG l)=dG (sortN l):=by
 unfold iz.qC dG sortN
 rw[List.map_mergeSort]
 intro a _ b _
 simp
def kM (E:List Ed)(n:Nat)(b:Bool):List Nat:=sortN (vU E n b)
theorem XT (E:List Ed)(n:Nat)(b:Bool):(kM E n b).length<=E.length:=by unfold kM;rw[atx];exact VK E n b
theorem Sd {E:List Ed}{n x:Nat}:(x∈kM E n false↔(n,x)∈E)/\(x∈kM E n true↔(x,n)∈E):=by
 unfold kM vU
 rw[Ww,Ww,List.mem_filterMap,List.mem_filterMap]
 constructor
 ·constructor
  ·rintro⟨e,he,h⟩
   simp only[cond_false] at h
   split at h
   ·rename_i h1;cases h;subst h1;exact he
   ·cases h
  ·intro h;exact⟨_,h,by simp⟩
 ·constructor
  ·rintro⟨e,he,h⟩
   simp only[cond_true] at h
   split at h
   ·rename_i h1;cases h;subst h1;exact he
   ·cases h
  ·intro h;exact⟨_,h,by simp⟩
theorem am4 {N:Nat}{E:List Ed}{x:AV}{H:Hp}(b:Bool)(n:Nat)(hE:qq N E)(hx:RL H 2 x (ku E)) :
  ∃ y H',cK (.func (.func 176) [] []) [gv N x,.int .i64 n,.int .i64 (bif b then 1 else 0)] H=some (y,H')/\Ow H' 3 1 y (ints (dG (kM E n b)))/\Out [] H H'/\∀ j∈ah y,H.next<=j:=by
 have lQ:=hx.one
 have nD:=aG H [.int .i64 N,x] 201 0
 obtain⟨H2,g1,g2⟩:=W3 hE (hx.ar nD)
 have gC:=g2.nx
 rw[cu] at gC
 have oU:=nD.trans g2
 have oM:=hx.ar oU
 obtain⟨y,H3,i1,i2,i3,i4⟩:=Un (N:=N) b (n:=n) hE.len oM E 0 H2 .ae [] [] (ace _) abK (Out.refl _ _) (fun j hj=>by cases hj) .nil (fun j hj=>by cases hj) (aaU _)
 rw[ai6] at i2
 have hr:∀ j∈ah y,H2.next<=j:=fun j hj=>(i4 j hj).elim (fun q=>by cases q) id
 obtain⟨H4,s1,s2,s3⟩:=aqt i2 (by rw[xF];have:=VK E n b;have:=hE.len;omega)
 rw[asY] at s2
 refine⟨y,H4,awM ?_,s2,oU.trans ((i3.mono fun j hj=>by cases hj).then s3 fun j hj => .inr (hr j hj)),fun j hj=>by have:=hr j hj;omega⟩
 have hl:=oM.len (by decide)
 rw[OG] at hl
 have Aa:cellAt H2 H.next 1=some x:=by
  rw[g2.cellAt (by rw[cu];omega) (by simp)]
  exact (aZ H [.int .i64 N,x] 201 0).cellAt rfl
 rw[show (((0:Nat):Int))=0 from rfl] at i1
 unfold Xp
 simp(disch:=first|exact zqz|fail)only[g1,Aa,hl,i1,s1,aj,ak,ag,af,simprocAttr]
theorem aak {N:Nat}{E:List Ed}{x:AV}{H:Hp}(n:Nat)(hE:qq N E)(hx:RL H 2 x (ku E)) :
  ∃ y H',cK (.func (.func 157) [] []) [gv N x,.int .i64 n] H=some (y,H')/\Ow H' 3 1 y (ints (dG (kM E n false)))/\Out [] H H'/\∀ j∈ah y,H.next<=j:=by
 have lQ:=hx.one
 have nD:=aG H [.int .i64 N,x] 201 0
 obtain⟨y,H',h1,h2,h3,h4⟩:=am4 false n hE (hx.ar nD)
 refine⟨y,H',avU ?_,h2,nD.trans h3,fun j hj=>by have:=h4 j hj;rw[cu] at this;omega⟩
 simp only[cond_false] at h1
 unfold afd
 simp(disch:=first|exact zqz|fail)only[h1,aj,ak,ag,af,simprocAttr]
theorem EL {l:List Nat}{i n:Nat}(h:l[i]? = some n):(ints (dG l))[i]? = some (.int .i64 (n:Int)):=BB (by simp[dG,h])
theorem Tt {N steps:Nat}{bl:List Nat}{bx:AV}{A:Nat}(aA:0<steps)(jQ:∀ b∈bl,b<N)(nN:bl.length<=300)(bS cP cn bP:AV)(hA:A∉ah bx) :
  ∀ (r:List Nat) (i:Nat) (H:Hp) (out nx:List Nat) (ny:AV),i<=bl.length->bl.drop i=r->Rw H 1 bx (ints (dG bl))->(∀ j∈ah ny,j∉ah bx/\j≠A)->out.length=N->nx.length+r.length<=100000->Cs H A (ints (dG out)) 3 0->Ow H 3 1 ny (ints (dG nx))->
  ∃ uq H',(∀ (aX:K.Fn 1) (aD ec:K.Fn 4) (dI jh:K.Fn 7),GL JN GO cK aX aD ec dI jh bS (.slice A 0 N N true 1) (.int .i64 steps) ny cP cn bP bx (.int .i64 (bl.length:Nat)) (.int .i64 (i:Nat)) H=jh bS (.slice A 0 N N true 1) (.int .i64 steps) uq cP cn bP H')/\
   Cs H' A (ints (dG (ru steps r (out,nx)).1)) 3 0/\Ow H' 3 1 uq (ints (dG (ru steps r (out,nx)).2))/\Out (A::ah ny) H H'/\∀ j∈ah uq,j∈ah ny\/H.next<=j
 | [],i,H,out,nx,ny,hi,h,hb,hd,lu,iJ,hC,hO=>by
  obtain rfl:=drop_nil hi h
  refine⟨ny,H,fun aX aD ec dI jh => ?_,hC,hO,Out.refl _ _,fun j hj => .inl hj⟩
  rw[UR]
  simp only[JM,ez,ag,af,simprocAttr]
 | b::r,i,H,out,nx,ny,hi,h,hb,hd,lu,iJ,hC,hO=>by
  obtain⟨h1,h2,h3⟩:=eF h
  obtain⟨q,q1,q2⟩:=hb.gw (EL h2) .i64
  have TA:=jQ b (aaO h2)
  have es:=eE h1 (by omega)
  have uK:out[b]? = some (out[b]'(by omega)):=aaC (by omega)
  have Sy:=hC.ld (EL uK)
  have oK:ia 1 (.slice A 0 N N true 1) (.int .i64 (b:Int))=some (.ptr A b):=by rw[Ai TA];simp
  simp only[aa1] at iJ
  by_cases h0:out[b]'(by omega)=0
  ·rw[h0] at uK Sy
   obtain⟨H1,w1,w2,w3,w4⟩:=fP hC (by decide) (o:=b) (by rw[lK,xF];omega) (v := .int .i64 (steps:Int)) rfl
   have e9:(ints (dG out)).set b (.int .i64 (steps:Int))=ints (dG (out.set b steps)):=by simp[ints,dG,List.map_set]
   rw[e9] at w2
   have wB:=hO.out w3 fun j hj=>by rw[No];exact (hd j hj).2
   obtain⟨Tx,H2,p1,p2,p3,p4,p5⟩:=uB (fM:=3) (z:=[(.int .i64 0)]) (vs:=[.int .i64 (b:Int)]) wB rfl rfl (by decide) (by rw[lK,xF];simp;omega)
   have qR:ints (dG nx)++[.int .i64 (b:Int)]=ints (dG (nx++[b])):=by rw[Qe,Lc];rfl
   rw[qR] at p2
   have aH:A∉ah ny:=fun q=>(hd A q).2 rfl
   have hCl:=hC.1
   have apN:=hb.lt
   obtain⟨uq,H',i1,i2,i3,i4,i5⟩:=Tt (N:=N) aA jQ nN bS cP cn bP hA r (i+1) H2 (out.set b steps) (nx++[b]) Tx h1 h3 ((hb.out w3 fun j hj=>by rw[No];intro e;subst e;exact hA hj).out p3 fun j hj q=>(hd j q).1 hj)
    (fun j hj=>(p4 j hj).elim (hd j) fun q=>⟨fun z=>by have:=apN j z;omega,by omega⟩) (by rw[adU];exact lu) (by simp;omega) (w2.out p3 aH) p2
   have hex:ru steps (b::r) (out,nx)=ru steps r (out.set b steps,nx++[b]):=by
    show ru steps r (ud steps (out,nx) b)=_
    unfold ud
    rw[if_pos uK]
   have o2:Out (A::ah ny) H H2:=(w3.mono fun j hj=>by rw[No] at hj;subst hj;exact .head _).trans (p3.mono fun j hj => .tail _ hj)
   have kA:=p3.nx
   rw[hex]
   refine⟨uq,H',fun aX aD ec dI jh => ?_,i2,i3,o2.then i4 fun j hj => ?_,fun j hj=>(i5 j hj).elim (fun q=>(p4 j q).imp id fun q=>by omega) fun q => .inr (by omega)⟩
   ·have iu:=p1 _ rfl
    rw[UR]
    simp(disch:=first|exact zqz|fail)only[JM,aU h1,q1,q2,oK,Sy,Int.natCast_zero,w1,iu,es,i1,aj,ak,ag,af,simprocAttr]
   ·rcases aa7.1 hj with rfl | hj
    ·exact .inl (.head _)
    ·exact (p4 j hj).imp (fun q => .tail _ q) fun q=>by omega
  ·have ajE:out[b]? ≠ some 0:=fun q=>h0 (by rw[uK] at q;exact ac8 q)
   have hex:ru steps (b::r) (out,nx)=ru steps r (out,nx):=by
    show ru steps r (ud steps (out,nx) b)=_
    unfold ud
    rw[if_neg ajE]
   obtain⟨uq,H',i1,i2⟩:=Tt (N:=N) aA jQ nN bS cP cn bP hA r (i+1) H out nx ny h1 h3 hb hd lu (by omega) hC hO
   rw[hex]
   refine⟨uq,H',fun aX aD ec dI jh => ?_,i2⟩
   have aH:(((out[b]'(by omega):Nat):Int)==0)=false:=beq_false_of_ne (by omega)
   rw[UR]
   simp(disch:=first|exact zqz|fail)only[JM,aU h1,q1,q2,oK,Sy,aH,es,i1,aj,ak,ag,af,simprocAttr]
theorem WD {N steps:Nat}{E:List Ed}{x:AV}{g:Nat}{l:List Nat}{lx:AV}{A:Nat}(hE:qq N E)(aA:0<steps)(pP:l.length<=100)(hA:A∉ah lx/\A∉ah x/\A≠g) :
  ∀ (r:List Nat) (i:Nat) (H:Hp) (out nx:List Nat) (ny:AV),i<=l.length->l.drop i=r->Rw H 1 lx (ints (dG l))->RL H 2 x (ku E)->Cs H g [.int .i64 N,x] 201 0->(∀ j∈ah ny,j∉ah lx/\j∉ah x/\j≠g/\j≠A)->out.length=N->nx.length+r.length*300<=90000->Cs H A (ints (dG out)) 3 0->Ow H 3 1 ny (ints (dG nx))->
  ∃ uq H',(∀ (aX:K.Fn 1) (aD ec:K.Fn 4),I3 JN GO cK aX aD ec (.ptr g 0) (.slice A 0 N N true 1) (.int .i64 steps) ny lx (.int .i64 (l.length:Nat)) (.int .i64 (i:Nat)) H=ec (.ptr g 0) (.slice A 0 N N true 1) (.int .i64 steps) uq H')/\
   Cs H' A (ints (dG (uU (fun n=>kM E n false) steps r (out,nx)).1)) 3 0/\Ow H' 3 1 uq (ints (dG (uU (fun n=>kM E n false) steps r (out,nx)).2))/\Out (A::ah ny) H H'/\∀ j∈ah uq,j∈ah ny\/H.next<=j
 | [],i,H,out,nx,ny,hi,h,fc,hx,hg,hd,lu,iJ,hC,hO=>by
  obtain rfl:=drop_nil hi h
  refine⟨ny,H,fun aX aD ec => ?_,hC,hO,Out.refl _ _,fun j hj => .inl hj⟩
  rw[ad8]
  simp only[Tn,ez,ag,af,simprocAttr]
 | a::r,i,H,out,nx,ny,hi,h,fc,hx,hg,hd,lu,iJ,hC,hO=>by
  obtain⟨h1,h2,h3⟩:=eF h
  obtain⟨q,q1,q2⟩:=fc.gw (EL h2) .i64
  have es:=eE h1 (by omega)
  have lQ:=hx.one
  have kJ:=hg.aq 2 0 (by simp)
  have alm:aq H g 0 2=some [.int .i64 N,x]:=kJ
  obtain⟨bx,H1,b1,b2,b3,b4⟩:=aak a hE hx
  have jQ:∀ b∈kM E a false,b<N:=fun b hb=>(hE.lt _ (Sd.1.1 hb)).2.1
  have nN:=XT E a false
  have hEl:=hE.len
  have hCl:=hC.1
  have ahl:=hO.rw.lt
  simp only[aa1,ahJ,ajO] at iJ
  obtain⟨Tx,H2,i1,i2,i3,i4,i5⟩:=Tt (N:=N) aA jQ (by omega) (.ptr g 0) lx (.int .i64 (l.length:Nat)) (.int .i64 (i:Nat)) (fun q=>by have:=b4 A q;omega) (kM E a false) 0 H1 out nx ny (ace _) abK b2.rw (fun j hj=>⟨fun q=>by have:=b4 j q;have:=ahl j hj;omega,(hd j hj).2.2.2⟩) lu (by omega) (hC.out b3 (by simp)) (hO.out b3 (by simp))
  have kA:=b3.nx
  have R2:=fc.lt
  have eL:=hx.1.lt
  have zb:=hg.1
  have key:∀ j,j<H.next->j≠A->j∉ah ny->H2.h.get j=H.h.get j:=fun j hj ha hn=>by
   rw[i4.2 j (by omega) (by rw[aa7,not_or];exact⟨ha,hn⟩),b3.2 j hj (by simp)]
  have o2:Out (A::ah ny) H H2:=(b3.mono fun j hj=>by cases hj).trans i4
  have d1:∀ j∈ah lx,j∉A::ah ny:=fun j hj=>by rw[aa7,not_or];exact⟨fun e=>hA.1 (e▸hj),fun q=>(hd j q).1 hj⟩
  have d2:∀ j∈ah x,j∉A::ah ny:=fun j hj=>by rw[aa7,not_or];exact⟨fun e=>hA.2.1 (e▸hj),fun q=>(hd j q).2.1 hj⟩
  have d3:g∉A::ah ny:=by rw[aa7,not_or];exact⟨fun e=>hA.2.2 e.symm,fun q=>(hd g q).2.2.1 rfl⟩
  have mM:=(Nv (sc:=fun n=>kM E n false) aA [a] (out,nx)).len
  have hl1:uU (fun n=>kM E n false) steps (a::r) (out,nx)=uU (fun n=>kM E n false) steps r (ru steps (kM E a false) (out,nx)):=rfl
  have Et:=RG aA (kM E a false) (out,nx)
  have hz:=Et.Du
  have abw:(ru steps (kM E a false) (out,nx)).2.length<=nx.length+(kM E a false).length:=by
   have arT:∀ (bs:List Nat) (s:List Nat × List Nat),(ru steps bs s).2.length<=s.2.length+bs.length:=by
    intro bs
    induction bs with
    | nil=>intro s;exact aaU _
    | cons b bs ih=>
     intro s
     have h5:=ih (ud steps s b)
     have h6:(ud steps s b).2.length<=s.2.length+1:=by unfold ud;split<;>simp
     show (ru steps bs (ud steps s b)).2.length<=_
     simp only[aa1];omega
   exact arT _ _
  obtain⟨uq,H',k1,k2,k3,k4,k5⟩:=WD hE aA pP hA r (i+1) H2 _ _ Tx h1 h3 (fc.out o2 d1) (hx.out o2 d2) (hg.out o2 d3) (fun j hj=>(i5 j hj).elim (fun q=>⟨(hd j q).1,(hd j q).2.1,(hd j q).2.2.1,(hd j q).2.2.2⟩) fun q=>⟨fun z=>by have:=R2 j z;omega,fun z=>by have:=eL j z;omega,by omega,by omega⟩) (Et.len.trans lu) (by omega) i2 i3
  rw[hl1]
  refine⟨uq,H',fun aX aD ec => ?_,k2,k3,o2.then k4 fun j hj => ?_,fun j hj=>(k5 j hj).elim (fun q=>(i5 j q).imp id fun q=>by omega) fun q => .inr (by have:=o2.nx;omega)⟩
  ·have wT:=b2.rw.jn
   rw[lK,xF] at wT
   rw[show (((0:Nat):Int))=0 from rfl] at i1
   rw[ad8]
   simp(disch:=first|exact zqz|fail)only[Tn,aU h1,q1,q2,alm,b1,wT,i1,es,k1,aj,ak,ag,af,simprocAttr]
  ·rcases aa7.1 hj with rfl | hj
   ·exact .inl (.head _)
   ·exact (i5 j hj).imp (fun q => .tail _ q) fun q=>by omega
theorem aos {N:Nat}{E:List Ed}{x:AV}{g A:Nat}(hE:qq N E)(hA:A∉ah x/\A≠g):∀ (f:Nat) (l out:List Nat) (steps:Nat) (lx:AV) (H:Hp),0<steps->steps+f<=100->out.length=N->l.length<=100->(l=[]\/fg out<f)->Rw H 1 lx (ints (dG l))->A∉ah lx->RL H 2 x (ku E)->Cs H g [.int .i64 N,x] 201 0->Cs H A (ints (dG out)) 3 0->
  ∃ H',(∀ k:K.Fn 1,DN JN GO cK k (.ptr g 0) (.slice A 0 N N true 1) lx (.int .i64 steps) H=k (.slice A 0 N N true 1) H')/\Cs H' A (ints (dG (vI (fun n=>kM E n false) f l out steps))) 3 0/\Out [A] H H':=by
 have WW:∀ (out:List Nat) (steps:Nat) (lx:AV) (H:Hp),Rw H 1 lx (ints (dG []))->∀ k:K.Fn 1,DN JN GO cK k (.ptr g 0) (.slice A 0 N N true 1) lx (.int .i64 steps) H=k (.slice A 0 N N true 1) H:=by
  intro out steps lx H fc k
  have hl:=fc.jn
  have rW:aK lx=some (.int .i64 0):=hl
  rw[acs]
  simp only[PD,rW,ag,af,simprocAttr]
 intro f
 induction f with
 | zero=>
  intro l out steps lx H hs O8 lu lW hz fc W2 hx hg hC
  obtain rfl:=hz.resolve_right (by omega)
  exact⟨H,WW out steps lx H fc,hC,Out.refl _ _⟩
 | succ f ih=>
  intro l out steps lx H hs O8 lu lW hz fc W2 hx hg hC
  by_cases rD:l=[]
  ·subst rD
   refine⟨H,WW out steps lx H fc,?_,Out.refl _ _⟩
   unfold vI
   rw[if_pos rfl];exact hC
  ·have hlp:0<l.length:=List.length_pos_iff.2 rD
   have S:=Nv (sc:=fun n=>kM E n false) hs l (out,[])
   have fJ:=S.Du
   simp only[acG,afF] at fJ
   have hzN:fg out<=N:=by unfold fg;rw[<-lu];exact List.countP_le_length
   have hN:=hE.n
   obtain⟨ny,H1,i1,i2,i3,i4,i5⟩:=WD hE hs lW ⟨W2,hA.1,hA.2⟩ l 0 H out [] .ae (ace _) abK fc hx hg (fun j hj=>by cases hj) lu (by simp;omega) hC .nil
   have o1:Out [A] H H1:=i4.mono fun j hj=>by
    rcases aa7.1 hj with rfl | hj
    ·exact .head _
    ·cases hj
   have Ff:∀ j∈ah ny,H.next<=j:=fun j hj=>(i5 j hj).elim (fun q=>by cases q) id
   obtain⟨H',k1,k2,k3⟩:=ih _ _ (steps+1) ny H1 (by omega) (by omega) (S.len.trans lu) (by omega) (by
    have:=hz.resolve_left rD
    cases Fs:(uU (fun n=>kM E n false) steps l (out,[])).2 with
    | nil=>exact .inl rfl
    | cons p q=>rw[Fs] at fJ;simp only[aa1] at fJ;exact .inr (by omega)) i3.rw (fun q=>by have:=Ff A q;have:=hC.1;omega) (hx.out o1 fun j hj=>by rw[No];intro e;subst e;exact hA.1 hj) (hg.out o1 (by rw[No];exact fun e=>hA.2 e.symm)) i2
   refine⟨H',fun k => ?_,?_,o1.trans k3⟩
   ·have hl:=fc.jn
    rw[lK,xF] at hl
    have d:decide ((0:Int)<((l.length:Nat):Int))=true:=decide_eq_true (by omega)
    have e:IntKind.wrap .i64 ((steps:Int)+1)=((steps+1:Nat):Int):=by rw[wrap_i64 (by omega) (by omega)];rfl
    rw[show (((0:Nat):Int))=0 from rfl] at i1
    rw[acs]
    simp only[PD,hl,d,i1,e,k1,ag,af,simprocAttr]
   ·unfold vI
    rw[if_neg rD];exact k2
theorem aen {N:Nat}{E:List Ed}{x:AV}{H:Hp}{n:Nat}(hE:qq N E)(hx:RL H 2 x (ku E)):∃ A H',cK (.func (.func 156) [] []) [gv N x,.int .i64 n] H=some (.slice A 0 N N true 1,H')/\Cs H' A (ints (dG (far (fun n=>kM E n false) N n))) 3 0/\Out [] H H'/\H.next<=A:=by
 have lQ:=hx.one
 have hN:=hE.n
 have nD:=aG H [.int .i64 N,x] 201 0
 have hm:=aeh (H:=al H [.int .i64 N,x] 201 0) (z := .int .i64 0) (el:=3) (n:=N) .i64 .i64 (by omega)
 have amK:List.replicate N (AV.int .i64 0)=ints (dG (List.replicate N 0)):=by simp[ints,dG]
 rw[cu,amK] at hm
 have oU:=nD.al (ints (dG (List.replicate N 0))) 3 0
 have c2:=aZ (al H [.int .i64 N,x] 201 0) (ints (dG (List.replicate N 0))) 3 0
 have c1:=(aZ H [.int .i64 N,x] 201 0).out (aG (al H [.int .i64 N,x] 201 0) (ints (dG (List.replicate N 0))) 3 0) (by simp)
 have o3:=aG (al (al H [.int .i64 N,x] 201 0) (ints (dG (List.replicate N 0))) 3 0) [.int .i64 (n:Int)] 3 0
 have xL:=oU.trans o3
 have c3:=aZ (al (al H [.int .i64 N,x] 201 0) (ints (dG (List.replicate N 0))) 3 0) [.int .i64 (n:Int)] 3 0
 have Vg:Rw (al (al (al H [.int .i64 N,x] 201 0) (ints (dG (List.replicate N 0))) 3 0) [.int .i64 (n:Int)] 3 0) 1 (.slice (H.next+2) 0 1 1 true 1) (ints (dG [n])) := .mk c3.ro rfl (aaU _) rfl
 have eL:=hx.1.lt
 obtain⟨H',i1,i2,i3⟩:=aos (g:=H.next) (A:=H.next+1) hE ⟨fun q=>by have:=eL _ q;omega,by omega⟩ (N+1) [n] (List.replicate N 0) 1 (.slice (H.next+2) 0 1 1 true 1) _ (by decide) (by omega) (by simp) (by simp) (.inr (by rw[Wq];omega)) Vg (by rw[nF (by rfl),No];omega) (hx.ar xL) (c1.out o3 (by simp)) (c2.out o3 (by simp))
 refine⟨H.next+1,H',ake ?_,i2,xL.then i3 fun j hj=>by rw[No] at hj;exact .inr (by omega),by omega⟩
 rw[show (((1:Nat):Int))=1 from rfl] at i1
 unfold abP
 simp(disch:=first|exact zqz|fail)only[hm,i1,aj,ak,ag,af,simprocAttr]
abbrev vv (E:List Ed)(N n:Nat):List Nat:=far (fun n=>kM E n false) N n
theorem asK {sc:Nat->List Nat}{B:Nat}:∀ (f:Nat) (l out:List Nat) (steps:Nat),steps+f<=B->(∀ v∈out,v<=B)->∀ v∈vI sc f l out steps,v<=B:=by
 have h1:∀ (steps b:Nat) (s:List Nat × List Nat),steps<=B->(∀ v∈s.1,v<=B)->∀ v∈(ud steps s b).1,v<=B:=by
  intro steps b s hs h v hv
  unfold ud at hv
  split at hv
  ·rcases agt hv with hv | rfl
   ·exact h v hv
   ·exact hs
  ·exact h v hv
 have h2:∀ (steps:Nat) (bs:List Nat) (s:List Nat × List Nat),steps<=B->(∀ v∈s.1,v<=B)->∀ v∈(ru steps bs s).1,v<=B:=by
  intro steps bs
  induction bs with
  | nil=>intro s hs h;exact h
  | cons b bs ih=>intro s hs h;exact ih _ hs (h1 steps b s hs h)
 have h3:∀ (steps:Nat) (l:List Nat) (s:List Nat × List Nat),steps<=B->(∀ v∈s.1,v<=B)->∀ v∈(uU sc steps l s).1,v<=B:=by
  intro steps l
  induction l with
  | nil=>intro s hs h;exact h
  | cons b bs ih=>intro s hs h;exact ih _ hs (h2 steps _ s hs h)
 intro f
 induction f with
 | zero=>intro l out steps hs h;exact h
 | succ f ih=>
  intro l out steps hs h
  unfold vI
  split
  ·exact h
  ·exact ih _ _ _ (by omega) (h3 steps l _ (by omega) h)
theorem api {E:List Ed}{N n:Nat}(hN:N<=16):∀ v∈vv E N n,v<=100:=by
 refine asK _ _ _ _ (by omega) ?_
 intro v hv
 rw[List.eq_of_mem_replicate hv];omega
theorem agl {N n:Nat}{E:List Ed}(hE:qq N E):(vv E N n).length=N:=
 (agY (C:=fun _=>True) (fun a b hb=>(hE.lt _ (Sd.1.1 hb)).2.1) (fun _ _=>trivial) (fun _ _ _ _=>trivial)).1
def tj (E:List Ed)(N n:Nat):Nat:=(vv E N n).getD n 0
theorem Y1 {N n m:Nat}{E:List Ed}(hE:qq N E)(hm:m<N):(vv E N n)[m]? = some ((vv E N n).getD m 0):=by
 rw[ah7,aaC (by rw[agl hE];exact hm)];rfl
theorem aev {N n m:Nat}{E:List Ed}{H':Hp}{A:Nat}(hE:qq N E)(hm:m<N)(hC:Cs H' A (ints (dG (vv E N n))) 3 0):ia 1 (.slice A 0 N N true 1) (.int .i64 (m:Int))=some (.ptr A m)/\cellAt H' A m=some (.int .i64 (((vv E N n).getD m 0:Nat):Int)):=
 ⟨by rw[Ai hm];simp,hC.cellAt (EL (Y1 hE hm))⟩
theorem ar1 {N n m:Nat}{E:List Ed}(hE:qq N E)(hm:m<N):(vv E N n).getD m 0<=100:=api hE.n _ (aaO (Y1 hE hm))
theorem ave {N:Nat}{E:List Ed}{x:AV}{g:Nat}(hE:qq N E):∀ (m i st sp:Nat) (H:Hp),i+m=N->st<N+1->(0<sp->st<N)->sp<=100->(sp=0 ↔ ∀ n,n<i->tj E N n=0)->RL H 2 x (ku E)->Cs H g [.int .i64 N,x] 201 0->
  ∃ yu vb H',(∀ k:K.Fn 3,Jo JN GO cK k (.ptr g 0) (.int .i64 st) (.int .i64 sp) (.int .i64 N) (.int .i64 i) H=k (.ptr g 0) (.int .i64 (yu:Nat)) (.int .i64 (vb:Nat)) H')/\(0<vb->yu<N)/\vb<=100/\(vb=0 ↔ ∀ n,n<N->tj E N n=0)/\Out [] H H':=by
 intro m
 induction m with
 | zero=>
  intro i st sp H hi aA MZ lh Rz hx hg
  obtain rfl:i=N:=by omega
  refine⟨st,sp,H,fun k => ?_,MZ,lh,Rz,Out.refl _ _⟩
  rw[JE]
  simp only[BH,ez,ag,af,simprocAttr]
 | succ m ih=>
  intro i st sp H hi aA MZ lh Rz hx hg
  have lQ:=hx.one
  have hN:=hE.n
  have K5:i<N:=by omega
  have kJ:aq H g 0 2=some [.int .i64 N,x]:=hg.aq 2 0 (by simp)
  obtain⟨A,H1,f1,f2,f3,f4⟩:=aen (n:=i) hE hx
  obtain⟨a1,a2⟩:=aev hE K5 f2
  have hle:=ar1 (n:=i) hE K5
  have hd:(vv E N i).getD i 0=tj E N i:=rfl
  rw[hd] at a2 hle
  have es:IntKind.wrap .i64 ((i:Int)+1)=((i+1:Nat):Int):=by rw[wrap_i64 (by omega) (by omega)];rfl
  have ba:decide (((i:Nat):Int)<((N:Nat):Int))=true:=decide_eq_true (by omega)
  by_cases hk:0<tj E N i
  ·have dk:decide ((0:Int)<((tj E N i:Nat):Int))=true:=decide_eq_true (by omega)
   by_cases h0:sp=0
   ·obtain⟨yu,vb,H',i1,i2,i3,i4,i5⟩:=ih (i+1) i (tj E N i) H1 (by omega) (by omega) (fun _=>K5) hle ⟨fun q=>by omega,fun q=>by have:=q i (by omega);omega⟩ (hx.ar f3) (hg.out f3 (by simp))
    refine⟨yu,vb,H',fun k => ?_,i2,i3,i4,f3.trans i5⟩
    subst h0
    rw[JE]
    simp(disch:=first|exact zqz|fail)only[BH,ba,kJ,f1,a1,a2,dk,Int.natCast_zero,es,i1,aj,ak,ag,af,simprocAttr]
   ·have e0:((sp:Int)==0)=false:=beq_false_of_ne (by omega)
    by_cases h1:tj E N i<sp
    ·have dl:decide (((tj E N i:Nat):Int)<((sp:Nat):Int))=true:=decide_eq_true (by omega)
     obtain⟨yu,vb,H',i1,i2,i3,i4,i5⟩:=ih (i+1) i (tj E N i) H1 (by omega) (by omega) (fun _=>K5) hle ⟨fun q=>by omega,fun q=>by have:=q i (by omega);omega⟩ (hx.ar f3) (hg.out f3 (by simp))
     refine⟨yu,vb,H',fun k => ?_,i2,i3,i4,f3.trans i5⟩
     rw[JE]
     simp(disch:=first|exact zqz|fail)only[BH,ba,kJ,f1,a1,a2,dk,e0,dl,es,i1,aj,ak,ag,af,simprocAttr]
    ·have dl:decide (((tj E N i:Nat):Int)<((sp:Nat):Int))=false:=decide_eq_false (by omega)
     obtain⟨yu,vb,H',i1,i2,i3,i4,i5⟩:=ih (i+1) st sp H1 (by omega) aA MZ lh ⟨fun q=>by omega,fun q=>by have:=q i (by omega);omega⟩ (hx.ar f3) (hg.out f3 (by simp))
     refine⟨yu,vb,H',fun k => ?_,i2,i3,i4,f3.trans i5⟩
     rw[JE]
     simp(disch:=first|exact zqz|fail)only[BH,ba,kJ,f1,a1,a2,dk,e0,dl,es,i1,aj,ak,ag,af,simprocAttr]
  ·have Cd:tj E N i=0:=by omega
   have dk:decide ((0:Int)<((tj E N i:Nat):Int))=false:=decide_eq_false (by omega)
   obtain⟨yu,vb,H',i1,i2,i3,i4,i5⟩:=ih (i+1) st sp H1 (by omega) aA MZ lh (Rz.trans ⟨fun q n hn=>by
    by_cases hni:n=i
    ·subst hni;exact Cd
    ·exact q n (by omega),fun q n hn=>q n (by omega)⟩) (hx.ar f3) (hg.out f3 (by simp))
   refine⟨yu,vb,H',fun k => ?_,i2,i3,i4,f3.trans i5⟩
   rw[JE]
   simp(disch:=first|exact zqz|fail)only[BH,ba,kJ,f1,a1,a2,dk,es,i1,aj,ak,ag,af,simprocAttr]
theorem Vp {N:Nat}{E:List Ed}{x:AV}{g st left:Nat}{bl:List Nat}(hE:qq N E)(aA:st<N)(jQ:∀ b∈bl,b<N)(nN:bl.length<=300):∀ (r:List Nat) (i:Nat) (bx y:AV) (out:List Nat) (H:Hp),i<=bl.length->bl.drop i=r->Rw H 1 bx (ints (dG bl))->RL H 2 x (ku E)->Cs H g [.int .i64 N,x] 201 0->Ow H 3 1 y (ints (dG out))->out.length<=10000->
  ∃ y' mj H',(∀ (gR:K.Fn 1) (mB mJ:K.Fn 4),JO JN GO cK gR mB mJ (.ptr g 0) (.int .i64 st) y (.int .i64 left) bx (.int .i64 (bl.length:Nat)) (.int .i64 (i:Nat)) H=mJ (.ptr g 0) (.int .i64 st) y' (.int .i64 left) H')/\Ow H' 3 1 y' (ints (dG mj))/\(mj=out\/∃ b,b<N/\mj=out++[b])/\Out (ah y) H H'/\∀ j∈ah y',j∈ah y\/H.next<=j
 | [],i,bx,y,out,H,hi,h,hb,hx,hg,hO,lu=>by
  obtain rfl:=drop_nil hi h
  refine⟨y,out,H,fun gR mB mJ => ?_,hO,.inl rfl,Out.refl _ _,fun j hj => .inl hj⟩
  rw[Mv]
  simp only[Fa,ez,ag,af,simprocAttr]
 | b::r,i,bx,y,out,H,hi,h,hb,hx,hg,hO,lu=>by
  obtain⟨h1,h2,h3⟩:=eF h
  obtain⟨q,q1,q2⟩:=hb.gw (EL h2) .i64
  have TA:=jQ b (aaO h2)
  have es:=eE h1 (by omega)
  have lQ:=hx.one
  have kJ:aq H g 0 2=some [.int .i64 N,x]:=hg.aq 2 0 (by simp)
  by_cases uh:b=st
  ·have d:(((b:Nat):Int) != ((st:Nat):Int))=false:=by subst uh;simp
   obtain⟨y',mj,H',i1,i2⟩:=Vp (left:=left) hE aA jQ nN r (i+1) bx y out H h1 h3 hb hx hg hO lu
   refine⟨y',mj,H',fun gR mB mJ => ?_,i2⟩
   rw[Mv]
   simp(disch:=first|exact zqz|fail)only[Fa,aU h1,q1,q2,d,es,i1,aj,ak,ag,af,simprocAttr]
  ·have d:(((b:Nat):Int) != ((st:Nat):Int))=true:=by simp;omega
   obtain⟨A,H1,f1,f2,f3,f4⟩:=aen (n:=b) hE hx
   obtain⟨a1,a2⟩:=aev hE aA f2
   by_cases hl:(vv E N b).getD st 0=left
   ·have d2:((((vv E N b).getD st 0:Nat):Int)==((left:Nat):Int))=true:=by rw[hl];simp
    obtain⟨y1,H2,p1,p2,p3,p4,p5⟩:=uB (fM:=3) (z:=[(.int .i64 0)]) (vs:=[.int .i64 (b:Int)]) (hO.out f3 (by simp)) rfl rfl (by decide) (by rw[lK,xF];simp;omega)
    have qR:ints (dG out)++[.int .i64 (b:Int)]=ints (dG (out++[b])):=by rw[Qe,Lc];rfl
    rw[qR] at p2
    have kA:=f3.nx
    refine⟨y1,out++[b],H2,fun gR mB mJ => ?_,p2,.inr ⟨b,TA,rfl⟩,(f3.mono fun j hj=>by cases hj).trans p3,fun j hj=>(p4 j hj).imp id fun q=>by omega⟩
    have iu:=p1 _ rfl
    rw[Mv]
    simp(disch:=first|exact zqz|fail)only[Fa,aU h1,q1,q2,d,kJ,f1,a1,a2,d2,iu,aj,ak,ag,af,simprocAttr]
   ·have d2:((((vv E N b).getD st 0:Nat):Int)==((left:Nat):Int))=false:=beq_false_of_ne (by omega)
    obtain⟨y',mj,H',i1,i2,i3,i4,i5⟩:=Vp (left:=left) hE aA jQ nN r (i+1) bx y out H1 h1 h3 (hb.ar f3) (hx.ar f3) (hg.out f3 (by simp)) (hO.out f3 (by simp)) lu
    have kA:=f3.nx
    refine⟨y',mj,H',fun gR mB mJ => ?_,i2,i3,(f3.mono fun j hj=>by cases hj).trans i4,fun j hj=>(i5 j hj).imp id fun q=>by omega⟩
    rw[Mv]
    simp(disch:=first|exact zqz|fail)only[Fa,aU h1,q1,q2,d,kJ,f1,a1,a2,d2,es,i1,aj,ak,ag,af,simprocAttr]
theorem ap0 {N:Nat}{E:List Ed}{x:AV}{g st:Nat}(hE:qq N E)(aA:st<N):∀ (left:Nat) (y:AV) (out:List Nat) (H:Hp),out≠[]->(∀ b∈out,b<N)->out.length+left<=1000->RL H 2 x (ku E)->Cs H g [.int .i64 N,x] 201 0->Ow H 3 1 y (ints (dG out))->(∀ j∈ah y,j∉ah x/\j≠g)->
  ∃ y' mj H',(∀ k:K.Fn 1,J3 JN GO cK k (.ptr g 0) (.int .i64 st) y (.int .i64 left) H=k y' H')/\Ow H' 3 1 y' (ints (dG mj))/\mj≠[]/\Out (ah y) H H':=by
 intro left
 induction left with
 | zero=>
  intro y out H h0 ba hn hx hg hO hd
  refine⟨y,out,H,fun k => ?_,hO,h0,Out.refl _ _⟩
  have d:decide ((0:Int)<((0:Nat):Int))=false:=rfl
  rw[V4]
  simp only[Q3,d,ag,af,simprocAttr]
 | succ left ih=>
  intro y out H h0 ba hn hx hg hO hd
  have aY:0<out.length:=List.length_pos_iff.2 h0
  have lQ:=hx.one
  have kJ:aq H g 0 2=some [.int .i64 N,x]:=hg.aq 2 0 (by simp)
  have wT:=hO.rw.jn
  rw[lK,xF] at wT
  obtain⟨a,ha⟩:∃ a,out[out.length-1]? = some a:=⟨_,aaC (by omega)⟩
  obtain⟨q,q1,q2⟩:=hO.rw.gw (EL ha) .i64
  have hEl:=hE.len
  have jQ:∀ b∈kM E a false,b<N:=fun b hb=>(hE.lt _ (Sd.1.1 hb)).2.1
  have nN:=XT E a false
  obtain⟨bx,H1,b1,b2,b3,b4⟩:=aak a hE hx
  have ZR:=b2.rw.jn
  rw[lK,xF] at ZR
  have Kr:=hO.rw.lt
  obtain⟨y1,OH,H2,i1,i2,i3,i4,i5⟩:=Vp (left:=left+1) hE aA jQ (by omega) (kM E a false) 0 bx y out H1 (ace _) abK b2.rw (hx.ar b3) (hg.out b3 (by simp)) (hO.out b3 (by simp)) (by omega)
  have kA:=b3.nx
  have o2:Out (ah y) H H2:=(b3.mono fun j hj=>by cases hj).trans i4
  have eL:=hx.1.lt
  have zb:=hg.1
  have ja:∀ j∈ah y1,j∈ah y\/H.next<=j:=fun j hj=>(i5 j hj).imp id fun q=>by omega
  have O7:OH≠[]/\(∀ b∈OH,b<N)/\OH.length<=out.length+1:=by
   rcases i3 with rfl | ⟨b,hb,rfl⟩
   ·exact⟨h0,ba,by omega⟩
   ·refine⟨by simp,fun c hc => ?_,by simp⟩
    rcases abN.1 hc with hc | hc
    ·exact ba c hc
    ·rw[No] at hc;subst hc;exact hb
  obtain⟨y',mj,H',k1,k2,k3,k4⟩:=ih y1 OH H2 O7.1 O7.2.1 (by have:=O7.2.2;omega) (hx.out o2 fun j hj q=>(hd j q).1 hj) (hg.out o2 fun q=>(hd g q).2 rfl) i2 (fun j hj=>(ja j hj).elim (hd j) fun q=>⟨fun z=>by have:=eL j z;omega,by omega⟩)
  refine⟨y',mj,H',fun k => ?_,k2,k3,o2.then k4 ja⟩
  have d:decide ((0:Int)<((left+1:Nat):Int))=true:=decide_eq_true (by omega)
  have e1:IntKind.wrap .i64 (((out.length:Nat):Int)-1)=((out.length-1:Nat):Int):=by rw[wrap_i64 (by omega) (by omega)];omega
  have e2:IntKind.wrap .i64 (((left+1:Nat):Int)-1)=((left:Nat):Int):=by rw[wrap_i64 (by omega) (by omega)];omega
  rw[show (((0:Nat):Int))=0 from rfl] at i1
  rw[V4]
  simp(disch:=first|exact zqz|fail)only[Q3,d,kJ,wT,e1,q1,q2,b1,ZR,i1,e2,k1,aj,ak,ag,af,simprocAttr]
def Bf (N:Nat)(E:List Ed):Prop:=∀ n,n<N->tj E N n=0
theorem ak6 {N:Nat}{E:List Ed}{x:AV}{H:Hp}(hE:qq N E)(hx:RL H 2 x (ku E)):∃ (y:AV) (k:Nat) (H':Hp),cK (.func (.func 126) [] []) [gv N x] H=some (y,H')/\aK y=some (.int .i64 k)/\(k=0↔Bf N E)/\Out [] H H':=by
 have lQ:=hx.one
 have hN:=hE.n
 have nD:=aG H [.int .i64 N,x] 201 0
 have c1:=aZ H [.int .i64 N,x] 201 0
 obtain⟨H2,g1,g2⟩:=W3 hE (hx.ar nD)
 have gC:=g2.nx
 rw[cu] at gC
 have oU:=nD.trans g2
 have c2:=c1.out g2 (by simp)
 obtain⟨st,sp,H3,i1,i2,i3,i4,i5⟩:=ave (g:=H.next) hE N 0 0 0 H2 (by omega) (by omega) (by omega) (by omega) ⟨fun _ n hn=>by omega,fun _=>rfl⟩ (hx.ar oU) c2
 rw[show (((0:Nat):Int))=0 from rfl] at i1
 have Es:cellAt H2 H.next 0=some (.int .i64 N):=c2.cellAt rfl
 have xL:=oU.trans i5
 have c3:=c2.out i5 (by simp)
 have Aj:=i5.nx
 by_cases h0:sp=0
 ·refine⟨.ae,0,H3,Wy ?_,rfl,⟨fun _=>i4.1 h0,fun _=>rfl⟩,xL⟩
  subst h0
  unfold OF
  simp(disch:=first|exact zqz|fail)only[g1,Es,i1,Int.natCast_zero,aj,ak,ag,af,simprocAttr]
 ·have aaF:=i2 (by omega)
  have c4:=aZ H3 [.int .i64 (st:Int)] 3 0
  have o4:=aG H3 [.int .i64 (st:Int)] 3 0
  have hO:Ow (al H3 [.int .i64 (st:Int)] 3 0) 3 1 (.slice H3.next 0 1 1 true 1) (ints (dG [st])):=c4.ow (by decide) rfl (by intro v hv;rw[No] at hv;subst hv;rfl) true
  have eL:=hx.1.lt
  obtain⟨y,out,H5,k1,k2,k3,k4⟩:=ap0 (g:=H.next) hE aaF (sp-1) _ [st] _ (by simp) (by intro b hb;rw[No] at hb;subst hb;exact aaF) (by simp;omega) (hx.ar (xL.trans o4)) (c3.out o4 (by simp)) hO (fun j hj=>by
   rw[nF (by rfl),No] at hj
   exact⟨fun q=>by have:=eL j q;omega,by omega⟩)
  have wT:=k2.rw.jn
  rw[lK,xF] at wT
  have aY:0<out.length:=List.length_pos_iff.2 k3
  refine⟨y,out.length,H5,Wy ?_,wT,⟨fun q=>by omega,fun q=>absurd (i4.2 q) h0⟩,(xL.trans o4).then k4 fun j hj => ?_⟩
  ·have d:(((sp:Nat):Int)==0)=false:=beq_false_of_ne (by omega)
   have e:IntKind.wrap .i64 (((sp:Nat):Int)-1)=((sp-1:Nat):Int):=by rw[wrap_i64 (by omega) (by omega)];omega
   unfold OF
   simp(disch:=first|exact zqz|fail)only[g1,Es,i1,d,e,k1,aj,ak,ag,af,simprocAttr]
  ·rw[nF (by rfl),No] at hj;exact .inr (by omega)
abbrev sN:ai:=[97,98,99,100,101,102,103,104,105,106,107,108,109,110,111,112,113,114,115,116,117,118,119,120,121,122,48,49,50,51,52,53,54,55,56,57]
noncomputable def tP (s:ai):Bool := !(s==[])&&(decide ((s.length:Int)<=16)&&(Bm s sN==[]))
theorem JS (s:ai)(H:Hp):cK (.func (.func 54) [] []) [.str s] H=some (.bool (tP s),H):=by
 refine atT ?_
 unfold ad4 tP
 cases h0:(s==[]) with
 | true=>simp only[h0,aj0,acL,ag,af,simprocAttr]
 | false=>
  by_cases h1:(s.length:Int)<=16
  ·have ht:=atu s sN H (by omega) (by decide) (by decide)
   simp only[h0,h1,ht,ac5,ag,af,simprocAttr]
  ·simp only[h0,h1,ac5,acL,ag,af,simprocAttr]
noncomputable def qO (s:ai):Option Nat:=if s.length<=4 then (match Lib.atoiAll (xS s) with | .ok v=>if dec v=s/\0<=v then some v.toNat else none | _=>none) else none
theorem Z5 (T:Nat)(v:AV)(H:Hp):gA P .eql 183 true (.iface T v) .nilIface=true/\fe P .eql 183 (.iface T v) .nilIface H=some (.bool false):=by
 have hu:∃ m,P.underlying 183=some (.interface m):=⟨_,Tryz.underlying183⟩
 obtain⟨m,hu⟩:=hu
 refine⟨rfl,?_⟩
 unfold fe dX
 simp only[hu];rfl
theorem ajJ (H:Hp):gA P .eql 183 true .nilIface .nilIface=true/\fe P .eql 183 .nilIface .nilIface H=some (.bool true):=by
 have hu:∃ m,P.underlying 183=some (.interface m):=⟨_,Tryz.underlying183⟩
 obtain⟨m,hu⟩:=hu
 refine⟨rfl,?_⟩
 unfold fe dX
 simp only[hu];rfl
theorem aus {s:ai}(hs:s.length<=4){v:Int}(h:Lib.atoiAll (xS s) = .ok v) : -9223372036854775808<=v/\v<=9223372036854775807:=by
 unfold Lib.atoiAll at h
 split at h
 ·cases h
 ·simp only at h
  split at h
  ·cases h
  ·cases h
  ·split at h
   ·cases h
   ·split at h
    ·cases h
    ·injection h with h
     rename_i h1 h2
     split at h<;>omega
theorem ao8 {s:ai}{H:Hp}(hg:Gl H):∃ n ok H',cK (.func (.func 153) [] []) [.str s] H=some (.tuple [.int .i64 n,.bool ok],H')/\(qO s=if ok then some n.toNat else none)/\(ok=true->0<=n)/\Out [] H H':=by
 by_cases hl:s.length<=4
 ·have d:decide ((4:Int)<(s.length:Int))=false:=decide_eq_false (by omega)
  have ha:=alW (s:=s) (by omega) hg
  have wj:qO s=(match Lib.atoiAll (xS s) with | .ok v=>if dec v=s/\0<=v then some v.toNat else none | _=>none):=by unfold qO;rw[if_pos hl]
  unfold LJ at ha
  cases hr:Lib.atoiAll (xS s) with
  | ok v=>
   rw[hr] at ha wj
   obtain⟨b1,b2⟩:=aus hl hr
   obtain⟨H',i1,i2⟩:=Wa b1 b2 hg
   have hn:=ajJ H
   by_cases h1:dec v=s
   ·have e1:(dec v==s)=true:=by rw[h1];simp
    refine⟨v,decide (0<=v),H',Jt ?_,?_,fun q=>by simpa using q,i2⟩
    ·unfold EA
     simp(disch:=first|exact zqz|fail)only[d,ha,hn.1,hn.2,og,i1,e1,aj,ak,ag,af,simprocAttr]
    ·rw[wj]
     by_cases h0:0<=v<;>simp[h1,h0]
   ·have e1:(dec v==s)=false:=beq_false_of_ne h1
    refine⟨v,false,H',Jt ?_,?_,(fun q=>by cases q),i2⟩
    ·unfold EA
     simp(disch:=first|exact zqz|fail)only[d,ha,hn.1,hn.2,og,i1,e1,aj,ak,ag,af,simprocAttr]
    ·rw[wj];simp[h1]
  | range=>
   rw[hr] at ha wj
   have hn:=Z5 269 .dD H
   refine⟨Lib.atoiSat (xS s),false,H,Jt ?_,by rw[wj];rfl,(fun q=>by cases q),Out.refl _ _⟩
   unfold EA
   simp(disch:=first|exact zqz|fail)only[d,ha,hn.1,hn.2,og,aj,ak,ag,af,simprocAttr]
  | _=>
   rw[hr] at ha wj
   have hn:=Z5 269 .dD H
   refine⟨0,false,H,Jt ?_,by rw[wj];rfl,(fun q=>by cases q),Out.refl _ _⟩
   unfold EA
   simp(disch:=first|exact zqz|fail)only[d,ha,hn.1,hn.2,og,aj,ak,ag,af,simprocAttr]
 ·have d:decide ((4:Int)<(s.length:Int))=true:=decide_eq_true (by omega)
  refine⟨0,false,H,Jt ?_,by unfold qO;rw[if_neg hl];rfl,(fun q=>by cases q),Out.refl _ _⟩
  unfold EA
  simp(disch:=first|exact zqz|fail)only[d,aj,ak,ag,af,simprocAttr]
structure Tk where
 name:ai
 after:List Int
 cz:Int
 wait:Int
 base:Int
 on:ai
 deriving DecidableEq
def aF (t:Tk)(x:AV):List AV:=[.str t.name,x,.int .i64 t.cz,.int .i64 t.wait,.int .i64 t.base,.str t.on]
def lU (dx:AV)(xs:List AV):List Nat:=ah dx++xs.flatMap ah
structure RD (H:Hp)(dx:AV)(xs:List AV)(ts:List Tk):Prop where
 len:xs.length=ts.length
 row:RL H 6 dx (List.zipWith aF ts xs)
 jY:∀ (i:Nat) (x:AV) (t:Tk),xs[i]? = some x->ts[i]? = some t->Rw H 1 x (ints t.after)
theorem RD.out {H H':Hp}{dx:AV}{xs:List AV}{ts:List Tk}{S:List Nat}(h:RD H dx xs ts)(k:Out S H H')(hs:∀ j∈lU dx xs,j∉S):RD H' dx xs ts:=
 ⟨h.len,h.row.out k fun j hj=>hs j (abD _ hj),fun i x t hx ht=>(h.jY i x t hx ht).out k fun j hj=>hs j (abo _ (ahi.2 ⟨x,aaO hx,hj⟩))⟩
theorem RD.ar {H H':Hp}{dx:AV}{xs:List AV}{ts:List Tk}(h:RD H dx xs ts)(k:Out [] H H'):RD H' dx xs ts:=h.out k fun _ _ q=>by cases q
theorem RD.lt {H:Hp}{dx:AV}{xs:List AV}{ts:List Tk}(h:RD H dx xs ts):∀ j∈lU dx xs,j<H.next:=by
 intro j hj
 rcases abN.1 hj with hj | hj
 ·exact h.row.1.lt j hj
 ·obtain⟨x,hx,hj⟩:=ahi.1 hj
  obtain⟨i,hi⟩:=adR hx
  have hit:i<ts.length:=by rw[<-h.len];exact (aaw.1 hi).1
  exact (h.jY i x _ hi (aaC hit)).lt j hj
theorem RD.at {H:Hp}{dx:AV}{xs:List AV}{ts:List Tk}(h:RD H dx xs ts){i:Nat}{t:Tk}(ht:ts[i]? = some t) :
  ∃ x b o,xs[i]? = some x/\bq x=true/\Rw H 1 x (ints t.after)/\(∀ k,ia 6 dx (.int k i)=some (.ptr b o))/\b<H.next/\aq H b o 6=some (aF t x)/\cellAt H b o=some (.str t.name):=by
 have hi:=(aaw.1 ht).1
 have hx:xs[i]? = some (xs[i]'(by rw[h.len];exact hi)):=aaC _
 have hw:=h.jY i _ t hx ht
 have hz:(List.zipWith aF ts xs)[i]? = some (aF t (xs[i]'(by rw[h.len];exact hi))):=by rw[aeG,ht,hx]
 obtain⟨b,o,h1,h2,h3,h4,h5⟩:=h.row.at (by decide) hz
 exact⟨_,b,o,hx,hw.one,hw,h1,h3,h4,by have:=h5 0 _ rfl;rw[afF] at this;exact this⟩
theorem RD.aK {H:Hp}{dx:AV}{xs:List AV}{ts:List Tk}(h:RD H dx xs ts):aK dx=some (.int .i64 (ts.length:Nat)):=by
 have:=h.row.len (by decide)
 rw[agM,h.len,Nat.min_self] at this
 exact this
abbrev dv (dx:AV):AV := .agg [dx]
noncomputable def xq (t:Tk):Bool := !tP t.name||(!(t.on==[])&&!tP t.on)
def tB (t:Tk):Bool := !(decide (0<=t.cz)&&decide (t.cz<=8))||(!(decide (1<=t.wait)&&decide (t.wait<=1000))||!(decide (1<=t.base)&&decide (t.base<=1000)))
theorem sw (t:Tk)(x:AV):(aF t x)[0]? = some (.str t.name)/\(aF t x)[1]? = some x/\(aF t x)[2]? = some (.int .i64 t.cz)/\(aF t x)[3]? = some (.int .i64 t.wait)/\(aF t x)[4]? = some (.int .i64 t.base)/\(aF t x)[5]? = some (.str t.on):=⟨rfl,rfl,rfl,rfl,rfl,rfl⟩
theorem vZ (t:Tk)(x:AV):(aF t x).length=6:=rfl
theorem aeo (t:Tk)(x:AV):(aF t x).take 6=aF t x:=rfl
theorem uk (t:Tk)(x:AV)(H:Hp):bx 99 (.agg (aF t x)) H=some (H.next,al H (aF t x) 99 0):=gh (by rw[vZ];omega)
theorem yp (t:Tk)(x:AV)(hx:bq x=true)(H:Hp):st 6 (.ptr H.next 0) (.agg (aF t x)) (al H [(.str []),.ae,(.int .i64 0),(.int .i64 0),(.int .i64 0),(.str [])] 99 0)=some (al H (aF t x) 99 0):=
 iI (by simp[aF,EI,jN,hx]) rfl rfl (by decide) rfl
theorem awE (t:Tk)(x:AV)(i:Int)(H:Hp):∃ H',cK (.func (.func 120) [] []) [.int .i64 i,.agg (aF t x)] H=some (.bool (xq t),H')/\Out [] H H':=by
 refine⟨al H (aF t x) 99 0,af5 ?_,aG _ _ _ _⟩
 obtain⟨e0,e1,e2,e3,e4,e5⟩:=sw t x
 unfold ae1 xq
 cases h1:tP t.name with
 | false=>simp(disch:=first|exact zqz|fail)only[uk,e0,e5,JS,h1,akl,Bool.true_or,aj,ak,ag,af,simprocAttr]
 | true=>
  cases h2:(t.on==[]) with
  | true=>simp(disch:=first|exact zqz|fail)only[uk,e0,e5,JS,h1,h2,aj0,akA,acL,aj,ak,ag,af,simprocAttr]
  | false=>simp(disch:=first|exact zqz|fail)only[uk,e0,e5,JS,h1,h2,aj0,akl,akA,ac5,aj,ak,ag,af,simprocAttr]
theorem avz (t:Tk)(x:AV)(i:Int)(H:Hp):∃ H',cK (.func (.func 122) [] []) [.int .i64 i,.agg (aF t x)] H=some (.bool (tB t),H')/\Out [] H H':=by
 refine⟨al H (aF t x) 99 0,ard ?_,aG _ _ _ _⟩
 obtain⟨e0,e1,e2,e3,e4,e5⟩:=sw t x
 unfold ac0 tB
 cases h1:(decide (0<=t.cz)&&decide (t.cz<=8)) with
 | false=>simp(disch:=first|exact zqz|fail)only[uk,e2,e3,e4,qK,h1,akl,Bool.true_or,aj,ak,ag,af,simprocAttr]
 | true=>
  cases h2:(decide (1<=t.wait)&&decide (t.wait<=1000)) with
  | false=>simp(disch:=first|exact zqz|fail)only[uk,e2,e3,e4,qK,h1,h2,aj0,akl,akA,Bool.true_or,aj,ak,ag,af,simprocAttr]
  | true=>simp(disch:=first|exact zqz|fail)only[uk,e2,e3,e4,qK,h1,h2,aj0,akA,aj,ak,ag,af,simprocAttr]
def q8 (n:Int)(i:Int)(pre:List Int):List Int->Bool
 | []=>true
 | a::l=>(decide (0<=a)&&decide (a<=n-1))&&(!(i==a)&&(!(pre.any (fun b=>a==b))&&q8 n i (pre++[a]) l))
theorem XO {dx:AV}{n:Nat}{l:List Int}{lx:AV}{g:Nat}{i:Int}(hn:n<=100000)(hl:l.length<=100000)(u9:aK dx=some (.int .i64 n)):∀ (r:List Int) (k:Nat) (H:Hp) (j4:K.Fn 0),k<=l.length->l.drop k=r->Rw H 1 lx (ints l)->cellAt H g 0=some dx->
  GI JN GO cK j4 (.int .i64 i) lx (.ptr g 0) lx (.int .i64 (l.length:Nat)) (.int .i64 (k:Nat)) H=if q8 n i (l.take k) r then j4 H else some (.bool false,H)
 | [],k,H,j4,hk,h,fc,hg=>by
  obtain rfl:=drop_nil hk h
  rw[ael]
  simp only[Dk,ez,q8,if_true,ag,af,simprocAttr]
 | a::r,k,H,j4,hk,h,fc,hg=>by
  obtain⟨h1,h2,h3⟩:=eF h
  obtain⟨q,q1,q2⟩:=fc.gw (BB h2) .i64
  have es:=eE h1 (by omega)
  have ih:=XO (i:=i) hn hl u9 r (k+1) H j4 h1 h3 fc hg
  have rr:l.take (k+1)=l.take k++[a]:=by rw[aiI,h2];rfl
  rw[rr] at ih
  have e1:IntKind.wrap .i64 ((n:Int)-1)=(n:Int)-1:=wrap_i64 (by omega) (by omega)
  obtain⟨ur,s1,s2,s3⟩:=ET (n:=l.length) fc (by rw[lK,ahD]) (by decide) (a:=0) (b:=k) (lo:=none) (hi:=some (.int .i64 (k:Nat))) (ace _) hk (Bd.no 0) (Bd.yes _ _ _)
  have pG:((ints l).drop (0*1)).take ((k-0)*1)=ints (l.take k):=by simp[ints,List.map_take]
  rw[pG] at s2
  have mA:=aiS s2 (by rw[afs];omega) a
  rw[ael]
  unfold q8
  cases c1:(decide (0<=a)&&decide (a<=(n:Int)-1)) with
  | false=>simp(disch:=first|exact zqz|fail)only[Dk,aU h1,q1,q2,hg,u9,e1,qK,c1,acL,abH,if_false,aj,ak,ag,af,simprocAttr]
  | true=>
   cases c2:(a==i) with
   | true=>
    have BL:(i==a)=true:=by rw[beq_iff_eq] at c2 ⊢;exact c2.symm
    simp(disch:=first|exact zqz|fail)only[Dk,aU h1,q1,q2,hg,u9,e1,qK,c1,c2,BL,aj0,acL,Bool.and_false,abH,if_false,aj,ak,ag,af,simprocAttr]
   | false=>
    have BL:(i==a)=false:=by rw[<-ah4,beq_iff_eq] at c2 ⊢;exact fun e=>c2 e.symm
    cases c3:((l.take k).any (fun b=>a==b)) with
    | true=>simp(disch:=first|exact zqz|fail)only[Dk,aU h1,q1,q2,hg,u9,e1,qK,c1,c2,BL,s1,mA,c3,aj0,akl,acL,Bool.and_false,ac5,abH,if_false,aj,ak,ag,af,simprocAttr]
    | false=>simp(disch:=first|exact zqz|fail)only[Dk,aU h1,q1,q2,hg,u9,e1,qK,c1,c2,BL,s1,mA,c3,es,ih,akl,ac5,aj,ak,ag,af,simprocAttr]
theorem apY {dx:AV}{n:Nat}{l:List Int}{lx:AV}{i:Int}{H:Hp}(hn:n<=100000)(hl:l.length<=100000)(u9:aK dx=some (.int .i64 n))(fE:bq dx=true)(fc:Rw H 1 lx (ints l)) :
  cK (.func (.func 124) [] []) [dv dx,.int .i64 i,lx] H=some (.bool (q8 n i [] l),al H [dx] 72 0):=by
 refine asL ?_
 have lW:=fc.jn
 rw[lK] at lW
 have h1:=fun j4=>XO (i:=i) (g:=H.next) hn hl u9 l 0 (al H [dx] 72 0) j4 (ace _) abK (fc.ar (aG _ _ _ _)) (xu rfl)
 rw[show (((0:Nat):Int))=0 from rfl,ai2] at h1
 unfold Rl
 simp(disch:=first|exact zqz|fail)only[lW,h1,aj,ak,ag,af,simprocAttr]
 cases q8 n i [] l<;>rfl
theorem avW {dx:AV}{n p:Nat}{t:Tk}{x:AV}{i:Int}{H:Hp}(hn:n<=100000)(hl:t.after.length<=100000)(u9:aK dx=some (.int .i64 n))(fE:bq dx=true)(hp:cellAt H p 0=some dx)(jy:p<H.next)(hx:Rw H 1 x (ints t.after)) :
  ∃ H',cK (.func (.func 123) [] [.ptr p 0]) [.int .i64 i,.agg (aF t x)] H=some (.bool (!q8 n i [] t.after),H')/\Out [] H H':=by
 have o1:=aG H (aF t x) 99 0
 have ha:=apY (i:=i) hn hl u9 fE (hx.ar o1)
 refine⟨al (al H (aF t x) 99 0) [dx] 72 0,ahW ?_,o1.trans (aG _ _ _ _)⟩
 obtain⟨e0,e1,e2,e3,e4,e5⟩:=sw t x
 have hc:aq H p 0 1=some [dx]:=by unfold aq aq;rw[hp];rfl
 unfold acg
 simp(disch:=first|exact zqz|fail)only[uk,hc,e1,ha,aj,ak,ag,af,simprocAttr]
theorem aeR {S:List Nat}{p:Nat->Bool}{dx fv:AV}{xs:List AV}{ts:List Tk}(I:Nat->Hp->Prop)(hn:ts.length<=100000)(hS:∀ j∈lU dx xs,j∉S)
  (hI:∀ i H H',I i H->Out [] H H'->I i H')
  (hp:∀ i t x H,ts[i]? = some t->xs[i]? = some x->RD H dx xs ts->I i H->∃ H',cK fv [.int .i64 (i:Nat),.agg (aF t x)] H=some (.bool (p i),H')/\Out S H H'/\(p i=false->I (i+1) H')) :
  ∀ (r:List Tk) (i:Nat) (H:Hp),i<=ts.length->ts.drop i=r->RD H dx xs ts->I i H->
  ∃ H',(∀ k:K.Fn 0,Kf JN GO cK k fv dx (.int .i64 (ts.length:Nat)) (.int .i64 (i:Nat)) H=if (List.range' i r.length).any p then some (.bool true,H') else k H')/\Out S H H'/\((List.range' i r.length).any p=false->I ts.length H')
 | [],i,H,hi,h,hR,Pn=>by
  obtain rfl:=drop_nil hi h
  refine⟨H,fun k => ?_,Out.refl _ _,fun _=>Pn⟩
  rw[Vl]
  simp only[KS,ez,acG,List.range'_zero,List.any_nil,abH,if_false,ag,af,simprocAttr]
 | t::r,i,H,hi,h,hR,Pn=>by
  obtain⟨h1,h2,h3⟩:=eF h
  obtain⟨x,b,o,q0,q1,q2,q3,q4,q5,_⟩:=hR.at h2
  have es:=eE h1 (by omega)
  have o1:=aG H (aF t x) 99 0
  obtain⟨H1,c1,c2,c3⟩:=hp i t x _ h2 q0 (hR.ar o1) (hI _ _ _ Pn o1)
  have o2:Out S H H1:=(o1.mono fun j hj=>by cases hj).trans c2
  have aA:=yp t x q1 H
  have MN:(List.range' i (t::r).length).any p=(p i||(List.range' (i+1) r.length).any p):=by rw[aa1,List.range'_succ,List.any_cons]
  rw[MN]
  have Dt:=vZ t x
  have VZ:=aeo t x
  cases qZ:p i with
  | true=>
   refine⟨H1,fun k => ?_,o2,fun q=>by simp at q⟩
   rw[qZ] at c1
   rw[Vl]
   simp(disch:=first|exact zqz|fail)only[KS,aU h1,q3,q5,aA,Dt,VZ,c1,Bool.true_or,if_true,aj,ak,ag,af,simprocAttr]
  | false=>
   rw[qZ] at c1
   obtain⟨H',i1,i2,i3⟩:=aeR I hn hS hI hp r (i+1) H1 h1 h3 (hR.out o2 hS) (c3 qZ)
   refine⟨H',fun k => ?_,o2.trans i2,fun q=>i3 (by simpa using q)⟩
   rw[Vl]
   simp(disch:=first|exact zqz|fail)only[KS,aU h1,q3,q5,aA,Dt,VZ,c1,es,i1,akA,aj,ak,ag,af,simprocAttr]
theorem NI {S:List Nat}{p:Nat->Bool}{dx fv:AV}{xs:List AV}{ts:List Tk}{H:Hp}(I:Nat->Hp->Prop)(hn:ts.length<=100000)(hS:∀ j∈lU dx xs,j∉S)
  (hI:∀ i H H',I i H->Out [] H H'->I i H')
  (hp:∀ i t x H,ts[i]? = some t->xs[i]? = some x->RD H dx xs ts->I i H->∃ H',cK fv [.int .i64 (i:Nat),.agg (aF t x)] H=some (.bool (p i),H')/\Out S H H'/\(p i=false->I (i+1) H')) (hR:RD H dx xs ts) (h0:I 0 H) :
  ∃ H',cK (.func (.func 125) [] []) [dv dx,fv] H=some (.bool ((List.range ts.length).any p),H')/\Out S H H':=by
 have o1:=aG H [dx] 72 0
 obtain⟨H',i1,i2,_⟩:=aeR I hn hS hI hp ts 0 _ (ace _) abK (hR.ar o1) (hI _ _ _ h0 o1)
 rw[show (((0:Nat):Int))=0 from rfl,<-List.range_eq_range'] at i1
 refine⟨H',ag1 ?_,(o1.mono fun j hj=>by cases hj).trans i2⟩
 have gi:=hR.aK
 have fE:=hR.row.one
 unfold acJ
 simp(disch:=first|exact zqz|fail)only[gi,i1,aj,ak,ag,af,simprocAttr]
 cases (List.range ts.length).any p<;>rfl
def names (ts:List Tk):List ai:=ts.map (·.name)
def dup (ts:List Tk)(i:Nat):Bool:=match ts[i]? with | some t=>(names (ts.take i)).any (fun s=>s==t.name) | none=>false
def Bt (l:List (ai × Nat)):List ME:=l.map fun x=>⟨.str x.1,.bool true,x.2⟩
theorem Ei {l:List (ai × Nat)}{s:ai}(h:∀ x∈l,x.1≠s):∀ e∈Bt l,∃ q,e.key = .str q/\q≠s:=by
 intro e he
 obtain⟨x,hx,rfl⟩:=adD.1 he
 exact⟨_,rfl,h x hx⟩
def Ox (m q:Nat)(ts:List Tk)(i:Nat)(H:Hp):Prop:=∃ el l c,Cs H q [.map m] el 0/\Mp H m (Bt l) c/\l.map (·.1)=names (ts.take i)/\q≠m/\(l.map (·.1)).Nodup
theorem anS {m q:Nat}{ts:List Tk}{i:Nat}{t:Tk}{x:AV}{H:Hp}(hI:Ox m q ts i H)(ht:ts[i]? = some t) :
  ∃ H',cK (.func (.func 121) [] [.ptr q 0]) [.int .i64 (i:Nat),.agg (aF t x)] H=some (.bool (dup ts i),H')/\Out [m] H H'/\(dup ts i=false->Ox m q ts (i+1) H'):=by
 obtain⟨el,l,c,hq,hm,hl,aH,iO⟩:=hI
 obtain⟨e0,e1,e2,e3,e4,e5⟩:=sw t x
 have o1:=aG H (aF t x) 99 0
 have LX:=hq.out o1 (by simp)
 have AN:=hm.out o1 (by simp)
 have hql:=hq.1
 have hqc:cellAt H q 0=some (.map m):=hq.cellAt rfl
 have Yx:dup ts i=l.any (fun y=>y.1==t.name):=by
  unfold dup
  rw[ht]
  simp only
  rw[<-hl,List.any_map];rfl
 rw[Yx]
 have rr:names (ts.take (i+1))=names (ts.take i)++[t.name]:=by rw[aiI,ht];simp[names]
 cases hb:l.any (fun y=>y.1==t.name) with
 | false=>
  have hno:∀ y∈l,y.1≠t.name:=by
   intro y hy e
   rw[ajt] at hb
   exact hb y hy (by simpa using e)
  have HC:=XJ AN (Ei hno) (.bool false) false
  obtain⟨H',u1,u2,u3⟩:=adz AN (Ei hno) (.bool true)
  refine⟨H',acN ?_,(o1.mono fun j hj=>by cases hj).trans u3,fun _=>⟨el,l++[(t.name,c)],c+1,LX.out u3 (by rw[No];exact aH),by simpa[Bt] using u2,by rw[afg,hl,rr];rfl,aH,by
   rw[afg,af2]
   refine⟨iO,by simp,fun p hp r hr e => ?_⟩
   obtain⟨y,hy,rfl⟩:=adD.1 hp
   simp at hr
   exact hno y hy (e.trans hr)⟩⟩
  simp only[cond_false] at HC
  unfold Ry
  simp(disch:=first|exact zqz|fail)only[uk,hqc,e0,HC,u1,aj,ak,ag,af,simprocAttr]
 | true=>
  rw[List.any_eq_true] at hb
  obtain⟨y,hy,QH⟩:=hb
  have QH:y.1=t.name:=by simpa using QH
  have ahh:∃ a z b,l=a++z::b/\z.1=t.name/\∀ w∈a,w.1≠t.name:=by
   clear hm AN hl Yx iO
   induction l with
   | nil=>cases hy
   | cons w l ih=>
    by_cases hw:w.1=t.name
    ·exact⟨[],w,l,rfl,hw,fun _ h=>by cases h⟩
    ·rcases aa7.1 hy with rfl | hy
     ·exact absurd QH hw
     ·obtain⟨a,z,b,rfl,h2,h3⟩:=ih hy
      refine⟨w::a,z,b,rfl,h2,fun v hv => ?_⟩
      rcases aa7.1 hv with rfl | hv
      ·exact hw
      ·exact h3 v hv
  obtain⟨a,z,b,rfl,hz,ha⟩:=ahh
  have lh:Bt (a++z::b)=Bt a++⟨.str z.1,.bool true,z.2⟩::Bt b:=by simp[Bt]
  rw[lh] at AN
  have nN:∀ w∈b,w.1≠t.name:=by
   intro w hw e
   rw[afg,ac4,af2,aju] at iO
   exact iO.2.1.1 (adD.2 ⟨w,hw,e.trans hz.symm⟩)
  have HC:=aef (k:=t.name) AN (by rw[hz]) (Ei ha) (Ei nN) (.bool false) false
  obtain⟨H',u1,u2,u3⟩:=ak5 (k:=t.name) AN (by rw[hz]) (Ei ha) (Ei nN) (.bool true)
  refine⟨H',acN ?_,(o1.mono fun j hj=>by cases hj).trans u3,fun q=>by cases q⟩
  simp only[cond_false] at HC
  unfold Ry
  simp(disch:=first|exact zqz|fail)only[uk,hqc,e0,HC,u1,aj,ak,ag,af,simprocAttr]
theorem gAE (a b c d:AV):gA P .eql 231 false (.agg [a,b]) (.agg [c,d])=true:=by kernel_rfl
theorem avJ (e f:Ed)(H:Hp):fe P .eql 231 (.agg (cx e)) (.agg (cx f)) H=some (.bool (decide (e=f))):=by
 have h:=eqE e.1 e.2 f.1 f.2 48 H
 have h2:((((e.1:Nat):Int)==((f.1:Nat):Int))&&(((e.2:Nat):Int)==((f.2:Nat):Int)))=decide (e=f):=by
  by_cases q:e=f
  ·subst q;simp
  ·rw[decide_eq_false q,<-ah4,aaT,beq_iff_eq,beq_iff_eq]
   intro z
   exact q (Prod.ext (by have:=z.1;omega) (by have:=z.2;omega))
 rw[h2] at h
 unfold fe
 show (dX P 50 _ (.agg (cx e)) (.agg (cx f)) H).map AV.bool=_
 have:dX P 50 231 (.agg (cx e)) (.agg (cx f)) H=some (decide (e=f)):=h
 rw[this];rfl
theorem afN {x:AV}{E:List Ed}{e:Ed}{b:Nat}{H:Hp}(hx:RL H 2 x (ku E))(hl:E.length<=16777216)(hb:aq H b 0 2=some (cx e))(hno:e∉E)(k:K.Fn 0):∀ (r:List Ed) (i:Nat),i<=E.length->E.drop i=r->
  Ku JN GO cK k x (.ptr b 0) (.int .i64 (E.length:Nat)) (.int .i64 (i:Nat)) H=k H
 | [],i,hi,h=>by
  obtain rfl:=drop_nil hi h
  rw[ZX]
  simp only[QI,ez,ag,af,simprocAttr]
 | f::r,i,hi,h=>by
  obtain⟨h1,h2,h3⟩:=eF h
  obtain⟨c,o,q1,q2,q3,q4,_⟩:=hx.at (by decide) (Sh h2)
  have es:=eE h1 hl
  have ih:=afN hx hl hb hno k r (i+1) h1 h3
  have hd:decide (e=f)=false:=decide_eq_false fun q=>hno (q▸aaO h2)
  have hg:gA P .eql 231 false (.agg (cx e)) (.agg (cx f))=true:=gAE _ _ _ _
  have We:=avJ e f H
  rw[hd] at We
  have AE:aq H c o 2=some (cx f):=q4
  rw[ZX]
  simp(disch:=first|exact zqz|fail)only[QI,aU h1,hb,q1,AE,hg,We,og,es,ih,aj,ak,ag,af,simprocAttr]
theorem ajg {x:AV}{E:List Ed}{e:Ed}{H:Hp}(hx:RL H 2 x (ku E))(hl:E.length<=16777216)(hno:e∉E) :
  ∃ H',cK (.func (.func 158) [] []) [x,.agg (cx e)] H=some (.bool false,H')/\Out [] H H':=by
 have o1:=aG H (cx e) 231 0
 have o2:=o1.al (cx e) 231 0
 have aN:∀ H:Hp,bx 231 (.agg (cx e)) H=some (H.next,al H (cx e) 231 0):=fun H=>gh (by show 2<=_;omega)
 have hlen:(cx e).length=2:=rfl
 have rr:(cx e).take 2=cx e:=rfl
 have nZ:cK (.func (.func 177) [] []) [x,.agg (cx e)] (al H (cx e) 231 0)=some (.int .i64 (-1),al (al H (cx e) 231 0) (cx e) 231 0):=by
  refine ala ?_
  have eL:=(hx.ar o2).len (by decide)
  rw[OG] at eL
  have h1:=afN (b:=H.next+1) (hx.ar o2) hl (GG (by rw[cu]) (by rw[hlen];omega)) hno (fun h=>some (.int .i64 (-1),h)) E 0 (ace _) abK
  rw[show (((0:Nat):Int))=0 from rfl] at h1
  unfold ZM
  simp(disch:=first|exact zqz|fail)only[aN,eL,h1,aj,ak,ag,af,simprocAttr]
 refine⟨_,ajD ?_,o2⟩
 unfold WH
 have d:decide ((0:Int) <= -1)=false:=by decide
 simp(disch:=first|exact zqz|fail)only[aN,hlen,rr,nZ,d,aj,ak,ag,af,simprocAttr]
def sV (i:Nat)(l:List Int):List Ed:=l.map fun a=>(a.toNat,i)
def jS (i:Nat):List Tk->List Ed
 | []=>[]
 | t::r=>sV i t.after++jS (i+1) r
theorem arh (ts us:List Tk):∀ i,jS i (ts++us)=jS i ts++jS (i+ts.length) us:=by
 induction ts with
 | nil=>intro i;rfl
 | cons t ts ih=>intro i;simp only[List.cons_append,jS,ih,afk,aa1];rw[show i+1+ts.length=i+(ts.length+1) by omega]
theorem RW {ts:List Tk}{i:Nat}{t:Tk}(ht:ts[i]? = some t):jS 0 (ts.take (i+1))=jS 0 (ts.take i)++sV i t.after:=by
 have hi:=(aaw.1 ht).1
 rw[aiI,ht]
 show jS 0 (ts.take i++[t])=_
 rw[arh,afs,Nat.min_eq_left (by omega),aeJ]
 simp[jS]
theorem acp {ts:List Tk}:∀ {i:Nat} {e:Ed},e∈jS i ts->i<=e.2/\e.2<i+ts.length:=by
 induction ts with
 | nil=>intro i e h;cases h
 | cons t ts ih=>
  intro i e h
  simp only[jS,abN] at h
  rcases h with h | h
  ·obtain⟨a,_,rfl⟩:=adD.1 h
   simp
  ·have:=ih h
   simp only[aa1];omega
def wG (ts:List Tk):Prop:=∀ (i:Nat) (t:Tk),ts[i]? = some t->q8 ts.length i [] t.after=true
theorem WQ {n i:Int}{pre:List Int}{a:Int}{l:List Int}(h:q8 n i pre (a::l)=true):0<=a/\a<=n-1/\a≠i/\a∉pre/\q8 n i (pre++[a]) l=true:=by
 unfold q8 at h
 simp only[aaT,decide_eq_true_eq,aj7,ajt,beq_iff_eq,beq_eq_false_iff_ne] at h
 obtain⟨⟨h1,h2⟩,h3,h4,h5⟩:=h
 exact⟨h1,h2,fun e=>h3 e.symm,fun q=>h4 a q rfl,h5⟩
theorem abT {dx:AV}{n i:Nat}{E0:List Ed}{D R g:Nat}{l:List Int}{lx:AV}(hn:n<=16)(lG:i<n)(u9:aK dx=some (.int .i64 n))(hE0:∀ e∈E0,e.2<i)(ajo:E0.length<=10000)(lW:l.length<=16)(EW:D≠g) :
  ∀ (r:List Int) (k:Nat) (H:Hp) (ex:AV) (c5 c6 c7:AV),k<=l.length->l.drop k=r->q8 n i (l.take k) r=true->(∀ b∈l.take k,(0:Int)<=b)->Rw H 1 lx (ints l)->cellAt H D 0=some dx->D<H.next->Cs H g [.int .i64 n,ex] 201 0->OL H 231 2 ex (ku (E0++sV i (l.take k)))->(∀ j∈ah ex,j∉ah lx/\j≠D/\j≠g)->g∉ah lx->
  ∃ wa H' S,(∀ (aD:K.Fn 2) (db mh:K.Fn 6),IP JN GO cK aD db mh (.ptr D 0) (.ptr R 0) (.ptr g 0) (.int .i64 i) c5 c6 c7 lx (.int .i64 (l.length:Nat)) (.int .i64 (k:Nat)) H=mh (.ptr D 0) (.ptr R 0) (.ptr g 0) c5 c6 c7 H')/\Cs H' g [.int .i64 n,wa] 201 0/\OL H' 231 2 wa (ku (E0++sV i l))/\Out S H H'/\(∀ j∈S,j=g\/j∈ah ex\/H.next<=j)/\∀ j∈ah wa,j∈ah ex\/H.next<=j
 | [],k,H,ex,c5,c6,c7,hk,h,ha,kB,fc,hD,xP,hg,hO,hd,zb=>by
  obtain rfl:=drop_nil hk h
  refine⟨ex,H,[],fun aD db mh => ?_,hg,by rw[ag8 (aaU _)] at hO;exact hO,Out.refl _ _,(fun j hj=>by cases hj),fun j hj => .inl hj⟩
  rw[Zr]
  simp only[Oo,ez,ag,af,simprocAttr]
 | a::r,k,H,ex,c5,c6,c7,hk,h,ha,kB,fc,hD,xP,hg,hO,hd,zb=>by
  obtain⟨h1,h2,h3⟩:=eF h
  obtain⟨q,q1,q2⟩:=fc.gw (BB h2) .i64
  have es:=eE h1 (by omega)
  obtain⟨a0,a1,a2,a3,a4⟩:=WQ ha
  obtain⟨m,rfl⟩:∃ m:Nat,a=m:=⟨a.toNat,by omega⟩
  have rr:l.take (k+1)=l.take k++[(m:Int)]:=by rw[aiI,h2];rfl
  have hEk:(sV i (l.take k)).length<=16:=by simp[sV];omega
  have hno:((m,i):Ed)∉E0++sV i (l.take k):=by
   intro q
   rcases abN.1 q with q | q
   ·have:=hE0 _ q;simp at this
   ·obtain⟨b,hb,he⟩:=adD.1 q
    have pI:=kB b hb
    have:b.toNat=m:=congrArg Prod.fst he
    exact a3 (by rw[show ((m:Nat):Int)=b by omega];exact hb)
  have o1:=aG H (cx (m,i)) 231 0
  obtain⟨H1,c1,c2⟩:=ajg (hO.rl.ar o1) (by rw[abj];omega) hno
  have o2:Out [] H H1:=o1.trans c2
  have gC:=c2.nx
  rw[cu] at gC
  have AK:=hg.out o2 (by simp)
  have hgc:cellAt H g 1=some ex:=hg.cellAt rfl
  have ahO:cellAt H1 g 1=some ex:=AK.cellAt rfl
  have ax6:=hg.1
  have PR:aq H1 H.next 0 2=some (cx (m,i)):=by
   rw[c2.aq (by rw[cu];omega) (by simp)]
   exact GG rfl (by show 0+2<=2;omega)
  obtain⟨BZ,H2,p1,p2,p3,p4,p5⟩:=(hO.out o2 (by simp)).push (fM:=231) (z:=[(.int .i64 0),(.int .i64 0)]) (vs:=cx (m,i)) rfl rfl (by decide) (by rw[OG,abj];omega)
  have qR:ku (E0++sV i (l.take k))++[cx (m,i)]=ku (E0++sV i (l.take (k+1))):=by rw[rr];simp[ku,sV]
  rw[qR] at p2
  have kJ:=AK.out p3 fun q=>(hd g q).2.2 rfl
  obtain⟨H3,w1,w2,w3,w4⟩:=fP kJ (by decide) (o:=1) (by simp) (v:=BZ) p5
  have Aj:=p3.nx
  have R2:=fc.lt
  have ja:∀ j∈ah BZ,j∉ah lx/\j≠D/\j≠g:=fun j hj=>(p4 j hj).elim (hd j) fun z=>⟨fun y=>by have:=R2 j y;omega,by omega,by omega⟩
  have o3:Out (g::ah ex) H H3:=((o2.mono fun j hj=>by cases hj).trans (p3.mono fun j hj => .tail _ hj)).trans (w3.mono fun j hj=>by rw[No] at hj;subst hj;exact .head _)
  have BF:cellAt H3 D 0=some dx:=by rw[o3.cellAt xP (by rw[aa7,not_or];exact⟨EW,fun q=>(hd D q).2.1 rfl⟩)];exact hD
  have XR:=o3.nx
  obtain⟨wa,H',S,i1,i2,i3,i4,i5,i6⟩:=abT (R:=R) hn lG u9 hE0 ajo lW EW r (k+1) H3 BZ c5 c6 c7 h1 h3 (by rw[rr];exact a4) (by rw[rr];intro b hb;rcases abN.1 hb with hb | hb;exact kB b hb;rw[No] at hb;omega)
   (fc.out o3 fun j hj=>by rw[aa7,not_or];exact⟨fun e=>zb (e▸hj),fun q=>(hd j q).1 hj⟩) BF (by omega) w2 (p2.out w3 fun j hj=>by rw[No];exact (ja j hj).2.2) ja zb
  have key:∀ j∈ah BZ,j∈ah ex\/H.next<=j:=fun j hj=>(p4 j hj).imp id fun z=>by omega
  refine⟨wa,H',(g::ah ex)++S,fun aD db mh => ?_,i2,i3,(o3.mono fun j hj=>abD _ hj).trans (i4.mono fun j hj=>abo _ hj),fun j hj => ?_,fun j hj=>(i6 j hj).elim (key j) fun z => .inr (by omega)⟩
  ·have e1:IntKind.wrap .i64 ((n:Int)-1)=(n:Int)-1:=wrap_i64 (by omega) (by omega)
   have d1:(decide ((0:Int)<=(m:Int))&&decide ((m:Int)<=(n:Int)-1))=true:=by rw[aaT];exact⟨decide_eq_true a0,decide_eq_true a1⟩
   have d2:(((m:Nat):Int) != ((i:Nat):Int))=true:=by simp;omega
   have ng:fl [(.int .i64 0),(.int .i64 0)] [(0,1,.int .i64 (m:Int)),(1,1,.int .i64 (i:Int))]=some (cx (m,i)):=rfl
   have Fz:fl [(.int .i64 0),(.int .i64 0)] [(0,2,.agg (cx (m,i)))]=some (cx (m,i)):=rfl
   have xM:st 2 (.ptr H.next 0) (.agg (cx (m,i))) (al H [.int .i64 0,.int .i64 0] 231 0)=some (al H (cx (m,i)) 231 0):=iI rfl rfl rfl (by decide) rfl
   have pz:(cx (m,i)).length=2:=rfl
   have aid:(cx (m,i)).take 2=cx (m,i):=rfl
   have dJ:aC H1 (cx (m,i)) 231 0=some (H1.next,al H1 (cx (m,i)) 231 0):=gJ (by rw[pz];omega)
   have iu:=p1 _ rfl
   rw[Zr]
   simp(disch:=first|exact zqz|fail)only[Oo,aU h1,q1,q2,ng,Fz,xM,pz,aid,hD,u9,e1,qK,d1,d2,hgc,ahO,c1,PR,dJ,iu,w1,es,i1,aj,ak,ag,af,simprocAttr]
  ·rcases abN.1 hj with hj | hj
   ·rcases aa7.1 hj with rfl | hj
    ·exact .inl rfl
    ·exact .inr (.inl hj)
   ·rcases i5 j hj with z | z | z
    ·exact .inl z
    ·exact .inr (key j z)
    ·exact .inr (.inr (by omega))
theorem Zq {dx:AV}{xs:List AV}{ts:List Tk}{D R g:Nat}(hn:ts.length<=16)(dh:∀ t∈ts,t.after.length<=16)(ha:wG ts)(EW:D≠g)(UE:g∉lU dx xs) :
  ∀ (r:List Tk) (i:Nat) (H:Hp) (ex:AV),i<=ts.length->ts.drop i=r->RD H dx xs ts->cellAt H D 0=some dx->D<H.next->Cs H g [.int .i64 (ts.length:Nat),ex] 201 0->OL H 231 2 ex (ku (jS 0 (ts.take i)))->(jS 0 (ts.take i)).length<=i*16->(∀ j∈ah ex,j∉lU dx xs/\j≠D/\j≠g)->
  ∃ wa H' S,(∀ aD:K.Fn 2,HG JN GO cK aD (.ptr D 0) (.ptr R 0) (.ptr g 0) dx (.int .i64 (ts.length:Nat)) (.int .i64 (i:Nat)) H=aD (.ptr R 0) (.ptr g 0) H')/\Cs H' g [.int .i64 (ts.length:Nat),wa] 201 0/\OL H' 231 2 wa (ku (jS 0 ts))/\Out S H H'/\(∀ j∈S,j=g\/j∈ah ex\/H.next<=j)/\∀ j∈ah wa,j∈ah ex\/H.next<=j
 | [],i,H,ex,hi,h,hR,hD,xP,hg,hO,hlen,hd=>by
  obtain rfl:=drop_nil hi h
  refine⟨ex,H,[],fun aD => ?_,hg,by rw[ag8 (aaU _)] at hO;exact hO,Out.refl _ _,(fun j hj=>by cases hj),fun j hj => .inl hj⟩
  rw[aat]
  simp only[QN,ez,ag,af,simprocAttr]
 | t::r,i,H,ex,hi,h,hR,hD,xP,hg,hO,hlen,hd=>by
  obtain⟨h1,h2,h3⟩:=eF h
  obtain⟨x,b,o,q0,q1,q2,q3,q4,q5,_⟩:=hR.at h2
  have es:=eE h1 (by omega)
  have hht:=dh t (aaO h2)
  have o1:=aG H (aF t x) 99 0
  have Zb:∀ j∈ah x,j∈lU dx xs:=fun j hj=>abo _ (ahi.2 ⟨x,aaO q0,hj⟩)
  have zb:=hg.1
  have GF:=hO.1.rw.lt
  obtain⟨BZ,H1,S1,i1,i2,i3,i4,i5,i6⟩:=abT (E0:=jS 0 (ts.take i)) (R:=R) (D:=D) (g:=g) hn h1 hR.aK (fun e he=>by have:=acp he;rw[afs] at this;omega) (by omega) hht EW t.after 0 _ ex dx (.int .i64 (ts.length:Nat)) (.int .i64 (i:Nat)) (ace _) abK (by rw[ai2];exact ha i t h2) (by intro b hb;rw[ai2] at hb;cases hb) (q2.ar o1) (by rw[vM xP];exact hD) (by rw[cu];omega) (hg.out o1 (by simp)) (by rw[ai2];simpa[sV] using hO.out o1 (by simp)) (fun j hj=>⟨fun z=>(hd j hj).1 (Zb j z),(hd j hj).2⟩) (fun z=>UE (Zb g z))
  rw[<-RW h2] at i3
  have abw:(jS 0 (ts.take (i+1))).length<=(i+1)*16:=by rw[RW h2,abj];simp[sV];omega
  have ng:=hR.lt
  have SU:∀ j∈S1,j=g\/j∈ah ex\/H.next<=j:=fun j hj=>by
   rcases i5 j hj with z | z | z
   ·exact .inl z
   ·exact .inr (.inl z)
   ·rw[cu] at z;exact .inr (.inr (by omega))
  have key:∀ j∈ah BZ,j∈ah ex\/H.next<=j:=fun j hj=>(i6 j hj).imp id fun z=>by rw[cu] at z;omega
  have o2:Out S1 H H1:=(o1.mono fun j hj=>by cases hj).trans i4
  have gC:=o2.nx
  have hfS:∀ j∈lU dx xs,j∉S1:=fun j hj z=>by
   rcases SU j z with rfl | y | y
   ·exact UE hj
   ·exact (hd j y).1 hj
   ·have:=ng j hj;omega
  have hDS:D∉S1:=fun z=>by
   rcases SU D z with y | y | y
   ·exact EW y
   ·exact (hd D y).2.1 rfl
   ·omega
  obtain⟨wa,H',S,k1,k2,k3,k4,k5,k6⟩:=Zq (R:=R) hn dh ha EW UE r (i+1) H1 BZ h1 h3 (hR.out o2 hfS) (by rw[o2.cellAt xP hDS];exact hD) (by omega) i2 i3 abw (fun j hj=>(key j hj).elim (hd j) fun z=>⟨fun y=>by have:=ng j y;omega,by omega,by omega⟩)
  refine⟨wa,H',S1++S,fun aD => ?_,k2,k3,(o2.mono fun j hj=>abD _ hj).trans (k4.mono fun j hj=>abo _ hj),fun j hj => ?_,fun j hj=>(k6 j hj).elim (key j) fun z => .inr (by omega)⟩
  ·have aA:=yp t x q1 H
   obtain⟨e0,e1,e2,e3,e4,e5⟩:=sw t x
   have hl:=q2.jn
   rw[lK] at hl
   rw[show (((0:Nat):Int))=0 from rfl] at i1
   rw[aat]
   simp(disch:=first|exact zqz|fail)only[QN,aU h1,q3,q5,aA,e1,hl,i1,es,k1,aj,ak,ag,af,simprocAttr]
  ·rcases abN.1 hj with hj | hj
   ·exact SU j hj
   ·rcases k5 j hj with z | z | z
    ·exact .inl z
    ·exact .inr (key j z)
    ·exact .inr (.inr (by omega))
theorem ahI {dx:AV}{xs:List AV}{ts:List Tk}{H:Hp}(hn:ts.length<=16)(dh:∀ t∈ts,t.after.length<=16)(ha:wG ts)(hR:RD H dx xs ts) :
  ∃ ex H',cK (.func (.func 127) [] []) [dv dx] H=some (gv ts.length ex,H')/\RL H' 2 ex (ku (jS 0 ts))/\Out [] H H'/\∀ j∈ah ex,H.next<=j:=by
 have fE:=hR.row.one
 have gi:=hR.aK
 have ng:=hR.lt
 have o1:=aG H [dx] 72 0
 have o2:=o1.al [.int .i64 0,.ae] 201 0
 have o3:=o2.al [.int .i64 (ts.length:Nat),.ae] 201 0
 have c3:=aZ (al (al H [dx] 72 0) [.int .i64 0,.ae] 201 0) [.int .i64 (ts.length:Nat),.ae] 201 0
 have c2:=(aZ (al H [dx] 72 0) [.int .i64 0,.ae] 201 0).out (aG (al (al H [dx] 72 0) [.int .i64 0,.ae] 201 0) [.int .i64 (ts.length:Nat),.ae] 201 0) (by simp)
 have hD:cellAt (al (al (al H [dx] 72 0) [.int .i64 0,.ae] 201 0) [.int .i64 (ts.length:Nat),.ae] 201 0) H.next 0=some dx:=by
  rw[vM (by rw[cu,cu];omega),vM (by rw[cu];omega),xu rfl];rfl
 obtain⟨ex,H1,S,i1,i2,i3,i4,i5,i6⟩:=Zq (D:=H.next) (R:=H.next+1) (g:=H.next+2) hn dh ha (by omega) (fun z=>by have:=ng _ z;omega) ts 0 _ .ae (ace _) abK (hR.ar o3) hD (by rw[cu,cu,cu];omega) c3 (by rw[ai2];exact OL.nil _ _ _) (by rw[ai2];simp[jS]) (fun j hj=>by cases hj)
 have mb:(al (al (al H [dx] 72 0) [.int .i64 0,.ae] 201 0) [.int .i64 (ts.length:Nat),.ae] 201 0).next=H.next+3:=rfl
 have hS:∀ j∈S,j=H.next+2\/H.next+3<=j:=fun j hj=>by
  rcases i5 j hj with z | z | z
  ·exact .inl z
  ·cases z
  ·exact .inr (by omega)
 have kA:=i4.nx
 have Aa:Cs H1 (H.next+1) [.int .i64 0,.ae] 201 0:=c2.out i4 fun z=>by have:=hS _ z;rw[cu] at this;omega
 have aut:=i3.1.kC
 obtain⟨H2,w1,w2,w3,w4⟩:∃ H2,st 2 (.ptr (H.next+1) 0) (.agg [.int .i64 (ts.length:Nat),ex]) H1=some H2/\Cs H2 (H.next+1) [.int .i64 (ts.length:Nat),ex] 201 0/\Out [H.next+1] H1 H2/\H2.next=H1.next:=by
  obtain⟨Ha,a1,a2,a3,a4⟩:=Qd Aa (by decide) (o:=0) (by decide) (v := .int .i64 (ts.length:Nat)) rfl
  obtain⟨Hb,b1,b2,b3,b4⟩:=Qd a2 (by decide) (o:=1) (by simp) (v:=ex) aut
  refine⟨Hb,?_,b2,a3.trans b3,by rw[b4,a4]⟩
  unfold st
  simp only[Dv]
  show setCells H1 (H.next+1) 0 [.int .i64 (ts.length:Nat),ex]=_
  simp only[setCells,a1,b1,acy,acF]
 have hrx:∀ j∈ah ex,H.next+3<=j:=fun j hj=>(i6 j hj).elim (fun z=>by cases z) fun z=>by omega
 refine⟨ex,H2,anW ?_,(i3.rl).out w3 fun j hj=>by rw[No];have:=hrx j hj;omega,(o3.then i4 fun j hj => .inr (by have:=hS j hj;omega)).then w3 fun j hj=>by rw[No] at hj;exact .inr (by omega),fun j hj=>by have:=hrx j hj;omega⟩
 have Fz:fl [.int .i64 0,.ae] [(0,1,.int .i64 (ts.length:Nat))]=some [.int .i64 (ts.length:Nat),.ae]:=rfl
 have kJ:aq H1 (H.next+2) 0 2=some [.int .i64 (ts.length:Nat),ex]:=i2.aq 2 0 (by simp)
 have pH:aq H2 (H.next+1) 0 2=some [.int .i64 (ts.length:Nat),ex]:=w2.aq 2 0 (by simp)
 have xM:st 2 (.ptr (H.next+2) 0) (.agg [.int .i64 (ts.length:Nat),.ae]) (al (al (al H [dx] 72 0) [.int .i64 0,.ae] 201 0) [.int .i64 0,.ae] 201 0)=some (al (al (al H [dx] 72 0) [.int .i64 0,.ae] 201 0) [.int .i64 (ts.length:Nat),.ae] 201 0):=iI rfl rfl rfl (by decide) rfl
 rw[show (((0:Nat):Int))=0 from rfl] at i1
 unfold afA
 simp(disch:=first|exact zqz|fail)only[gi,Fz,xM,i1,kJ,w1,pH,aj,ak,ag,af,simprocAttr]
theorem Bl {ts:List Tk}{i:Nat}{t:Tk}(ha:wG ts)(ht:ts[i]? = some t):(∀ a∈t.after,0<=a/\a<=(ts.length:Int)-1/\a≠(i:Int))/\t.after.Nodup:=by
 have key:∀ (l pre:List Int),q8 ts.length i pre l=true->(∀ a∈l,0<=a/\a<=(ts.length:Int)-1/\a≠(i:Int)/\a∉pre)/\l.Nodup:=by
  intro l
  induction l with
  | nil=>intro pre _;exact⟨(fun a ha=>by cases ha),akK⟩
  | cons a l ih=>
   intro pre h
   obtain⟨a0,a1,a2,a3,a4⟩:=WQ h
   obtain⟨i1,i2⟩:=ih _ a4
   refine⟨fun b hb => ?_,aju.2 ⟨fun q=>(i1 a q).2.2.2 (by simp),i2⟩⟩
   rcases aa7.1 hb with rfl | hb
   ·exact⟨a0,a1,a2,a3⟩
   ·obtain⟨x1,x2,x3,x4⟩:=i1 b hb
    exact⟨x1,x2,x3,fun q=>x4 (abD _ q)⟩
 obtain⟨k1,k2⟩:=key _ _ (ha i t ht)
 exact⟨fun a h=>⟨(k1 a h).1,(k1 a h).2.1,(k1 a h).2.2.1⟩,k2⟩
theorem Rc:∀ (n:Nat) (l:List Nat),l.Nodup->(∀ a∈l,a<n)->l.length<=n
 | 0,l,_,h=>by
  cases l with
  | nil=>exact aaU _
  | cons a l=>have:=h a (.head _);omega
 | n+1,l,hn,h=>by
  by_cases hm:n∈l
  ·have h1:=Rc n (l.erase n) (hn.erase n) fun a ha=>by
    rw[hn.mem_erase_iff] at ha
    have:=h a ha.2
    omega
   rw[List.length_erase_of_mem hm] at h1
   omega
  ·have h1:=Rc n l hn fun a ha=>by
    have:=h a ha
    have:a≠n:=fun e=>hm (e▸ha)
    omega
   omega
theorem Oq {n:Nat}{l:List Int}(h:∀ a∈l,0<=a/\a<=(n:Int)-1)(hn:l.Nodup):l.length<=n:=by
 have h1:(l.map Int.toNat).Nodup:=by
  rw[List.nodup_iff_pairwise_ne,List.pairwise_map]
  refine (List.nodup_iff_pairwise_ne.1 hn).imp_of_mem ?_
  intro a b ha hb xv e
  have:=h a ha;have:=h b hb;omega
 have:=Rc n _ h1 fun m hm=>by
  obtain⟨a,ha,rfl⟩:=adD.1 hm
  have:=h a ha;omega
 simpa using this
theorem arf {ts:List Tk}(hn:ts.length<=16)(ha:wG ts):qq ts.length (jS 0 ts):=by
 have key:∀ (k:Nat),k<=ts.length->(∀ e∈jS 0 (ts.take k),e.1<ts.length/\e.2<ts.length/\e.1≠e.2)/\(jS 0 (ts.take k)).Nodup/\(jS 0 (ts.take k)).length<=k*16:=by
  intro k
  induction k with
  | zero=>intro _;rw[ai2];exact⟨(fun e he=>by cases he),akK,ace _⟩
  | succ k ih=>
   intro hk
   obtain⟨i1,i2,i3⟩:=ih (by omega)
   have ht:ts[k]? = some (ts[k]'(by omega)):=aaC _
   obtain⟨a1,a2⟩:=Bl ha ht
   have hle:=Oq (n:=ts.length) (fun a h=>⟨(a1 a h).1,(a1 a h).2.1⟩) a2
   rw[RW ht]
   refine⟨fun e he => ?_,af2.2 ⟨i2,?_,fun e he f hf hef => ?_⟩,?_⟩
   ·rcases abN.1 he with he | he
    ·exact i1 e he
    ·obtain⟨a,h,rfl⟩:=adD.1 he
     have:=a1 a h
     exact⟨by simp;omega,by simp;omega,by simp;omega⟩
   ·unfold sV
    rw[List.nodup_iff_pairwise_ne,List.pairwise_map]
    refine (List.nodup_iff_pairwise_ne.1 a2).imp_of_mem ?_
    intro a b h1 h2 xv e
    have e1:=congrArg Prod.fst e
    have:=a1 a h1;have:=a1 b h2
    simp only at e1
    omega
   ·obtain⟨a,h,rfl⟩:=adD.1 hf
    have:=acp he
    rw[afs] at this
    rw[hef] at this
    simp at this;omega
   ·rw[abj];simp[sV];omega
 obtain⟨k1,k2,k3⟩:=key ts.length (aaU _)
 rw[ag8 (aaU _)] at k1 k2 k3
 exact⟨hn,k1,k2,by omega⟩
noncomputable def p1 (ts:List Tk)(i:Nat):Bool:=match ts[i]? with | some t=>xq t | none=>false
def p3 (ts:List Tk)(i:Nat):Bool:=match ts[i]? with | some t=>tB t | none=>false
def p4 (ts:List Tk)(i:Nat):Bool:=match ts[i]? with | some t => !q8 ts.length i [] t.after | none=>false
instance (N:Nat) (E:List Ed):Decidable (Bf N E):=by unfold Bf;infer_instance
noncomputable def iF (ts:List Tk):Int:=
 if ¬ (1<=ts.length/\ts.length<=16) then 1
 else if (List.range ts.length).any (p1 ts) then 2
 else if (List.range ts.length).any (dup ts) then 5
 else if (List.range ts.length).any (p3 ts) then 1
 else if (List.range ts.length).any (p4 ts) then 1
 else if Bf ts.length (jS 0 ts) then 0 else 7
theorem LV {ts:List Tk}(h:(List.range ts.length).any (p4 ts)=false):wG ts:=by
 intro i t ht
 have hi:=(aaw.1 ht).1
 rw[ajt] at h
 have:=h i (akH.2 hi)
 unfold p4 at this
 rw[ht] at this
 simpa using this
theorem tri:∀ (i:Nat) (H H':Hp),True->Out [] H H'->True:=fun _ _ _ _ _=>trivial
abbrev mD:Nat:=194
theorem N7 {dx:AV}{xs:List AV}{ts:List Tk}{H:Hp}(hn:ts.length<=100000)(dh:∀ t∈ts,t.after.length<=100000)(hR:RD H dx xs ts) :
  ∃ H',cK (.func (.func 90) [] []) [dv dx] H=some (.int .i64 (iF ts),H')/\Out [] H H':=by
 have fE:=hR.row.one
 have gi:=hR.aK
 have ng:=hR.lt
 have o1:=aG H [dx] 72 0
 by_cases hr:¬ (1<=ts.length/\ts.length<=16)
 ·refine⟨al H [dx] 72 0,Eb ?_,o1⟩
  have d:(decide ((1:Int)<=(ts.length:Int))&&decide ((ts.length:Int)<=16))=false:=by
   rw[<-ah4,aaT,decide_eq_true_eq,decide_eq_true_eq];omega
  unfold zv iF
  rw[if_pos hr]
  simp(disch:=first|exact zqz|fail)only[gi,qK,d,aj,ak,ag,af,simprocAttr]
 have ea:=hr
 replace hr:1<=ts.length/\ts.length<=16:=aiO.1 hr
 have d:(decide ((1:Int)<=(ts.length:Int))&&decide ((ts.length:Int)<=16))=true:=by
  rw[aaT,decide_eq_true_eq,decide_eq_true_eq];omega
 obtain⟨H2,m1,m2,m3,m4⟩:=NK (al H [dx] 72 0)
 rw[cu] at m1 m2 m4
 have o2:Out [] H H2:=o1.trans m3
 let L8:List AV:=[.func (.func 120) [] [],.int .i64 2,.func (.func 121) [] [.ptr (H.next+2) 0],.int .i64 5,.func (.func 122) [] [],.int .i64 1,.func (.func 123) [] [.ptr H.next 0],.int .i64 1]
 have gC:H2.next=H.next+2:=by rw[m4]
 have o3:=aG H2 [.map (H.next+1)] 192 0
 have o4:=aG (al H2 [.map (H.next+1)] 192 0) L8 mD 0
 have hC4:=aZ (al H2 [.map (H.next+1)] 192 0) L8 mD 0
 have ho4:Out [] H (al (al H2 [.map (H.next+1)] 192 0) L8 mD 0):=(o2.trans o3).trans o4
 have atk:(al (al H2 [.map (H.next+1)] 192 0) L8 mD 0).next=H.next+4:=by rw[cu,cu,gC]
 have Lt:(al H2 [.map (H.next+1)] 192 0).next=H.next+3:=by rw[cu,gC]
 have I0:∀ {H':Hp} {S:List Nat},Out S (al (al H2 [.map (H.next+1)] 192 0) L8 mD 0) H'->(∀ j∈S,j=H.next+1)->cellAt H' H.next 0=some dx/\aq H' H.next 0 1=some [dx]/\RD H' dx xs ts/\(∀ k:Nat,k<4->∃ a b,L8[k*2]? = some a/\L8[k*2+1]? = some b/\aq H' (H.next+3) (k*2) 2=some [a,b]):=by
  intro H' S ho hS
  have aH:∀ j,j<H.next+4->j≠H.next+1->∀ o,cellAt H' j o=cellAt (al (al H2 [.map (H.next+1)] 192 0) L8 mD 0) j o:=fun j hj Q5 o=>ho.cellAt (by rw[atk];exact hj) fun q=>Q5 (hS j q)
  have h0:cellAt H' H.next 0=some dx:=by
   rw[aH _ (by omega) (by omega),vM (by rw[Lt];omega),vM (by rw[gC];omega),m3.cellAt (by rw[cu];omega) (by simp),xu rfl];rfl
  refine⟨h0,?_,(hR.ar ho4).out ho fun j hj q=>by have:=ng j hj;have:=hS j q;omega,fun k hk => ?_⟩
  ·unfold aq aq;rw[h0];rfl
  ·have hL:L8.length=8:=rfl
   have ha:L8[k*2]? = some (L8[k*2]'(by rw[hL];omega)):=aaC _
   have hb:L8[k*2+1]? = some (L8[k*2+1]'(by rw[hL];omega)):=aaC _
   refine⟨_,_,ha,hb,?_⟩
   unfold aq aq aq
   rw[aH _ (by omega) (by omega),aH _ (by omega) (by omega),xu Lt.symm,xu Lt.symm,ha,hb]
   rfl
 have hm4:Mp (al (al H2 [.map (H.next+1)] 192 0) L8 mD 0) (H.next+1) (Bt []) 0:=(m2.out o3 (by simp)).out o4 (by simp)
 have SP:Cs (al (al H2 [.map (H.next+1)] 192 0) L8 mD 0) (H.next+2) [.map (H.next+1)] 192 0:=by
  have:=(aZ H2 [.map (H.next+1)] 192 0).out o4 (by simp)
  rw[gC] at this;exact this
 have awu:∀ (H':Hp) (a b:AV),bq a=true->bq b=true->st 2 (.ptr H'.next 0) (.agg [a,b]) (al H' [.nilFunc,.int .i64 0] mD 0)=some (al H' [a,b] mD 0):=fun H' a b ha hb=>iI (by simp[ha,hb]) rfl rfl (by decide) rfl
 have one:∀ (k:Nat) (z z':Int) (p:Nat->Bool) (e:Int) (fv:AV) (H':Hp) (lH:Hp),k<4->z=(k:Nat)->z'=(k+1:Nat)->L8[k*2]? = some fv->L8[k*2+1]? = some (.int .i64 e)->bq fv=true->
   aq H' H.next 0 1=some [dx]->H.next+4<=H'.next->(∀ a b,L8[k*2]? = some a->L8[k*2+1]? = some b->aq H' (H.next+3) (k*2) 2=some [a,b])->
   cK (.func (.func 125) [] []) [dv dx,fv] (al H' [fv,.int .i64 e] mD 0)=some (.bool ((List.range ts.length).any p),lH)->Out [H.next+1] (al H' [fv,.int .i64 e] mD 0) lH->
   ∀ dI:K.Fn 1,Dy JN GO cK dI (.ptr H.next 0) (.slice (H.next+3) 0 4 4 true 2) (.int .i64 4) (.int .i64 z) H'=if (List.range ts.length).any p then some (.int .i64 e,lH) else Dy JN GO cK dI (.ptr H.next 0) (.slice (H.next+3) 0 4 4 true 2) (.int .i64 4) (.int .i64 z') lH:=by
  intro k z z' p e fv H' lH hk hz Be ha hb hfv Hh hHn hl hs hos dI
  subst hz;subst Be
  have lW:=hl _ _ ha hb
  have oK:ia 2 (.slice (H.next+3) 0 4 4 true 2) (.int .i64 (k:Nat))=some (.ptr (H.next+3) (k*2)):=by rw[Ai hk];simp
  have ba:decide (((k:Nat):Int)<4)=true:=decide_eq_true (by omega)
  have es:IntKind.wrap .i64 ((k:Int)+1)=((k+1:Nat):Int):=by rw[wrap_i64 (by omega) (by omega)];rfl
  have aA:=awu H' fv (.int .i64 e) hfv rfl
  have he:cellAt lH H'.next 1=some (.int .i64 e):=by
   rw[hos.cellAt (by rw[cu];omega) (by rw[No];omega),xu rfl];rfl
  have dJ:aC H' [.nilFunc,.int .i64 0] mD 0=some (H'.next,al H' [.nilFunc,.int .i64 0] mD 0):=gJ (by simp)
  rw[afv]
  cases MN:(List.range ts.length).any p with
  | true=>
   rw[MN] at hs
   simp(disch:=first|exact zqz|fail)only[GJ,ba,oK,lW,dJ,aA,Hh,hs,he,if_true,aj,ak,ag,af,simprocAttr]
  | false=>
   rw[MN] at hs
   simp(disch:=first|exact zqz|fail)only[GJ,ba,oK,lW,dJ,aA,Hh,hs,es,abH,if_false,aj,ak,ag,af,simprocAttr]
 generalize hH4:al (al H2 [.map (H.next+1)] 192 0) L8 mD 0=H4 at *
 have tY:∀ {A B:Hp},Out [] A B->Out [H.next+1] A B:=fun h=>h.mono fun j hj=>by cases hj
 have IK:∀ j∈([H.next+1]:List Nat),j=H.next+1:=fun j hj=>by rw[No] at hj;exact hj
 obtain⟨a1,a2,a3,a4⟩:=I0 (Out.refl [H.next+1] H4) IK
 have r1:=aG H4 [.func (.func 120) [] [],.int .i64 2] mD 0
 obtain⟨H5,s1,s2⟩:=NI (S:=[]) (fv := .func (.func 120) [] []) (p:=p1 ts) (fun _ _=>True) hn (by simp) tri (fun i t x H' ht hx bE _=>by
  obtain⟨lH,c1,c2⟩:=awE t x i H'
  have hp:p1 ts i=xq t:=by unfold p1;rw[ht]
  exact⟨lH,by rw[hp];exact c1,c2,fun _=>trivial⟩) (a3.ar r1) trivial
 have g1:=one 0 0 1 (p1 ts) 2 _ H4 H5 (by omega) rfl rfl rfl rfl rfl a2 (by omega) (fun a b ha hb=>by obtain⟨a',b',x1,x2,x3⟩:=a4 0 (by omega);rw[x1] at ha;rw[x2] at hb;cases ha;cases hb;exact x3) s1 (tY s2)
 have t5:Out [H.next+1] H4 H5:=tY (r1.trans s2)
 obtain⟨b1,b2,b3,b4⟩:=I0 t5 IK
 have n5:=t5.nx
 have r2:=aG H5 [.func (.func 121) [] [.ptr (H.next+2) 0],.int .i64 5] mD 0
 have hHI:Ox (H.next+1) (H.next+2) ts 0 (al H5 [.func (.func 121) [] [.ptr (H.next+2) 0],.int .i64 5] mD 0):=
  ⟨192,[],0,((SP.out (r1.trans s2) (by simp)).out r2 (by simp)),(hm4.out (r1.trans s2) (by simp)).out r2 (by simp),by rw[ai2];rfl,by omega,akK⟩
 have hfm:∀ j∈lU dx xs,j∉([H.next+1]:List Nat):=fun j hj=>by rw[No];have:=ng j hj;omega
 obtain⟨H6,u1,u2⟩:=NI (S:=[H.next+1]) (fv := .func (.func 121) [] [.ptr (H.next+2) 0]) (p:=dup ts) (Ox (H.next+1) (H.next+2) ts) hn hfm (fun i A B hA HL=>by
  obtain⟨el,l,c,x1,x2,x3,x4⟩:=hA
  exact⟨el,l,c,x1.out HL (by simp),x2.out HL (by simp),x3,x4⟩) (fun i t x H' ht hx bE hI=>anS hI ht) (b3.ar r2) hHI
 have g2:=one 1 1 2 (dup ts) 5 _ H5 H6 (by omega) rfl rfl rfl rfl rfl b2 (by omega) (fun a b ha hb=>by obtain⟨a',b',x1,x2,x3⟩:=b4 1 (by omega);rw[x1] at ha;rw[x2] at hb;cases ha;cases hb;exact x3) u1 u2
 have t6:Out [H.next+1] H4 H6:=t5.trans ((tY r2).trans u2)
 obtain⟨c1,c2,c3,c4⟩:=I0 t6 IK
 have n6:=t6.nx
 have r3:=aG H6 [.func (.func 122) [] [],.int .i64 1] mD 0
 obtain⟨H7,v1,v2⟩:=NI (S:=[]) (fv := .func (.func 122) [] []) (p:=p3 ts) (fun _ _=>True) hn (by simp) tri (fun i t x H' ht hx bE _=>by
  obtain⟨lH,c1,c2⟩:=avz t x i H'
  have hp:p3 ts i=tB t:=by unfold p3;rw[ht]
  exact⟨lH,by rw[hp];exact c1,c2,fun _=>trivial⟩) (c3.ar r3) trivial
 have g3:=one 2 2 3 (p3 ts) 1 _ H6 H7 (by omega) rfl rfl rfl rfl rfl c2 (by omega) (fun a b ha hb=>by obtain⟨a',b',x1,x2,x3⟩:=c4 2 (by omega);rw[x1] at ha;rw[x2] at hb;cases ha;cases hb;exact x3) v1 (tY v2)
 have t7:Out [H.next+1] H4 H7:=t6.trans (tY (r3.trans v2))
 obtain⟨d1,d2,d3,d4⟩:=I0 t7 IK
 have n7:=t7.nx
 have r4:=aG H7 [.func (.func 123) [] [.ptr H.next 0],.int .i64 1] mD 0
 obtain⟨H8,w1,w2⟩:=NI (S:=[]) (fv := .func (.func 123) [] [.ptr H.next 0]) (p:=p4 ts) (fun _ H'=>cellAt H' H.next 0=some dx/\H.next<H'.next) hn (by simp) (fun i A B hA HL=>⟨by rw[HL.cellAt hA.2 (by simp)];exact hA.1,by have:=HL.nx;omega⟩) (fun i t x H' ht hx bE hI=>by
  obtain⟨x',bb,oo,y1,y2,y3,_⟩:=bE.at ht
  rw[hx] at y1
  cases y1
  obtain⟨lH,c1,c2⟩:=avW (i:=(i:Int)) (n:=ts.length) hn (dh t (aaO ht)) gi fE hI.1 hI.2 y3
  have hp:p4 ts i = !q8 ts.length i [] t.after:=by unfold p4;rw[ht]
  exact⟨lH,by rw[hp];exact c1,c2,fun _=>⟨by rw[c2.cellAt hI.2 (by simp)];exact hI.1,by have:=c2.nx;omega⟩⟩) (d3.ar r4) ⟨by rw[r4.cellAt (by omega) (by simp)];exact d1,by rw[cu];omega⟩
 have g4:=one 3 3 4 (p4 ts) 1 _ H7 H8 (by omega) rfl rfl rfl rfl rfl d2 (by omega) (fun a b ha hb=>by obtain⟨a',b',x1,x2,x3⟩:=d4 3 (by omega);rw[x1] at ha;rw[x2] at hb;cases ha;cases hb;exact x3) w1 (tY w2)
 have t8:Out [H.next+1] H4 H8:=t7.trans (tY (r4.trans w2))
 obtain⟨e1,e2,e3,e4⟩:=I0 t8 IK
 have fin:∀ {B:Hp},Out [H.next+1] H4 B->Out [] H B:=fun h=>ho4.then h fun j hj=>by rw[No] at hj;exact .inr (by omega)
 have g5:∀ dI:K.Fn 1,Dy JN GO cK dI (.ptr H.next 0) (.slice (H.next+3) 0 4 4 true 2) (.int .i64 4) (.int .i64 4) H8=dI (.ptr H.next 0) H8:=fun dI=>by
  have d:decide ((4:Int)<4)=false:=rfl
  rw[afv]
  simp only[GJ,d,ag,af,simprocAttr]
 have xd:st 1 (.ptr (H.next+2) 0) (.map (H.next+1)) (al H2 [.jZ] 192 0)=some (al H2 [.map (H.next+1)] 192 0):=Oh rfl (by rw[gC]) (by decide) (by simp)
 have dJ:aC (al H2 [.map (H.next+1)] 192 0) L8 mD 0=some (H.next+3,H4):=by rw[<-hH4,gJ (by show 8<=_;omega),Lt]
 have Gj:fl [.nilFunc,(.int .i64 0),.nilFunc,(.int .i64 0),.nilFunc,(.int .i64 0),.nilFunc,(.int .i64 0)] [(0,2,(.agg [.func (.func 120) [] [],.int .i64 2])),(2,2,(.agg [.func (.func 121) [] [.ptr (H.next+2) 0],.int .i64 5])),(4,2,(.agg [.func (.func 122) [] [],.int .i64 1])),(6,2,(.agg [.func (.func 123) [] [.ptr H.next 0],.int .i64 1]))]=some L8:=rfl
 have Mx:iF ts=if (List.range ts.length).any (p1 ts) then 2 else if (List.range ts.length).any (dup ts) then 5 else if (List.range ts.length).any (p3 ts) then 1 else if (List.range ts.length).any (p4 ts) then 1 else if Bf ts.length (jS 0 ts) then 0 else 7:=by unfold iF;rw[if_neg ea]
 rw[Mx]
 have Gm:zW (al H [dx] 72 0)=some (H.next+1,H2):=m1
 have e8:((4:Nat):Int)=4:=rfl
 have FB:H.next+2+1=H.next+3:=rfl
 have DQ:al (al H2 [.map (H.next+1)] 192 0) [.func (.func 120) [] [],.int .i64 2,.func (.func 121) [] [.ptr (H.next+2) 0],.int .i64 5,.func (.func 122) [] [],.int .i64 1,.func (.func 123) [] [.ptr H.next 0],.int .i64 1] mD 0=H4:=hH4
 have abM:aK (.slice (H.next+3) 0 4 4 true 2)=some (.int .i64 4):=rfl
 have FJ:H2.next=H.next+2:=gC
 cases q1:(List.range ts.length).any (p1 ts) with
 | true=>
  simp only[q1,if_true] at g1
  refine⟨H5,Eb ?_,fin t5⟩
  unfold zv
  simp(disch:=first|exact zqz|fail)only[gi,qK,d,Gm,FJ,xd,Gj,e8,FB,DQ,g1,if_true,aj,ak,ag,af,simprocAttr]
 | false=>
 cases q2:(List.range ts.length).any (dup ts) with
 | true=>
  simp only[q1,abH,if_false] at g1
  simp only[q2,if_true] at g2
  refine⟨H6,Eb ?_,fin t6⟩
  unfold zv
  simp(disch:=first|exact zqz|fail)only[gi,qK,d,Gm,FJ,xd,Gj,e8,FB,DQ,g1,g2,if_true,abH,if_false,aj,ak,ag,af,simprocAttr]
 | false=>
 cases q3:(List.range ts.length).any (p3 ts) with
 | true=>
  simp only[q1,abH,if_false] at g1
  simp only[q2,abH,if_false] at g2
  simp only[q3,if_true] at g3
  refine⟨H7,Eb ?_,fin t7⟩
  unfold zv
  simp(disch:=first|exact zqz|fail)only[gi,qK,d,Gm,FJ,xd,Gj,e8,FB,DQ,g1,g2,g3,if_true,abH,if_false,aj,ak,ag,af,simprocAttr]
 | false=>
 cases q4:(List.range ts.length).any (p4 ts) with
 | true=>
  simp only[q1,abH,if_false] at g1
  simp only[q2,abH,if_false] at g2
  simp only[q3,abH,if_false] at g3
  simp only[q4,if_true] at g4
  refine⟨H8,Eb ?_,fin t8⟩
  unfold zv
  simp(disch:=first|exact zqz|fail)only[gi,qK,d,Gm,FJ,xd,Gj,e8,FB,DQ,g1,g2,g3,g4,if_true,abH,if_false,aj,ak,ag,af,simprocAttr]
 | false=>
  simp only[q1,abH,if_false] at g1
  simp only[q2,abH,if_false] at g2
  simp only[q3,abH,if_false] at g3
  simp only[q4,abH,if_false] at g4
  have Qr:=LV q4
  have agH:∀ t∈ts,t.after.length<=16:=fun t ht=>by
   obtain⟨i,hi⟩:=adR ht
   obtain⟨x1,x2⟩:=Bl Qr hi
   have:=Oq (n:=ts.length) (fun a h=>⟨(x1 a h).1,(x1 a h).2.1⟩) x2
   omega
  obtain⟨ex,H9,y1,y2,y3,y4⟩:=ahI hr.2 agH Qr e3
  obtain⟨cy,kk,uL,z1,z2,z3,z4⟩:=ak6 (arf hr.2 Qr) y2
  refine⟨uL,Eb ?_,(fin t8).trans (y3.trans z4)⟩
  by_cases hk:kk=0
  ·have Ps:=z3.1 hk
   rw[if_pos Ps]
   have dk:decide ((0:Int)<((kk:Nat):Int))=false:=decide_eq_false (by omega)
   unfold zv
   simp(disch:=first|exact zqz|fail)only[gi,qK,d,Gm,FJ,xd,Gj,e8,FB,DQ,g1,g2,g3,g4,g5,e2,y1,z1,z2,dk,abH,if_false,aj,ak,ag,af,simprocAttr]
  ·have Ps:¬ Bf ts.length (jS 0 ts):=fun q=>hk (z3.2 q)
   rw[if_neg Ps]
   have dk:decide ((0:Int)<((kk:Nat):Int))=true:=decide_eq_true (by omega)
   unfold zv
   simp(disch:=first|exact zqz|fail)only[gi,qK,d,Gm,FJ,xd,Gj,e8,FB,DQ,g1,g2,g3,g4,g5,e2,y1,z1,z2,dk,abH,if_false,aj,ak,ag,af,simprocAttr]
def uj (names:List ai):List ai->Option (List Int)
 | []=>some []
 | s::r=>match names.findIdx? (fun a=>s==a) with
  | some i=>(uj names r).map fun l=>(i:Int)::l
  | none=>none
abbrev xr:ai:=[97,102,116,101,114]
abbrev yW:ai:=[114,101,116,114,121]
abbrev xz:ai:=[119,97,105,116]
abbrev xa:ai:=[98,97,115,101]
abbrev tG:ai:=[111,110]
noncomputable def jH (t:Tk)(key value:ai)(names:List ai):Option Tk:=
 if key=xr then (uj names (da 44 value)).map fun l=>{ t with after:=t.after++l }
 else if key=yW then (qO value).map fun (n:Nat)=>{ t with cz:=n }
 else if key=xz then (qO value).map fun (n:Nat)=>{ t with wait:=n }
 else if key=xa then (qO value).map fun (n:Nat)=>{ t with base:=n }
 else if key=tG then (if value=[] then none else some { t with on:=value })
 else (qO value).map fun _=>t
structure TO (H:Hp)(p:Nat)(t:Tk)(x:AV):Prop where
 c:Cs H p (aF t x) 99 0
 o:Ow H 3 1 x (ints t.after)
 ne:p∉ah x
theorem TO.ar {H H':Hp}{p:Nat}{t:Tk}{x:AV}(h:TO H p t x)(k:Out [] H H'):TO H' p t x:=⟨h.c.out k (by simp),h.o.out k (by simp),h.ne⟩
theorem TO.st {H:Hp}{p:Nat}{t:Tk}{x:AV}(h:TO H p t x)(o:Nat)(ho:o<6)(v:AV)(hv:bq v=true)(t':Tk)(ht:(aF t x).set o v=aF t' x)(ha:t'.after=t.after) :
  ∃ H',st 1 (.ptr p o) v H=some H'/\TO H' p t' x/\Out [p] H H':=by
 obtain⟨H',w1,w2,w3,w4⟩:=fP h.c (by decide) (o:=o) (by rw[vZ];exact ho) hv
 rw[ht] at w2
 exact⟨H',w1,⟨w2,by rw[ha];exact h.o.out w3 fun j hj=>by rw[No];intro e;subst e;exact h.ne hj,h.ne⟩,w3⟩
theorem ae8 {names:List ai}{nx sx:AV}{p:Nat}{parts:List ai}(kB:names.length<=100000)(jy:parts.length<=100000):∀ (r:List ai) (i:Nat) (H:Hp) (t:Tk) (x:AV),i<=parts.length->parts.drop i=r->Rw H 1 nx (strs names)->Rw H 1 sx (strs parts)->TO H p t x->(∀ j,j∈ah nx\/j∈ah sx->j≠p/\j∉ah x)->t.after.length+r.length<=200000->
  ∃ H',Out (p::ah x) H H'/\((∃ l x',uj names r=some l/\(∀ (eY:K.Fn 1) (cF:K.Fn 0),Ey JN GO cK eY cF (.ptr p 0) nx sx (.int .i64 (parts.length:Nat)) (.int .i64 (i:Nat)) H=cF H')/\TO H' p { t with after:=t.after++l } x'/\∀ j∈ah x',j∈ah x\/H.next<=j)\/
   (uj names r=none/\∀ (eY:K.Fn 1) (cF:K.Fn 0),Ey JN GO cK eY cF (.ptr p 0) nx sx (.int .i64 (parts.length:Nat)) (.int .i64 (i:Nat)) H=some (.bool false,H')))
 | [],i,H,t,x,hi,h,mb,Ot,hT,hd,dh=>by
  obtain rfl:=drop_nil hi h
  refine⟨H,Out.refl _ _,.inl ⟨[],x,rfl,fun eY cF => ?_,by simpa using hT,fun j hj => .inl hj⟩⟩
  rw[K1]
  simp only[Ez,ez,ag,af,simprocAttr]
 | s::r,i,H,t,x,hi,h,mb,Ot,hT,hd,dh=>by
  obtain⟨h1,h2,h3⟩:=eF h
  obtain⟨q,q1,q2⟩:=Ot.gw (nE h2) .i64
  have es:=eE h1 (by omega)
  have nZ:=St mb (by omega) s
  simp only[aa1] at dh
  unfold uj
  cases hf:names.findIdx? (fun a=>s==a) with
  | none=>
   rw[hf] at nZ
   have d:decide (mr none<0)=true:=rfl
   refine⟨H,Out.refl _ _,.inr ⟨rfl,fun eY cF => ?_⟩⟩
   rw[K1]
   simp(disch:=first|exact zqz|fail)only[Ez,aU h1,q1,q2,nZ,d,aj,ak,ag,af,simprocAttr]
  | some m=>
   rw[hf] at nZ
   have d:decide (mr (some m)<0)=false:=decide_eq_false (by show ¬ ((m:Int)<0);omega)
   have qU:mr (some m)=(m:Int):=rfl
   rw[qU] at nZ d
   have Hh:cellAt H p 1=some x:=hT.c.cellAt rfl
   have axo:=hT.c.1
   obtain⟨x1,H1,p1,p2,p3,p4,p5⟩:=uB (fM:=3) (z:=[(.int .i64 0)]) (vs:=[.int .i64 (m:Int)]) hT.o rfl rfl (by decide) (by rw[lK];simp;omega)
   have qR:ints t.after++[.int .i64 (m:Int)]=ints (t.after++[(m:Int)]):=by rw[Lc];rfl
   rw[qR] at p2
   have AU:=hT.c.out p3 hT.ne
   obtain⟨H2,w1,w2,w3,w4⟩:=fP AU (by decide) (o:=1) (by rw[vZ];omega) (v:=x1) p5
   have e9:(aF t x).set 1 x1=aF { t with after:=t.after++[(m:Int)] } x1:=rfl
   rw[e9] at w2
   have kA:=p3.nx
   have YK:p∉ah x1:=fun z=>(p4 p z).elim hT.ne fun z=>by omega
   have wo:TO H2 p { t with after:=t.after++[(m:Int)] } x1:=⟨w2,p2.out w3 fun j hj=>by rw[No];intro e;subst e;exact YK hj,YK⟩
   have o2:Out (p::ah x) H H2:=(p3.mono fun j hj => .tail _ hj).trans (w3.mono fun j hj=>by rw[No] at hj;subst hj;exact .head _)
   have iJ:=mb.lt
   have mM:=Ot.lt
   have yJ:∀ j,j∈ah nx\/j∈ah sx->j≠p/\j∉ah x1:=fun j hj=>⟨(hd j hj).1,fun z=>(p4 j z).elim (hd j hj).2 fun y=>by have:=hj.elim (iJ j) (mM j);omega⟩
   obtain⟨H',i1,i2⟩:=ae8 (p:=p) kB jy r (i+1) H2 { t with after:=t.after++[(m:Int)] } x1 h1 h3 (mb.out o2 fun j hj=>by rw[aa7,not_or];exact hd j (.inl hj)) (Ot.out o2 fun j hj=>by rw[aa7,not_or];exact hd j (.inr hj)) wo yJ (by simp;omega)
   have key:∀ j∈ah x1,j∈ah x\/H.next<=j:=fun j hj=>(p4 j hj).imp id fun z=>by omega
   have gC:=o2.nx
   have oo:Out (p::ah x) H H':=o2.then i1 fun j hj=>by
    rcases aa7.1 hj with rfl | hj
    ·exact .inl (.head _)
    ·exact (key j hj).imp (fun z => .tail _ z) id
   have iu:=p1 _ rfl
   refine⟨H',oo,?_⟩
   rcases i2 with⟨l,x',k1,k2,k3,k4⟩ | ⟨k1,k2⟩
   ·refine .inl ⟨(m:Int)::l,x',by simp[k1],fun eY cF => ?_,by simpa[afk] using k3,fun j hj=>(k4 j hj).elim (key j) fun z => .inr (by omega)⟩
    rw[K1]
    simp(disch:=first|exact zqz|fail)only[Ez,aU h1,q1,q2,nZ,d,Hh,iu,w1,es,k2,aj,ak,ag,af,simprocAttr]
   ·refine .inr ⟨by simp[k1],fun eY cF => ?_⟩
    rw[K1]
    simp(disch:=first|exact zqz|fail)only[Ez,aU h1,q1,q2,nZ,d,Hh,iu,w1,es,k2,aj,ak,ag,af,simprocAttr]
theorem JK {a b:ai}(h:a≠b):(a==b)=false:=beq_false_of_ne h
theorem auN {names:List ai}{nx:AV}{p:Nat}{key value:ai}{t:Tk}{x:AV}{H:Hp}(hg:Gl H)(kB:names.length<=100000)(hv:value.length<=90000)(mb:Rw H 1 nx (strs names))(hT:TO H p t x)(hd:∀ j,j∈ah nx->j≠p/\j∉ah x)(dh:t.after.length<=10000) :
  ∃ ok H',cK (.func (.func 118) [] []) [.ptr p 0,.str key,.str value,nx] H=some (.bool ok,H')/\Out (p::ah x) H H'/\(ok=true->∃ t' x',jH t key value names=some t'/\TO H' p t' x'/\∀ j∈ah x',j∈ah x\/H.next<=j)/\(ok=false->jH t key value names=none):=by
 obtain⟨n,RP,H1,n1,n2,n3,n4⟩:=ao8 (s:=value) hg
 have AY:=hT.ar n4
 have Q7:=AY.c.1
 have DC:=mb.ar n4
 have kA:=n4.nx
 have tY:∀ {S:List Nat} {A B:Hp},Out [] A B->Out S A B:=fun h=>h.mono fun j hj=>by cases hj
 have num:∀ (o:Nat) (f:Nat->Tk),o<6->(∀ m:Nat,(aF t x).set o (.int .i64 (m:Int))=aF (f m) x)->(∀ m,(f m).after=t.after)->jH t key value names=(qO value).map f->
   (∀ H2,st 1 (.ptr p o) (.int .i64 n) H1=some H2->wN JN GO cK (.ptr p 0) (.str key) (.str value) nx H=some (.bool RP,H2))->∃ ok H',cK (.func (.func 118) [] []) [.ptr p 0,.str key,.str value,nx] H=some (.bool ok,H')/\Out (p::ah x) H H'/\(ok=true->∃ t' x',jH t key value names=some t'/\TO H' p t' x'/\∀ j∈ah x',j∈ah x\/H.next<=j)/\(ok=false->jH t key value names=none):=by
  intro o f ho hf hfa hm lr
  cases RP with
  | true=>
   obtain⟨m,rfl⟩:∃ m:Nat,n=m:=⟨n.toNat,by have:=n3 rfl;omega⟩
   obtain⟨H2,w1,w2,w3⟩:=AY.st o ho (.int .i64 (m:Int)) rfl (f m) (hf m) (hfa m)
   refine⟨true,H2,CI (lr H2 w1),(tY n4).trans (w3.mono fun j hj=>by rw[No] at hj;subst hj;exact .head _),fun _=>⟨f m,x,?_,w2,fun j hj => .inl hj⟩,fun q=>by cases q⟩
   rw[hm,n2,if_pos rfl,acB];rfl
  | false=>
   obtain⟨H2,w1,w2,w3,w4⟩:=fP AY.c (by decide) (o:=o) (by rw[vZ];exact ho) (v := .int .i64 n) rfl
   refine⟨false,H2,CI (lr H2 w1),(tY n4).trans (w3.mono fun j hj=>by rw[No] at hj;subst hj;exact .head _),fun q=>(by cases q),fun _ => ?_⟩
   rw[hm,n2];rfl
 by_cases k1:key=xr
 ·subst k1
  obtain⟨sx,H2,s1,s2,s3,s4⟩:=U9 (c:=44) (by decide) (s:=value) (by omega) H1
  have mM:=s2.jn
  rw[gB] at mM
  have jy:(da 44 value).length<=90001:=by rw[DJ];have:=Na 44 value;omega
  have wo:=AY.ar s3
  have Ff:=mb.lt
  have GF:=hT.o.rw.lt
  have hpH:=hT.c.1
  obtain⟨H',i1,i2⟩:=ae8 (p:=p) kB (by omega) (da 44 value) 0 H2 t x (ace _) abK (DC.ar s3) s2 wo (fun j hj=>hj.elim (hd j) fun z=>⟨by have:=s4 j z;omega,fun y=>by have:=s4 j z;have:=GF j y;omega⟩) (by omega)
  have hm:jH t xr value names=(uj names (da 44 value)).map fun l=>{ t with after:=t.after++l }:=by unfold jH;rw[if_pos rfl]
  have oo:Out (p::ah x) H H':=(tY (n4.trans s3)).trans i1
  have gC:=(n4.trans s3).nx
  have e:(xr==xr)=true:=rfl
  rcases i2 with⟨l,x',q1,q2,q3,q4⟩ | ⟨q1,q2⟩
  ·rw[show (((0:Nat):Int))=0 from rfl] at q2
   refine⟨true,H',CI ?_,oo,fun _=>⟨_,x',by rw[hm,q1];rfl,q3,fun j hj=>(q4 j hj).imp id fun z=>by omega⟩,fun q=>by cases q⟩
   unfold wN
   simp(disch:=first|exact zqz|fail)only[n1,e,s1,mM,q2,aj,ak,ag,af,simprocAttr]
  ·rw[show (((0:Nat):Int))=0 from rfl] at q2
   refine⟨false,H',CI ?_,oo,fun q=>(by cases q),fun _=>by rw[hm,q1];rfl⟩
   unfold wN
   simp(disch:=first|exact zqz|fail)only[n1,e,s1,mM,q2,aj,ak,ag,af,simprocAttr]
 have e1:=JK k1
 by_cases k2:key=yW
 ·subst k2
  have e2:(yW==yW)=true:=rfl
  refine num 2 (fun m=>{ t with cz:=(m:Int) }) (by omega) (fun m=>rfl) (fun m=>rfl) (by unfold jH;rw[if_neg k1,if_pos rfl]) fun H2 aA => ?_
  unfold wN
  simp(disch:=first|exact zqz|fail)only[n1,e1,e2,aA,aj,ak,ag,af,simprocAttr]
 have e2:=JK k2
 by_cases k3:key=xz
 ·subst k3
  have e3:(xz==xz)=true:=rfl
  refine num 3 (fun m=>{ t with wait:=(m:Int) }) (by omega) (fun m=>rfl) (fun m=>rfl) (by unfold jH;rw[if_neg k1,if_neg k2,if_pos rfl]) fun H2 aA => ?_
  unfold wN
  simp(disch:=first|exact zqz|fail)only[n1,e1,e2,e3,aA,aj,ak,ag,af,simprocAttr]
 have e3:=JK k3
 by_cases k4:key=xa
 ·subst k4
  have e4:(xa==xa)=true:=rfl
  refine num 4 (fun m=>{ t with base:=(m:Int) }) (by omega) (fun m=>rfl) (fun m=>rfl) (by unfold jH;rw[if_neg k1,if_neg k2,if_neg k3,if_pos rfl]) fun H2 aA => ?_
  unfold wN
  simp(disch:=first|exact zqz|fail)only[n1,e1,e2,e3,e4,aA,aj,ak,ag,af,simprocAttr]
 have e4:=JK k4
 by_cases k5:key=tG
 ·subst k5
  have e5:(tG==tG)=true:=rfl
  obtain⟨H2,w1,w2,w3⟩:=AY.st 5 (by omega) (.str value) rfl { t with on:=value } rfl rfl
  have oo:Out (p::ah x) H H2:=(tY n4).trans (w3.mono fun j hj=>by rw[No] at hj;subst hj;exact .head _)
  have hm:jH t tG value names=if value=[] then none else some { t with on:=value }:=by unfold jH;rw[if_neg k1,if_neg k2,if_neg k3,if_neg k4,if_pos rfl]
  by_cases Fj:value=[]
  ·have e6:(value==[])=true:=by rw[Fj];rfl
   refine⟨false,H2,CI ?_,oo,fun q=>(by cases q),fun _=>by rw[hm,if_pos Fj]⟩
   unfold wN
   simp(disch:=first|exact zqz|fail)only[n1,e1,e2,e3,e4,e5,e6,w1,aj,ak,ag,af,simprocAttr]
  ·have e6:(value==[])=false:=beq_false_of_ne Fj
   refine⟨true,H2,CI ?_,oo,fun _=>⟨_,x,by rw[hm,if_neg Fj],w2,fun j hj => .inl hj⟩,fun q=>by cases q⟩
   unfold wN
   simp(disch:=first|exact zqz|fail)only[n1,e1,e2,e3,e4,e5,e6,w1,aj,ak,ag,af,simprocAttr]
 ·have e5:=JK k5
  have hm:jH t key value names=(qO value).map fun _=>t:=by unfold jH;rw[if_neg k1,if_neg k2,if_neg k3,if_neg k4,if_neg k5]
  refine⟨RP,H1,CI ?_,tY n4,fun q=>⟨t,x,?_,AY,fun j hj => .inl hj⟩,fun q => ?_⟩
  ·unfold wN
   simp(disch:=first|exact zqz|fail)only[n1,e1,e2,e3,e4,e5,aj,ak,ag,af,simprocAttr]
  ·rw[hm,n2,if_pos q];rfl
  ·rw[hm,n2,q];rfl
noncomputable def mW (names:List ai):List ai->Tk->List ai->Option Tk
 | [],t,_=>some t
 | s::r,t,ks=>match ks.findIdx? (fun a=>(cut 61 s).1==a) with
  | none=>none
  | some m=>if (cut 61 s).1.length=s.length then none else match jH t (cut 61 s).1 (cut 61 s).2.1 names with
   | none=>none
   | some t'=>mW names r t' (ks.drop (m+1))
theorem Z3 (c:Nat)(s:ai):(cut c s).1.length<=s.length/\(cut c s).2.1.length<=s.length:=by
 unfold cut
 split
 ·exact⟨by rw[afs];exact Nat.min_le_right _ _,by rw[ahT];exact Nat.sub_le _ _⟩
 ·exact⟨aaU _,ace _⟩
theorem ac7 {names:List ai}:∀ {r:List ai} {l:List Int},uj names r=some l->l.length=r.length
 | [],l,h=>by cases h;rfl
 | s::r,l,h=>by
  unfold uj at h
  split at h
  ·rw[aam] at h
   obtain⟨l',h1,rfl⟩:=h
   simp[ac7 h1]
  ·cases h
theorem W4 {t t':Tk}{key value:ai}{names:List ai}(h:jH t key value names=some t'):t'.after.length<=t.after.length+value.length+1:=by
 unfold jH at h
 split at h
 ·rw[aam] at h
  obtain⟨l,h1,rfl⟩:=h
  have:=ac7 h1
  rw[DJ] at this
  have:=Na 44 value
  simp only[abj];omega
 ·split at h
  ·rw[aam] at h;obtain⟨m,_,rfl⟩:=h;simp only;omega
  ·split at h
   ·rw[aam] at h;obtain⟨m,_,rfl⟩:=h;simp only;omega
   ·split at h
    ·rw[aam] at h;obtain⟨m,_,rfl⟩:=h;simp only;omega
    ·split at h
     ·split at h
      ·cases h
      ·cases h;simp only;omega
     ·rw[aam] at h;obtain⟨m,_,rfl⟩:=h;omega
theorem ab1 {α:Type}{p:α->Bool}:∀ {l:List α} {m:Nat},l.findIdx? p=some m->m<l.length
 | [],m,h=>by cases h
 | a::l,m,h=>by
  rw[ai8] at h
  split at h
  ·cases h;simp
  ·rw[aam] at h
   obtain⟨k,h1,rfl⟩:=h
   have:=ab1 h1
   simp only[aa1];omega
theorem afi {names w:List ai}{nx wx:AV}{p q:Nat}(kB:names.length<=100000)(Cy:w.length<=100000)(DI:∀ s∈w,s.length<=80000)(CC:p≠q):∀ (r:List ai) (i:Nat) (H:Hp) (t:Tk) (x kx:AV) (ks:List ai),i<=w.length->w.drop i=r->Gl H->11<=p->(∀ j∈ah x,11<=j)->Rw H 1 nx (strs names)->Rw H 1 wx (strs w)->Rw H 1 kx (strs ks)->ks.length<=10->TO H p t x->(∀ j,j∈ah nx\/j∈ah wx\/j∈ah kx->j≠p/\j∉ah x)->t.after.length+dC r+r.length<=10000->
  ∃ H',Out (p::ah x) H H'/\((∃ t' x',mW names r t ks=some t'/\(∀ aD:K.Fn 2,Fl JN GO cK aD nx (.ptr q 0) (.ptr p 0) kx wx (.int .i64 (w.length:Nat)) (.int .i64 (i:Nat)) H=aD (.ptr q 0) (.ptr p 0) H')/\TO H' p t' x'/\∀ j∈ah x',j∈ah x\/H.next<=j)\/
   (mW names r t ks=none/\(cellAt H q 0).isSome=true/\False)\/(mW names r t ks=none/\∃ H2,Out (p::ah x) H H2/\∀ aD:K.Fn 2,Fl JN GO cK aD nx (.ptr q 0) (.ptr p 0) kx wx (.int .i64 (w.length:Nat)) (.int .i64 (i:Nat)) H=B1 (st 6 (.ptr q 0) (.agg [(.str []),.ae,(.int .i64 0),(.int .i64 0),(.int .i64 0),(.str [])]) H2) fun h=>B1 (az 6 (.ptr q 0) h) fun v=>some (.tuple [v,.bool false],h)))
 | [],i,H,t,x,kx,ks,hi,h,hg,Si,Ti,mb,za,NV,kO,hT,hd,dh=>by
  obtain rfl:=drop_nil hi h
  refine⟨H,Out.refl _ _,.inl ⟨t,x,rfl,fun aD => ?_,hT,fun j hj => .inl hj⟩⟩
  rw[Fu]
  simp only[Ap,ez,ag,af,simprocAttr]
 | s::r,i,H,t,x,kx,ks,hi,h,hg,Si,Ti,mb,za,NV,kO,hT,hd,dh=>by
  obtain⟨h1,h2,h3⟩:=eF h
  obtain⟨y,q1,q2⟩:=za.gw (nE h2) .i64
  have es:=eE h1 (by omega)
  have mM:=DI s (aaO h2)
  have AT:=awO (c:=61) (by decide) (s:=s) (by omega) H
  obtain⟨cl1,cl2⟩:=Z3 61 s
  have nZ:=St NV (by omega) (cut 61 s).1
  have sE:dC (s::r)=s.length+dC r:=by simp[dC]
  rw[sE] at dh
  simp only[aa1] at dh
  have Fi:fl [(.str []),.ae,(.int .i64 0),(.int .i64 0),(.int .i64 0),(.str [])] []=some [(.str []),.ae,(.int .i64 0),(.int .i64 0),(.int .i64 0),(.str [])]:=rfl
  unfold mW
  cases hf:ks.findIdx? (fun a=>(cut 61 s).1==a) with
  | none=>
   rw[hf] at nZ
   have d:decide (mr none<0)=true:=rfl
   refine⟨H,Out.refl _ _,.inr (.inr ⟨rfl,H,Out.refl _ _,fun aD => ?_⟩)⟩
   rw[Fu]
   simp(disch:=first|exact zqz|fail)only[Ap,aU h1,q1,q2,AT,nZ,d,Fi,aj,ak,ag,af,simprocAttr]
  | some m=>
   rw[hf] at nZ
   have hm:=ab1 hf
   have d:decide (mr (some m)<0)=false:=decide_eq_false (by show ¬ ((m:Int)<0);omega)
   have qU:mr (some m)=(m:Int):=rfl
   rw[qU] at nZ d
   simp only
   by_cases hl:(cut 61 s).1.length=s.length
   ·have d2:(((cut 61 s).1.length:Int)==(s.length:Int))=true:=by rw[hl];simp
    rw[if_pos hl]
    refine⟨H,Out.refl _ _,.inr (.inr ⟨rfl,H,Out.refl _ _,fun aD => ?_⟩)⟩
    rw[Fu]
    simp(disch:=first|exact zqz|fail)only[Ap,aU h1,q1,q2,AT,nZ,d,d2,Fi,aj,ak,ag,af,simprocAttr]
   ·have d2:(((cut 61 s).1.length:Int)==(s.length:Int))=false:=beq_false_of_ne (by omega)
    rw[if_neg hl]
    obtain⟨ok,H1,s1,s2,s3,s4⟩:=auN (key:=(cut 61 s).1) (value:=(cut 61 s).2.1) hg kB (by omega) mb hT (fun j hj=>hd j (.inl hj)) (by omega)
    cases ok with
    | false=>
     have hs:=s4 rfl
     rw[hs]
     refine⟨H1,s2,.inr (.inr ⟨rfl,H1,s2,fun aD => ?_⟩)⟩
     rw[Fu]
     simp(disch:=first|exact zqz|fail)only[Ap,aU h1,q1,q2,AT,nZ,d,d2,s1,Fi,aj,ak,ag,af,simprocAttr]
    | true=>
     obtain⟨t',x',u1,u2,u3⟩:=s3 rfl
     rw[u1]
     have EP:=W4 u1
     have e1:IntKind.wrap .i64 ((m:Int)+1)=((m+1:Nat):Int):=by rw[wrap_i64 (by omega) (by omega)];rfl
     have fE:∀ j,j∈ah nx\/j∈ah wx\/j∈ah kx->j∉p::ah x:=fun j hj=>by rw[aa7,not_or];exact hd j hj
     have ajz:=NV.out s2 fun j hj=>fE j (.inr (.inr hj))
     obtain⟨kx',k1,k2,k3⟩:=ET (n:=ks.length) ajz (by rw[gB,ahD]) (by decide) (a:=m+1) (b:=ks.length) (lo:=some (.int .i64 (m+1:Nat))) (hi:=none) (by omega) (aaU _) (Bd.yes _ _ _) (Bd.no _)
     have gp:((strs ks).drop ((m+1)*1)).take ((ks.length-(m+1))*1)=strs (ks.drop (m+1)):=by
      rw[ahD,ahD,ag8 (by rw[ahT,gB];omega)]
      simp[strs,List.map_drop]
     rw[gp] at k2
     have ba:∀ j,j∈ah nx\/j∈ah wx\/j∈ah kx->j<H.next:=fun j hj=>by
      rcases hj with hj | hj | hj
      ·exact mb.lt j hj
      ·exact za.lt j hj
      ·exact NV.lt j hj
     have N5:=hg.nx
     have kA:=s2.nx
     obtain⟨H',i1,i2⟩:=afi (q:=q) kB Cy DI CC r (i+1) H1 t' x' kx' (ks.drop (m+1)) h1 h3 (hg.out s2 fun j hj=>by
      rcases aa7.1 hj with rfl | hj
      ·exact Si
      ·exact Ti j hj) Si (fun j hj=>(u3 j hj).elim (Ti j) fun z=>by omega) (mb.out s2 fun j hj=>fE j (.inl hj)) (za.out s2 fun j hj=>fE j (.inr (.inl hj))) k2 (by rw[ahT];omega) u2 (fun j hj=>by
       have jP:j∈ah nx\/j∈ah wx\/j∈ah kx:=hj.imp id fun z=>z.imp id (k3 j)
       exact⟨(hd j jP).1,fun z=>(u3 j z).elim (hd j jP).2 fun y=>by have:=ba j jP;omega⟩) (by omega)
     have key:∀ j∈p::ah x',j∈p::ah x\/H.next<=j:=fun j hj=>by
      rcases aa7.1 hj with rfl | hj
      ·exact .inl (.head _)
      ·exact (u3 j hj).imp (fun z => .tail _ z) id
     refine⟨H',s2.then i1 key,?_⟩
     simp only
     rcases i2 with⟨t2,x2,v1,v2,v3,v4⟩ | ⟨_,_,v⟩ | ⟨v1,H2,v2,v3⟩
     ·refine .inl ⟨t2,x2,v1,fun aD => ?_,v3,fun j hj=>(v4 j hj).elim (u3 j) fun z => .inr (by omega)⟩
      rw[Fu]
      simp(disch:=first|exact zqz|fail)only[Ap,aU h1,q1,q2,AT,nZ,d,d2,s1,e1,k1,es,v2,aj,ak,ag,af,simprocAttr]
     ·exact v.elim
     ·refine .inr (.inr ⟨v1,H2,s2.then v2 key,fun aD => ?_⟩)
      rw[Fu]
      simp(disch:=first|exact zqz|fail)only[Ap,aU h1,q1,q2,AT,nZ,d,d2,s1,e1,k1,es,v3,aj,ak,ag,af,simprocAttr]
abbrev lz:List ai:=[xr,yW,xz,xa,tG]
noncomputable def wm (names w:List ai):Option Tk:=mW names w.tail ⟨w.headD [],[],0,10,1,[]⟩ lz
theorem gO {H:Hp}{i n el:Nat}{l vs:List AV}(h:Cs H i l el 0)(hn:n=vs.length)(hl:l.length=vs.length)(hv:vs.all bq=true):∃ H',st n (.ptr i 0) (.agg vs) H=some H'/\Cs H' i vs el 0/\Out [i] H H'/\H'.next=H.next:=by
 obtain⟨hi,c,hc,hg⟩:=h
 obtain⟨H',c',q1,q2,q3,q4,q5⟩:=LC vs H i 0 c 0 l.length el 0 hc (by omega) (aaU _) (by omega) (fun k hk=>by rw[aeJ,hg k (l[k]'(by omega)) (aaC (by omega))];rfl) (aeO.1 hv)
 refine⟨H',?_,⟨by omega,c',?_,fun k v hk => ?_⟩,⟨by omega,fun j hj hn=>q4 j (by simpa using hn)⟩,q2⟩
 ·unfold st
  have:Nat.beq n vs.length=true:=by subst hn;exact aie _
  simp only[Dv,this,cond_true]
  exact q1
 ·rw[q3,hl]
 ·have:=(aaw.1 hk).1
  rw[q5,if_pos (by omega),aih];exact hk
theorem akx {names w:List ai}{nx wx:AV}{H:Hp}(hg:Gl H)(kB:names.length<=100000)(hw0:w≠[])(Cy:w.length<=5000)(DI:∀ s∈w,s.length<=80000)(sE:dC w+w.length<=10000)(mb:Rw H 1 nx (strs names))(za:Rw H 1 wx (strs w)) :
  ∃ H',Out [] H H'/\((∃ t x,wm names w=some t/\cK (.func (.func 89) [] []) [wx,nx] H=some (.tuple [.agg (aF t x),.bool true],H')/\Rw H' 1 x (ints t.after)/\∀ j∈ah x,H.next<=j)\/(wm names w=none/\∃ v,cK (.func (.func 89) [] []) [wx,nx] H=some (.tuple [.agg v,.bool false],H')/\v.length=6/\v.all bq=true)):=by
 obtain⟨w0,w,rfl⟩:∃ a b,w=a::b:=by
  cases w with
  | nil=>exact absurd rfl hw0
  | cons a b=>exact⟨a,b,rfl⟩
 have N5:=hg.nx
 have o1:=aG H [(AV.str []),AV.ae,(AV.int .i64 0),(AV.int .i64 0),(AV.int .i64 0),(AV.str [])] 99 0
 have o2:=aG (al H [(AV.str []),AV.ae,(AV.int .i64 0),(AV.int .i64 0),(AV.int .i64 0),(AV.str [])] 99 0) (aF ⟨w0,[],0,10,1,[]⟩ .ae) 99 0
 have o3:=aG (al (al H [(AV.str []),AV.ae,(AV.int .i64 0),(AV.int .i64 0),(AV.int .i64 0),(AV.str [])] 99 0) (aF ⟨w0,[],0,10,1,[]⟩ .ae) 99 0) (strs lz) 9 0
 have bR:=o1.trans o2
 have fu:=bR.trans o3
 have c1:=((aZ H [(AV.str []),AV.ae,(AV.int .i64 0),(AV.int .i64 0),(AV.int .i64 0),(AV.str [])] 99 0).out o2 (by simp)).out o3 (by simp)
 have c2:=(aZ (al H [(AV.str []),AV.ae,(AV.int .i64 0),(AV.int .i64 0),(AV.int .i64 0),(AV.str [])] 99 0) (aF ⟨w0,[],0,10,1,[]⟩ .ae) 99 0).out o3 (by simp)
 have c3:=aZ (al (al H [(AV.str []),AV.ae,(AV.int .i64 0),(AV.int .i64 0),(AV.int .i64 0),(AV.str [])] 99 0) (aF ⟨w0,[],0,10,1,[]⟩ .ae) 99 0) (strs lz) 9 0
 generalize hH3:al (al (al H [(AV.str []),AV.ae,(AV.int .i64 0),(AV.int .i64 0),(AV.int .i64 0),(AV.str [])] 99 0) (aF ⟨w0,[],0,10,1,[]⟩ .ae) 99 0) (strs lz) 9 0=H3 at *
 have Aj:H3.next=H.next+3:=by rw[<-hH3];rfl
 have lT:Rw H3 1 (.slice (H.next+2) 0 5 5 true 1) (strs lz) := .mk c3.ro rfl (aaU _) rfl
 have aql:=za.ar fu
 obtain⟨wx',s1,s2,s3⟩:=ET (n:=w.length+1) aql (by rw[gB];simp) (by decide) (a:=1) (b:=w.length+1) (lo:=some (.int .i64 1)) (hi:=none) (by omega) (aaU _) (Bd.yes .i64 1 0) (Bd.no _)
 have pG:((strs (w0::w)).drop (1*1)).take ((w.length+1-1)*1)=strs w:=by
  rw[ahD,ahD,Nat.add_sub_cancel]
  show (strs w).take w.length=_
  rw[ag8 (by rw[gB];omega)]
 rw[pG] at s2
 have Qy:=s2.jn
 rw[gB] at Qy
 have Tp:=za.lt
 have Ff:=mb.lt
 obtain⟨y,y1,y2⟩:=(za.ar o1).gw (i:=0) (v := .str w0) rfl .i64
 rw[show (((0:Nat):Int))=0 from rfl] at y1
 have xe:dC (w0::w)=w0.length+dC w:=by simp[dC]
 rw[xe] at sE
 simp only[aa1] at sE Cy
 have hT:TO H3 (H.next+1) ⟨w0,[],0,10,1,[]⟩ .ae:=⟨c2,.nil,by simp[ah]⟩
 obtain⟨H4,i1,i2⟩:=afi (q:=H.next) (p:=H.next+1) kB (by omega) (fun s hs=>DI s (.tail _ hs)) (by omega) w 0 H3 ⟨w0,[],0,10,1,[]⟩ .ae (.slice (H.next+2) 0 5 5 true 1) lz (ace _) abK (hg.ar fu) (by omega) (fun j hj=>by cases hj) (mb.ar fu) s2 lT (by decide) hT (fun j hj=>by
  refine⟨?_,by simp[ah]⟩
  rcases hj with hj | hj | hj
  ·have:=Ff j hj;omega
  ·have:=Tp j (s3 j hj);omega
  ·rw[nF (by rfl),No] at hj;omega) (by simp;omega)
 have Ex:Out [H.next+1] H3 H4:=i1.mono fun j hj=>by
  rcases aa7.1 hj with rfl | hj
  ·exact .head _
  ·cases hj
 have Ye:fl [(.str []),.ae,(.int .i64 0),(.int .i64 0),(.int .i64 0),(.str [])] [(0,1,.str w0),(3,1,.int .i64 10),(4,1,.int .i64 1)]=some (aF ⟨w0,[],0,10,1,[]⟩ .ae):=rfl
 have Fz:fl [(.str []),(.str []),(.str []),(.str []),(.str [])] [(0,1,.str [97,102,116,101,114]),(1,1,.str [114,101,116,114,121]),(2,1,.str [119,97,105,116]),(3,1,.str [98,97,115,101]),(4,1,.str [111,110])]=some (strs lz):=rfl
 have aA:=yp ⟨w0,[],0,10,1,[]⟩ .ae rfl (al H [(AV.str []),AV.ae,(AV.int .i64 0),(AV.int .i64 0),(AV.int .i64 0),(AV.str [])] 99 0)
 have hnk:aC (al (al H [(AV.str []),AV.ae,(AV.int .i64 0),(AV.int .i64 0),(AV.int .i64 0),(AV.str [])] 99 0) (aF ⟨w0,[],0,10,1,[]⟩ .ae) 99 0) (strs lz) 9 0=some (H.next+2,H3):=by rw[<-hH3,gJ (by show 5<=_;omega)];rfl
 have abB:H.next+1+1=H.next+2:=rfl
 have hm:wm names (w0::w)=mW names w ⟨w0,[],0,10,1,[]⟩ lz:=rfl
 rw[hm]
 have fin:∀ {A:Hp} {S:List Nat},Out S H3 A->(∀ j∈S,H.next<=j)->Out [] H A:=fun h hS=>fu.then h fun j hj => .inr (hS j hj)
 have eI:(al H [(AV.str []),AV.ae,(AV.int .i64 0),(AV.int .i64 0),(AV.int .i64 0),(AV.str [])] 99 0).next=H.next+1:=rfl
 rw[eI] at aA
 rw[show (((0:Nat):Int))=0 from rfl] at i2
 rcases i2 with⟨t,x,v1,v2,v3,v4⟩ | ⟨_,_,v⟩ | ⟨v1,H5,v2,v3⟩
 ·have lQ:=v3.o.kC
  have mA:aq H4 (H.next+1) 0 6=some (aF t x):=v3.c.aq 6 0 (by rw[vZ];omega)
  have c4:=c1.out Ex (by simp)
  obtain⟨H5,w1,w2,w3,w4⟩:=gO (n:=6) (vs:=aF t x) c4 rfl rfl (by simp[aF,EI,jN,lQ])
  have SN:aq H5 H.next 0 6=some (aF t x):=w2.aq 6 0 (by rw[vZ];omega)
  have GF:∀ j∈ah x,H3.next<=j:=fun j hj=>(v4 j hj).elim (fun z=>by cases z) id
  refine⟨H5,(fin Ex (fun j hj=>by rw[No] at hj;omega)).then w3 fun j hj=>by rw[No] at hj;exact .inr (by omega),.inl ⟨t,x,v1,abb ?_,v3.o.rw.out w3 fun j hj=>by rw[No];have:=GF j hj;omega,fun j hj=>by have:=GF j hj;omega⟩⟩
  unfold MT
  simp(disch:=first|exact zqz|fail)only[y1,y2,Ye,aA,Fz,hnk,hH3,abB,s1,Qy,v2,mA,w1,SN,aj,ak,ag,af,simprocAttr]
 ·exact v.elim
 ·have Gg:Out [H.next+1] H3 H5:=v2.mono fun j hj=>by
   rcases aa7.1 hj with rfl | hj
   ·exact .head _
   ·cases hj
  have c5:=c1.out Gg (by simp)
  obtain⟨H6,w1,w2,w3,w4⟩:=gO (n:=6) (vs:=[(AV.str []),AV.ae,(AV.int .i64 0),(AV.int .i64 0),(AV.int .i64 0),(AV.str [])]) c5 rfl rfl rfl
  have hc6:aq H6 H.next 0 6=some [(AV.str []),AV.ae,(AV.int .i64 0),(AV.int .i64 0),(AV.int .i64 0),(AV.str [])]:=w2.aq 6 0 (by show 0+6<=6;omega)
  refine⟨H6,(fin Gg (fun j hj=>by rw[No] at hj;omega)).then w3 fun j hj=>by rw[No] at hj;exact .inr (by omega),.inr ⟨v1,[(AV.str []),AV.ae,(AV.int .i64 0),(AV.int .i64 0),(AV.int .i64 0),(AV.str [])],abb ?_,rfl,rfl⟩⟩
  unfold MT
  simp(disch:=first|exact zqz|fail)only[y1,y2,Ye,aA,Fz,hnk,hH3,abB,s1,Qy,v3,w1,hc6,aj,ak,ag,af,simprocAttr]
end Go.Proofs.YtodfajmihkagnaaGreatDoor.DfK
