/- Laws that the proof uses. -/
import Derived.Test.YtodfajmihkagnaaGreatDoorDfKb
import Derived.Test.YtodfajmihkagnaaGreatDoorAm16
import Derived.Lib.ItoaNum
import Derived.Test.YtodfajmihkagnaaGreatDoorAm13
set_option linter.unusedVariables false
set_option linter.unusedSimpArgs false
set_option maxRecDepth 10000
namespace Go.Proofs.YtodfajmihkagnaaGreatDoor.mU
open Go Am
abbrev Str:=List Nat
def cN (c:Nat):Str->List Str
 |[]=>[[]]|b::s=>if b=c then []::cN c s else match cN c s with|[]=>[[b]]|h::t=>(b::h)::t
theorem Ch (c:Nat):∀s,cN c s≠[]
 |[]=>by simp[cN]
 |b::s=>by
  unfold cN;split;·simp
  ·split<;>simp
theorem Ql {c:Nat}:∀{s:Str},c∉s->cN c s=[s]
 |[],_=>rfl|b::s,h=>by rw[aal,not_or] at h;unfold cN;rw[zz1 (λe=>h.1 e.symm),Ql h.2]
theorem Ph {c:Nat}:∀{a:Str} (r:Str),c∉a->cN c (a++c::r)=a::cN c r
 |[],r,_=>by show cN c (c::r)=_;unfold cN;rw[zz2 rfl];cases r<;>rfl
 |b::a,r,h=>by rw[aal,not_or] at h;show cN c (b::(a++c::r))=_;have:=Ph r h.2;rw[cN,zz1 (λe=>h.1 e.symm),this]
theorem Wa {c:Nat}:∀{s:Str} {k:Nat},lL c s k=none->c∉s
 |[],k,_=>zzy|b::s,k,h=>by
  unfold lL at h;cases hb:Nat.beq b c with
  |true=>rw[hb] at h;cases h
  |false=>
   rw[hb] at h;have h1:b≠c:=λe=>by subst e;rw[aiw] at hb;cases hb
   rw[aal,not_or];exact⟨λe=>h1 e.symm,Wa h⟩
theorem Ls {c:Nat}:∀{s:Str} {k i:Nat},lL c s k=some i->∃a r,s=a++c::r/\i=k+a.length/\c∉a
 |[],k,i,h=>by cases h
 |b::s,k,i,h=>by
  unfold lL at h;cases hb:Nat.beq b c with
  |true=>
   rw[hb] at h;cases h;have:b=c:=aaY hb;subst this;exact⟨[],s,rfl,rfl,zzy⟩
  |false=>
   rw[hb] at h;have h1:b≠c:=λe=>by subst e;rw[aiw] at hb;cases hb
   obtain⟨a,r,rfl,rfl,h3⟩:=Ls h;refine⟨b::a,r,rfl,by simp;omega,?_⟩;rw[aal,not_or];exact⟨λe=>h1 e.symm,h3⟩
theorem ame {c:Nat}:∀{a:Str} (r:Str) (k:Nat),c∉a->lL c (a++c::r) k=some (k+a.length)
 |[],r,k,_=>by show lL c (c::r) k=_;unfold lL;rw[aiw];rfl
 |b::a,r,k,h=>by
  rw[aal,not_or] at h;show lL c (b::(a++c::r)) k=_;unfold lL;have hb:Nat.beq b c=false:=by rw[<-ahP];exactλe=>h.1 (aaY e).symm
  rw[hb,cond_false,ame r (k+1) h.2,aau];congr 1;omega
theorem Ih (c:Nat):∀s,(cN c s).length=iF c s+1
 |[]=>rfl|b::s=>by
  have ih:=Ih c s;unfold cN iF;by_cases h:b=c;·subst h;rw[zz2 rfl,aiw,cond_true,aau,ih]
  ·have hb:Nat.beq b c=false:=by rw[<-ahP];exactλe=>h (aaY e)
   rw[zz1 h,hb,cond_false];cases hs:cN c s with
   |nil=>exact absurd hs (Ch c s)|cons x y=>rw[hs] at ih;exact ih
theorem Te (c:Nat):∀s:Str,iF c s<=s.length
 |[]=>aaq _|b::s=>by have:=Te c s;unfold iF;cases Nat.beq b c<;>simp<;>omega
theorem MH {c:Nat}:∀{s:Str} {p:Str},p∈cN c s->(∀b∈p,b∈s)/\c∉p/\p.length<=s.length
 |[],p,h=>by
  have:p=[]:=by simpa[cN] using h
  subst this;simp
 |b::s,p,h=>by
  unfold cN at h;by_cases hb:b=c
  ·rw[zz2 hb] at h;rcases aal.1 h with rfl|h;·simp
   ·obtain⟨h1,h2,h3⟩:=MH h;exact⟨λx hx=>.tail _ (h1 x hx),h2,by simp;omega⟩
  ·rw[zz1 hb] at h;cases hs:cN c s with
   |nil=>exact absurd hs (Ch c s)|cons x y=>
    rw[hs] at h;rcases aal.1 h with rfl|h
    ·obtain⟨h1,h2,h3⟩:=MH (c:=c) (s:=s) (p:=x) (by rw[hs];exact .head _);refine⟨λz hz=>?_,?_,by simp;omega⟩
     ·rcases aal.1 hz with rfl|hz;·exact .head _
      ·exact .tail _ (h1 z hz)
     ·rw[aal,not_or];exact⟨λe=>hb e.symm,h2⟩
    ·obtain⟨h1,h2,h3⟩:=MH (c:=c) (s:=s) (p:=p) (by rw[hs];exact .tail _ h);exact⟨λz hz=>.tail _ (h1 z hz),h2,by simp;omega⟩
def lA (c:Nat):List Str->Str
 |[]=>[]|[a]=>a|a::b::l=>a++c::lA c (b::l)
theorem Td {c:Nat}:∀{l:List Str},l≠[]->(∀p∈l,c∉p)->cN c (lA c l)=l
 |[],h,_=>absurd rfl h|[a],_,h=>Ql (h a (.head _))|a::b::l,_,h=>by show cN c (a++c::lA c (b::l))=_;rw[Ph _ (h a (.head _)),Td zzy λp hp=>h p (.tail _ hp)]
theorem adD (c:Nat):∀s,lA c (cN c s)=s
 |[]=>rfl|b::s=>by
  have ih:=adD c s;unfold cN;by_cases h:b=c
  ·rw[zz2 h];cases hs:cN c s with
   |nil=>exact absurd hs (Ch c s)|cons x y=>rw[hs] at ih;show[]++c::lA c (x::y)=_;rw[ih,h];rfl
  ·rw[zz1 h];cases hs:cN c s with
   |nil=>exact absurd hs (Ch c s)|cons x y=>
    rw[hs] at ih;cases y with
    |nil=>show b::x=_;rw[<-ih];rfl|cons z w=>show b::x++c::lA c (z::w)=_;rw[<-ih];rfl
end Go.Proofs.YtodfajmihkagnaaGreatDoor.mU
namespace Go.Proofs.YtodfajmihkagnaaGreatDoor.bq
open Go Am Am.K lq mU
section
section
variable {H:Hp}{c el:Nat}
theorem Sg {aV:Nat}{k:Ext}{fn:Func}{args:List AV}{r:AV×Hp}(hp:bH aV=none)(hf:P.funcs[aV]?=some fn)(hb:fn.body=none)(he:ext aV=some k)(h:Iq P k args H=some r):cK (.func (.func aV) [] []) args H=some r:=by refine Yg Qf ?_;unfold Au;simp only[hp,afV,ac4,hf,hb,he];exact h
def nP:Option Nat->Int
 |some i=>i|none=>-1
theorem aCH (hc:c<256)(s:Str)(H:Hp):cK (zf 197) [.str s,.int .u8 c] H=some (zi (nP (lL c s 0)),H):=by refine Sg (k:=.Tt) zzw Tryz.func197 rfl zzw ?_;show some (AV.int .i64 (match lL (Int.toNat (c:Int)%256) s 0 with|some i=>(i:Int)|none=>-1),H)=_;rw[abO,ahT hc];cases lL c s 0<;>rfl
theorem aHM (hc:c<256)(s:Str)(H:Hp):cK (zf 171) [.str s,.int .u8 c] H=some (zi (iF c s:Nat),H):=by refine Sg (k:=.count) zzw Tryz.func171 rfl zzw ?_;show some (AV.int .i64 (iF (Int.toNat (c:Int)%256) s:Nat),H)=_;rw[abO,ahT hc]
theorem awX (hc:c<256)(s:Str)(H:Hp):cK (zf 186) [.str s,.int .u8 c] H=some (zi (nP (lL c s 0)),H):=by refine aCO ?_;unfold an7;simp only[aCH hc,zz0,simprocAttr]
theorem U7 (hc:c<256)(s:Str)(H:Hp):cK (zf 172) [.str s,.str [c]] H=some (zi (nP (lL c s 0)),H):=by
 refine axz ?_;unfold an9;have h1:z7 (.str [c]) (zi 0)=some (.int .u8 c):=aem .i64 rfl;simp only[awX hc,h1,aau,acj,Int.ofNat_one,Nat.reduceAdd,Int.natCast_one,zz0,simprocAttr];rw[Lo];split
 ·rename_i h;have h:[c]=s:=by simpa using h
  subst h;unfold lL;rw[aiw];rfl
 ·rfl
theorem aDs (hc:c<256)(s:Str)(H:Hp):cK (zf 151) [.str s,.str [c]] H=some (zi (nP (lL c s 0)),H):=by refine aD2 ?_;unfold ai0;simp only[U7 hc,zz0,simprocAttr]
theorem aEv (hc:c<256)(s:Str)(H:Hp):cK (zf 150) [.str s,.str [c]] H=some (zi (iF c s:Nat),H):=by refine aHG ?_;unfold amH;have h1:z7 (.str [c]) (zi 0)=some (.int .u8 c):=aem .i64 rfl;simp only[aHM hc,h1,aau,acj,Int.ofNat_one,Nat.reduceAdd,Int.natCast_one,zz0,simprocAttr]
def cut (c:Nat)(s:Str):Str×Str×Bool:=match lL c s 0 with
 |some i=>(s.take i,s.drop (i+1),true)|none=>(s,[],false)
theorem aqI (hc:c<256){s:Str}(hs:s.length<=1073741824)(H:Hp):cK (zf 152) [.str s,.str [c]] H=some (.tuple [.str (cut c s).1,.str (cut c s).2.1,.bool (cut c s).2.2],H):=by
 refine asN ?_;unfold ams cut;cases hi:lL c s 0 with
 |none=>
  have d:decide ((0:Int) <= -1)=false:=zzx;simp only[U7 hc,hi,nP,d,zz0,Int.reduceBEq,Int.reduceBNe,Int.reduceLT,Int.reduceLE,Int.reduceGT,Int.reduceGE,Int.reduceNeg]
 |some i=>
  obtain⟨a,r,rfl,rfl,ha⟩:=Ls hi;rw[adn] at hi;simp only[aah,aau] at hs;have d:decide ((0:Int)<=((a.length:Nat):Int))=true:=zz3 zzz;have w:IntKind.wrap .i64 ((a.length:Int)+((1:Nat):Int))=((a.length+1:Nat):Int):=by rw[wrap_i64 zzz zzz];rfl
  have h1:qM (.str (a++c::r)) none (some (zi (a.length:Nat)))=some (.str ((a++c::r).take a.length)):=ahF .i64 zzy;have h2:qM (.str (a++c::r)) (some (zi (a.length+1:Nat))) none=some (.str ((a++c::r).drop (a.length+1))):=afM .i64 zzy;simp only[U7 hc,hi,nP,d,h1,h2,w,aau,acj,adn,zz0,Int.reduceBEq,Int.reduceBNe,Int.reduceLT,Int.reduceLE,Int.reduceGT,Int.reduceGE,Int.reduceNeg]
theorem aAi (hc:c<256){s:Str}(hs:s.length<=1073741824)(H:Hp):cK (zf 117) [.str s,.str [c]] H=some (.tuple [.str (cut c s).1,.str (cut c s).2.1,.bool (cut c s).2.2],H):=by refine aBa ?_;unfold ad1;simp only[aqI hc hs,zz0,simprocAttr]
def strs (l:List Str):List AV:=l.map .str
theorem gQ (l:List Str):(strs l).length=l.length:=by simp[strs]
theorem HK (a b:List Str):strs (a++b)=strs a++strs b:=by simp[strs]
theorem mP {l:List Str}{j:Nat}{z:Str}(h:l[j]?=some z):(strs l)[j]?=some (.str z):=by simp[strs,h]
theorem aBV (hc:c<256){A n:Nat}:∀(m:Nat) (s:Str) (dn:List Str) (H:Hp),s.length=m->m<=1073741824->n<=1073741824->dn.length+(cN c s).length=n->Cs H A (strs dn++List.replicate (n-dn.length) (AV.str [])) el 0->
  ∃Gv s' H',(∀k:K.Fn 3,aay JN GO cK k (.str s) (.str [c]) (zi 0) (zi ((n-1:Nat):Int)) (.slice A 0 n n true 1) (zi (dn.length:Nat)) H=k (.str s') (.slice A 0 n n true 1) (zi (Gv.length:Nat)) H')/\
   Gv++[s']=dn++cN c s/\Gv.length<n/\Cs H' A (strs Gv++List.replicate (n-Gv.length) (AV.str [])) el 0/\Out [A] H H':=by
 intro m;induction m using Nat.strongRecOn with
 |_ m ih=>
 intro s dn H hm hmb DI hn hC;have KH:=Ih c s;by_cases J2:dn.length+1=n
 ·have vM:cN c s=[s]:=by
   cases hi:lL c s 0 with
   |none=>exact Ql (Wa hi)|some i=>
    obtain⟨a,r,rfl,rfl,ha⟩:=Ls hi;have h1:=Ph (c:=c) r ha;have h2:=Ih c r;rw[h1,aau] at hn;omega
  have d:decide (((dn.length:Nat):Int)<((n-1:Nat):Int))=false:=zz4 zzz;refine⟨dn,s,H,λk=>?_,by rw[vM],zzz,hC,Out.refl _ _⟩;rw[aiu];simp only[Ym,d,zz0,Int.reduceBEq,Int.reduceBNe,Int.reduceLT,Int.reduceLE,Int.reduceGT,Int.reduceGE,Int.reduceNeg]
 ·have d:decide (((dn.length:Nat):Int)<((n-1:Nat):Int))=true:=zz3 zzz;cases hi:lL c s 0 with
  |none=>
   have vM:=Ql (Wa hi);rw[vM] at hn;simp only[aau,acj] at hn;omega
  |some i=>
   obtain⟨a,r,rfl,rfl,ha⟩:=Ls hi;rw[adn] at hi;have h1:=Ph (c:=c) r ha;rw[h1,aau] at hn;simp only[aah,aau] at hm;obtain⟨H1,w1,w2,w3,w4⟩:=eV hC zzx (o:=dn.length) (by rw[aah,gQ,afc];omega) (v:=.str a) rfl;have fY:(strs dn++List.replicate (n-dn.length) (AV.str [])).set dn.length (AV.str a)=strs (dn++[a])++List.replicate (n-(dn++[a]).length) (AV.str []):=by rw[amY _ _ (by rw[gQ];omega),gQ,ajA,HK,abC];congr 1;rw[aah,show n-dn.length=(n-(dn.length + [a].length))+1 by simp;omega,List.replicate_succ];rfl
   rw[fY] at w2;obtain⟨Gv,s',H',i1,i2,i3,i4,i5⟩:=ih r.length zzz r (dn++[a]) H1 rfl zzz DI (by rw[aah];simp;omega) w2;have d2:decide ((((a.length:Nat)):Int)<0)=false:=zz4 zzz;have e1:IntKind.wrap .i64 ((a.length:Int)+0)=((a.length:Nat):Int):=by rw[wrap_i64 zzz zzz];omega
   have e2:IntKind.wrap .i64 ((a.length:Int)+((1:Nat):Int))=((a.length+1:Nat):Int):=by rw[wrap_i64 zzz zzz];rfl
   have e3:IntKind.wrap .i64 ((dn.length:Int)+1)=(((dn++[a]).length:Nat):Int):=by rw[wrap_i64 zzz zzz,aah];rfl
   have q1:qM (.str (a++c::r)) none (some (zi (a.length:Nat)))=some (.str a):=by rw[ahF .i64 zzy];simp
   have q2:qM (.str (a++c::r)) (some (zi (a.length+1:Nat))) none=some (.str r):=by rw[afM .i64 zzy];simp[List.drop_append]
   have q3:ia 1 (.slice A 0 n n true 1) (zi (dn.length:Nat))=some (.ptr A dn.length):=by rw[DL zzz];simp
   refine⟨Gv,s',H',λk=>?_,by rw[i2,h1,abC];rfl,i3,i4,w3.trans i5⟩;rw[aiu];simp only[Ym,d,aDs hc,hi,nP,d2,e1,q1,q3,w1,aau,acj,e2,q2,e3,i1,zz0,Int.reduceBEq,Int.reduceBNe,Int.reduceLT,Int.reduceLE,Int.reduceGT,Int.reduceGE,Int.reduceNeg]
theorem ae3 {z:AV}{n:Nat}(k j:IntKind)(hn:n<=1048576):B0 [z] el 1 (.int k n) (.int j n) H=some (.slice H.next 0 n n true 1,al H (List.replicate n z) el 0):=by
 unfold B0;have hr:rep n [z]=List.replicate n z:=by
  unfold rep;induction n with
  |zero=>rfl|succ m ih=>rw[List.replicate_succ,agF,ih zzz,List.replicate_succ];rfl
 simp only;rw[zz2 ⟨zzz,zzz,zzz⟩,abO,hr,eA (by rw[afc];omega)];rfl
theorem azJ (hc:c<256){s:Str}(hs:s.length<=1000000)(H:Hp):
  ∃x H',cK (zf 116) [.str s,.str [c],zi 0,zi (-1)] H=some (x,H')/\Rw H' 1 x (strs (cN c s))/\Out [] H H'/\∀j∈ak x,H.next<=j:=by
 have hn:=Ih c s;have hle:=Te c s;have e0:([c]==([]:List Nat))=false:=rfl;have e1:IntKind.wrap .i64 ((iF c s:Int)+1)=((iF c s+1:Nat):Int):=by rw[wrap_i64 zzz zzz];rfl
 have e2:IntKind.wrap .i64 ((s.length:Int)+1)=((s.length+1:Nat):Int):=by rw[wrap_i64 zzz zzz];rfl
 have e3:(if ((s.length+1:Nat):Int)<((iF c s+1:Nat):Int) then ((s.length+1:Nat):Int) else ((iF c s+1:Nat):Int))=((iF c s+1:Nat):Int):=zz1 zzz;have e4:IntKind.wrap .i64 (((iF c s+1:Nat):Int)-1)=((iF c s+1-1:Nat):Int):=by rw[wrap_i64 zzz zzz];omega
 have hm:=ae3 (H:=H) (z:=.str []) (el:=9) (n:=iF c s+1) .i64 .i64 zzz;have hC:Cs (al H (List.replicate (iF c s+1) (AV.str [])) 9 0) H.next (strs []++List.replicate (iF c s+1-([]:List Str).length) (AV.str [])) 9 0:=aP H _ _ _;obtain⟨dn,s',H1,i1,i2,i3,i4,i5⟩:=aBV hc (n:=iF c s+1) s.length s [] _ rfl zzz zzz (by simp;omega) hC;obtain⟨H2,w1,w2,w3,w4⟩:=eV i4 zzx (o:=dn.length) (by rw[aah,gQ,afc];omega) (v:=.str s') rfl;have ir:dn.length+1=iF c s+1:=by have:=congrArg List.length i2;simp only[aah,aau,acj] at this;omega
 have fY:(strs dn++List.replicate (iF c s+1-dn.length) (AV.str [])).set dn.length (AV.str s')=strs (cN c s):=by
  rw[amY _ _ (by rw[gQ];omega),gQ,ajA,show iF c s+1-dn.length=1 by omega];have:cN c s=dn++[s']:=by rw[i2];rfl
  rw[this,HK];rfl
 rw[fY] at w2;have e5:IntKind.wrap .i64 ((dn.length:Int)+1)=((iF c s+1:Nat):Int):=by rw[wrap_i64 zzz zzz];omega
 have q3:ia 1 (.slice H.next 0 (iF c s+1) (iF c s+1) true 1) (zi (dn.length:Nat))=some (.ptr H.next dn.length):=by rw[DL zzz];simp
 have N7:Rw H2 1 (.slice H.next 0 (iF c s+1) (iF c s+1) true 1) (strs (cN c s)):=.mk w2.ro (by rw[gQ,hn,adV]) (aaq _) (by rw[rq (Nat.succ_ne_zero _)];rfl);obtain⟨x,x1,x2,x3⟩:=Ar (n:=iF c s+1) N7 (by rw[gQ,hn,adV]) zzx (a:=0) (b:=iF c s+1) (lo:=none) (hi:=some (zi (iF c s+1:Nat))) zzz (aaq _) (Bd.no 0) (Bd.yes _ _ _);rw[ahD,aaM,agN,adV,ae2 (by rw[gQ];omega)] at x2;refine⟨x,H2,apo ?_,x2,?_,λj hj=>?_⟩;·unfold ahz;have IZ:=i1;simp only[acj] at IZ;rw[show (((0:Nat):Int))=0 from rfl] at IZ;simp only[e0,aEv hc,e1,e2,L4,e3,hm,e4,IZ,q3,w1,e5,x1,zz0,Int.reduceBEq,Int.reduceBNe,Int.reduceLT,Int.reduceLE,Int.reduceGT,Int.reduceGE,Int.reduceNeg]
 ·have:Out [H.next] (al H (List.replicate (iF c s+1) (AV.str [])) 9 0) H2:=i5.trans w3;exact (aD H _ _ _).then this λj hj=>by rw[No] at hj;exact .inr zzz
 ·have:=x3 j hj;rw[pH (by rw[rq (Nat.succ_ne_zero _)];rfl)] at this;rw[No] at this;omega
theorem Xv (hc:c<256){s:Str}(hs:s.length<=1000000)(H:Hp):
  ∃x H',cK (zf 88) [.str s,.str [c]] H=some (x,H')/\Rw H' 1 x (strs (cN c s))/\Out [] H H'/\∀j∈ak x,H.next<=j:=by
 obtain⟨x,H',h1,h2⟩:=azJ hc hs H;refine⟨x,H',aqn ?_,h2⟩;unfold afI;simp only[h1,zz0,simprocAttr]
end
def ints (l:List Int):List AV:=l.map λz=>zi z
theorem mX (l:List Int):(ints l).length=l.length:=by simp[ints]
theorem as6 (l:List Int):∀v∈ints l,aW v=true:=by intro v hv;obtain⟨b,_,rfl⟩:=abN.1 hv;rfl
theorem P3 (a b:List Int):ints (a++b)=ints a++ints b:=by simp[ints]
section
variable {H H0:Hp}{i:Nat}{l:List Int}{x y:AV}
theorem Dw {j:Nat}{z:Int}(h:l[j]?=some z):(ints l)[j]?=some (zi z):=by simp[ints,h]
theorem MW (o:Option Nat):decide ((0:Int)<=nP o)=o.isSome:=by
 cases o with
 |none=>rfl|some i=>exact zz3 (by show (0:Int)<=(i:Int);omega)
theorem dD {n:Nat}(h:i<n)(hn:n<=16777216):IntKind.wrap .i64 ((i:Int)+1)=((i+1:Nat):Int):=by rw[wrap_i64 zzz zzz];rfl
theorem aQ {n:Nat}(h:i<n):decide (((i:Nat):Int)<((n:Nat):Int))=true:=zz3 zzz
theorem dA {n:Nat}:decide (((n:Nat):Int)<((n:Nat):Int))=false:=zz4 zzz
theorem drop_nil {α:Type}{l:List α}(hi:i<=l.length)(h:l.drop i=[]):i=l.length:=by have:=congrArg List.length h;rw[aeG,acj] at this;omega
theorem afr {x:AV}{l:List Str}{s:Str}{H:Hp}(hx:Rw H 1 x (strs l))(hl:l.length<=16777216)(k:K.Fn 0):∀(r:List Str) (i:Nat),i<=l.length->l.drop i=r->
  Ze JN GO cK k x (.str s) (zi (l.length:Nat)) (zi (i:Nat)) H=match r.findIdx? (λa=>s==a) with|some j=>some (zi ((i+j:Nat):Int),H)|none=>k H
 |[],i,hi,h=>by obtain rfl:=drop_nil hi h;rw[anz];simp only[V2,dA,List.findIdx?_nil,zz0,simprocAttr]
 |a::r,i,hi,h=>by
  obtain⟨h1,h2,h3⟩:=dU h;obtain⟨q,q1,q2⟩:=hx.gh (mP h2) .i64;have e:=dD h1 hl;have ih:=afr (s:=s) hx hl k r (i+1) h1 h3;rw[anz];simp only[V2,aQ h1,q1,q2,e,ih,Lo,ajP,zz0,simprocAttr];cases hb:(s==a) with
  |true=>simp|false=>
   cases hf:r.findIdx? (λa=>s==a) with
   |none=>simp|some j=>simp;omega
theorem Qk {l:List Str}(hx:Rw H 1 x (strs l))(hl:l.length<=16777216)(s:Str):cK (zf 104) [x,.str s] H=some (zi (nP (l.findIdx? (λa=>s==a))),H):=by refine aA6 ?_;unfold am1;have h1:=hx.gX;rw[gQ] at h1;have h2:=λk=>afr (s:=s) hx hl k l 0 (abg _) aaM;rw[show (((0:Nat):Int))=0 from rfl] at h2;simp only[h1,h2,zz0,simprocAttr];cases l.findIdx? (λa=>s==a)<;>rfl
theorem WC {l:List Str}(hx:Rw H 1 x (strs l))(hl:l.length<=16777216)(s:Str):cK (zf 94) [x,.str s] H=some (.bool (l.any (λa=>s==a)),H):=by refine aAx ?_;unfold ajf;simp only[Qk hx hl,MW,List.findIdx?_isSome,zz0,simprocAttr]
theorem ag7 {x:AV}{l:List Int}{s:Int}{H:Hp}(hx:Rw H 1 x (ints l))(hl:l.length<=16777216)(k:K.Fn 0):∀(r:List Int) (i:Nat),i<=l.length->l.drop i=r->
  Ui JN GO cK k x (zi s) (zi (l.length:Nat)) (zi (i:Nat)) H=match r.findIdx? (λa=>s==a) with|some j=>some (zi ((i+j:Nat):Int),H)|none=>k H
 |[],i,hi,h=>by obtain rfl:=drop_nil hi h;rw[aco];simp only[XM,dA,List.findIdx?_nil,zz0,simprocAttr]
 |a::r,i,hi,h=>by
  obtain⟨h1,h2,h3⟩:=dU h;obtain⟨q,q1,q2⟩:=hx.gh (Dw h2) .i64;have e:=dD h1 hl;have ih:=ag7 (s:=s) hx hl k r (i+1) h1 h3;rw[aco];simp only[XM,aQ h1,q1,q2,e,ih,Lo,ajP,zz0,simprocAttr];cases hb:(s==a) with
  |true=>simp|false=>
   cases hf:r.findIdx? (λa=>s==a) with
   |none=>simp|some j=>simp;omega
theorem aDK (hx:Rw H 1 x (ints l))(hl:l.length<=16777216)(s:Int):cK (zf 174) [x,zi s] H=some (zi (nP (l.findIdx? (λa=>s==a))),H):=by refine aGx ?_;unfold aoi;have h1:=hx.gX;rw[mX] at h1;have h2:=λk=>ag7 (s:=s) hx hl k l 0 (abg _) aaM;rw[show (((0:Nat):Int))=0 from rfl] at h2;simp only[h1,h2,zz0,simprocAttr];cases l.findIdx? (λa=>s==a)<;>rfl
theorem ayG (hx:Rw H 1 x (ints l))(hl:l.length<=16777216)(s:Int):cK (zf 154) [x,zi s] H=some (.bool (l.any (λa=>s==a)),H):=by refine axg ?_;unfold aeu;simp only[aDK hx hl,MW,List.findIdx?_isSome,zz0,simprocAttr]
theorem agm {x fv:AV}{l:List Int}{p:Int->Bool}{H0:Hp}(hx:Rw H0 1 x (ints l))(hl:l.length<=16777216)(hp:∀H,Out [] H0 H->∀a∈l,∃H',cK fv [zi a] H=some (.bool (p a),H')/\Out [] H H'):∀(r:List Int) (i:Nat) (H:Hp),Out [] H0 H->i<=l.length->l.drop i=r->
  ∃H',Out [] H H'/\∀k:K.Fn 0,Vt JN GO cK k x fv (zi (l.length:Nat)) (zi (i:Nat)) H=match r.findIdx? p with|some j=>some (zi ((i+j:Nat):Int),H')|none=>k H'
 |[],i,H,ho,hi,h=>by obtain rfl:=drop_nil hi h;refine⟨H,Out.refl _ _,λk=>?_⟩;rw[Vj];simp only[Qy,dA,List.findIdx?_nil,zz0,simprocAttr]
 |a::r,i,H,ho,hi,h=>by
  obtain⟨h1,h2,h3⟩:=dU h;obtain⟨q,q1,q2⟩:=(hx.au ho).gh (Dw h2) .i64;have e:=dD h1 hl;obtain⟨H1,p1,p2⟩:=hp H ho a (aab h2);cases hb:p a with
  |true=>
   refine⟨H1,p2,λk=>?_⟩;rw[Vj];simp only[Qy,aQ h1,q1,q2,p1,hb,ajP,if_true,aeA,zz0,simprocAttr]
  |false=>
   obtain⟨H',i1,i2⟩:=agm hx hl hp r (i+1) H1 (ho.trans p2) h1 h3;refine⟨H',p2.trans i1,λk=>?_⟩;rw[Vj];simp only[Qy,aQ h1,q1,q2,p1,hb,e,i2,ajP,zz0,simprocAttr];cases hf:r.findIdx? p with
   |none=>simp|some j=>simp;omega
theorem aEl {fv:AV}{p:Int->Bool}(hx:Rw H0 1 x (ints l))(hl:l.length<=16777216)(hp:∀H,Out [] H0 H->∀a∈l,∃H',cK fv [zi a] H=some (.bool (p a),H')/\Out [] H H'):
  ∃H',cK (zf 143) [x,fv] H0=some (.bool (l.any p),H')/\Out [] H0 H':=by
 obtain⟨H',h1,h2⟩:=agm hx hl hp l 0 H0 (Out.refl _ _) (abg _) aaM;rw[show (((0:Nat):Int))=0 from rfl] at h2;have hn:=hx.gX;rw[mX] at hn;have:cK (zf 163) [x,fv] H0=some (zi (nP (l.findIdx? p)),H'):=by refine aHp ?_;unfold anw;simp only[hn,h2,zz0,simprocAttr];cases l.findIdx? p<;>simp[nP]
 refine⟨H',aGt ?_,h1⟩;unfold aku;simp only[this,MW,List.findIdx?_isSome,zz0,simprocAttr]
theorem aj2 {x fv:AV}{L:List (List AV)}{p:List AV->Bool}{H0:Hp}(hx:RL H0 6 x L)(hl:L.length<=16777216)(hp:∀H,Out [] H0 H->∀a∈L,∃H',cK fv [.agg a] H=some (.bool (p a),H')/\Out [] H H'):∀(r:List (List AV)) (i:Nat) (H:Hp),Out [] H0 H->i<=L.length->L.drop i=r->
  ∃H',Out [] H H'/\∀k:K.Fn 0,YT JN GO cK k x fv (zi (L.length:Nat)) (zi (i:Nat)) H=match r.findIdx? p with|some j=>some (zi ((i+j:Nat):Int),H')|none=>k H'
 |[],i,H,ho,hi,h=>by obtain rfl:=drop_nil hi h;refine⟨H,Out.refl _ _,λk=>?_⟩;rw[Ws];simp only[Rj,dA,List.findIdx?_nil,zz0,simprocAttr]
 |a::r,i,H,ho,hi,h=>by
  obtain⟨h1,h2,h3⟩:=dU h;obtain⟨b,o,q1,_,_,q2,_⟩:=(hx.au ho).at zzx h2;have e:=dD h1 hl;obtain⟨H1,p1,p2⟩:=hp H ho a (aab h2);cases hb:p a with
  |true=>
   refine⟨H1,p2,λk=>?_⟩;rw[Ws];simp only[Rj,aQ h1,q1,Pt,q2,ael,p1,hb,ajP,if_true,aeA,zz0,simprocAttr]
  |false=>
   obtain⟨H',i1,i2⟩:=aj2 hx hl hp r (i+1) H1 (ho.trans p2) h1 h3;refine⟨H',p2.trans i1,λk=>?_⟩;rw[Ws];simp only[Rj,aQ h1,q1,Pt,q2,ael,p1,hb,e,i2,ajP,zz0,simprocAttr];cases hf:r.findIdx? p with
   |none=>simp|some j=>simp;omega
theorem aoT {fv:AV}{L:List (List AV)}{p:List AV->Bool}(hx:RL H0 6 x L)(hl:L.length<=16777216)(hp:∀H,Out [] H0 H->∀a∈L,∃H',cK fv [.agg a] H=some (.bool (p a),H')/\Out [] H H'):
  ∃H',cK (zf 95) [x,fv] H0=some (.bool (L.any p),H')/\Out [] H0 H':=by
 obtain⟨H',h1,h2⟩:=aj2 hx hl hp L 0 H0 (Out.refl _ _) (abg _) aaM;rw[show (((0:Nat):Int))=0 from rfl] at h2;have hn:=hx.len zzx;have:cK (zf 135) [x,fv] H0=some (zi (nP (L.findIdx? p)),H'):=by refine atv ?_;unfold acB;simp only[hn,h2,zz0,simprocAttr];cases L.findIdx? p<;>simp[nP]
 refine⟨H',aBy ?_,h1⟩;unfold agi;simp only[this,MW,List.findIdx?_isSome,zz0,simprocAttr]
theorem aFZ {l:List AV}(hx:Rw H 1 x l)(ho:∀v∈l,aW v=true)(hl:l.length<=16777216):
  ∃y H',cK (zf 137) [x] H=some (y,H')/\Ow H' 3 1 y l/\Out [] H H'/\(∀j∈ak y,H.next<=j)/\(x=.ah->y=.ah):=by
 have hu:P.underlying 97=some (.slice 3):=Tryz.underlying97;by_cases h0:x=.ah
 ·subst h0;have:l=[]:=by cases hx;rfl
  subst this;refine⟨.ah,H,ajz ?_,.nil,Out.refl _ _,λj hj=>by simp[ak] at hj,λ_=>rfl⟩;unfold Zr;simp only[Kv,nw,HP hu,zz0,simprocAttr]
 ·obtain⟨y,H',h1,h2,h3,h4⟩:=JK (el:=3) (el2:=3) (z:=[(zi 0)]) hx ho zzx hl;refine⟨y,H',ajz ?_,h2,h3,h4,λq=>absurd q h0⟩;have hq:∃i o n c ex es',x=.slice i o n c ex es':=by
   cases hx with
   |nil=>exact absurd rfl h0|emp=>exact⟨_,_,_,_,_,_,rfl⟩|mk _ _ _ _=>exact⟨_,_,_,_,_,_,rfl⟩
  obtain⟨i,o,n,c,ex,es',rfl⟩:=hq;unfold Zr;have cB:aA H [] 3 0=some (H.next,al H [] 3 0):=eA zzy;simp only[JZ,nw,I2 hu,pW,cB,h1,zz0,simprocAttr]
theorem Yq {l:List AV}(hx:Rw H 1 x l)(ho:∀v∈l,aW v=true)(hl:l.length<=16777216):
  ∃y H',cK (zf 30) [x] H=some (y,H')/\Ow H' 9 1 y l/\Out [] H H'/\(∀j∈ak y,H.next<=j)/\(x=.ah->y=.ah):=by
 have hu:P.underlying 46=some (.slice 9):=Tryz.underlying46;by_cases h0:x=.ah
 ·subst h0;have:l=[]:=by cases hx;rfl
  subst this;refine⟨.ah,H,akb ?_,.nil,Out.refl _ _,λj hj=>by simp[ak] at hj,λ_=>rfl⟩;unfold Zw;simp only[Kv,nw,HP hu,zz0,simprocAttr]
 ·obtain⟨y,H',h1,h2,h3,h4⟩:=JK (el:=9) (el2:=9) (z:=[(.str [])]) hx ho zzx hl;refine⟨y,H',akb ?_,h2,h3,h4,λq=>absurd q h0⟩;have hq:∃i o n c ex es',x=.slice i o n c ex es':=by
   cases hx with
   |nil=>exact absurd rfl h0|emp=>exact⟨_,_,_,_,_,_,rfl⟩|mk _ _ _ _=>exact⟨_,_,_,_,_,_,rfl⟩
  obtain⟨i,o,n,c,ex,es',rfl⟩:=hq;unfold Zw;have cB:aA H [] 9 0=some (H.next,al H [] 9 0):=eA zzy;simp only[JZ,nw,I2 hu,pW,cB,h1,zz0,simprocAttr]
theorem avK {l:List AV}(hx:Rw H 6 x l)(ho:∀v∈l,aW v=true)(hl:l.length<=16777216):
  ∃y H',cK (zf 136) [x] H=some (y,H')/\Ow H' 99 6 y l/\Out [] H H'/\(∀j∈ak y,H.next<=j)/\(x=.ah->y=.ah):=by
 have hu:P.underlying 70=some (.slice 99):=Tryz.underlying70;by_cases h0:x=.ah
 ·subst h0;have:l=[]:=by cases hx;rfl
  subst this;refine⟨.ah,H,afa ?_,.nil,Out.refl _ _,λj hj=>by simp[ak] at hj,λ_=>rfl⟩;unfold aao;simp only[Kv,nw,HP hu,zz0,simprocAttr]
 ·obtain⟨y,H',h1,h2,h3,h4⟩:=JK (el:=99) (el2:=99) (z:=[(.str []),.ah,(zi 0),(zi 0),(zi 0),(.str [])]) hx ho zzx hl;refine⟨y,H',afa ?_,h2,h3,h4,λq=>absurd q h0⟩;have hq:∃i o n c ex es',x=.slice i o n c ex es':=by
   cases hx with
   |nil=>exact absurd rfl h0|emp=>exact⟨_,_,_,_,_,_,rfl⟩|mk _ _ _ _=>exact⟨_,_,_,_,_,_,rfl⟩
  obtain⟨i,o,n,c,ex,es',rfl⟩:=hq;unfold aao;have cB:aA H [] 99 0=some (H.next,al H [] 99 0):=eA zzy;simp only[JZ,nw,I2 hu,pW,cB,h1,zz0,simprocAttr]
theorem aFg {l:List AV}(hx:Rw H 4 x l)(ho:∀v∈l,aW v=true)(hl:l.length<=16777216):
  ∃y H',cK (zf 138) [x] H=some (y,H')/\Ow H' 132 4 y l/\Out [] H H'/\(∀j∈ak y,H.next<=j)/\(x=.ah->y=.ah):=by
 have hu:P.underlying 73=some (.slice 132):=Tryz.underlying73;by_cases h0:x=.ah
 ·subst h0;have:l=[]:=by cases hx;rfl
  subst this;refine⟨.ah,H,ano ?_,.nil,Out.refl _ _,λj hj=>by simp[ak] at hj,λ_=>rfl⟩;unfold Vn;simp only[Kv,nw,HP hu,zz0,simprocAttr]
 ·obtain⟨y,H',h1,h2,h3,h4⟩:=JK (el:=132) (el2:=132) (z:=[(zi 0),(zi 0),(zi 0),(.str [])]) hx ho zzx hl;refine⟨y,H',ano ?_,h2,h3,h4,λq=>absurd q h0⟩;have hq:∃i o n c ex es',x=.slice i o n c ex es':=by
   cases hx with
   |nil=>exact absurd rfl h0|emp=>exact⟨_,_,_,_,_,_,rfl⟩|mk _ _ _ _=>exact⟨_,_,_,_,_,_,rfl⟩
  obtain⟨i,o,n,c,ex,es',rfl⟩:=hq;unfold Vn;have cB:aA H [] 132 0=some (H.next,al H [] 132 0):=eA zzy;simp only[JZ,nw,I2 hu,pW,cB,h1,zz0,simprocAttr]
theorem ado {x y:AV}{l m:List Str}{H:Hp}(hx:Rw H 1 x (strs l))(hy:Rw H 1 y (strs m))(hl:l.length<=16777216)(fW:l.length=m.length)(k:K.Fn 0):∀(r:List Str) (i:Nat),i<=l.length->l.drop i=r->
  Zf JN GO cK k x y (zi (l.length:Nat)) (zi (i:Nat)) H=if r=m.drop i then k H else some (.bool false,H)
 |[],i,hi,h=>by obtain rfl:=drop_nil hi h;rw[aip];have:m.drop l.length=[]:=aiA zzz;simp only[Ub,dA,this,if_true,zz0,simprocAttr]
 |a::r,i,hi,h=>by
  obtain⟨h1,h2,h3⟩:=dU h;obtain⟨q,q1,q2⟩:=hx.gh (mP h2) .i64;obtain⟨b,hm⟩:∃b,m[i]?=some b:=⟨_,aai zzz⟩;obtain⟨p,p1,p2⟩:=hy.gh (mP hm) .i64;have e:=dD h1 hl;have ih:=ado hx hy hl fW k r (i+1) h1 h3;have hd:m.drop i=b::m.drop (i+1):=by obtain⟨w1,w2⟩:=aac.1 hm;rw[aiy w1,w2]
  rw[aip,hd];generalize m.drop (i+1)=t at ih;simp only[Ub,aQ h1,q1,q2,p1,p2,e,ih,Lo,zz0,simprocAttr];by_cases hb:a=b;·subst hb;simp
  ·simp[hb]
theorem auz {l m:List Str}(hx:Rw H 1 x (strs l))(hy:Rw H 1 y (strs m))(hl:l.length<=16777216):cK (zf 74) [x,y] H=some (.bool (decide (l=m)),H):=by
 refine avI ?_;unfold akI;have h1:=hx.gX;rw[gQ] at h1;have h2:=hy.gX;rw[gQ] at h2;by_cases fW:l.length=m.length
 ·have h3:=λk=>ado hx hy hl fW k l 0 (abg _) aaM;rw[show (((0:Nat):Int))=0 from rfl] at h3;have aE:(((l.length:Nat):Int) != ((m.length:Nat):Int))=false:=by simp[fW]
  simp only[h1,h2,aE,h3,aaM,zz0,simprocAttr];by_cases hb:l=m<;>simp[hb]
 ·have aE:(((l.length:Nat):Int) != ((m.length:Nat):Int))=true:=by simp;omega
  have hb:l≠m:=λe=>fW (by rw[e]);simp only[h1,h2,aE,hb,zz0,simprocAttr]
theorem anv {x y:AV}{l m:List Int}{H:Hp}(hx:Rw H 1 x (ints l))(hy:Rw H 1 y (ints m))(hl:l.length<=16777216)(fW:l.length=m.length)(k:K.Fn 0):∀(r:List Int) (i:Nat),i<=l.length->l.drop i=r->
  YZ JN GO cK k x y (zi (l.length:Nat)) (zi (i:Nat)) H=if r=m.drop i then k H else some (.bool false,H)
 |[],i,hi,h=>by obtain rfl:=drop_nil hi h;rw[aiY];have:m.drop l.length=[]:=aiA zzz;simp only[Zl,dA,this,if_true,zz0,simprocAttr]
 |a::r,i,hi,h=>by
  obtain⟨h1,h2,h3⟩:=dU h;obtain⟨q,q1,q2⟩:=hx.gh (Dw h2) .i64;obtain⟨b,hm⟩:∃b,m[i]?=some b:=⟨_,aai zzz⟩;obtain⟨p,p1,p2⟩:=hy.gh (Dw hm) .i64;have e:=dD h1 hl;have ih:=anv hx hy hl fW k r (i+1) h1 h3;have hd:m.drop i=b::m.drop (i+1):=by obtain⟨w1,w2⟩:=aac.1 hm;rw[aiy w1,w2]
  rw[aiY,hd];generalize m.drop (i+1)=t at ih;simp only[Zl,aQ h1,q1,q2,p1,p2,e,ih,Lo,zz0,simprocAttr];by_cases hb:a=b;·subst hb;simp
  ·simp[hb]
theorem aCP {m:List Int}(hx:Rw H 1 x (ints l))(hy:Rw H 1 y (ints m))(hl:l.length<=16777216):cK (zf 72) [x,y] H=some (.bool (decide (l=m)),H):=by
 refine aw8 ?_;unfold alF;have h1:=hx.gX;rw[mX] at h1;have h2:=hy.gX;rw[mX] at h2;by_cases fW:l.length=m.length
 ·have h3:=λk=>anv hx hy hl fW k l 0 (abg _) aaM;rw[show (((0:Nat):Int))=0 from rfl] at h3;have aE:(((l.length:Nat):Int) != ((m.length:Nat):Int))=false:=by simp[fW]
  simp only[h1,h2,aE,h3,aaM,zz0,simprocAttr];by_cases hb:l=m<;>simp[hb]
 ·have aE:(((l.length:Nat):Int) != ((m.length:Nat):Int))=true:=by simp;omega
  have hb:l≠m:=λe=>fW (by rw[e]);simp only[h1,h2,aE,hb,zz0,simprocAttr]
end
end
open kJ
structure Gl (H:Hp):Prop where
 pow:∀i:Nat,i<20->cellAt H 0 i=some (.int .u64 ((10^i:Nat):Int))
 err:Sj H
 nx:11<=H.next
section
variable {H H':Hp}{el i u:Nat}{l:List AV}
theorem YE {L:List (Nat×List AV)}(h:G4 H L){g:Nat}(hm:(g,l)∈L){k:Nat}{v:AV}(hk:l[k]?=some v):cellAt H g k=some v:=by
 obtain⟨el,h⟩:=h;have h1:=h g l hm;have kL:=(aac.1 hk).1;unfold cellAt;rw[h1];have hb:(Nat.ble 0 k&&Nat.blt k l.length)=true:=by rw[aam,aeF,aeg];omega
 simp only[hb,cond_true];rw[Dc,zz2 zzz];exact hk
theorem arE:∀i:Fin 20,(QX.map (AV.int .u64))[i.val]?=some (.int .u64 ((10^i.val:Nat):Int)):=by
 intro i
 match i with
 |⟨0,_⟩=>rfl|⟨1,_⟩=>rfl|⟨2,_⟩=>rfl|⟨3,_⟩=>rfl|⟨4,_⟩=>rfl|⟨5,_⟩=>rfl|⟨6,_⟩=>rfl|⟨7,_⟩=>rfl|⟨8,_⟩=>rfl|⟨9,_⟩=>rfl|⟨10,_⟩=>rfl|⟨11,_⟩=>rfl|⟨12,_⟩=>rfl|⟨13,_⟩=>rfl|⟨14,_⟩=>rfl|⟨15,_⟩=>rfl|⟨16,_⟩=>rfl|⟨17,_⟩=>rfl|⟨18,_⟩=>rfl|⟨19,_⟩=>rfl|⟨n+20,h⟩=>omega
theorem Gl.of (h:G4 H rI)(hn:11<=H.next):Gl H where
 pow:=λi hi=>YE h (l:=QX.map (AV.int .u64)) (by unfold rI;simp) (arE ⟨i,hi⟩)
 err:=⟨⟨_,_,YE h (g:=6) (k:=0) (by unfold rI;simp;rfl) rfl⟩,⟨_,_,YE h (g:=7) (k:=0) (by unfold rI;simp;rfl) rfl⟩⟩
 nx:=hn
theorem Gl.out {S:List Nat}(h:Gl H)(k:Out S H H')(hs:∀j∈S,11<=j):Gl H' where
 pow:=λi hi=>by rw[k.cellAt (by have:=h.nx;omega) (λq=>by have:=hs _ q;omega)];exact h.pow i hi
 err:=by
  have hn:=h.nx;refine⟨?_,?_⟩;·obtain⟨t,p,q⟩:=h.err.syn;exact⟨t,p,by rw[k.cellAt zzz (λq=>by have:=hs _ q;omega)];exact q⟩
  ·obtain⟨t,p,q⟩:=h.err.rng;exact⟨t,p,by rw[k.cellAt zzz (λq=>by have:=hs _ q;omega)];exact q⟩
 nx:=afi h.nx k.1
theorem Gl.au (h:Gl H)(k:Out [] H H'):Gl H':=h.out k λj hj=>by cases hj
theorem aBt (s c:List Nat)(H:Hp)(hs:s.length<=4294967296)(hc:J6 c=true)(ns:c.length<=4294967280):cK (zf 91) [.str s,.str c] H=some (.str (EP s c),H):=by
 refine DA (p:=LY) zzw ?_;have h2:F.LQ (J6 c) (F.LQ (Nat.ble (F.HU s) 4294967296) (Nat.ble (F.HU c) 4294967280))=true:=by rw[F.St,F.St,F.RY,F.RY,hc];simp only[acy,aam,aeF];exact⟨hs,ns⟩
 show P1 H s c=_;unfold P1;rw[h2]
def dec (n:Int):Str:=(Lib.itoa n).map (·.toNat)
theorem azH:∀p:Fin 10,(([48,49,50,51,52,53,54,55,56,57,97,98,99,100,101,102,103,104,105,106,107,108,109,110,111,112,113,114,115,116,117,118,119,120,121,122]:List Nat).drop p.val).take 1=[48+p.val]:=by decide +kernel
abbrev sm:List Nat:=[48,48,48,49,48,50,48,51,48,52,48,53,48,54,48,55,48,56,48,57,49,48,49,49,49,50,49,51,49,52,49,53,49,54,49,55,49,56,49,57,50,48,50,49,50,50,50,51,50,52,50,53,50,54,50,55,50,56,50,57,51,48,51,49,51,50,51,51,51,52,51,53,51,54,51,55,51,56,51,57,52,48,52,49,52,50,52,51,52,52,52,53,52,54,52,55,52,56,52,57,53,48,53,49,53,50,53,51,53,52,53,53,53,54,53,55,53,56,53,57,54,48,54,49,54,50,54,51,54,52,54,53,54,54,54,55,54,56,54,57,55,48,55,49,55,50,55,51,55,52,55,53,55,54,55,55,55,56,55,57,56,48,56,49,56,50,56,51,56,52,56,53,56,54,56,55,56,56,56,57,57,48,57,49,57,50,57,51,57,52,57,53,57,54,57,55,57,56,57,57]
theorem az7:∀p:Fin 100,(sm.drop (p.val*2)).take 2=[48+p.val / 10,48+p.val%10]:=by decide +kernel
theorem Yl {n:Nat}(h:n<256):(UInt8.ofNat n).toNat=n:=by rw[UInt8.toNat_ofNat',ahT h]
theorem auV {n:Nat}(h:n<10):dec (n:Int)=[48+n]:=by unfold dec Lib.itoa;rw[zz1 zzz,abO,Lib.decDigits_one h];simp only[abo,aiO];rw[Yl zzz]
theorem aqC {n:Nat}(h1:¬n<10)(h2:n<100):dec (n:Int)=[48+n / 10,48+n%10]:=by unfold dec Lib.itoa;rw[zz1 zzz,abO,Lib.decDigits_two h1 h2];simp only[abo,aiO];rw[Yl zzz,Yl zzz]
theorem aqi {n:Nat}(h:n<100)(H:Hp):cK (zf 164) [zi n] H=some (.str (dec n),H):=by
 refine aDD ?_;unfold ag6;by_cases h1:n<10
 ·have d:decide ((n:Int)<10)=true:=zz3 zzz;have e:IntKind.wrap .i64 ((n:Int)+1)=((n+1:Nat):Int):=by rw[wrap_i64 zzz zzz];rfl
  have q:=ak6 (s:=[48,49,50,51,52,53,54,55,56,57,97,98,99,100,101,102,103,104,105,106,107,108,109,110,111,112,113,114,115,116,117,118,119,120,121,122]) (a:=n) (b:=n+1) .i64 .i64 zzz (by simp only[aau,acj];omega);rw[aeE,azH ⟨n,h1⟩] at q;simp only[d,e,q,auV h1,zz0,simprocAttr]
 ·have d:decide ((n:Int)<10)=false:=zz4 zzz;have e1:IntKind.wrap .i64 ((n:Int)*2)=((n*2:Nat):Int):=by rw[wrap_i64 zzz zzz];omega
  have e2:IntKind.wrap .i64 (((n*2:Nat):Int)+2)=((n*2+2:Nat):Int):=by rw[wrap_i64 zzz zzz];rfl
  have q:=ak6 (s:=sm) (a:=n*2) (b:=n*2+2) .i64 .i64 zzz (by simp only[aau,acj];omega);rw[aeE,az7 ⟨n,h⟩] at q;simp only[d,e1,e2,q,aqC h1 h,zz0,simprocAttr]
theorem azL (h1:1<=u)(h2:u<18446744073709551616)(hg:Gl H):cK (zf 165) [.int .u64 u] H=some (zi (Lib.nDigits u:Nat),H):=by
 refine aAM ?_;unfold aly;have hl:cK (zf 182) [.int .u64 u] H=some (zi (Lib.bitLen u:Nat),H):=by refine DA (p:=NC) zzw ?_;unfold NC;simp only;rw[zz2 ⟨zzz,zzz⟩,abO]
 obtain⟨n1,n2⟩:=Lib.numDigits_eq u h1 h2;have hb:Lib.bitLen u<=100:=by have:Lib.l10 (Lib.bitLen u)<=19:=n2;unfold Lib.l10 at this;omega
 have hp:cK (zf 181) [zi (Lib.bitLen u:Nat)] H=some (zi (Lib.l10 (Lib.bitLen u):Nat),H):=by
  refine aFX ?_;unfold afW;have e:IntKind.wrap .i64 ((Lib.bitLen u:Int)*78913)=((Lib.bitLen u*78913:Nat):Int):=by rw[wrap_i64 zzz zzz];omega
  have e2:sP (zi ((Lib.bitLen u*78913:Nat):Int)) (.int .u64 18)=some (zi ((Lib.l10 (Lib.bitLen u):Nat):Int)):=by have:=OK (k:=.i64) (j:=.u64) (a:=Lib.bitLen u*78913) (b:=18);rw[show ((18:Nat):Int)=18 from rfl] at this;rw[this];rfl
  simp only[e,e2,zz0,simprocAttr]
 generalize hq:Lib.l10 (Lib.bitLen u)=q at*
 have qg:qA 20 1 (.ptr 0 0) (zi (q:Nat))=some (.ptr 0 q):=by unfold qA;simp only;rw[zz2 zzz,abO,adV,adn]
 have hc:=hg.pow q zzz;by_cases hle:10^q<=u
 ·rw[zz2 hle] at n1;have d:decide (((10^q:Nat):Int)<=(u:Int))=true:=zz3 (by exact Int.ofNat_le.2 hle);have jj:cK (zf 183) [.bool true] H=some (zi 1,H):=by refine akJ ?_;unfold T9;simp only[zz0,simprocAttr]
  have e:IntKind.wrap .i64 ((q:Int)+1)=((Lib.nDigits u:Nat):Int):=by rw[wrap_i64 zzz zzz];omega
  simp only[hl,hp,qg,Rf,hc,Si,d,jj,e,zz0,simprocAttr]
 ·rw[zz1 hle] at n1;have d:decide (((10^q:Nat):Int)<=(u:Int))=false:=zz4 (by intro x;exact hle (Int.ofNat_le.1 x));have jj:cK (zf 183) [.bool false] H=some (zi 0,H):=by refine akJ ?_;unfold T9;simp only[zz0,simprocAttr]
  have e:IntKind.wrap .i64 ((q:Int)+0)=((Lib.nDigits u:Nat):Int):=by rw[wrap_i64 zzz zzz];omega
  simp only[hl,hp,qg,Rf,hc,Si,d,jj,e,zz0,simprocAttr]
theorem avP {off n cap:Nat}{ex:Bool}{fl:Nat}(h:Cs H i l el fl)(hf:fl<=1)(nQ:0<n)(ho:off+n<=l.length)(hn:n<=100)(hu:u<18446744073709551616)(WS:u<10^n)(hb:∀v∈l,∃b:Nat,b<256/\v=.int .u8 b):
  ∃H',cK (zf 166) [.slice i off n cap ex 1,.int .u64 u] H=some (.tuple [],H')/\Cs H' i (kN l off (qw u n)) el fl/\Out [i] H H':=by
 obtain⟨hi,c,hc,hg⟩:=h;have ir:(qw u n).length=n:=by simp[qw]
 have B6:=Cs.av ⟨hi,c,hc,hg⟩ n off ho;refine⟨{H with h:=H.h.bW i (.cells (c.cz off (qw u n)) 0 l.length el fl)},DA (p:=L3) zzw ?_,⟨hi,c.cz off (qw u n),?_,?_⟩,⟨aaq _,λj hj Oy=>?_⟩⟩;·unfold L3;simp only;rw[zz2 ⟨trivial,nQ,zzz,zzz,zzz,by rw[abO];exact WS⟩,hc,acf,abO];unfold XW;simp only;rw[zz2 ⟨zzz,ho,hf,_,B6,λv hv=>hb v (List.mem_of_mem_drop (List.mem_of_mem_take hv))⟩]
 ·show (H.h.bW i _).get i=_;rw[Tr.bW,Tr.gE,zz2 rfl,Oi]
 ·intro k v hk;rw[FC _ _ _ _ (by rw[ir];exact ho)] at hk;rw[Tr.zj];split;·rename_i jv;rw[zz2 jv] at hk;exact hk
  ·rename_i jv;rw[zz1 jv] at hk;exact hg k v hk
 ·show (H.h.bW i _).get j=_;rw[Tr.bW,Tr.gE,zz1 (by simpa using Oy)]
theorem aj4 (u:Nat):qw u (Lib.nDigits u)=bs ((Lib.decDigits u).map (·.toNat)):=by unfold qw bs;rw[Lib.decDigits_eq,amb,amb];rfl
theorem X4 {a b:Nat}{fl:Nat}(h:Cs H i l el fl)(hl:l.length=24)(Az:a<=b)(hb:b<=24){lo:Option AV}(iL:Bd lo a 0):uJ P 238 (.ptr i 0) lo (some (zi b)) none H=some (.slice i a (b-a) (24-a) true 1):=by
 have hu:P.underlying 238=some (.array 24 5):=Tryz.underlying238;have hs:sz P 5=some 1:=zzw;have hc:=h.cellAt (o:=23) (v:=l[23]' zzz) (aai zzz);unfold uJ;simp only[hu,hs,abY,acf,Ea Az hb (aaq _) iL (Bd.yes .i64 b 24),adV,adn];have h1:(decide (0<24)&&(cellAt H i (0+24-1)).isSome)=true:=by rw[show 0+24-1=23 by rfl,hc];rfl
 simp[hc]
theorem alH {n:Int}(h:n<0):dec n=45::(Lib.decDigits n.natAbs).map (·.toNat):=by unfold dec Lib.itoa;rw[zz2 h];rfl
theorem ajF {n:Int}(h:¬n<0):dec n=(Lib.decDigits n.toNat).map (·.toNat):=by unfold dec Lib.itoa;rw[zz1 h]
theorem ap5 (h:u<18446744073709551616)(h1:1<=u):Lib.nDigits u<=20:=by obtain⟨n1,n2⟩:=Lib.numDigits_eq u h1 h;split at n1<;>omega
theorem an2 (u:Nat):∀b∈(Lib.decDigits u).map (·.toNat),b<256:=by intro b hb;obtain⟨c,_,rfl⟩:=abN.1 hb;exact c.toNat_lt
abbrev z24:List AV:=[(.int .u8 0),(.int .u8 0),(.int .u8 0),(.int .u8 0),(.int .u8 0),(.int .u8 0),(.int .u8 0),(.int .u8 0),(.int .u8 0),(.int .u8 0),(.int .u8 0),(.int .u8 0),(.int .u8 0),(.int .u8 0),(.int .u8 0),(.int .u8 0),(.int .u8 0),(.int .u8 0),(.int .u8 0),(.int .u8 0),(.int .u8 0),(.int .u8 0),(.int .u8 0),(.int .u8 0)]
theorem axW {n:Int}(h0:-9223372036854775808<=n)(h1:n<=9223372036854775807)(hg:Gl H):∃H',cK (zf 146) [zi n,zi 10] H=some (.str (dec n),H')/\Out [] H H':=by
 by_cases hs:0<=n/\n<100;·obtain⟨m,rfl⟩:∃m:Nat,n=m:=⟨n.toNat,zzz⟩;refine⟨H,XV ?_,Out.refl _ _⟩;unfold Sa;have d1:decide ((0:Int)<=(m:Int))=true:=zz3 zzz;have d2:decide ((m:Int)<100)=true:=zz3 hs.2;simp only[d1,d2,aqi (show m<100 by omega),zz0,simprocAttr]
 ·obtain⟨u,Aw,uH,hu3⟩:∃u:Nat,1<=u/\u<18446744073709551616/\u=n.natAbs:=⟨n.natAbs,zzz,zzz,rfl⟩;have hd:=ap5 uH Aw;have hd0:=Lib.nDigits_pos u;have WS:=Lib.lt_pow_nDigits u;have ha:aA H z24 238 0=some (H.next,al H z24 238 0):=eA zzy;have gS:=aP H z24 238 0;have wq:=hg.au (aD H z24 238 0);have fN:=azL Aw uH wq;have mO:=X4 gS rfl (a:=1) (b:=1+Lib.nDigits u) (lo:=some (zi 1)) zzz zzz (Bd.yes .i64 1 0);rw[aeE] at mO;obtain⟨H1,f1,f2,f3⟩:=avP (cap:=24-1) (ex:=true) gS zzx hd0 (off:=1) (by show 1+_<=24;omega) zzz uH WS (by intro v hv;refine⟨0,zzz,?_⟩;simp at hv;exact hv);have hlen:(kN z24 1 (qw u (Lib.nDigits u))).length=24:=by rw[Oi];rfl
  have ir:(qw u (Lib.nDigits u)).length=Lib.nDigits u:=by simp[qw]
  have e1:IntKind.wrap .i64 (1+(Lib.nDigits u:Int))=((1+Lib.nDigits u:Nat):Int):=by rw[wrap_i64 zzz zzz];omega
  have oX:Out [] H H1:=(aD H z24 238 0).then f3 λj hj=>by rw[No] at hj;exact .inr zzz
  have aIx:(decide ((0:Int)<=n)&&decide (n<100))=false:=by
   rw[Bool.and_eq_false_iff];by_cases q:0<=n;·right;exact zz4 zzz
   ·left;exact zz4 zzz
  by_cases hn:n<0
  ·have d1:decide ((0:Int)<=n)=false:=zz4 zzz;have d2:decide (n<0)=true:=zz3 hn;have e2:ep .neg (.int .u64 (IntKind.wrap .u64 n))=some (.int .u64 (u:Nat)):=by show some (AV.int .u64 (IntKind.wrap .u64 (0-IntKind.wrap .u64 n)))=_;congr 2;simp only[IntKind.wrap,IntKind.bits,IntKind.signed];simp;omega
   have aC:=eV f2 zzx (o:=0) (by rw[hlen];decide) (v:=.int .u8 45) rfl;obtain⟨H2,w1,w2,w3,w4⟩:=aC;have Kl:=X4 w2 (by rw[adi];exact hlen) (a:=0) (b:=1+Lib.nDigits u) (lo:=none) zzz zzz (Bd.no 0);rw[agN,agN] at Kl;have wG:(((kN z24 1 (qw u (Lib.nDigits u))).set 0 (.int .u8 45)).take (1+Lib.nDigits u))=bs (dec n):=by
    rw[alH hn,<-hu3];show _=AV.int .u8 (45:Nat)::bs _;rw[<-aj4];apply aj8;intro k;rw[ajg];by_cases hk:k<1+Lib.nDigits u
    ·rw[zz2 hk,agZ];by_cases Fq:0=k;·subst Fq;rw[zz2 rfl,zz2 (by rw[hlen];decide)];rfl
     ·obtain⟨j,rfl⟩:∃j,k=j+1:=⟨k-1,zzz⟩;rw[zz1 Fq,FC _ _ _ _ (by rw[ir];show 1+_<=24;omega),zz2 (by rw[ir];omega),Nat.add_sub_cancel,adb]
    ·rw[zz1 hk,agM (by rw[aau,ir];omega)]
   have N7:Rw H2 1 (.slice H.next 0 (1+Lib.nDigits u) 24 true 1) (bs (dec n)):=by rw[<-wG];exact .mk (w2.ro.take _) (by rw[ad9,adi,hlen];omega) zzz rfl
   have jd:=zw N7 (by
    rw[alH hn];intro b hb;rcases aal.1 hb with rfl|hb;·omega
    ·exact an2 _ b hb)
   refine⟨H2,XV ?_,oX.then w3 λj hj=>by rw[No] at hj;exact .inr zzz⟩;unfold Sa;have hir:qA 24 1 (.ptr H.next 0) (zi 0)=some (.ptr H.next 0):=by unfold qA;simp
   simp only[d1,ha,d2,e2,fN,e1,mO,f1,hir,w1,Kl,jd,zz0,simprocAttr]
  ·obtain⟨m,rfl⟩:∃m:Nat,n=m:=⟨n.toNat,zzz⟩;have hum:u=m:=zzz;subst hum;have d1:decide ((0:Int)<=(u:Int))=true:=zz3 zzz;have d1':decide ((u:Int)<100)=false:=zz4 zzz;have d2:decide ((u:Int)<0)=false:=zz4 hn;have e2:IntKind.wrap .u64 (u:Int)=(u:Int):=axy rfl (by show u<2^64;omega);have Kl:=X4 f2 hlen (a:=1) (b:=1+Lib.nDigits u) (lo:=some (zi 1)) zzz zzz (Bd.yes .i64 1 0);rw[aeE] at Kl;have wG:(((kN z24 1 (qw u (Lib.nDigits u))).drop 1).take (Lib.nDigits u))=bs (dec (u:Int)):=by
    rw[ajF hn,abO,<-aj4];apply aj8;intro k;rw[ajg];by_cases hk:k<Lib.nDigits u;·rw[zz2 hk,afX,FC _ _ _ _ (by rw[ir];show 1+_<=24;omega),zz2 (by rw[ir];omega),aeE]
    ·rw[zz1 hk,agM (by rw[ir];omega)]
   have N7:Rw H1 1 (.slice H.next 1 (Lib.nDigits u) (24-1) true 1) (bs (dec (u:Int))):=by rw[<-wG];exact .mk ((f2.ro.drop 1 (by rw[hlen];decide)).take _) (by rw[ad9,aeG,hlen];omega) zzz rfl
   have jd:=zw N7 (by rw[ajF hn];exact an2 _);refine⟨H1,XV ?_,oX⟩;unfold Sa;simp only[d1,d1',ha,d2,e2,fN,e1,mO,f1,Kl,jd,zz0,simprocAttr]
theorem afq {n:Int}(h0:-9223372036854775808<=n)(h1:n<=9223372036854775807)(hg:Gl H):∃H',cK (zf 84) [zi n] H=some (.str (dec n),H')/\Out [] H H':=by
 obtain⟨H',h2,h3⟩:=axW h0 h1 hg;refine⟨H',ax5 ?_,h3⟩;unfold ad5;have:cK (zf 111) [zi n] H=some (.str (dec n),H'):=by refine arS ?_;unfold ajH;simp only[h2,zz0,simprocAttr]
 simp only[this,zz0,simprocAttr]
theorem avp {s:Str}(hs:s.length<=281474976710656)(hg:Gl H):cK (zf 173) [.str s] H=some (PU s,H):=by refine DA (p:=OM) zzw ?_;unfold OM;simp only;rw[zz2 ⟨hg.err,hs⟩]
end
theorem aqo (i o n c:Nat)(ex:Bool)(es:Nat):same (.slice i o n c ex es) (.slice i o n c ex es)=true:=by simp[same,sY,aiw]
theorem aFo (k:IntKind)(z:Int):same (.int k z) (.int k z)=true:=by simp[same,sY]
theorem avY (i o n c:Nat)(ex:Bool)(es:Nat)(x:R):SM (.slice i o n c ex es) (.slice i o n c ex es) x=x:=eP (aqo ..)
theorem agy (k:IntKind)(z:Int)(x:R):SM (.int k z) (.int k z) x=x:=eP (aFo ..)
structure Bu (H:Hp)(p:Nat)(sl:AV)(l:Str):Prop where
 c:Cs H p [.ptr p 0,sl] 180 0
 o:Ow H 5 1 sl (bs l)
 ne:p∉ak sl
theorem auM (x:AV)(H:Hp):cK (zf 168) [x] H=some (x,H):=
 Sg (k:=.same) zzw Tryz.func168 rfl zzw rfl
theorem axk {n:Nat}(hn:n<=1048576)(H:Hp):cK (zf 169) [zi n] H=some (.slice H.next 0 n n false 1,al H (List.replicate n .dG) 5 0):=by refine Sg (k:=.MG 52) zzw Tryz.func169 rfl zzw ?_;have hu:P.underlying 52=some (.slice 5):=Tryz.underlying52;unfold Iq;simp only[hu];rw[zz2 ⟨zzz,zzz⟩,abO,eA (by rw[afc];omega)];rfl
section
variable {H:Hp}{el:Nat}{l:Str}{sl:AV}
theorem aut {p:Nat}{l:List AV}{fl:Nat}(h:Cs H p l el fl)(hl:0<l.length):kY P 178 242 (.ptr p 0) H=some (.ptr p 0,H):=by have h1:P.underlying 178=some (.pointer 180):=Tryz.underlying178;have h2:P.underlying 242=some .unsafePointer:=Tryz.underlying242;have h3:CC P 180=true:=zzw;have h4:=h.cellAt (aai hl);unfold kY;simp only[h1,h2,h3,h4,agd,Bool.and_self,cond_true]
theorem aqb {p:Nat}{a b:AV}(h:Cs H p [a,b] 180 0):kY P 242 178 (.ptr p 0) H=some (.ptr p 0,H):=by have h1:P.underlying 178=some (.pointer 180):=Tryz.underlying178;have h2:P.underlying 242=some .unsafePointer:=Tryz.underlying242;have h3:P.cellsOf 180=2:=zzw;have h4:=h.cellAt (o:=1) (v:=b) rfl;obtain⟨_,c,hc,_⟩:=h;unfold kY;simp only[h1,h2,hc,h3,Nat.reduceSub,h4];rfl
theorem ap7 {p:Nat}(h:Cs H p [.dE,.ah] 180 0):∃H',cK (zf 147) [.ptr p 0] H=some (.tuple [],H')/\Cs H' p [.ptr p 0,.ah] 180 0/\Out [p] H H'/\H'.next=H.next:=by obtain⟨H',w1,w2,w3,w4⟩:=eV h zzx (o:=0) zzx (v:=.ptr p 0) rfl;refine⟨H',amc ?_,w2,w3,w4⟩;unfold U6;have h1:=h.ld (o:=0) (v:=.dE) rfl;simp only[aeA,h1,aut h zzx,auM,aqb h,w1,zz0,simprocAttr]
theorem at4 (p o:Nat)(H:Hp):pe (.ptr p o) (.ptr p o) H=some true:=by unfold pe;simp[aiw]
theorem arj {p:Nat}(h:Bu H p sl l):cK (zf 147) [.ptr p 0] H=some (.tuple [],H):=by refine amc ?_;unfold U6;have h1:=h.c.ld (o:=0) (v:=.ptr p 0) rfl;simp only[aeA,h1,at4,zz0,simprocAttr]
theorem axM {n:Nat}(hn:0<n):Ow (al H (List.replicate n .dG) el 0) el 1 (.slice H.next 0 0 n false 1) []:=by have gS:=aP H (List.replicate n .dG) el 0;obtain⟨hi,c,hc,hg⟩:=gS;refine .mk hi hc zzx (aaq _) (by rw[afc];omega) (abg _) zzy (λk v hk=>by simp at hk) (λk hk=>?_) (λv hv=>by cases hv) rfl;rw[adn,hg k .dG (by rw[alR,zz2 zzz])];rfl
theorem aBu {p n:Nat}(nQ:0<n)(hn:n<=1000000)(h:Cs H p [.dE,.ah] 180 0):∃sl H',cK (zf 112) [.ptr p 0,zi n] H=some (.tuple [],H')/\Bu H' p sl []/\Out [p] H H'/\∀j∈ak sl,H.next<=j:=by
 obtain⟨H1,c1,c2,c3,c4⟩:=ap7 h;have hu:P.underlying 52=some (.slice 5):=Tryz.underlying52;have jG:∀H:Hp,jn P .cap #[52] [.ah] H=some (zi 0,H):=λH=>by unfold jn;simp only;unfold PG;simp only[hu,aeK,adp,acf];rfl
 have l1:=c2.ld (o:=1) (v:=.ah) rfl;have e1:IntKind.wrap .i64 (0+(n:Int))=(n:Int):=by rw[wrap_i64 zzz zzz];omega
 have e0:IntKind.wrap .i64 (2*0)=0:=by rw[wrap_i64 zzz zzz];omega
 have e2:IntKind.wrap .i64 (0-0)=0:=by rw[wrap_i64 zzz zzz];omega
 have hm:=axk (show n<=1048576 by omega) H1;have amE:=aD H1 (List.replicate n .dG) 5 0;have G9:=c2.out amE zzy;have l1':=G9.ld (o:=1) (v:=.ah) rfl;have mO:oh 1 (.slice H1.next 0 n n false 1) none (some (zi 0)) none=some (.slice H1.next 0 0 n false 1):=by unfold oh;have:=Ea (len:=n) (cap:=n) (a:=0) (b:=0) (lo:=none) (hi:=some (zi 0)) (aaq _) (abg _) (aaq _) (Bd.no 0) (Bd.aFl .i64 _);simp only[this];simp
 have hcp:∀H:Hp,JM 1 (.slice H1.next 0 0 n false 1) .ah H=some (zi 0,H):=λH=>by unfold JM;simp[TL]
 obtain⟨H2,w1,w2,w3,w4⟩:=eV G9 zzx (o:=1) zzy (v:=.slice H1.next 0 0 n false 1) rfl;have hg:cK (zf 148) [.ptr p 0,zi n] H1=some (.tuple [],H2):=by refine aDl ?_;unfold aib;have yA:∀x:R,SM .ah .ah x=x:=λx=>eP rfl;simp only[l1,jG,e0,e1,hm,l1',mO,yA,agy,hcp,w1,zz0,Int.reduceBEq,Int.reduceBNe,Int.reduceLT,Int.reduceLE,Int.reduceGT,Int.reduceGE,Int.reduceNeg]
 have aN:p<H1.next:=by rw[c4];exact h.1
 refine⟨.slice H1.next 0 0 n false 1,H2,aqk ?_,⟨w2,(axM nQ).out w3 (λj hj=>by rw[pH zzv,No] at hj;rw[No];omega),by rw[pH zzv,No];omega⟩,(c3.trans (amE.mono (S':=[p]) (λj hj=>by cases hj))).trans w3,λj hj=>by rw[pH zzv,No] at hj;omega⟩;unfold aoQ;have d1:decide ((n:Int)<0)=false:=zz4 zzz;have d2:decide ((0:Int)<(n:Int))=true:=zz3 zzz;simp only[c1,d1,l1,jG,e2,d2,hg,zz0,Int.reduceBEq,Int.reduceBNe,Int.reduceLT,Int.reduceLE,Int.reduceGT,Int.reduceGE,Int.reduceNeg]
theorem Wo {p:Nat}{s:Str}(h:Bu H p sl l)(hl:l.length+s.length<=16777216):∃yr H',cK (zf 113) [.ptr p 0,.str s] H=some (.tuple [zi s.length,.nilIface],H')/\Bu H' p yr (l++s)/\Out (p::ak sl) H H'/\∀j∈ak yr,j∈ak sl\/H.next<=j:=by
 obtain⟨yr,H1,a1,a2,a3,a4⟩:=NP (n:=s.length) (new:=bs s) h.o (by rw[nC,adV]) (akf s) zzx (by rw[nC,nC];exact hl);have JL:c8 5 1 [(.int .u8 0)] false sl (.str s) H=some (yr,H1):=by
  unfold c8;have:BV 1 [(.int .u8 0)] false (.str s) H=some (s.length,bs s):=by unfold BV;simp[bs]
  rw[this];exact a1
 have yk:=h.c.out a3 h.ne;obtain⟨H2,w1,w2,w3,w4⟩:=eV yk zzx (o:=1) zzy (v:=yr) a2.lg;have aE:p∉ak yr:=λq=>(a4 p q).elim h.ne λq=>by have:=h.c.1;omega
 refine⟨yr,H2,atj ?_,⟨w2,by rw[aaz];exact a2.out w3 (λj hj=>by rw[No];intro e;subst e;exact aE hj),aE⟩,?_,a4⟩;·unfold ae9;have l1:=h.c.ld (o:=1) (v:=sl) rfl;simp only[arj h,l1,JL,w1,zz0,simprocAttr]
 ·exact (a3.mono λj hj=>.tail _ hj).trans (w3.mono λj hj=>by rw[No] at hj;subst hj;exact .head _)
theorem awb {p:Nat}(h:Bu H p sl l)(h0:0<l.length)(hl:l.length<16777216)(hb:∀b∈l,b<256):∃H',cK (zf 114) [.ptr p 0] H=some (.str l,H')/\Out (ak sl) H H':=by
 have l1:=h.c.ld (o:=1) (v:=sl) rfl;have ho:=h.o;have aE:=h.ne;generalize ns:bs l=cs at ho;cases ho with
 |nil=>
  have:l=[]:=by simpa[bs] using ns
  subst this;simp at h0
 |emp=>
  have:l=[]:=by simpa[bs] using ns
  subst this;simp at h0
 |@mk i off n cap ex _ c lo hi fl jN hg hf iL lD jG hn jI hs h1 he=>
  subst ns;rw[nC,adV] at hn;have Ma:Ro H i off (bs l):=⟨jN,c,lo,hi,5,fl,hg,iL,by rw[nC];omega,jI⟩;have KD:=Ma.av;rw[nC,hn] at KD;rw[pH he,No] at aE;have hx:((av H i off n).bind zg)=some l:=by rw[KD];exact aa9 l hb
  refine⟨{H with h:=H.h.bW i (.cells c lo hi 5 2)},aEf ?_,⟨aaq _,λj hj Er=>?_⟩⟩
  ·unfold aiH;have b1:jn P .unsafeSliceData #[52] [.slice i off n cap ex 1] H=some (.ptr i off,H):=by
    unfold jn;have:Nat.blt 0 n=true:=by rw[aeg];omega
    simp only[this,cond_true]
   have b2:jn P .unsafeString #[222,3] [.ptr i off,zi (n:Nat)] H=some (.str l,{H with h:=H.h.bW i (.cells c lo hi 5 2)}):=by have hu:P.underlying 222=some (.pointer 5):=Tryz.underlying222;have yk:P.cellsOf 5=1:=zzw;unfold jn;simp only;unfold Rq;simp only[hu];rw[zz1 zzz];simp only[hg];rw[zz2 ⟨trivial,yk,zzz,zzz,hf⟩,abO,hx];rfl
   simp only[l1,b1,b2,avY,agy,zz0,simprocAttr]
  ·rw[pH he,No] at Er;show (Tr.bW H.h i _).get j=_;rw[Tr.bW,Tr.gE,zz1 Er]
def sJ (sep:Str):List Str->Str
 |[]=>[]|a::l=>sep++a++sJ sep l
def AT (sep:Str):List Str->Str
 |[]=>[]|a::l=>a++sJ sep l
theorem ahZ (c:Nat):∀l:List Str,AT [c] l=lA c l
 |[]=>rfl|[a]=>by simp[AT,sJ,lA]
 |a::b::l=>by have:=ahZ c (b::l);show a++([c]++b++sJ [c] l)=a++c::lA c (b::l);rw[<-this];simp[AT]
def dJ (l:List Str):Nat:=(l.map List.length).sum
theorem Wb (sep:Str):∀l,(sJ sep l).length=sep.length*l.length+dJ l
 |[]=>by simp[sJ,dJ]
 |a::l=>by have:=Wb sep l;simp only[sJ,aah,this,aau,Nat.mul_add,adV,dJ,abo,List.sum_cons];omega
theorem amP {x:AV}{l:List Str}{H:Hp}(hx:Rw H 1 x (strs l))(hl:l.length<=1000)(hb:∀s∈l,s.length<=100000)(k:K.Fn 3)(y z:AV):∀(r:List Str) (i acc:Nat),i<=l.length->l.drop i=r->acc<=1000000+i*100000->
  aaX JN GO cK k y z (zi acc) x (zi (l.length:Nat)) (zi (i:Nat)) H=k y z (zi ((acc+dJ r:Nat):Int)) H
 |[],i,acc,hi,h,ha=>by obtain rfl:=drop_nil hi h;rw[ahc];simp only[XF,dA,dJ,aiO,List.sum_nil,aeA,zz0,simprocAttr]
 |a::r,i,acc,hi,h,ha=>by
  obtain⟨h1,h2,h3⟩:=dU h;obtain⟨q,q1,q2⟩:=hx.gh (mP h2) .i64;have e:=dD h1 zzz;have dd:=hb a (aab h2);have aHs:acc+a.length<=1000000+(i+1)*100000:=zzz;have ih:=amP hx hl hb k y z r (i+1) (acc+a.length) h1 h3 aHs;have e1:IntKind.wrap .i64 (9223372036854775807-(acc:Int))=9223372036854775807-(acc:Int):=wrap_i64 zzz zzz;have d:decide (9223372036854775807-(acc:Int)<(a.length:Int))=false:=zz4 zzz;have e2:IntKind.wrap .i64 ((acc:Int)+(a.length:Int))=((acc+a.length:Nat):Int):=by rw[wrap_i64 zzz zzz];rfl
  have e3:acc+dJ (a::r)=acc+a.length+dJ r:=by simp[dJ];omega
  rw[ahc,e3];simp only[XF,aQ h1,q1,q2,e1,d,e2,e,ih,zz0,simprocAttr]
theorem ani {sep:Str}{x:AV}{l:List Str}{p:Nat}{H0:Hp}(hx:Rw H0 1 x (strs l))(hl:l.length<=1000):∀(r:List Str) (i:Nat) (H:Hp) (sl:AV) (acc:Str),i<=l.length->l.drop i=r->Rw H 1 x (strs l)->Bu H p sl acc->(∀j∈ak x,j≠p/\j∉ak sl)->acc.length+(sJ sep r).length<=16777216->
  ∃yr H',(∀k:K.Fn 1,XR JN GO cK k (.str sep) (.ptr p 0) x (zi (l.length:Nat)) (zi (i:Nat)) H=k (.ptr p 0) H')/\Bu H' p yr (acc++sJ sep r)/\Out (p::ak sl) H H'/\∀j∈ak yr,j∈ak sl\/H.next<=j
 |[],i,H,sl,acc,hi,h,kC,hB,hd,hlen=>by obtain rfl:=drop_nil hi h;refine⟨sl,H,λk=>?_,by simpa[sJ] using hB,Out.refl _ _,λj hj=>.inl hj⟩;rw[anQ];simp only[Xw,dA,zz0,simprocAttr]
 |a::r,i,H,sl,acc,hi,h,kC,hB,hd,hlen=>by
  obtain⟨h1,h2,h3⟩:=dU h;obtain⟨q,q1,q2⟩:=kC.gh (mP h2) .i64;have e:=dD h1 zzz;simp only[sJ,aah] at hlen;obtain⟨sl1,H1,a1,a2,a3,a4⟩:=Wo (s:=sep) hB zzz;obtain⟨IG,H2,b1,b2,b3,b4⟩:=Wo (s:=a) a2 (by rw[aah];omega);have aN:=kC.lt;have eU:∀j∈ak x,j≠p/\j∉ak sl1:=λj hj=>⟨(hd j hj).1,λq=>(a4 j q).elim (hd j hj).2 λq=>by have:=aN j hj;omega⟩;have lI:=a3.nx;have qb:∀j∈ak x,j≠p/\j∉ak IG:=λj hj=>⟨(hd j hj).1,λq=>(b4 j q).elim (eU j hj).2 λq=>by have:=aN j hj;omega⟩;have lH:=kC.out a3 λj hj=>by rw[aal,not_or];exact hd j hj
  have qU:=lH.out b3 λj hj=>by rw[aal,not_or];exact eU j hj
  obtain⟨yr,H',i1,i2,i3,i4⟩:=ani (sep:=sep) hx hl r (i+1) H2 IG (acc++sep++a) h1 h3 qU b2 qb (by simp only[aah];omega);have o2:Out (p::ak sl) H H2:=a3.then b3 λj hj=>by
   rcases aal.1 hj with rfl|hj;·exact .inl (.head _)
   ·exact (a4 j hj).imp (λq=>.tail _ q) id
  have n2:∀j∈ak IG,j∈ak sl\/H.next<=j:=λj hj=>(b4 j hj).elim (λq=>a4 j q) λq=>.inr zzz;refine⟨yr,H',λk=>?_,by rw[sJ];simpa[abC] using i2,o2.then i3 λj hj=>?_,λj hj=>(i4 j hj).elim (n2 j) λq=>.inr (by have:=o2.nx;omega)⟩;·rw[anQ];simp only[Xw,aQ h1,q1,q2,a1,b1,e,i1,zz0,simprocAttr]
  ·rcases aal.1 hj with rfl|hj;·exact .inl (.head _)
   ·exact (n2 j hj).imp (λq=>.tail _ q) id
theorem axU (sep:Str)(l:List Str)(h:0<l.length):(AT sep l).length=sep.length*(l.length-1)+dJ l:=by
 cases l with
 |nil=>simp at h|cons a l=>simp only[AT,aah,Wb,aau,dJ,abo,List.sum_cons,Nat.add_sub_cancel];omega
theorem awt {sep:Str}(xC:sep.length=1){x:AV}{l:List Str}(hx:Rw H 1 x (strs l))(hl:l.length<=200)(hb:∀s∈l,s.length<=100000)(u6:dJ l<=900000)(pB:∀s∈sep::l,∀b∈s,b<256):
  ∃H',cK (zf 85) [x,.str sep] H=some (.str (AT sep l),H')/\Out [] H H':=by
 have dC:=hx.gX;rw[gQ] at dC
 match l,hx,hl,hb,u6,pB,dC with
 |[],hx,hl,hb,u6,pB,dC=>
  refine⟨H,UO ?_,Out.refl _ _⟩;unfold RC;simp only[acj,Int.natCast_zero] at dC;simp only[dC,AT,zz0,Int.reduceBEq,Int.reduceBNe,Int.reduceLT,Int.reduceLE,Int.reduceGT,Int.reduceGE,Int.reduceNeg]
 |[a],hx,hl,hb,u6,pB,dC=>
  obtain⟨q,q1,q2⟩:=hx.gh (i:=0) (v:=.str a) rfl .i64;refine⟨H,UO ?_,Out.refl _ _⟩;unfold RC;simp only[aau,acj,adn,Int.natCast_one] at dC;rw[show (((0:Nat):Int))=0 from rfl] at q1;simp only[dC,q1,q2,AT,sJ,ac4,zz0,Int.reduceBEq,Int.reduceBNe,Int.reduceLT,Int.reduceLE,Int.reduceGT,Int.reduceGE,Int.reduceNeg]
 |a::b::l,hx,hl,hb,u6,pB,dC=>
  generalize hm:a::b::l=L at*
  have hL2:2<=L.length:=by rw[<-hm];simp
  have hLa:L[0]?=some a:=by rw[<-hm];rfl
  obtain⟨q,q1,q2⟩:=hx.gh (mP hLa) .i64;rw[show (((0:Nat):Int))=0 from rfl] at q1;have d1:(((L.length:Nat):Int)==0)=false:=zz7 zzz;have d2:(((L.length:Nat):Int)==1)=false:=zz7 zzz;have e1:IntKind.wrap .i64 (((L.length:Nat):Int)-1)=((L.length-1:Nat):Int):=by rw[wrap_i64 zzz zzz];omega
  have e2:Gr (zi 9223372036854775807) (zi ((L.length-1:Nat):Int))=some (zi (9223372036854775807 / ((L.length-1:Nat):Int))):=by
   rw[aAU _ _ _ zzz,Int.tdiv_eq_ediv_of_nonneg zzz];congr 2;rw[wrap_i64];·have:0<=9223372036854775807 / ((L.length-1:Nat):Int):=Int.ediv_nonneg zzz zzz;omega
   ·exact Int.le_trans (Int.ediv_le_self _ zzz) (Int.le_refl _)
  have hq:(200:Int)<=9223372036854775807 / ((L.length-1:Nat):Int):=by rw[Int.le_ediv_iff_mul_le zzz];omega
  have d3:decide (9223372036854775807 / ((L.length-1:Nat):Int)<=((1:Nat):Int))=false:=zz4 zzz;have e3:IntKind.wrap .i64 (((1:Nat):Int)*((L.length-1:Nat):Int))=((L.length-1:Nat):Int):=by rw[wrap_i64 zzz zzz];omega
  have e4:IntKind.wrap .i64 (0+((L.length-1:Nat):Int))=((L.length-1:Nat):Int):=by rw[wrap_i64 zzz zzz];omega
  have i1:=λk=>amP hx zzz hb k x (.str sep) L 0 (L.length-1) (abg _) aaM zzz;rw[show (((0:Nat):Int))=0 from rfl] at i1;have jC:aA H [.dE,.ah] 180 0=some (H.next,al H [.dE,.ah] 180 0):=eA zzy;have ho:=aD H [.dE,.ah] 180 0;obtain⟨sl,H1,g1,g2,g3,g4⟩:=aBu (n:=L.length-1+dJ L) zzz zzz (aP H [.dE,.ah] 180 0);have aN:=hx.lt;have lH:=(hx.au ho).out g3 λj hj=>by rw[No];have:=aN j hj;omega
  obtain⟨q',q1',q2'⟩:=lH.gh (mP hLa) .i64;rw[show (((0:Nat):Int))=0 from rfl] at q1';have dd:a.length<=dJ L:=by rw[<-hm];simp[dJ]
  obtain⟨IG,H2,b1,b2,b3,b4⟩:=Wo (s:=a) g2 (by simp;omega);rw[afV] at b2;have qU:=lH.out b3 λj hj=>by rw[aal,not_or];exact⟨by have:=aN j hj;omega,λq=>by have:=g4 j q;have:=aN j hj;rw[bS] at*;omega⟩
  have om:=Ar qU (n:=L.length) (by rw[gQ,adV]) zzx (a:=1) (b:=L.length) (lo:=some (zi 1)) (hi:=none) zzz (aaq _) (Bd.yes .i64 1 0) (Bd.no _);obtain⟨x',x1,x2,x3⟩:=om;have Ej:(((strs L).drop (1*1)).take ((L.length-1)*1))=strs (b::l):=by rw[<-hm,adV,adV];exact ae2 (by simp[strs])
  rw[Ej] at x2;have aiZ:=x2.gX;rw[gQ] at aiZ;have jj:(b::l).length<=1000:=by rw[<-hm] at hl;simp only[aau] at*;omega
  have lI:=g3.nx;rw[bS] at lI;have uh:sep.length*(b::l).length+dJ (b::l)<=1000000:=by
   rw[xC,ajR];rw[<-hm] at u6 hl;simp only[dJ,abo,List.sum_cons,aau] at*
   omega
  obtain⟨sl3,H3,c1,c2,c3,c4⟩:=ani (sep:=sep) x2 jj (b::l) 0 H2 IG a (abg _) aaM x2 b2 (λj hj=>by have hj:=aN j (x3 j hj);exact⟨zzz,λq=>(b4 j q).elim (λq=>by have:=g4 j q;rw[bS] at this;omega) λq=>zzz⟩) (by rw[Wb];omega);have GC:a++sJ sep (b::l)=AT sep L:=by rw[<-hm];rfl
  rw[GC] at c2;have fS:=axU sep L zzz;rw[xC,ajR] at fS;have aGX:∀c∈AT sep L,c<256:=by
   have key:∀l:List Str,(∀s∈l,∀b∈s,b<256)->∀c∈sJ sep l,c<256:=by
    intro l;induction l with
    |nil=>intro _ c hc;cases hc
    |cons s l ih=>
     intro h c hc;simp only[sJ,aaQ] at hc;rcases hc with (hc|hc)|hc;·exact pB sep (.head _) c hc
     ·exact h s (.head _) c hc
     ·exact ih (λs hs=>h s (.tail _ hs)) c hc
   intro c hc;rw[<-GC,aaQ] at hc;have tc:∀s∈a::b::l,∀b∈s,b<256:=λs hs=>pB s (.tail _ (by rw[<-hm];exact hs));rcases hc with hc|hc;·exact tc a (.head _) c hc
   ·exact key _ (λs hs=>tc s (.tail _ hs)) c hc
  obtain⟨H4,s1,s2⟩:=awb c2 zzz zzz aGX;have n2:=b3.nx;have n3:=c3.nx;have rJ:∀j∈ak IG,H.next<=j:=λj hj=>(b4 j hj).elim (λq=>by have:=g4 j q;rw[bS] at this;omega) λq=>zzz;have Zn:∀j∈ak sl3,H.next<=j:=λj hj=>(c4 j hj).elim (rJ j) λq=>zzz;have o1:Out [] H H1:=ho.then g3 λj hj=>by rw[No] at hj;exact .inr zzz
  have o2:Out [] H H2:=o1.then b3 λj hj=>by
   rcases aal.1 hj with rfl|hj;·exact .inr zzz
   ·have:=g4 j hj;rw[bS] at this;exact .inr zzz
  have o3:Out [] H H3:=o2.then c3 λj hj=>by
   rcases aal.1 hj with rfl|hj;·exact .inr zzz
   ·exact .inr (rJ j hj)
  refine⟨H4,UO ?_,o3.then s2 λj hj=>.inr (Zn j hj)⟩;unfold RC;have e5:((L.length-1+dJ L:Nat):Int)=((L.length-1+dJ L:Nat):Int):=rfl;rw[show (((0:Nat):Int))=0 from rfl] at c1;have d4:decide ((0:Int)<((1:Nat):Int))=true:=rfl;simp only[dC,d1,d2,xC,d4,e1,e2,d3,e3,e4,i1,jC,g1,q1',q2',b1,x1,aiZ,c1,s1,ge_iff_le,zz0,Int.reduceBEq,Int.reduceBNe,Int.reduceLT,Int.reduceLE,Int.reduceGT,Int.reduceGE,Int.reduceNeg]
end
end Go.Proofs.YtodfajmihkagnaaGreatDoor.bq
namespace Go.Proofs.YtodfajmihkagnaaGreatDoor.oW
section
variable (sc:Nat->List Nat)
def vN (steps:Nat)(s:List Nat×List Nat)(b:Nat):List Nat×List Nat:=if s.1[b]?=some 0 then (s.1.set b steps,s.2++[b]) else s
def uu (steps:Nat)(bs:List Nat)(s:List Nat×List Nat):List Nat×List Nat:=bs.foldl (vN steps) s
def xz (steps:Nat)(l:List Nat)(s:List Nat×List Nat):List Nat×List Nat:=l.foldl (λs a=>uu steps (sc a) s) s
def xx:Nat->List Nat->List Nat->Nat->List Nat
 |0,_,out,_=>out|f+1,l,out,steps=>if l=[] then out else xx f (xz sc steps l (out,[])).2 (xz sc steps l (out,[])).1 (steps+1)
def far (N n:Nat):List Nat:=xx sc (N+1) [n] (List.replicate N 0) 1
end
def gm (l:List Nat):Nat:=l.countP (· == 0)
def V (out:List Nat)(b:Nat):Bool:=match out[b]? with|some (_+1)=>true|_=>false
theorem Qn {out:List Nat}{b steps c:Nat}(h:out[b]?=some 0)(hs:0<steps):V (out.set b steps) c=(V out c||c==b):=by
 unfold V;have hb:=(aac.1 h).1;rw[agZ];by_cases hc:b=c;·subst hc;rw[zz2 rfl,zz2 hb];obtain⟨k,rfl⟩:∃k,steps=k+1:=⟨steps-1,zzz⟩;simp
 ·rw[zz1 hc];have:(c==b)=false:=by simp;exactλq=>hc q.symm
  rw[this,Bool.or_false]
theorem apK {out:List Nat}{b steps:Nat}(h:out[b]?=some 0)(hs:0<steps):gm (out.set b steps)+1=gm out:=by
 unfold gm;induction out generalizing b with
 |nil=>simp at h|cons a l ih=>
  cases b with
  |zero=>
   simp only[adp,acM] at h;subst h;rw[List.set_cons_zero,an3,an3];have:(steps==0)=false:=by simp;omega
   rw[this];simp
  |succ b=>
   simp only[adb] at h;rw[List.set_cons_succ,an3,an3];have:=ih h;omega
structure Step (s s':List Nat×List Nat)(bs:Nat->Prop):Prop where
 len:s'.1.length=s.1.length
 EY:gm s'.1+s'.2.length=gm s.1+s.2.length
 mono:∀c,V s.1 c=true->V s'.1 c=true
 vO:∀c∈s.2,c∈s'.2
 new:∀c,V s'.1 c=true->V s.1 c=true\/(bs c/\c∈s'.2)
 MI:∀c∈s'.2,c∈s.2\/(bs c/\V s'.1 c=true)
 all:∀c,bs c->c<s.1.length->V s'.1 c=true
theorem Step.refl (s:List Nat×List Nat):Step s s (λ_=>False):=⟨rfl,rfl,λ_ h=>h,λ_ h=>h,λ_ h=>.inl h,λ_ h=>.inl h,λ_ h=>h.elim⟩
theorem Step.trans {s s' s'':List Nat×List Nat}{p q:Nat->Prop}(h:Step s s' p)(k:Step s' s'' q):Step s s'' (λc=>p c\/q c) where
 len:=k.len.trans h.len
 EY:=k.EY.trans h.EY
 mono:=λc hc=>k.mono c (h.mono c hc)
 vO:=λc hc=>k.vO c (h.vO c hc)
 new:=λc hc=>(k.new c hc).elim (λa=>(h.new c a).imp id λb=>⟨.inl b.1,k.vO c b.2⟩) (λa=>.inr ⟨.inr a.1,a.2⟩)
 MI:=λc hc=>(k.MI c hc).elim (λa=>(h.MI c a).imp id λb=>⟨.inl b.1,k.mono c b.2⟩) (λa=>.inr ⟨.inr a.1,a.2⟩)
 all:=λc hc hl=>hc.elim (λa=>k.mono c (h.all c a hl)) (λa=>k.all c a (by rw[h.len];exact hl))
theorem Step.congr {s s':List Nat×List Nat}{p q:Nat->Prop}(h:Step s s' p)(Fv:∀c,p c↔q c):Step s s' q:=
 ⟨h.len,h.EY,h.mono,h.vO,λc hc=>(h.new c hc).imp id λb=>⟨(Fv c).1 b.1,b.2⟩,λc hc=>(h.MI c hc).imp id λb=>⟨(Fv c).1 b.1,b.2⟩,λc hc hl=>h.all c ((Fv c).2 hc) hl⟩
theorem au6 {out:List Nat}{b:Nat}(hb:b<out.length)(h:out[b]? ≠ some 0):V out b=true:=by
 unfold V;rw[aai hb] at h⊢;cases hx:out[b] with
 |zero=>rw[hx] at h;exact absurd rfl h|succ k=>rfl
theorem azq {steps:Nat}(hs:0<steps)(s:List Nat×List Nat)(b:Nat):Step s (vN steps s b) (λc=>c=b):=by
 unfold vN;split
 ·rename_i h;have hz:=apK h hs;refine⟨adi,by simp;omega,λc hc=>?_,λc hc=>aaG _ hc,λc hc=>?_,λc hc=>?_,λc hc hl=>?_⟩;·rw[Qn h hs,hc];rfl
  ·rw[Qn h hs,aiJ] at hc;refine hc.imp id λq=>?_;have q:c=b:=by simpa using q
   exact⟨q,by subst q;simp⟩
  ·rcases aaQ.1 hc with hc|hc;·exact .inl hc
   ·rw[No] at hc;subst hc;exact .inr ⟨rfl,by rw[Qn h hs];simp⟩
  ·subst hc;rw[Qn h hs];simp
 ·rename_i h;exact⟨rfl,rfl,λ_ h=>h,λ_ h=>h,λ_ h=>.inl h,λ_ h=>.inl h,λc hc hl=>by subst hc;exact au6 hl h⟩
theorem WU {steps:Nat}(hs:0<steps):∀(bs:List Nat) (s:List Nat×List Nat),Step s (uu steps bs s) (λc=>c∈bs)
 |[],s=>(Step.refl s).congr λc=>zzy
 |b::bs,s=>((azq hs s b).trans (WU hs bs _)).congr λc=>zzy
theorem RP {sc:Nat->List Nat}{steps:Nat}(hs:0<steps):∀(l:List Nat) (s:List Nat×List Nat),Step s (xz sc steps l s) (λc=>∃a∈l,c∈sc a)
 |[],s=>(Step.refl s).congr λc=>zzy
 |a::l,s=>((WU hs (sc a) s).trans (RP hs l _)).congr λc=>zzy
theorem aom {sc:Nat->List Nat}{N n:Nat}(hN:∀a,∀b∈sc a,b<N){C:Nat->Prop}(NM:∀b∈sc n,C b)(hC:∀a,C a->∀b∈sc a,C b):
  ∀(f:Nat) (l out:List Nat) (steps:Nat),0<steps->out.length=N->(l=[]\/gm out<f)->(∀a,(a=n\/V out a=true)->a∈l\/∀b∈sc a,V out b=true)->
   (∀a∈l,a=n\/C a)->(∀a,V out a=true->C a)->
   (xx sc f l out steps).length=N/\(∀a,(a=n\/V (xx sc f l out steps) a=true)->∀b∈sc a,V (xx sc f l out steps) b=true)/\∀a,V (xx sc f l out steps) a=true->C a
 |0,l,out,steps,hs,hl,hz,h1,h2,h3=>by have:l=[]:=hz.resolve_right zzz;subst this;exact⟨hl,λa ha=>(h1 a ha).resolve_left zzy,h3⟩
 |f+1,l,out,steps,hs,hl,hz,h1,h2,h3=>by
  unfold xx;split;·rename_i h;subst h;exact⟨hl,λa ha=>(h1 a ha).resolve_left zzy,h3⟩
  ·rename_i aE;have hz:=hz.resolve_left aE;have S:=RP (sc:=sc) hs l (out,[]);refine aom hN NM hC f _ _ (steps+1) zzz (S.len.trans hl) ?_ ?_ ?_ ?_
   ·have:=S.EY;simp only[acj,aeA] at this;cases hx:(xz sc steps l (out,[])).2 with
    |nil=>exact .inl rfl|cons x y=>rw[hx] at this;simp only[aau] at this;exact .inr zzz
   ·intro a ha;have key:(a=n\/V out a=true)->a∈(xz sc steps l (out,[])).2\/∀b∈sc a,V (xz sc steps l (out,[])).1 b=true:=by
     intro ha;refine .inr λb hb=>?_;rcases h1 a ha with q|q;·exact S.all b ⟨a,q,hb⟩ (by rw[hl];exact hN a b hb)
     ·exact S.mono b (q b hb)
    rcases ha with ha|ha;·exact key (.inl ha)
    ·rcases S.new a ha with q|q;·exact key (.inr q)
     ·exact .inl q.2
   ·intro a ha;rcases S.MI a ha with q|⟨⟨x,hx,KL⟩,_⟩;·cases q
    ·refine .inr ?_;rcases h2 x hx with rfl|q;·exact NM a KL
     ·exact hC x q a KL
   ·intro a ha;rcases S.new a ha with q|⟨⟨x,hx,KL⟩,_⟩;·exact h3 a q
    ·rcases h2 x hx with rfl|q;·exact NM a KL
     ·exact hC x q a KL
theorem acx (N b:Nat):V (List.replicate N 0) b=false:=by
 unfold V;rw[alR];split;·rename_i h;split at h<;>cases h
 ·rfl
theorem adA (N:Nat):gm (List.replicate N 0)=N:=by unfold gm;rw[List.countP_replicate];simp
theorem axn {sc:Nat->List Nat}{N n:Nat}(hN:∀a,∀b∈sc a,b<N){C:Nat->Prop}(NM:∀b∈sc n,C b)(hC:∀a,C a->∀b∈sc a,C b):
  (far sc N n).length=N/\(∀a,(a=n\/V (far sc N n) a=true)->∀b∈sc a,V (far sc N n) b=true)/\∀a,V (far sc N n) a=true->C a:=
 aom hN NM hC _ _ _ _ zzx zzy (.inr (by rw[adA];omega)) (λa ha=>by
  rcases ha with rfl|ha;·exact .inl (.head _)
  ·rw[acx] at ha;cases ha) (λa ha=>by rw[No] at ha;exact .inl ha) (λa ha=>by rw[acx] at ha;cases ha)
end Go.Proofs.YtodfajmihkagnaaGreatDoor.oW
namespace Go.Proofs.YtodfajmihkagnaaGreatDoor.bq
open Go Am Am.K lq mU kJ
section
theorem aEQ (N n:Int)(e:AV)(he:aW e=true)(H:Hp):cK (zf 175) [.agg [zi N,e],zi n] H=some (.bool (decide (0<=n)&&decide (n<N)),al H [zi N,e] 201 0):=by
 refine azt ?_;unfold ahd;by_cases h1:0<=n;·simp(disch:=try exact zqq)only[h1,acy,ar,aq,Nat.reduceAdd,zz0,simprocAttr]
 ·simp(disch:=try exact zqq)only[h1,acn,ar,aq,Nat.reduceAdd,zz0,simprocAttr]
theorem tj (n a b:Int)(H:Hp):cK (zf 119) [zi n,zi a,zi b] H=some (.bool (decide (a<=n)&&decide (n<=b)),H):=by
 refine aDa ?_;unfold ad6;by_cases h1:a<=n;·simp(disch:=try exact zqq)only[h1,acy,ar,aq,Nat.reduceAdd,zz0,simprocAttr]
 ·simp(disch:=try exact zqq)only[h1,acn,ar,aq,Nat.reduceAdd,zz0,simprocAttr]
abbrev Ed:=Nat×Nat
def bY (e:Ed):List AV:=[zi e.1,zi e.2]
def lV (E:List Ed):List (List AV):=E.map bY
theorem QF (E:List Ed):(lV E).length=E.length:=by simp[lV]
section
variable {E:List Ed}{H:Hp}{c m:Nat}{e:Ed}
theorem Zp {i:Nat}(h:E[i]?=some e):(lV E)[i]?=some (bY e):=by simp[lV,h]
theorem eqE (a b c d:Int)(n:Nat)(H:Hp):eL P (n+2) 231 (.agg [zi a,zi b]) (.agg [zi c,zi d]) H=some (a==c&&b==d):=by
 have hu:P.underlying 231=some (.array 2 3):=Tryz.underlying231;have hi:P.underlying 3=some (.int .i64):=Tryz.underlying3;have hs:sz P 3=some 1:=zzw;have ha:Ah P 3=some false:=zzw;have h1:∀x y:Int,eL P (n+1) 3 (zi x) (zi y) H=some (x==y):=by intro x y;unfold eL;simp only[hi,if_true]
 rw[eL.eq_def];simp only[hu,hs];show ur _ [0,1]=_;simp only[ur,pA,ha,abY,acf,ahD,ajR,adp,adb,h1];cases hac:(a==c)<;>cases YG:(b==d)<;>simp[h1,hac,YG]
def Bl (E:List (Ed×Nat)):List ME:=E.map λx=>⟨.agg (bY x.1),.bool true,x.2⟩
theorem V6 {H:Hp}{e:Ed}:∀(E:List (Ed×Nat)) (i:Nat),(∀x∈E,x.1≠e)->pw P H 231 (.agg (bY e)) (Bl E) i=some none
 |[],i,_=>rfl|x::E,i,h=>by
  have h1:=eqE e.1 e.2 x.1.1 x.1.2 18 H;have h2:(((e.1:Nat):Int)==((x.1.1:Nat):Int)&&((e.2:Nat):Int)==((x.1.2:Nat):Int))=false:=by rw[<-ahP,aam,zz6,zz6];intro q;exact h x (.head _) (Prod.ext (by have:=q.1;omega) (by have:=q.2;omega))
  rw[h2] at h1;show pw P H _ (.agg (bY e)) (⟨.agg (bY x.1),.bool true,x.2⟩::Bl E) i=_;unfold pw;have Qw:eL P 20 231 (.agg (bY e)) (.agg (bY x.1)) H=some false:=h1;rw[Qw];exact V6 E (i+1) λy hy=>h y (.tail _ hy)
theorem aiK (e:Ed):qN P 20 231 (.agg (bY e))=true:=zzw
theorem lkE {E:List (Ed×Nat)}(hm:Mp H m (Bl E) c)(h:∀x∈E,x.1≠e):tP P 248 (.map m) (.agg (bY e)) false H=some (.bool false):=by have hu:P.underlying 248=some (.map 231 4):=Tryz.underlying248;have hz:((P.info? 4).bind (·.zero)).bind lj=some (.bool false):=zzw;unfold tP;simp only[hu,aiK,cond_true,KC hm,V6 E 0 h,hz,ael,cond_false]
theorem upE {E:List (Ed×Nat)}(hm:Mp H m (Bl E) c)(h:∀x∈E,x.1≠e):∃H',qm P 248 (.map m) (.agg (bY e)) (.bool true) H=some H'/\Mp H' m (Bl (E++[(e,c)])) (c+1)/\Out [m] H H'/\H'.next=H.next:=by
 have hu:P.underlying 248=some (.map 231 4):=Tryz.underlying248;have he:Bl (E++[(e,c)])=Bl E++[⟨.agg (bY e),.bool true,c⟩]:=by simp[Bl]
 rw[he];refine⟨_,?_,(hm.set _ _).1,(hm.set _ _).2,rfl⟩;unfold qm;simp only[hu,aiK,cond_true,hm.2,V6 E 0 h]
structure sK (N:Nat)(E:List Ed):Prop where
 n:N<=16
 lt:∀e∈E,e.1<N/\e.2<N/\e.1≠e.2
 nd:E.Nodup
 len:E.length<=300
theorem afF {N:Nat}{E:List Ed}{x:AV}{g m:Nat}{H0:Hp}(hE:sK N E)(hx:RL H0 2 x (lV E))(hg:Cs H0 g [zi N,x] 201 0)(Sf:g≠m)(hxm:∀j∈ak x,j≠m)(k:K.Fn 0):∀(r:List Ed) (i:Nat) (H:Hp) (M:List (Ed×Nat)) (c:Nat),i<=E.length->E.drop i=r->Out [m] H0 H->Mp H m (Bl M) c->M.map (·.1)=E.take i->
  ∃H',Zz JN GO cK k (.ptr g 0) (.map m) x (zi (E.length:Nat)) (zi (i:Nat)) H=k H'/\Out [m] H H'
 |[],i,H,M,c,hi,h,ho,hm,hM=>by obtain rfl:=drop_nil hi h;refine⟨H,?_,Out.refl _ _⟩;rw[ag4];simp only[Y1,dA,zz0,simprocAttr]
 |e::r,i,H,M,c,hi,h,ho,hm,hM=>by
  obtain⟨h1,h2,h3⟩:=dU h;obtain⟨l1,l2,l3⟩:=hE.lt e (aab h2);obtain⟨b,o,q1,q2,q3,q4,_⟩:=(hx.out ho λj hj=>by rw[No];exact hxm j hj).at zzx (Zp h2);have hgH:=hg.out ho (by rw[No];exact Sf);have Cq:=hgH.1;have yd:=hm.1;have mS:=hgH.av 2 0 zzy;have es:=dD h1 (by have:=hE.len;omega);have d1:decide ((0:Int)<=((e.1:Nat):Int))=true:=zz3 zzz;have d2:decide (((e.1:Nat):Int)<(N:Int))=true:=zz3 zzz;have d3:decide ((0:Int)<=((e.2:Nat):Int))=true:=zz3 zzz;have d4:decide (((e.2:Nat):Int)<(N:Int))=true:=zz3 zzz;have d5:(((e.1:Nat):Int)==((e.2:Nat):Int))=false:=zz7 zzz;have aE:∀y∈M,y.1≠e:=by
   intro y hy heq;have h4:y.1∈E.take i:=by rw[<-hM];exact List.mem_map_of_mem hy
   have fN:=hE.nd;rw[<-aiP i E,h,aet] at fN;exact fN.2.2 _ h4 e (.head _) heq
  have lH:=hx.one;have ha1:Mp (al (al (al H (bY e) 231 0) [zi N,x] 201 0) [zi N,x] 201 0) m (Bl M) c:=((hm.out (aD H _ _ _) zzy).out (aD _ _ _ _) zzy).out (aD _ _ _ _) zzy;obtain⟨H1,u1,u2,u3,u4⟩:=upE ha1 aE;have aIp:(al (al (al H (bY e) 231 0) [zi N,x] 201 0) [zi N,x] 201 0).next=H.next+3:=rfl;have o1:Out [m] H H1:=((((aD H (bY e) 231 0).al [zi N,x] 201 0).al [zi N,x] 201 0).mono (S':=[m]) (λj hj=>by cases hj)).trans u3;obtain⟨H',i1,i2⟩:=afF hE hx hg Sf hxm k r (i+1) H1 (M++[(e,c)]) (c+1) h1 h3 (ho.trans o1) u2 (by rw[acZ,hM,ai6,h2];rfl);refine⟨H',?_,o1.trans i2⟩;have lk:=lkE ha1 aE;have Eh:av H b o 2=some (bY e):=q4;have q5:av H g 0 2=some [zi N,x]:=mS;have e0:(bY e)[0]?=some (zi e.1):=rfl;have e1:(bY e)[1]?=some (zi e.2):=rfl;have e2:(bY e).take 2=bY e:=rfl;have Ix:(bY e).length=2:=rfl;have mM:(bY e).all aW=true:=rfl;have Bz:st 2 (.ptr H.next 0) (.agg (bY e)) (al H [zi 0,zi 0] 231 0)=some (al H (bY e) 231 0):=gy rfl rfl rfl zzx rfl;rw[ag4];simp(disch:=try exact zqq)only[Y1,aQ h1,q1,Eh,q5,Bz,e0,e1,e2,Ix,aEQ _ _ _ lH,d1,d2,d3,d4,d5,lk,u1,es,i1,Bool.and_self,ar,aq,Nat.reduceAdd,zz0,simprocAttr]
abbrev gv (N:Nat)(x:AV):AV:=.agg [zi N,x]
theorem ahS {N:Nat}{x:AV}(hE:sK N E)(hx:RL H 2 x (lV E)):∃H',cK (zf 155) [gv N x] H=some (.bool true,H')/\Out [] H H':=by
 have lH:=hx.one;have hN:=hE.n;have oX:=aD H [zi N,x] 201 0;obtain⟨H2,m1,m2,m3,m4⟩:=TG (al H [zi N,x] 201 0);have qK:Out [] H H2:=oX.trans m3;rw[bS] at m1 m2;have aN:=hx.1.lt;obtain⟨H',i1,i2⟩:=afF (g:=H.next) (m:=H.next+1) hE (hx.au qK) ((aP H [zi N,x] 201 0).out m3 zzy) zzz (λj hj=>by have:=aN j hj;omega) (λh=>some (.bool true,h)) E 0 H2 [] 0 (abg _) aaM (Out.refl _ _) m2 rfl;refine⟨H',aqW ?_,qK.then i2 λj hj=>by rw[No] at hj;exact .inr zzz⟩;have hl:=(hx.au qK).len zzx;rw[QF] at hl;have d1:decide ((N:Int)<0)=false:=zz4 zzz;have d2:decide ((16:Int)<(N:Int))=false:=zz4 zzz;rw[show (((0:Nat):Int))=0 from rfl] at i1;have CG:cellAt H2 H.next 1=some x:=by rw[m3.cellAt (by rw[bS];omega) zzy];exact (aP H [zi N,x] 201 0).cellAt rfl
 unfold amv;simp(disch:=try exact zqq)only[d1,d2,m1,hl,i1,CG,ar,aq,Nat.reduceAdd,zz0,simprocAttr]
def zH (E:List Ed)(n:Nat)(ahQ:Bool):List Nat:=E.filterMap λe=>if (bif ahQ then e.2 else e.1)=n then some (bif ahQ then e.1 else e.2) else none
def dO (l:List Nat):List Int:=l.map λ(n:Nat)=>(n:Int)
theorem AH (l:List Nat):(dO l).length=l.length:=by simp[dO]
theorem UF (a b:List Nat):dO (a++b)=dO a++dO b:=by simp[dO]
theorem aii (E:List Ed)(n:Nat)(b:Bool):(zH E n b).length<=E.length:=List.length_filterMap_le _ _
theorem ZA {N:Nat}{E:List Ed}{x:AV}{H0:Hp}(b1:Bool){n:Nat}(hE:E.length<=300)(hx:RL H0 2 x (lV E)):∀(r:List Ed) (i:Nat) (H:Hp) (y:AV) (acc:List Nat) (S:List Nat),i<=E.length->E.drop i=r->Out S H0 H->(∀j∈S,H0.next<=j)->Ow H 3 1 y (ints (dO acc))->(∀j∈ak y,H0.next<=j)->acc.length<=i->
  ∃y' H',(∀k:K.Fn 1,X0 JN GO cK k (zi n) (zi (bif b1 then 1 else 0)) y x (zi (E.length:Nat)) (zi (i:Nat)) H=k y' H')/\Ow H' 3 1 y' (ints (dO (acc++zH r n b1)))/\Out (ak y) H H'/\∀j∈ak y',j∈ak y\/H.next<=j
 |[],i,H,y,acc,S,hi,h,ho,hS,hy,NJ,ha=>by obtain rfl:=drop_nil hi h;refine⟨y,H,λk=>?_,by simpa[zH] using hy,Out.refl _ _,λj hj=>.inl hj⟩;rw[X6];simp only[IB,dA,zz0,Int.reduceBEq,Int.reduceBNe,Int.reduceLT,Int.reduceLE,Int.reduceGT,Int.reduceGE,Int.reduceNeg]
 |e::r,i,H,y,acc,S,hi,h,ho,hS,hy,NJ,ha=>by
  obtain⟨h1,h2,h3⟩:=dU h;have dC:=hx.1.lt;obtain⟨b,o,q1,q2,q3,q4,_⟩:=(hx.out ho λj hj=>λq=>by have:=hS j q;have:=dC j hj;omega).at zzx (Zp h2);have es:=dD h1 zzz;have Eh:av H b o 2=some (bY e):=q4;have e0:(bY e)[0]?=some (zi e.1):=rfl;have e1:(bY e)[1]?=some (zi e.2):=rfl;have Ix:(bY e).length=2:=rfl;have Bz:st 2 (.ptr H.next 0) (.agg (bY e)) (al H [zi 0,zi 0] 231 0)=some (al H (bY e) 231 0):=gy rfl rfl rfl zzx rfl;have oX:=aD H (bY e) 231 0;have w0:IntKind.wrap .i64 (1-0)=1:=rfl;have w1:IntKind.wrap .i64 (1-1)=0:=rfl;by_cases hq:(bif b1 then e.2 else e.1)=n
  ·have hb:zH (e::r) n b1=(bif b1 then e.1 else e.2)::zH r n b1:=by simp[zH,hq]
   obtain⟨y1,H1,p1,p2,p3,p4,p5⟩:=wL (el2:=3) (z:=[(zi 0)]) (vs:=[zi ((bif b1 then e.1 else e.2:Nat):Int)]) (hy.out oX zzy) rfl rfl zzx (by rw[mX,AH];simp;omega);have uG:ints (dO acc)++[zi ((bif b1 then e.1 else e.2:Nat):Int)]=ints (dO (acc++[bif b1 then e.1 else e.2])):=by rw[UF,P3];rfl
   rw[uG] at p2;have o1:Out (ak y) H H1:=(oX.mono (S':=ak y) λj hj=>by cases hj).trans p3;have lI:=o1.nx;have nQ:=ho.nx;obtain⟨y',H',i1,i2,i3,i4⟩:=ZA (N:=N) b1 (n:=n) hE hx r (i+1) H1 y1 (acc++[bif b1 then e.1 else e.2]) (S++ak y) h1 h3 ((ho.mono (S':=S++ak y) λj hj=>aaG _ hj).trans (o1.mono λj hj=>aaw _ hj)) (λj hj=>(aaQ.1 hj).elim (hS j) (NJ j)) p2 (λj hj=>(p4 j hj).elim (NJ j) λq=>by rw[bS] at q;omega) (by simp;omega);refine⟨y',H',λk=>?_,by rw[hb];simpa[abC] using i2,o1.then i3 λj hj=>(p4 j hj).imp id λq=>by rw[bS] at q;omega,λj hj=>(i4 j hj).elim (λq=>(p4 j q).imp id λq=>by rw[bS] at q;omega) λq=>.inr zzz⟩;have fX:=p1 (H.next+1) rfl;rw[X6];cases b1 with
   |true=>
    simp only[cond_true] at hq fX i1;subst hq;simp(disch:=try exact zqq)only[cond_true,IB,aQ h1,q1,Eh,Bz,e0,e1,Ix,w1,fX,es,i1,ar,aq,Nat.reduceAdd,zz0,Int.reduceBEq,Int.reduceBNe,Int.reduceLT,Int.reduceLE,Int.reduceGT,Int.reduceGE,Int.reduceNeg]
   |false=>
    simp only[cond_false] at hq fX i1;subst hq;simp(disch:=try exact zqq)only[cond_false,IB,aQ h1,q1,Eh,Bz,e0,e1,Ix,w0,fX,es,i1,ar,aq,Nat.reduceAdd,zz0,Int.reduceBEq,Int.reduceBNe,Int.reduceLT,Int.reduceLE,Int.reduceGT,Int.reduceGE,Int.reduceNeg]
  ·have hb:zH (e::r) n b1=zH r n b1:=by simp[zH,hq]
   obtain⟨y',H',i1,i2,i3,i4⟩:=ZA (N:=N) b1 (n:=n) hE hx r (i+1) (al H (bY e) 231 0) y acc S h1 h3 (ho.al _ _ _) hS (hy.out oX zzy) NJ zzz;refine⟨y',H',λk=>?_,by rw[hb];exact i2,(oX.mono (S':=ak y) λj hj=>by cases hj).trans i3,λj hj=>(i4 j hj).imp id λq=>by rw[bS] at q;omega⟩;rw[X6];cases b1 with
   |true=>
    simp only[cond_true] at hq i1;have aE:(((e.2:Nat):Int)==(n:Int))=false:=zz7 zzz;simp(disch:=try exact zqq)only[cond_true,IB,aQ h1,q1,Eh,Bz,e0,e1,Ix,aE,es,i1,ar,aq,Nat.reduceAdd,zz0,Int.reduceBEq,Int.reduceBNe,Int.reduceLT,Int.reduceLE,Int.reduceGT,Int.reduceGE,Int.reduceNeg]
   |false=>
    simp only[cond_false] at hq i1;have aE:(((e.1:Nat):Int)==(n:Int))=false:=zz7 zzz;simp(disch:=try exact zqq)only[cond_false,IB,aQ h1,q1,Eh,Bz,e0,e1,Ix,aE,es,i1,ar,aq,Nat.reduceAdd,zz0,Int.reduceBEq,Int.reduceBNe,Int.reduceLT,Int.reduceLE,Int.reduceGT,Int.reduceGE,Int.reduceNeg]
end
end
open oW
section
variable {E:List Ed}{H:Hp}{N:Nat}{l:List Nat}{x:AV}
theorem aD9 {zs:List Int}(hx:Ow H 3 1 x (ints zs))(hl:zs.length<=16777216):
  ∃H',cK (zf 192) [x] H=some (.tuple [],H')/\Ow H' 3 1 x (ints (jE.sI zs))/\Out (ak x) H H':=by
 generalize hz:ints zs=l at hx;cases hx with
 |nil=>
  have:zs=[]:=by simpa[ints] using hz
  subst this;refine⟨H,DA (p:=jE.xZ) zzw rfl,?_,Out.refl _ _⟩;simp[jE.sI,ints];exact .nil
 |@emp i off=>
  have:zs=[]:=by simpa[ints] using hz
  subst this;refine⟨H,DA (p:=jE.xZ) zzw ?_,?_,Out.refl _ _⟩;·unfold jE.xZ;simp only[if_true]
  ·simp[jE.sI,ints];exact .emp
 |@mk i off n cap ex _ c lo hi fl jN hg hf iL lD jG hn hc hs h1 he=>
  subst hz;rw[mX,adV] at hn;by_cases h0:n=0
  ·subst h0;have:zs=[]:=List.length_eq_zero_iff.1 hn;subst this;refine⟨H,DA (p:=jE.xZ) zzw ?_,?_,Out.refl _ _⟩;·unfold jE.xZ;simp only[if_true]
   ·exact .mk jN hg hf iL lD jG (by simp[jE.sI,ints]) (by simp[jE.sI,ints]) hs (by simp[jE.sI,ints]) he
  ·have mO:=jE.ago zs;have Ma:Ro H i off (ints zs):=⟨jN,c,lo,hi,3,fl,hg,iL,by rw[mX];omega,hc⟩;have KD:=Ma.av;rw[mX,hn] at KD;have aAw:(Am.av H i off n).bind jE.Ew=some zs:=by rw[KD];exact jE.agh zs
   have kF:jE.xZ [.slice i off n cap ex 1] H=some (.tuple [],{H with h:=H.h.bW i (.cells (c.cz off (jE.vj (jE.sI zs))) lo hi 3 fl)}):=by unfold jE.xZ;simp only;rw[zz1 h0,zz2 ⟨trivial,zzz⟩,hg,acf];unfold jE.XJ;simp only;rw[zz2 ⟨iL,zzz,hf⟩,aAw];rfl
   have fP:∀j,(H.h.bW i (AO.cells (c.cz off (jE.vj (jE.sI zs))) lo hi 3 fl)).get j=if j=i then some (AO.cells (c.cz off (jE.vj (jE.sI zs))) lo hi 3 fl) else H.h.get j:=λj=>Tr.Ex _ _ _ _ (by rw[hg];rfl)
   refine⟨_,DA (p:=jE.xZ) zzw kF,?_,⟨aaq _,λj hj Oy=>?_⟩⟩
   ·refine .mk (c:=c.cz off (ints (jE.sI zs))) jN ?_ hf iL lD jG (by rw[mX];omega) (λk v hk=>?_) (λk hk=>?_) (as6 _) he;·show (H.h.bW i _).get i=_;rw[fP,zz2 rfl];rfl
    ·have se:=(aac.1 hk).1;rw[Tr.zj,zz2 ⟨zzz,zzz⟩,aeE];exact hk
    ·rw[Tr.zj];split;·rename_i jv;rw[aai zzz];rfl
     ·exact hs k hk
   ·show (H.h.bW i _).get j=_;rw[fP,zz1 (λq=>Oy (by subst q;rw[pH he];exact .head _))]
def sortN (l:List Nat):List Nat:=l.mergeSort λx y=>decide (x<=y)
theorem aDk (l:List Nat):(sortN l).length=l.length:=(List.mergeSort_perm l _).length_eq
theorem amy {x:Nat}:x∈sortN l↔x∈l:=(List.mergeSort_perm l _).mem_iff
theorem azD (l:List Nat):jE.sI (dO l)=dO (sortN l):=by unfold jE.sI dO sortN;rw[List.map_mergeSort];intro a _ b _;simp
def mu (E:List Ed)(n:Nat)(b:Bool):List Nat:=sortN (zH E n b)
theorem ahx (E:List Ed)(n:Nat)(b:Bool):(mu E n b).length<=E.length:=by unfold mu;rw[aDk];exact aii E n b
theorem Wi {n x:Nat}:(x∈mu E n false↔(n,x)∈E)/\(x∈mu E n true↔(x,n)∈E):=by
 unfold mu zH;rw[amy,amy,List.mem_filterMap,List.mem_filterMap];constructor
 ·constructor
  ·rintro⟨e,he,h⟩;simp only[cond_false] at h;split at h;·rename_i h1;cases h;subst h1;exact he
   ·cases h
  ·intro h;exact⟨_,h,zzy⟩
 ·constructor
  ·rintro⟨e,he,h⟩;simp only[cond_true] at h;split at h;·rename_i h1;cases h;subst h1;exact he
   ·cases h
  ·intro h;exact⟨_,h,zzy⟩
theorem aFA (b:Bool)(n:Nat)(hE:sK N E)(hx:RL H 2 x (lV E)):
  ∃y H',cK (zf 176) [gv N x,zi n,zi (bif b then 1 else 0)] H=some (y,H')/\Ow H' 3 1 y (ints (dO (mu E n b)))/\Out [] H H'/\∀j∈ak y,H.next<=j:=by
 have lH:=hx.one;have oX:=aD H [zi N,x] 201 0;obtain⟨H2,g1,g2⟩:=ahS hE (hx.au oX);have jo:=g2.nx;rw[bS] at jo;have qK:=oX.trans g2;have qU:=hx.au qK;obtain⟨y,H3,i1,i2,i3,i4⟩:=ZA (N:=N) b (n:=n) hE.len qU E 0 H2 .ah [] [] (abg _) aaM (Out.refl _ _) (λj hj=>by cases hj) .nil (λj hj=>by cases hj) (aaq _);rw[afV] at i2;have hr:∀j∈ak y,H2.next<=j:=λj hj=>(i4 j hj).elim (λq=>by cases q) id;obtain⟨H4,s1,s2,s3⟩:=aD9 i2 (by rw[AH];have:=aii E n b;have:=hE.len;omega);rw[azD] at s2;refine⟨y,H4,arK ?_,s2,qK.trans ((i3.mono λj hj=>by cases hj).then s3 λj hj=>.inr (hr j hj)),λj hj=>by have:=hr j hj;omega⟩;have hl:=qU.len zzx;rw[QF] at hl;have CG:cellAt H2 H.next 1=some x:=by rw[g2.cellAt (by rw[bS];omega) zzy];exact (aP H [zi N,x] 201 0).cellAt rfl
 rw[show (((0:Nat):Int))=0 from rfl] at i1;unfold aic;simp(disch:=try exact zqz)only[g1,CG,hl,i1,s1,ar,aq,zz0,simprocAttr]
theorem aeH (n:Nat)(hE:sK N E)(hx:RL H 2 x (lV E)):
  ∃y H',cK (zf 157) [gv N x,zi n] H=some (y,H')/\Ow H' 3 1 y (ints (dO (mu E n false)))/\Out [] H H'/\∀j∈ak y,H.next<=j:=by
 have lH:=hx.one;have oX:=aD H [zi N,x] 201 0;obtain⟨y,H',h1,h2,h3,h4⟩:=aFA false n hE (hx.au oX);refine⟨y,H',arD ?_,h2,oX.trans h3,λj hj=>by have:=h4 j hj;rw[bS] at this;omega⟩;simp only[cond_false] at h1;unfold agx;simp(disch:=try exact zqz)only[h1,ar,aq,zz0,simprocAttr]
theorem JR {i n:Nat}(h:l[i]?=some n):(ints (dO l))[i]?=some (zi (n:Int)):=Dw (by simp[dO,h])
theorem aaR {N steps:Nat}{bl:List Nat}{bx:AV}{A:Nat}(aC:0<steps)(jj:∀b∈bl,b<N)(mN:bl.length<=300)(bX dF dS cj:AV)(hA:A∉ak bx):
  ∀(r:List Nat) (i:Nat) (H:Hp) (out nx:List Nat) (ny:AV),i<=bl.length->bl.drop i=r->Rw H 1 bx (ints (dO bl))->(∀j∈ak ny,j∉ak bx/\j≠A)->out.length=N->nx.length+r.length<=100000->Cs H A (ints (dO out)) 3 0->Ow H 3 1 ny (ints (dO nx))->
  ∃vV H',(∀(br:K.Fn 1) (aK ef:K.Fn 4) (hJ gf:K.Fn 7),Nt JN GO cK br aK ef hJ gf bX (.slice A 0 N N true 1) (zi steps) ny dF dS cj bx (zi (bl.length:Nat)) (zi (i:Nat)) H=gf bX (.slice A 0 N N true 1) (zi steps) vV dF dS cj H')/\
   Cs H' A (ints (dO (uu steps r (out,nx)).1)) 3 0/\Ow H' 3 1 vV (ints (dO (uu steps r (out,nx)).2))/\Out (A::ak ny) H H'/\∀j∈ak vV,j∈ak ny\/H.next<=j
 |[],i,H,out,nx,ny,hi,h,hb,hd,kX,jC,hC,hO=>by obtain rfl:=drop_nil hi h;refine⟨ny,H,λbr aK ef hJ gf=>?_,hC,hO,Out.refl _ _,λj hj=>.inl hj⟩;rw[Vo];simp only[On,dA,zz0,simprocAttr]
 |b::r,i,H,out,nx,ny,hi,h,hb,hd,kX,jC,hC,hO=>by
  obtain⟨h1,h2,h3⟩:=dU h;obtain⟨q,q1,q2⟩:=hb.gh (JR h2) .i64;have ZY:=jj b (aab h2);have es:=dD h1 zzz;have yb:out[b]?=some (out[b]' zzz):=aai zzz;have Wz:=hC.ld (JR yb);have qg:ia 1 (.slice A 0 N N true 1) (zi (b:Int))=some (.ptr A b):=by rw[DL ZY];simp
  simp only[aau] at jC;by_cases h0:out[b]' zzz=0
  ·rw[h0] at yb Wz;obtain⟨H1,w1,w2,w3,w4⟩:=eV hC zzx (o:=b) (by rw[mX,AH];omega) (v:=zi (steps:Int)) rfl;have fY:(ints (dO out)).set b (zi (steps:Int))=ints (dO (out.set b steps)):=by simp[ints,dO,List.map_set]
   rw[fY] at w2;have zG:=hO.out w3 λj hj=>by rw[No];exact (hd j hj).2
   obtain⟨ny1,H2,p1,p2,p3,p4,p5⟩:=wL (el2:=3) (z:=[(zi 0)]) (vs:=[zi (b:Int)]) zG rfl rfl zzx (by rw[mX,AH];simp;omega);have uG:ints (dO nx)++[zi (b:Int)]=ints (dO (nx++[b])):=by rw[UF,P3];rfl
   rw[uG] at p2;have aE:A∉ak ny:=λq=>(hd A q).2 rfl;have hCl:=hC.1;have apM:=hb.lt;obtain⟨vV,H',i1,i2,i3,i4,i5⟩:=aaR (N:=N) aC jj mN bX dF dS cj hA r (i+1) H2 (out.set b steps) (nx++[b]) ny1 h1 h3 ((hb.out w3 λj hj=>by rw[No];intro e;subst e;exact hA hj).out p3 λj hj q=>(hd j q).1 hj)
    (λj hj=>(p4 j hj).elim (hd j) λq=>⟨λz=>by have:=apM j z;omega,zzz⟩) (by rw[adi];exact kX) (by simp;omega) (w2.out p3 aE) p2
   have hex:uu steps (b::r) (out,nx)=uu steps r (out.set b steps,nx++[b]):=by show uu steps r (vN steps (out,nx) b)=_;unfold vN;rw[zz2 yb]
   have o2:Out (A::ak ny) H H2:=(w3.mono λj hj=>by rw[No] at hj;subst hj;exact .head _).trans (p3.mono λj hj=>.tail _ hj);have lI:=p3.nx;rw[hex];refine⟨vV,H',λbr aK ef hJ gf=>?_,i2,i3,o2.then i4 λj hj=>?_,λj hj=>(i5 j hj).elim (λq=>(p4 j q).imp id λq=>zzz) λq=>.inr zzz⟩;·have fX:=p1 _ rfl;rw[Vo];simp(disch:=try exact zqz)only[On,aQ h1,q1,q2,qg,Wz,Int.natCast_zero,w1,fX,es,i1,ar,aq,zz0,simprocAttr]
   ·rcases aal.1 hj with rfl|hj;·exact .inl (.head _)
    ·exact (p4 j hj).imp (λq=>.tail _ q) λq=>zzz
  ·have aF6:out[b]? ≠ some 0:=λq=>h0 (by rw[yb] at q;exact ab0 q);have hex:uu steps (b::r) (out,nx)=uu steps r (out,nx):=by show uu steps r (vN steps (out,nx) b)=_;unfold vN;rw[zz1 aF6]
   obtain⟨vV,H',i1,i2⟩:=aaR (N:=N) aC jj mN bX dF dS cj hA r (i+1) H out nx ny h1 h3 hb hd kX zzz hC hO;rw[hex];refine⟨vV,H',λbr aK ef hJ gf=>?_,i2⟩;have aE:(((out[b]' zzz:Nat):Int)==0)=false:=zz7 zzz;rw[Vo];simp(disch:=try exact zqz)only[On,aQ h1,q1,q2,qg,Wz,aE,es,i1,ar,aq,zz0,simprocAttr]
theorem al8 {N steps:Nat}{E:List Ed}{x:AV}{g:Nat}{l:List Nat}{lx:AV}{A:Nat}(hE:sK N E)(aC:0<steps)(fU:l.length<=100)(hA:A∉ak lx/\A∉ak x/\A≠g):
  ∀(r:List Nat) (i:Nat) (H:Hp) (out nx:List Nat) (ny:AV),i<=l.length->l.drop i=r->Rw H 1 lx (ints (dO l))->RL H 2 x (lV E)->Cs H g [zi N,x] 201 0->(∀j∈ak ny,j∉ak lx/\j∉ak x/\j≠g/\j≠A)->out.length=N->nx.length+r.length*300<=90000->Cs H A (ints (dO out)) 3 0->Ow H 3 1 ny (ints (dO nx))->
  ∃vV H',(∀(br:K.Fn 1) (aK ef:K.Fn 4),KS JN GO cK br aK ef (.ptr g 0) (.slice A 0 N N true 1) (zi steps) ny lx (zi (l.length:Nat)) (zi (i:Nat)) H=ef (.ptr g 0) (.slice A 0 N N true 1) (zi steps) vV H')/\
   Cs H' A (ints (dO (xz (λn=>mu E n false) steps r (out,nx)).1)) 3 0/\Ow H' 3 1 vV (ints (dO (xz (λn=>mu E n false) steps r (out,nx)).2))/\Out (A::ak ny) H H'/\∀j∈ak vV,j∈ak ny\/H.next<=j
 |[],i,H,out,nx,ny,hi,h,gB,hx,hg,hd,kX,jC,hC,hO=>by obtain rfl:=drop_nil hi h;refine⟨ny,H,λbr aK ef=>?_,hC,hO,Out.refl _ _,λj hj=>.inl hj⟩;rw[alj];simp only[O9,dA,zz0,simprocAttr]
 |a::r,i,H,out,nx,ny,hi,h,gB,hx,hg,hd,kX,jC,hC,hO=>by
  obtain⟨h1,h2,h3⟩:=dU h;obtain⟨q,q1,q2⟩:=gB.gh (JR h2) .i64;have es:=dD h1 zzz;have lH:=hx.one;have mS:=hg.av 2 0 zzy;have aAm:av H g 0 2=some [zi N,x]:=mS;obtain⟨bx,H1,b1,b2,b3,b4⟩:=aeH a hE hx;have jj:∀b∈mu E a false,b<N:=λb hb=>(hE.lt _ (Wi.1.1 hb)).2.1;have mN:=ahx E a false;have hEl:=hE.len;have hCl:=hC.1;have aHD:=hO.rw.lt;simp only[aau,afB,ajR] at jC;obtain⟨ny1,H2,i1,i2,i3,i4,i5⟩:=aaR (N:=N) aC jj zzz (.ptr g 0) lx (zi (l.length:Nat)) (zi (i:Nat)) (λq=>by have:=b4 A q;omega) (mu E a false) 0 H1 out nx ny (abg _) aaM b2.rw (λj hj=>⟨λq=>by have:=b4 j q;have:=aHD j hj;omega,(hd j hj).2.2.2⟩) kX zzz (hC.out b3 zzy) (hO.out b3 zzy);have lI:=b3.nx;have Vc:=gB.lt;have dC:=hx.1.lt;have Cq:=hg.1;have key:∀j,j<H.next->j≠A->j∉ak ny->H2.h.get j=H.h.get j:=λj hj ha hn=>by rw[i4.2 j zzz (by rw[aal,not_or];exact⟨ha,hn⟩),b3.2 j hj zzy]
  have o2:Out (A::ak ny) H H2:=(b3.mono λj hj=>by cases hj).trans i4;have d1:∀j∈ak lx,j∉A::ak ny:=λj hj=>by rw[aal,not_or];exact⟨λe=>hA.1 (e▸hj),λq=>(hd j q).1 hj⟩
  have d2:∀j∈ak x,j∉A::ak ny:=λj hj=>by rw[aal,not_or];exact⟨λe=>hA.2.1 (e▸hj),λq=>(hd j q).2.1 hj⟩
  have d3:g∉A::ak ny:=by rw[aal,not_or];exact⟨λe=>hA.2.2 e.symm,λq=>(hd g q).2.2.1 rfl⟩
  have mO:=(RP (sc:=λn=>mu E n false) aC [a] (out,nx)).len;have hl1:xz (λn=>mu E n false) steps (a::r) (out,nx)=xz (λn=>mu E n false) steps r (uu steps (mu E a false) (out,nx)):=rfl;have xn:=WU aC (mu E a false) (out,nx);have hz:=xn.EY;have ahb:(uu steps (mu E a false) (out,nx)).2.length<=nx.length+(mu E a false).length:=by
   have ayM:∀(bs:List Nat) (s:List Nat×List Nat),(uu steps bs s).2.length<=s.2.length+bs.length:=by
    intro bs;induction bs with
    |nil=>intro s;exact aaq _|cons b bs ih=>
     intro s;have h5:=ih (vN steps s b);have h6:(vN steps s b).2.length<=s.2.length+1:=by unfold vN;split<;>simp
     show (uu steps bs (vN steps s b)).2.length<=_;simp only[aau];omega
   exact ayM _ _
  obtain⟨vV,H',k1,k2,k3,k4,k5⟩:=al8 hE aC fU hA r (i+1) H2 _ _ ny1 h1 h3 (gB.out o2 d1) (hx.out o2 d2) (hg.out o2 d3) (λj hj=>(i5 j hj).elim (λq=>⟨(hd j q).1,(hd j q).2.1,(hd j q).2.2.1,(hd j q).2.2.2⟩) λq=>⟨λz=>by have:=Vc j z;omega,λz=>by have:=dC j z;omega,zzz,zzz⟩) (xn.len.trans kX) zzz i2 i3;rw[hl1];refine⟨vV,H',λbr aK ef=>?_,k2,k3,o2.then k4 λj hj=>?_,λj hj=>(k5 j hj).elim (λq=>(i5 j q).imp id λq=>zzz) λq=>.inr (by have:=o2.nx;omega)⟩;·have Ap:=b2.rw.gX;rw[mX,AH] at Ap;rw[show (((0:Nat):Int))=0 from rfl] at i1;rw[alj];simp(disch:=try exact zqz)only[O9,aQ h1,q1,q2,aAm,b1,Ap,i1,es,k1,ar,aq,zz0,simprocAttr]
  ·rcases aal.1 hj with rfl|hj;·exact .inl (.head _)
   ·exact (i5 j hj).imp (λq=>.tail _ q) λq=>zzz
theorem ax7 {g A:Nat}(hE:sK N E)(hA:A∉ak x/\A≠g):∀(f:Nat) (l out:List Nat) (steps:Nat) (lx:AV) (H:Hp),0<steps->steps+f<=100->out.length=N->l.length<=100->(l=[]\/gm out<f)->Rw H 1 lx (ints (dO l))->A∉ak lx->RL H 2 x (lV E)->Cs H g [zi N,x] 201 0->Cs H A (ints (dO out)) 3 0->
  ∃H',(∀k:K.Fn 1,Su JN GO cK k (.ptr g 0) (.slice A 0 N N true 1) lx (zi steps) H=k (.slice A 0 N N true 1) H')/\Cs H' A (ints (dO (xx (λn=>mu E n false) f l out steps))) 3 0/\Out [A] H H':=by
 have ajr:∀(out:List Nat) (steps:Nat) (lx:AV) (H:Hp),Rw H 1 lx (ints (dO []))->∀k:K.Fn 1,Su JN GO cK k (.ptr g 0) (.slice A 0 N N true 1) lx (zi steps) H=k (.slice A 0 N N true 1) H:=by intro out steps lx H gB k;have hl:=gB.gX;have q8:aG lx=some (zi 0):=hl;rw[ah9];simp only[Vu,q8,zz0,simprocAttr]
 intro f;induction f with
 |zero=>
  intro l out steps lx H hs Mv kX mr hz gB hAl hx hg hC;obtain rfl:=hz.resolve_right zzz;exact⟨H,ajr out steps lx H gB,hC,Out.refl _ _⟩
 |succ f ih=>
  intro l out steps lx H hs Mv kX mr hz gB hAl hx hg hC;by_cases tE:l=[];·subst tE;refine⟨H,ajr out steps lx H gB,?_,Out.refl _ _⟩;unfold xx;rw[zz2 rfl];exact hC
  ·have hlp:0<l.length:=List.length_pos_iff.2 tE;have S:=RP (sc:=λn=>mu E n false) hs l (out,[]);have gN:=S.EY;simp only[acj,aeA] at gN;have hzN:gm out<=N:=by unfold gm;rw[<-kX];exact List.countP_le_length
   have hN:=hE.n;obtain⟨ny,H1,i1,i2,i3,i4,i5⟩:=al8 hE hs mr ⟨hAl,hA.1,hA.2⟩ l 0 H out [] .ah (abg _) aaM gB hx hg (λj hj=>by cases hj) kX (by simp;omega) hC .nil;have o1:Out [A] H H1:=i4.mono λj hj=>by
    rcases aal.1 hj with rfl|hj;·exact .head _
    ·cases hj
   have Iv:∀j∈ak ny,H.next<=j:=λj hj=>(i5 j hj).elim (λq=>by cases q) id;obtain⟨H',k1,k2,k3⟩:=ih _ _ (steps+1) ny H1 zzz zzz (S.len.trans kX) zzz (by
    have:=hz.resolve_left tE;cases wu:(xz (λn=>mu E n false) steps l (out,[])).2 with
    |nil=>exact .inl rfl|cons p q=>rw[wu] at gN;simp only[aau] at gN;exact .inr zzz) i3.rw (λq=>by have:=Iv A q;have:=hC.1;omega) (hx.out o1 λj hj=>by rw[No];intro e;subst e;exact hA.1 hj) (hg.out o1 (by rw[No];exactλe=>hA.2 e.symm)) i2
   refine⟨H',λk=>?_,?_,o1.trans k3⟩
   ·have hl:=gB.gX;rw[mX,AH] at hl;have d:decide ((0:Int)<((l.length:Nat):Int))=true:=zz3 zzz;have e:IntKind.wrap .i64 ((steps:Int)+1)=((steps+1:Nat):Int):=by rw[wrap_i64 zzz zzz];rfl
    rw[show (((0:Nat):Int))=0 from rfl] at i1;rw[ah9];simp only[Vu,hl,d,i1,e,k1,zz0,simprocAttr]
   ·unfold xx;rw[zz1 tE];exact k2
theorem aoS {n:Nat}(hE:sK N E)(hx:RL H 2 x (lV E)):∃A H',cK (zf 156) [gv N x,zi n] H=some (.slice A 0 N N true 1,H')/\Cs H' A (ints (dO (far (λn=>mu E n false) N n))) 3 0/\Out [] H H'/\H.next<=A:=by
 have lH:=hx.one;have hN:=hE.n;have oX:=aD H [zi N,x] 201 0;have hm:=ae3 (H:=al H [zi N,x] 201 0) (z:=zi 0) (el:=3) (n:=N) .i64 .i64 zzz;have auI:List.replicate N (AV.int .i64 0)=ints (dO (List.replicate N 0)):=by simp[ints,dO]
 rw[bS,auI] at hm;have qK:=oX.al (ints (dO (List.replicate N 0))) 3 0;have c2:=aP (al H [zi N,x] 201 0) (ints (dO (List.replicate N 0))) 3 0;have c1:=(aP H [zi N,x] 201 0).out (aD (al H [zi N,x] 201 0) (ints (dO (List.replicate N 0))) 3 0) zzy;have o3:=aD (al (al H [zi N,x] 201 0) (ints (dO (List.replicate N 0))) 3 0) [zi (n:Int)] 3 0;have Ax:=qK.trans o3;have c3:=aP (al (al H [zi N,x] 201 0) (ints (dO (List.replicate N 0))) 3 0) [zi (n:Int)] 3 0;have Zn:Rw (al (al (al H [zi N,x] 201 0) (ints (dO (List.replicate N 0))) 3 0) [zi (n:Int)] 3 0) 1 (.slice (H.next+2) 0 1 1 true 1) (ints (dO [n])):=.mk c3.ro rfl (aaq _) rfl;have dC:=hx.1.lt;obtain⟨H',i1,i2,i3⟩:=ax7 (g:=H.next) (A:=H.next+1) hE ⟨λq=>by have:=dC _ q;omega,zzz⟩ (N+1) [n] (List.replicate N 0) 1 (.slice (H.next+2) 0 1 1 true 1) _ zzx zzz zzy zzy (.inr (by rw[adA];omega)) Zn (by rw[pH zzv,No];omega) (hx.au Ax) (c1.out o3 zzy) (c2.out o3 zzy);refine⟨H.next+1,H',aqd ?_,i2,Ax.then i3 λj hj=>by rw[No] at hj;exact .inr zzz,zzz⟩;rw[show (((1:Nat):Int))=1 from rfl] at i1;unfold acw;simp(disch:=try exact zqz)only[hm,i1,ar,aq,zz0,simprocAttr]
end
abbrev xM (E:List Ed)(N n:Nat):List Nat:=far (λn=>mu E n false) N n
theorem apO {sc:Nat->List Nat}{B:Nat}:∀(f:Nat) (l out:List Nat) (steps:Nat),steps+f<=B->(∀v∈out,v<=B)->∀v∈xx sc f l out steps,v<=B:=by
 have h1:∀(steps b:Nat) (s:List Nat×List Nat),steps<=B->(∀v∈s.1,v<=B)->∀v∈(vN steps s b).1,v<=B:=by
  intro steps b s hs h v hv;unfold vN at hv;split at hv
  ·rcases adT hv with hv|rfl;·exact h v hv
   ·exact hs
  ·exact h v hv
 have h2:∀(steps:Nat) (bs:List Nat) (s:List Nat×List Nat),steps<=B->(∀v∈s.1,v<=B)->∀v∈(uu steps bs s).1,v<=B:=by
  intro steps bs;induction bs with
  |nil=>intro s hs h;exact h|cons b bs ih=>intro s hs h;exact ih _ hs (h1 steps b s hs h)
 have h3:∀(steps:Nat) (l:List Nat) (s:List Nat×List Nat),steps<=B->(∀v∈s.1,v<=B)->∀v∈(xz sc steps l s).1,v<=B:=by
  intro steps l;induction l with
  |nil=>intro s hs h;exact h|cons b bs ih=>intro s hs h;exact ih _ hs (h2 steps _ s hs h)
 intro f;induction f with
 |zero=>intro l out steps hs h;exact h|succ f ih=>
  intro l out steps hs h;unfold xx;split;·exact h
  ·exact ih _ _ _ zzz (h3 steps l _ zzz h)
section
variable {E:List Ed}{N g m:Nat}{x:AV}
theorem aFK {n:Nat}(hN:N<=16):∀v∈xM E N n,v<=100:=by refine apO _ _ _ _ zzz ?_;intro v hv;rw[List.eq_of_mem_replicate hv];omega
theorem aAL {n:Nat}(hE:sK N E):(xM E N n).length=N:=
 (axn (C:=λ_=>True) (λa b hb=>(hE.lt _ (Wi.1.1 hb)).2.1) (λ_ _=>trivial) (λ_ _ _ _=>trivial)).1
def wV (E:List Ed)(N n:Nat):Nat:=(xM E N n).getD n 0
theorem afn {n:Nat}(hE:sK N E)(hm:m<N):(xM E N n)[m]?=some ((xM E N n).getD m 0):=by rw[aij,aai (by rw[aAL hE];exact hm)];rfl
theorem aoH {n:Nat}{H':Hp}{A:Nat}(hE:sK N E)(hm:m<N)(hC:Cs H' A (ints (dO (xM E N n))) 3 0):ia 1 (.slice A 0 N N true 1) (zi (m:Int))=some (.ptr A m)/\cellAt H' A m=some (zi (((xM E N n).getD m 0:Nat):Int)):=
 ⟨by rw[DL hm];simp,hC.cellAt (JR (afn hE hm))⟩
theorem awg {n:Nat}(hE:sK N E)(hm:m<N):(xM E N n).getD m 0<=100:=aFK hE.n _ (aab (afn hE hm))
theorem aAA (hE:sK N E):∀(m i st sp:Nat) (H:Hp),i+m=N->st<N+1->(0<sp->st<N)->sp<=100->(sp=0 ↔ ∀n,n<i->wV E N n=0)->RL H 2 x (lV E)->Cs H g [zi N,x] 201 0->
  ∃Bj yn H',(∀k:K.Fn 3,abt JN GO cK k (.ptr g 0) (zi st) (zi sp) (zi N) (zi i) H=k (.ptr g 0) (zi (Bj:Nat)) (zi (yn:Nat)) H')/\(0<yn->Bj<N)/\yn<=100/\(yn=0 ↔ ∀n,n<N->wV E N n=0)/\Out [] H H':=by
 intro m;induction m with
 |zero=>
  intro i st sp H hi aC HL mJ Yd hx hg;obtain rfl:i=N:=zzz;refine⟨st,sp,H,λk=>?_,HL,mJ,Yd,Out.refl _ _⟩;rw[K3];simp only[Jp,dA,zz0,simprocAttr]
 |succ m ih=>
  intro i st sp H hi aC HL mJ Yd hx hg;have lH:=hx.one;have hN:=hE.n;have DU:i<N:=zzz;have mS:av H g 0 2=some [zi N,x]:=hg.av 2 0 zzy;obtain⟨A,H1,f1,f2,f3,f4⟩:=aoS (n:=i) hE hx;obtain⟨a1,a2⟩:=aoH hE DU f2;have hle:=awg (n:=i) hE DU;have hd:(xM E N i).getD i 0=wV E N i:=rfl;rw[hd] at a2 hle;have es:IntKind.wrap .i64 ((i:Int)+1)=((i+1:Nat):Int):=by rw[wrap_i64 zzz zzz];rfl
  have aN:decide (((i:Nat):Int)<((N:Nat):Int))=true:=zz3 zzz;by_cases hk:0<wV E N i
  ·have dk:decide ((0:Int)<((wV E N i:Nat):Int))=true:=zz3 zzz;by_cases h0:sp=0;·obtain⟨Bj,yn,H',i1,i2,i3,i4,i5⟩:=ih (i+1) i (wV E N i) H1 zzz zzz (λ_=>DU) hle ⟨λq=>zzz,λq=>by have:=q i zzz;omega⟩ (hx.au f3) (hg.out f3 zzy);refine⟨Bj,yn,H',λk=>?_,i2,i3,i4,f3.trans i5⟩;subst h0;rw[K3];simp(disch:=try exact zqz)only[Jp,aN,mS,f1,a1,a2,dk,Int.natCast_zero,es,i1,ar,aq,zz0,simprocAttr]
   ·have e0:((sp:Int)==0)=false:=zz7 zzz;by_cases h1:wV E N i<sp;·have dl:decide (((wV E N i:Nat):Int)<((sp:Nat):Int))=true:=zz3 zzz;obtain⟨Bj,yn,H',i1,i2,i3,i4,i5⟩:=ih (i+1) i (wV E N i) H1 zzz zzz (λ_=>DU) hle ⟨λq=>zzz,λq=>by have:=q i zzz;omega⟩ (hx.au f3) (hg.out f3 zzy);refine⟨Bj,yn,H',λk=>?_,i2,i3,i4,f3.trans i5⟩;rw[K3];simp(disch:=try exact zqz)only[Jp,aN,mS,f1,a1,a2,dk,e0,dl,es,i1,ar,aq,zz0,simprocAttr]
    ·have dl:decide (((wV E N i:Nat):Int)<((sp:Nat):Int))=false:=zz4 zzz;obtain⟨Bj,yn,H',i1,i2,i3,i4,i5⟩:=ih (i+1) st sp H1 zzz aC HL mJ ⟨λq=>zzz,λq=>by have:=q i zzz;omega⟩ (hx.au f3) (hg.out f3 zzy);refine⟨Bj,yn,H',λk=>?_,i2,i3,i4,f3.trans i5⟩;rw[K3];simp(disch:=try exact zqz)only[Jp,aN,mS,f1,a1,a2,dk,e0,dl,es,i1,ar,aq,zz0,simprocAttr]
  ·have Fq:wV E N i=0:=zzz;have dk:decide ((0:Int)<((wV E N i:Nat):Int))=false:=zz4 zzz;obtain⟨Bj,yn,H',i1,i2,i3,i4,i5⟩:=ih (i+1) st sp H1 zzz aC HL mJ (Yd.trans ⟨λq n hn=>by
    by_cases hni:n=i;·subst hni;exact Fq
    ·exact q n zzz,λq n hn=>q n zzz⟩) (hx.au f3) (hg.out f3 zzy)
   refine⟨Bj,yn,H',λk=>?_,i2,i3,i4,f3.trans i5⟩;rw[K3];simp(disch:=try exact zqz)only[Jp,aN,mS,f1,a1,a2,dk,es,i1,ar,aq,zz0,simprocAttr]
theorem X1 {N:Nat}{E:List Ed}{x:AV}{g st left:Nat}{bl:List Nat}(hE:sK N E)(aC:st<N)(jj:∀b∈bl,b<N)(mN:bl.length<=300):∀(r:List Nat) (i:Nat) (bx y:AV) (out:List Nat) (H:Hp),i<=bl.length->bl.drop i=r->Rw H 1 bx (ints (dO bl))->RL H 2 x (lV E)->Cs H g [zi N,x] 201 0->Ow H 3 1 y (ints (dO out))->out.length<=10000->
  ∃y' nh H',(∀(kU:K.Fn 1) (nJ nV:K.Fn 4),Lj JN GO cK kU nJ nV (.ptr g 0) (zi st) y (zi left) bx (zi (bl.length:Nat)) (zi (i:Nat)) H=nV (.ptr g 0) (zi st) y' (zi left) H')/\Ow H' 3 1 y' (ints (dO nh))/\(nh=out\/∃b,b<N/\nh=out++[b])/\Out (ak y) H H'/\∀j∈ak y',j∈ak y\/H.next<=j
 |[],i,bx,y,out,H,hi,h,hb,hx,hg,hO,kX=>by obtain rfl:=drop_nil hi h;refine⟨y,out,H,λkU nJ nV=>?_,hO,.inl rfl,Out.refl _ _,λj hj=>.inl hj⟩;rw[QZ];simp only[Kr,dA,zz0,simprocAttr]
 |b::r,i,bx,y,out,H,hi,h,hb,hx,hg,hO,kX=>by
  obtain⟨h1,h2,h3⟩:=dU h;obtain⟨q,q1,q2⟩:=hb.gh (JR h2) .i64;have ZY:=jj b (aab h2);have es:=dD h1 zzz;have lH:=hx.one;have mS:av H g 0 2=some [zi N,x]:=hg.av 2 0 zzy;by_cases wG:b=st
  ·have d:(((b:Nat):Int) != ((st:Nat):Int))=false:=by subst wG;simp
   obtain⟨y',nh,H',i1,i2⟩:=X1 (left:=left) hE aC jj mN r (i+1) bx y out H h1 h3 hb hx hg hO kX;refine⟨y',nh,H',λkU nJ nV=>?_,i2⟩;rw[QZ];simp(disch:=try exact zqz)only[Kr,aQ h1,q1,q2,d,es,i1,ar,aq,zz0,simprocAttr]
  ·have d:(((b:Nat):Int) != ((st:Nat):Int))=true:=by simp;omega
   obtain⟨A,H1,f1,f2,f3,f4⟩:=aoS (n:=b) hE hx;obtain⟨a1,a2⟩:=aoH hE aC f2;by_cases hl:(xM E N b).getD st 0=left
   ·have d2:((((xM E N b).getD st 0:Nat):Int)==((left:Nat):Int))=true:=by rw[hl];simp
    obtain⟨y1,H2,p1,p2,p3,p4,p5⟩:=wL (el2:=3) (z:=[(zi 0)]) (vs:=[zi (b:Int)]) (hO.out f3 zzy) rfl rfl zzx (by rw[mX,AH];simp;omega);have uG:ints (dO out)++[zi (b:Int)]=ints (dO (out++[b])):=by rw[UF,P3];rfl
    rw[uG] at p2;have lI:=f3.nx;refine⟨y1,out++[b],H2,λkU nJ nV=>?_,p2,.inr ⟨b,ZY,rfl⟩,(f3.mono λj hj=>by cases hj).trans p3,λj hj=>(p4 j hj).imp id λq=>zzz⟩;have fX:=p1 _ rfl;rw[QZ];simp(disch:=try exact zqz)only[Kr,aQ h1,q1,q2,d,mS,f1,a1,a2,d2,fX,ar,aq,zz0,simprocAttr]
   ·have d2:((((xM E N b).getD st 0:Nat):Int)==((left:Nat):Int))=false:=zz7 zzz;obtain⟨y',nh,H',i1,i2,i3,i4,i5⟩:=X1 (left:=left) hE aC jj mN r (i+1) bx y out H1 h1 h3 (hb.au f3) (hx.au f3) (hg.out f3 zzy) (hO.out f3 zzy) kX;have lI:=f3.nx;refine⟨y',nh,H',λkU nJ nV=>?_,i2,i3,(f3.mono λj hj=>by cases hj).trans i4,λj hj=>(i5 j hj).imp id λq=>zzz⟩;rw[QZ];simp(disch:=try exact zqz)only[Kr,aQ h1,q1,q2,d,mS,f1,a1,a2,d2,es,i1,ar,aq,zz0,simprocAttr]
theorem ao5 {st:Nat}(hE:sK N E)(aC:st<N):∀(left:Nat) (y:AV) (out:List Nat) (H:Hp),out≠[]->(∀b∈out,b<N)->out.length+left<=1000->RL H 2 x (lV E)->Cs H g [zi N,x] 201 0->Ow H 3 1 y (ints (dO out))->(∀j∈ak y,j∉ak x/\j≠g)->
  ∃y' nh H',(∀k:K.Fn 1,V3 JN GO cK k (.ptr g 0) (zi st) y (zi left) H=k y' H')/\Ow H' 3 1 y' (ints (dO nh))/\nh≠[]/\Out (ak y) H H':=by
 intro left;induction left with
 |zero=>
  intro y out H h0 aN hn hx hg hO hd;refine⟨y,out,H,λk=>?_,hO,h0,Out.refl _ _⟩;have d:decide ((0:Int)<((0:Nat):Int))=false:=rfl;rw[anf];simp only[X8,d,zz0,simprocAttr]
 |succ left ih=>
  intro y out H h0 aN hn hx hg hO hd;have aT:0<out.length:=List.length_pos_iff.2 h0;have lH:=hx.one;have mS:av H g 0 2=some [zi N,x]:=hg.av 2 0 zzy;have Ap:=hO.rw.gX;rw[mX,AH] at Ap;obtain⟨a,ha⟩:∃a,out[out.length-1]?=some a:=⟨_,aai zzz⟩;obtain⟨q,q1,q2⟩:=hO.rw.gh (JR ha) .i64;have hEl:=hE.len;have jj:∀b∈mu E a false,b<N:=λb hb=>(hE.lt _ (Wi.1.1 hb)).2.1;have mN:=ahx E a false;obtain⟨bx,H1,b1,b2,b3,b4⟩:=aeH a hE hx;have alw:=b2.rw.gX;rw[mX,AH] at alw;have NJ:=hO.rw.lt;obtain⟨y1,P0,H2,i1,i2,i3,i4,i5⟩:=X1 (left:=left+1) hE aC jj zzz (mu E a false) 0 bx y out H1 (abg _) aaM b2.rw (hx.au b3) (hg.out b3 zzy) (hO.out b3 zzy) zzz;have lI:=b3.nx;have o2:Out (ak y) H H2:=(b3.mono λj hj=>by cases hj).trans i4;have dC:=hx.1.lt;have Cq:=hg.1;have jX:∀j∈ak y1,j∈ak y\/H.next<=j:=λj hj=>(i5 j hj).imp id λq=>zzz;have XH:P0≠[]/\(∀b∈P0,b<N)/\P0.length<=out.length+1:=by
   rcases i3 with rfl|⟨b,hb,rfl⟩;·exact⟨h0,aN,zzz⟩
   ·refine⟨zzy,λc hc=>?_,zzy⟩;rcases aaQ.1 hc with hc|hc;·exact aN c hc
    ·rw[No] at hc;subst hc;exact hb
  obtain⟨y',nh,H',k1,k2,k3,k4⟩:=ih y1 P0 H2 XH.1 XH.2.1 (by have:=XH.2.2;omega) (hx.out o2 λj hj q=>(hd j q).1 hj) (hg.out o2 λq=>(hd g q).2 rfl) i2 (λj hj=>(jX j hj).elim (hd j) λq=>⟨λz=>by have:=dC j z;omega,zzz⟩);refine⟨y',nh,H',λk=>?_,k2,k3,o2.then k4 jX⟩;have d:decide ((0:Int)<((left+1:Nat):Int))=true:=zz3 zzz;have e1:IntKind.wrap .i64 (((out.length:Nat):Int)-1)=((out.length-1:Nat):Int):=by rw[wrap_i64 zzz zzz];omega
  have e2:IntKind.wrap .i64 (((left+1:Nat):Int)-1)=((left:Nat):Int):=by rw[wrap_i64 zzz zzz];omega
  rw[show (((0:Nat):Int))=0 from rfl] at i1;rw[anf];simp(disch:=try exact zqz)only[X8,d,mS,Ap,e1,q1,q2,b1,alw,i1,e2,k1,ar,aq,zz0,simprocAttr]
def DW (N:Nat)(E:List Ed):Prop:=∀n,n<N->wV E N n=0
theorem aCo {H:Hp}(hE:sK N E)(hx:RL H 2 x (lV E)):∃(y:AV) (k:Nat) (H':Hp),cK (zf 126) [gv N x] H=some (y,H')/\aG y=some (zi k)/\(k=0↔DW N E)/\Out [] H H':=by
 have lH:=hx.one;have hN:=hE.n;have oX:=aD H [zi N,x] 201 0;have c1:=aP H [zi N,x] 201 0;obtain⟨H2,g1,g2⟩:=ahS hE (hx.au oX);have jo:=g2.nx;rw[bS] at jo;have qK:=oX.trans g2;have c2:=c1.out g2 zzy;obtain⟨st,sp,H3,i1,i2,i3,i4,i5⟩:=aAA (g:=H.next) hE N 0 0 0 H2 zzz zzz zzz zzz ⟨λ_ n hn=>zzz,λ_=>rfl⟩ (hx.au qK) c2;rw[show (((0:Nat):Int))=0 from rfl] at i1;have Jg:cellAt H2 H.next 0=some (zi N):=c2.cellAt rfl;have Ax:=qK.trans i5;have c3:=c2.out i5 zzy;have FX:=i5.nx;by_cases h0:sp=0;·refine⟨.ah,0,H3,alr ?_,rfl,⟨λ_=>i4.1 h0,λ_=>rfl⟩,Ax⟩;subst h0;unfold aaj;simp(disch:=try exact zqz)only[g1,Jg,i1,Int.natCast_zero,ar,aq,zz0,simprocAttr]
 ·have ait:=i2 zzz;have c4:=aP H3 [zi (st:Int)] 3 0;have o4:=aD H3 [zi (st:Int)] 3 0;have hO:Ow (al H3 [zi (st:Int)] 3 0) 3 1 (.slice H3.next 0 1 1 true 1) (ints (dO [st])):=c4.ow zzx rfl (by intro v hv;rw[No] at hv;subst hv;rfl) true;have dC:=hx.1.lt;obtain⟨y,out,H5,k1,k2,k3,k4⟩:=ao5 (g:=H.next) hE ait (sp-1) _ [st] _ zzy (by intro b hb;rw[No] at hb;subst hb;exact ait) (by simp;omega) (hx.au (Ax.trans o4)) (c3.out o4 zzy) hO (λj hj=>by rw[pH zzv,No] at hj;exact⟨λq=>by have:=dC j q;omega,zzz⟩);have Ap:=k2.rw.gX;rw[mX,AH] at Ap;have aT:0<out.length:=List.length_pos_iff.2 k3;refine⟨y,out.length,H5,alr ?_,Ap,⟨λq=>zzz,λq=>absurd (i4.2 q) h0⟩,(Ax.trans o4).then k4 λj hj=>?_⟩
  ·have d:(((sp:Nat):Int)==0)=false:=zz7 zzz;have e:IntKind.wrap .i64 (((sp:Nat):Int)-1)=((sp-1:Nat):Int):=by rw[wrap_i64 zzz zzz];omega
   unfold aaj;simp(disch:=try exact zqz)only[g1,Jg,i1,d,e,k1,ar,aq,zz0,simprocAttr]
  ·rw[pH zzv,No] at hj;exact .inr zzz
end
abbrev vm:Str:=[97,98,99,100,101,102,103,104,105,106,107,108,109,110,111,112,113,114,115,116,117,118,119,120,121,122,48,49,50,51,52,53,54,55,56,57]
noncomputable def ui (s:Str):Bool := !(s==[])&&(decide ((s.length:Int)<=16)&&(EP s vm==[]))
theorem Ob (s:Str)(H:Hp):cK (zf 54) [.str s] H=some (.bool (ui s),H):=by
 refine aDR ?_;unfold agp ui;cases h0:(s==[]) with
 |true=>simp only[h0,alv,acn,zz0,simprocAttr]|false=>
  by_cases h1:(s.length:Int)<=16;·have ht:=aBt s vm H zzz zzx zzx;simp only[h0,h1,ht,acy,zz0,simprocAttr]
  ·simp only[h0,h1,acy,acn,zz0,simprocAttr]
noncomputable def uB (s:Str):Option Nat:=if s.length<=4 then (match Lib.atoiAll (Ad s) with|.ok v=>if dec v=s/\0<=v then some v.toNat else none|_=>none) else none
theorem ade (T:Nat)(v:AV)(H:Hp):gA P .eql 183 true (.iface T v) .nilIface=true/\fV P .eql 183 (.iface T v) .nilIface H=some (.bool false):=by have hu:∃m,P.underlying 183=some (.interface m):=⟨_,Tryz.underlying183⟩;obtain⟨m,hu⟩:=hu;refine⟨rfl,?_⟩;unfold fV eL;simp only[hu];rfl
theorem ate (H:Hp):gA P .eql 183 true .nilIface .nilIface=true/\fV P .eql 183 .nilIface .nilIface H=some (.bool true):=by have hu:∃m,P.underlying 183=some (.interface m):=⟨_,Tryz.underlying183⟩;obtain⟨m,hu⟩:=hu;refine⟨rfl,?_⟩;unfold fV eL;simp only[hu];rfl
theorem au2 {s:Str}(hs:s.length<=4){v:Int}(h:Lib.atoiAll (Ad s)=.ok v):-9223372036854775808<=v/\v<=9223372036854775807:=by
 unfold Lib.atoiAll at h;split at h;·cases h
 ·simp only at h;split at h;·cases h
  ·cases h
  ·split at h;·cases h
   ·split at h;·cases h
    ·injection h with h;rename_i h1 h2;split at h<;>omega
theorem aBW {s:Str}{H:Hp}(hg:Gl H):∃n ok H',cK (zf 153) [.str s] H=some (.tuple [zi n,.bool ok],H')/\(uB s=if ok then some n.toNat else none)/\(ok=true->0<=n)/\Out [] H H':=by
 by_cases hl:s.length<=4
 ·have d:decide ((4:Int)<(s.length:Int))=false:=zz4 zzz;have ha:=avp (s:=s) zzz hg;have zk:uB s=(match Lib.atoiAll (Ad s) with|.ok v=>if dec v=s/\0<=v then some v.toNat else none|_=>none):=by unfold uB;rw[zz2 hl]
  unfold PU at ha;cases hr:Lib.atoiAll (Ad s) with
  |ok v=>
   rw[hr] at ha zk;obtain⟨b1,b2⟩:=au2 hl hr;obtain⟨H',i1,i2⟩:=afq b1 b2 hg;have hn:=ate H;by_cases h1:dec v=s
   ·have e1:(dec v==s)=true:=by rw[h1];simp
    refine⟨v,decide (0<=v),H',Lv ?_,?_,λq=>by simpa using q,i2⟩;·unfold IP;simp(disch:=try exact zqz)only[d,ha,hn.1,hn.2,nw,i1,e1,ar,aq,zz0,simprocAttr]
    ·rw[zk];by_cases h0:0<=v<;>simp[h1,h0]
   ·have e1:(dec v==s)=false:=zz7 h1;refine⟨v,false,H',Lv ?_,?_,(λq=>by cases q),i2⟩;·unfold IP;simp(disch:=try exact zqz)only[d,ha,hn.1,hn.2,nw,i1,e1,ar,aq,zz0,simprocAttr]
    ·rw[zk];simp[h1]
  |range=>
   rw[hr] at ha zk;have hn:=ade 269 .dG H;refine⟨Lib.atoiSat (Ad s),false,H,Lv ?_,by rw[zk];rfl,(λq=>by cases q),Out.refl _ _⟩;unfold IP;simp(disch:=try exact zqz)only[d,ha,hn.1,hn.2,nw,ar,aq,zz0,simprocAttr]
  |_=>
   rw[hr] at ha zk;have hn:=ade 269 .dG H;refine⟨0,false,H,Lv ?_,by rw[zk];rfl,(λq=>by cases q),Out.refl _ _⟩;unfold IP;simp(disch:=try exact zqz)only[d,ha,hn.1,hn.2,nw,ar,aq,zz0,simprocAttr]
 ·have d:decide ((4:Int)<(s.length:Int))=true:=zz3 zzz;refine⟨0,false,H,Lv ?_,by unfold uB;rw[zz1 hl];rfl,(λq=>by cases q),Out.refl _ _⟩;unfold IP;simp(disch:=try exact zqz)only[d,ar,aq,zz0,simprocAttr]
structure Tk where
 name:Str
 after:List Int
 cu:Int
 wait:Int
 base:Int
 on:Str
 deriving DecidableEq
def aJ (t:Tk)(x:AV):List AV:=[.str t.name,x,zi t.cu,zi t.wait,zi t.base,.str t.on]
def mZ (dx:AV)(xs:List AV):List Nat:=ak dx++xs.flatMap ak
structure RD (H:Hp)(dx:AV)(xs:List AV)(ts:List Tk):Prop where
 len:xs.length=ts.length
 row:RL H 6 dx (List.zipWith aJ ts xs)
 lh:∀(i:Nat) (x:AV) (t:Tk),xs[i]?=some x->ts[i]?=some t->Rw H 1 x (ints t.after)
section
variable {H H':Hp}{dx:AV}{i:Int}{ts:List Tk}{xs:List AV}
theorem RD.out {S:List Nat}(h:RD H dx xs ts)(k:Out S H H')(hs:∀j∈mZ dx xs,j∉S):RD H' dx xs ts:=
 ⟨h.len,h.row.out k λj hj=>hs j (aaG _ hj),λi x t hx ht=>(h.lh i x t hx ht).out k λj hj=>hs j (aaw _ (ae8.2 ⟨x,aab hx,hj⟩))⟩
theorem RD.au (h:RD H dx xs ts)(k:Out [] H H'):RD H' dx xs ts:=h.out k λ_ _ q=>by cases q
theorem RD.lt (h:RD H dx xs ts):∀j∈mZ dx xs,j<H.next:=by
 intro j hj;rcases aaQ.1 hj with hj|hj;·exact h.row.1.lt j hj
 ·obtain⟨x,hx,hj⟩:=ae8.1 hj;obtain⟨i,hi⟩:=ab2 hx;have hit:i<ts.length:=by rw[<-h.len];exact (aac.1 hi).1
  exact (h.lh i x _ hi (aai hit)).lt j hj
theorem RD.at {H:Hp}{dx:AV}{xs:List AV}{ts:List Tk}(h:RD H dx xs ts){i:Nat}{t:Tk}(ht:ts[i]?=some t):
  ∃x b o,xs[i]?=some x/\aW x=true/\Rw H 1 x (ints t.after)/\(∀k,ia 6 dx (.int k i)=some (.ptr b o))/\b<H.next/\av H b o 6=some (aJ t x)/\cellAt H b o=some (.str t.name):=by
 have hi:=(aac.1 ht).1;have hx:xs[i]?=some (xs[i]'(by rw[h.len];exact hi)):=aai _;have hw:=h.lh i _ t hx ht;have hz:(List.zipWith aJ ts xs)[i]?=some (aJ t (xs[i]'(by rw[h.len];exact hi))):=by rw[adf,ht,hx]
 obtain⟨b,o,h1,h2,h3,h4,h5⟩:=h.row.at zzx hz;exact⟨_,b,o,hx,hw.one,hw,h1,h3,h4,by have:=h5 0 _ rfl;rw[aeA] at this;exact this⟩
theorem RD.aG {H:Hp}{dx:AV}{xs:List AV}{ts:List Tk}(h:RD H dx xs ts):aG dx=some (zi (ts.length:Nat)):=by have:=h.row.len zzx;rw[aey,h.len,ajN] at this;exact this
abbrev dv (dx:AV):AV:=.agg [dx]
noncomputable def Bq (t:Tk):Bool := !ui t.name||(!(t.on==[])&&!ui t.on)
def uL (t:Tk):Bool := !(decide (0<=t.cu)&&decide (t.cu<=8))||(!(decide (1<=t.wait)&&decide (t.wait<=1000))||!(decide (1<=t.base)&&decide (t.base<=1000)))
theorem uZ (t:Tk)(x:AV):(aJ t x)[0]?=some (.str t.name)/\(aJ t x)[1]?=some x/\(aJ t x)[2]?=some (zi t.cu)/\(aJ t x)[3]?=some (zi t.wait)/\(aJ t x)[4]?=some (zi t.base)/\(aJ t x)[5]?=some (.str t.on):=⟨rfl,rfl,rfl,rfl,rfl,rfl⟩
theorem y9 (t:Tk)(x:AV):(aJ t x).length=6:=rfl
theorem ahG (t:Tk)(x:AV):(aJ t x).take 6=aJ t x:=rfl
theorem xj (t:Tk)(x:AV)(H:Hp):bx 99 (.agg (aJ t x)) H=some (H.next,al H (aJ t x) 99 0):=iz (by rw[y9];omega)
theorem AX (t:Tk)(x:AV)(hx:aW x=true)(H:Hp):st 6 (.ptr H.next 0) (.agg (aJ t x)) (al H [(.str []),.ah,(zi 0),(zi 0),(zi 0),(.str [])] 99 0)=some (al H (aJ t x) 99 0):=
 gy (by simp[aJ,JX,iV,hx]) rfl rfl zzx rfl
theorem aBq (t:Tk)(x:AV)(i:Int)(H:Hp):∃H',cK (zf 120) [zi i,.agg (aJ t x)] H=some (.bool (Bq t),H')/\Out [] H H':=by
 refine⟨al H (aJ t x) 99 0,ayS ?_,aD _ _ _ _⟩;obtain⟨e0,e1,e2,e3,e4,e5⟩:=uZ t x;unfold acb Bq;cases h1:ui t.name with
 |false=>simp(disch:=try exact zqz)only[xj,e0,e5,Ob,h1,al6,Bool.true_or,ar,aq,zz0,simprocAttr]|true=>
  cases h2:(t.on==[]) with
  |true=>simp(disch:=try exact zqz)only[xj,e0,e5,Ob,h1,h2,alv,ank,acn,ar,aq,zz0,simprocAttr]|false=>simp(disch:=try exact zqz)only[xj,e0,e5,Ob,h1,h2,alv,al6,ank,acy,ar,aq,zz0,simprocAttr]
theorem aur (t:Tk)(x:AV)(i:Int)(H:Hp):∃H',cK (zf 122) [zi i,.agg (aJ t x)] H=some (.bool (uL t),H')/\Out [] H H':=by
 refine⟨al H (aJ t x) 99 0,ape ?_,aD _ _ _ _⟩;obtain⟨e0,e1,e2,e3,e4,e5⟩:=uZ t x;unfold aeQ uL;cases h1:(decide (0<=t.cu)&&decide (t.cu<=8)) with
 |false=>simp(disch:=try exact zqz)only[xj,e2,e3,e4,tj,h1,al6,Bool.true_or,ar,aq,zz0,simprocAttr]|true=>
  cases h2:(decide (1<=t.wait)&&decide (t.wait<=1000)) with
  |false=>simp(disch:=try exact zqz)only[xj,e2,e3,e4,tj,h1,h2,alv,al6,ank,Bool.true_or,ar,aq,zz0,simprocAttr]|true=>simp(disch:=try exact zqz)only[xj,e2,e3,e4,tj,h1,h2,alv,ank,ar,aq,zz0,simprocAttr]
def tR (n:Int)(i:Int)(pre:List Int):List Int->Bool
 |[]=>true|a::l=>(decide (0<=a)&&decide (a<=n-1))&&(!(i==a)&&(!(pre.any (λb=>a==b))&&tR n i (pre++[a]) l))
theorem ajO {dx:AV}{n:Nat}{l:List Int}{lx:AV}{g:Nat}{i:Int}(hn:n<=100000)(hl:l.length<=100000)(xL:aG dx=some (zi n)):∀(r:List Int) (k:Nat) (H:Hp) (j4:K.Fn 0),k<=l.length->l.drop k=r->Rw H 1 lx (ints l)->cellAt H g 0=some dx->
  WN JN GO cK j4 (zi i) lx (.ptr g 0) lx (zi (l.length:Nat)) (zi (k:Nat)) H=if tR n i (l.take k) r then j4 H else some (.bool false,H)
 |[],k,H,j4,hk,h,gB,hg=>by obtain rfl:=drop_nil hk h;rw[aju];simp only[Im,dA,tR,if_true,zz0,simprocAttr]
 |a::r,k,H,j4,hk,h,gB,hg=>by
  obtain⟨h1,h2,h3⟩:=dU h;obtain⟨q,q1,q2⟩:=gB.gh (Dw h2) .i64;have es:=dD h1 zzz;have ih:=ajO (i:=i) hn hl xL r (k+1) H j4 h1 h3 gB hg;have tM:l.take (k+1)=l.take k++[a]:=by rw[ai6,h2];rfl
  rw[tM] at ih;have e1:IntKind.wrap .i64 ((n:Int)-1)=(n:Int)-1:=wrap_i64 zzz zzz;obtain⟨xc,s1,s2,s3⟩:=Ar (n:=l.length) gB (by rw[mX,adV]) zzx (a:=0) (b:=k) (lo:=none) (hi:=some (zi (k:Nat))) (abg _) hk (Bd.no 0) (Bd.yes _ _ _);have om:((ints l).drop (0*1)).take ((k-0)*1)=ints (l.take k):=by simp[ints,List.map_take]
  rw[om] at s2;have nY:=ayG s2 (by rw[ad9];omega) a;rw[aju];unfold tR;cases c1:(decide (0<=a)&&decide (a<=(n:Int)-1)) with
  |false=>simp(disch:=try exact zqz)only[Im,aQ h1,q1,q2,hg,xL,e1,tj,c1,acn,aa4,if_false,ar,aq,zz0,simprocAttr]|true=>
   cases c2:(a==i) with
   |true=>
    have G9:(i==a)=true:=by rw[zz6] at c2⊢;exact c2.symm
    simp(disch:=try exact zqz)only[Im,aQ h1,q1,q2,hg,xL,e1,tj,c1,c2,G9,alv,acn,Bool.and_false,aa4,if_false,ar,aq,zz0,simprocAttr]
   |false=>
    have G9:(i==a)=false:=by rw[<-ahP,zz6] at c2⊢;exactλe=>c2 e.symm
    cases c3:((l.take k).any (λb=>a==b)) with
    |true=>simp(disch:=try exact zqz)only[Im,aQ h1,q1,q2,hg,xL,e1,tj,c1,c2,G9,s1,nY,c3,alv,al6,acn,Bool.and_false,acy,aa4,if_false,ar,aq,zz0,simprocAttr]|false=>simp(disch:=try exact zqz)only[Im,aQ h1,q1,q2,hg,xL,e1,tj,c1,c2,G9,s1,nY,c3,es,ih,al6,acy,ar,aq,zz0,simprocAttr]
theorem auw {n:Nat}{l:List Int}{lx:AV}(hn:n<=100000)(hl:l.length<=100000)(xL:aG dx=some (zi n))(eU:aW dx=true)(gB:Rw H 1 lx (ints l)):
  cK (zf 124) [dv dx,zi i,lx] H=some (.bool (tR n i [] l),al H [dx] 72 0):=by
 refine aBO ?_;have mr:=gB.gX;rw[mX] at mr;have h1:=λj4=>ajO (i:=i) (g:=H.next) hn hl xL l 0 (al H [dx] 72 0) j4 (abg _) aaM (gB.au (aD _ _ _ _)) (Bw rfl);rw[show (((0:Nat):Int))=0 from rfl,akd] at h1;unfold acY;simp(disch:=try exact zqz)only[mr,h1,ar,aq,zz0,simprocAttr];cases tR n i [] l<;>rfl
theorem aHt {n p:Nat}{t:Tk}{x:AV}(hn:n<=100000)(hl:t.after.length<=100000)(xL:aG dx=some (zi n))(eU:aW dx=true)(hp:cellAt H p 0=some dx)(iS:p<H.next)(hx:Rw H 1 x (ints t.after)):
  ∃H',cK (.func (.func 123) [] [.ptr p 0]) [zi i,.agg (aJ t x)] H=some (.bool (!tR n i [] t.after),H')/\Out [] H H':=by
 have o1:=aD H (aJ t x) 99 0;have ha:=auw (i:=i) hn hl xL eU (hx.au o1);refine⟨al (al H (aJ t x) 99 0) [dx] 72 0,auC ?_,o1.trans (aD _ _ _ _)⟩;obtain⟨e0,e1,e2,e3,e4,e5⟩:=uZ t x;have hc:av H p 0 1=some [dx]:=by unfold av av;rw[hp];rfl
 unfold aiQ;simp(disch:=try exact zqz)only[xj,hc,e1,ha,ar,aq,zz0,simprocAttr]
end
theorem af2 {S:List Nat}{p:Nat->Bool}{dx fv:AV}{xs:List AV}{ts:List Tk}(I:Nat->Hp->Prop)(hn:ts.length<=100000)(hS:∀j∈mZ dx xs,j∉S)
  (hI:∀i H H',I i H->Out [] H H'->I i H')
  (hp:∀i t x H,ts[i]?=some t->xs[i]?=some x->RD H dx xs ts->I i H->∃H',cK fv [zi (i:Nat),.agg (aJ t x)] H=some (.bool (p i),H')/\Out S H H'/\(p i=false->I (i+1) H')):
  ∀(r:List Tk) (i:Nat) (H:Hp),i<=ts.length->ts.drop i=r->RD H dx xs ts->I i H->
  ∃H',(∀k:K.Fn 0,Vy JN GO cK k fv dx (zi (ts.length:Nat)) (zi (i:Nat)) H=if (List.range' i r.length).any p then some (.bool true,H') else k H')/\Out S H H'/\((List.range' i r.length).any p=false->I ts.length H')
 |[],i,H,hi,h,hR,Wh=>by obtain rfl:=drop_nil hi h;refine⟨H,λk=>?_,Out.refl _ _,λ_=>Wh⟩;rw[Wm];simp only[To,dA,acj,List.range'_zero,List.any_nil,aa4,if_false,zz0,simprocAttr]
 |t::r,i,H,hi,h,hR,Wh=>by
  obtain⟨h1,h2,h3⟩:=dU h;obtain⟨x,b,o,q0,q1,q2,q3,q4,q5,_⟩:=hR.at h2;have es:=dD h1 zzz;have o1:=aD H (aJ t x) 99 0;obtain⟨H1,c1,c2,c3⟩:=hp i t x _ h2 q0 (hR.au o1) (hI _ _ _ Wh o1);have o2:Out S H H1:=(o1.mono λj hj=>by cases hj).trans c2;have aC:=AX t x q1 H;have Pz:(List.range' i (t::r).length).any p=(p i||(List.range' (i+1) r.length).any p):=by rw[aau,anE,List.any_cons]
  rw[Pz];have Hd:=y9 t x;have htt:=ahG t x;cases ue:p i with
  |true=>
   refine⟨H1,λk=>?_,o2,λq=>by simp at q⟩;rw[ue] at c1;rw[Wm];simp(disch:=try exact zqz)only[To,aQ h1,q3,q5,aC,Hd,htt,c1,Bool.true_or,if_true,ar,aq,zz0,simprocAttr]
  |false=>
   rw[ue] at c1;obtain⟨H',i1,i2,i3⟩:=af2 I hn hS hI hp r (i+1) H1 h1 h3 (hR.out o2 hS) (c3 ue);refine⟨H',λk=>?_,o2.trans i2,λq=>i3 (by simpa using q)⟩;rw[Wm];simp(disch:=try exact zqz)only[To,aQ h1,q3,q5,aC,Hd,htt,c1,es,i1,ank,ar,aq,zz0,simprocAttr]
section
variable {H:Hp}{dx x:AV}{i:Nat}{l:List Int}{ts:List Tk}{xs:List AV}
theorem OV {S:List Nat}{p:Nat->Bool}{fv:AV}(I:Nat->Hp->Prop)(hn:ts.length<=100000)(hS:∀j∈mZ dx xs,j∉S)
  (hI:∀i H H',I i H->Out [] H H'->I i H')
  (hp:∀i t x H,ts[i]?=some t->xs[i]?=some x->RD H dx xs ts->I i H->∃H',cK fv [zi (i:Nat),.agg (aJ t x)] H=some (.bool (p i),H')/\Out S H H'/\(p i=false->I (i+1) H')) (hR:RD H dx xs ts) (h0:I 0 H):
  ∃H',cK (zf 125) [dv dx,fv] H=some (.bool ((List.range ts.length).any p),H')/\Out S H H':=by
 have o1:=aD H [dx] 72 0;obtain⟨H',i1,i2,_⟩:=af2 I hn hS hI hp ts 0 _ (abg _) aaM (hR.au o1) (hI _ _ _ h0 o1);rw[show (((0:Nat):Int))=0 from rfl,<-List.range_eq_range'] at i1;refine⟨H',awE ?_,(o1.mono λj hj=>by cases hj).trans i2⟩;have ir:=hR.aG;have eU:=hR.row.one;unfold afO;simp(disch:=try exact zqz)only[ir,i1,ar,aq,zz0,simprocAttr];cases (List.range ts.length).any p<;>rfl
def names (ts:List Tk):List Str:=ts.map (·.name)
def dup (ts:List Tk)(i:Nat):Bool:=match ts[i]? with|some t=>(names (ts.take i)).any (λs=>s==t.name)|none=>false
def Dr (l:List (Str×Nat)):List ME:=l.map λx=>⟨.str x.1,.bool true,x.2⟩
theorem JF {l:List (Str×Nat)}{s:Str}(h:∀x∈l,x.1≠s):∀e∈Dr l,∃q,e.key=.str q/\q≠s:=by intro e he;obtain⟨x,hx,rfl⟩:=abN.1 he;exact⟨_,rfl,h x hx⟩
def OZ (m q:Nat)(ts:List Tk)(i:Nat)(H:Hp):Prop:=∃el l c,Cs H q [.map m] el 0/\Mp H m (Dr l) c/\l.map (·.1)=names (ts.take i)/\q≠m/\(l.map (·.1)).Nodup
theorem aCz {m q:Nat}{t:Tk}(hI:OZ m q ts i H)(ht:ts[i]?=some t):
  ∃H',cK (.func (.func 121) [] [.ptr q 0]) [zi (i:Nat),.agg (aJ t x)] H=some (.bool (dup ts i),H')/\Out [m] H H'/\(dup ts i=false->OZ m q ts (i+1) H'):=by
 obtain⟨el,l,c,hq,hm,hl,aE,fN⟩:=hI;obtain⟨e0,e1,e2,e3,e4,e5⟩:=uZ t x;have o1:=aD H (aJ t x) 99 0;have Bc:=hq.out o1 zzy;have Dq:=hm.out o1 zzy;have hql:=hq.1;have hqc:cellAt H q 0=some (.map m):=hq.cellAt rfl;have aek:dup ts i=l.any (λy=>y.1==t.name):=by unfold dup;rw[ht];simp only;rw[<-hl,List.any_map];rfl
 rw[aek];have tM:names (ts.take (i+1))=names (ts.take i)++[t.name]:=by rw[ai6,ht];simp[names]
 cases hb:l.any (λy=>y.1==t.name) with
 |false=>
  have jc:∀y∈l,y.1≠t.name:=by intro y hy e;rw[aky] at hb;exact hb y hy (by simpa using e)
  have Lw:=acs Dq (JF jc) (.bool false) false;obtain⟨H',u1,u2,u3⟩:=alA Dq (JF jc) (.bool true);refine⟨H',ajU ?_,(o1.mono λj hj=>by cases hj).trans u3,λ_=>⟨el,l++[(t.name,c)],c+1,Bc.out u3 (by rw[No];exact aE),by simpa[Dr] using u2,by rw[acZ,hl,tM];rfl,aE,by rw[acZ,aet];refine⟨fN,zzy,λp hp r hr e=>?_⟩;obtain⟨y,hy,rfl⟩:=abN.1 hp;simp at hr;exact jc y hy (e.trans hr)⟩⟩;simp only[cond_false] at Lw;unfold WY;simp(disch:=try exact zqz)only[xj,hqc,e0,Lw,u1,ar,aq,zz0,simprocAttr]
 |true=>
  rw[List.any_eq_true] at hb;obtain⟨y,hy,hye⟩:=hb;have hye:y.1=t.name:=by simpa using hye
  have aD1:∃a z b,l=a++z::b/\z.1=t.name/\∀w∈a,w.1≠t.name:=by
   clear hm Dq hl aek fN;induction l with
   |nil=>cases hy
   |cons w l ih=>
    by_cases hw:w.1=t.name;·exact⟨[],w,l,rfl,hw,λ_ h=>by cases h⟩
    ·rcases aal.1 hy with rfl|hy;·exact absurd hye hw
     ·obtain⟨a,z,b,rfl,h2,h3⟩:=ih hy;refine⟨w::a,z,b,rfl,h2,λv hv=>?_⟩;rcases aal.1 hv with rfl|hv;·exact hw
      ·exact h3 v hv
  obtain⟨a,z,b,rfl,hz,ha⟩:=aD1;have mJ:Dr (a++z::b)=Dr a++⟨.str z.1,.bool true,z.2⟩::Dr b:=by simp[Dr]
  rw[mJ] at Dq;have mN:∀w∈b,w.1≠t.name:=by intro w hw e;rw[acZ,abo,aet,ajD] at fN;exact fN.2.1.1 (abN.2 ⟨w,hw,e.trans hz.symm⟩)
  have Lw:=aiW (k:=t.name) Dq (by rw[hz]) (JF ha) (JF mN) (.bool false) false;obtain⟨H',u1,u2,u3⟩:=avS (k:=t.name) Dq (by rw[hz]) (JF ha) (JF mN) (.bool true);refine⟨H',ajU ?_,(o1.mono λj hj=>by cases hj).trans u3,λq=>by cases q⟩;simp only[cond_false] at Lw;unfold WY;simp(disch:=try exact zqz)only[xj,hqc,e0,Lw,u1,ar,aq,zz0,simprocAttr]
theorem gAE (a b c d:AV):gA P .eql 231 false (.agg [a,b]) (.agg [c,d])=true:=zzw
theorem aFE (e f:Ed)(H:Hp):fV P .eql 231 (.agg (bY e)) (.agg (bY f)) H=some (.bool (decide (e=f))):=by
 have h:=eqE e.1 e.2 f.1 f.2 48 H;have h2:((((e.1:Nat):Int)==((f.1:Nat):Int))&&(((e.2:Nat):Int)==((f.2:Nat):Int)))=decide (e=f):=by
  by_cases q:e=f;·subst q;simp
  ·rw[zz4 q,<-ahP,aam,zz6,zz6];intro z;exact q (Prod.ext (by have:=z.1;omega) (by have:=z.2;omega))
 rw[h2] at h;unfold fV;show (eL P 50 _ (.agg (bY e)) (.agg (bY f)) H).map AV.bool=_;have:eL P 50 231 (.agg (bY e)) (.agg (bY f)) H=some (decide (e=f)):=h;rw[this];rfl
theorem adO {x:AV}{E:List Ed}{e:Ed}{b:Nat}{H:Hp}(hx:RL H 2 x (lV E))(hl:E.length<=16777216)(hb:av H b 0 2=some (bY e))(jc:e∉E)(k:K.Fn 0):∀(r:List Ed) (i:Nat),i<=E.length->E.drop i=r->
  aar JN GO cK k x (.ptr b 0) (zi (E.length:Nat)) (zi (i:Nat)) H=k H
 |[],i,hi,h=>by obtain rfl:=drop_nil hi h;rw[alT];simp only[XU,dA,zz0,simprocAttr]
 |f::r,i,hi,h=>by obtain⟨h1,h2,h3⟩:=dU h;obtain⟨c,o,q1,q2,q3,q4,_⟩:=hx.at zzx (Zp h2);have es:=dD h1 hl;have ih:=adO hx hl hb jc k r (i+1) h1 h3;have hd:decide (e=f)=false:=zz4 λq=>jc (q▸aab h2);have hg:gA P .eql 231 false (.agg (bY e)) (.agg (bY f))=true:=gAE _ _ _ _;have OT:=aFE e f H;rw[hd] at OT;have Eh:av H c o 2=some (bY f):=q4;rw[alT];simp(disch:=try exact zqz)only[XU,aQ h1,hb,q1,Eh,hg,OT,nw,es,ih,ar,aq,zz0,simprocAttr]
theorem avG {E:List Ed}{e:Ed}(hx:RL H 2 x (lV E))(hl:E.length<=16777216)(jc:e∉E):
  ∃H',cK (zf 158) [x,.agg (bY e)] H=some (.bool false,H')/\Out [] H H':=by
 have o1:=aD H (bY e) 231 0;have o2:=o1.al (bY e) 231 0;have aO:∀H:Hp,bx 231 (.agg (bY e)) H=some (H.next,al H (bY e) 231 0):=λH=>iz (by show 2<=_;omega);have hlen:(bY e).length=2:=rfl;have tM:(bY e).take 2=bY e:=rfl;have pK:cK (zf 177) [x,.agg (bY e)] (al H (bY e) 231 0)=some (zi (-1),al (al H (bY e) 231 0) (bY e) 231 0):=by refine aAu ?_;have dC:=(hx.au o2).len zzx;rw[QF] at dC;have h1:=adO (b:=H.next+1) (hx.au o2) hl (Oc (by rw[bS]) (by rw[hlen];omega)) jc (λh=>some (zi (-1),h)) E 0 (abg _) aaM;rw[show (((0:Nat):Int))=0 from rfl] at h1;unfold agT;simp(disch:=try exact zqz)only[aO,dC,h1,ar,aq,zz0,simprocAttr]
 refine⟨_,aD3 ?_,o2⟩;unfold ant;have d:decide ((0:Int) <= -1)=false:=zzx;simp(disch:=try exact zqz)only[aO,hlen,tM,pK,d,ar,aq,zz0,simprocAttr]
def vt (i:Nat)(l:List Int):List Ed:=l.map λa=>(a.toNat,i)
def kW (i:Nat):List Tk->List Ed
 |[]=>[]|t::r=>vt i t.after++kW (i+1) r
theorem aCN (ts us:List Tk):∀i,kW i (ts++us)=kW i ts++kW (i+ts.length) us:=by
 induction ts with
 |nil=>intro i;rfl|cons t ts ih=>intro i;simp only[List.cons_append,kW,ih,abC,aau];rw[show i+1+ts.length=i+(ts.length+1) by omega]
theorem YD {t:Tk}(ht:ts[i]?=some t):kW 0 (ts.take (i+1))=kW 0 (ts.take i)++vt i t.after:=by have hi:=(aac.1 ht).1;rw[ai6,ht];show kW 0 (ts.take i++[t])=_;rw[aCN,ad9,amM zzz,adn];simp[kW]
theorem ajv:∀{i:Nat} {e:Ed},e∈kW i ts->i<=e.2/\e.2<i+ts.length:=by
 induction ts with
 |nil=>intro i e h;cases h
 |cons t ts ih=>
  intro i e h;simp only[kW,aaQ] at h;rcases h with h|h;·obtain⟨a,_,rfl⟩:=abN.1 h;simp
  ·have:=ih h;simp only[aau];omega
def yI (ts:List Tk):Prop:=∀(i:Nat) (t:Tk),ts[i]?=some t->tR ts.length i [] t.after=true
theorem agR {n i:Int}{pre:List Int}{a:Int}(h:tR n i pre (a::l)=true):0<=a/\a<=n-1/\a≠i/\a∉pre/\tR n i (pre++[a]) l=true:=by unfold tR at h;simp only[aam,zz5,akk,aky,zz6,zz8] at h;obtain⟨⟨h1,h2⟩,h3,h4,h5⟩:=h;exact⟨h1,h2,λe=>h3 e.symm,λq=>h4 a q rfl,h5⟩
theorem aja {dx:AV}{n i:Nat}{E0:List Ed}{D R g:Nat}{l:List Int}{lx:AV}(hn:n<=16)(jv:i<n)(xL:aG dx=some (zi n))(hE0:∀e∈E0,e.2<i)(apX:E0.length<=10000)(mr:l.length<=16)(Je:D≠g):
  ∀(r:List Int) (k:Nat) (H:Hp) (ex:AV) (c5 c6 c7:AV),k<=l.length->l.drop k=r->tR n i (l.take k) r=true->(∀b∈l.take k,(0:Int)<=b)->Rw H 1 lx (ints l)->cellAt H D 0=some dx->D<H.next->Cs H g [zi n,ex] 201 0->OL H 231 2 ex (lV (E0++vt i (l.take k)))->(∀j∈ak ex,j∉ak lx/\j≠D/\j≠g)->g∉ak lx->
  ∃yZ H' S,(∀(aK:K.Fn 2) (fA mw:K.Fn 6),Ny JN GO cK aK fA mw (.ptr D 0) (.ptr R 0) (.ptr g 0) (zi i) c5 c6 c7 lx (zi (l.length:Nat)) (zi (k:Nat)) H=mw (.ptr D 0) (.ptr R 0) (.ptr g 0) c5 c6 c7 H')/\Cs H' g [zi n,yZ] 201 0/\OL H' 231 2 yZ (lV (E0++vt i l))/\Out S H H'/\(∀j∈S,j=g\/j∈ak ex\/H.next<=j)/\∀j∈ak yZ,j∈ak ex\/H.next<=j
 |[],k,H,ex,c5,c6,c7,hk,h,ha,lZ,gB,hD,Af,hg,hO,hd,Cq=>by obtain rfl:=drop_nil hk h;refine⟨ex,H,[],λaK fA mw=>?_,hg,by rw[ae2 (aaq _)] at hO;exact hO,Out.refl _ _,(λj hj=>by cases hj),λj hj=>.inl hj⟩;rw[af9];simp only[TW,dA,zz0,simprocAttr]
 |a::r,k,H,ex,c5,c6,c7,hk,h,ha,lZ,gB,hD,Af,hg,hO,hd,Cq=>by
  obtain⟨h1,h2,h3⟩:=dU h;obtain⟨q,q1,q2⟩:=gB.gh (Dw h2) .i64;have es:=dD h1 zzz;obtain⟨a0,a1,a2,a3,a4⟩:=agR ha;obtain⟨m,rfl⟩:∃m:Nat,a=m:=⟨a.toNat,zzz⟩;have tM:l.take (k+1)=l.take k++[(m:Int)]:=by rw[ai6,h2];rfl
  have hEk:(vt i (l.take k)).length<=16:=by simp[vt];omega
  have jc:((m,i):Ed)∉E0++vt i (l.take k):=by
   intro q;rcases aaQ.1 q with q|q;·have:=hE0 _ q;simp at this
   ·obtain⟨b,hb,he⟩:=abN.1 q;have ja:=lZ b hb;have:b.toNat=m:=congrArg Prod.fst he;exact a3 (by rw[show ((m:Nat):Int)=b by omega];exact hb)
  have o1:=aD H (bY (m,i)) 231 0;obtain⟨H1,c1,c2⟩:=avG (hO.rl.au o1) (by rw[aah];omega) jc;have o2:Out [] H H1:=o1.trans c2;have jo:=c2.nx;rw[bS] at jo;have wq:=hg.out o2 zzy;have IX:cellAt H g 1=some ex:=hg.cellAt rfl;have az1:cellAt H1 g 1=some ex:=wq.cellAt rfl;have aIZ:=hg.1;have UD:av H1 H.next 0 2=some (bY (m,i)):=by rw[c2.av (by rw[bS];omega) zzy];exact Oc rfl (by show 0+2<=2;omega)
  obtain⟨FR,H2,p1,p2,p3,p4,p5⟩:=(hO.out o2 zzy).push (el2:=231) (z:=[(zi 0),(zi 0)]) (vs:=bY (m,i)) rfl rfl zzx (by rw[QF,aah];omega);have uG:lV (E0++vt i (l.take k))++[bY (m,i)]=lV (E0++vt i (l.take (k+1))):=by rw[tM];simp[lV,vt]
  rw[uG] at p2;have mS:=wq.out p3 λq=>(hd g q).2.2 rfl;obtain⟨H3,w1,w2,w3,w4⟩:=eV mS zzx (o:=1) zzy (v:=FR) p5;have FX:=p3.nx;have Vc:=gB.lt;have jX:∀j∈ak FR,j∉ak lx/\j≠D/\j≠g:=λj hj=>(p4 j hj).elim (hd j) λz=>⟨λy=>by have:=Vc j y;omega,zzz,zzz⟩;have o3:Out (g::ak ex) H H3:=((o2.mono λj hj=>by cases hj).trans (p3.mono λj hj=>.tail _ hj)).trans (w3.mono λj hj=>by rw[No] at hj;subst hj;exact .head _);have Fp:cellAt H3 D 0=some dx:=by rw[o3.cellAt Af (by rw[aal,not_or];exact⟨Je,λq=>(hd D q).2.1 rfl⟩)];exact hD
  have hn4:=o3.nx;obtain⟨yZ,H',S,i1,i2,i3,i4,i5,i6⟩:=aja (R:=R) hn jv xL hE0 apX mr Je r (k+1) H3 FR c5 c6 c7 h1 h3 (by rw[tM];exact a4) (by rw[tM];intro b hb;rcases aaQ.1 hb with hb|hb;exact lZ b hb;rw[No] at hb;omega)
   (gB.out o3 λj hj=>by rw[aal,not_or];exact⟨λe=>Cq (e▸hj),λq=>(hd j q).1 hj⟩) Fp zzz w2 (p2.out w3 λj hj=>by rw[No];exact (jX j hj).2.2) jX Cq
  have key:∀j∈ak FR,j∈ak ex\/H.next<=j:=λj hj=>(p4 j hj).imp id λz=>zzz;refine⟨yZ,H',(g::ak ex)++S,λaK fA mw=>?_,i2,i3,(o3.mono λj hj=>aaG _ hj).trans (i4.mono λj hj=>aaw _ hj),λj hj=>?_,λj hj=>(i6 j hj).elim (key j) λz=>.inr zzz⟩
  ·have e1:IntKind.wrap .i64 ((n:Int)-1)=(n:Int)-1:=wrap_i64 zzz zzz;have d1:(decide ((0:Int)<=(m:Int))&&decide ((m:Int)<=(n:Int)-1))=true:=by rw[aam];exact⟨zz3 a0,zz3 a1⟩
   have d2:(((m:Nat):Int) != ((i:Nat):Int))=true:=by simp;omega
   have nN:fl [(zi 0),(zi 0)] [(0,1,zi (m:Int)),(1,1,zi (i:Int))]=some (bY (m,i)):=rfl;have Ia:fl [(zi 0),(zi 0)] [(0,2,.agg (bY (m,i)))]=some (bY (m,i)):=rfl;have Bz:st 2 (.ptr H.next 0) (.agg (bY (m,i))) (al H [zi 0,zi 0] 231 0)=some (al H (bY (m,i)) 231 0):=gy rfl rfl rfl zzx rfl;have rm:(bY (m,i)).length=2:=rfl;have aDC:(bY (m,i)).take 2=bY (m,i):=rfl;have cB:aA H1 (bY (m,i)) 231 0=some (H1.next,al H1 (bY (m,i)) 231 0):=eA (by rw[rm];omega);have fX:=p1 _ rfl;rw[af9];simp(disch:=try exact zqz)only[TW,aQ h1,q1,q2,nN,Ia,Bz,rm,aDC,hD,xL,e1,tj,d1,d2,IX,az1,c1,UD,cB,fX,w1,es,i1,ar,aq,zz0,simprocAttr]
  ·rcases aaQ.1 hj with hj|hj
   ·rcases aal.1 hj with rfl|hj;·exact .inl rfl
    ·exact .inr (.inl hj)
   ·rcases i5 j hj with z|z|z;·exact .inl z
    ·exact .inr (key j z)
    ·exact .inr (.inr zzz)
theorem aki {dx:AV}{xs:List AV}{ts:List Tk}{D R g:Nat}(hn:ts.length<=16)(dd:∀t∈ts,t.after.length<=16)(ha:yI ts)(Je:D≠g)(UX:g∉mZ dx xs):
  ∀(r:List Tk) (i:Nat) (H:Hp) (ex:AV),i<=ts.length->ts.drop i=r->RD H dx xs ts->cellAt H D 0=some dx->D<H.next->Cs H g [zi (ts.length:Nat),ex] 201 0->OL H 231 2 ex (lV (kW 0 (ts.take i)))->(kW 0 (ts.take i)).length<=i*16->(∀j∈ak ex,j∉mZ dx xs/\j≠D/\j≠g)->
  ∃yZ H' S,(∀aK:K.Fn 2,YN JN GO cK aK (.ptr D 0) (.ptr R 0) (.ptr g 0) dx (zi (ts.length:Nat)) (zi (i:Nat)) H=aK (.ptr R 0) (.ptr g 0) H')/\Cs H' g [zi (ts.length:Nat),yZ] 201 0/\OL H' 231 2 yZ (lV (kW 0 ts))/\Out S H H'/\(∀j∈S,j=g\/j∈ak ex\/H.next<=j)/\∀j∈ak yZ,j∈ak ex\/H.next<=j
 |[],i,H,ex,hi,h,hR,hD,Af,hg,hO,hlen,hd=>by obtain rfl:=drop_nil hi h;refine⟨ex,H,[],λaK=>?_,hg,by rw[ae2 (aaq _)] at hO;exact hO,Out.refl _ _,(λj hj=>by cases hj),λj hj=>.inl hj⟩;rw[ae5];simp only[U2,dA,zz0,simprocAttr]
 |t::r,i,H,ex,hi,h,hR,hD,Af,hg,hO,hlen,hd=>by
  obtain⟨h1,h2,h3⟩:=dU h;obtain⟨x,b,o,q0,q1,q2,q3,q4,q5,_⟩:=hR.at h2;have es:=dD h1 zzz;have hht:=dd t (aab h2);have o1:=aD H (aJ t x) 99 0;have hxf:∀j∈ak x,j∈mZ dx xs:=λj hj=>aaw _ (ae8.2 ⟨x,aab q0,hj⟩);have Cq:=hg.1;have L0:=hO.1.rw.lt;obtain⟨FR,H1,S1,i1,i2,i3,i4,i5,i6⟩:=aja (E0:=kW 0 (ts.take i)) (R:=R) (D:=D) (g:=g) hn h1 hR.aG (λe he=>by have:=ajv he;rw[ad9] at this;omega) zzz hht Je t.after 0 _ ex dx (zi (ts.length:Nat)) (zi (i:Nat)) (abg _) aaM (by rw[akd];exact ha i t h2) (by intro b hb;rw[akd] at hb;cases hb) (q2.au o1) (by rw[xE Af];exact hD) (by rw[bS];omega) (hg.out o1 zzy) (by rw[akd];simpa[vt] using hO.out o1 zzy) (λj hj=>⟨λz=>(hd j hj).1 (hxf j z),(hd j hj).2⟩) (λz=>UX (hxf g z));rw[<-YD h2] at i3;have ahb:(kW 0 (ts.take (i+1))).length<=(i+1)*16:=by rw[YD h2,aah];simp[vt];omega
  have nN:=hR.lt;have U1:∀j∈S1,j=g\/j∈ak ex\/H.next<=j:=λj hj=>by
   rcases i5 j hj with z|z|z;·exact .inl z
   ·exact .inr (.inl z)
   ·rw[bS] at z;exact .inr (.inr zzz)
  have key:∀j∈ak FR,j∈ak ex\/H.next<=j:=λj hj=>(i6 j hj).imp id λz=>by rw[bS] at z;omega
  have o2:Out S1 H H1:=(o1.mono λj hj=>by cases hj).trans i4;have jo:=o2.nx;have hfS:∀j∈mZ dx xs,j∉S1:=λj hj z=>by
   rcases U1 j z with rfl|y|y;·exact UX hj
   ·exact (hd j y).1 hj
   ·have:=nN j hj;omega
  have hDS:D∉S1:=λz=>by
   rcases U1 D z with y|y|y;·exact Je y
   ·exact (hd D y).2.1 rfl
   ·omega
  obtain⟨yZ,H',S,k1,k2,k3,k4,k5,k6⟩:=aki (R:=R) hn dd ha Je UX r (i+1) H1 FR h1 h3 (hR.out o2 hfS) (by rw[o2.cellAt Af hDS];exact hD) zzz i2 i3 ahb (λj hj=>(key j hj).elim (hd j) λz=>⟨λy=>by have:=nN j y;omega,zzz,zzz⟩);refine⟨yZ,H',S1++S,λaK=>?_,k2,k3,(o2.mono λj hj=>aaG _ hj).trans (k4.mono λj hj=>aaw _ hj),λj hj=>?_,λj hj=>(k6 j hj).elim (key j) λz=>.inr zzz⟩;·have aC:=AX t x q1 H;obtain⟨e0,e1,e2,e3,e4,e5⟩:=uZ t x;have hl:=q2.gX;rw[mX] at hl;rw[show (((0:Nat):Int))=0 from rfl] at i1;rw[ae5];simp(disch:=try exact zqz)only[U2,aQ h1,q3,q5,aC,e1,hl,i1,es,k1,ar,aq,zz0,simprocAttr]
  ·rcases aaQ.1 hj with hj|hj;·exact U1 j hj
   ·rcases k5 j hj with z|z|z;·exact .inl z
    ·exact .inr (key j z)
    ·exact .inr (.inr zzz)
theorem arO (hn:ts.length<=16)(dd:∀t∈ts,t.after.length<=16)(ha:yI ts)(hR:RD H dx xs ts):
  ∃ex H',cK (zf 127) [dv dx] H=some (gv ts.length ex,H')/\RL H' 2 ex (lV (kW 0 ts))/\Out [] H H'/\∀j∈ak ex,H.next<=j:=by
 have eU:=hR.row.one;have ir:=hR.aG;have nN:=hR.lt;have o1:=aD H [dx] 72 0;have o2:=o1.al [zi 0,.ah] 201 0;have o3:=o2.al [zi (ts.length:Nat),.ah] 201 0;have c3:=aP (al (al H [dx] 72 0) [zi 0,.ah] 201 0) [zi (ts.length:Nat),.ah] 201 0;have c2:=(aP (al H [dx] 72 0) [zi 0,.ah] 201 0).out (aD (al (al H [dx] 72 0) [zi 0,.ah] 201 0) [zi (ts.length:Nat),.ah] 201 0) zzy;have hD:cellAt (al (al (al H [dx] 72 0) [zi 0,.ah] 201 0) [zi (ts.length:Nat),.ah] 201 0) H.next 0=some dx:=by rw[xE (by rw[bS,bS];omega),xE (by rw[bS];omega),Bw rfl];rfl
 obtain⟨ex,H1,S,i1,i2,i3,i4,i5,i6⟩:=aki (D:=H.next) (R:=H.next+1) (g:=H.next+2) hn dd ha zzz (λz=>by have:=nN _ z;omega) ts 0 _ .ah (abg _) aaM (hR.au o3) hD (by rw[bS,bS,bS];omega) c3 (by rw[akd];exact OL.nil _ _ _) (by rw[akd];simp[kW]) (λj hj=>by cases hj);have lJ:(al (al (al H [dx] 72 0) [zi 0,.ah] 201 0) [zi (ts.length:Nat),.ah] 201 0).next=H.next+3:=rfl;have hS:∀j∈S,j=H.next+2\/H.next+3<=j:=λj hj=>by
  rcases i5 j hj with z|z|z;·exact .inl z
  ·cases z
  ·exact .inr zzz
 have lI:=i4.nx;have CG:Cs H1 (H.next+1) [zi 0,.ah] 201 0:=c2.out i4 λz=>by have:=hS _ z;rw[bS] at this;omega
 have apJ:=i3.1.lg;obtain⟨H2,w1,w2,w3,w4⟩:∃H2,st 2 (.ptr (H.next+1) 0) (.agg [zi (ts.length:Nat),ex]) H1=some H2/\Cs H2 (H.next+1) [zi (ts.length:Nat),ex] 201 0/\Out [H.next+1] H1 H2/\H2.next=H1.next:=by obtain⟨Ha,a1,a2,a3,a4⟩:=We CG zzx (o:=0) zzx (v:=zi (ts.length:Nat)) rfl;obtain⟨Hb,b1,b2,b3,b4⟩:=We a2 zzx (o:=1) zzy (v:=ex) apJ;refine⟨Hb,?_,b2,a3.trans b3,by rw[b4,a4]⟩;unfold st;simp only[HA];show setCells H1 (H.next+1) 0 [zi (ts.length:Nat),ex]=_;simp only[setCells,a1,b1,abY,acf]
 have hrx:∀j∈ak ex,H.next+3<=j:=λj hj=>(i6 j hj).elim (λz=>by cases z) λz=>zzz;refine⟨ex,H2,asM ?_,(i3.rl).out w3 λj hj=>by rw[No];have:=hrx j hj;omega,(o3.then i4 λj hj=>.inr (by have:=hS j hj;omega)).then w3 λj hj=>by rw[No] at hj;exact .inr zzz,λj hj=>by have:=hrx j hj;omega⟩;have Ia:fl [zi 0,.ah] [(0,1,zi (ts.length:Nat))]=some [zi (ts.length:Nat),.ah]:=rfl;have mS:av H1 (H.next+2) 0 2=some [zi (ts.length:Nat),ex]:=i2.av 2 0 zzy;have rJ:av H2 (H.next+1) 0 2=some [zi (ts.length:Nat),ex]:=w2.av 2 0 zzy;have Bz:st 2 (.ptr (H.next+2) 0) (.agg [zi (ts.length:Nat),.ah]) (al (al (al H [dx] 72 0) [zi 0,.ah] 201 0) [zi 0,.ah] 201 0)=some (al (al (al H [dx] 72 0) [zi 0,.ah] 201 0) [zi (ts.length:Nat),.ah] 201 0):=gy rfl rfl rfl zzx rfl;rw[show (((0:Nat):Int))=0 from rfl] at i1;unfold aok;simp(disch:=try exact zqz)only[ir,Ia,Bz,i1,mS,w1,rJ,ar,aq,zz0,simprocAttr]
theorem Dp {t:Tk}(ha:yI ts)(ht:ts[i]?=some t):(∀a∈t.after,0<=a/\a<=(ts.length:Int)-1/\a≠(i:Int))/\t.after.Nodup:=by
 have key:∀(l pre:List Int),tR ts.length i pre l=true->(∀a∈l,0<=a/\a<=(ts.length:Int)-1/\a≠(i:Int)/\a∉pre)/\l.Nodup:=by
  intro l;induction l with
  |nil=>intro pre _;exact⟨(λa ha=>by cases ha),anq⟩|cons a l ih=>
   intro pre h;obtain⟨a0,a1,a2,a3,a4⟩:=agR h;obtain⟨i1,i2⟩:=ih _ a4;refine⟨λb hb=>?_,ajD.2 ⟨λq=>(i1 a q).2.2.2 zzy,i2⟩⟩;rcases aal.1 hb with rfl|hb;·exact⟨a0,a1,a2,a3⟩
   ·obtain⟨x1,x2,x3,x4⟩:=i1 b hb;exact⟨x1,x2,x3,λq=>x4 (aaG _ q)⟩
 obtain⟨k1,k2⟩:=key _ _ (ha i t ht);exact⟨λa h=>⟨(k1 a h).1,(k1 a h).2.1,(k1 a h).2.2.1⟩,k2⟩
theorem ZX:∀(n:Nat) (l:List Nat),l.Nodup->(∀a∈l,a<n)->l.length<=n
 |0,l,_,h=>by
  cases l with
  |nil=>exact aaq _|cons a l=>have:=h a (.head _);omega
 |n+1,l,hn,h=>by
  by_cases hm:n∈l
  ·have h1:=ZX n (l.erase n) (hn.erase n) λa ha=>by rw[hn.mem_erase_iff] at ha;have:=h a ha.2;omega
   rw[List.length_erase_of_mem hm] at h1;omega
  ·have h1:=ZX n l hn λa ha=>by have:=h a ha;have:a≠n:=λe=>hm (e▸ha);omega
   omega
theorem Pe {n:Nat}(h:∀a∈l,0<=a/\a<=(n:Int)-1)(hn:l.Nodup):l.length<=n:=by
 have h1:(l.map Int.toNat).Nodup:=by rw[List.nodup_iff_pairwise_ne,List.pairwise_map];refine (List.nodup_iff_pairwise_ne.1 hn).imp_of_mem ?_;intro a b ha hb Az e;have:=h a ha;have:=h b hb;omega
 have:=ZX n _ h1 λm hm=>by obtain⟨a,ha,rfl⟩:=abN.1 hm;have:=h a ha;omega
 simpa using this
theorem aqX (hn:ts.length<=16)(ha:yI ts):sK ts.length (kW 0 ts):=by
 have key:∀(k:Nat),k<=ts.length->(∀e∈kW 0 (ts.take k),e.1<ts.length/\e.2<ts.length/\e.1≠e.2)/\(kW 0 (ts.take k)).Nodup/\(kW 0 (ts.take k)).length<=k*16:=by
  intro k;induction k with
  |zero=>intro _;rw[akd];exact⟨(λe he=>by cases he),anq,abg _⟩|succ k ih=>
   intro hk;obtain⟨i1,i2,i3⟩:=ih zzz;have ht:ts[k]?=some (ts[k]' zzz):=aai _;obtain⟨a1,a2⟩:=Dp ha ht;have hle:=Pe (n:=ts.length) (λa h=>⟨(a1 a h).1,(a1 a h).2.1⟩) a2;rw[YD ht];refine⟨λe he=>?_,aet.2 ⟨i2,?_,λe he f hf hef=>?_⟩,?_⟩
   ·rcases aaQ.1 he with he|he;·exact i1 e he
    ·obtain⟨a,h,rfl⟩:=abN.1 he;have:=a1 a h;exact⟨by simp;omega,by simp;omega,by simp;omega⟩
   ·unfold vt;rw[List.nodup_iff_pairwise_ne,List.pairwise_map];refine (List.nodup_iff_pairwise_ne.1 a2).imp_of_mem ?_;intro a b h1 h2 Az e;have e1:=congrArg Prod.fst e;have:=a1 a h1;have:=a1 b h2;simp only at e1;omega
   ·obtain⟨a,h,rfl⟩:=abN.1 hf;have:=ajv he;rw[ad9] at this;rw[hef] at this;simp at this;omega
   ·rw[aah];simp[vt];omega
 obtain⟨k1,k2,k3⟩:=key ts.length (aaq _);rw[ae2 (aaq _)] at k1 k2 k3;exact⟨hn,k1,k2,zzz⟩
end
noncomputable def p1 (ts:List Tk)(i:Nat):Bool:=match ts[i]? with|some t=>Bq t|none=>false
def p3 (ts:List Tk)(i:Nat):Bool:=match ts[i]? with|some t=>uL t|none=>false
def p4 (ts:List Tk)(i:Nat):Bool:=match ts[i]? with|some t=>!tR ts.length i [] t.after|none=>false
instance (N:Nat) (E:List Ed):Decidable (DW N E):=by unfold DW;infer_instance
noncomputable def jH (ts:List Tk):Int:=
 if ¬(1<=ts.length/\ts.length<=16) then 1
 else if (List.range ts.length).any (p1 ts) then 2
 else if (List.range ts.length).any (dup ts) then 5
 else if (List.range ts.length).any (p3 ts) then 1
 else if (List.range ts.length).any (p4 ts) then 1
 else if DW ts.length (kW 0 ts) then 0 else 7
theorem P5 {ts:List Tk}(h:(List.range ts.length).any (p4 ts)=false):yI ts:=by intro i t ht;have hi:=(aac.1 ht).1;rw[aky] at h;have:=h i (anm.2 hi);unfold p4 at this;rw[ht] at this;simpa using this
theorem tri:∀(i:Nat) (H H':Hp),True->Out [] H H'->True:=λ_ _ _ _ _=>trivial
abbrev nI:Nat:=194
theorem S6 {dx:AV}{xs:List AV}{ts:List Tk}{H:Hp}(hn:ts.length<=100000)(dd:∀t∈ts,t.after.length<=100000)(hR:RD H dx xs ts):
  ∃H',cK (zf 90) [dv dx] H=some (zi (jH ts),H')/\Out [] H H':=by
 have eU:=hR.row.one;have ir:=hR.aG;have nN:=hR.lt;have o1:=aD H [dx] 72 0;by_cases hr:¬(1<=ts.length/\ts.length<=16)
 ·refine⟨al H [dx] 72 0,I8 ?_,o1⟩;have d:(decide ((1:Int)<=(ts.length:Int))&&decide ((ts.length:Int)<=16))=false:=by rw[<-ahP,aam,zz5,zz5];omega
  unfold Ef jH;rw[zz2 hr];simp(disch:=try exact zqz)only[ir,tj,d,ar,aq,zz0,simprocAttr]
 have dH:=hr
 replace hr:1<=ts.length/\ts.length<=16:=ai8.1 hr
 have d:(decide ((1:Int)<=(ts.length:Int))&&decide ((ts.length:Int)<=16))=true:=by rw[aam,zz5,zz5];omega
 obtain⟨H2,m1,m2,m3,m4⟩:=TG (al H [dx] 72 0);rw[bS] at m1 m2 m4;have o2:Out [] H H2:=o1.trans m3;let L8:List AV:=[.func (.func 120) [] [],zi 2,.func (.func 121) [] [.ptr (H.next+2) 0],zi 5,.func (.func 122) [] [],zi 1,.func (.func 123) [] [.ptr H.next 0],zi 1];have jo:H2.next=H.next+2:=by rw[m4]
 have o3:=aD H2 [.map (H.next+1)] 192 0;have o4:=aD (al H2 [.map (H.next+1)] 192 0) L8 nI 0;have hC4:=aP (al H2 [.map (H.next+1)] 192 0) L8 nI 0;have ho4:Out [] H (al (al H2 [.map (H.next+1)] 192 0) L8 nI 0):=(o2.trans o3).trans o4;have asK:(al (al H2 [.map (H.next+1)] 192 0) L8 nI 0).next=H.next+4:=by rw[bS,bS,jo]
 have PJ:(al H2 [.map (H.next+1)] 192 0).next=H.next+3:=by rw[bS,jo]
 have K1:∀{H':Hp} {S:List Nat},Out S (al (al H2 [.map (H.next+1)] 192 0) L8 nI 0) H'->(∀j∈S,j=H.next+1)->cellAt H' H.next 0=some dx/\av H' H.next 0 1=some [dx]/\RD H' dx xs ts/\(∀k:Nat,k<4->∃a b,L8[k*2]?=some a/\L8[k*2+1]?=some b/\av H' (H.next+3) (k*2) 2=some [a,b]):=by
  intro H' S ho hS;have aE:∀j,j<H.next+4->j≠H.next+1->∀o,cellAt H' j o=cellAt (al (al H2 [.map (H.next+1)] 192 0) L8 nI 0) j o:=λj hj Ut o=>ho.cellAt (by rw[asK];exact hj) λq=>Ut (hS j q);have h0:cellAt H' H.next 0=some dx:=by rw[aE _ zzz zzz,xE (by rw[PJ];omega),xE (by rw[jo];omega),m3.cellAt (by rw[bS];omega) zzy,Bw rfl];rfl
  refine⟨h0,?_,(hR.au ho4).out ho λj hj q=>by have:=nN j hj;have:=hS j q;omega,λk hk=>?_⟩;·unfold av av;rw[h0];rfl
  ·have hL:L8.length=8:=rfl;have ha:L8[k*2]?=some (L8[k*2]'(by rw[hL];omega)):=aai _;have hb:L8[k*2+1]?=some (L8[k*2+1]'(by rw[hL];omega)):=aai _;refine⟨_,_,ha,hb,?_⟩;unfold av av av;rw[aE _ zzz zzz,aE _ zzz zzz,Bw PJ.symm,Bw PJ.symm,ha,hb];rfl
 have hm4:Mp (al (al H2 [.map (H.next+1)] 192 0) L8 nI 0) (H.next+1) (Dr []) 0:=(m2.out o3 zzy).out o4 zzy;have Zh:Cs (al (al H2 [.map (H.next+1)] 192 0) L8 nI 0) (H.next+2) [.map (H.next+1)] 192 0:=by have:=(aP H2 [.map (H.next+1)] 192 0).out o4 zzy;rw[jo] at this;exact this
 have ayg:∀(H':Hp) (a b:AV),aW a=true->aW b=true->st 2 (.ptr H'.next 0) (.agg [a,b]) (al H' [.nilFunc,zi 0] nI 0)=some (al H' [a,b] nI 0):=λH' a b ha hb=>gy (by simp[ha,hb]) rfl rfl zzx rfl;have one:∀(k:Nat) (z z':Int) (p:Nat->Bool) (e:Int) (fv:AV) (H':Hp) (H'':Hp),k<4->z=(k:Nat)->z'=(k+1:Nat)->L8[k*2]?=some fv->L8[k*2+1]?=some (zi e)->aW fv=true->
   av H' H.next 0 1=some [dx]->H.next+4<=H'.next->(∀a b,L8[k*2]?=some a->L8[k*2+1]?=some b->av H' (H.next+3) (k*2) 2=some [a,b])->
   cK (zf 125) [dv dx,fv] (al H' [fv,zi e] nI 0)=some (.bool ((List.range ts.length).any p),H'')->Out [H.next+1] (al H' [fv,zi e] nI 0) H''->
   ∀hJ:K.Fn 1,Ng JN GO cK hJ (.ptr H.next 0) (.slice (H.next+3) 0 4 4 true 2) (zi 4) (zi z) H'=if (List.range ts.length).any p then some (zi e,H'') else Ng JN GO cK hJ (.ptr H.next 0) (.slice (H.next+3) 0 4 4 true 2) (zi 4) (zi z') H'':=by
  intro k z z' p e fv H' H'' hk hz Ez ha hb hfv Gx hHn hl hs hos hJ;subst hz;subst Ez;have mr:=hl _ _ ha hb;have qg:ia 2 (.slice (H.next+3) 0 4 4 true 2) (zi (k:Nat))=some (.ptr (H.next+3) (k*2)):=by rw[DL hk];simp
  have aN:decide (((k:Nat):Int)<4)=true:=zz3 zzz;have es:IntKind.wrap .i64 ((k:Int)+1)=((k+1:Nat):Int):=by rw[wrap_i64 zzz zzz];rfl
  have aC:=ayg H' fv (zi e) hfv rfl;have he:cellAt H'' H'.next 1=some (zi e):=by rw[hos.cellAt (by rw[bS];omega) (by rw[No];omega),Bw rfl];rfl
  have cB:aA H' [.nilFunc,zi 0] nI 0=some (H'.next,al H' [.nilFunc,zi 0] nI 0):=eA zzy;rw[aex];cases Pz:(List.range ts.length).any p with
  |true=>
   rw[Pz] at hs;simp(disch:=try exact zqz)only[Sr,aN,qg,mr,cB,aC,Gx,hs,he,if_true,ar,aq,zz0,simprocAttr]
  |false=>
   rw[Pz] at hs;simp(disch:=try exact zqz)only[Sr,aN,qg,mr,cB,aC,Gx,hs,es,aa4,if_false,ar,aq,zz0,simprocAttr]
 generalize hH4:al (al H2 [.map (H.next+1)] 192 0) L8 nI 0=H4 at*
 have vL:∀{A B:Hp},Out [] A B->Out [H.next+1] A B:=λh=>h.mono λj hj=>by cases hj
 have OH:∀j∈([H.next+1]:List Nat),j=H.next+1:=λj hj=>by rw[No] at hj;exact hj
 obtain⟨a1,a2,a3,a4⟩:=K1 (Out.refl [H.next+1] H4) OH;have r1:=aD H4 [.func (.func 120) [] [],zi 2] nI 0;obtain⟨H5,s1,s2⟩:=OV (S:=[]) (fv:=.func (.func 120) [] []) (p:=p1 ts) (λ_ _=>True) hn zzy tri (λi t x H' ht hx bp _=>by
  obtain⟨H'',c1,c2⟩:=aBq t x i H';have hp:p1 ts i=Bq t:=by unfold p1;rw[ht]
  exact⟨H'',by rw[hp];exact c1,c2,λ_=>trivial⟩) (a3.au r1) trivial
 have g1:=one 0 0 1 (p1 ts) 2 _ H4 H5 zzz rfl rfl rfl rfl rfl a2 zzz (λa b ha hb=>by obtain⟨a',b',x1,x2,x3⟩:=a4 0 zzz;rw[x1] at ha;rw[x2] at hb;cases ha;cases hb;exact x3) s1 (vL s2);have t5:Out [H.next+1] H4 H5:=vL (r1.trans s2);obtain⟨b1,b2,b3,b4⟩:=K1 t5 OH;have n5:=t5.nx;have r2:=aD H5 [.func (.func 121) [] [.ptr (H.next+2) 0],zi 5] nI 0;have hHI:OZ (H.next+1) (H.next+2) ts 0 (al H5 [.func (.func 121) [] [.ptr (H.next+2) 0],zi 5] nI 0):=
  ⟨192,[],0,((Zh.out (r1.trans s2) zzy).out r2 zzy),(hm4.out (r1.trans s2) zzy).out r2 zzy,by rw[akd];rfl,zzz,anq⟩
 have PT:∀j∈mZ dx xs,j∉([H.next+1]:List Nat):=λj hj=>by rw[No];have:=nN j hj;omega
 obtain⟨H6,u1,u2⟩:=OV (S:=[H.next+1]) (fv:=.func (.func 121) [] [.ptr (H.next+2) 0]) (p:=dup ts) (OZ (H.next+1) (H.next+2) ts) hn PT (λi A B hA Nh=>by obtain⟨el,l,c,x1,x2,x3,x4⟩:=hA;exact⟨el,l,c,x1.out Nh zzy,x2.out Nh zzy,x3,x4⟩) (λi t x H' ht hx bp hI=>aCz hI ht) (b3.au r2) hHI;have g2:=one 1 1 2 (dup ts) 5 _ H5 H6 zzz rfl rfl rfl rfl rfl b2 zzz (λa b ha hb=>by obtain⟨a',b',x1,x2,x3⟩:=b4 1 zzz;rw[x1] at ha;rw[x2] at hb;cases ha;cases hb;exact x3) u1 u2;have t6:Out [H.next+1] H4 H6:=t5.trans ((vL r2).trans u2);obtain⟨c1,c2,c3,c4⟩:=K1 t6 OH;have n6:=t6.nx;have r3:=aD H6 [.func (.func 122) [] [],zi 1] nI 0;obtain⟨H7,v1,v2⟩:=OV (S:=[]) (fv:=.func (.func 122) [] []) (p:=p3 ts) (λ_ _=>True) hn zzy tri (λi t x H' ht hx bp _=>by
  obtain⟨H'',c1,c2⟩:=aur t x i H';have hp:p3 ts i=uL t:=by unfold p3;rw[ht]
  exact⟨H'',by rw[hp];exact c1,c2,λ_=>trivial⟩) (c3.au r3) trivial
 have g3:=one 2 2 3 (p3 ts) 1 _ H6 H7 zzz rfl rfl rfl rfl rfl c2 zzz (λa b ha hb=>by obtain⟨a',b',x1,x2,x3⟩:=c4 2 zzz;rw[x1] at ha;rw[x2] at hb;cases ha;cases hb;exact x3) v1 (vL v2);have t7:Out [H.next+1] H4 H7:=t6.trans (vL (r3.trans v2));obtain⟨d1,d2,d3,d4⟩:=K1 t7 OH;have n7:=t7.nx;have r4:=aD H7 [.func (.func 123) [] [.ptr H.next 0],zi 1] nI 0;obtain⟨H8,w1,w2⟩:=OV (S:=[]) (fv:=.func (.func 123) [] [.ptr H.next 0]) (p:=p4 ts) (λ_ H'=>cellAt H' H.next 0=some dx/\H.next<H'.next) hn zzy (λi A B hA Nh=>⟨by rw[Nh.cellAt hA.2 zzy];exact hA.1,by have:=Nh.nx;omega⟩) (λi t x H' ht hx bp hI=>by
  obtain⟨x',bb,oo,y1,y2,y3,_⟩:=bp.at ht;rw[hx] at y1;cases y1;obtain⟨H'',c1,c2⟩:=aHt (i:=(i:Int)) (n:=ts.length) hn (dd t (aab ht)) ir eU hI.1 hI.2 y3;have hp:p4 ts i = !tR ts.length i [] t.after:=by unfold p4;rw[ht]
  exact⟨H'',by rw[hp];exact c1,c2,λ_=>⟨by rw[c2.cellAt hI.2 zzy];exact hI.1,by have:=c2.nx;omega⟩⟩) (d3.au r4) ⟨by rw[r4.cellAt zzz zzy];exact d1,by rw[bS];omega⟩
 have g4:=one 3 3 4 (p4 ts) 1 _ H7 H8 zzz rfl rfl rfl rfl rfl d2 zzz (λa b ha hb=>by obtain⟨a',b',x1,x2,x3⟩:=d4 3 zzz;rw[x1] at ha;rw[x2] at hb;cases ha;cases hb;exact x3) w1 (vL w2);have t8:Out [H.next+1] H4 H8:=t7.trans (vL (r4.trans w2));obtain⟨e1,e2,e3,e4⟩:=K1 t8 OH;have fin:∀{B:Hp},Out [H.next+1] H4 B->Out [] H B:=λh=>ho4.then h λj hj=>by rw[No] at hj;exact .inr zzz
 have g5:∀hJ:K.Fn 1,Ng JN GO cK hJ (.ptr H.next 0) (.slice (H.next+3) 0 4 4 true 2) (zi 4) (zi 4) H8=hJ (.ptr H.next 0) H8:=λhJ=>by have d:decide ((4:Int)<4)=false:=rfl;rw[aex];simp only[Sr,d,zz0,simprocAttr]
 have zu:st 1 (.ptr (H.next+2) 0) (.map (H.next+1)) (al H2 [.lz] 192 0)=some (al H2 [.map (H.next+1)] 192 0):=Rx rfl (by rw[jo]) zzx zzy;have cB:aA (al H2 [.map (H.next+1)] 192 0) L8 nI 0=some (H.next+3,H4):=by rw[<-hH4,eA (by show 8<=_;omega),PJ]
 have JU:fl [.nilFunc,(zi 0),.nilFunc,(zi 0),.nilFunc,(zi 0),.nilFunc,(zi 0)] [(0,2,(.agg [.func (.func 120) [] [],zi 2])),(2,2,(.agg [.func (.func 121) [] [.ptr (H.next+2) 0],zi 5])),(4,2,(.agg [.func (.func 122) [] [],zi 1])),(6,2,(.agg [.func (.func 123) [] [.ptr H.next 0],zi 1]))]=some L8:=rfl;have Sf:jH ts=if (List.range ts.length).any (p1 ts) then 2 else if (List.range ts.length).any (dup ts) then 5 else if (List.range ts.length).any (p3 ts) then 1 else if (List.range ts.length).any (p4 ts) then 1 else if DW ts.length (kW 0 ts) then 0 else 7:=by unfold jH;rw[zz1 dH]
 rw[Sf];have J8:BS (al H [dx] 72 0)=some (H.next+1,H2):=m1;have dZ:((4:Nat):Int)=4:=rfl;have J7:H.next+2+1=H.next+3:=rfl;have IT:al (al H2 [.map (H.next+1)] 192 0) [.func (.func 120) [] [],zi 2,.func (.func 121) [] [.ptr (H.next+2) 0],zi 5,.func (.func 122) [] [],zi 1,.func (.func 123) [] [.ptr H.next 0],zi 1] nI 0=H4:=hH4;have acI:aG (.slice (H.next+3) 0 4 4 true 2)=some (zi 4):=rfl;have Jk:H2.next=H.next+2:=jo;cases q1:(List.range ts.length).any (p1 ts) with
 |true=>
  simp only[q1,if_true] at g1;refine⟨H5,I8 ?_,fin t5⟩;unfold Ef;simp(disch:=try exact zqz)only[ir,tj,d,J8,Jk,zu,JU,dZ,J7,IT,g1,if_true,ar,aq,zz0,simprocAttr]
 |false=>
 cases q2:(List.range ts.length).any (dup ts) with
 |true=>
  simp only[q1,aa4,if_false] at g1;simp only[q2,if_true] at g2;refine⟨H6,I8 ?_,fin t6⟩;unfold Ef;simp(disch:=try exact zqz)only[ir,tj,d,J8,Jk,zu,JU,dZ,J7,IT,g1,g2,if_true,aa4,if_false,ar,aq,zz0,simprocAttr]
 |false=>
 cases q3:(List.range ts.length).any (p3 ts) with
 |true=>
  simp only[q1,aa4,if_false] at g1;simp only[q2,aa4,if_false] at g2;simp only[q3,if_true] at g3;refine⟨H7,I8 ?_,fin t7⟩;unfold Ef;simp(disch:=try exact zqz)only[ir,tj,d,J8,Jk,zu,JU,dZ,J7,IT,g1,g2,g3,if_true,aa4,if_false,ar,aq,zz0,simprocAttr]
 |false=>
 cases q4:(List.range ts.length).any (p4 ts) with
 |true=>
  simp only[q1,aa4,if_false] at g1;simp only[q2,aa4,if_false] at g2;simp only[q3,aa4,if_false] at g3;simp only[q4,if_true] at g4;refine⟨H8,I8 ?_,fin t8⟩;unfold Ef;simp(disch:=try exact zqz)only[ir,tj,d,J8,Jk,zu,JU,dZ,J7,IT,g1,g2,g3,g4,if_true,aa4,if_false,ar,aq,zz0,simprocAttr]
 |false=>
  simp only[q1,aa4,if_false] at g1;simp only[q2,aa4,if_false] at g2;simp only[q3,aa4,if_false] at g3;simp only[q4,aa4,if_false] at g4;have abq:=P5 q4;have aB0:∀t∈ts,t.after.length<=16:=λt ht=>by obtain⟨i,hi⟩:=ab2 ht;obtain⟨x1,x2⟩:=Dp abq hi;have:=Pe (n:=ts.length) (λa h=>⟨(x1 a h).1,(x1 a h).2.1⟩) x2;omega
  obtain⟨ex,H9,y1,y2,y3,y4⟩:=arO hr.2 aB0 abq e3;obtain⟨cy,kk,mz,z1,z2,z3,z4⟩:=aCo (aqX hr.2 abq) y2;refine⟨mz,I8 ?_,(fin t8).trans (y3.trans z4)⟩;by_cases hk:kk=0;·have Yt:=z3.1 hk;rw[zz2 Yt];have dk:decide ((0:Int)<((kk:Nat):Int))=false:=zz4 zzz;unfold Ef;simp(disch:=try exact zqz)only[ir,tj,d,J8,Jk,zu,JU,dZ,J7,IT,g1,g2,g3,g4,g5,e2,y1,z1,z2,dk,aa4,if_false,ar,aq,zz0,simprocAttr]
  ·have Yt:¬DW ts.length (kW 0 ts):=λq=>hk (z3.2 q);rw[zz1 Yt];have dk:decide ((0:Int)<((kk:Nat):Int))=true:=zz3 zzz;unfold Ef;simp(disch:=try exact zqz)only[ir,tj,d,J8,Jk,zu,JU,dZ,J7,IT,g1,g2,g3,g4,g5,e2,y1,z1,z2,dk,aa4,if_false,ar,aq,zz0,simprocAttr]
def wJ (names:List Str):List Str->Option (List Int)
 |[]=>some []|s::r=>match names.findIdx? (λa=>s==a) with
  |some i=>(wJ names r).map λl=>(i:Int)::l
  |none=>none
abbrev AR:Str:=[97,102,116,101,114]
abbrev CH:Str:=[114,101,116,114,121]
abbrev AL:Str:=[119,97,105,116]
abbrev zB:Str:=[98,97,115,101]
abbrev vT:Str:=[111,110]
noncomputable def kE (t:Tk)(key value:Str)(names:List Str):Option Tk:=
 if key=AR then (wJ names (cN 44 value)).map λl=>{t with after:=t.after++l}
 else if key=CH then (uB value).map λ(n:Nat)=>{t with cu:=n}
 else if key=AL then (uB value).map λ(n:Nat)=>{t with wait:=n}
 else if key=zB then (uB value).map λ(n:Nat)=>{t with base:=n}
 else if key=vT then (if value=[] then none else some {t with on:=value})
 else (uB value).map λ_=>t
structure TO (H:Hp)(p:Nat)(t:Tk)(x:AV):Prop where
 c:Cs H p (aJ t x) 99 0
 o:Ow H 3 1 x (ints t.after)
 ne:p∉ak x
theorem TO.au {H H':Hp}{p:Nat}{t:Tk}{x:AV}(h:TO H p t x)(k:Out [] H H'):TO H' p t x:=⟨h.c.out k zzy,h.o.out k zzy,h.ne⟩
theorem TO.st {H:Hp}{p:Nat}{t:Tk}{x:AV}(h:TO H p t x)(o:Nat)(ho:o<6)(v:AV)(hv:aW v=true)(t':Tk)(ht:(aJ t x).set o v=aJ t' x)(ha:t'.after=t.after):
  ∃H',st 1 (.ptr p o) v H=some H'/\TO H' p t' x/\Out [p] H H':=by
 obtain⟨H',w1,w2,w3,w4⟩:=eV h.c zzx (o:=o) (by rw[y9];exact ho) hv;rw[ht] at w2;exact⟨H',w1,⟨w2,by rw[ha];exact h.o.out w3 λj hj=>by rw[No];intro e;subst e;exact h.ne hj,h.ne⟩,w3⟩
theorem ahs {names:List Str}{nx sx:AV}{p:Nat}{parts:List Str}(lZ:names.length<=100000)(iS:parts.length<=100000):∀(r:List Str) (i:Nat) (H:Hp) (t:Tk) (x:AV),i<=parts.length->parts.drop i=r->Rw H 1 nx (strs names)->Rw H 1 sx (strs parts)->TO H p t x->(∀j,j∈ak nx\/j∈ak sx->j≠p/\j∉ak x)->t.after.length+r.length<=200000->
  ∃H',Out (p::ak x) H H'/\((∃l x',wJ names r=some l/\(∀(eC:K.Fn 1) (dh:K.Fn 0),Ja JN GO cK eC dh (.ptr p 0) nx sx (zi (parts.length:Nat)) (zi (i:Nat)) H=dh H')/\TO H' p {t with after:=t.after++l} x'/\∀j∈ak x',j∈ak x\/H.next<=j)\/
   (wJ names r=none/\∀(eC:K.Fn 1) (dh:K.Fn 0),Ja JN GO cK eC dh (.ptr p 0) nx sx (zi (parts.length:Nat)) (zi (i:Nat)) H=some (.bool false,H')))
 |[],i,H,t,x,hi,h,lJ,R2,hT,hd,dd=>by obtain rfl:=drop_nil hi h;refine⟨H,Out.refl _ _,.inl ⟨[],x,rfl,λeC dh=>?_,by simpa using hT,λj hj=>.inl hj⟩⟩;rw[PA];simp only[Kx,dA,zz0,simprocAttr]
 |s::r,i,H,t,x,hi,h,lJ,R2,hT,hd,dd=>by
  obtain⟨h1,h2,h3⟩:=dU h;obtain⟨q,q1,q2⟩:=R2.gh (mP h2) .i64;have es:=dD h1 zzz;have pK:=Qk lJ zzz s;simp only[aau] at dd;unfold wJ;cases hf:names.findIdx? (λa=>s==a) with
  |none=>
   rw[hf] at pK;have d:decide (nP none<0)=true:=rfl;refine⟨H,Out.refl _ _,.inr ⟨rfl,λeC dh=>?_⟩⟩;rw[PA];simp(disch:=try exact zqz)only[Kx,aQ h1,q1,q2,pK,d,ar,aq,zz0,simprocAttr]
  |some m=>
   rw[hf] at pK;have d:decide (nP (some m)<0)=false:=zz4 (by show ¬((m:Int)<0);omega);have tB:nP (some m)=(m:Int):=rfl;rw[tB] at pK d;have Gx:cellAt H p 1=some x:=hT.c.cellAt rfl;have aId:=hT.c.1;obtain⟨x1,H1,p1,p2,p3,p4,p5⟩:=wL (el2:=3) (z:=[(zi 0)]) (vs:=[zi (m:Int)]) hT.o rfl rfl zzx (by rw[mX];simp;omega);have uG:ints t.after++[zi (m:Int)]=ints (t.after++[(m:Int)]):=by rw[P3];rfl
   rw[uG] at p2;have yk:=hT.c.out p3 hT.ne;obtain⟨H2,w1,w2,w3,w4⟩:=eV yk zzx (o:=1) (by rw[y9];omega) (v:=x1) p5;have fY:(aJ t x).set 1 x1=aJ {t with after:=t.after++[(m:Int)]} x1:=rfl;rw[fY] at w2;have lI:=p3.nx;have anW:p∉ak x1:=λz=>(p4 p z).elim hT.ne λz=>zzz;have qd:TO H2 p {t with after:=t.after++[(m:Int)]} x1:=⟨w2,p2.out w3 λj hj=>by rw[No];intro e;subst e;exact anW hj,anW⟩;have o2:Out (p::ak x) H H2:=(p3.mono λj hj=>.tail _ hj).trans (w3.mono λj hj=>by rw[No] at hj;subst hj;exact .head _);have jC:=lJ.lt;have mO:=R2.lt;have qb:∀j,j∈ak nx\/j∈ak sx->j≠p/\j∉ak x1:=λj hj=>⟨(hd j hj).1,λz=>(p4 j z).elim (hd j hj).2 λy=>by have:=hj.elim (jC j) (mO j);omega⟩;obtain⟨H',i1,i2⟩:=ahs (p:=p) lZ iS r (i+1) H2 {t with after:=t.after++[(m:Int)]} x1 h1 h3 (lJ.out o2 λj hj=>by rw[aal,not_or];exact hd j (.inl hj)) (R2.out o2 λj hj=>by rw[aal,not_or];exact hd j (.inr hj)) qd qb (by simp;omega);have key:∀j∈ak x1,j∈ak x\/H.next<=j:=λj hj=>(p4 j hj).imp id λz=>zzz;have jo:=o2.nx;have oo:Out (p::ak x) H H':=o2.then i1 λj hj=>by
    rcases aal.1 hj with rfl|hj;·exact .inl (.head _)
    ·exact (key j hj).imp (λz=>.tail _ z) id
   have fX:=p1 _ rfl;refine⟨H',oo,?_⟩;rcases i2 with⟨l,x',k1,k2,k3,k4⟩|⟨k1,k2⟩;·refine .inl ⟨(m:Int)::l,x',by simp[k1],λeC dh=>?_,by simpa[abC] using k3,λj hj=>(k4 j hj).elim (key j) λz=>.inr zzz⟩;rw[PA];simp(disch:=try exact zqz)only[Kx,aQ h1,q1,q2,pK,d,Gx,fX,w1,es,k2,ar,aq,zz0,simprocAttr]
   ·refine .inr ⟨by simp[k1],λeC dh=>?_⟩;rw[PA];simp(disch:=try exact zqz)only[Kx,aQ h1,q1,q2,pK,d,Gx,fX,w1,es,k2,ar,aq,zz0,simprocAttr]
theorem Ln {a b:Str}(h:a≠b):(a==b)=false:=zz7 h
theorem aHC {names:List Str}{nx:AV}{p:Nat}{key value:Str}{t:Tk}{x:AV}{H:Hp}(hg:Gl H)(lZ:names.length<=100000)(hv:value.length<=90000)(lJ:Rw H 1 nx (strs names))(hT:TO H p t x)(hd:∀j,j∈ak nx->j≠p/\j∉ak x)(dd:t.after.length<=10000):
  ∃ok H',cK (zf 118) [.ptr p 0,.str key,.str value,nx] H=some (.bool ok,H')/\Out (p::ak x) H H'/\(ok=true->∃t' x',kE t key value names=some t'/\TO H' p t' x'/\∀j∈ak x',j∈ak x\/H.next<=j)/\(ok=false->kE t key value names=none):=by
 obtain⟨n,Xa,H1,n1,n2,n3,n4⟩:=aBW (s:=value) hg;have rS:=hT.au n4;have LJ:=rS.c.1;have Gk:=lJ.au n4;have lI:=n4.nx;have vL:∀{S:List Nat} {A B:Hp},Out [] A B->Out S A B:=λh=>h.mono λj hj=>by cases hj
 have num:∀(o:Nat) (f:Nat->Tk),o<6->(∀m:Nat,(aJ t x).set o (zi (m:Int))=aJ (f m) x)->(∀m,(f m).after=t.after)->kE t key value names=(uB value).map f->
   (∀H2,st 1 (.ptr p o) (zi n) H1=some H2->Be JN GO cK (.ptr p 0) (.str key) (.str value) nx H=some (.bool Xa,H2))->∃ok H',cK (zf 118) [.ptr p 0,.str key,.str value,nx] H=some (.bool ok,H')/\Out (p::ak x) H H'/\(ok=true->∃t' x',kE t key value names=some t'/\TO H' p t' x'/\∀j∈ak x',j∈ak x\/H.next<=j)/\(ok=false->kE t key value names=none):=by
  intro o f ho hf hfa hm kF;cases Xa with
  |true=>
   obtain⟨m,rfl⟩:∃m:Nat,n=m:=⟨n.toNat,by have:=n3 rfl;omega⟩;obtain⟨H2,w1,w2,w3⟩:=rS.st o ho (zi (m:Int)) rfl (f m) (hf m) (hfa m);refine⟨true,H2,G5 (kF H2 w1),(vL n4).trans (w3.mono λj hj=>by rw[No] at hj;subst hj;exact .head _),λ_=>⟨f m,x,?_,w2,λj hj=>.inl hj⟩,λq=>by cases q⟩;rw[hm,n2,zz2 rfl,abO];rfl
  |false=>
   obtain⟨H2,w1,w2,w3,w4⟩:=eV rS.c zzx (o:=o) (by rw[y9];exact ho) (v:=zi n) rfl;refine⟨false,H2,G5 (kF H2 w1),(vL n4).trans (w3.mono λj hj=>by rw[No] at hj;subst hj;exact .head _),λq=>(by cases q),λ_=>?_⟩;rw[hm,n2];rfl
 by_cases k1:key=AR
 ·subst k1;obtain⟨sx,H2,s1,s2,s3,s4⟩:=Xv (c:=44) zzx (s:=value) zzz H1;have mO:=s2.gX;rw[gQ] at mO;have iS:(cN 44 value).length<=90001:=by rw[Ih];have:=Te 44 value;omega
  have qd:=rS.au s3;have Iv:=lJ.lt;have L0:=hT.o.rw.lt;have hpH:=hT.c.1;obtain⟨H',i1,i2⟩:=ahs (p:=p) lZ zzz (cN 44 value) 0 H2 t x (abg _) aaM (Gk.au s3) s2 qd (λj hj=>hj.elim (hd j) λz=>⟨by have:=s4 j z;omega,λy=>by have:=s4 j z;have:=L0 j y;omega⟩) zzz;have hm:kE t AR value names=(wJ names (cN 44 value)).map λl=>{t with after:=t.after++l}:=by unfold kE;rw[zz2 rfl]
  have oo:Out (p::ak x) H H':=(vL (n4.trans s3)).trans i1;have jo:=(n4.trans s3).nx;have e:(AR==AR)=true:=rfl;rcases i2 with⟨l,x',q1,q2,q3,q4⟩|⟨q1,q2⟩;·rw[show (((0:Nat):Int))=0 from rfl] at q2;refine⟨true,H',G5 ?_,oo,λ_=>⟨_,x',by rw[hm,q1];rfl,q3,λj hj=>(q4 j hj).imp id λz=>zzz⟩,λq=>by cases q⟩;unfold Be;simp(disch:=try exact zqz)only[n1,e,s1,mO,q2,ar,aq,zz0,simprocAttr]
  ·rw[show (((0:Nat):Int))=0 from rfl] at q2;refine⟨false,H',G5 ?_,oo,λq=>(by cases q),λ_=>by rw[hm,q1];rfl⟩;unfold Be;simp(disch:=try exact zqz)only[n1,e,s1,mO,q2,ar,aq,zz0,simprocAttr]
 have e1:=Ln k1;by_cases k2:key=CH;·subst k2;have e2:(CH==CH)=true:=rfl;refine num 2 (λm=>{t with cu:=(m:Int)}) zzz (λm=>rfl) (λm=>rfl) (by unfold kE;rw[zz1 k1,zz2 rfl]) λH2 aC=>?_;unfold Be;simp(disch:=try exact zqz)only[n1,e1,e2,aC,ar,aq,zz0,simprocAttr]
 have e2:=Ln k2;by_cases k3:key=AL;·subst k3;have e3:(AL==AL)=true:=rfl;refine num 3 (λm=>{t with wait:=(m:Int)}) zzz (λm=>rfl) (λm=>rfl) (by unfold kE;rw[zz1 k1,zz1 k2,zz2 rfl]) λH2 aC=>?_;unfold Be;simp(disch:=try exact zqz)only[n1,e1,e2,e3,aC,ar,aq,zz0,simprocAttr]
 have e3:=Ln k3;by_cases k4:key=zB;·subst k4;have e4:(zB==zB)=true:=rfl;refine num 4 (λm=>{t with base:=(m:Int)}) zzz (λm=>rfl) (λm=>rfl) (by unfold kE;rw[zz1 k1,zz1 k2,zz1 k3,zz2 rfl]) λH2 aC=>?_;unfold Be;simp(disch:=try exact zqz)only[n1,e1,e2,e3,e4,aC,ar,aq,zz0,simprocAttr]
 have e4:=Ln k4;by_cases k5:key=vT
 ·subst k5;have e5:(vT==vT)=true:=rfl;obtain⟨H2,w1,w2,w3⟩:=rS.st 5 zzz (.str value) rfl {t with on:=value} rfl rfl;have oo:Out (p::ak x) H H2:=(vL n4).trans (w3.mono λj hj=>by rw[No] at hj;subst hj;exact .head _);have hm:kE t vT value names=if value=[] then none else some {t with on:=value}:=by unfold kE;rw[zz1 k1,zz1 k2,zz1 k3,zz1 k4,zz2 rfl]
  by_cases I5:value=[]
  ·have e6:(value==[])=true:=by rw[I5];rfl
   refine⟨false,H2,G5 ?_,oo,λq=>(by cases q),λ_=>by rw[hm,zz2 I5]⟩;unfold Be;simp(disch:=try exact zqz)only[n1,e1,e2,e3,e4,e5,e6,w1,ar,aq,zz0,simprocAttr]
  ·have e6:(value==[])=false:=zz7 I5;refine⟨true,H2,G5 ?_,oo,λ_=>⟨_,x,by rw[hm,zz1 I5],w2,λj hj=>.inl hj⟩,λq=>by cases q⟩;unfold Be;simp(disch:=try exact zqz)only[n1,e1,e2,e3,e4,e5,e6,w1,ar,aq,zz0,simprocAttr]
 ·have e5:=Ln k5;have hm:kE t key value names=(uB value).map λ_=>t:=by unfold kE;rw[zz1 k1,zz1 k2,zz1 k3,zz1 k4,zz1 k5]
  refine⟨Xa,H1,G5 ?_,vL n4,λq=>⟨t,x,?_,rS,λj hj=>.inl hj⟩,λq=>?_⟩;·unfold Be;simp(disch:=try exact zqz)only[n1,e1,e2,e3,e4,e5,ar,aq,zz0,simprocAttr]
  ·rw[hm,n2,zz2 q];rfl
  ·rw[hm,n2,q];rfl
noncomputable def oD (names:List Str):List Str->Tk->List Str->Option Tk
 |[],t,_=>some t|s::r,t,ks=>match ks.findIdx? (λa=>(cut 61 s).1==a) with
  |none=>none|some m=>if (cut 61 s).1.length=s.length then none else match kE t (cut 61 s).1 (cut 61 s).2.1 names with
   |none=>none|some t'=>oD names r t' (ks.drop (m+1))
theorem afU (c:Nat)(s:Str):(cut c s).1.length<=s.length/\(cut c s).2.1.length<=s.length:=by
 unfold cut;split;·exact⟨by rw[ad9];exact aoj _ _,by rw[aeG];exact Nat.sub_le _ _⟩
 ·exact⟨aaq _,abg _⟩
theorem ag3 {names:List Str}:∀{r:List Str} {l:List Int},wJ names r=some l->l.length=r.length
 |[],l,h=>by cases h;rfl
 |s::r,l,h=>by
  unfold wJ at h;split at h;·rw[aag] at h;obtain⟨l',h1,rfl⟩:=h;simp[ag3 h1]
  ·cases h
theorem aln {t t':Tk}{key value:Str}{names:List Str}(h:kE t key value names=some t'):t'.after.length<=t.after.length+value.length+1:=by
 unfold kE at h;split at h;·rw[aag] at h;obtain⟨l,h1,rfl⟩:=h;have:=ag3 h1;rw[Ih] at this;have:=Te 44 value;simp only[aah];omega
 ·split at h;·rw[aag] at h;obtain⟨m,_,rfl⟩:=h;simp only;omega
  ·split at h;·rw[aag] at h;obtain⟨m,_,rfl⟩:=h;simp only;omega
   ·split at h;·rw[aag] at h;obtain⟨m,_,rfl⟩:=h;simp only;omega
    ·split at h
     ·split at h;·cases h
      ·cases h;simp only;omega
     ·rw[aag] at h;obtain⟨m,_,rfl⟩:=h;omega
theorem ale {α:Type}{p:α->Bool}:∀{l:List α} {m:Nat},l.findIdx? p=some m->m<l.length
 |[],m,h=>by cases h
 |a::l,m,h=>by
  rw[ajP] at h;split at h;·cases h;simp
  ·rw[aag] at h;obtain⟨k,h1,rfl⟩:=h;have:=ale h1;simp only[aau];omega
theorem agJ {names w:List Str}{nx wx:AV}{p q:Nat}(lZ:names.length<=100000)(EZ:w.length<=100000)(ID:∀s∈w,s.length<=80000)(Fv:p≠q):∀(r:List Str) (i:Nat) (H:Hp) (t:Tk) (x kx:AV) (ks:List Str),i<=w.length->w.drop i=r->Gl H->11<=p->(∀j∈ak x,11<=j)->Rw H 1 nx (strs names)->Rw H 1 wx (strs w)->Rw H 1 kx (strs ks)->ks.length<=10->TO H p t x->(∀j,j∈ak nx\/j∈ak wx\/j∈ak kx->j≠p/\j∉ak x)->t.after.length+dJ r+r.length<=10000->
  ∃H',Out (p::ak x) H H'/\((∃t' x',oD names r t ks=some t'/\(∀aK:K.Fn 2,Qp JN GO cK aK nx (.ptr q 0) (.ptr p 0) kx wx (zi (w.length:Nat)) (zi (i:Nat)) H=aK (.ptr q 0) (.ptr p 0) H')/\TO H' p t' x'/\∀j∈ak x',j∈ak x\/H.next<=j)\/
   (oD names r t ks=none/\(cellAt H q 0).isSome=true/\False)\/(oD names r t ks=none/\∃H2,Out (p::ak x) H H2/\∀aK:K.Fn 2,Qp JN GO cK aK nx (.ptr q 0) (.ptr p 0) kx wx (zi (w.length:Nat)) (zi (i:Nat)) H=B1 (st 6 (.ptr q 0) (.agg [(.str []),.ah,(zi 0),(zi 0),(zi 0),(.str [])]) H2) λh=>B1 (aB 6 (.ptr q 0) h) λv=>some (.tuple [v,.bool false],h)))
 |[],i,H,t,x,kx,ks,hi,h,hg,Uh,Xt,lJ,BT,RG,kL,hT,hd,dd=>by obtain rfl:=drop_nil hi h;refine⟨H,Out.refl _ _,.inl ⟨t,x,rfl,λaK=>?_,hT,λj hj=>.inl hj⟩⟩;rw[JV];simp only[Gd,dA,zz0,simprocAttr]
 |s::r,i,H,t,x,kx,ks,hi,h,hg,Uh,Xt,lJ,BT,RG,kL,hT,hd,dd=>by
  obtain⟨h1,h2,h3⟩:=dU h;obtain⟨y,q1,q2⟩:=BT.gh (mP h2) .i64;have es:=dD h1 zzz;have mO:=ID s (aab h2);have EA:=aAi (c:=61) zzx (s:=s) zzz H;obtain⟨cl1,cl2⟩:=afU 61 s;have pK:=Qk RG zzz (cut 61 s).1;have u6:dJ (s::r)=s.length+dJ r:=by simp[dJ]
  rw[u6] at dd;simp only[aau] at dd;have Js:fl [(.str []),.ah,(zi 0),(zi 0),(zi 0),(.str [])] []=some [(.str []),.ah,(zi 0),(zi 0),(zi 0),(.str [])]:=rfl;unfold oD;cases hf:ks.findIdx? (λa=>(cut 61 s).1==a) with
  |none=>
   rw[hf] at pK;have d:decide (nP none<0)=true:=rfl;refine⟨H,Out.refl _ _,.inr (.inr ⟨rfl,H,Out.refl _ _,λaK=>?_⟩)⟩;rw[JV];simp(disch:=try exact zqz)only[Gd,aQ h1,q1,q2,EA,pK,d,Js,ar,aq,zz0,simprocAttr]
  |some m=>
   rw[hf] at pK;have hm:=ale hf;have d:decide (nP (some m)<0)=false:=zz4 (by show ¬((m:Int)<0);omega);have tB:nP (some m)=(m:Int):=rfl;rw[tB] at pK d;simp only;by_cases hl:(cut 61 s).1.length=s.length
   ·have d2:(((cut 61 s).1.length:Int)==(s.length:Int))=true:=by rw[hl];simp
    rw[zz2 hl];refine⟨H,Out.refl _ _,.inr (.inr ⟨rfl,H,Out.refl _ _,λaK=>?_⟩)⟩;rw[JV];simp(disch:=try exact zqz)only[Gd,aQ h1,q1,q2,EA,pK,d,d2,Js,ar,aq,zz0,simprocAttr]
   ·have d2:(((cut 61 s).1.length:Int)==(s.length:Int))=false:=zz7 zzz;rw[zz1 hl];obtain⟨ok,H1,s1,s2,s3,s4⟩:=aHC (key:=(cut 61 s).1) (value:=(cut 61 s).2.1) hg lZ zzz lJ hT (λj hj=>hd j (.inl hj)) zzz;cases ok with
    |false=>
     have hs:=s4 rfl;rw[hs];refine⟨H1,s2,.inr (.inr ⟨rfl,H1,s2,λaK=>?_⟩)⟩;rw[JV];simp(disch:=try exact zqz)only[Gd,aQ h1,q1,q2,EA,pK,d,d2,s1,Js,ar,aq,zz0,simprocAttr]
    |true=>
     obtain⟨t',x',u1,u2,u3⟩:=s3 rfl;rw[u1];have Kl:=aln u1;have e1:IntKind.wrap .i64 ((m:Int)+1)=((m+1:Nat):Int):=by rw[wrap_i64 zzz zzz];rfl
     have eU:∀j,j∈ak nx\/j∈ak wx\/j∈ak kx->j∉p::ak x:=λj hj=>by rw[aal,not_or];exact hd j hj
     have aEz:=RG.out s2 λj hj=>eU j (.inr (.inr hj));obtain⟨S8,k1,k2,k3⟩:=Ar (n:=ks.length) aEz (by rw[gQ,adV]) zzx (a:=m+1) (b:=ks.length) (lo:=some (zi (m+1:Nat))) (hi:=none) zzz (aaq _) (Bd.yes _ _ _) (Bd.no _);have iw:((strs ks).drop ((m+1)*1)).take ((ks.length-(m+1))*1)=strs (ks.drop (m+1)):=by rw[adV,adV,ae2 (by rw[aeG,gQ];omega)];simp[strs,List.map_drop]
     rw[iw] at k2;have aN:∀j,j∈ak nx\/j∈ak wx\/j∈ak kx->j<H.next:=λj hj=>by
      rcases hj with hj|hj|hj;·exact lJ.lt j hj
      ·exact BT.lt j hj
      ·exact RG.lt j hj
     have Tv:=hg.nx;have lI:=s2.nx;obtain⟨H',i1,i2⟩:=agJ (q:=q) lZ EZ ID Fv r (i+1) H1 t' x' S8 (ks.drop (m+1)) h1 h3 (hg.out s2 λj hj=>by
      rcases aal.1 hj with rfl|hj;·exact Uh
      ·exact Xt j hj) Uh (λj hj=>(u3 j hj).elim (Xt j) λz=>zzz) (lJ.out s2 λj hj=>eU j (.inl hj)) (BT.out s2 λj hj=>eU j (.inr (.inl hj))) k2 (by rw[aeG];omega) u2 (λj hj=>by have lE:j∈ak nx\/j∈ak wx\/j∈ak kx:=hj.imp id λz=>z.imp id (k3 j);exact⟨(hd j lE).1,λz=>(u3 j z).elim (hd j lE).2 λy=>by have:=aN j lE;omega⟩) zzz
     have key:∀j∈p::ak x',j∈p::ak x\/H.next<=j:=λj hj=>by
      rcases aal.1 hj with rfl|hj;·exact .inl (.head _)
      ·exact (u3 j hj).imp (λz=>.tail _ z) id
     refine⟨H',s2.then i1 key,?_⟩;simp only;rcases i2 with⟨t2,x2,v1,v2,v3,v4⟩|⟨_,_,v⟩|⟨v1,H2,v2,v3⟩;·refine .inl ⟨t2,x2,v1,λaK=>?_,v3,λj hj=>(v4 j hj).elim (u3 j) λz=>.inr zzz⟩;rw[JV];simp(disch:=try exact zqz)only[Gd,aQ h1,q1,q2,EA,pK,d,d2,s1,e1,k1,es,v2,ar,aq,zz0,simprocAttr]
     ·exact v.elim
     ·refine .inr (.inr ⟨v1,H2,s2.then v2 key,λaK=>?_⟩);rw[JV];simp(disch:=try exact zqz)only[Gd,aQ h1,q1,q2,EA,pK,d,d2,s1,e1,k1,es,v3,ar,aq,zz0,simprocAttr]
abbrev mC:List Str:=[AR,CH,AL,zB,vT]
noncomputable def yx (names w:List Str):Option Tk:=oD names w.tail ⟨w.headD [],[],0,10,1,[]⟩ mC
theorem iE {H:Hp}{i n el:Nat}{l vs:List AV}(h:Cs H i l el 0)(hn:n=vs.length)(hl:l.length=vs.length)(hv:vs.all aW=true):∃H',st n (.ptr i 0) (.agg vs) H=some H'/\Cs H' i vs el 0/\Out [i] H H'/\H'.next=H.next:=by
 obtain⟨hi,c,hc,hg⟩:=h;obtain⟨H',c',q1,q2,q3,q4,q5⟩:=RF vs H i 0 c 0 l.length el 0 hc zzz (aaq _) zzz (λk hk=>by rw[adn,hg k (l[k]' zzz) (aai zzz)];rfl) (adP.1 hv);refine⟨H',?_,⟨zzz,c',?_,λk v hk=>?_⟩,⟨zzz,λj hj hn=>q4 j (by simpa using hn)⟩,q2⟩
 ·unfold st;have:Nat.beq n vs.length=true:=by subst hn;exact aiw _
  simp only[HA,this,cond_true];exact q1
 ·rw[q3,hl]
 ·have:=(aac.1 hk).1;rw[q5,zz2 zzz,agN];exact hk
theorem aqx {names w:List Str}{nx wx:AV}{H:Hp}(hg:Gl H)(lZ:names.length<=100000)(hw0:w≠[])(EZ:w.length<=5000)(ID:∀s∈w,s.length<=80000)(u6:dJ w+w.length<=10000)(lJ:Rw H 1 nx (strs names))(BT:Rw H 1 wx (strs w)):
  ∃H',Out [] H H'/\((∃t x,yx names w=some t/\cK (zf 89) [wx,nx] H=some (.tuple [.agg (aJ t x),.bool true],H')/\Rw H' 1 x (ints t.after)/\∀j∈ak x,H.next<=j)\/(yx names w=none/\∃v,cK (zf 89) [wx,nx] H=some (.tuple [.agg v,.bool false],H')/\v.length=6/\v.all aW=true)):=by
 obtain⟨w0,w,rfl⟩:∃a b,w=a::b:=by
  cases w with
  |nil=>exact absurd rfl hw0|cons a b=>exact⟨a,b,rfl⟩
 have Tv:=hg.nx;have o1:=aD H [(AV.str []),AV.ah,(AV.int .i64 0),(AV.int .i64 0),(AV.int .i64 0),(AV.str [])] 99 0;have o2:=aD (al H [(AV.str []),AV.ah,(AV.int .i64 0),(AV.int .i64 0),(AV.int .i64 0),(AV.str [])] 99 0) (aJ ⟨w0,[],0,10,1,[]⟩ .ah) 99 0;have o3:=aD (al (al H [(AV.str []),AV.ah,(AV.int .i64 0),(AV.int .i64 0),(AV.int .i64 0),(AV.str [])] 99 0) (aJ ⟨w0,[],0,10,1,[]⟩ .ah) 99 0) (strs mC) 9 0;have bG:=o1.trans o2;have gg:=bG.trans o3;have c1:=((aP H [(AV.str []),AV.ah,(AV.int .i64 0),(AV.int .i64 0),(AV.int .i64 0),(AV.str [])] 99 0).out o2 zzy).out o3 zzy;have c2:=(aP (al H [(AV.str []),AV.ah,(AV.int .i64 0),(AV.int .i64 0),(AV.int .i64 0),(AV.str [])] 99 0) (aJ ⟨w0,[],0,10,1,[]⟩ .ah) 99 0).out o3 zzy;have c3:=aP (al (al H [(AV.str []),AV.ah,(AV.int .i64 0),(AV.int .i64 0),(AV.int .i64 0),(AV.str [])] 99 0) (aJ ⟨w0,[],0,10,1,[]⟩ .ah) 99 0) (strs mC) 9 0;generalize hH3:al (al (al H [(AV.str []),AV.ah,(AV.int .i64 0),(AV.int .i64 0),(AV.int .i64 0),(AV.str [])] 99 0) (aJ ⟨w0,[],0,10,1,[]⟩ .ah) 99 0) (strs mC) 9 0=H3 at*
 have FX:H3.next=H.next+3:=by rw[<-hH3];rfl
 have nA:Rw H3 1 (.slice (H.next+2) 0 5 5 true 1) (strs mC):=.mk c3.ro rfl (aaq _) rfl;have aqj:=BT.au gg;obtain⟨wx',s1,s2,s3⟩:=Ar (n:=w.length+1) aqj (by rw[gQ];simp) zzx (a:=1) (b:=w.length+1) (lo:=some (zi 1)) (hi:=none) zzz (aaq _) (Bd.yes .i64 1 0) (Bd.no _);have om:((strs (w0::w)).drop (1*1)).take ((w.length+1-1)*1)=strs w:=by rw[adV,adV,Nat.add_sub_cancel];show (strs w).take w.length=_;rw[ae2 (by rw[gQ];omega)]
 rw[om] at s2;have Xz:=s2.gX;rw[gQ] at Xz;have hwr:=BT.lt;have Iv:=lJ.lt;obtain⟨y,y1,y2⟩:=(BT.au o1).gh (i:=0) (v:=.str w0) rfl .i64;rw[show (((0:Nat):Int))=0 from rfl] at y1;have yA:dJ (w0::w)=w0.length+dJ w:=by simp[dJ]
 rw[yA] at u6;simp only[aau] at u6 EZ;have hT:TO H3 (H.next+1) ⟨w0,[],0,10,1,[]⟩ .ah:=⟨c2,.nil,by simp[ak]⟩;obtain⟨H4,i1,i2⟩:=agJ (q:=H.next) (p:=H.next+1) lZ zzz (λs hs=>ID s (.tail _ hs)) zzz w 0 H3 ⟨w0,[],0,10,1,[]⟩ .ah (.slice (H.next+2) 0 5 5 true 1) mC (abg _) aaM (hg.au gg) zzz (λj hj=>by cases hj) (lJ.au gg) s2 nA zzx hT (λj hj=>by
  refine⟨?_,by simp[ak]⟩;rcases hj with hj|hj|hj;·have:=Iv j hj;omega
  ·have:=hwr j (s3 j hj);omega
  ·rw[pH zzv,No] at hj;omega) (by simp;omega)
 have IZ:Out [H.next+1] H3 H4:=i1.mono λj hj=>by
  rcases aal.1 hj with rfl|hj;·exact .head _
  ·cases hj
 have Q0:fl [(.str []),.ah,(zi 0),(zi 0),(zi 0),(.str [])] [(0,1,.str w0),(3,1,zi 10),(4,1,zi 1)]=some (aJ ⟨w0,[],0,10,1,[]⟩ .ah):=rfl;have Ia:fl [(.str []),(.str []),(.str []),(.str []),(.str [])] [(0,1,.str [97,102,116,101,114]),(1,1,.str [114,101,116,114,121]),(2,1,.str [119,97,105,116]),(3,1,.str [98,97,115,101]),(4,1,.str [111,110])]=some (strs mC):=rfl;have aC:=AX ⟨w0,[],0,10,1,[]⟩ .ah rfl (al H [(AV.str []),AV.ah,(AV.int .i64 0),(AV.int .i64 0),(AV.int .i64 0),(AV.str [])] 99 0);have hnk:aA (al (al H [(AV.str []),AV.ah,(AV.int .i64 0),(AV.int .i64 0),(AV.int .i64 0),(AV.str [])] 99 0) (aJ ⟨w0,[],0,10,1,[]⟩ .ah) 99 0) (strs mC) 9 0=some (H.next+2,H3):=by rw[<-hH3,eA (by show 5<=_;omega)];rfl
 have akx:H.next+1+1=H.next+2:=rfl;have hm:yx names (w0::w)=oD names w ⟨w0,[],0,10,1,[]⟩ mC:=rfl;rw[hm];have fin:∀{A:Hp} {S:List Nat},Out S H3 A->(∀j∈S,H.next<=j)->Out [] H A:=λh hS=>gg.then h λj hj=>.inr (hS j hj);have eR:(al H [(AV.str []),AV.ah,(AV.int .i64 0),(AV.int .i64 0),(AV.int .i64 0),(AV.str [])] 99 0).next=H.next+1:=rfl;rw[eR] at aC;rw[show (((0:Nat):Int))=0 from rfl] at i2;rcases i2 with⟨t,x,v1,v2,v3,v4⟩|⟨_,_,v⟩|⟨v1,H5,v2,v3⟩;·have lH:=v3.o.lg;have nY:av H4 (H.next+1) 0 6=some (aJ t x):=v3.c.av 6 0 (by rw[y9];omega);have c4:=c1.out IZ zzy;obtain⟨H5,w1,w2,w3,w4⟩:=iE (n:=6) (vs:=aJ t x) c4 rfl rfl (by simp[aJ,JX,iV,lH]);have hc5:av H5 H.next 0 6=some (aJ t x):=w2.av 6 0 (by rw[y9];omega);have L0:∀j∈ak x,H3.next<=j:=λj hj=>(v4 j hj).elim (λz=>by cases z) id;refine⟨H5,(fin IZ (λj hj=>by rw[No] at hj;omega)).then w3 λj hj=>by rw[No] at hj;exact .inr zzz,.inl ⟨t,x,v1,ac5 ?_,v3.o.rw.out w3 λj hj=>by rw[No];have:=L0 j hj;omega,λj hj=>by have:=L0 j hj;omega⟩⟩;unfold aa0;simp(disch:=try exact zqz)only[y1,y2,Q0,aC,Ia,hnk,hH3,akx,s1,Xz,v2,nY,w1,hc5,ar,aq,zz0,simprocAttr]
 ·exact v.elim
 ·have I6:Out [H.next+1] H3 H5:=v2.mono λj hj=>by
   rcases aal.1 hj with rfl|hj;·exact .head _
   ·cases hj
  have c5:=c1.out I6 zzy;obtain⟨H6,w1,w2,w3,w4⟩:=iE (n:=6) (vs:=[(AV.str []),AV.ah,(AV.int .i64 0),(AV.int .i64 0),(AV.int .i64 0),(AV.str [])]) c5 rfl rfl rfl;have hc6:av H6 H.next 0 6=some [(AV.str []),AV.ah,(AV.int .i64 0),(AV.int .i64 0),(AV.int .i64 0),(AV.str [])]:=w2.av 6 0 (by show 0+6<=6;omega);refine⟨H6,(fin I6 (λj hj=>by rw[No] at hj;omega)).then w3 λj hj=>by rw[No] at hj;exact .inr zzz,.inr ⟨v1,[(AV.str []),AV.ah,(AV.int .i64 0),(AV.int .i64 0),(AV.int .i64 0),(AV.str [])],ac5 ?_,rfl,rfl⟩⟩;unfold aa0;simp(disch:=try exact zqz)only[y1,y2,Q0,aC,Ia,hnk,hH3,akx,s1,Xz,v3,w1,hc6,ar,aq,zz0,simprocAttr]
end Go.Proofs.YtodfajmihkagnaaGreatDoor.bq
