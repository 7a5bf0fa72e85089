/- Laws that the proof uses. -/
import Derived.Test.YtodfajmihkagnaaGreatDoorDfKb
import Derived.Test.YtodfajmihkagnaaGreatDoorAm16
import Derived.Lib.ItoaNum
import Derived.Test.YtodfajmihkagnaaGreatDoorAm13
set_option linter.unusedVariables false
set_option linter.unusedSimpArgs false
set_option maxRecDepth 10000
namespace Go.Proofs.YtodfajmihkagnaaGreatDoor.na
open Go Am
abbrev Str:=List Nat
def cJ (c:Nat):Str->List Str
 |[]=>[[]]|b::s=>if b=c then []::cJ c s else match cJ c s with|[]=>[[b]]|h::t=>(b::h)::t
theorem Cm (c:Nat):∀s,cJ c s≠[]
 |[]=>by simp[cJ]
 |b::s=>by
  unfold cJ;split;·simp
  ·split<;>simp
theorem QC {c:Nat}:∀{s:Str},c∉s->cJ c s=[s]
 |[],_=>rfl|b::s,h=>by rw[aaD,not_or] at h;unfold cJ;rw[zz1 (λe=>h.1 e.symm),QC h.2]
theorem PA {c:Nat}:∀{a:Str} (r:Str),c∉a->cJ c (a++c::r)=a::cJ c r
 |[],r,_=>by show cJ c (c::r)=_;unfold cJ;rw[zz2 rfl];cases r<;>rfl
 |b::a,r,h=>by rw[aaD,not_or] at h;show cJ c (b::(a++c::r))=_;have:=PA r h.2;rw[cJ,zz1 (λe=>h.1 e.symm),this]
theorem WK {c:Nat}:∀{s:Str} {k:Nat},lT c s k=none->c∉s
 |[],k,_=>zzy|b::s,k,h=>by
  unfold lT at h;cases hb:Nat.beq b c with
  |true=>rw[hb] at h;cases h
  |false=>
   rw[hb] at h;have h1:b≠c:=λe=>by subst e;rw[ait] at hb;cases hb
   rw[aaD,not_or];exact⟨λe=>h1 e.symm,WK h⟩
theorem LD {c:Nat}:∀{s:Str} {k i:Nat},lT c s k=some i->∃a r,s=a++c::r/\i=k+a.length/\c∉a
 |[],k,i,h=>by cases h
 |b::s,k,i,h=>by
  unfold lT at h;cases hb:Nat.beq b c with
  |true=>
   rw[hb] at h;cases h;have:b=c:=aa9 hb;subst this;exact⟨[],s,rfl,rfl,zzy⟩
  |false=>
   rw[hb] at h;have h1:b≠c:=λe=>by subst e;rw[ait] at hb;cases hb
   obtain⟨a,r,rfl,rfl,h3⟩:=LD h;refine⟨b::a,r,rfl,by simp;omega,?_⟩;rw[aaD,not_or];exact⟨λe=>h1 e.symm,h3⟩
theorem amZ {c:Nat}:∀{a:Str} (r:Str) (k:Nat),c∉a->lT c (a++c::r) k=some (k+a.length)
 |[],r,k,_=>by show lT c (c::r) k=_;unfold lT;rw[ait];rfl
 |b::a,r,k,h=>by
  rw[aaD,not_or] at h;show lT c (b::(a++c::r)) k=_;unfold lT;have hb:Nat.beq b c=false:=by rw[<-ahM];exactλe=>h.1 (aa9 e).symm
  rw[hb,cond_false,amZ r (k+1) h.2,aaP];congr 1;omega
theorem Iu (c:Nat):∀s,(cJ c s).length=iE c s+1
 |[]=>rfl|b::s=>by
  have ih:=Iu c s;unfold cJ iE;by_cases h:b=c;·subst h;rw[zz2 rfl,ait,cond_true,aaP,ih]
  ·have hb:Nat.beq b c=false:=by rw[<-ahM];exactλe=>h (aa9 e)
   rw[zz1 h,hb,cond_false];cases hs:cJ c s with
   |nil=>exact absurd hs (Cm c s)|cons x y=>rw[hs] at ih;exact ih
theorem TK (c:Nat):∀s:Str,iE c s<=s.length
 |[]=>aaO _|b::s=>by have:=TK c s;unfold iE;cases Nat.beq b c<;>simp<;>omega
theorem MQ {c:Nat}:∀{s:Str} {p:Str},p∈cJ c s->(∀b∈p,b∈s)/\c∉p/\p.length<=s.length
 |[],p,h=>by
  have:p=[]:=by simpa[cJ] using h
  subst this;simp
 |b::s,p,h=>by
  unfold cJ at h;by_cases hb:b=c
  ·rw[zz2 hb] at h;rcases aaD.1 h with rfl|h;·simp
   ·obtain⟨h1,h2,h3⟩:=MQ h;exact⟨λx hx=>.tail _ (h1 x hx),h2,by simp;omega⟩
  ·rw[zz1 hb] at h;cases hs:cJ c s with
   |nil=>exact absurd hs (Cm c s)|cons x y=>
    rw[hs] at h;rcases aaD.1 h with rfl|h
    ·obtain⟨h1,h2,h3⟩:=MQ (c:=c) (s:=s) (p:=x) (by rw[hs];exact .head _);refine⟨λz hz=>?_,?_,by simp;omega⟩
     ·rcases aaD.1 hz with rfl|hz;·exact .head _
      ·exact .tail _ (h1 z hz)
     ·rw[aaD,not_or];exact⟨λe=>hb e.symm,h2⟩
    ·obtain⟨h1,h2,h3⟩:=MQ (c:=c) (s:=s) (p:=p) (by rw[hs];exact .tail _ h);exact⟨λz hz=>.tail _ (h1 z hz),h2,by simp;omega⟩
def lH (c:Nat):List Str->Str
 |[]=>[]|[a]=>a|a::b::l=>a++c::lH c (b::l)
theorem TJ {c:Nat}:∀{l:List Str},l≠[]->(∀p∈l,c∉p)->cJ c (lH c l)=l
 |[],h,_=>absurd rfl h|[a],_,h=>QC (h a (.head _))|a::b::l,_,h=>by show cJ c (a++c::lH c (b::l))=_;rw[PA _ (h a (.head _)),TJ zzy λp hp=>h p (.tail _ hp)]
theorem aer (c:Nat):∀s,lH c (cJ c s)=s
 |[]=>rfl|b::s=>by
  have ih:=aer c s;unfold cJ;by_cases h:b=c
  ·rw[zz2 h];cases hs:cJ c s with
   |nil=>exact absurd hs (Cm c s)|cons x y=>rw[hs] at ih;show[]++c::lH c (x::y)=_;rw[ih,h];rfl
  ·rw[zz1 h];cases hs:cJ c s with
   |nil=>exact absurd hs (Cm c s)|cons x y=>
    rw[hs] at ih;cases y with
    |nil=>show b::x=_;rw[<-ih];rfl|cons z w=>show b::x++c::lH c (z::w)=_;rw[<-ih];rfl
end Go.Proofs.YtodfajmihkagnaaGreatDoor.na
namespace Go.Proofs.YtodfajmihkagnaaGreatDoor.bD
open Go Am Am.K lD na
section
section
variable {H:Hp}{c el:Nat}
theorem SG {aU:Nat}{k:Ext}{fn:Func}{args:List AV}{r:AV×Hp}(hp:bH aU=none)(hf:P.funcs[aU]?=some fn)(hb:fn.body=none)(he:ext aU=some k)(h:ID P k args H=some r):cK (.func (.func aU) [] []) args H=some r:=by refine Y3 Qx ?_;unfold AB;simp only[hp,afP,acQ,hf,hb,he];exact h
def nR:Option Nat->Int
 |some i=>i|none=>-1
theorem aDr (hc:c<256)(s:Str)(H:Hp):cK (zf 197) [.str s,.int .u8 c] H=some (zi (nR (lT c s 0)),H):=by refine SG (k:=.T9) zzw Tryz.func197 rfl zzw ?_;show some (AV.int .i64 (match lT (Int.toNat (c:Int)%256) s 0 with|some i=>(i:Int)|none=>-1),H)=_;rw[abI,ahr hc];cases lT c s 0<;>rfl
theorem aIq (hc:c<256)(s:Str)(H:Hp):cK (zf 171) [.str s,.int .u8 c] H=some (zi (iE c s:Nat),H):=by refine SG (k:=.count) zzw Tryz.func171 rfl zzw ?_;show some (AV.int .i64 (iE (Int.toNat (c:Int)%256) s:Nat),H)=_;rw[abI,ahr hc]
theorem axJ (hc:c<256)(s:Str)(H:Hp):cK (zf 186) [.str s,.int .u8 c] H=some (zi (nR (lT c s 0)),H):=by refine aDy ?_;unfold aoT;simp only[aDr hc,zz0,Int.reduceBEq,Int.reduceBNe,Int.reduceLT,Int.reduceLE,Int.reduceGT,Int.reduceGE,Int.reduceNeg]
theorem VB (hc:c<256)(s:Str)(H:Hp):cK (zf 172) [.str s,.str [c]] H=some (zi (nR (lT c s 0)),H):=by
 refine ayk ?_;unfold aoV;have h1:Ah (.str [c]) (zi 0)=some (.int .u8 c):=ae9 .i64 rfl;simp only[axJ hc,h1,aaP,ach,Int.ofNat_one,Nat.reduceAdd,Int.natCast_one,zz0,Int.reduceBEq,Int.reduceBNe,Int.reduceLT,Int.reduceLE,Int.reduceGT,Int.reduceGE,Int.reduceNeg];rw[LA];split
 ·rename_i h;have h:[c]=s:=by simpa using h
  subst h;unfold lT;rw[ait];rfl
 ·rfl
theorem aEa (hc:c<256)(s:Str)(H:Hp):cK (zf 151) [.str s,.str [c]] H=some (zi (nR (lT c s 0)),H):=by refine aEN ?_;unfold ajM;simp only[VB hc,zz0,Int.reduceBEq,Int.reduceBNe,Int.reduceLT,Int.reduceLE,Int.reduceGT,Int.reduceGE,Int.reduceNeg]
theorem aFg (hc:c<256)(s:Str)(H:Hp):cK (zf 150) [.str s,.str [c]] H=some (zi (iE c s:Nat),H):=by refine aIm ?_;unfold anu;have h1:Ah (.str [c]) (zi 0)=some (.int .u8 c):=ae9 .i64 rfl;simp only[aIq hc,h1,aaP,ach,Int.ofNat_one,Nat.reduceAdd,Int.natCast_one,zz0,Int.reduceBEq,Int.reduceBNe,Int.reduceLT,Int.reduceLE,Int.reduceGT,Int.reduceGE,Int.reduceNeg]
def cut (c:Nat)(s:Str):Str×Str×Bool:=match lT c s 0 with
 |some i=>(s.take i,s.drop (i+1),true)|none=>(s,[],false)
theorem ars (hc:c<256){s:Str}(hs:s.length<=1073741824)(H:Hp):cK (zf 152) [.str s,.str [c]] H=some (.tuple [.str (cut c s).1,.str (cut c s).2.1,.bool (cut c s).2.2],H):=by
 refine atB ?_;unfold anf cut;cases hi:lT c s 0 with
 |none=>
  have d:decide ((0:Int) <= -1)=false:=zzx;simp only[VB hc,hi,nR,d,zz0,Int.reduceBEq,Int.reduceBNe,Int.reduceLT,Int.reduceLE,Int.reduceGT,Int.reduceGE,Int.reduceNeg]
 |some i=>
  obtain⟨a,r,rfl,rfl,ha⟩:=LD hi;rw[ade] at hi;simp only[aal,aaP] at hs;have d:decide ((0:Int)<=((a.length:Nat):Int))=true:=zz3 zzz;have w:IntKind.wrap .i64 ((a.length:Int)+((1:Nat):Int))=((a.length+1:Nat):Int):=by rw[wrap_i64 zzz zzz];rfl
  have h1:qM (.str (a++c::r)) none (some (zi (a.length:Nat)))=some (.str ((a++c::r).take a.length)):=aiv .i64 zzy;have h2:qM (.str (a++c::r)) (some (zi (a.length+1:Nat))) none=some (.str ((a++c::r).drop (a.length+1))):=agD .i64 zzy;simp only[VB hc,hi,nR,d,h1,h2,w,aaP,ach,ade,zz0,Int.reduceBEq,Int.reduceBNe,Int.reduceLT,Int.reduceLE,Int.reduceGT,Int.reduceGE,Int.reduceNeg]
theorem aA5 (hc:c<256){s:Str}(hs:s.length<=1073741824)(H:Hp):cK (zf 117) [.str s,.str [c]] H=some (.tuple [.str (cut c s).1,.str (cut c s).2.1,.bool (cut c s).2.2],H):=by refine aBY ?_;unfold aeN;simp only[ars hc hs,zz0,Int.reduceBEq,Int.reduceBNe,Int.reduceLT,Int.reduceLE,Int.reduceGT,Int.reduceGE,Int.reduceNeg]
def strs (l:List Str):List AV:=l.map .str
theorem gZ (l:List Str):(strs l).length=l.length:=by simp[strs]
theorem HY (a b:List Str):strs (a++b)=strs a++strs b:=by simp[strs]
theorem mS {l:List Str}{j:Nat}{z:Str}(h:l[j]?=some z):(strs l)[j]?=some (.str z):=by simp[strs,h]
theorem aCL (hc:c<256){A n:Nat}:∀(m:Nat) (s:Str) (dn:List Str) (H:Hp),s.length=m->m<=1073741824->n<=1073741824->dn.length+(cJ c s).length=n->Cs H A (strs dn++List.replicate (n-dn.length) (AV.str [])) el 0->
  ∃GC s' H',(∀k:K.Fn 3,abo JN GO cK k (.str s) (.str [c]) (zi 0) (zi ((n-1:Nat):Int)) (.slice A 0 n n true 1) (zi (dn.length:Nat)) H=k (.str s') (.slice A 0 n n true 1) (zi (GC.length:Nat)) H')/\
   GC++[s']=dn++cJ c s/\GC.length<n/\Cs H' A (strs GC++List.replicate (n-GC.length) (AV.str [])) el 0/\Out [A] H H':=by
 intro m;induction m using Nat.strongRecOn with
 |_ m ih=>
 intro s dn H hm hmb WJ hn hC;have KM:=Iu c s;by_cases J9:dn.length+1=n
 ·have vG:cJ c s=[s]:=by
   cases hi:lT c s 0 with
   |none=>exact QC (WK hi)|some i=>
    obtain⟨a,r,rfl,rfl,ha⟩:=LD hi;have h1:=PA (c:=c) r ha;have h2:=Iu c r;rw[h1,aaP] at hn;omega
  have d:decide (((dn.length:Nat):Int)<((n-1:Nat):Int))=false:=zz4 zzz;refine⟨dn,s,H,λk=>?_,by rw[vG],zzz,hC,Out.refl _ _⟩;rw[ajj];simp only[Y9,d,zz0,Int.reduceBEq,Int.reduceBNe,Int.reduceLT,Int.reduceLE,Int.reduceGT,Int.reduceGE,Int.reduceNeg]
 ·have d:decide (((dn.length:Nat):Int)<((n-1:Nat):Int))=true:=zz3 zzz;cases hi:lT c s 0 with
  |none=>
   have vG:=QC (WK hi);rw[vG] at hn;simp only[aaP,ach] at hn;omega
  |some i=>
   obtain⟨a,r,rfl,rfl,ha⟩:=LD hi;rw[ade] at hi;have h1:=PA (c:=c) r ha;rw[h1,aaP] at hn;simp only[aal,aaP] at hm;obtain⟨H1,w1,w2,w3,w4⟩:=ff hC zzx (o:=dn.length) (by rw[aal,gZ,afg];omega) (v:=.str a) rfl;have fY:(strs dn++List.replicate (n-dn.length) (AV.str [])).set dn.length (AV.str a)=strs (dn++[a])++List.replicate (n-(dn++[a]).length) (AV.str []):=by rw[amh _ _ (by rw[gZ];omega),gZ,ajQ,HY,abr];congr 1;rw[aal,show n-dn.length=(n-(dn.length + [a].length))+1 by simp;omega,List.replicate_succ];rfl
   rw[fY] at w2;obtain⟨GC,s',H',i1,i2,i3,i4,i5⟩:=ih r.length zzz r (dn++[a]) H1 rfl zzz WJ (by rw[aal];simp;omega) w2;have d2:decide ((((a.length:Nat)):Int)<0)=false:=zz4 zzz;have e1:IntKind.wrap .i64 ((a.length:Int)+0)=((a.length:Nat):Int):=by rw[wrap_i64 zzz zzz];omega
   have e2:IntKind.wrap .i64 ((a.length:Int)+((1:Nat):Int))=((a.length+1:Nat):Int):=by rw[wrap_i64 zzz zzz];rfl
   have e3:IntKind.wrap .i64 ((dn.length:Int)+1)=(((dn++[a]).length:Nat):Int):=by rw[wrap_i64 zzz zzz,aal];rfl
   have q1:qM (.str (a++c::r)) none (some (zi (a.length:Nat)))=some (.str a):=by rw[aiv .i64 zzy];simp
   have q2:qM (.str (a++c::r)) (some (zi (a.length+1:Nat))) none=some (.str r):=by rw[agD .i64 zzy];simp[List.drop_append]
   have q3:ia 1 (.slice A 0 n n true 1) (zi (dn.length:Nat))=some (.ptr A dn.length):=by rw[DL zzz];simp
   refine⟨GC,s',H',λk=>?_,by rw[i2,h1,abr];rfl,i3,i4,w3.trans i5⟩;rw[ajj];simp only[Y9,d,aEa hc,hi,nR,d2,e1,q1,q3,w1,aaP,ach,e2,q2,e3,i1,zz0,Int.reduceBEq,Int.reduceBNe,Int.reduceLT,Int.reduceLE,Int.reduceGT,Int.reduceGE,Int.reduceNeg]
theorem afQ {z:AV}{n:Nat}(k j:IntKind)(hn:n<=1048576):B6 [z] el 1 (.int k n) (.int j n) H=some (.slice H.next 0 n n true 1,al H (List.replicate n z) el 0):=by
 unfold B6;have hr:rep n [z]=List.replicate n z:=by
  unfold rep;induction n with
  |zero=>rfl|succ m ih=>rw[List.replicate_succ,agL,ih zzz,List.replicate_succ];rfl
 simp only;rw[zz2 ⟨zzz,zzz,zzz⟩,abI,hr,eh (by rw[afg];omega)];rfl
theorem aAz (hc:c<256){s:Str}(hs:s.length<=1000000)(H:Hp):
  ∃x H',cK (zf 116) [.str s,.str [c],zi 0,zi (-1)] H=some (x,H')/\Rw H' 1 x (strs (cJ c s))/\Out [] H H'/\∀j∈ak x,H.next<=j:=by
 have hn:=Iu c s;have hle:=TK c s;have e0:([c]==([]:List Nat))=false:=rfl;have e1:IntKind.wrap .i64 ((iE c s:Int)+1)=((iE c s+1:Nat):Int):=by rw[wrap_i64 zzz zzz];rfl
 have e2:IntKind.wrap .i64 ((s.length:Int)+1)=((s.length+1:Nat):Int):=by rw[wrap_i64 zzz zzz];rfl
 have e3:(if ((s.length+1:Nat):Int)<((iE c s+1:Nat):Int) then ((s.length+1:Nat):Int) else ((iE c s+1:Nat):Int))=((iE c s+1:Nat):Int):=zz1 zzz;have e4:IntKind.wrap .i64 (((iE c s+1:Nat):Int)-1)=((iE c s+1-1:Nat):Int):=by rw[wrap_i64 zzz zzz];omega
 have hm:=afQ (H:=H) (z:=.str []) (el:=9) (n:=iE c s+1) .i64 .i64 zzz;have hC:Cs (al H (List.replicate (iE c s+1) (AV.str [])) 9 0) H.next (strs []++List.replicate (iE c s+1-([]:List Str).length) (AV.str [])) 9 0:=aP H _ _ _;obtain⟨dn,s',H1,i1,i2,i3,i4,i5⟩:=aCL hc (n:=iE c s+1) s.length s [] _ rfl zzz zzz (by simp;omega) hC;obtain⟨H2,w1,w2,w3,w4⟩:=ff i4 zzx (o:=dn.length) (by rw[aal,gZ,afg];omega) (v:=.str s') rfl;have il:dn.length+1=iE c s+1:=by have:=congrArg List.length i2;simp only[aal,aaP,ach] at this;omega
 have fY:(strs dn++List.replicate (iE c s+1-dn.length) (AV.str [])).set dn.length (AV.str s')=strs (cJ c s):=by
  rw[amh _ _ (by rw[gZ];omega),gZ,ajQ,show iE c s+1-dn.length=1 by omega];have:cJ c s=dn++[s']:=by rw[i2];rfl
  rw[this,HY];rfl
 rw[fY] at w2;have e5:IntKind.wrap .i64 ((dn.length:Int)+1)=((iE c s+1:Nat):Int):=by rw[wrap_i64 zzz zzz];omega
 have q3:ia 1 (.slice H.next 0 (iE c s+1) (iE c s+1) true 1) (zi (dn.length:Nat))=some (.ptr H.next dn.length):=by rw[DL zzz];simp
 have Oj:Rw H2 1 (.slice H.next 0 (iE c s+1) (iE c s+1) true 1) (strs (cJ c s)):=.mk w2.ro (by rw[gZ,hn,adM]) (aaO _) (by rw[rm (Nat.succ_ne_zero _)];rfl);obtain⟨x,x1,x2,x3⟩:=yD (n:=iE c s+1) Oj (by rw[gZ,hn,adM]) zzx (a:=0) (b:=iE c s+1) (lo:=none) (hi:=some (zi (iE c s+1:Nat))) zzz (aaO _) (Bd.no 0) (Bd.yes _ _ _);rw[ag0,aaY,agA,adM,afe (by rw[gZ];omega)] at x2;refine⟨x,H2,ap9 ?_,x2,?_,λj hj=>?_⟩;·unfold aio;have I6:=i1;simp only[ach] at I6;rw[show (((0:Nat):Int))=0 from rfl] at I6;simp only[e0,aFg hc,e1,e2,Me,e3,hm,e4,I6,q3,w1,e5,x1,zz0,Int.reduceBEq,Int.reduceBNe,Int.reduceLT,Int.reduceLE,Int.reduceGT,Int.reduceGE,Int.reduceNeg]
 ·have:Out [H.next] (al H (List.replicate (iE c s+1) (AV.str [])) 9 0) H2:=i5.trans w3;exact (aD H _ _ _).then this λj hj=>by rw[No] at hj;exact .inr zzz
 ·have:=x3 j hj;rw[pK (by rw[rm (Nat.succ_ne_zero _)];rfl)] at this;rw[No] at this;omega
theorem Yc (hc:c<256){s:Str}(hs:s.length<=1000000)(H:Hp):
  ∃x H',cK (zf 88) [.str s,.str [c]] H=some (x,H')/\Rw H' 1 x (strs (cJ c s))/\Out [] H H'/\∀j∈ak x,H.next<=j:=by
 obtain⟨x,H',h1,h2⟩:=aAz hc hs H;refine⟨x,H',aq3 ?_,h2⟩;unfold agy;simp only[h1,zz0,Int.reduceBEq,Int.reduceBNe,Int.reduceLT,Int.reduceLE,Int.reduceGT,Int.reduceGE,Int.reduceNeg]
end
def ints (l:List Int):List AV:=l.map λz=>zi z
theorem nb (l:List Int):(ints l).length=l.length:=by simp[ints]
theorem atP (l:List Int):∀v∈ints l,aZ v=true:=by intro v hv;obtain⟨b,_,rfl⟩:=abT.1 hv;rfl
theorem Qk (a b:List Int):ints (a++b)=ints a++ints b:=by simp[ints]
section
variable {H H0:Hp}{i:Nat}{l:List Int}{x y:AV}
theorem Dw {j:Nat}{z:Int}(h:l[j]?=some z):(ints l)[j]?=some (zi z):=by simp[ints,h]
theorem M5 (o:Option Nat):decide ((0:Int)<=nR o)=o.isSome:=by
 cases o with
 |none=>rfl|some i=>exact zz3 (by show (0:Int)<=(i:Int);omega)
theorem dC {n:Nat}(h:i<n)(hn:n<=16777216):IntKind.wrap .i64 ((i:Int)+1)=((i+1:Nat):Int):=by rw[wrap_i64 zzz zzz];rfl
theorem aN {n:Nat}(h:i<n):decide (((i:Nat):Int)<((n:Nat):Int))=true:=zz3 zzz
theorem df {n:Nat}:decide (((n:Nat):Int)<((n:Nat):Int))=false:=zz4 zzz
theorem drop_nil {α:Type}{l:List α}(hi:i<=l.length)(h:l.drop i=[]):i=l.length:=by have:=congrArg List.length h;rw[aeF,ach] at this;omega
theorem agf {x:AV}{l:List Str}{s:Str}{H:Hp}(hx:Rw H 1 x (strs l))(hl:l.length<=16777216)(k:K.Fn 0):∀(r:List Str) (i:Nat),i<=l.length->l.drop i=r->
  Z2 JN GO cK k x (.str s) (zi (l.length:Nat)) (zi (i:Nat)) H=match r.findIdx? (λa=>s==a) with|some j=>some (zi ((i+j:Nat):Int),H)|none=>k H
 |[],i,hi,h=>by obtain rfl:=drop_nil hi h;rw[aoq];simp only[Wy,df,List.findIdx?_nil,zz0,simprocAttr]
 |a::r,i,hi,h=>by
  obtain⟨h1,h2,h3⟩:=dU h;obtain⟨q,q1,q2⟩:=hx.fW (mS h2) .i64;have e:=dC h1 hl;have ih:=agf (s:=s) hx hl k r (i+1) h1 h3;rw[aoq];simp only[Wy,aN h1,q1,q2,e,ih,LA,ajW,zz0,simprocAttr];cases hb:(s==a) with
  |true=>simp|false=>
   cases hf:r.findIdx? (λa=>s==a) with
   |none=>simp|some j=>simp;omega
theorem QB {l:List Str}(hx:Rw H 1 x (strs l))(hl:l.length<=16777216)(s:Str):cK (zf 104) [x,.str s] H=some (zi (nR (l.findIdx? (λa=>s==a))),H):=by refine aBS ?_;unfold anT;have h1:=hx.gu;rw[gZ] at h1;have h2:=λk=>agf (s:=s) hx hl k l 0 (aa7 _) aaY;rw[show (((0:Nat):Int))=0 from rfl] at h2;simp only[h1,h2,zz0,simprocAttr];cases l.findIdx? (λa=>s==a)<;>rfl
theorem Xo {l:List Str}(hx:Rw H 1 x (strs l))(hl:l.length<=16777216)(s:Str):cK (zf 94) [x,.str s] H=some (.bool (l.any (λa=>s==a)),H):=by refine aBj ?_;unfold aj3;simp only[QB hx hl,M5,List.findIdx?_isSome,zz0,simprocAttr]
theorem ahV {x:AV}{l:List Int}{s:Int}{H:Hp}(hx:Rw H 1 x (ints l))(hl:l.length<=16777216)(k:K.Fn 0):∀(r:List Int) (i:Nat),i<=l.length->l.drop i=r->
  US JN GO cK k x (zi s) (zi (l.length:Nat)) (zi (i:Nat)) H=match r.findIdx? (λa=>s==a) with|some j=>some (zi ((i+j:Nat):Int),H)|none=>k H
 |[],i,hi,h=>by obtain rfl:=drop_nil hi h;rw[adl];simp only[Yv,df,List.findIdx?_nil,zz0,simprocAttr]
 |a::r,i,hi,h=>by
  obtain⟨h1,h2,h3⟩:=dU h;obtain⟨q,q1,q2⟩:=hx.fW (Dw h2) .i64;have e:=dC h1 hl;have ih:=ahV (s:=s) hx hl k r (i+1) h1 h3;rw[adl];simp only[Yv,aN h1,q1,q2,e,ih,LA,ajW,zz0,simprocAttr];cases hb:(s==a) with
  |true=>simp|false=>
   cases hf:r.findIdx? (λa=>s==a) with
   |none=>simp|some j=>simp;omega
theorem aEv (hx:Rw H 1 x (ints l))(hl:l.length<=16777216)(s:Int):cK (zf 174) [x,zi s] H=some (zi (nR (l.findIdx? (λa=>s==a))),H):=by refine aG5 ?_;unfold ao3;have h1:=hx.gu;rw[nb] at h1;have h2:=λk=>ahV (s:=s) hx hl k l 0 (aa7 _) aaY;rw[show (((0:Nat):Int))=0 from rfl] at h2;simp only[h1,h2,zz0,simprocAttr];cases l.findIdx? (λa=>s==a)<;>rfl
theorem azo (hx:Rw H 1 x (ints l))(hl:l.length<=16777216)(s:Int):cK (zf 154) [x,zi s] H=some (.bool (l.any (λa=>s==a)),H):=by refine ax3 ?_;unfold afi;simp only[aEv hx hl,M5,List.findIdx?_isSome,zz0,simprocAttr]
theorem ag8 {x fv:AV}{l:List Int}{p:Int->Bool}{H0:Hp}(hx:Rw H0 1 x (ints l))(hl:l.length<=16777216)(hp:∀H,Out [] H0 H->∀a∈l,∃H',cK fv [zi a] H=some (.bool (p a),H')/\Out [] H H'):∀(r:List Int) (i:Nat) (H:Hp),Out [] H0 H->i<=l.length->l.drop i=r->
  ∃H',Out [] H H'/\∀k:K.Fn 0,V2 JN GO cK k x fv (zi (l.length:Nat)) (zi (i:Nat)) H=match r.findIdx? p with|some j=>some (zi ((i+j:Nat):Int),H')|none=>k H'
 |[],i,H,ho,hi,h=>by obtain rfl:=drop_nil hi h;refine⟨H,Out.refl _ _,λk=>?_⟩;rw[VQ];simp only[QR,df,List.findIdx?_nil,zz0,simprocAttr]
 |a::r,i,H,ho,hi,h=>by
  obtain⟨h1,h2,h3⟩:=dU h;obtain⟨q,q1,q2⟩:=(hx.au ho).fW (Dw h2) .i64;have e:=dC h1 hl;obtain⟨H1,p1,p2⟩:=hp H ho a (aac h2);cases hb:p a with
  |true=>
   refine⟨H1,p2,λk=>?_⟩;rw[VQ];simp only[QR,aN h1,q1,q2,p1,hb,ajW,if_true,aed,zz0,simprocAttr]
  |false=>
   obtain⟨H',i1,i2⟩:=ag8 hx hl hp r (i+1) H1 (ho.trans p2) h1 h3;refine⟨H',p2.trans i1,λk=>?_⟩;rw[VQ];simp only[QR,aN h1,q1,q2,p1,hb,e,i2,ajW,zz0,simprocAttr];cases hf:r.findIdx? p with
   |none=>simp|some j=>simp;omega
theorem aE6 {fv:AV}{p:Int->Bool}(hx:Rw H0 1 x (ints l))(hl:l.length<=16777216)(hp:∀H,Out [] H0 H->∀a∈l,∃H',cK fv [zi a] H=some (.bool (p a),H')/\Out [] H H'):
  ∃H',cK (zf 143) [x,fv] H0=some (.bool (l.any p),H')/\Out [] H0 H':=by
 obtain⟨H',h1,h2⟩:=ag8 hx hl hp l 0 H0 (Out.refl _ _) (aa7 _) aaY;rw[show (((0:Nat):Int))=0 from rfl] at h2;have hn:=hx.gu;rw[nb] at hn;have:cK (zf 163) [x,fv] H0=some (zi (nR (l.findIdx? p)),H'):=by refine aH3 ?_;unfold aoo;simp only[hn,h2,zz0,simprocAttr];cases l.findIdx? p<;>simp[nR]
 refine⟨H',aG1 ?_,h1⟩;unfold ali;simp only[this,M5,List.findIdx?_isSome,zz0,simprocAttr]
theorem akQ {x fv:AV}{L:List (List AV)}{p:List AV->Bool}{H0:Hp}(hx:RL H0 6 x L)(hl:L.length<=16777216)(hp:∀H,Out [] H0 H->∀a∈L,∃H',cK fv [.agg a] H=some (.bool (p a),H')/\Out [] H H'):∀(r:List (List AV)) (i:Nat) (H:Hp),Out [] H0 H->i<=L.length->L.drop i=r->
  ∃H',Out [] H H'/\∀k:K.Fn 0,ZH JN GO cK k x fv (zi (L.length:Nat)) (zi (i:Nat)) H=match r.findIdx? p with|some j=>some (zi ((i+j:Nat):Int),H')|none=>k H'
 |[],i,H,ho,hi,h=>by obtain rfl:=drop_nil hi h;refine⟨H,Out.refl _ _,λk=>?_⟩;rw[Xf];simp only[RN,df,List.findIdx?_nil,zz0,simprocAttr]
 |a::r,i,H,ho,hi,h=>by
  obtain⟨h1,h2,h3⟩:=dU h;obtain⟨b,o,q1,_,_,q2,_⟩:=(hx.au ho).at zzx h2;have e:=dC h1 hl;obtain⟨H1,p1,p2⟩:=hp H ho a (aac h2);cases hb:p a with
  |true=>
   refine⟨H1,p2,λk=>?_⟩;rw[Xf];simp only[RN,aN h1,q1,PL,q2,adX,p1,hb,ajW,if_true,aed,zz0,simprocAttr]
  |false=>
   obtain⟨H',i1,i2⟩:=akQ hx hl hp r (i+1) H1 (ho.trans p2) h1 h3;refine⟨H',p2.trans i1,λk=>?_⟩;rw[Xf];simp only[RN,aN h1,q1,PL,q2,adX,p1,hb,e,i2,ajW,zz0,simprocAttr];cases hf:r.findIdx? p with
   |none=>simp|some j=>simp;omega
theorem apG {fv:AV}{L:List (List AV)}{p:List AV->Bool}(hx:RL H0 6 x L)(hl:L.length<=16777216)(hp:∀H,Out [] H0 H->∀a∈L,∃H',cK fv [.agg a] H=some (.bool (p a),H')/\Out [] H H'):
  ∃H',cK (zf 95) [x,fv] H0=some (.bool (L.any p),H')/\Out [] H0 H':=by
 obtain⟨H',h1,h2⟩:=akQ hx hl hp L 0 H0 (Out.refl _ _) (aa7 _) aaY;rw[show (((0:Nat):Int))=0 from rfl] at h2;have hn:=hx.len zzx;have:cK (zf 135) [x,fv] H0=some (zi (nR (L.findIdx? p)),H'):=by refine auj ?_;unfold adw;simp only[hn,h2,zz0,simprocAttr];cases L.findIdx? p<;>simp[nR]
 refine⟨H',aCl ?_,h1⟩;unfold ag5;simp only[this,M5,List.findIdx?_isSome,zz0,simprocAttr]
theorem aGz {l:List AV}(hx:Rw H 1 x l)(ho:∀v∈l,aZ v=true)(hl:l.length<=16777216):
  ∃y H',cK (zf 137) [x] H=some (y,H')/\Ow H' 3 1 y l/\Out [] H H'/\(∀j∈ak y,H.next<=j)/\(x=.ah->y=.ah):=by
 have hu:P.underlying 97=some (.slice 3):=Tryz.underlying97;by_cases h0:x=.ah
 ·subst h0;have:l=[]:=by cases hx;rfl
  subst this;refine⟨.ah,H,akm ?_,.nil,Out.refl _ _,λj hj=>by simp[ak] at hj,λ_=>rfl⟩;unfold aaf;simp only[OV,oM,KV hu,zz0,simprocAttr]
 ·obtain⟨y,H',h1,h2,h3,h4⟩:=He (el:=3) (el2:=3) (z:=[(zi 0)]) hx ho zzx hl;refine⟨y,H',akm ?_,h2,h3,h4,λq=>absurd q h0⟩;have hq:∃i o n c ex es',x=.slice i o n c ex es':=by
   cases hx with
   |nil=>exact absurd rfl h0|emp=>exact⟨_,_,_,_,_,_,rfl⟩|mk _ _ _ _=>exact⟨_,_,_,_,_,_,rfl⟩
  obtain⟨i,o,n,c,ex,es',rfl⟩:=hq;unfold aaf;have cF:az H [] 3 0=some (H.next,al H [] 3 0):=eh zzy;simp only[N5,oM,Mo hu,pz,cF,h1,zz0,simprocAttr]
theorem ajU {l:List AV}(hx:Rw H 1 x l)(ho:∀v∈l,aZ v=true)(hl:l.length<=16777216):
  ∃y H',cK (zf 30) [x] H=some (y,H')/\Ow H' 9 1 y l/\Out [] H H'/\(∀j∈ak y,H.next<=j)/\(x=.ah->y=.ah):=by
 have hu:P.underlying 46=some (.slice 9):=Tryz.underlying46;by_cases h0:x=.ah
 ·subst h0;have:l=[]:=by cases hx;rfl
  subst this;refine⟨.ah,H,ak0 ?_,.nil,Out.refl _ _,λj hj=>by simp[ak] at hj,λ_=>rfl⟩;unfold aaj;simp only[OV,oM,KV hu,zz0,simprocAttr]
 ·obtain⟨y,H',h1,h2,h3,h4⟩:=He (el:=9) (el2:=9) (z:=[(.str [])]) hx ho zzx hl;refine⟨y,H',ak0 ?_,h2,h3,h4,λq=>absurd q h0⟩;have hq:∃i o n c ex es',x=.slice i o n c ex es':=by
   cases hx with
   |nil=>exact absurd rfl h0|emp=>exact⟨_,_,_,_,_,_,rfl⟩|mk _ _ _ _=>exact⟨_,_,_,_,_,_,rfl⟩
  obtain⟨i,o,n,c,ex,es',rfl⟩:=hq;unfold aaj;have cF:az H [] 9 0=some (H.next,al H [] 9 0):=eh zzy;simp only[N5,oM,Mo hu,pz,cF,h1,zz0,simprocAttr]
theorem awv {l:List AV}(hx:Rw H 6 x l)(ho:∀v∈l,aZ v=true)(hl:l.length<=16777216):
  ∃y H',cK (zf 136) [x] H=some (y,H')/\Ow H' 99 6 y l/\Out [] H H'/\(∀j∈ak y,H.next<=j)/\(x=.ah->y=.ah):=by
 have hu:P.underlying 70=some (.slice 99):=Tryz.underlying70;by_cases h0:x=.ah
 ·subst h0;have:l=[]:=by cases hx;rfl
  subst this;refine⟨.ah,H,afY ?_,.nil,Out.refl _ _,λj hj=>by simp[ak] at hj,λ_=>rfl⟩;unfold abf;simp only[OV,oM,KV hu,zz0,simprocAttr]
 ·obtain⟨y,H',h1,h2,h3,h4⟩:=He (el:=99) (el2:=99) (z:=[(.str []),.ah,(zi 0),(zi 0),(zi 0),(.str [])]) hx ho zzx hl;refine⟨y,H',afY ?_,h2,h3,h4,λq=>absurd q h0⟩;have hq:∃i o n c ex es',x=.slice i o n c ex es':=by
   cases hx with
   |nil=>exact absurd rfl h0|emp=>exact⟨_,_,_,_,_,_,rfl⟩|mk _ _ _ _=>exact⟨_,_,_,_,_,_,rfl⟩
  obtain⟨i,o,n,c,ex,es',rfl⟩:=hq;unfold abf;have cF:az H [] 99 0=some (H.next,al H [] 99 0):=eh zzy;simp only[N5,oM,Mo hu,pz,cF,h1,zz0,simprocAttr]
theorem aFW {l:List AV}(hx:Rw H 4 x l)(ho:∀v∈l,aZ v=true)(hl:l.length<=16777216):
  ∃y H',cK (zf 138) [x] H=some (y,H')/\Ow H' 132 4 y l/\Out [] H H'/\(∀j∈ak y,H.next<=j)/\(x=.ah->y=.ah):=by
 have hu:P.underlying 73=some (.slice 132):=Tryz.underlying73;by_cases h0:x=.ah
 ·subst h0;have:l=[]:=by cases hx;rfl
  subst this;refine⟨.ah,H,aoe ?_,.nil,Out.refl _ _,λj hj=>by simp[ak] at hj,λ_=>rfl⟩;unfold VW;simp only[OV,oM,KV hu,zz0,simprocAttr]
 ·obtain⟨y,H',h1,h2,h3,h4⟩:=He (el:=132) (el2:=132) (z:=[(zi 0),(zi 0),(zi 0),(.str [])]) hx ho zzx hl;refine⟨y,H',aoe ?_,h2,h3,h4,λq=>absurd q h0⟩;have hq:∃i o n c ex es',x=.slice i o n c ex es':=by
   cases hx with
   |nil=>exact absurd rfl h0|emp=>exact⟨_,_,_,_,_,_,rfl⟩|mk _ _ _ _=>exact⟨_,_,_,_,_,_,rfl⟩
  obtain⟨i,o,n,c,ex,es',rfl⟩:=hq;unfold VW;have cF:az H [] 132 0=some (H.next,al H [] 132 0):=eh zzy;simp only[N5,oM,Mo hu,pz,cF,h1,zz0,simprocAttr]
theorem aef {x y:AV}{l m:List Str}{H:Hp}(hx:Rw H 1 x (strs l))(hy:Rw H 1 y (strs m))(hl:l.length<=16777216)(fV:l.length=m.length)(k:K.Fn 0):∀(r:List Str) (i:Nat),i<=l.length->l.drop i=r->
  Z3 JN GO cK k x y (zi (l.length:Nat)) (zi (i:Nat)) H=if r=m.drop i then k H else some (.bool false,H)
 |[],i,hi,h=>by obtain rfl:=drop_nil hi h;rw[aje];have:m.drop l.length=[]:=aiG zzz;simp only[UI,df,this,if_true,zz0,simprocAttr]
 |a::r,i,hi,h=>by
  obtain⟨h1,h2,h3⟩:=dU h;obtain⟨q,q1,q2⟩:=hx.fW (mS h2) .i64;obtain⟨b,hm⟩:∃b,m[i]?=some b:=⟨_,aaC zzz⟩;obtain⟨p,p1,p2⟩:=hy.fW (mS hm) .i64;have e:=dC h1 hl;have ih:=aef hx hy hl fV k r (i+1) h1 h3;have hd:m.drop i=b::m.drop (i+1):=by obtain⟨w1,w2⟩:=aag.1 hm;rw[aiB w1,w2]
  rw[aje,hd];generalize m.drop (i+1)=t at ih;simp only[UI,aN h1,q1,q2,p1,p2,e,ih,LA,zz0,simprocAttr];by_cases hb:a=b;·subst hb;simp
  ·simp[hb]
theorem avi {l m:List Str}(hx:Rw H 1 x (strs l))(hy:Rw H 1 y (strs m))(hl:l.length<=16777216):cK (zf 74) [x,y] H=some (.bool (decide (l=m)),H):=by
 refine aws ?_;unfold alx;have h1:=hx.gu;rw[gZ] at h1;have h2:=hy.gu;rw[gZ] at h2;by_cases fV:l.length=m.length
 ·have h3:=λk=>aef hx hy hl fV k l 0 (aa7 _) aaY;rw[show (((0:Nat):Int))=0 from rfl] at h3;have aF:(((l.length:Nat):Int) != ((m.length:Nat):Int))=false:=by simp[fV]
  simp only[h1,h2,aF,h3,aaY,zz0,simprocAttr];by_cases hb:l=m<;>simp[hb]
 ·have aF:(((l.length:Nat):Int) != ((m.length:Nat):Int))=true:=by simp;omega
  have hb:l≠m:=λe=>fV (by rw[e]);simp only[h1,h2,aF,hb,zz0,simprocAttr]
theorem aon {x y:AV}{l m:List Int}{H:Hp}(hx:Rw H 1 x (ints l))(hy:Rw H 1 y (ints m))(hl:l.length<=16777216)(fV:l.length=m.length)(k:K.Fn 0):∀(r:List Int) (i:Nat),i<=l.length->l.drop i=r->
  ZQ JN GO cK k x y (zi (l.length:Nat)) (zi (i:Nat)) H=if r=m.drop i then k H else some (.bool false,H)
 |[],i,hi,h=>by obtain rfl:=drop_nil hi h;rw[ajJ];have:m.drop l.length=[]:=aiG zzz;simp only[Z9,df,this,if_true,zz0,simprocAttr]
 |a::r,i,hi,h=>by
  obtain⟨h1,h2,h3⟩:=dU h;obtain⟨q,q1,q2⟩:=hx.fW (Dw h2) .i64;obtain⟨b,hm⟩:∃b,m[i]?=some b:=⟨_,aaC zzz⟩;obtain⟨p,p1,p2⟩:=hy.fW (Dw hm) .i64;have e:=dC h1 hl;have ih:=aon hx hy hl fV k r (i+1) h1 h3;have hd:m.drop i=b::m.drop (i+1):=by obtain⟨w1,w2⟩:=aag.1 hm;rw[aiB w1,w2]
  rw[ajJ,hd];generalize m.drop (i+1)=t at ih;simp only[Z9,aN h1,q1,q2,p1,p2,e,ih,LA,zz0,simprocAttr];by_cases hb:a=b;·subst hb;simp
  ·simp[hb]
theorem aDA {m:List Int}(hx:Rw H 1 x (ints l))(hy:Rw H 1 y (ints m))(hl:l.length<=16777216):cK (zf 72) [x,y] H=some (.bool (decide (l=m)),H):=by
 refine axU ?_;unfold amq;have h1:=hx.gu;rw[nb] at h1;have h2:=hy.gu;rw[nb] at h2;by_cases fV:l.length=m.length
 ·have h3:=λk=>aon hx hy hl fV k l 0 (aa7 _) aaY;rw[show (((0:Nat):Int))=0 from rfl] at h3;have aF:(((l.length:Nat):Int) != ((m.length:Nat):Int))=false:=by simp[fV]
  simp only[h1,h2,aF,h3,aaY,zz0,simprocAttr];by_cases hb:l=m<;>simp[hb]
 ·have aF:(((l.length:Nat):Int) != ((m.length:Nat):Int))=true:=by simp;omega
  have hb:l≠m:=λe=>fV (by rw[e]);simp only[h1,h2,aF,hb,zz0,simprocAttr]
end
end
open kJ
structure Gl (H:Hp):Prop where
 pow:∀i:Nat,i<20->cellAt H 0 i=some (.int .u64 ((10^i:Nat):Int))
 err:SP H
 nx:11<=H.next
section
variable {H H':Hp}{el i u:Nat}{l:List AV}
theorem Zt {L:List (Nat×List AV)}(h:CQ H L){g:Nat}(hm:(g,l)∈L){k:Nat}{v:AV}(hk:l[k]?=some v):cellAt H g k=some v:=by
 obtain⟨el,h⟩:=h;have h1:=h g l hm;have kN:=(aag.1 hk).1;unfold cellAt;rw[h1];have hb:(Nat.ble 0 k&&Nat.blt k l.length)=true:=by rw[aaM,ae2,adW];omega
 simp only[hb,cond_true];rw[C9,zz2 zzz];exact hk
theorem asm:∀i:Fin 20,(Rl.map (AV.int .u64))[i.val]?=some (.int .u64 ((10^i.val:Nat):Int)):=by
 intro i
 match i with
 |⟨0,_⟩=>rfl|⟨1,_⟩=>rfl|⟨2,_⟩=>rfl|⟨3,_⟩=>rfl|⟨4,_⟩=>rfl|⟨5,_⟩=>rfl|⟨6,_⟩=>rfl|⟨7,_⟩=>rfl|⟨8,_⟩=>rfl|⟨9,_⟩=>rfl|⟨10,_⟩=>rfl|⟨11,_⟩=>rfl|⟨12,_⟩=>rfl|⟨13,_⟩=>rfl|⟨14,_⟩=>rfl|⟨15,_⟩=>rfl|⟨16,_⟩=>rfl|⟨17,_⟩=>rfl|⟨18,_⟩=>rfl|⟨19,_⟩=>rfl|⟨n+20,h⟩=>omega
theorem Gl.of (h:CQ H qg)(hn:11<=H.next):Gl H where
 pow:=λi hi=>Zt h (l:=Rl.map (AV.int .u64)) (by unfold qg;simp) (asm ⟨i,hi⟩)
 err:=⟨⟨_,_,Zt h (g:=6) (k:=0) (by unfold qg;simp;rfl) rfl⟩,⟨_,_,Zt h (g:=7) (k:=0) (by unfold qg;simp;rfl) rfl⟩⟩
 nx:=hn
theorem Gl.out {S:List Nat}(h:Gl H)(k:Out S H H')(hs:∀j∈S,11<=j):Gl H' where
 pow:=λi hi=>by rw[k.cellAt (by have:=h.nx;omega) (λq=>by have:=hs _ q;omega)];exact h.pow i hi
 err:=by
  have hn:=h.nx;refine⟨?_,?_⟩;·obtain⟨t,p,q⟩:=h.err.syn;exact⟨t,p,by rw[k.cellAt zzz (λq=>by have:=hs _ q;omega)];exact q⟩
  ·obtain⟨t,p,q⟩:=h.err.rng;exact⟨t,p,by rw[k.cellAt zzz (λq=>by have:=hs _ q;omega)];exact q⟩
 nx:=afz h.nx k.1
theorem Gl.au (h:Gl H)(k:Out [] H H'):Gl H':=h.out k λj hj=>by cases hj
theorem aCg (s c:List Nat)(H:Hp)(hs:s.length<=4294967296)(hc:Kf c=true)(tP:c.length<=4294967280):cK (zf 91) [.str s,.str c] H=some (.str (ES s c),H):=by
 refine DA (p:=L5) zzw ?_;have h2:F.LX (Kf c) (F.LX (Nat.ble (F.Ij s) 4294967296) (Nat.ble (F.Ij c) 4294967280))=true:=by rw[F.S0,F.S0,F.Sp,F.Sp,hc];simp only[acy,aaM,ae2];exact⟨hs,tP⟩
 show Qi H s c=_;unfold Qi;rw[h2]
def dec (n:Int):Str:=(Lib.itoa n).map (·.toNat)
theorem aAw:∀p:Fin 10,(([48,49,50,51,52,53,54,55,56,57,97,98,99,100,101,102,103,104,105,106,107,108,109,110,111,112,113,114,115,116,117,118,119,120,121,122]:List Nat).drop p.val).take 1=[48+p.val]:=by decide +kernel
abbrev sm:List Nat:=[48,48,48,49,48,50,48,51,48,52,48,53,48,54,48,55,48,56,48,57,49,48,49,49,49,50,49,51,49,52,49,53,49,54,49,55,49,56,49,57,50,48,50,49,50,50,50,51,50,52,50,53,50,54,50,55,50,56,50,57,51,48,51,49,51,50,51,51,51,52,51,53,51,54,51,55,51,56,51,57,52,48,52,49,52,50,52,51,52,52,52,53,52,54,52,55,52,56,52,57,53,48,53,49,53,50,53,51,53,52,53,53,53,54,53,55,53,56,53,57,54,48,54,49,54,50,54,51,54,52,54,53,54,54,54,55,54,56,54,57,55,48,55,49,55,50,55,51,55,52,55,53,55,54,55,55,55,56,55,57,56,48,56,49,56,50,56,51,56,52,56,53,56,54,56,55,56,56,56,57,57,48,57,49,57,50,57,51,57,52,57,53,57,54,57,55,57,56,57,57]
theorem aAU:∀p:Fin 100,(sm.drop (p.val*2)).take 2=[48+p.val / 10,48+p.val%10]:=by decide +kernel
theorem Y8 {n:Nat}(h:n<256):(UInt8.ofNat n).toNat=n:=by rw[UInt8.toNat_ofNat',ahr h]
theorem avE {n:Nat}(h:n<10):dec (n:Int)=[48+n]:=by unfold dec Lib.itoa;rw[zz1 zzz,abI,Lib.decDigits_one h];simp only[aby,ajn];rw[Y8 zzz]
theorem ark {n:Nat}(h1:¬n<10)(h2:n<100):dec (n:Int)=[48+n / 10,48+n%10]:=by unfold dec Lib.itoa;rw[zz1 zzz,abI,Lib.decDigits_two h1 h2];simp only[aby,ajn];rw[Y8 zzz,Y8 zzz]
theorem aqZ {n:Nat}(h:n<100)(H:Hp):cK (zf 164) [zi n] H=some (.str (dec n),H):=by
 refine aEn ?_;unfold ahU;by_cases h1:n<10
 ·have d:decide ((n:Int)<10)=true:=zz3 zzz;have e:IntKind.wrap .i64 ((n:Int)+1)=((n+1:Nat):Int):=by rw[wrap_i64 zzz zzz];rfl
  have q:=alX (s:=[48,49,50,51,52,53,54,55,56,57,97,98,99,100,101,102,103,104,105,106,107,108,109,110,111,112,113,114,115,116,117,118,119,120,121,122]) (a:=n) (b:=n+1) .i64 .i64 zzz (by simp only[aaP,ach];omega);rw[ae0,aAw ⟨n,h1⟩] at q;simp only[d,e,q,avE h1,zz0,simprocAttr]
 ·have d:decide ((n:Int)<10)=false:=zz4 zzz;have e1:IntKind.wrap .i64 ((n:Int)*2)=((n*2:Nat):Int):=by rw[wrap_i64 zzz zzz];omega
  have e2:IntKind.wrap .i64 (((n*2:Nat):Int)+2)=((n*2+2:Nat):Int):=by rw[wrap_i64 zzz zzz];rfl
  have q:=alX (s:=sm) (a:=n*2) (b:=n*2+2) .i64 .i64 zzz (by simp only[aaP,ach];omega);rw[ae0,aAU ⟨n,h⟩] at q;simp only[d,e1,e2,q,ark h1 h,zz0,simprocAttr]
theorem aAB (h1:1<=u)(h2:u<18446744073709551616)(hg:Gl H):cK (zf 165) [.int .u64 u] H=some (zi (Lib.nDigits u:Nat),H):=by
 refine aBz ?_;unfold amk;have hl:cK (zf 182) [.int .u64 u] H=some (zi (Lib.bitLen u:Nat),H):=by refine DA (p:=NN) zzw ?_;unfold NN;simp only;rw[zz2 ⟨zzz,zzz⟩,abI]
 obtain⟨n1,n2⟩:=Lib.numDigits_eq u h1 h2;have hb:Lib.bitLen u<=100:=by have:Lib.l10 (Lib.bitLen u)<=19:=n2;unfold Lib.l10 at this;omega
 have hp:cK (zf 181) [zi (Lib.bitLen u:Nat)] H=some (zi (Lib.l10 (Lib.bitLen u):Nat),H):=by
  refine aGx ?_;unfold agM;have e:IntKind.wrap .i64 ((Lib.bitLen u:Int)*78913)=((Lib.bitLen u*78913:Nat):Int):=by rw[wrap_i64 zzz zzz];omega
  have e2:sN (zi ((Lib.bitLen u*78913:Nat):Int)) (.int .u64 18)=some (zi ((Lib.l10 (Lib.bitLen u):Nat):Int)):=by have:=Pd (k:=.i64) (j:=.u64) (a:=Lib.bitLen u*78913) (b:=18);rw[show ((18:Nat):Int)=18 from rfl] at this;rw[this];rfl
  simp only[e,e2,zz0,simprocAttr]
 generalize hq:Lib.l10 (Lib.bitLen u)=q at*
 have qj:qD 20 1 (.ptr 0 0) (zi (q:Nat))=some (.ptr 0 q):=by unfold qD;simp only;rw[zz2 zzz,abI,adM,ade]
 have hc:=hg.pow q zzz;by_cases hle:10^q<=u
 ·rw[zz2 hle] at n1;have d:decide (((10^q:Nat):Int)<=(u:Int))=true:=zz3 (by exact Int.ofNat_le.2 hle);have kM:cK (zf 183) [.bool true] H=some (zi 1,H):=by refine aly ?_;unfold UH;simp only[zz0,simprocAttr]
  have e:IntKind.wrap .i64 ((q:Int)+1)=((Lib.nDigits u:Nat):Int):=by rw[wrap_i64 zzz zzz];omega
  simp only[hl,hp,qj,RJ,hc,SJ,d,kM,e,zz0,simprocAttr]
 ·rw[zz1 hle] at n1;have d:decide (((10^q:Nat):Int)<=(u:Int))=false:=zz4 (by intro x;exact hle (Int.ofNat_le.1 x));have kM:cK (zf 183) [.bool false] H=some (zi 0,H):=by refine aly ?_;unfold UH;simp only[zz0,simprocAttr]
  have e:IntKind.wrap .i64 ((q:Int)+0)=((Lib.nDigits u:Nat):Int):=by rw[wrap_i64 zzz zzz];omega
  simp only[hl,hp,qj,RJ,hc,SJ,d,kM,e,zz0,simprocAttr]
theorem awA {off n cap:Nat}{ex:Bool}{fl:Nat}(h:Cs H i l el fl)(hf:fl<=1)(nU:0<n)(ho:off+n<=l.length)(hn:n<=100)(hu:u<18446744073709551616)(XE:u<10^n)(hb:∀v∈l,∃b:Nat,b<256/\v=.int .u8 b):
  ∃H',cK (zf 166) [.slice i off n cap ex 1,.int .u64 u] H=some (.tuple [],H')/\Cs H' i (kR l off (qA u n)) el fl/\Out [i] H H':=by
 obtain⟨hi,c,hc,hg⟩:=h;have il:(qA u n).length=n:=by simp[qA]
 have B9:=Cs.av ⟨hi,c,hc,hg⟩ n off ho;refine⟨{H with h:=H.h.cW i (.cells (c.cl off (qA u n)) 0 l.length el fl)},DA (p:=Mc) zzw ?_,⟨hi,c.cl off (qA u n),?_,?_⟩,⟨aaO _,λj hj OU=>?_⟩⟩;·unfold Mc;simp only;rw[zz2 ⟨trivial,nU,zzz,zzz,zzz,by rw[abI];exact XE⟩,hc,acf,abI];unfold YH;simp only;rw[zz2 ⟨zzz,ho,hf,_,B9,λv hv=>hb v (List.mem_of_mem_drop (alp hv))⟩]
 ·show (H.h.cW i _).get i=_;rw[Tr.cW,Tr.gL,zz2 rfl,OF]
 ·intro k v hk;rw[FQ _ _ _ _ (by rw[il];exact ho)] at hk;rw[Tr.zj];split;·rename_i mV;rw[zz2 mV] at hk;exact hk
  ·rename_i mV;rw[zz1 mV] at hk;exact hg k v hk
 ·show (H.h.cW i _).get j=_;rw[Tr.cW,Tr.gL,zz1 (by simpa using OU)]
theorem akS (u:Nat):qA u (Lib.nDigits u)=bs ((Lib.decDigits u).map (·.toNat)):=by unfold qA bs;rw[Lib.decDigits_eq,anY,anY];rfl
theorem YO {a b:Nat}{fl:Nat}(h:Cs H i l el fl)(hl:l.length=24)(AG:a<=b)(hb:b<=24){lo:Option AV}(iK:Bd lo a 0):uy P 238 (.ptr i 0) lo (some (zi b)) none H=some (.slice i a (b-a) (24-a) true 1):=by
 have hu:P.underlying 238=some (.array 24 5):=Tryz.underlying238;have hs:sz P 5=some 1:=zzw;have hc:=h.cellAt (o:=23) (v:=l[23]' zzz) (aaC zzz);unfold uy;simp only[hu,hs,abY,acf,D9 AG hb (aaO _) iK (Bd.yes .i64 b 24),adM,ade];have h1:(decide (0<24)&&(cellAt H i (0+24-1)).isSome)=true:=by rw[show 0+24-1=23 by rfl,hc];rfl
 simp[hc]
theorem ams {n:Int}(h:n<0):dec n=45::(Lib.decDigits n.natAbs).map (·.toNat):=by unfold dec Lib.itoa;rw[zz2 h];rfl
theorem aks {n:Int}(h:¬n<0):dec n=(Lib.decDigits n.toNat).map (·.toNat):=by unfold dec Lib.itoa;rw[zz1 h]
theorem aqL (h:u<18446744073709551616)(h1:1<=u):Lib.nDigits u<=20:=by obtain⟨n1,n2⟩:=Lib.numDigits_eq u h1 h;split at n1<;>omega
theorem aoN (u:Nat):∀b∈(Lib.decDigits u).map (·.toNat),b<256:=by intro b hb;obtain⟨c,_,rfl⟩:=abT.1 hb;exact c.toNat_lt
abbrev z24:List AV:=[(.int .u8 0),(.int .u8 0),(.int .u8 0),(.int .u8 0),(.int .u8 0),(.int .u8 0),(.int .u8 0),(.int .u8 0),(.int .u8 0),(.int .u8 0),(.int .u8 0),(.int .u8 0),(.int .u8 0),(.int .u8 0),(.int .u8 0),(.int .u8 0),(.int .u8 0),(.int .u8 0),(.int .u8 0),(.int .u8 0),(.int .u8 0),(.int .u8 0),(.int .u8 0),(.int .u8 0)]
theorem ayJ {n:Int}(h0:-9223372036854775808<=n)(h1:n<=9223372036854775807)(hg:Gl H):∃H',cK (zf 146) [zi n,zi 10] H=some (.str (dec n),H')/\Out [] H H':=by
 by_cases hs:0<=n/\n<100;·obtain⟨m,rfl⟩:∃m:Nat,n=m:=⟨n.toNat,zzz⟩;refine⟨H,YG ?_,Out.refl _ _⟩;unfold Sw;have d1:decide ((0:Int)<=(m:Int))=true:=zz3 zzz;have d2:decide ((m:Int)<100)=true:=zz3 hs.2;simp only[d1,d2,aqZ (show m<100 by omega),zz0,simprocAttr]
 ·obtain⟨u,AE,xd,hu3⟩:∃u:Nat,1<=u/\u<18446744073709551616/\u=n.natAbs:=⟨n.natAbs,zzz,zzz,rfl⟩;have hd:=aqL xd AE;have hd0:=Lib.nDigits_pos u;have XE:=Lib.lt_pow_nDigits u;have ha:az H z24 238 0=some (H.next,al H z24 238 0):=eh zzy;have gQ:=aP H z24 238 0;have qC:=hg.au (aD H z24 238 0);have gW:=aAB AE xd qC;have mR:=YO gQ rfl (a:=1) (b:=1+Lib.nDigits u) (lo:=some (zi 1)) zzz zzz (Bd.yes .i64 1 0);rw[ae0] at mR;obtain⟨H1,f1,f2,f3⟩:=awA (cap:=24-1) (ex:=true) gQ zzx hd0 (off:=1) (by show 1+_<=24;omega) zzz xd XE (by intro v hv;refine⟨0,zzz,?_⟩;simp at hv;exact hv);have hlen:(kR z24 1 (qA u (Lib.nDigits u))).length=24:=by rw[OF];rfl
  have il:(qA u (Lib.nDigits u)).length=Lib.nDigits u:=by simp[qA]
  have e1:IntKind.wrap .i64 (1+(Lib.nDigits u:Int))=((1+Lib.nDigits u:Nat):Int):=by rw[wrap_i64 zzz zzz];omega
  have pg:Out [] H H1:=(aD H z24 238 0).then f3 λj hj=>by rw[No] at hj;exact .inr zzz
  have aJn:(decide ((0:Int)<=n)&&decide (n<100))=false:=by
   rw[Bool.and_eq_false_iff];by_cases q:0<=n;·right;exact zz4 zzz
   ·left;exact zz4 zzz
  by_cases hn:n<0
  ·have d1:decide ((0:Int)<=n)=false:=zz4 zzz;have d2:decide (n<0)=true:=zz3 hn;have e2:dR .neg (.int .u64 (IntKind.wrap .u64 n))=some (.int .u64 (u:Nat)):=by show some (AV.int .u64 (IntKind.wrap .u64 (0-IntKind.wrap .u64 n)))=_;congr 2;simp only[IntKind.wrap,IntKind.bits,IntKind.signed];simp;omega
   have aC:=ff f2 zzx (o:=0) (by rw[hlen];decide) (v:=.int .u8 45) rfl;obtain⟨H2,w1,w2,w3,w4⟩:=aC;have Kq:=YO w2 (by rw[acV];exact hlen) (a:=0) (b:=1+Lib.nDigits u) (lo:=none) zzz zzz (Bd.no 0);rw[agA,agA] at Kq;have wA:(((kR z24 1 (qA u (Lib.nDigits u))).set 0 (.int .u8 45)).take (1+Lib.nDigits u))=bs (dec n):=by
    rw[ams hn,<-hu3];show _=AV.int .u8 (45:Nat)::bs _;rw[<-akS];apply akn;intro k;rw[ajz];by_cases hk:k<1+Lib.nDigits u
    ·rw[zz2 hk,ahy];by_cases Fy:0=k;·subst Fy;rw[zz2 rfl,zz2 (by rw[hlen];decide)];rfl
     ·obtain⟨j,rfl⟩:∃j,k=j+1:=⟨k-1,zzz⟩;rw[zz1 Fy,FQ _ _ _ _ (by rw[il];show 1+_<=24;omega),zz2 (by rw[il];omega),Nat.add_sub_cancel,acJ]
    ·rw[zz1 hk,agQ (by rw[aaP,il];omega)]
   have Oj:Rw H2 1 (.slice H.next 0 (1+Lib.nDigits u) 24 true 1) (bs (dec n)):=by rw[<-wA];exact .mk (w2.ro.take _) (by rw[ad8,acV,hlen];omega) zzz rfl
   have jQ:=MI Oj (by
    rw[ams hn];intro b hb;rcases aaD.1 hb with rfl|hb;·omega
    ·exact aoN _ b hb)
   refine⟨H2,YG ?_,pg.then w3 λj hj=>by rw[No] at hj;exact .inr zzz⟩;unfold Sw;have hir:qD 24 1 (.ptr H.next 0) (zi 0)=some (.ptr H.next 0):=by unfold qD;simp
   simp only[d1,ha,d2,e2,gW,e1,mR,f1,hir,w1,Kq,jQ,zz0,simprocAttr]
  ·obtain⟨m,rfl⟩:∃m:Nat,n=m:=⟨n.toNat,zzz⟩;have hum:u=m:=zzz;subst hum;have d1:decide ((0:Int)<=(u:Int))=true:=zz3 zzz;have d1':decide ((u:Int)<100)=false:=zz4 zzz;have d2:decide ((u:Int)<0)=false:=zz4 hn;have e2:IntKind.wrap .u64 (u:Int)=(u:Int):=ayj rfl (by show u<2^64;omega);have Kq:=YO f2 hlen (a:=1) (b:=1+Lib.nDigits u) (lo:=some (zi 1)) zzz zzz (Bd.yes .i64 1 0);rw[ae0] at Kq;have wA:(((kR z24 1 (qA u (Lib.nDigits u))).drop 1).take (Lib.nDigits u))=bs (dec (u:Int)):=by
    rw[aks hn,abI,<-akS];apply akn;intro k;rw[ajz];by_cases hk:k<Lib.nDigits u;·rw[zz2 hk,agr,FQ _ _ _ _ (by rw[il];show 1+_<=24;omega),zz2 (by rw[il];omega),ae0]
    ·rw[zz1 hk,agQ (by rw[il];omega)]
   have Oj:Rw H1 1 (.slice H.next 1 (Lib.nDigits u) (24-1) true 1) (bs (dec (u:Int))):=by rw[<-wA];exact .mk ((f2.ro.drop 1 (by rw[hlen];decide)).take _) (by rw[ad8,aeF,hlen];omega) zzz rfl
   have jQ:=MI Oj (by rw[aks hn];exact aoN _);refine⟨H1,YG ?_,pg⟩;unfold Sw;simp only[d1,d1',ha,d2,e2,gW,e1,mR,f1,Kq,jQ,zz0,simprocAttr]
theorem age {n:Int}(h0:-9223372036854775808<=n)(h1:n<=9223372036854775807)(hg:Gl H):∃H',cK (zf 84) [zi n] H=some (.str (dec n),H')/\Out [] H H':=by
 obtain⟨H',h2,h3⟩:=ayJ h0 h1 hg;refine⟨H',ayS ?_,h3⟩;unfold aeR;have:cK (zf 111) [zi n] H=some (.str (dec n),H'):=by refine asE ?_;unfold aku;simp only[h2,zz0,simprocAttr]
 simp only[this,zz0,simprocAttr]
theorem av7 {s:Str}(hs:s.length<=281474976710656)(hg:Gl H):cK (zf 173) [.str s] H=some (Qd s,H):=by refine DA (p:=Pe) zzw ?_;unfold Pe;simp only;rw[zz2 ⟨hg.err,hs⟩]
end
theorem aq4 (i o n c:Nat)(ex:Bool)(es:Nat):same (.slice i o n c ex es) (.slice i o n c ex es)=true:=by simp[same,qP,ait]
theorem aF4 (k:IntKind)(z:Int):same (.int k z) (.int k z)=true:=by simp[same,qP]
theorem awK (i o n c:Nat)(ex:Bool)(es:Nat)(x:R):SM (.slice i o n c ex es) (.slice i o n c ex es) x=x:=eG (aq4 ..)
theorem ahl (k:IntKind)(z:Int)(x:R):SM (.int k z) (.int k z) x=x:=eG (aF4 ..)
structure Bu (H:Hp)(p:Nat)(sl:AV)(l:Str):Prop where
 c:Cs H p [.ptr p 0,sl] 180 0
 o:Ow H 5 1 sl (bs l)
 ne:p∉ak sl
theorem avv (x:AV)(H:Hp):cK (zf 168) [x] H=some (x,H):=
 SG (k:=.same) zzw Tryz.func168 rfl zzw rfl
theorem ax5 {n:Nat}(hn:n<=1048576)(H:Hp):cK (zf 169) [zi n] H=some (.slice H.next 0 n n false 1,al H (List.replicate n .dG) 5 0):=by refine SG (k:=.MO 52) zzw Tryz.func169 rfl zzw ?_;have hu:P.underlying 52=some (.slice 5):=Tryz.underlying52;unfold ID;simp only[hu];rw[zz2 ⟨zzz,zzz⟩,abI,eh (by rw[afg];omega)];rfl
section
variable {H:Hp}{el:Nat}{l:Str}{sl:AV}
theorem avd {p:Nat}{l:List AV}{fl:Nat}(h:Cs H p l el fl)(hl:0<l.length):lh P 178 242 (.ptr p 0) H=some (.ptr p 0,H):=by have h1:P.underlying 178=some (.pointer 180):=Tryz.underlying178;have h2:P.underlying 242=some .unsafePointer:=Tryz.underlying242;have h3:CI P 180=true:=zzw;have h4:=h.cellAt (aaC hl);unfold lh;simp only[h1,h2,h3,h4,agz,Bool.and_self,cond_true]
theorem aqS {p:Nat}{a b:AV}(h:Cs H p [a,b] 180 0):lh P 242 178 (.ptr p 0) H=some (.ptr p 0,H):=by have h1:P.underlying 178=some (.pointer 180):=Tryz.underlying178;have h2:P.underlying 242=some .unsafePointer:=Tryz.underlying242;have h3:P.cellsOf 180=2:=zzw;have h4:=h.cellAt (o:=1) (v:=b) rfl;obtain⟨_,c,hc,_⟩:=h;unfold lh;simp only[h1,h2,hc,h3,Nat.reduceSub,h4];rfl
theorem aqN {p:Nat}(h:Cs H p [.da,.ah] 180 0):∃H',cK (zf 147) [.ptr p 0] H=some (.tuple [],H')/\Cs H' p [.ptr p 0,.ah] 180 0/\Out [p] H H'/\H'.next=H.next:=by obtain⟨H',w1,w2,w3,w4⟩:=ff h zzx (o:=0) zzx (v:=.ptr p 0) rfl;refine⟨H',amW ?_,w2,w3,w4⟩;unfold VA;have h1:=h.ld (o:=0) (v:=.da) rfl;simp only[aed,h1,avd h zzx,avv,aqS h,w1,zz0,Int.reduceBEq,Int.reduceBNe,Int.reduceLT,Int.reduceLE,Int.reduceGT,Int.reduceGE,Int.reduceNeg]
theorem auP (p o:Nat)(H:Hp):pe (.ptr p o) (.ptr p o) H=some true:=by unfold pe;simp[ait]
theorem ar0 {p:Nat}(h:Bu H p sl l):cK (zf 147) [.ptr p 0] H=some (.tuple [],H):=by refine amW ?_;unfold VA;have h1:=h.c.ld (o:=0) (v:=.ptr p 0) rfl;simp only[aed,h1,auP,zz0,Int.reduceBEq,Int.reduceBNe,Int.reduceLT,Int.reduceLE,Int.reduceGT,Int.reduceGE,Int.reduceNeg]
theorem ayx {n:Nat}(hn:0<n):Ow (al H (List.replicate n .dG) el 0) el 1 (.slice H.next 0 0 n false 1) []:=by have gQ:=aP H (List.replicate n .dG) el 0;obtain⟨hi,c,hc,hg⟩:=gQ;refine .mk hi hc zzx (aaO _) (by rw[afg];omega) (aa7 _) zzy (λk v hk=>by simp at hk) (λk hk=>?_) (λv hv=>by cases hv) rfl;rw[ade,hg k .dG (by rw[amt,zz2 zzz])];rfl
theorem aCh {p n:Nat}(nU:0<n)(hn:n<=1000000)(h:Cs H p [.da,.ah] 180 0):∃sl H',cK (zf 112) [.ptr p 0,zi n] H=some (.tuple [],H')/\Bu H' p sl []/\Out [p] H H'/\∀j∈ak sl,H.next<=j:=by
 obtain⟨H1,c1,c2,c3,c4⟩:=aqN h;have hu:P.underlying 52=some (.slice 5):=Tryz.underlying52;have jC:∀H:Hp,jh P .cap #[52] [.ah] H=some (zi 0,H):=λH=>by unfold jh;simp only;unfold P4;simp only[hu,ae8,ada,acf];rfl
 have l1:=c2.ld (o:=1) (v:=.ah) rfl;have e1:IntKind.wrap .i64 (0+(n:Int))=(n:Int):=by rw[wrap_i64 zzz zzz];omega
 have e0:IntKind.wrap .i64 (2*0)=0:=by rw[wrap_i64 zzz zzz];omega
 have e2:IntKind.wrap .i64 (0-0)=0:=by rw[wrap_i64 zzz zzz];omega
 have hm:=ax5 (show n<=1048576 by omega) H1;have anr:=aD H1 (List.replicate n .dG) 5 0;have Hk:=c2.out anr zzy;have l1':=Hk.ld (o:=1) (v:=.ah) rfl;have mR:nK 1 (.slice H1.next 0 n n false 1) none (some (zi 0)) none=some (.slice H1.next 0 0 n false 1):=by unfold nK;have:=D9 (len:=n) (cap:=n) (a:=0) (b:=0) (lo:=none) (hi:=some (zi 0)) (aaO _) (aa7 _) (aaO _) (Bd.no 0) (Bd.aF1 .i64 _);simp only[this];simp
 have hcp:∀H:Hp,JY 1 (.slice H1.next 0 0 n false 1) .ah H=some (zi 0,H):=λH=>by unfold JY;simp[Ur]
 obtain⟨H2,w1,w2,w3,w4⟩:=ff Hk zzx (o:=1) zzy (v:=.slice H1.next 0 0 n false 1) rfl;have hg:cK (zf 148) [.ptr p 0,zi n] H1=some (.tuple [],H2):=by refine aD3 ?_;unfold ai3;have yx:∀x:R,SM .ah .ah x=x:=λx=>eG rfl;simp only[l1,jC,e0,e1,hm,l1',mR,yx,ahl,hcp,w1,zz0,Int.reduceBEq,Int.reduceBNe,Int.reduceLT,Int.reduceLE,Int.reduceGT,Int.reduceGE,Int.reduceNeg]
 have aR:p<H1.next:=by rw[c4];exact h.1
 refine⟨.slice H1.next 0 0 n false 1,H2,aq1 ?_,⟨w2,(ayx nU).out w3 (λj hj=>by rw[pK zzv,No] at hj;rw[No];omega),by rw[pK zzv,No];omega⟩,(c3.trans (anr.mono (S':=[p]) (λj hj=>by cases hj))).trans w3,λj hj=>by rw[pK zzv,No] at hj;omega⟩;unfold apD;have d1:decide ((n:Int)<0)=false:=zz4 zzz;have d2:decide ((0:Int)<(n:Int))=true:=zz3 zzz;simp only[c1,d1,l1,jC,e2,d2,hg,zz0,Int.reduceBEq,Int.reduceBNe,Int.reduceLT,Int.reduceLE,Int.reduceGT,Int.reduceGE,Int.reduceNeg]
theorem Xb {p:Nat}{s:Str}(h:Bu H p sl l)(hl:l.length+s.length<=16777216):∃yn H',cK (zf 113) [.ptr p 0,.str s] H=some (.tuple [zi s.length,.nilIface],H')/\Bu H' p yn (l++s)/\Out (p::ak sl) H H'/\∀j∈ak yn,j∈ak sl\/H.next<=j:=by
 obtain⟨yn,H1,a1,a2,a3,a4⟩:=N0 (n:=s.length) (new:=bs s) h.o (by rw[jY,adM]) (ak4 s) zzx (by rw[jY,jY];exact hl);have JX:cL 5 1 [(.int .u8 0)] false sl (.str s) H=some (yn,H1):=by
  unfold cL;have:BZ 1 [(.int .u8 0)] false (.str s) H=some (s.length,bs s):=by unfold BZ;simp[bs]
  rw[this];exact a1
 have ye:=h.c.out a3 h.ne;obtain⟨H2,w1,w2,w3,w4⟩:=ff ye zzx (o:=1) zzy (v:=yn) a2.lr;have aF:p∉ak yn:=λq=>(a4 p q).elim h.ne λq=>by have:=h.c.1;omega
 refine⟨yn,H2,at3 ?_,⟨w2,by rw[Tz];exact a2.out w3 (λj hj=>by rw[No];intro e;subst e;exact aF hj),aF⟩,?_,a4⟩;·unfold afW;have l1:=h.c.ld (o:=1) (v:=sl) rfl;simp only[ar0 h,l1,JX,w1,zz0,Int.reduceBEq,Int.reduceBNe,Int.reduceLT,Int.reduceLE,Int.reduceGT,Int.reduceGE,Int.reduceNeg]
 ·exact (a3.mono λj hj=>.tail _ hj).trans (w3.mono λj hj=>by rw[No] at hj;subst hj;exact .head _)
theorem awY {p:Nat}(h:Bu H p sl l)(h0:0<l.length)(hl:l.length<16777216)(hb:∀b∈l,b<256):∃H',cK (zf 114) [.ptr p 0] H=some (.str l,H')/\Out (ak sl) H H':=by
 have l1:=h.c.ld (o:=1) (v:=sl) rfl;have ho:=h.o;have aF:=h.ne;generalize tP:bs l=cs at ho;cases ho with
 |nil=>
  have:l=[]:=by simpa[bs] using tP
  subst this;simp at h0
 |emp=>
  have:l=[]:=by simpa[bs] using tP
  subst this;simp at h0
 |@mk i off n cap ex _ c lo hi fl ka hg hf iK lK jC hn kO hs h1 he=>
  subst tP;rw[jY,adM] at hn;have Mg:Ro H i off (bs l):=⟨ka,c,lo,hi,5,fl,hg,iK,by rw[jY];omega,kO⟩;have KI:=Mg.av;rw[jY,hn] at KI;rw[pK he,No] at aF;have hx:((av H i off n).bind ze)=some l:=by rw[KI];exact ab2 l hb
  refine⟨{H with h:=H.h.cW i (.cells c lo hi 5 2)},aE1 ?_,⟨aaO _,λj hj En=>?_⟩⟩
  ·unfold aju;have b1:jh P .unsafeSliceData #[52] [.slice i off n cap ex 1] H=some (.ptr i off,H):=by
    unfold jh;have:Nat.blt 0 n=true:=by rw[adW];omega
    simp only[this,cond_true]
   have b2:jh P .unsafeString #[222,3] [.ptr i off,zi (n:Nat)] H=some (.str l,{H with h:=H.h.cW i (.cells c lo hi 5 2)}):=by have hu:P.underlying 222=some (.pointer 5):=Tryz.underlying222;have ye:P.cellsOf 5=1:=zzw;unfold jh;simp only;unfold RX;simp only[hu];rw[zz1 zzz];simp only[hg];rw[zz2 ⟨trivial,ye,zzz,zzz,hf⟩,abI,hx];rfl
   simp only[l1,b1,b2,awK,ahl,zz0,Int.reduceBEq,Int.reduceBNe,Int.reduceLT,Int.reduceLE,Int.reduceGT,Int.reduceGE,Int.reduceNeg]
  ·rw[pK he,No] at En;show (Tr.cW H.h i _).get j=_;rw[Tr.cW,Tr.gL,zz1 En]
def sH (sep:Str):List Str->Str
 |[]=>[]|a::l=>sep++a++sH sep l
def A7 (sep:Str):List Str->Str
 |[]=>[]|a::l=>a++sH sep l
theorem aiR (c:Nat):∀l:List Str,A7 [c] l=lH c l
 |[]=>rfl|[a]=>by simp[A7,sH,lH]
 |a::b::l=>by have:=aiR c (b::l);show a++([c]++b++sH [c] l)=a++c::lH c (b::l);rw[<-this];simp[A7]
def dJ (l:List Str):Nat:=(l.map List.length).sum
theorem WL (sep:Str):∀l,(sH sep l).length=sep.length*l.length+dJ l
 |[]=>by simp[sH,dJ]
 |a::l=>by have:=WL sep l;simp only[sH,aal,this,aaP,Nat.mul_add,adM,dJ,aby,al8];omega
theorem anE {x:AV}{l:List Str}{H:Hp}(hx:Rw H 1 x (strs l))(hl:l.length<=1000)(hb:∀s∈l,s.length<=100000)(k:K.Fn 3)(y z:AV):∀(r:List Str) (i acc:Nat),i<=l.length->l.drop i=r->acc<=1000000+i*100000->
  abS JN GO cK k y z (zi acc) x (zi (l.length:Nat)) (zi (i:Nat)) H=k y z (zi ((acc+dJ r:Nat):Int)) H
 |[],i,acc,hi,h,ha=>by obtain rfl:=drop_nil hi h;rw[ah1];simp only[Yn,df,dJ,ajn,List.sum_nil,aed,zz0,Int.reduceBEq,Int.reduceBNe,Int.reduceLT,Int.reduceLE,Int.reduceGT,Int.reduceGE,Int.reduceNeg]
 |a::r,i,acc,hi,h,ha=>by
  obtain⟨h1,h2,h3⟩:=dU h;obtain⟨q,q1,q2⟩:=hx.fW (mS h2) .i64;have e:=dC h1 zzz;have cZ:=hb a (aac h2);have aH5:acc+a.length<=1000000+(i+1)*100000:=zzz;have ih:=anE hx hl hb k y z r (i+1) (acc+a.length) h1 h3 aH5;have e1:IntKind.wrap .i64 (9223372036854775807-(acc:Int))=9223372036854775807-(acc:Int):=wrap_i64 zzz zzz;have d:decide (9223372036854775807-(acc:Int)<(a.length:Int))=false:=zz4 zzz;have e2:IntKind.wrap .i64 ((acc:Int)+(a.length:Int))=((acc+a.length:Nat):Int):=by rw[wrap_i64 zzz zzz];rfl
  have e3:acc+dJ (a::r)=acc+a.length+dJ r:=by simp[dJ];omega
  rw[ah1,e3];simp only[Yn,aN h1,q1,q2,e1,d,e2,e,ih,zz0,Int.reduceBEq,Int.reduceBNe,Int.reduceLT,Int.reduceLE,Int.reduceGT,Int.reduceGE,Int.reduceNeg]
theorem an9 {sep:Str}{x:AV}{l:List Str}{p:Nat}{H0:Hp}(hx:Rw H0 1 x (strs l))(hl:l.length<=1000):∀(r:List Str) (i:Nat) (H:Hp) (sl:AV) (acc:Str),i<=l.length->l.drop i=r->Rw H 1 x (strs l)->Bu H p sl acc->(∀j∈ak x,j≠p/\j∉ak sl)->acc.length+(sH sep r).length<=16777216->
  ∃yn H',(∀k:K.Fn 1,YA JN GO cK k (.str sep) (.ptr p 0) x (zi (l.length:Nat)) (zi (i:Nat)) H=k (.ptr p 0) H')/\Bu H' p yn (acc++sH sep r)/\Out (p::ak sl) H H'/\∀j∈ak yn,j∈ak sl\/H.next<=j
 |[],i,H,sl,acc,hi,h,ki,hB,hd,hlen=>by obtain rfl:=drop_nil hi h;refine⟨sl,H,λk=>?_,by simpa[sH] using hB,Out.refl _ _,λj hj=>.inl hj⟩;rw[aoD];simp only[Yd,df,zz0,Int.reduceBEq,Int.reduceBNe,Int.reduceLT,Int.reduceLE,Int.reduceGT,Int.reduceGE,Int.reduceNeg]
 |a::r,i,H,sl,acc,hi,h,ki,hB,hd,hlen=>by
  obtain⟨h1,h2,h3⟩:=dU h;obtain⟨q,q1,q2⟩:=ki.fW (mS h2) .i64;have e:=dC h1 zzz;simp only[sH,aal] at hlen;obtain⟨sl1,H1,a1,a2,a3,a4⟩:=Xb (s:=sep) hB zzz;obtain⟨IS,H2,b1,b2,b3,b4⟩:=Xb (s:=a) a2 (by rw[aal];omega);have aR:=ki.lt;have fX:∀j∈ak x,j≠p/\j∉ak sl1:=λj hj=>⟨(hd j hj).1,λq=>(a4 j q).elim (hd j hj).2 λq=>by have:=aR j hj;omega⟩;have mE:=a3.nx;have wO:∀j∈ak x,j≠p/\j∉ak IS:=λj hj=>⟨(hd j hj).1,λq=>(b4 j q).elim (fX j hj).2 λq=>by have:=aR j hj;omega⟩;have kB:=ki.out a3 λj hj=>by rw[aaD,not_or];exact hd j hj
  have mI:=kB.out b3 λj hj=>by rw[aaD,not_or];exact fX j hj
  obtain⟨yn,H',i1,i2,i3,i4⟩:=an9 (sep:=sep) hx hl r (i+1) H2 IS (acc++sep++a) h1 h3 mI b2 wO (by simp only[aal];omega);have o2:Out (p::ak sl) H H2:=a3.then b3 λj hj=>by
   rcases aaD.1 hj with rfl|hj;·exact .inl (.head _)
   ·exact (a4 j hj).imp (λq=>.tail _ q) id
  have n2:∀j∈ak IS,j∈ak sl\/H.next<=j:=λj hj=>(b4 j hj).elim (λq=>a4 j q) λq=>.inr zzz;refine⟨yn,H',λk=>?_,by rw[sH];simpa[abr] using i2,o2.then i3 λj hj=>?_,λj hj=>(i4 j hj).elim (n2 j) λq=>.inr (by have:=o2.nx;omega)⟩;·rw[aoD];simp only[Yd,aN h1,q1,q2,a1,b1,e,i1,zz0,Int.reduceBEq,Int.reduceBNe,Int.reduceLT,Int.reduceLE,Int.reduceGT,Int.reduceGE,Int.reduceNeg]
  ·rcases aaD.1 hj with rfl|hj;·exact .inl (.head _)
   ·exact (n2 j hj).imp (λq=>.tail _ q) id
theorem ayG (sep:Str)(l:List Str)(h:0<l.length):(A7 sep l).length=sep.length*(l.length-1)+dJ l:=by
 cases l with
 |nil=>simp at h|cons a l=>simp only[A7,aal,WL,aaP,dJ,aby,al8,Nat.add_sub_cancel];omega
theorem axg {sep:Str}(VC:sep.length=1){x:AV}{l:List Str}(hx:Rw H 1 x (strs l))(hl:l.length<=200)(hb:∀s∈l,s.length<=100000)(uR:dJ l<=900000)(pF:∀s∈sep::l,∀b∈s,b<256):
  ∃H',cK (zf 85) [x,.str sep] H=some (.str (A7 sep l),H')/\Out [] H H':=by
 have dA:=hx.gu;rw[gZ] at dA
 match l,hx,hl,hb,uR,pF,dA with
 |[],hx,hl,hb,uR,pF,dA=>
  refine⟨H,Vm ?_,Out.refl _ _⟩;unfold Sb;simp only[ach,Int.natCast_zero] at dA;simp only[dA,A7,zz0,Int.reduceBEq,Int.reduceBNe,Int.reduceLT,Int.reduceLE,Int.reduceGT,Int.reduceGE,Int.reduceNeg]
 |[a],hx,hl,hb,uR,pF,dA=>
  obtain⟨q,q1,q2⟩:=hx.fW (i:=0) (v:=.str a) rfl .i64;refine⟨H,Vm ?_,Out.refl _ _⟩;unfold Sb;simp only[aaP,ach,ade,Int.natCast_one] at dA;rw[show (((0:Nat):Int))=0 from rfl] at q1;simp only[dA,q1,q2,A7,sH,acQ,zz0,Int.reduceBEq,Int.reduceBNe,Int.reduceLT,Int.reduceLE,Int.reduceGT,Int.reduceGE,Int.reduceNeg]
 |a::b::l,hx,hl,hb,uR,pF,dA=>
  generalize hm:a::b::l=L at*
  have hL2:2<=L.length:=by rw[<-hm];simp
  have hLa:L[0]?=some a:=by rw[<-hm];rfl
  obtain⟨q,q1,q2⟩:=hx.fW (mS hLa) .i64;rw[show (((0:Nat):Int))=0 from rfl] at q1;have d1:(((L.length:Nat):Int)==0)=false:=zz7 zzz;have d2:(((L.length:Nat):Int)==1)=false:=zz7 zzz;have e1:IntKind.wrap .i64 (((L.length:Nat):Int)-1)=((L.length-1:Nat):Int):=by rw[wrap_i64 zzz zzz];omega
  have e2:Gx (zi 9223372036854775807) (zi ((L.length-1:Nat):Int))=some (zi (9223372036854775807 / ((L.length-1:Nat):Int))):=by
   rw[aBJ _ _ _ zzz,Int.tdiv_eq_ediv_of_nonneg zzz];congr 2;rw[wrap_i64];·have:0<=9223372036854775807 / ((L.length-1:Nat):Int):=Int.ediv_nonneg zzz zzz;omega
   ·exact Int.le_trans (Int.ediv_le_self _ zzz) (Int.le_refl _)
  have hq:(200:Int)<=9223372036854775807 / ((L.length-1:Nat):Int):=by rw[Int.le_ediv_iff_mul_le zzz];omega
  have d3:decide (9223372036854775807 / ((L.length-1:Nat):Int)<=((1:Nat):Int))=false:=zz4 zzz;have e3:IntKind.wrap .i64 (((1:Nat):Int)*((L.length-1:Nat):Int))=((L.length-1:Nat):Int):=by rw[wrap_i64 zzz zzz];omega
  have e4:IntKind.wrap .i64 (0+((L.length-1:Nat):Int))=((L.length-1:Nat):Int):=by rw[wrap_i64 zzz zzz];omega
  have i1:=λk=>anE hx zzz hb k x (.str sep) L 0 (L.length-1) (aa7 _) aaY zzz;rw[show (((0:Nat):Int))=0 from rfl] at i1;have jw:az H [.da,.ah] 180 0=some (H.next,al H [.da,.ah] 180 0):=eh zzy;have ho:=aD H [.da,.ah] 180 0;obtain⟨sl,H1,g1,g2,g3,g4⟩:=aCh (n:=L.length-1+dJ L) zzz zzz (aP H [.da,.ah] 180 0);have aR:=hx.lt;have kB:=(hx.au ho).out g3 λj hj=>by rw[No];have:=aR j hj;omega
  obtain⟨q',q1',LC⟩:=kB.fW (mS hLa) .i64;rw[show (((0:Nat):Int))=0 from rfl] at q1';have cZ:a.length<=dJ L:=by rw[<-hm];simp[dJ]
  obtain⟨IS,H2,b1,b2,b3,b4⟩:=Xb (s:=a) g2 (by simp;omega);rw[afP] at b2;have mI:=kB.out b3 λj hj=>by rw[aaD,not_or];exact⟨by have:=aR j hj;omega,λq=>by have:=g4 j q;have:=aR j hj;rw[bT] at*;omega⟩
  have oq:=yD mI (n:=L.length) (by rw[gZ,adM]) zzx (a:=1) (b:=L.length) (lo:=some (zi 1)) (hi:=none) zzz (aaO _) (Bd.yes .i64 1 0) (Bd.no _);obtain⟨x',x1,x2,x3⟩:=oq;have Eh:(((strs L).drop (1*1)).take ((L.length-1)*1))=strs (b::l):=by rw[<-hm,adM,adM];exact afe (by simp[strs])
  rw[Eh] at x2;have ajL:=x2.gu;rw[gZ] at ajL;have kM:(b::l).length<=1000:=by rw[<-hm] at hl;simp only[aaP] at*;omega
  have mE:=g3.nx;rw[bT] at mE;have tX:sep.length*(b::l).length+dJ (b::l)<=1000000:=by
   rw[VC,aj4];rw[<-hm] at uR hl;simp only[dJ,aby,al8,aaP] at*
   omega
  obtain⟨sl3,H3,c1,c2,c3,c4⟩:=an9 (sep:=sep) x2 kM (b::l) 0 H2 IS a (aa7 _) aaY x2 b2 (λj hj=>by have hj:=aR j (x3 j hj);exact⟨zzz,λq=>(b4 j q).elim (λq=>by have:=g4 j q;rw[bT] at this;omega) λq=>zzz⟩) (by rw[WL];omega);have GM:a++sH sep (b::l)=A7 sep L:=by rw[<-hm];rfl
  rw[GM] at c2;have fT:=ayG sep L zzz;rw[VC,aj4] at fT;have aHx:∀c∈A7 sep L,c<256:=by
   have key:∀l:List Str,(∀s∈l,∀b∈s,b<256)->∀c∈sH sep l,c<256:=by
    intro l;induction l with
    |nil=>intro _ c hc;cases hc
    |cons s l ih=>
     intro h c hc;simp only[sH,aa2] at hc;rcases hc with (hc|hc)|hc;·exact pF sep (.head _) c hc
     ·exact h s (.head _) c hc
     ·exact ih (λs hs=>h s (.tail _ hs)) c hc
   intro c hc;rw[<-GM,aa2] at hc;have sW:∀s∈a::b::l,∀b∈s,b<256:=λs hs=>pF s (.tail _ (by rw[<-hm];exact hs));rcases hc with hc|hc;·exact sW a (.head _) c hc
   ·exact key _ (λs hs=>sW s (.tail _ hs)) c hc
  obtain⟨H4,s1,s2⟩:=awY c2 zzz zzz aHx;have n2:=b3.nx;have n3:=c3.nx;have rI:∀j∈ak IS,H.next<=j:=λj hj=>(b4 j hj).elim (λq=>by have:=g4 j q;rw[bT] at this;omega) λq=>zzz;have hr3:∀j∈ak sl3,H.next<=j:=λj hj=>(c4 j hj).elim (rI j) λq=>zzz;have o1:Out [] H H1:=ho.then g3 λj hj=>by rw[No] at hj;exact .inr zzz
  have o2:Out [] H H2:=o1.then b3 λj hj=>by
   rcases aaD.1 hj with rfl|hj;·exact .inr zzz
   ·have:=g4 j hj;rw[bT] at this;exact .inr zzz
  have o3:Out [] H H3:=o2.then c3 λj hj=>by
   rcases aaD.1 hj with rfl|hj;·exact .inr zzz
   ·exact .inr (rI j hj)
  refine⟨H4,Vm ?_,o3.then s2 λj hj=>.inr (hr3 j hj)⟩;unfold Sb;have e5:((L.length-1+dJ L:Nat):Int)=((L.length-1+dJ L:Nat):Int):=rfl;rw[show (((0:Nat):Int))=0 from rfl] at c1;have d4:decide ((0:Int)<((1:Nat):Int))=true:=rfl;simp only[dA,d1,d2,VC,d4,e1,e2,d3,e3,e4,i1,jw,g1,q1',LC,b1,x1,ajL,c1,s1,ge_iff_le,zz0,Int.reduceBEq,Int.reduceBNe,Int.reduceLT,Int.reduceLE,Int.reduceGT,Int.reduceGE,Int.reduceNeg]
end
end Go.Proofs.YtodfajmihkagnaaGreatDoor.bD
namespace Go.Proofs.YtodfajmihkagnaaGreatDoor.pf
section
variable (sc:Nat->List Nat)
def vH (steps:Nat)(s:List Nat×List Nat)(b:Nat):List Nat×List Nat:=if s.1[b]?=some 0 then (s.1.set b steps,s.2++[b]) else s
def ug (steps:Nat)(bs:List Nat)(s:List Nat×List Nat):List Nat×List Nat:=bs.foldl (vH steps) s
def xt (steps:Nat)(l:List Nat)(s:List Nat×List Nat):List Nat×List Nat:=l.foldl (λs a=>ug steps (sc a) s) s
def xq:Nat->List Nat->List Nat->Nat->List Nat
 |0,_,out,_=>out|f+1,l,out,steps=>if l=[] then out else xq f (xt sc steps l (out,[])).2 (xt sc steps l (out,[])).1 (steps+1)
def far (N n:Nat):List Nat:=xq sc (N+1) [n] (List.replicate N 0) 1
end
def gp (l:List Nat):Nat:=l.countP (· == 0)
def V (out:List Nat)(b:Nat):Bool:=match out[b]? with|some (_+1)=>true|_=>false
theorem QF {out:List Nat}{b steps c:Nat}(h:out[b]?=some 0)(hs:0<steps):V (out.set b steps) c=(V out c||c==b):=by
 unfold V;have hb:=(aag.1 h).1;rw[ahy];by_cases hc:b=c;·subst hc;rw[zz2 rfl,zz2 hb];obtain⟨k,rfl⟩:∃k,steps=k+1:=⟨steps-1,zzz⟩;simp
 ·rw[zz1 hc];have:(c==b)=false:=by simp;exactλq=>hc q.symm
  rw[this,Bool.or_false]
theorem aqt {out:List Nat}{b steps:Nat}(h:out[b]?=some 0)(hs:0<steps):gp (out.set b steps)+1=gp out:=by
 unfold gp;induction out generalizing b with
 |nil=>simp at h|cons a l ih=>
  cases b with
  |zero=>
   simp only[ada,acD] at h;subst h;rw[List.set_cons_zero,aob,aob];have:(steps==0)=false:=by simp;omega
   rw[this];simp
  |succ b=>
   simp only[acJ] at h;rw[List.set_cons_succ,aob,aob];have:=ih h;omega
structure Step (s s':List Nat×List Nat)(bs:Nat->Prop):Prop where
 len:s'.1.length=s.1.length
 Fb:gp s'.1+s'.2.length=gp s.1+s.2.length
 mono:∀c,V s.1 c=true->V s'.1 c=true
 BS:∀c∈s.2,c∈s'.2
 new:∀c,V s'.1 c=true->V s.1 c=true\/(bs c/\c∈s'.2)
 MR:∀c∈s'.2,c∈s.2\/(bs c/\V s'.1 c=true)
 all:∀c,bs c->c<s.1.length->V s'.1 c=true
theorem Step.refl (s:List Nat×List Nat):Step s s (λ_=>False):=⟨rfl,rfl,λ_ h=>h,λ_ h=>h,λ_ h=>.inl h,λ_ h=>.inl h,λ_ h=>h.elim⟩
theorem Step.trans {s s' s'':List Nat×List Nat}{p q:Nat->Prop}(h:Step s s' p)(k:Step s' s'' q):Step s s'' (λc=>p c\/q c) where
 len:=k.len.trans h.len
 Fb:=k.Fb.trans h.Fb
 mono:=λc hc=>k.mono c (h.mono c hc)
 BS:=λc hc=>k.BS c (h.BS c hc)
 new:=λc hc=>(k.new c hc).elim (λa=>(h.new c a).imp id λb=>⟨.inl b.1,k.BS c b.2⟩) (λa=>.inr ⟨.inr a.1,a.2⟩)
 MR:=λc hc=>(k.MR c hc).elim (λa=>(h.MR c a).imp id λb=>⟨.inl b.1,k.mono c b.2⟩) (λa=>.inr ⟨.inr a.1,a.2⟩)
 all:=λc hc hl=>hc.elim (λa=>k.mono c (h.all c a hl)) (λa=>k.all c a (by rw[h.len];exact hl))
theorem Step.congr {s s':List Nat×List Nat}{p q:Nat->Prop}(h:Step s s' p)(FE:∀c,p c↔q c):Step s s' q:=
 ⟨h.len,h.Fb,h.mono,h.BS,λc hc=>(h.new c hc).imp id λb=>⟨(FE c).1 b.1,b.2⟩,λc hc=>(h.MR c hc).imp id λb=>⟨(FE c).1 b.1,b.2⟩,λc hc hl=>h.all c ((FE c).2 hc) hl⟩
theorem avP {out:List Nat}{b:Nat}(hb:b<out.length)(h:out[b]? ≠ some 0):V out b=true:=by
 unfold V;rw[aaC hb] at h⊢;cases hx:out[b] with
 |zero=>rw[hx] at h;exact absurd rfl h|succ k=>rfl
theorem aAe {steps:Nat}(hs:0<steps)(s:List Nat×List Nat)(b:Nat):Step s (vH steps s b) (λc=>c=b):=by
 unfold vH;split
 ·rename_i h;have hz:=aqt h hs;refine⟨acV,by simp;omega,λc hc=>?_,λc hc=>aa1 _ hc,λc hc=>?_,λc hc=>?_,λc hc hl=>?_⟩;·rw[QF h hs,hc];rfl
  ·rw[QF h hs,aiK] at hc;refine hc.imp id λq=>?_;have q:c=b:=by simpa using q
   exact⟨q,by subst q;simp⟩
  ·rcases aa2.1 hc with hc|hc;·exact .inl hc
   ·rw[No] at hc;subst hc;exact .inr ⟨rfl,by rw[QF h hs];simp⟩
  ·subst hc;rw[QF h hs];simp
 ·rename_i h;exact⟨rfl,rfl,λ_ h=>h,λ_ h=>h,λ_ h=>.inl h,λ_ h=>.inl h,λc hc hl=>by subst hc;exact avP hl h⟩
theorem XG {steps:Nat}(hs:0<steps):∀(bs:List Nat) (s:List Nat×List Nat),Step s (ug steps bs s) (λc=>c∈bs)
 |[],s=>(Step.refl s).congr λc=>zzy
 |b::bs,s=>((aAe hs s b).trans (XG hs bs _)).congr λc=>zzy
theorem Sh {sc:Nat->List Nat}{steps:Nat}(hs:0<steps):∀(l:List Nat) (s:List Nat×List Nat),Step s (xt sc steps l s) (λc=>∃a∈l,c∈sc a)
 |[],s=>(Step.refl s).congr λc=>zzy
 |a::l,s=>((XG hs (sc a) s).trans (Sh hs l _)).congr λc=>zzy
theorem ao6 {sc:Nat->List Nat}{N n:Nat}(hN:∀a,∀b∈sc a,b<N){C:Nat->Prop}(NW:∀b∈sc n,C b)(hC:∀a,C a->∀b∈sc a,C b):
  ∀(f:Nat) (l out:List Nat) (steps:Nat),0<steps->out.length=N->(l=[]\/gp out<f)->(∀a,(a=n\/V out a=true)->a∈l\/∀b∈sc a,V out b=true)->
   (∀a∈l,a=n\/C a)->(∀a,V out a=true->C a)->
   (xq sc f l out steps).length=N/\(∀a,(a=n\/V (xq sc f l out steps) a=true)->∀b∈sc a,V (xq sc f l out steps) b=true)/\∀a,V (xq sc f l out steps) a=true->C a
 |0,l,out,steps,hs,hl,hz,h1,h2,h3=>by have:l=[]:=hz.resolve_right zzz;subst this;exact⟨hl,λa ha=>(h1 a ha).resolve_left zzy,h3⟩
 |f+1,l,out,steps,hs,hl,hz,h1,h2,h3=>by
  unfold xq;split;·rename_i h;subst h;exact⟨hl,λa ha=>(h1 a ha).resolve_left zzy,h3⟩
  ·rename_i aF;have hz:=hz.resolve_left aF;have S:=Sh (sc:=sc) hs l (out,[]);refine ao6 hN NW hC f _ _ (steps+1) zzz (S.len.trans hl) ?_ ?_ ?_ ?_
   ·have:=S.Fb;simp only[ach,aed] at this;cases hx:(xt sc steps l (out,[])).2 with
    |nil=>exact .inl rfl|cons x y=>rw[hx] at this;simp only[aaP] at this;exact .inr zzz
   ·intro a ha;have key:(a=n\/V out a=true)->a∈(xt sc steps l (out,[])).2\/∀b∈sc a,V (xt sc steps l (out,[])).1 b=true:=by
     intro ha;refine .inr λb hb=>?_;rcases h1 a ha with q|q;·exact S.all b ⟨a,q,hb⟩ (by rw[hl];exact hN a b hb)
     ·exact S.mono b (q b hb)
    rcases ha with ha|ha;·exact key (.inl ha)
    ·rcases S.new a ha with q|q;·exact key (.inr q)
     ·exact .inl q.2
   ·intro a ha;rcases S.MR a ha with q|⟨⟨x,hx,KR⟩,_⟩;·cases q
    ·refine .inr ?_;rcases h2 x hx with rfl|q;·exact NW a KR
     ·exact hC x q a KR
   ·intro a ha;rcases S.new a ha with q|⟨⟨x,hx,KR⟩,_⟩;·exact h3 a q
    ·rcases h2 x hx with rfl|q;·exact NW a KR
     ·exact hC x q a KR
theorem ads (N b:Nat):V (List.replicate N 0) b=false:=by
 unfold V;rw[amt];split;·rename_i h;split at h<;>cases h
 ·rfl
theorem aeo (N:Nat):gp (List.replicate N 0)=N:=by unfold gp;rw[List.countP_replicate];simp
theorem ax8 {sc:Nat->List Nat}{N n:Nat}(hN:∀a,∀b∈sc a,b<N){C:Nat->Prop}(NW:∀b∈sc n,C b)(hC:∀a,C a->∀b∈sc a,C b):
  (far sc N n).length=N/\(∀a,(a=n\/V (far sc N n) a=true)->∀b∈sc a,V (far sc N n) b=true)/\∀a,V (far sc N n) a=true->C a:=
 ao6 hN NW hC _ _ _ _ zzx zzy (.inr (by rw[aeo];omega)) (λa ha=>by
  rcases ha with rfl|ha;·exact .inl (.head _)
  ·rw[ads] at ha;cases ha) (λa ha=>by rw[No] at ha;exact .inl ha) (λa ha=>by rw[ads] at ha;cases ha)
end Go.Proofs.YtodfajmihkagnaaGreatDoor.pf
namespace Go.Proofs.YtodfajmihkagnaaGreatDoor.bD
open Go Am Am.K lD na kJ
section
theorem aFy (N n:Int)(e:AV)(he:aZ e=true)(H:Hp):cK (zf 175) [.agg [zi N,e],zi n] H=some (.bool (decide (0<=n)&&decide (n<N)),al H [zi N,e] 201 0):=by
 refine aAi ?_;unfold ah2;by_cases h1:0<=n;·simp(disch:=try exact zqq)only[h1,acy,ar,aq,Nat.reduceAdd,zz0,Int.reduceBEq,Int.reduceBNe,Int.reduceLT,Int.reduceLE,Int.reduceGT,Int.reduceGE,Int.reduceNeg]
 ·simp(disch:=try exact zqq)only[h1,acw,ar,aq,Nat.reduceAdd,zz0,Int.reduceBEq,Int.reduceBNe,Int.reduceLT,Int.reduceLE,Int.reduceGT,Int.reduceGE,Int.reduceNeg]
theorem sZ (n a b:Int)(H:Hp):cK (zf 119) [zi n,zi a,zi b] H=some (.bool (decide (a<=n)&&decide (n<=b)),H):=by
 refine aDQ ?_;unfold aeS;by_cases h1:a<=n;·simp(disch:=try exact zqq)only[h1,acy,ar,aq,Nat.reduceAdd,zz0,Int.reduceBEq,Int.reduceBNe,Int.reduceLT,Int.reduceLE,Int.reduceGT,Int.reduceGE,Int.reduceNeg]
 ·simp(disch:=try exact zqq)only[h1,acw,ar,aq,Nat.reduceAdd,zz0,Int.reduceBEq,Int.reduceBNe,Int.reduceLT,Int.reduceLE,Int.reduceGT,Int.reduceGE,Int.reduceNeg]
abbrev Ed:=Nat×Nat
def bY (e:Ed):List AV:=[zi e.1,zi e.2]
def ma (E:List Ed):List (List AV):=E.map bY
theorem QZ (E:List Ed):(ma E).length=E.length:=by simp[ma]
section
variable {E:List Ed}{H:Hp}{c m:Nat}{e:Ed}
theorem aad {i:Nat}(h:E[i]?=some e):(ma E)[i]?=some (bY e):=by simp[ma,h]
theorem eqE (a b c d:Int)(n:Nat)(H:Hp):eO P (n+2) 231 (.agg [zi a,zi b]) (.agg [zi c,zi d]) H=some (a==c&&b==d):=by
 have hu:P.underlying 231=some (.array 2 3):=Tryz.underlying231;have hi:P.underlying 3=some (.int .i64):=Tryz.underlying3;have hs:sz P 3=some 1:=zzw;have ha:As P 3=some false:=zzw;have h1:∀x y:Int,eO P (n+1) 3 (zi x) (zi y) H=some (x==y):=by intro x y;unfold eO;simp only[hi,if_true]
 rw[eO.eq_def];simp only[hu,hs];show uf _ [0,1]=_;simp only[uf,pE,ha,abY,acf,ag0,aj4,ada,acJ,h1];cases hac:(a==c)<;>cases hbd:(b==d)<;>simp[h1,hac,hbd]
def Bt (E:List (Ed×Nat)):List ME:=E.map λx=>⟨.agg (bY x.1),.bool true,x.2⟩
theorem WC {H:Hp}{e:Ed}:∀(E:List (Ed×Nat)) (i:Nat),(∀x∈E,x.1≠e)->pC P H 231 (.agg (bY e)) (Bt E) i=some none
 |[],i,_=>rfl|x::E,i,h=>by
  have h1:=eqE e.1 e.2 x.1.1 x.1.2 18 H;have h2:(((e.1:Nat):Int)==((x.1.1:Nat):Int)&&((e.2:Nat):Int)==((x.1.2:Nat):Int))=false:=by rw[<-ahM,aaM,zz6,zz6];intro q;exact h x (.head _) (Prod.ext (by have:=q.1;omega) (by have:=q.2;omega))
  rw[h2] at h1;show pC P H _ (.agg (bY e)) (⟨.agg (bY x.1),.bool true,x.2⟩::Bt E) i=_;unfold pC;have QP:eO P 20 231 (.agg (bY e)) (.agg (bY x.1)) H=some false:=h1;rw[QP];exact WC E (i+1) λy hy=>h y (.tail _ hy)
theorem ajv (e:Ed):qQ P 20 231 (.agg (bY e))=true:=zzw
theorem lkE {E:List (Ed×Nat)}(hm:Mp H m (Bt E) c)(h:∀x∈E,x.1≠e):tG P 248 (.map m) (.agg (bY e)) false H=some (.bool false):=by have hu:P.underlying 248=some (.map 231 4):=Tryz.underlying248;have hz:((P.info? 4).bind (·.zero)).bind lA=some (.bool false):=zzw;unfold tG;simp only[hu,ajv,cond_true,KH hm,WC E 0 h,hz,adX,cond_false]
theorem upE {E:List (Ed×Nat)}(hm:Mp H m (Bt E) c)(h:∀x∈E,x.1≠e):∃H',sd P 248 (.map m) (.agg (bY e)) (.bool true) H=some H'/\Mp H' m (Bt (E++[(e,c)])) (c+1)/\Out [m] H H'/\H'.next=H.next:=by
 have hu:P.underlying 248=some (.map 231 4):=Tryz.underlying248;have he:Bt (E++[(e,c)])=Bt E++[⟨.agg (bY e),.bool true,c⟩]:=by simp[Bt]
 rw[he];refine⟨_,?_,(hm.set _ _).1,(hm.set _ _).2,rfl⟩;unfold sd;simp only[hu,ajv,cond_true,hm.2,WC E 0 h]
structure sI (N:Nat)(E:List Ed):Prop where
 n:N<=16
 lt:∀e∈E,e.1<N/\e.2<N/\e.1≠e.2
 nd:E.Nodup
 len:E.length<=300
theorem agv {N:Nat}{E:List Ed}{x:AV}{g m:Nat}{H0:Hp}(hE:sI N E)(hx:RL H0 2 x (ma E))(hg:Cs H0 g [zi N,x] 201 0)(SE:g≠m)(hxm:∀j∈ak x,j≠m)(k:K.Fn 0):∀(r:List Ed) (i:Nat) (H:Hp) (M:List (Ed×Nat)) (c:Nat),i<=E.length->E.drop i=r->Out [m] H0 H->Mp H m (Bt M) c->M.map (·.1)=E.take i->
  ∃H',aan JN GO cK k (.ptr g 0) (.map m) x (zi (E.length:Nat)) (zi (i:Nat)) H=k H'/\Out [m] H H'
 |[],i,H,M,c,hi,h,ho,hm,hM=>by obtain rfl:=drop_nil hi h;refine⟨H,?_,Out.refl _ _⟩;rw[ahS];simp only[ZS,df,zz0,Int.reduceBEq,Int.reduceBNe,Int.reduceLT,Int.reduceLE,Int.reduceGT,Int.reduceGE,Int.reduceNeg]
 |e::r,i,H,M,c,hi,h,ho,hm,hM=>by
  obtain⟨h1,h2,h3⟩:=dU h;obtain⟨l1,l2,l3⟩:=hE.lt e (aac h2);obtain⟨b,o,q1,q2,q3,q4,_⟩:=(hx.out ho λj hj=>by rw[No];exact hxm j hj).at zzx (aad h2);have hgH:=hg.out ho (by rw[No];exact SE);have Cu:=hgH.1;have xZ:=hm.1;have jP:=hgH.av 2 0 zzy;have es:=dC h1 (by have:=hE.len;omega);have d1:decide ((0:Int)<=((e.1:Nat):Int))=true:=zz3 zzz;have d2:decide (((e.1:Nat):Int)<(N:Int))=true:=zz3 zzz;have d3:decide ((0:Int)<=((e.2:Nat):Int))=true:=zz3 zzz;have d4:decide (((e.2:Nat):Int)<(N:Int))=true:=zz3 zzz;have d5:(((e.1:Nat):Int)==((e.2:Nat):Int))=false:=zz7 zzz;have aF:∀y∈M,y.1≠e:=by
   intro y hy heq;have h4:y.1∈E.take i:=by rw[<-hM];exact List.mem_map_of_mem hy
   have gW:=hE.nd;rw[<-ajx i E,h,aeg] at gW;exact gW.2.2 _ h4 e (.head _) heq
  have kB:=hx.one;have ha1:Mp (al (al (al H (bY e) 231 0) [zi N,x] 201 0) [zi N,x] 201 0) m (Bt M) c:=((hm.out (aD H _ _ _) zzy).out (aD _ _ _ _) zzy).out (aD _ _ _ _) zzy;obtain⟨H1,u1,u2,u3,u4⟩:=upE ha1 aF;have aJa:(al (al (al H (bY e) 231 0) [zi N,x] 201 0) [zi N,x] 201 0).next=H.next+3:=rfl;have o1:Out [m] H H1:=((((aD H (bY e) 231 0).al [zi N,x] 201 0).al [zi N,x] 201 0).mono (S':=[m]) (λj hj=>by cases hj)).trans u3;obtain⟨H',i1,i2⟩:=agv hE hx hg SE hxm k r (i+1) H1 (M++[(e,c)]) (c+1) h1 h3 (ho.trans o1) u2 (by rw[acY,hM,akq,h2];rfl);refine⟨H',?_,o1.trans i2⟩;have lk:=lkE ha1 aF;have Eg:av H b o 2=some (bY e):=q4;have q5:av H g 0 2=some [zi N,x]:=jP;have e0:(bY e)[0]?=some (zi e.1):=rfl;have e1:(bY e)[1]?=some (zi e.2):=rfl;have e2:(bY e).take 2=bY e:=rfl;have II:(bY e).length=2:=rfl;have mP:(bY e).all aZ=true:=rfl;have BE:st 2 (.ptr H.next 0) (.agg (bY e)) (al H [zi 0,zi 0] 231 0)=some (al H (bY e) 231 0):=gJ rfl rfl rfl zzx rfl;rw[ahS];simp(disch:=try exact zqq)only[ZS,aN h1,q1,Eg,q5,BE,e0,e1,e2,II,aFy _ _ _ kB,d1,d2,d3,d4,d5,lk,u1,es,i1,Bool.and_self,ar,aq,Nat.reduceAdd,zz0,Int.reduceBEq,Int.reduceBNe,Int.reduceLT,Int.reduceLE,Int.reduceGT,Int.reduceGE,Int.reduceNeg]
abbrev gv (N:Nat)(x:AV):AV:=.agg [zi N,x]
theorem aiJ {N:Nat}{x:AV}(hE:sI N E)(hx:RL H 2 x (ma E)):∃H',cK (zf 155) [gv N x] H=some (.bool true,H')/\Out [] H H':=by
 have kB:=hx.one;have hN:=hE.n;have pg:=aD H [zi N,x] 201 0;obtain⟨H2,m1,m2,m3,m4⟩:=Uo (al H [zi N,x] 201 0);have qJ:Out [] H H2:=pg.trans m3;rw[bT] at m1 m2;have aR:=hx.1.lt;obtain⟨H',i1,i2⟩:=agv (g:=H.next) (m:=H.next+1) hE (hx.au qJ) ((aP H [zi N,x] 201 0).out m3 zzy) zzz (λj hj=>by have:=aR j hj;omega) (λh=>some (.bool true,h)) E 0 H2 [] 0 (aa7 _) aaY (Out.refl _ _) m2 rfl;refine⟨H',arH ?_,qJ.then i2 λj hj=>by rw[No] at hj;exact .inr zzz⟩;have hl:=(hx.au qJ).len zzx;rw[QZ] at hl;have d1:decide ((N:Int)<0)=false:=zz4 zzz;have d2:decide ((16:Int)<(N:Int))=false:=zz4 zzz;rw[show (((0:Nat):Int))=0 from rfl] at i1;have CM:cellAt H2 H.next 1=some x:=by rw[m3.cellAt (by rw[bT];omega) zzy];exact (aP H [zi N,x] 201 0).cellAt rfl
 unfold anj;simp(disch:=try exact zqq)only[d1,d2,m1,hl,i1,CM,ar,aq,Nat.reduceAdd,zz0,Int.reduceBEq,Int.reduceBNe,Int.reduceLT,Int.reduceLE,Int.reduceGT,Int.reduceGE,Int.reduceNeg]
def zK (E:List Ed)(n:Nat)(aiH:Bool):List Nat:=E.filterMap λe=>if (bif aiH then e.2 else e.1)=n then some (bif aiH then e.1 else e.2) else none
def dQ (l:List Nat):List Int:=l.map λ(n:Nat)=>(n:Int)
theorem AP (l:List Nat):(dQ l).length=l.length:=by simp[dQ]
theorem Vc (a b:List Nat):dQ (a++b)=dQ a++dQ b:=by simp[dQ]
theorem ai8 (E:List Ed)(n:Nat)(b:Bool):(zK E n b).length<=E.length:=List.length_filterMap_le _ _
theorem aao {N:Nat}{E:List Ed}{x:AV}{H0:Hp}(b1:Bool){n:Nat}(hE:E.length<=300)(hx:RL H0 2 x (ma E)):∀(r:List Ed) (i:Nat) (H:Hp) (y:AV) (acc:List Nat) (S:List Nat),i<=E.length->E.drop i=r->Out S H0 H->(∀j∈S,H0.next<=j)->Ow H 3 1 y (ints (dQ acc))->(∀j∈ak y,H0.next<=j)->acc.length<=i->
  ∃y' H',(∀k:K.Fn 1,YL JN GO cK k (zi n) (zi (bif b1 then 1 else 0)) y x (zi (E.length:Nat)) (zi (i:Nat)) H=k y' H')/\Ow H' 3 1 y' (ints (dQ (acc++zK r n b1)))/\Out (ak y) H H'/\∀j∈ak y',j∈ak y\/H.next<=j
 |[],i,H,y,acc,S,hi,h,ho,hS,hy,NT,ha=>by obtain rfl:=drop_nil hi h;refine⟨y,H,λk=>?_,by simpa[zK] using hy,Out.refl _ _,λj hj=>.inl hj⟩;rw[YQ];simp only[IM,df,zz0,Int.reduceBEq,Int.reduceBNe,Int.reduceLT,Int.reduceLE,Int.reduceGT,Int.reduceGE,Int.reduceNeg]
 |e::r,i,H,y,acc,S,hi,h,ho,hS,hy,NT,ha=>by
  obtain⟨h1,h2,h3⟩:=dU h;have dA:=hx.1.lt;obtain⟨b,o,q1,q2,q3,q4,_⟩:=(hx.out ho λj hj=>λq=>by have:=hS j q;have:=dA j hj;omega).at zzx (aad h2);have es:=dC h1 zzz;have Eg:av H b o 2=some (bY e):=q4;have e0:(bY e)[0]?=some (zi e.1):=rfl;have e1:(bY e)[1]?=some (zi e.2):=rfl;have II:(bY e).length=2:=rfl;have BE:st 2 (.ptr H.next 0) (.agg (bY e)) (al H [zi 0,zi 0] 231 0)=some (al H (bY e) 231 0):=gJ rfl rfl rfl zzx rfl;have pg:=aD H (bY e) 231 0;have w0:IntKind.wrap .i64 (1-0)=1:=rfl;have w1:IntKind.wrap .i64 (1-1)=0:=rfl;by_cases hq:(bif b1 then e.2 else e.1)=n
  ·have hb:zK (e::r) n b1=(bif b1 then e.1 else e.2)::zK r n b1:=by simp[zK,hq]
   obtain⟨y1,H1,p1,p2,p3,p4,p5⟩:=vf (el2:=3) (z:=[(zi 0)]) (vs:=[zi ((bif b1 then e.1 else e.2:Nat):Int)]) (hy.out pg zzy) rfl rfl zzx (by rw[nb,AP];simp;omega);have uw:ints (dQ acc)++[zi ((bif b1 then e.1 else e.2:Nat):Int)]=ints (dQ (acc++[bif b1 then e.1 else e.2])):=by rw[Vc,Qk];rfl
   rw[uw] at p2;have o1:Out (ak y) H H1:=(pg.mono (S':=ak y) λj hj=>by cases hj).trans p3;have mE:=o1.nx;have nU:=ho.nx;obtain⟨y',H',i1,i2,i3,i4⟩:=aao (N:=N) b1 (n:=n) hE hx r (i+1) H1 y1 (acc++[bif b1 then e.1 else e.2]) (S++ak y) h1 h3 ((ho.mono (S':=S++ak y) λj hj=>aa1 _ hj).trans (o1.mono λj hj=>aaT _ hj)) (λj hj=>(aa2.1 hj).elim (hS j) (NT j)) p2 (λj hj=>(p4 j hj).elim (NT j) λq=>by rw[bT] at q;omega) (by simp;omega);refine⟨y',H',λk=>?_,by rw[hb];simpa[abr] using i2,o1.then i3 λj hj=>(p4 j hj).imp id λq=>by rw[bT] at q;omega,λj hj=>(i4 j hj).elim (λq=>(p4 j q).imp id λq=>by rw[bT] at q;omega) λq=>.inr zzz⟩;have fI:=p1 (H.next+1) rfl;rw[YQ];cases b1 with
   |true=>
    simp only[cond_true] at hq fI i1;subst hq;simp(disch:=try exact zqq)only[cond_true,IM,aN h1,q1,Eg,BE,e0,e1,II,w1,fI,es,i1,ar,aq,Nat.reduceAdd,zz0,Int.reduceBEq,Int.reduceBNe,Int.reduceLT,Int.reduceLE,Int.reduceGT,Int.reduceGE,Int.reduceNeg]
   |false=>
    simp only[cond_false] at hq fI i1;subst hq;simp(disch:=try exact zqq)only[cond_false,IM,aN h1,q1,Eg,BE,e0,e1,II,w0,fI,es,i1,ar,aq,Nat.reduceAdd,zz0,Int.reduceBEq,Int.reduceBNe,Int.reduceLT,Int.reduceLE,Int.reduceGT,Int.reduceGE,Int.reduceNeg]
  ·have hb:zK (e::r) n b1=zK r n b1:=by simp[zK,hq]
   obtain⟨y',H',i1,i2,i3,i4⟩:=aao (N:=N) b1 (n:=n) hE hx r (i+1) (al H (bY e) 231 0) y acc S h1 h3 (ho.al _ _ _) hS (hy.out pg zzy) NT zzz;refine⟨y',H',λk=>?_,by rw[hb];exact i2,(pg.mono (S':=ak y) λj hj=>by cases hj).trans i3,λj hj=>(i4 j hj).imp id λq=>by rw[bT] at q;omega⟩;rw[YQ];cases b1 with
   |true=>
    simp only[cond_true] at hq i1;have aF:(((e.2:Nat):Int)==(n:Int))=false:=zz7 zzz;simp(disch:=try exact zqq)only[cond_true,IM,aN h1,q1,Eg,BE,e0,e1,II,aF,es,i1,ar,aq,Nat.reduceAdd,zz0,Int.reduceBEq,Int.reduceBNe,Int.reduceLT,Int.reduceLE,Int.reduceGT,Int.reduceGE,Int.reduceNeg]
   |false=>
    simp only[cond_false] at hq i1;have aF:(((e.1:Nat):Int)==(n:Int))=false:=zz7 zzz;simp(disch:=try exact zqq)only[cond_false,IM,aN h1,q1,Eg,BE,e0,e1,II,aF,es,i1,ar,aq,Nat.reduceAdd,zz0,Int.reduceBEq,Int.reduceBNe,Int.reduceLT,Int.reduceLE,Int.reduceGT,Int.reduceGE,Int.reduceNeg]
end
end
open pf
section
variable {E:List Ed}{H:Hp}{N:Nat}{l:List Nat}{x:AV}
theorem aEW {zs:List Int}(hx:Ow H 3 1 x (ints zs))(hl:zs.length<=16777216):
  ∃H',cK (zf 192) [x] H=some (.tuple [],H')/\Ow H' 3 1 x (ints (jy.sG zs))/\Out (ak x) H H':=by
 generalize hz:ints zs=l at hx;cases hx with
 |nil=>
  have:zs=[]:=by simpa[ints] using hz
  subst this;refine⟨H,DA (p:=jy.xV) zzw rfl,?_,Out.refl _ _⟩;simp[jy.sG,ints];exact .nil
 |@emp i off=>
  have:zs=[]:=by simpa[ints] using hz
  subst this;refine⟨H,DA (p:=jy.xV) zzw ?_,?_,Out.refl _ _⟩;·unfold jy.xV;simp only[if_true]
  ·simp[jy.sG,ints];exact .emp
 |@mk i off n cap ex _ c lo hi fl ka hg hf iK lK jC hn hc hs h1 he=>
  subst hz;rw[nb,adM] at hn;by_cases h0:n=0
  ·subst h0;have:zs=[]:=List.length_eq_zero_iff.1 hn;subst this;refine⟨H,DA (p:=jy.xV) zzw ?_,?_,Out.refl _ _⟩;·unfold jy.xV;simp only[if_true]
   ·exact .mk ka hg hf iK lK jC (by simp[jy.sG,ints]) (by simp[jy.sG,ints]) hs (by simp[jy.sG,ints]) he
  ·have mR:=jy.ahb zs;have Mg:Ro H i off (ints zs):=⟨ka,c,lo,hi,3,fl,hg,iK,by rw[nb];omega,hc⟩;have KI:=Mg.av;rw[nb,hn] at KI;have aBh:(Am.av H i off n).bind jy.Es=some zs:=by rw[KI];exact jy.ag4 zs
   have mK:jy.xV [.slice i off n cap ex 1] H=some (.tuple [],{H with h:=H.h.cW i (.cells (c.cl off (jy.va (jy.sG zs))) lo hi 3 fl)}):=by unfold jy.xV;simp only;rw[zz1 h0,zz2 ⟨trivial,zzz⟩,hg,acf];unfold jy.Ys;simp only;rw[zz2 ⟨iK,zzz,hf⟩,aBh];rfl
   have gE:∀j,(H.h.cW i (AO.cells (c.cl off (jy.va (jy.sG zs))) lo hi 3 fl)).get j=if j=i then some (AO.cells (c.cl off (jy.va (jy.sG zs))) lo hi 3 fl) else H.h.get j:=λj=>Tr.aa6 _ _ _ _ (by rw[hg];rfl)
   refine⟨_,DA (p:=jy.xV) zzw mK,?_,⟨aaO _,λj hj OU=>?_⟩⟩
   ·refine .mk (c:=c.cl off (ints (jy.sG zs))) ka ?_ hf iK lK jC (by rw[nb];omega) (λk v hk=>?_) (λk hk=>?_) (atP _) he;·show (H.h.cW i _).get i=_;rw[gE,zz2 rfl];rfl
    ·have rZ:=(aag.1 hk).1;rw[Tr.zj,zz2 ⟨zzz,zzz⟩,ae0];exact hk
    ·rw[Tr.zj];split;·rename_i mV;rw[aaC zzz];rfl
     ·exact hs k hk
   ·show (H.h.cW i _).get j=_;rw[gE,zz1 (λq=>OU (by subst q;rw[pK he];exact .head _))]
def sortN (l:List Nat):List Nat:=l.mergeSort λx y=>decide (x<=y)
theorem aD2 (l:List Nat):(sortN l).length=l.length:=(List.mergeSort_perm l _).length_eq
theorem anm {x:Nat}:x∈sortN l↔x∈l:=(List.mergeSort_perm l _).mem_iff
theorem aAs (l:List Nat):jy.sG (dQ l)=dQ (sortN l):=by unfold jy.sG dQ sortN;rw[List.map_mergeSort];intro a _ b _;simp
def mw (E:List Ed)(n:Nat)(b:Bool):List Nat:=sortN (zK E n b)
theorem aim (E:List Ed)(n:Nat)(b:Bool):(mw E n b).length<=E.length:=by unfold mw;rw[aD2];exact ai8 E n b
theorem WV {n x:Nat}:(x∈mw E n false↔(n,x)∈E)/\(x∈mw E n true↔(x,n)∈E):=by
 unfold mw zK;rw[anm,anm,List.mem_filterMap,List.mem_filterMap];constructor
 ·constructor
  ·rintro⟨e,he,h⟩;simp only[cond_false] at h;split at h;·rename_i h1;cases h;subst h1;exact he
   ·cases h
  ·intro h;exact⟨_,h,zzy⟩
 ·constructor
  ·rintro⟨e,he,h⟩;simp only[cond_true] at h;split at h;·rename_i h1;cases h;subst h1;exact he
   ·cases h
  ·intro h;exact⟨_,h,zzy⟩
theorem aGe (b:Bool)(n:Nat)(hE:sI N E)(hx:RL H 2 x (ma E)):
  ∃y H',cK (zf 176) [gv N x,zi n,zi (bif b then 1 else 0)] H=some (y,H')/\Ow H' 3 1 y (ints (dQ (mw E n b)))/\Out [] H H'/\∀j∈ak y,H.next<=j:=by
 have kB:=hx.one;have pg:=aD H [zi N,x] 201 0;obtain⟨H2,g1,g2⟩:=aiJ hE (hx.au pg);have iN:=g2.nx;rw[bT] at iN;have qJ:=pg.trans g2;have mI:=hx.au qJ;obtain⟨y,H3,i1,i2,i3,i4⟩:=aao (N:=N) b (n:=n) hE.len mI E 0 H2 .ah [] [] (aa7 _) aaY (Out.refl _ _) (λj hj=>by cases hj) .nil (λj hj=>by cases hj) (aaO _);rw[afP] at i2;have hr:∀j∈ak y,H2.next<=j:=λj hj=>(i4 j hj).elim (λq=>by cases q) id;obtain⟨H4,s1,s2,s3⟩:=aEW i2 (by rw[AP];have:=ai8 E n b;have:=hE.len;omega);rw[aAs] at s2;refine⟨y,H4,ass ?_,s2,qJ.trans ((i3.mono λj hj=>by cases hj).then s3 λj hj=>.inr (hr j hj)),λj hj=>by have:=hr j hj;omega⟩;have hl:=mI.len zzx;rw[QZ] at hl;have CM:cellAt H2 H.next 1=some x:=by rw[g2.cellAt (by rw[bT];omega) zzy];exact (aP H [zi N,x] 201 0).cellAt rfl
 rw[show (((0:Nat):Int))=0 from rfl] at i1;unfold ai4;simp(disch:=try exact zqz)only[g1,CM,hl,i1,s1,ar,aq,zz0,simprocAttr]
theorem afw (n:Nat)(hE:sI N E)(hx:RL H 2 x (ma E)):
  ∃y H',cK (zf 157) [gv N x,zi n] H=some (y,H')/\Ow H' 3 1 y (ints (dQ (mw E n false)))/\Out [] H H'/\∀j∈ak y,H.next<=j:=by
 have kB:=hx.one;have pg:=aD H [zi N,x] 201 0;obtain⟨y,H',h1,h2,h3,h4⟩:=aGe false n hE (hx.au pg);refine⟨y,H',asl ?_,h2,pg.trans h3,λj hj=>by have:=h4 j hj;rw[bT] at this;omega⟩;simp only[cond_false] at h1;unfold ahk;simp(disch:=try exact zqz)only[h1,ar,aq,zz0,simprocAttr]
theorem J2 {i n:Nat}(h:l[i]?=some n):(ints (dQ l))[i]?=some (zi (n:Int)):=Dw (by simp[dQ,h])
theorem abK {N steps:Nat}{bl:List Nat}{bx:AV}{A:Nat}(aC:0<steps)(kM:∀b∈bl,b<N)(oG:bl.length<=300)(bX di dN bV:AV)(hA:A∉ak bx):
  ∀(r:List Nat) (i:Nat) (H:Hp) (out nx:List Nat) (ny:AV),i<=bl.length->bl.drop i=r->Rw H 1 bx (ints (dQ bl))->(∀j∈ak ny,j∉ak bx/\j≠A)->out.length=N->nx.length+r.length<=100000->Cs H A (ints (dQ out)) 3 0->Ow H 3 1 ny (ints (dQ nx))->
  ∃vS H',(∀(aX:K.Fn 1) (aK et:K.Fn 4) (gY iD:K.Fn 7),NB JN GO cK aX aK et gY iD bX (.slice A 0 N N true 1) (zi steps) ny di dN bV bx (zi (bl.length:Nat)) (zi (i:Nat)) H=iD bX (.slice A 0 N N true 1) (zi steps) vS di dN bV H')/\
   Cs H' A (ints (dQ (ug steps r (out,nx)).1)) 3 0/\Ow H' 3 1 vS (ints (dQ (ug steps r (out,nx)).2))/\Out (A::ak ny) H H'/\∀j∈ak vS,j∈ak ny\/H.next<=j
 |[],i,H,out,nx,ny,hi,h,hb,hd,mG,jw,hC,hO=>by obtain rfl:=drop_nil hi h;refine⟨ny,H,λaX aK et gY iD=>?_,hC,hO,Out.refl _ _,λj hj=>.inl hj⟩;rw[VX];simp only[OJ,df,zz0,simprocAttr]
 |b::r,i,H,out,nx,ny,hi,h,hb,hd,mG,jw,hC,hO=>by
  obtain⟨h1,h2,h3⟩:=dU h;obtain⟨q,q1,q2⟩:=hb.fW (J2 h2) .i64;have hbN:=kM b (aac h2);have es:=dC h1 zzz;have xX:out[b]?=some (out[b]' zzz):=aaC zzz;have Xm:=hC.ld (J2 xX);have qj:ia 1 (.slice A 0 N N true 1) (zi (b:Int))=some (.ptr A b):=by rw[DL hbN];simp
  simp only[aaP] at jw;by_cases h0:out[b]' zzz=0
  ·rw[h0] at xX Xm;obtain⟨H1,w1,w2,w3,w4⟩:=ff hC zzx (o:=b) (by rw[nb,AP];omega) (v:=zi (steps:Int)) rfl;have fY:(ints (dQ out)).set b (zi (steps:Int))=ints (dQ (out.set b steps)):=by simp[ints,dQ,List.map_set]
   rw[fY] at w2;have zJ:=hO.out w3 λj hj=>by rw[No];exact (hd j hj).2
   obtain⟨ny1,H2,p1,p2,p3,p4,p5⟩:=vf (el2:=3) (z:=[(zi 0)]) (vs:=[zi (b:Int)]) zJ rfl rfl zzx (by rw[nb,AP];simp;omega);have uw:ints (dQ nx)++[zi (b:Int)]=ints (dQ (nx++[b])):=by rw[Vc,Qk];rfl
   rw[uw] at p2;have aF:A∉ak ny:=λq=>(hd A q).2 rfl;have hCl:=hC.1;have aqv:=hb.lt;obtain⟨vS,H',i1,i2,i3,i4,i5⟩:=abK (N:=N) aC kM oG bX di dN bV hA r (i+1) H2 (out.set b steps) (nx++[b]) ny1 h1 h3 ((hb.out w3 λj hj=>by rw[No];intro e;subst e;exact hA hj).out p3 λj hj q=>(hd j q).1 hj)
    (λj hj=>(p4 j hj).elim (hd j) λq=>⟨λz=>by have:=aqv j z;omega,zzz⟩) (by rw[acV];exact mG) (by simp;omega) (w2.out p3 aF) p2
   have hex:ug steps (b::r) (out,nx)=ug steps r (out.set b steps,nx++[b]):=by show ug steps r (vH steps (out,nx) b)=_;unfold vH;rw[zz2 xX]
   have o2:Out (A::ak ny) H H2:=(w3.mono λj hj=>by rw[No] at hj;subst hj;exact .head _).trans (p3.mono λj hj=>.tail _ hj);have mE:=p3.nx;rw[hex];refine⟨vS,H',λaX aK et gY iD=>?_,i2,i3,o2.then i4 λj hj=>?_,λj hj=>(i5 j hj).elim (λq=>(p4 j q).imp id λq=>zzz) λq=>.inr zzz⟩;·have fI:=p1 _ rfl;rw[VX];simp(disch:=try exact zqz)only[OJ,aN h1,q1,q2,qj,Xm,Int.natCast_zero,w1,fI,es,i1,ar,aq,zz0,simprocAttr]
   ·rcases aaD.1 hj with rfl|hj;·exact .inl (.head _)
    ·exact (p4 j hj).imp (λq=>.tail _ q) λq=>zzz
  ·have aGF:out[b]? ≠ some 0:=λq=>h0 (by rw[xX] at q;exact acd q);have hex:ug steps (b::r) (out,nx)=ug steps r (out,nx):=by show ug steps r (vH steps (out,nx) b)=_;unfold vH;rw[zz1 aGF]
   obtain⟨vS,H',i1,i2⟩:=abK (N:=N) aC kM oG bX di dN bV hA r (i+1) H out nx ny h1 h3 hb hd mG zzz hC hO;rw[hex];refine⟨vS,H',λaX aK et gY iD=>?_,i2⟩;have aF:(((out[b]' zzz:Nat):Int)==0)=false:=zz7 zzz;rw[VX];simp(disch:=try exact zqz)only[OJ,aN h1,q1,q2,qj,Xm,aF,es,i1,ar,aq,zz0,simprocAttr]
theorem amS {N steps:Nat}{E:List Ed}{x:AV}{g:Nat}{l:List Nat}{lx:AV}{A:Nat}(hE:sI N E)(aC:0<steps)(dO:l.length<=100)(hA:A∉ak lx/\A∉ak x/\A≠g):
  ∀(r:List Nat) (i:Nat) (H:Hp) (out nx:List Nat) (ny:AV),i<=l.length->l.drop i=r->Rw H 1 lx (ints (dQ l))->RL H 2 x (ma E)->Cs H g [zi N,x] 201 0->(∀j∈ak ny,j∉ak lx/\j∉ak x/\j≠g/\j≠A)->out.length=N->nx.length+r.length*300<=90000->Cs H A (ints (dQ out)) 3 0->Ow H 3 1 ny (ints (dQ nx))->
  ∃vS H',(∀(aX:K.Fn 1) (aK et:K.Fn 4),KY JN GO cK aX aK et (.ptr g 0) (.slice A 0 N N true 1) (zi steps) ny lx (zi (l.length:Nat)) (zi (i:Nat)) H=et (.ptr g 0) (.slice A 0 N N true 1) (zi steps) vS H')/\
   Cs H' A (ints (dQ (xt (λn=>mw E n false) steps r (out,nx)).1)) 3 0/\Ow H' 3 1 vS (ints (dQ (xt (λn=>mw E n false) steps r (out,nx)).2))/\Out (A::ak ny) H H'/\∀j∈ak vS,j∈ak ny\/H.next<=j
 |[],i,H,out,nx,ny,hi,h,gC,hx,hg,hd,mG,jw,hC,hO=>by obtain rfl:=drop_nil hi h;refine⟨ny,H,λaX aK et=>?_,hC,hO,Out.refl _ _,λj hj=>.inl hj⟩;rw[al7];simp only[Pu,df,zz0,simprocAttr]
 |a::r,i,H,out,nx,ny,hi,h,gC,hx,hg,hd,mG,jw,hC,hO=>by
  obtain⟨h1,h2,h3⟩:=dU h;obtain⟨q,q1,q2⟩:=gC.fW (J2 h2) .i64;have es:=dC h1 zzz;have kB:=hx.one;have jP:=hg.av 2 0 zzy;have aA8:av H g 0 2=some [zi N,x]:=jP;obtain⟨bx,H1,b1,b2,b3,b4⟩:=afw a hE hx;have kM:∀b∈mw E a false,b<N:=λb hb=>(hE.lt _ (WV.1.1 hb)).2.1;have oG:=aim E a false;have hEl:=hE.len;have hCl:=hC.1;have aIj:=hO.rw.lt;simp only[aaP,afs,aj4] at jw;obtain⟨ny1,H2,i1,i2,i3,i4,i5⟩:=abK (N:=N) aC kM zzz (.ptr g 0) lx (zi (l.length:Nat)) (zi (i:Nat)) (λq=>by have:=b4 A q;omega) (mw E a false) 0 H1 out nx ny (aa7 _) aaY b2.rw (λj hj=>⟨λq=>by have:=b4 j q;have:=aIj j hj;omega,(hd j hj).2.2.2⟩) mG zzz (hC.out b3 zzy) (hO.out b3 zzy);have mE:=b3.nx;have VI:=gC.lt;have dA:=hx.1.lt;have Cu:=hg.1;have key:∀j,j<H.next->j≠A->j∉ak ny->H2.h.get j=H.h.get j:=λj hj ha hn=>by rw[i4.2 j zzz (by rw[aaD,not_or];exact⟨ha,hn⟩),b3.2 j hj zzy]
  have o2:Out (A::ak ny) H H2:=(b3.mono λj hj=>by cases hj).trans i4;have d1:∀j∈ak lx,j∉A::ak ny:=λj hj=>by rw[aaD,not_or];exact⟨λe=>hA.1 (e▸hj),λq=>(hd j q).1 hj⟩
  have d2:∀j∈ak x,j∉A::ak ny:=λj hj=>by rw[aaD,not_or];exact⟨λe=>hA.2.1 (e▸hj),λq=>(hd j q).2.1 hj⟩
  have d3:g∉A::ak ny:=by rw[aaD,not_or];exact⟨λe=>hA.2.2 e.symm,λq=>(hd g q).2.2.1 rfl⟩
  have mR:=(Sh (sc:=λn=>mw E n false) aC [a] (out,nx)).len;have hl1:xt (λn=>mw E n false) steps (a::r) (out,nx)=xt (λn=>mw E n false) steps r (ug steps (mw E a false) (out,nx)):=rfl;have xg:=XG aC (mw E a false) (out,nx);have hz:=xg.Fb;have ah0:(ug steps (mw E a false) (out,nx)).2.length<=nx.length+(mw E a false).length:=by
   have azv:∀(bs:List Nat) (s:List Nat×List Nat),(ug steps bs s).2.length<=s.2.length+bs.length:=by
    intro bs;induction bs with
    |nil=>intro s;exact aaO _|cons b bs ih=>
     intro s;have h5:=ih (vH steps s b);have h6:(vH steps s b).2.length<=s.2.length+1:=by unfold vH;split<;>simp
     show (ug steps bs (vH steps s b)).2.length<=_;simp only[aaP];omega
   exact azv _ _
  obtain⟨vS,H',k1,k2,k3,k4,k5⟩:=amS hE aC dO hA r (i+1) H2 _ _ ny1 h1 h3 (gC.out o2 d1) (hx.out o2 d2) (hg.out o2 d3) (λj hj=>(i5 j hj).elim (λq=>⟨(hd j q).1,(hd j q).2.1,(hd j q).2.2.1,(hd j q).2.2.2⟩) λq=>⟨λz=>by have:=VI j z;omega,λz=>by have:=dA j z;omega,zzz,zzz⟩) (xg.len.trans mG) zzz i2 i3;rw[hl1];refine⟨vS,H',λaX aK et=>?_,k2,k3,o2.then k4 λj hj=>?_,λj hj=>(k5 j hj).elim (λq=>(i5 j q).imp id λq=>zzz) λq=>.inr (by have:=o2.nx;omega)⟩;·have yC:=b2.rw.gu;rw[nb,AP] at yC;rw[show (((0:Nat):Int))=0 from rfl] at i1;rw[al7];simp(disch:=try exact zqz)only[Pu,aN h1,q1,q2,aA8,b1,yC,i1,es,k1,ar,aq,zz0,simprocAttr]
  ·rcases aaD.1 hj with rfl|hj;·exact .inl (.head _)
   ·exact (i5 j hj).imp (λq=>.tail _ q) λq=>zzz
theorem ayT {g A:Nat}(hE:sI N E)(hA:A∉ak x/\A≠g):∀(f:Nat) (l out:List Nat) (steps:Nat) (lx:AV) (H:Hp),0<steps->steps+f<=100->out.length=N->l.length<=100->(l=[]\/gp out<f)->Rw H 1 lx (ints (dQ l))->A∉ak lx->RL H 2 x (ma E)->Cs H g [zi N,x] 201 0->Cs H A (ints (dQ out)) 3 0->
  ∃H',(∀k:K.Fn 1,S4 JN GO cK k (.ptr g 0) (.slice A 0 N N true 1) lx (zi steps) H=k (.slice A 0 N N true 1) H')/\Cs H' A (ints (dQ (xq (λn=>mw E n false) f l out steps))) 3 0/\Out [A] H H':=by
 have ake:∀(out:List Nat) (steps:Nat) (lx:AV) (H:Hp),Rw H 1 lx (ints (dQ []))->∀k:K.Fn 1,S4 JN GO cK k (.ptr g 0) (.slice A 0 N N true 1) lx (zi steps) H=k (.slice A 0 N N true 1) H:=by intro out steps lx H gC k;have hl:=gC.gu;have qZ:aE lx=some (zi 0):=hl;rw[ai1];simp only[V3,qZ,zz0,simprocAttr]
 intro f;induction f with
 |zero=>
  intro l out steps lx H hs MF mG mu hz gC hAl hx hg hC;obtain rfl:=hz.resolve_right zzz;exact⟨H,ake out steps lx H gC,hC,Out.refl _ _⟩
 |succ f ih=>
  intro l out steps lx H hs MF mG mu hz gC hAl hx hg hC;by_cases tw:l=[];·subst tw;refine⟨H,ake out steps lx H gC,?_,Out.refl _ _⟩;unfold xq;rw[zz2 rfl];exact hC
  ·have hlp:0<l.length:=List.length_pos_iff.2 tw;have S:=Sh (sc:=λn=>mw E n false) hs l (out,[]);have gN:=S.Fb;simp only[ach,aed] at gN;have hzN:gp out<=N:=by unfold gp;rw[<-mG];exact List.countP_le_length
   have hN:=hE.n;obtain⟨ny,H1,i1,i2,i3,i4,i5⟩:=amS hE hs mu ⟨hAl,hA.1,hA.2⟩ l 0 H out [] .ah (aa7 _) aaY gC hx hg (λj hj=>by cases hj) mG (by simp;omega) hC .nil;have o1:Out [A] H H1:=i4.mono λj hj=>by
    rcases aaD.1 hj with rfl|hj;·exact .head _
    ·cases hj
   have IF:∀j∈ak ny,H.next<=j:=λj hj=>(i5 j hj).elim (λq=>by cases q) id;obtain⟨H',k1,k2,k3⟩:=ih _ _ (steps+1) ny H1 zzz zzz (S.len.trans mG) zzz (by
    have:=hz.resolve_left tw;cases wi:(xt (λn=>mw E n false) steps l (out,[])).2 with
    |nil=>exact .inl rfl|cons p q=>rw[wi] at gN;simp only[aaP] at gN;exact .inr zzz) i3.rw (λq=>by have:=IF A q;have:=hC.1;omega) (hx.out o1 λj hj=>by rw[No];intro e;subst e;exact hA.1 hj) (hg.out o1 (by rw[No];exactλe=>hA.2 e.symm)) i2
   refine⟨H',λk=>?_,?_,o1.trans k3⟩
   ·have hl:=gC.gu;rw[nb,AP] at hl;have d:decide ((0:Int)<((l.length:Nat):Int))=true:=zz3 zzz;have e:IntKind.wrap .i64 ((steps:Int)+1)=((steps+1:Nat):Int):=by rw[wrap_i64 zzz zzz];rfl
    rw[show (((0:Nat):Int))=0 from rfl] at i1;rw[ai1];simp only[V3,hl,d,i1,e,k1,zz0,simprocAttr]
   ·unfold xq;rw[zz1 tw];exact k2
theorem apF {n:Nat}(hE:sI N E)(hx:RL H 2 x (ma E)):∃A H',cK (zf 156) [gv N x,zi n] H=some (.slice A 0 N N true 1,H')/\Cs H' A (ints (dQ (far (λn=>mw E n false) N n))) 3 0/\Out [] H H'/\H.next<=A:=by
 have kB:=hx.one;have hN:=hE.n;have pg:=aD H [zi N,x] 201 0;have hm:=afQ (H:=al H [zi N,x] 201 0) (z:=zi 0) (el:=3) (n:=N) .i64 .i64 zzz;have avr:List.replicate N (AV.int .i64 0)=ints (dQ (List.replicate N 0)):=by simp[ints,dQ]
 rw[bT,avr] at hm;have qJ:=pg.al (ints (dQ (List.replicate N 0))) 3 0;have c2:=aP (al H [zi N,x] 201 0) (ints (dQ (List.replicate N 0))) 3 0;have c1:=(aP H [zi N,x] 201 0).out (aD (al H [zi N,x] 201 0) (ints (dQ (List.replicate N 0))) 3 0) zzy;have o3:=aD (al (al H [zi N,x] 201 0) (ints (dQ (List.replicate N 0))) 3 0) [zi (n:Int)] 3 0;have AF:=qJ.trans o3;have c3:=aP (al (al H [zi N,x] 201 0) (ints (dQ (List.replicate N 0))) 3 0) [zi (n:Int)] 3 0;have hr3:Rw (al (al (al H [zi N,x] 201 0) (ints (dQ (List.replicate N 0))) 3 0) [zi (n:Int)] 3 0) 1 (.slice (H.next+2) 0 1 1 true 1) (ints (dQ [n])):=.mk c3.ro rfl (aaO _) rfl;have dA:=hx.1.lt;obtain⟨H',i1,i2,i3⟩:=ayT (g:=H.next) (A:=H.next+1) hE ⟨λq=>by have:=dA _ q;omega,zzz⟩ (N+1) [n] (List.replicate N 0) 1 (.slice (H.next+2) 0 1 1 true 1) _ zzx zzz zzy zzy (.inr (by rw[aeo];omega)) hr3 (by rw[pK zzv,No];omega) (hx.au AF) (c1.out o3 zzy) (c2.out o3 zzy);refine⟨H.next+1,H',aqU ?_,i2,AF.then i3 λj hj=>by rw[No] at hj;exact .inr zzz,zzz⟩;rw[show (((1:Nat):Int))=1 from rfl] at i1;unfold adr;simp(disch:=try exact zqz)only[hm,i1,ar,aq,zz0,simprocAttr]
end
abbrev xH (E:List Ed)(N n:Nat):List Nat:=far (λn=>mw E n false) N n
theorem aqx {sc:Nat->List Nat}{B:Nat}:∀(f:Nat) (l out:List Nat) (steps:Nat),steps+f<=B->(∀v∈out,v<=B)->∀v∈xq sc f l out steps,v<=B:=by
 have h1:∀(steps b:Nat) (s:List Nat×List Nat),steps<=B->(∀v∈s.1,v<=B)->∀v∈(vH steps s b).1,v<=B:=by
  intro steps b s hs h v hv;unfold vH at hv;split at hv
  ·rcases adt hv with hv|rfl;·exact h v hv
   ·exact hs
  ·exact h v hv
 have h2:∀(steps:Nat) (bs:List Nat) (s:List Nat×List Nat),steps<=B->(∀v∈s.1,v<=B)->∀v∈(ug steps bs s).1,v<=B:=by
  intro steps bs;induction bs with
  |nil=>intro s hs h;exact h|cons b bs ih=>intro s hs h;exact ih _ hs (h1 steps b s hs h)
 have h3:∀(steps:Nat) (l:List Nat) (s:List Nat×List Nat),steps<=B->(∀v∈s.1,v<=B)->∀v∈(xt sc steps l s).1,v<=B:=by
  intro steps l;induction l with
  |nil=>intro s hs h;exact h|cons b bs ih=>intro s hs h;exact ih _ hs (h2 steps _ s hs h)
 intro f;induction f with
 |zero=>intro l out steps hs h;exact h|succ f ih=>
  intro l out steps hs h;unfold xq;split;·exact h
  ·exact ih _ _ _ zzz (h3 steps l _ zzz h)
section
variable {E:List Ed}{N g m:Nat}{x:AV}
theorem aGm {n:Nat}(hN:N<=16):∀v∈xH E N n,v<=100:=by refine aqx _ _ _ _ zzz ?_;intro v hv;rw[List.eq_of_mem_replicate hv];omega
theorem aBy {n:Nat}(hE:sI N E):(xH E N n).length=N:=
 (ax8 (C:=λ_=>True) (λa b hb=>(hE.lt _ (WV.1.1 hb)).2.1) (λ_ _=>trivial) (λ_ _ _ _=>trivial)).1
def wQ (E:List Ed)(N n:Nat):Nat:=(xH E N n).getD n 0
theorem agb {n:Nat}(hE:sI N E)(hm:m<N):(xH E N n)[m]?=some ((xH E N n).getD m 0):=by rw[aie,aaC (by rw[aBy hE];exact hm)];rfl
theorem apu {n:Nat}{H':Hp}{A:Nat}(hE:sI N E)(hm:m<N)(hC:Cs H' A (ints (dQ (xH E N n))) 3 0):ia 1 (.slice A 0 N N true 1) (zi (m:Int))=some (.ptr A m)/\cellAt H' A m=some (zi (((xH E N n).getD m 0:Nat):Int)):=
 ⟨by rw[DL hm];simp,hC.cellAt (J2 (agb hE hm))⟩
theorem aw4 {n:Nat}(hE:sI N E)(hm:m<N):(xH E N n).getD m 0<=100:=aGm hE.n _ (aac (agb hE hm))
theorem aBn (hE:sI N E):∀(m i st sp:Nat) (H:Hp),i+m=N->st<N+1->(0<sp->st<N)->sp<=100->(sp=0 ↔ ∀n,n<i->wQ E N n=0)->RL H 2 x (ma E)->Cs H g [zi N,x] 201 0->
  ∃Br yh H',(∀k:K.Fn 3,acm JN GO cK k (.ptr g 0) (zi st) (zi sp) (zi N) (zi i) H=k (.ptr g 0) (zi (Br:Nat)) (zi (yh:Nat)) H')/\(0<yh->Br<N)/\yh<=100/\(yh=0 ↔ ∀n,n<N->wQ E N n=0)/\Out [] H H':=by
 intro m;induction m with
 |zero=>
  intro i st sp H hi aC HZ mL Y0 hx hg;obtain rfl:i=N:=zzz;refine⟨st,sp,H,λk=>?_,HZ,mL,Y0,Out.refl _ _⟩;rw[La];simp only[JA,df,zz0,simprocAttr]
 |succ m ih=>
  intro i st sp H hi aC HZ mL Y0 hx hg;have kB:=hx.one;have hN:=hE.n;have Rg:i<N:=zzz;have jP:av H g 0 2=some [zi N,x]:=hg.av 2 0 zzy;obtain⟨A,H1,f1,f2,f3,f4⟩:=apF (n:=i) hE hx;obtain⟨a1,a2⟩:=apu hE Rg f2;have hle:=aw4 (n:=i) hE Rg;have hd:(xH E N i).getD i 0=wQ E N i:=rfl;rw[hd] at a2 hle;have es:IntKind.wrap .i64 ((i:Int)+1)=((i+1:Nat):Int):=by rw[wrap_i64 zzz zzz];rfl
  have aR:decide (((i:Nat):Int)<((N:Nat):Int))=true:=zz3 zzz;by_cases hk:0<wQ E N i
  ·have dk:decide ((0:Int)<((wQ E N i:Nat):Int))=true:=zz3 zzz;by_cases h0:sp=0;·obtain⟨Br,yh,H',i1,i2,i3,i4,i5⟩:=ih (i+1) i (wQ E N i) H1 zzz zzz (λ_=>Rg) hle ⟨λq=>zzz,λq=>by have:=q i zzz;omega⟩ (hx.au f3) (hg.out f3 zzy);refine⟨Br,yh,H',λk=>?_,i2,i3,i4,f3.trans i5⟩;subst h0;rw[La];simp(disch:=try exact zqz)only[JA,aR,jP,f1,a1,a2,dk,Int.natCast_zero,es,i1,ar,aq,zz0,simprocAttr]
   ·have e0:((sp:Int)==0)=false:=zz7 zzz;by_cases h1:wQ E N i<sp;·have dl:decide (((wQ E N i:Nat):Int)<((sp:Nat):Int))=true:=zz3 zzz;obtain⟨Br,yh,H',i1,i2,i3,i4,i5⟩:=ih (i+1) i (wQ E N i) H1 zzz zzz (λ_=>Rg) hle ⟨λq=>zzz,λq=>by have:=q i zzz;omega⟩ (hx.au f3) (hg.out f3 zzy);refine⟨Br,yh,H',λk=>?_,i2,i3,i4,f3.trans i5⟩;rw[La];simp(disch:=try exact zqz)only[JA,aR,jP,f1,a1,a2,dk,e0,dl,es,i1,ar,aq,zz0,simprocAttr]
    ·have dl:decide (((wQ E N i:Nat):Int)<((sp:Nat):Int))=false:=zz4 zzz;obtain⟨Br,yh,H',i1,i2,i3,i4,i5⟩:=ih (i+1) st sp H1 zzz aC HZ mL ⟨λq=>zzz,λq=>by have:=q i zzz;omega⟩ (hx.au f3) (hg.out f3 zzy);refine⟨Br,yh,H',λk=>?_,i2,i3,i4,f3.trans i5⟩;rw[La];simp(disch:=try exact zqz)only[JA,aR,jP,f1,a1,a2,dk,e0,dl,es,i1,ar,aq,zz0,simprocAttr]
  ·have Fy:wQ E N i=0:=zzz;have dk:decide ((0:Int)<((wQ E N i:Nat):Int))=false:=zz4 zzz;obtain⟨Br,yh,H',i1,i2,i3,i4,i5⟩:=ih (i+1) st sp H1 zzz aC HZ mL (Y0.trans ⟨λq n hn=>by
    by_cases hni:n=i;·subst hni;exact Fy
    ·exact q n zzz,λq n hn=>q n zzz⟩) (hx.au f3) (hg.out f3 zzy)
   refine⟨Br,yh,H',λk=>?_,i2,i3,i4,f3.trans i5⟩;rw[La];simp(disch:=try exact zqz)only[JA,aR,jP,f1,a1,a2,dk,es,i1,ar,aq,zz0,simprocAttr]
theorem YM {N:Nat}{E:List Ed}{x:AV}{g st left:Nat}{bl:List Nat}(hE:sI N E)(aC:st<N)(kM:∀b∈bl,b<N)(oG:bl.length<=300):∀(r:List Nat) (i:Nat) (bx y:AV) (out:List Nat) (H:Hp),i<=bl.length->bl.drop i=r->Rw H 1 bx (ints (dQ bl))->RL H 2 x (ma E)->Cs H g [zi N,x] 201 0->Ow H 3 1 y (ints (dQ out))->out.length<=10000->
  ∃y' nj H',(∀(kY:K.Fn 1) (mF mU:K.Fn 4),Lu JN GO cK kY mF mU (.ptr g 0) (zi st) y (zi left) bx (zi (bl.length:Nat)) (zi (i:Nat)) H=mU (.ptr g 0) (zi st) y' (zi left) H')/\Ow H' 3 1 y' (ints (dQ nj))/\(nj=out\/∃b,b<N/\nj=out++[b])/\Out (ak y) H H'/\∀j∈ak y',j∈ak y\/H.next<=j
 |[],i,bx,y,out,H,hi,h,hb,hx,hg,hO,mG=>by obtain rfl:=drop_nil hi h;refine⟨y,out,H,λkY mF mU=>?_,hO,.inl rfl,Out.refl _ _,λj hj=>.inl hj⟩;rw[Rr];simp only[Kv,df,zz0,simprocAttr]
 |b::r,i,bx,y,out,H,hi,h,hb,hx,hg,hO,mG=>by
  obtain⟨h1,h2,h3⟩:=dU h;obtain⟨q,q1,q2⟩:=hb.fW (J2 h2) .i64;have hbN:=kM b (aac h2);have es:=dC h1 zzz;have kB:=hx.one;have jP:av H g 0 2=some [zi N,x]:=hg.av 2 0 zzy;by_cases wA:b=st
  ·have d:(((b:Nat):Int) != ((st:Nat):Int))=false:=by subst wA;simp
   obtain⟨y',nj,H',i1,i2⟩:=YM (left:=left) hE aC kM oG r (i+1) bx y out H h1 h3 hb hx hg hO mG;refine⟨y',nj,H',λkY mF mU=>?_,i2⟩;rw[Rr];simp(disch:=try exact zqz)only[Kv,aN h1,q1,q2,d,es,i1,ar,aq,zz0,simprocAttr]
  ·have d:(((b:Nat):Int) != ((st:Nat):Int))=true:=by simp;omega
   obtain⟨A,H1,f1,f2,f3,f4⟩:=apF (n:=b) hE hx;obtain⟨a1,a2⟩:=apu hE aC f2;by_cases hl:(xH E N b).getD st 0=left
   ·have d2:((((xH E N b).getD st 0:Nat):Int)==((left:Nat):Int))=true:=by rw[hl];simp
    obtain⟨y1,H2,p1,p2,p3,p4,p5⟩:=vf (el2:=3) (z:=[(zi 0)]) (vs:=[zi (b:Int)]) (hO.out f3 zzy) rfl rfl zzx (by rw[nb,AP];simp;omega);have uw:ints (dQ out)++[zi (b:Int)]=ints (dQ (out++[b])):=by rw[Vc,Qk];rfl
    rw[uw] at p2;have mE:=f3.nx;refine⟨y1,out++[b],H2,λkY mF mU=>?_,p2,.inr ⟨b,hbN,rfl⟩,(f3.mono λj hj=>by cases hj).trans p3,λj hj=>(p4 j hj).imp id λq=>zzz⟩;have fI:=p1 _ rfl;rw[Rr];simp(disch:=try exact zqz)only[Kv,aN h1,q1,q2,d,jP,f1,a1,a2,d2,fI,ar,aq,zz0,simprocAttr]
   ·have d2:((((xH E N b).getD st 0:Nat):Int)==((left:Nat):Int))=false:=zz7 zzz;obtain⟨y',nj,H',i1,i2,i3,i4,i5⟩:=YM (left:=left) hE aC kM oG r (i+1) bx y out H1 h1 h3 (hb.au f3) (hx.au f3) (hg.out f3 zzy) (hO.out f3 zzy) mG;have mE:=f3.nx;refine⟨y',nj,H',λkY mF mU=>?_,i2,i3,(f3.mono λj hj=>by cases hj).trans i4,λj hj=>(i5 j hj).imp id λq=>zzz⟩;rw[Rr];simp(disch:=try exact zqz)only[Kv,aN h1,q1,q2,d,jP,f1,a1,a2,d2,es,i1,ar,aq,zz0,simprocAttr]
theorem apS {st:Nat}(hE:sI N E)(aC:st<N):∀(left:Nat) (y:AV) (out:List Nat) (H:Hp),out≠[]->(∀b∈out,b<N)->out.length+left<=1000->RL H 2 x (ma E)->Cs H g [zi N,x] 201 0->Ow H 3 1 y (ints (dQ out))->(∀j∈ak y,j∉ak x/\j≠g)->
  ∃y' nj H',(∀k:K.Fn 1,Wz JN GO cK k (.ptr g 0) (zi st) y (zi left) H=k y' H')/\Ow H' 3 1 y' (ints (dQ nj))/\nj≠[]/\Out (ak y) H H':=by
 intro left;induction left with
 |zero=>
  intro y out H h0 aR hn hx hg hO hd;refine⟨y,out,H,λk=>?_,hO,h0,Out.refl _ _⟩;have d:decide ((0:Int)<((0:Nat):Int))=false:=rfl;rw[an5];simp only[YV,d,zz0,simprocAttr]
 |succ left ih=>
  intro y out H h0 aR hn hx hg hO hd;have aS:0<out.length:=List.length_pos_iff.2 h0;have kB:=hx.one;have jP:av H g 0 2=some [zi N,x]:=hg.av 2 0 zzy;have yC:=hO.rw.gu;rw[nb,AP] at yC;obtain⟨a,ha⟩:∃a,out[out.length-1]?=some a:=⟨_,aaC zzz⟩;obtain⟨q,q1,q2⟩:=hO.rw.fW (J2 ha) .i64;have hEl:=hE.len;have kM:∀b∈mw E a false,b<N:=λb hb=>(hE.lt _ (WV.1.1 hb)).2.1;have oG:=aim E a false;obtain⟨bx,H1,b1,b2,b3,b4⟩:=afw a hE hx;have ami:=b2.rw.gu;rw[nb,AP] at ami;have NT:=hO.rw.lt;obtain⟨y1,Qh,H2,i1,i2,i3,i4,i5⟩:=YM (left:=left+1) hE aC kM zzz (mw E a false) 0 bx y out H1 (aa7 _) aaY b2.rw (hx.au b3) (hg.out b3 zzy) (hO.out b3 zzy) zzz;have mE:=b3.nx;have o2:Out (ak y) H H2:=(b3.mono λj hj=>by cases hj).trans i4;have dA:=hx.1.lt;have Cu:=hg.1;have jL:∀j∈ak y1,j∈ak y\/H.next<=j:=λj hj=>(i5 j hj).imp id λq=>zzz;have Yp:Qh≠[]/\(∀b∈Qh,b<N)/\Qh.length<=out.length+1:=by
   rcases i3 with rfl|⟨b,hb,rfl⟩;·exact⟨h0,aR,zzz⟩
   ·refine⟨zzy,λc hc=>?_,zzy⟩;rcases aa2.1 hc with hc|hc;·exact aR c hc
    ·rw[No] at hc;subst hc;exact hb
  obtain⟨y',nj,H',k1,k2,k3,k4⟩:=ih y1 Qh H2 Yp.1 Yp.2.1 (by have:=Yp.2.2;omega) (hx.out o2 λj hj q=>(hd j q).1 hj) (hg.out o2 λq=>(hd g q).2 rfl) i2 (λj hj=>(jL j hj).elim (hd j) λq=>⟨λz=>by have:=dA j z;omega,zzz⟩);refine⟨y',nj,H',λk=>?_,k2,k3,o2.then k4 jL⟩;have d:decide ((0:Int)<((left+1:Nat):Int))=true:=zz3 zzz;have e1:IntKind.wrap .i64 (((out.length:Nat):Int)-1)=((out.length-1:Nat):Int):=by rw[wrap_i64 zzz zzz];omega
  have e2:IntKind.wrap .i64 (((left+1:Nat):Int)-1)=((left:Nat):Int):=by rw[wrap_i64 zzz zzz];omega
  rw[show (((0:Nat):Int))=0 from rfl] at i1;rw[an5];simp(disch:=try exact zqz)only[YV,d,jP,yC,e1,q1,q2,b1,ami,i1,e2,k1,ar,aq,zz0,simprocAttr]
def DX (N:Nat)(E:List Ed):Prop:=∀n,n<N->wQ E N n=0
theorem aDa {H:Hp}(hE:sI N E)(hx:RL H 2 x (ma E)):∃(y:AV) (k:Nat) (H':Hp),cK (zf 126) [gv N x] H=some (y,H')/\aE y=some (zi k)/\(k=0↔DX N E)/\Out [] H H':=by
 have kB:=hx.one;have hN:=hE.n;have pg:=aD H [zi N,x] 201 0;have c1:=aP H [zi N,x] 201 0;obtain⟨H2,g1,g2⟩:=aiJ hE (hx.au pg);have iN:=g2.nx;rw[bT] at iN;have qJ:=pg.trans g2;have c2:=c1.out g2 zzy;obtain⟨st,sp,H3,i1,i2,i3,i4,i5⟩:=aBn (g:=H.next) hE N 0 0 0 H2 zzz zzz zzz zzz ⟨λ_ n hn=>zzz,λ_=>rfl⟩ (hx.au qJ) c2;rw[show (((0:Nat):Int))=0 from rfl] at i1;have Jp:cellAt H2 H.next 0=some (zi N):=c2.cellAt rfl;have AF:=qJ.trans i5;have c3:=c2.out i5 zzy;have DP:=i5.nx;by_cases h0:sp=0;·refine⟨.ah,0,H3,ame ?_,rfl,⟨λ_=>i4.1 h0,λ_=>rfl⟩,AF⟩;subst h0;unfold aba;simp(disch:=try exact zqz)only[g1,Jp,i1,Int.natCast_zero,ar,aq,zz0,simprocAttr]
 ·have aji:=i2 zzz;have c4:=aP H3 [zi (st:Int)] 3 0;have o4:=aD H3 [zi (st:Int)] 3 0;have hO:Ow (al H3 [zi (st:Int)] 3 0) 3 1 (.slice H3.next 0 1 1 true 1) (ints (dQ [st])):=c4.ow zzx rfl (by intro v hv;rw[No] at hv;subst hv;rfl) true;have dA:=hx.1.lt;obtain⟨y,out,H5,k1,k2,k3,k4⟩:=apS (g:=H.next) hE aji (sp-1) _ [st] _ zzy (by intro b hb;rw[No] at hb;subst hb;exact aji) (by simp;omega) (hx.au (AF.trans o4)) (c3.out o4 zzy) hO (λj hj=>by rw[pK zzv,No] at hj;exact⟨λq=>by have:=dA j q;omega,zzz⟩);have yC:=k2.rw.gu;rw[nb,AP] at yC;have aS:0<out.length:=List.length_pos_iff.2 k3;refine⟨y,out.length,H5,ame ?_,yC,⟨λq=>zzz,λq=>absurd (i4.2 q) h0⟩,(AF.trans o4).then k4 λj hj=>?_⟩
  ·have d:(((sp:Nat):Int)==0)=false:=zz7 zzz;have e:IntKind.wrap .i64 (((sp:Nat):Int)-1)=((sp-1:Nat):Int):=by rw[wrap_i64 zzz zzz];omega
   unfold aba;simp(disch:=try exact zqz)only[g1,Jp,i1,d,e,k1,ar,aq,zz0,simprocAttr]
  ·rw[pK zzv,No] at hj;exact .inr zzz
end
abbrev vc:Str:=[97,98,99,100,101,102,103,104,105,106,107,108,109,110,111,112,113,114,115,116,117,118,119,120,121,122,48,49,50,51,52,53,54,55,56,57]
noncomputable def tY (s:Str):Bool := !(s==[])&&(decide ((s.length:Int)<=16)&&(ES s vc==[]))
theorem Oo (s:Str)(H:Hp):cK (zf 54) [.str s] H=some (.bool (tY s),H):=by
 refine aEC ?_;unfold ahc tY;cases h0:(s==[]) with
 |true=>simp only[h0,ak8,acw,zz0,simprocAttr]|false=>
  by_cases h1:(s.length:Int)<=16;·have ht:=aCg s vc H zzz zzx zzx;simp only[h0,h1,ht,acy,zz0,simprocAttr]
  ·simp only[h0,h1,acy,acw,zz0,simprocAttr]
noncomputable def uq (s:Str):Option Nat:=if s.length<=4 then (match Lib.atoiAll (Ao s) with|.ok v=>if dec v=s/\0<=v then some v.toNat else none|_=>none) else none
theorem ad5 (T:Nat)(v:AV)(H:Hp):gA P .eql 183 true (.iface T v) .nilIface=true/\gi P .eql 183 (.iface T v) .nilIface H=some (.bool false):=by have hu:∃m,P.underlying 183=some (.interface m):=⟨_,Tryz.underlying183⟩;obtain⟨m,hu⟩:=hu;refine⟨rfl,?_⟩;unfold gi eO;simp only[hu];rfl
theorem atY (H:Hp):gA P .eql 183 true .nilIface .nilIface=true/\gi P .eql 183 .nilIface .nilIface H=some (.bool true):=by have hu:∃m,P.underlying 183=some (.interface m):=⟨_,Tryz.underlying183⟩;obtain⟨m,hu⟩:=hu;refine⟨rfl,?_⟩;unfold gi eO;simp only[hu];rfl
theorem avM {s:Str}(hs:s.length<=4){v:Int}(h:Lib.atoiAll (Ao s)=.ok v):-9223372036854775808<=v/\v<=9223372036854775807:=by
 unfold Lib.atoiAll at h;split at h;·cases h
 ·simp only at h;split at h;·cases h
  ·cases h
  ·split at h;·cases h
   ·split at h;·cases h
    ·injection h with h;rename_i h1 h2;split at h<;>omega
theorem aCM {s:Str}{H:Hp}(hg:Gl H):∃n ok H',cK (zf 153) [.str s] H=some (.tuple [zi n,.bool ok],H')/\(uq s=if ok then some n.toNat else none)/\(ok=true->0<=n)/\Out [] H H':=by
 by_cases hl:s.length<=4
 ·have d:decide ((4:Int)<(s.length:Int))=false:=zz4 zzz;have ha:=av7 (s:=s) zzz hg;have zk:uq s=(match Lib.atoiAll (Ao s) with|.ok v=>if dec v=s/\0<=v then some v.toNat else none|_=>none):=by unfold uq;rw[zz2 hl]
  unfold Qd at ha;cases hr:Lib.atoiAll (Ao s) with
  |ok v=>
   rw[hr] at ha zk;obtain⟨b1,b2⟩:=avM hl hr;obtain⟨H',i1,i2⟩:=age b1 b2 hg;have hn:=atY H;by_cases h1:dec v=s
   ·have e1:(dec v==s)=true:=by rw[h1];simp
    refine⟨v,decide (0<=v),H',LH ?_,?_,λq=>by simpa using q,i2⟩;·unfold IY;simp(disch:=try exact zqz)only[d,ha,hn.1,hn.2,oM,i1,e1,ar,aq,zz0,simprocAttr]
    ·rw[zk];by_cases h0:0<=v<;>simp[h1,h0]
   ·have e1:(dec v==s)=false:=zz7 h1;refine⟨v,false,H',LH ?_,?_,(λq=>by cases q),i2⟩;·unfold IY;simp(disch:=try exact zqz)only[d,ha,hn.1,hn.2,oM,i1,e1,ar,aq,zz0,simprocAttr]
    ·rw[zk];simp[h1]
  |range=>
   rw[hr] at ha zk;have hn:=ad5 269 .dG H;refine⟨Lib.atoiSat (Ao s),false,H,LH ?_,by rw[zk];rfl,(λq=>by cases q),Out.refl _ _⟩;unfold IY;simp(disch:=try exact zqz)only[d,ha,hn.1,hn.2,oM,ar,aq,zz0,simprocAttr]
  |_=>
   rw[hr] at ha zk;have hn:=ad5 269 .dG H;refine⟨0,false,H,LH ?_,by rw[zk];rfl,(λq=>by cases q),Out.refl _ _⟩;unfold IY;simp(disch:=try exact zqz)only[d,ha,hn.1,hn.2,oM,ar,aq,zz0,simprocAttr]
 ·have d:decide ((4:Int)<(s.length:Int))=true:=zz3 zzz;refine⟨0,false,H,LH ?_,by unfold uq;rw[zz1 hl];rfl,(λq=>by cases q),Out.refl _ _⟩;unfold IY;simp(disch:=try exact zqz)only[d,ar,aq,zz0,simprocAttr]
structure Tk where
 name:Str
 after:List Int
 cj:Int
 wait:Int
 base:Int
 on:Str
 deriving DecidableEq
def aH (t:Tk)(x:AV):List AV:=[.str t.name,x,zi t.cj,zi t.wait,zi t.base,.str t.on]
def nf (dx:AV)(xs:List AV):List Nat:=ak dx++xs.flatMap ak
structure RD (H:Hp)(dx:AV)(xs:List AV)(ts:List Tk):Prop where
 len:xs.length=ts.length
 row:RL H 6 dx (List.zipWith aH ts xs)
 lu:∀(i:Nat) (x:AV) (t:Tk),xs[i]?=some x->ts[i]?=some t->Rw H 1 x (ints t.after)
section
variable {H H':Hp}{dx:AV}{i:Int}{ts:List Tk}{xs:List AV}
theorem RD.out {S:List Nat}(h:RD H dx xs ts)(k:Out S H H')(hs:∀j∈nf dx xs,j∉S):RD H' dx xs ts:=
 ⟨h.len,h.row.out k λj hj=>hs j (aa1 _ hj),λi x t hx ht=>(h.lu i x t hx ht).out k λj hj=>hs j (aaT _ (afn.2 ⟨x,aac hx,hj⟩))⟩
theorem RD.au (h:RD H dx xs ts)(k:Out [] H H'):RD H' dx xs ts:=h.out k λ_ _ q=>by cases q
theorem RD.lt (h:RD H dx xs ts):∀j∈nf dx xs,j<H.next:=by
 intro j hj;rcases aa2.1 hj with hj|hj;·exact h.row.1.lt j hj
 ·obtain⟨x,hx,hj⟩:=afn.1 hj;obtain⟨i,hi⟩:=aca hx;have hit:i<ts.length:=by rw[<-h.len];exact (aag.1 hi).1
  exact (h.lu i x _ hi (aaC hit)).lt j hj
theorem RD.at {H:Hp}{dx:AV}{xs:List AV}{ts:List Tk}(h:RD H dx xs ts){i:Nat}{t:Tk}(ht:ts[i]?=some t):
  ∃x b o,xs[i]?=some x/\aZ x=true/\Rw H 1 x (ints t.after)/\(∀k,ia 6 dx (.int k i)=some (.ptr b o))/\b<H.next/\av H b o 6=some (aH t x)/\cellAt H b o=some (.str t.name):=by
 have hi:=(aag.1 ht).1;have hx:xs[i]?=some (xs[i]'(by rw[h.len];exact hi)):=aaC _;have hw:=h.lu i _ t hx ht;have hz:(List.zipWith aH ts xs)[i]?=some (aH t (xs[i]'(by rw[h.len];exact hi))):=by rw[ac2,ht,hx]
 obtain⟨b,o,h1,h2,h3,h4,h5⟩:=h.row.at zzx hz;exact⟨_,b,o,hx,hw.one,hw,h1,h3,h4,by have:=h5 0 _ rfl;rw[aed] at this;exact this⟩
theorem RD.aE {H:Hp}{dx:AV}{xs:List AV}{ts:List Tk}(h:RD H dx xs ts):aE dx=some (zi (ts.length:Nat)):=by have:=h.row.len zzx;rw[aeV,h.len,ajT] at this;exact this
abbrev dv (dx:AV):AV:=.agg [dx]
noncomputable def Bx (t:Tk):Bool := !tY t.name||(!(t.on==[])&&!tY t.on)
def uA (t:Tk):Bool := !(decide (0<=t.cj)&&decide (t.cj<=8))||(!(decide (1<=t.wait)&&decide (t.wait<=1000))||!(decide (1<=t.base)&&decide (t.base<=1000)))
theorem uQ (t:Tk)(x:AV):(aH t x)[0]?=some (.str t.name)/\(aH t x)[1]?=some x/\(aH t x)[2]?=some (zi t.cj)/\(aH t x)[3]?=some (zi t.wait)/\(aH t x)[4]?=some (zi t.base)/\(aH t x)[5]?=some (.str t.on):=⟨rfl,rfl,rfl,rfl,rfl,rfl⟩
theorem y9 (t:Tk)(x:AV):(aH t x).length=6:=rfl
theorem aiw (t:Tk)(x:AV):(aH t x).take 6=aH t x:=rfl
theorem xc (t:Tk)(x:AV)(H:Hp):bx 99 (.agg (aH t x)) H=some (H.next,al H (aH t x) 99 0):=iw (by rw[y9];omega)
theorem Bb (t:Tk)(x:AV)(hx:aZ x=true)(H:Hp):st 6 (.ptr H.next 0) (.agg (aH t x)) (al H [(.str []),.ah,(zi 0),(zi 0),(zi 0),(.str [])] 99 0)=some (al H (aH t x) 99 0):=
 gJ (by simp[aH,J5,iS,hx]) rfl rfl zzx rfl
theorem aCd (t:Tk)(x:AV)(i:Int)(H:Hp):∃H',cK (zf 120) [zi i,.agg (aH t x)] H=some (.bool (Bx t),H')/\Out [] H H':=by
 refine⟨al H (aH t x) 99 0,azC ?_,aD _ _ _ _⟩;obtain⟨e0,e1,e2,e3,e4,e5⟩:=uQ t x;unfold ac9 Bx;cases h1:tY t.name with
 |false=>simp(disch:=try exact zqz)only[xc,e0,e5,Oo,h1,amE,Bool.true_or,ar,aq,zz0,simprocAttr]|true=>
  cases h2:(t.on==[]) with
  |true=>simp(disch:=try exact zqz)only[xc,e0,e5,Oo,h1,h2,ak8,anA,acw,ar,aq,zz0,simprocAttr]|false=>simp(disch:=try exact zqz)only[xc,e0,e5,Oo,h1,h2,ak8,amE,anA,acy,ar,aq,zz0,simprocAttr]
theorem ava (t:Tk)(x:AV)(i:Int)(H:Hp):∃H',cK (zf 122) [zi i,.agg (aH t x)] H=some (.bool (uA t),H')/\Out [] H H':=by
 refine⟨al H (aH t x) 99 0,ap0 ?_,aD _ _ _ _⟩;obtain⟨e0,e1,e2,e3,e4,e5⟩:=uQ t x;unfold afF uA;cases h1:(decide (0<=t.cj)&&decide (t.cj<=8)) with
 |false=>simp(disch:=try exact zqz)only[xc,e2,e3,e4,sZ,h1,amE,Bool.true_or,ar,aq,zz0,simprocAttr]|true=>
  cases h2:(decide (1<=t.wait)&&decide (t.wait<=1000)) with
  |false=>simp(disch:=try exact zqz)only[xc,e2,e3,e4,sZ,h1,h2,ak8,amE,anA,Bool.true_or,ar,aq,zz0,simprocAttr]|true=>simp(disch:=try exact zqz)only[xc,e2,e3,e4,sZ,h1,h2,ak8,anA,ar,aq,zz0,simprocAttr]
def tH (n:Int)(i:Int)(pre:List Int):List Int->Bool
 |[]=>true|a::l=>(decide (0<=a)&&decide (a<=n-1))&&(!(i==a)&&(!(pre.any (λb=>a==b))&&tH n i (pre++[a]) l))
theorem akC {dx:AV}{n:Nat}{l:List Int}{lx:AV}{g:Nat}{i:Int}(hn:n<=100000)(hl:l.length<=100000)(xG:aE dx=some (zi n)):∀(r:List Int) (k:Nat) (H:Hp) (j4:K.Fn 0),k<=l.length->l.drop k=r->Rw H 1 lx (ints l)->cellAt H g 0=some dx->
  XA JN GO cK j4 (zi i) lx (.ptr g 0) lx (zi (l.length:Nat)) (zi (k:Nat)) H=if tH n i (l.take k) r then j4 H else some (.bool false,H)
 |[],k,H,j4,hk,h,gC,hg=>by obtain rfl:=drop_nil hk h;rw[akh];simp only[IA,df,tH,if_true,zz0,simprocAttr]
 |a::r,k,H,j4,hk,h,gC,hg=>by
  obtain⟨h1,h2,h3⟩:=dU h;obtain⟨q,q1,q2⟩:=gC.fW (Dw h2) .i64;have es:=dC h1 zzz;have ih:=akC (i:=i) hn hl xG r (k+1) H j4 h1 h3 gC hg;have tC:l.take (k+1)=l.take k++[a]:=by rw[akq,h2];rfl
  rw[tC] at ih;have e1:IntKind.wrap .i64 ((n:Int)-1)=(n:Int)-1:=wrap_i64 zzz zzz;obtain⟨wW,s1,s2,s3⟩:=yD (n:=l.length) gC (by rw[nb,adM]) zzx (a:=0) (b:=k) (lo:=none) (hi:=some (zi (k:Nat))) (aa7 _) hk (Bd.no 0) (Bd.yes _ _ _);have oq:((ints l).drop (0*1)).take ((k-0)*1)=ints (l.take k):=by simp[ints,List.map_take]
  rw[oq] at s2;have n0:=azo s2 (by rw[ad8];omega) a;rw[akh];unfold tH;cases c1:(decide (0<=a)&&decide (a<=(n:Int)-1)) with
  |false=>simp(disch:=try exact zqz)only[IA,aN h1,q1,q2,hg,xG,e1,sZ,c1,acw,aa8,if_false,ar,aq,zz0,simprocAttr]|true=>
   cases c2:(a==i) with
   |true=>
    have Hk:(i==a)=true:=by rw[zz6] at c2⊢;exact c2.symm
    simp(disch:=try exact zqz)only[IA,aN h1,q1,q2,hg,xG,e1,sZ,c1,c2,Hk,ak8,acw,Bool.and_false,aa8,if_false,ar,aq,zz0,simprocAttr]
   |false=>
    have Hk:(i==a)=false:=by rw[<-ahM,zz6] at c2⊢;exactλe=>c2 e.symm
    cases c3:((l.take k).any (λb=>a==b)) with
    |true=>simp(disch:=try exact zqz)only[IA,aN h1,q1,q2,hg,xG,e1,sZ,c1,c2,Hk,s1,n0,c3,ak8,amE,acw,Bool.and_false,acy,aa8,if_false,ar,aq,zz0,simprocAttr]|false=>simp(disch:=try exact zqz)only[IA,aN h1,q1,q2,hg,xG,e1,sZ,c1,c2,Hk,s1,n0,c3,es,ih,amE,acy,ar,aq,zz0,simprocAttr]
theorem avg {n:Nat}{l:List Int}{lx:AV}(hn:n<=100000)(hl:l.length<=100000)(xG:aE dx=some (zi n))(fX:aZ dx=true)(gC:Rw H 1 lx (ints l)):
  cK (zf 124) [dv dx,zi i,lx] H=some (.bool (tH n i [] l),al H [dx] 72 0):=by
 refine aCF ?_;have mu:=gC.gu;rw[nb] at mu;have h1:=λj4=>akC (i:=i) (g:=H.next) hn hl xG l 0 (al H [dx] 72 0) j4 (aa7 _) aaY (gC.au (aD _ _ _ _)) (BC rfl);rw[show (((0:Nat):Int))=0 from rfl,akA] at h1;unfold adS;simp(disch:=try exact zqz)only[mu,h1,ar,aq,zz0,simprocAttr];cases tH n i [] l<;>rfl
theorem aH6 {n p:Nat}{t:Tk}{x:AV}(hn:n<=100000)(hl:t.after.length<=100000)(xG:aE dx=some (zi n))(fX:aZ dx=true)(hp:cellAt H p 0=some dx)(gR:p<H.next)(hx:Rw H 1 x (ints t.after)):
  ∃H',cK (.func (.func 123) [] [.ptr p 0]) [zi i,.agg (aH t x)] H=some (.bool (!tH n i [] t.after),H')/\Out [] H H':=by
 have o1:=aD H (aH t x) 99 0;have ha:=avg (i:=i) hn hl xG fX (hx.au o1);refine⟨al (al H (aH t x) 99 0) [dx] 72 0,avl ?_,o1.trans (aD _ _ _ _)⟩;obtain⟨e0,e1,e2,e3,e4,e5⟩:=uQ t x;have hc:av H p 0 1=some [dx]:=by unfold av av;rw[hp];rfl
 unfold ajB;simp(disch:=try exact zqz)only[xc,hc,e1,ha,ar,aq,zz0,simprocAttr]
end
theorem agS {S:List Nat}{p:Nat->Bool}{dx fv:AV}{xs:List AV}{ts:List Tk}(I:Nat->Hp->Prop)(hn:ts.length<=100000)(hS:∀j∈nf dx xs,j∉S)
  (hI:∀i H H',I i H->Out [] H H'->I i H')
  (hp:∀i t x H,ts[i]?=some t->xs[i]?=some x->RD H dx xs ts->I i H->∃H',cK fv [zi (i:Nat),.agg (aH t x)] H=some (.bool (p i),H')/\Out S H H'/\(p i=false->I (i+1) H')):
  ∀(r:List Tk) (i:Nat) (H:Hp),i<=ts.length->ts.drop i=r->RD H dx xs ts->I i H->
  ∃H',(∀k:K.Fn 0,V6 JN GO cK k fv dx (zi (ts.length:Nat)) (zi (i:Nat)) H=if (List.range' i r.length).any p then some (.bool true,H') else k H')/\Out S H H'/\((List.range' i r.length).any p=false->I ts.length H')
 |[],i,H,hi,h,hR,WU=>by obtain rfl:=drop_nil hi h;refine⟨H,λk=>?_,Out.refl _ _,λ_=>WU⟩;rw[WZ];simp only[TW,df,ach,List.range'_zero,List.any_nil,aa8,if_false,zz0,simprocAttr]
 |t::r,i,H,hi,h,hR,WU=>by
  obtain⟨h1,h2,h3⟩:=dU h;obtain⟨x,b,o,q0,q1,q2,q3,q4,q5,_⟩:=hR.at h2;have es:=dC h1 zzz;have o1:=aD H (aH t x) 99 0;obtain⟨H1,c1,c2,c3⟩:=hp i t x _ h2 q0 (hR.au o1) (hI _ _ _ WU o1);have o2:Out S H H1:=(o1.mono λj hj=>by cases hj).trans c2;have aC:=Bb t x q1 H;have PW:(List.range' i (t::r).length).any p=(p i||(List.range' (i+1) r.length).any p):=by rw[aaP,List.range'_succ,List.any_cons]
  rw[PW];have Hn:=y9 t x;have htt:=aiw t x;cases rz:p i with
  |true=>
   refine⟨H1,λk=>?_,o2,λq=>by simp at q⟩;rw[rz] at c1;rw[WZ];simp(disch:=try exact zqz)only[TW,aN h1,q3,q5,aC,Hn,htt,c1,Bool.true_or,if_true,ar,aq,zz0,simprocAttr]
  |false=>
   rw[rz] at c1;obtain⟨H',i1,i2,i3⟩:=agS I hn hS hI hp r (i+1) H1 h1 h3 (hR.out o2 hS) (c3 rz);refine⟨H',λk=>?_,o2.trans i2,λq=>i3 (by simpa using q)⟩;rw[WZ];simp(disch:=try exact zqz)only[TW,aN h1,q3,q5,aC,Hn,htt,c1,es,i1,anA,ar,aq,zz0,simprocAttr]
section
variable {H:Hp}{dx x:AV}{i:Nat}{l:List Int}{ts:List Tk}{xs:List AV}
theorem Pn {S:List Nat}{p:Nat->Bool}{fv:AV}(I:Nat->Hp->Prop)(hn:ts.length<=100000)(hS:∀j∈nf dx xs,j∉S)
  (hI:∀i H H',I i H->Out [] H H'->I i H')
  (hp:∀i t x H,ts[i]?=some t->xs[i]?=some x->RD H dx xs ts->I i H->∃H',cK fv [zi (i:Nat),.agg (aH t x)] H=some (.bool (p i),H')/\Out S H H'/\(p i=false->I (i+1) H')) (hR:RD H dx xs ts) (h0:I 0 H):
  ∃H',cK (zf 125) [dv dx,fv] H=some (.bool ((List.range ts.length).any p),H')/\Out S H H':=by
 have o1:=aD H [dx] 72 0;obtain⟨H',i1,i2,_⟩:=agS I hn hS hI hp ts 0 _ (aa7 _) aaY (hR.au o1) (hI _ _ _ h0 o1);rw[show (((0:Nat):Int))=0 from rfl,<-List.range_eq_range'] at i1;refine⟨H',axq ?_,(o1.mono λj hj=>by cases hj).trans i2⟩;have il:=hR.aE;have fX:=hR.row.one;unfold agF;simp(disch:=try exact zqz)only[il,i1,ar,aq,zz0,simprocAttr];cases (List.range ts.length).any p<;>rfl
def names (ts:List Tk):List Str:=ts.map (·.name)
def dup (ts:List Tk)(i:Nat):Bool:=match ts[i]? with|some t=>(names (ts.take i)).any (λs=>s==t.name)|none=>false
def Dr (l:List (Str×Nat)):List ME:=l.map λx=>⟨.str x.1,.bool true,x.2⟩
theorem JQ {l:List (Str×Nat)}{s:Str}(h:∀x∈l,x.1≠s):∀e∈Dr l,∃q,e.key=.str q/\q≠s:=by intro e he;obtain⟨x,hx,rfl⟩:=abT.1 he;exact⟨_,rfl,h x hx⟩
def Ps (m q:Nat)(ts:List Tk)(i:Nat)(H:Hp):Prop:=∃el l c,Cs H q [.map m] el 0/\Mp H m (Dr l) c/\l.map (·.1)=names (ts.take i)/\q≠m/\(l.map (·.1)).Nodup
theorem aDi {m q:Nat}{t:Tk}(hI:Ps m q ts i H)(ht:ts[i]?=some t):
  ∃H',cK (.func (.func 121) [] [.ptr q 0]) [zi (i:Nat),.agg (aH t x)] H=some (.bool (dup ts i),H')/\Out [m] H H'/\(dup ts i=false->Ps m q ts (i+1) H'):=by
 obtain⟨el,l,c,hq,hm,hl,aF,gW⟩:=hI;obtain⟨e0,e1,e2,e3,e4,e5⟩:=uQ t x;have o1:=aD H (aH t x) 99 0;have SI:=hq.out o1 zzy;have Dp:=hm.out o1 zzy;have hql:=hq.1;have hqc:cellAt H q 0=some (.map m):=hq.cellAt rfl;have ae7:dup ts i=l.any (λy=>y.1==t.name):=by unfold dup;rw[ht];simp only;rw[<-hl,List.any_map];rfl
 rw[ae7];have tC:names (ts.take (i+1))=names (ts.take i)++[t.name]:=by rw[akq,ht];simp[names]
 cases hb:l.any (λy=>y.1==t.name) with
 |false=>
  have sS:∀y∈l,y.1≠t.name:=by intro y hy e;rw[akE] at hb;exact hb y hy (by simpa using e)
  have LI:=ado Dp (JQ sS) (.bool false) false;obtain⟨H',u1,u2,u3⟩:=amm Dp (JQ sS) (.bool true);refine⟨H',akJ ?_,(o1.mono λj hj=>by cases hj).trans u3,λ_=>⟨el,l++[(t.name,c)],c+1,SI.out u3 (by rw[No];exact aF),by simpa[Dr] using u2,by rw[acY,hl,tC];rfl,aF,by rw[acY,aeg];refine⟨gW,zzy,λp hp r hr e=>?_⟩;obtain⟨y,hy,rfl⟩:=abT.1 hp;simp at hr;exact sS y hy (e.trans hr)⟩⟩;simp only[cond_false] at LI;unfold XJ;simp(disch:=try exact zqz)only[xc,hqc,e0,LI,u1,ar,aq,zz0,simprocAttr]
 |true=>
  rw[List.any_eq_true] at hb;obtain⟨y,hy,hye⟩:=hb;have hye:y.1=t.name:=by simpa using hye
  have aEM:∃a z b,l=a++z::b/\z.1=t.name/\∀w∈a,w.1≠t.name:=by
   clear hm Dp hl ae7 gW;induction l with
   |nil=>cases hy
   |cons w l ih=>
    by_cases hw:w.1=t.name;·exact⟨[],w,l,rfl,hw,λ_ h=>by cases h⟩
    ·rcases aaD.1 hy with rfl|hy;·exact absurd hye hw
     ·obtain⟨a,z,b,rfl,h2,h3⟩:=ih hy;refine⟨w::a,z,b,rfl,h2,λv hv=>?_⟩;rcases aaD.1 hv with rfl|hv;·exact hw
      ·exact h3 v hv
  obtain⟨a,z,b,rfl,hz,ha⟩:=aEM;have mL:Dr (a++z::b)=Dr a++⟨.str z.1,.bool true,z.2⟩::Dr b:=by simp[Dr]
  rw[mL] at Dp;have oG:∀w∈b,w.1≠t.name:=by intro w hw e;rw[acY,aby,aeg,akD] at gW;exact gW.2.1.1 (abT.2 ⟨w,hw,e.trans hz.symm⟩)
  have LI:=ajH (k:=t.name) Dp (by rw[hz]) (JQ ha) (JQ oG) (.bool false) false;obtain⟨H',u1,u2,u3⟩:=awE (k:=t.name) Dp (by rw[hz]) (JQ ha) (JQ oG) (.bool true);refine⟨H',akJ ?_,(o1.mono λj hj=>by cases hj).trans u3,λq=>by cases q⟩;simp only[cond_false] at LI;unfold XJ;simp(disch:=try exact zqz)only[xc,hqc,e0,LI,u1,ar,aq,zz0,simprocAttr]
theorem gAE (a b c d:AV):gA P .eql 231 false (.agg [a,b]) (.agg [c,d])=true:=zzw
theorem aGh (e f:Ed)(H:Hp):gi P .eql 231 (.agg (bY e)) (.agg (bY f)) H=some (.bool (decide (e=f))):=by
 have h:=eqE e.1 e.2 f.1 f.2 48 H;have h2:((((e.1:Nat):Int)==((f.1:Nat):Int))&&(((e.2:Nat):Int)==((f.2:Nat):Int)))=decide (e=f):=by
  by_cases q:e=f;·subst q;simp
  ·rw[zz4 q,<-ahM,aaM,zz6,zz6];intro z;exact q (Prod.ext (by have:=z.1;omega) (by have:=z.2;omega))
 rw[h2] at h;unfold gi;show (eO P 50 _ (.agg (bY e)) (.agg (bY f)) H).map AV.bool=_;have:eO P 50 231 (.agg (bY e)) (.agg (bY f)) H=some (decide (e=f)):=h;rw[this];rfl
theorem aeC {x:AV}{E:List Ed}{e:Ed}{b:Nat}{H:Hp}(hx:RL H 2 x (ma E))(hl:E.length<=16777216)(hb:av H b 0 2=some (bY e))(sS:e∉E)(k:K.Fn 0):∀(r:List Ed) (i:Nat),i<=E.length->E.drop i=r->
  abh JN GO cK k x (.ptr b 0) (zi (E.length:Nat)) (zi (i:Nat)) H=k H
 |[],i,hi,h=>by obtain rfl:=drop_nil hi h;rw[amD];simp only[YF,df,zz0,simprocAttr]
 |f::r,i,hi,h=>by obtain⟨h1,h2,h3⟩:=dU h;obtain⟨c,o,q1,q2,q3,q4,_⟩:=hx.at zzx (aad h2);have es:=dC h1 hl;have ih:=aeC hx hl hb sS k r (i+1) h1 h3;have hd:decide (e=f)=false:=zz4 λq=>sS (q▸aac h2);have hg:gA P .eql 231 false (.agg (bY e)) (.agg (bY f))=true:=gAE _ _ _ _;have Pk:=aGh e f H;rw[hd] at Pk;have Eg:av H c o 2=some (bY f):=q4;rw[amD];simp(disch:=try exact zqz)only[YF,aN h1,hb,q1,Eg,hg,Pk,oM,es,ih,ar,aq,zz0,simprocAttr]
theorem awr {E:List Ed}{e:Ed}(hx:RL H 2 x (ma E))(hl:E.length<=16777216)(sS:e∉E):
  ∃H',cK (zf 158) [x,.agg (bY e)] H=some (.bool false,H')/\Out [] H H':=by
 have o1:=aD H (bY e) 231 0;have o2:=o1.al (bY e) 231 0;have aO:∀H:Hp,bx 231 (.agg (bY e)) H=some (H.next,al H (bY e) 231 0):=λH=>iw (by show 2<=_;omega);have hlen:(bY e).length=2:=rfl;have tC:(bY e).take 2=bY e:=rfl;have pQ:cK (zf 177) [x,.agg (bY e)] (al H (bY e) 231 0)=some (zi (-1),al (al H (bY e) 231 0) (bY e) 231 0):=by refine aBf ?_;have dA:=(hx.au o2).len zzx;rw[QZ] at dA;have h1:=aeC (b:=H.next+1) (hx.au o2) hl (Ou (by rw[bT]) (by rw[hlen];omega)) sS (λh=>some (zi (-1),h)) E 0 (aa7 _) aaY;rw[show (((0:Nat):Int))=0 from rfl] at h1;unfold ahF;simp(disch:=try exact zqz)only[aO,dA,h1,ar,aq,zz0,simprocAttr]
 refine⟨_,aEO ?_,o2⟩;unfold aol;have d:decide ((0:Int) <= -1)=false:=zzx;simp(disch:=try exact zqz)only[aO,hlen,tC,pQ,d,ar,aq,zz0,simprocAttr]
def vh (i:Nat)(l:List Int):List Ed:=l.map λa=>(a.toNat,i)
def la (i:Nat):List Tk->List Ed
 |[]=>[]|t::r=>vh i t.after++la (i+1) r
theorem aDx (ts us:List Tk):∀i,la i (ts++us)=la i ts++la (i+ts.length) us:=by
 induction ts with
 |nil=>intro i;rfl|cons t ts ih=>intro i;simp only[List.cons_append,la,ih,abr,aaP];rw[show i+1+ts.length=i+(ts.length+1) by omega]
theorem Zs {t:Tk}(ht:ts[i]?=some t):la 0 (ts.take (i+1))=la 0 (ts.take i)++vh i t.after:=by have hi:=(aag.1 ht).1;rw[akq,ht];show la 0 (ts.take i++[t])=_;rw[aDx,ad8,amV zzz,ade];simp[la]
theorem aki:∀{i:Nat} {e:Ed},e∈la i ts->i<=e.2/\e.2<i+ts.length:=by
 induction ts with
 |nil=>intro i e h;cases h
 |cons t ts ih=>
  intro i e h;simp only[la,aa2] at h;rcases h with h|h;·obtain⟨a,_,rfl⟩:=abT.1 h;simp
  ·have:=ih h;simp only[aaP];omega
def yG (ts:List Tk):Prop:=∀(i:Nat) (t:Tk),ts[i]?=some t->tH ts.length i [] t.after=true
theorem ahD {n i:Int}{pre:List Int}{a:Int}(h:tH n i pre (a::l)=true):0<=a/\a<=n-1/\a≠i/\a∉pre/\tH n i (pre++[a]) l=true:=by unfold tH at h;simp only[aaM,zz5,alL,akE,zz6,zz9] at h;obtain⟨⟨h1,h2⟩,h3,h4,h5⟩:=h;exact⟨h1,h2,λe=>h3 e.symm,λq=>h4 a q rfl,h5⟩
theorem ajZ {dx:AV}{n i:Nat}{E0:List Ed}{D R g:Nat}{l:List Int}{lx:AV}(hn:n<=16)(mV:i<n)(xG:aE dx=some (zi n))(hE0:∀e∈E0,e.2<i)(aqE:E0.length<=10000)(mu:l.length<=16)(Jn:D≠g):
  ∀(r:List Int) (k:Nat) (H:Hp) (ex:AV) (c5 c6 c7:AV),k<=l.length->l.drop k=r->tH n i (l.take k) r=true->(∀b∈l.take k,(0:Int)<=b)->Rw H 1 lx (ints l)->cellAt H D 0=some dx->D<H.next->Cs H g [zi n,ex] 201 0->OL H 231 2 ex (ma (E0++vh i (l.take k)))->(∀j∈ak ex,j∉ak lx/\j≠D/\j≠g)->g∉ak lx->
  ∃yZ H' S,(∀(aK:K.Fn 2) (fD my:K.Fn 6),NJ JN GO cK aK fD my (.ptr D 0) (.ptr R 0) (.ptr g 0) (zi i) c5 c6 c7 lx (zi (l.length:Nat)) (zi (k:Nat)) H=my (.ptr D 0) (.ptr R 0) (.ptr g 0) c5 c6 c7 H')/\Cs H' g [zi n,yZ] 201 0/\OL H' 231 2 yZ (ma (E0++vh i l))/\Out S H H'/\(∀j∈S,j=g\/j∈ak ex\/H.next<=j)/\∀j∈ak yZ,j∈ak ex\/H.next<=j
 |[],k,H,ex,c5,c6,c7,hk,h,ha,mf,gC,hD,Aq,hg,hO,hd,Cu=>by obtain rfl:=drop_nil hk h;refine⟨ex,H,[],λaK fD my=>?_,hg,by rw[afe (aaO _)] at hO;exact hO,Out.refl _ _,(λj hj=>by cases hj),λj hj=>.inl hj⟩;rw[agX];simp only[UA,df,zz0,simprocAttr]
 |a::r,k,H,ex,c5,c6,c7,hk,h,ha,mf,gC,hD,Aq,hg,hO,hd,Cu=>by
  obtain⟨h1,h2,h3⟩:=dU h;obtain⟨q,q1,q2⟩:=gC.fW (Dw h2) .i64;have es:=dC h1 zzz;obtain⟨a0,a1,a2,a3,a4⟩:=ahD ha;obtain⟨m,rfl⟩:∃m:Nat,a=m:=⟨a.toNat,zzz⟩;have tC:l.take (k+1)=l.take k++[(m:Int)]:=by rw[akq,h2];rfl
  have hEk:(vh i (l.take k)).length<=16:=by simp[vh];omega
  have sS:((m,i):Ed)∉E0++vh i (l.take k):=by
   intro q;rcases aa2.1 q with q|q;·have:=hE0 _ q;simp at this
   ·obtain⟨b,hb,he⟩:=abT.1 q;have jr:=mf b hb;have:b.toNat=m:=congrArg Prod.fst he;exact a3 (by rw[show ((m:Nat):Int)=b by omega];exact hb)
  have o1:=aD H (bY (m,i)) 231 0;obtain⟨H1,c1,c2⟩:=awr (hO.rl.au o1) (by rw[aal];omega) sS;have o2:Out [] H H1:=o1.trans c2;have iN:=c2.nx;rw[bT] at iN;have qC:=hg.out o2 zzy;have hgc:cellAt H g 1=some ex:=hg.cellAt rfl;have aAP:cellAt H1 g 1=some ex:=qC.cellAt rfl;have aJS:=hg.1;have Vb:av H1 H.next 0 2=some (bY (m,i)):=by rw[c2.av (by rw[bT];omega) zzy];exact Ou rfl (by show 0+2<=2;omega)
  obtain⟨F8,H2,p1,p2,p3,p4,p5⟩:=(hO.out o2 zzy).push (el2:=231) (z:=[(zi 0),(zi 0)]) (vs:=bY (m,i)) rfl rfl zzx (by rw[QZ,aal];omega);have uw:ma (E0++vh i (l.take k))++[bY (m,i)]=ma (E0++vh i (l.take (k+1))):=by rw[tC];simp[ma,vh]
  rw[uw] at p2;have jP:=qC.out p3 λq=>(hd g q).2.2 rfl;obtain⟨H3,w1,w2,w3,w4⟩:=ff jP zzx (o:=1) zzy (v:=F8) p5;have DP:=p3.nx;have VI:=gC.lt;have jL:∀j∈ak F8,j∉ak lx/\j≠D/\j≠g:=λj hj=>(p4 j hj).elim (hd j) λz=>⟨λy=>by have:=VI j y;omega,zzz,zzz⟩;have o3:Out (g::ak ex) H H3:=((o2.mono λj hj=>by cases hj).trans (p3.mono λj hj=>.tail _ hj)).trans (w3.mono λj hj=>by rw[No] at hj;subst hj;exact .head _);have Fx:cellAt H3 D 0=some dx:=by rw[o3.cellAt Aq (by rw[aaD,not_or];exact⟨Jn,λq=>(hd D q).2.1 rfl⟩)];exact hD
  have hn4:=o3.nx;obtain⟨yZ,H',S,i1,i2,i3,i4,i5,i6⟩:=ajZ (R:=R) hn mV xG hE0 aqE mu Jn r (k+1) H3 F8 c5 c6 c7 h1 h3 (by rw[tC];exact a4) (by rw[tC];intro b hb;rcases aa2.1 hb with hb|hb;exact mf b hb;rw[No] at hb;omega)
   (gC.out o3 λj hj=>by rw[aaD,not_or];exact⟨λe=>Cu (e▸hj),λq=>(hd j q).1 hj⟩) Fx zzz w2 (p2.out w3 λj hj=>by rw[No];exact (jL j hj).2.2) jL Cu
  have key:∀j∈ak F8,j∈ak ex\/H.next<=j:=λj hj=>(p4 j hj).imp id λz=>zzz;refine⟨yZ,H',(g::ak ex)++S,λaK fD my=>?_,i2,i3,(o3.mono λj hj=>aa1 _ hj).trans (i4.mono λj hj=>aaT _ hj),λj hj=>?_,λj hj=>(i6 j hj).elim (key j) λz=>.inr zzz⟩
  ·have e1:IntKind.wrap .i64 ((n:Int)-1)=(n:Int)-1:=wrap_i64 zzz zzz;have d1:(decide ((0:Int)<=(m:Int))&&decide ((m:Int)<=(n:Int)-1))=true:=by rw[aaM];exact⟨zz3 a0,zz3 a1⟩
   have d2:(((m:Nat):Int) != ((i:Nat):Int))=true:=by simp;omega
   have pj:fl [(zi 0),(zi 0)] [(0,1,zi (m:Int)),(1,1,zi (i:Int))]=some (bY (m,i)):=rfl;have Ip:fl [(zi 0),(zi 0)] [(0,2,.agg (bY (m,i)))]=some (bY (m,i)):=rfl;have BE:st 2 (.ptr H.next 0) (.agg (bY (m,i))) (al H [zi 0,zi 0] 231 0)=some (al H (bY (m,i)) 231 0):=gJ rfl rfl rfl zzx rfl;have ri:(bY (m,i)).length=2:=rfl;have aEm:(bY (m,i)).take 2=bY (m,i):=rfl;have cF:az H1 (bY (m,i)) 231 0=some (H1.next,al H1 (bY (m,i)) 231 0):=eh (by rw[ri];omega);have fI:=p1 _ rfl;rw[agX];simp(disch:=try exact zqz)only[UA,aN h1,q1,q2,pj,Ip,BE,ri,aEm,hD,xG,e1,sZ,d1,d2,hgc,aAP,c1,Vb,cF,fI,w1,es,i1,ar,aq,zz0,simprocAttr]
  ·rcases aa2.1 hj with hj|hj
   ·rcases aaD.1 hj with rfl|hj;·exact .inl rfl
    ·exact .inr (.inl hj)
   ·rcases i5 j hj with z|z|z;·exact .inl z
    ·exact .inr (key j z)
    ·exact .inr (.inr zzz)
theorem ak7 {dx:AV}{xs:List AV}{ts:List Tk}{D R g:Nat}(hn:ts.length<=16)(cZ:∀t∈ts,t.after.length<=16)(ha:yG ts)(Jn:D≠g)(Vt:g∉nf dx xs):
  ∀(r:List Tk) (i:Nat) (H:Hp) (ex:AV),i<=ts.length->ts.drop i=r->RD H dx xs ts->cellAt H D 0=some dx->D<H.next->Cs H g [zi (ts.length:Nat),ex] 201 0->OL H 231 2 ex (ma (la 0 (ts.take i)))->(la 0 (ts.take i)).length<=i*16->(∀j∈ak ex,j∉nf dx xs/\j≠D/\j≠g)->
  ∃yZ H' S,(∀aK:K.Fn 2,ZB JN GO cK aK (.ptr D 0) (.ptr R 0) (.ptr g 0) dx (zi (ts.length:Nat)) (zi (i:Nat)) H=aK (.ptr R 0) (.ptr g 0) H')/\Cs H' g [zi (ts.length:Nat),yZ] 201 0/\OL H' 231 2 yZ (ma (la 0 ts))/\Out S H H'/\(∀j∈S,j=g\/j∈ak ex\/H.next<=j)/\∀j∈ak yZ,j∈ak ex\/H.next<=j
 |[],i,H,ex,hi,h,hR,hD,Aq,hg,hO,hlen,hd=>by obtain rfl:=drop_nil hi h;refine⟨ex,H,[],λaK=>?_,hg,by rw[afe (aaO _)] at hO;exact hO,Out.refl _ _,(λj hj=>by cases hj),λj hj=>.inl hj⟩;rw[afS];simp only[Vx,df,zz0,simprocAttr]
 |t::r,i,H,ex,hi,h,hR,hD,Aq,hg,hO,hlen,hd=>by
  obtain⟨h1,h2,h3⟩:=dU h;obtain⟨x,b,o,q0,q1,q2,q3,q4,q5,_⟩:=hR.at h2;have es:=dC h1 zzz;have hht:=cZ t (aac h2);have o1:=aD H (aH t x) 99 0;have hxf:∀j∈ak x,j∈nf dx xs:=λj hj=>aaT _ (afn.2 ⟨x,aac q0,hj⟩);have Cu:=hg.1;have Mb:=hO.1.rw.lt;obtain⟨F8,H1,S1,i1,i2,i3,i4,i5,i6⟩:=ajZ (E0:=la 0 (ts.take i)) (R:=R) (D:=D) (g:=g) hn h1 hR.aE (λe he=>by have:=aki he;rw[ad8] at this;omega) zzz hht Jn t.after 0 _ ex dx (zi (ts.length:Nat)) (zi (i:Nat)) (aa7 _) aaY (by rw[akA];exact ha i t h2) (by intro b hb;rw[akA] at hb;cases hb) (q2.au o1) (by rw[xz Aq];exact hD) (by rw[bT];omega) (hg.out o1 zzy) (by rw[akA];simpa[vh] using hO.out o1 zzy) (λj hj=>⟨λz=>(hd j hj).1 (hxf j z),(hd j hj).2⟩) (λz=>Vt (hxf g z));rw[<-Zs h2] at i3;have ah0:(la 0 (ts.take (i+1))).length<=(i+1)*16:=by rw[Zs h2,aal];simp[vh];omega
  have pj:=hR.lt;have Vw:∀j∈S1,j=g\/j∈ak ex\/H.next<=j:=λj hj=>by
   rcases i5 j hj with z|z|z;·exact .inl z
   ·exact .inr (.inl z)
   ·rw[bT] at z;exact .inr (.inr zzz)
  have key:∀j∈ak F8,j∈ak ex\/H.next<=j:=λj hj=>(i6 j hj).imp id λz=>by rw[bT] at z;omega
  have o2:Out S1 H H1:=(o1.mono λj hj=>by cases hj).trans i4;have iN:=o2.nx;have hfS:∀j∈nf dx xs,j∉S1:=λj hj z=>by
   rcases Vw j z with rfl|y|y;·exact Vt hj
   ·exact (hd j y).1 hj
   ·have:=pj j hj;omega
  have hDS:D∉S1:=λz=>by
   rcases Vw D z with y|y|y;·exact Jn y
   ·exact (hd D y).2.1 rfl
   ·omega
  obtain⟨yZ,H',S,k1,k2,k3,k4,k5,k6⟩:=ak7 (R:=R) hn cZ ha Jn Vt r (i+1) H1 F8 h1 h3 (hR.out o2 hfS) (by rw[o2.cellAt Aq hDS];exact hD) zzz i2 i3 ah0 (λj hj=>(key j hj).elim (hd j) λz=>⟨λy=>by have:=pj j y;omega,zzz,zzz⟩);refine⟨yZ,H',S1++S,λaK=>?_,k2,k3,(o2.mono λj hj=>aa1 _ hj).trans (k4.mono λj hj=>aaT _ hj),λj hj=>?_,λj hj=>(k6 j hj).elim (key j) λz=>.inr zzz⟩;·have aC:=Bb t x q1 H;obtain⟨e0,e1,e2,e3,e4,e5⟩:=uQ t x;have hl:=q2.gu;rw[nb] at hl;rw[show (((0:Nat):Int))=0 from rfl] at i1;rw[afS];simp(disch:=try exact zqz)only[Vx,aN h1,q3,q5,aC,e1,hl,i1,es,k1,ar,aq,zz0,simprocAttr]
  ·rcases aa2.1 hj with hj|hj;·exact Vw j hj
   ·rcases k5 j hj with z|z|z;·exact .inl z
    ·exact .inr (key j z)
    ·exact .inr (.inr zzz)
theorem asz (hn:ts.length<=16)(cZ:∀t∈ts,t.after.length<=16)(ha:yG ts)(hR:RD H dx xs ts):
  ∃ex H',cK (zf 127) [dv dx] H=some (gv ts.length ex,H')/\RL H' 2 ex (ma (la 0 ts))/\Out [] H H'/\∀j∈ak ex,H.next<=j:=by
 have fX:=hR.row.one;have il:=hR.aE;have pj:=hR.lt;have o1:=aD H [dx] 72 0;have o2:=o1.al [zi 0,.ah] 201 0;have o3:=o2.al [zi (ts.length:Nat),.ah] 201 0;have c3:=aP (al (al H [dx] 72 0) [zi 0,.ah] 201 0) [zi (ts.length:Nat),.ah] 201 0;have c2:=(aP (al H [dx] 72 0) [zi 0,.ah] 201 0).out (aD (al (al H [dx] 72 0) [zi 0,.ah] 201 0) [zi (ts.length:Nat),.ah] 201 0) zzy;have hD:cellAt (al (al (al H [dx] 72 0) [zi 0,.ah] 201 0) [zi (ts.length:Nat),.ah] 201 0) H.next 0=some dx:=by rw[xz (by rw[bT,bT];omega),xz (by rw[bT];omega),BC rfl];rfl
 obtain⟨ex,H1,S,i1,i2,i3,i4,i5,i6⟩:=ak7 (D:=H.next) (R:=H.next+1) (g:=H.next+2) hn cZ ha zzz (λz=>by have:=pj _ z;omega) ts 0 _ .ah (aa7 _) aaY (hR.au o3) hD (by rw[bT,bT,bT];omega) c3 (by rw[akA];exact OL.nil _ _ _) (by rw[akA];simp[la]) (λj hj=>by cases hj);have kD:(al (al (al H [dx] 72 0) [zi 0,.ah] 201 0) [zi (ts.length:Nat),.ah] 201 0).next=H.next+3:=rfl;have hS:∀j∈S,j=H.next+2\/H.next+3<=j:=λj hj=>by
  rcases i5 j hj with z|z|z;·exact .inl z
  ·cases z
  ·exact .inr zzz
 have mE:=i4.nx;have CM:Cs H1 (H.next+1) [zi 0,.ah] 201 0:=c2.out i4 λz=>by have:=hS _ z;rw[bT] at this;omega
 have aqr:=i3.1.lr;obtain⟨H2,w1,w2,w3,w4⟩:∃H2,st 2 (.ptr (H.next+1) 0) (.agg [zi (ts.length:Nat),ex]) H1=some H2/\Cs H2 (H.next+1) [zi (ts.length:Nat),ex] 201 0/\Out [H.next+1] H1 H2/\H2.next=H1.next:=by obtain⟨Ha,a1,a2,a3,a4⟩:=WO CM zzx (o:=0) zzx (v:=zi (ts.length:Nat)) rfl;obtain⟨Hb,b1,b2,b3,b4⟩:=WO a2 zzx (o:=1) zzy (v:=ex) aqr;refine⟨Hb,?_,b2,a3.trans b3,by rw[b4,a4]⟩;unfold st;simp only[HM];show setCells H1 (H.next+1) 0 [zi (ts.length:Nat),ex]=_;simp only[setCells,a1,b1,abY,acf]
 have hrx:∀j∈ak ex,H.next+3<=j:=λj hj=>(i6 j hj).elim (λz=>by cases z) λz=>zzz;refine⟨ex,H2,atz ?_,(i3.rl).out w3 λj hj=>by rw[No];have:=hrx j hj;omega,(o3.then i4 λj hj=>.inr (by have:=hS j hj;omega)).then w3 λj hj=>by rw[No] at hj;exact .inr zzz,λj hj=>by have:=hrx j hj;omega⟩;have Ip:fl [zi 0,.ah] [(0,1,zi (ts.length:Nat))]=some [zi (ts.length:Nat),.ah]:=rfl;have jP:av H1 (H.next+2) 0 2=some [zi (ts.length:Nat),ex]:=i2.av 2 0 zzy;have rI:av H2 (H.next+1) 0 2=some [zi (ts.length:Nat),ex]:=w2.av 2 0 zzy;have BE:st 2 (.ptr (H.next+2) 0) (.agg [zi (ts.length:Nat),.ah]) (al (al (al H [dx] 72 0) [zi 0,.ah] 201 0) [zi 0,.ah] 201 0)=some (al (al (al H [dx] 72 0) [zi 0,.ah] 201 0) [zi (ts.length:Nat),.ah] 201 0):=gJ rfl rfl rfl zzx rfl;rw[show (((0:Nat):Int))=0 from rfl] at i1;unfold ao5;simp(disch:=try exact zqz)only[il,Ip,BE,i1,jP,w1,rI,ar,aq,zz0,simprocAttr]
theorem Dn {t:Tk}(ha:yG ts)(ht:ts[i]?=some t):(∀a∈t.after,0<=a/\a<=(ts.length:Int)-1/\a≠(i:Int))/\t.after.Nodup:=by
 have key:∀(l pre:List Int),tH ts.length i pre l=true->(∀a∈l,0<=a/\a<=(ts.length:Int)-1/\a≠(i:Int)/\a∉pre)/\l.Nodup:=by
  intro l;induction l with
  |nil=>intro pre _;exact⟨(λa ha=>by cases ha),amN⟩|cons a l ih=>
   intro pre h;obtain⟨a0,a1,a2,a3,a4⟩:=ahD h;obtain⟨i1,i2⟩:=ih _ a4;refine⟨λb hb=>?_,akD.2 ⟨λq=>(i1 a q).2.2.2 zzy,i2⟩⟩;rcases aaD.1 hb with rfl|hb;·exact⟨a0,a1,a2,a3⟩
   ·obtain⟨x1,x2,x3,x4⟩:=i1 b hb;exact⟨x1,x2,x3,λq=>x4 (aa1 _ q)⟩
 obtain⟨k1,k2⟩:=key _ _ (ha i t ht);exact⟨λa h=>⟨(k1 a h).1,(k1 a h).2.1,(k1 a h).2.2.1⟩,k2⟩
theorem aaN:∀(n:Nat) (l:List Nat),l.Nodup->(∀a∈l,a<n)->l.length<=n
 |0,l,_,h=>by
  cases l with
  |nil=>exact aaO _|cons a l=>have:=h a (.head _);omega
 |n+1,l,hn,h=>by
  by_cases hm:n∈l
  ·have h1:=aaN n (l.erase n) (hn.erase n) λa ha=>by rw[hn.mem_erase_iff] at ha;have:=h a ha.2;omega
   rw[List.length_erase_of_mem hm] at h1;omega
  ·have h1:=aaN n l hn λa ha=>by have:=h a ha;have:a≠n:=λe=>hm (e▸ha);omega
   omega
theorem Px {n:Nat}(h:∀a∈l,0<=a/\a<=(n:Int)-1)(hn:l.Nodup):l.length<=n:=by
 have h1:(l.map Int.toNat).Nodup:=by rw[List.nodup_iff_pairwise_ne,List.pairwise_map];refine (List.nodup_iff_pairwise_ne.1 hn).imp_of_mem ?_;intro a b ha hb AG e;have:=h a ha;have:=h b hb;omega
 have:=aaN n _ h1 λm hm=>by obtain⟨a,ha,rfl⟩:=abT.1 hm;have:=h a ha;omega
 simpa using this
theorem arI (hn:ts.length<=16)(ha:yG ts):sI ts.length (la 0 ts):=by
 have key:∀(k:Nat),k<=ts.length->(∀e∈la 0 (ts.take k),e.1<ts.length/\e.2<ts.length/\e.1≠e.2)/\(la 0 (ts.take k)).Nodup/\(la 0 (ts.take k)).length<=k*16:=by
  intro k;induction k with
  |zero=>intro _;rw[akA];exact⟨(λe he=>by cases he),amN,aa7 _⟩|succ k ih=>
   intro hk;obtain⟨i1,i2,i3⟩:=ih zzz;have ht:ts[k]?=some (ts[k]' zzz):=aaC _;obtain⟨a1,a2⟩:=Dn ha ht;have hle:=Px (n:=ts.length) (λa h=>⟨(a1 a h).1,(a1 a h).2.1⟩) a2;rw[Zs ht];refine⟨λe he=>?_,aeg.2 ⟨i2,?_,λe he f hf hef=>?_⟩,?_⟩
   ·rcases aa2.1 he with he|he;·exact i1 e he
    ·obtain⟨a,h,rfl⟩:=abT.1 he;have:=a1 a h;exact⟨by simp;omega,by simp;omega,by simp;omega⟩
   ·unfold vh;rw[List.nodup_iff_pairwise_ne,List.pairwise_map];refine (List.nodup_iff_pairwise_ne.1 a2).imp_of_mem ?_;intro a b h1 h2 AG e;have e1:=congrArg Prod.fst e;have:=a1 a h1;have:=a1 b h2;simp only at e1;omega
   ·obtain⟨a,h,rfl⟩:=abT.1 hf;have:=aki he;rw[ad8] at this;rw[hef] at this;simp at this;omega
   ·rw[aal];simp[vh];omega
 obtain⟨k1,k2,k3⟩:=key ts.length (aaO _);rw[afe (aaO _)] at k1 k2 k3;exact⟨hn,k1,k2,zzz⟩
end
noncomputable def p1 (ts:List Tk)(i:Nat):Bool:=match ts[i]? with|some t=>Bx t|none=>false
def p3 (ts:List Tk)(i:Nat):Bool:=match ts[i]? with|some t=>uA t|none=>false
def p4 (ts:List Tk)(i:Nat):Bool:=match ts[i]? with|some t=>!tH ts.length i [] t.after|none=>false
instance (N:Nat) (E:List Ed):Decidable (DX N E):=by unfold DX;infer_instance
noncomputable def jD (ts:List Tk):Int:=
 if ¬(1<=ts.length/\ts.length<=16) then 1
 else if (List.range ts.length).any (p1 ts) then 2
 else if (List.range ts.length).any (dup ts) then 5
 else if (List.range ts.length).any (p3 ts) then 1
 else if (List.range ts.length).any (p4 ts) then 1
 else if DX ts.length (la 0 ts) then 0 else 7
theorem Qm {ts:List Tk}(h:(List.range ts.length).any (p4 ts)=false):yG ts:=by intro i t ht;have hi:=(aag.1 ht).1;rw[akE] at h;have:=h i (anM.2 hi);unfold p4 at this;rw[ht] at this;simpa using this
theorem tri:∀(i:Nat) (H H':Hp),True->Out [] H H'->True:=λ_ _ _ _ _=>trivial
abbrev nJ:Nat:=194
theorem TA {dx:AV}{xs:List AV}{ts:List Tk}{H:Hp}(hn:ts.length<=100000)(cZ:∀t∈ts,t.after.length<=100000)(hR:RD H dx xs ts):
  ∃H',cK (zf 90) [dv dx] H=some (zi (jD ts),H')/\Out [] H H':=by
 have fX:=hR.row.one;have il:=hR.aE;have pj:=hR.lt;have o1:=aD H [dx] 72 0;by_cases hr:¬(1<=ts.length/\ts.length<=16)
 ·refine⟨al H [dx] 72 0,Je ?_,o1⟩;have d:(decide ((1:Int)<=(ts.length:Int))&&decide ((ts.length:Int)<=16))=false:=by rw[<-ahM,aaM,zz5,zz5];omega
  unfold Ee jD;rw[zz2 hr];simp(disch:=try exact zqz)only[il,sZ,d,ar,aq,zz0,simprocAttr]
 have dH:=hr
 replace hr:1<=ts.length/\ts.length<=16:=ajy.1 hr
 have d:(decide ((1:Int)<=(ts.length:Int))&&decide ((ts.length:Int)<=16))=true:=by rw[aaM,zz5,zz5];omega
 obtain⟨H2,m1,m2,m3,m4⟩:=Uo (al H [dx] 72 0);rw[bT] at m1 m2 m4;have o2:Out [] H H2:=o1.trans m3;let L8:List AV:=[.func (.func 120) [] [],zi 2,.func (.func 121) [] [.ptr (H.next+2) 0],zi 5,.func (.func 122) [] [],zi 1,.func (.func 123) [] [.ptr H.next 0],zi 1];have iN:H2.next=H.next+2:=by rw[m4]
 have o3:=aD H2 [.map (H.next+1)] 192 0;have o4:=aD (al H2 [.map (H.next+1)] 192 0) L8 nJ 0;have hC4:=aP (al H2 [.map (H.next+1)] 192 0) L8 nJ 0;have ho4:Out [] H (al (al H2 [.map (H.next+1)] 192 0) L8 nJ 0):=(o2.trans o3).trans o4;have aty:(al (al H2 [.map (H.next+1)] 192 0) L8 nJ 0).next=H.next+4:=by rw[bT,bT,iN]
 have P7:(al H2 [.map (H.next+1)] 192 0).next=H.next+3:=by rw[bT,iN]
 have K8:∀{H':Hp} {S:List Nat},Out S (al (al H2 [.map (H.next+1)] 192 0) L8 nJ 0) H'->(∀j∈S,j=H.next+1)->cellAt H' H.next 0=some dx/\av H' H.next 0 1=some [dx]/\RD H' dx xs ts/\(∀k:Nat,k<4->∃a b,L8[k*2]?=some a/\L8[k*2+1]?=some b/\av H' (H.next+3) (k*2) 2=some [a,b]):=by
  intro H' S ho hS;have aF:∀j,j<H.next+4->j≠H.next+1->∀o,cellAt H' j o=cellAt (al (al H2 [.map (H.next+1)] 192 0) L8 nJ 0) j o:=λj hj U3 o=>ho.cellAt (by rw[aty];exact hj) λq=>U3 (hS j q);have h0:cellAt H' H.next 0=some dx:=by rw[aF _ zzz zzz,xz (by rw[P7];omega),xz (by rw[iN];omega),m3.cellAt (by rw[bT];omega) zzy,BC rfl];rfl
  refine⟨h0,?_,(hR.au ho4).out ho λj hj q=>by have:=pj j hj;have:=hS j q;omega,λk hk=>?_⟩;·unfold av av;rw[h0];rfl
  ·have hL:L8.length=8:=rfl;have ha:L8[k*2]?=some (L8[k*2]'(by rw[hL];omega)):=aaC _;have hb:L8[k*2+1]?=some (L8[k*2+1]'(by rw[hL];omega)):=aaC _;refine⟨_,_,ha,hb,?_⟩;unfold av av av;rw[aF _ zzz zzz,aF _ zzz zzz,BC P7.symm,BC P7.symm,ha,hb];rfl
 have hm4:Mp (al (al H2 [.map (H.next+1)] 192 0) L8 nJ 0) (H.next+1) (Dr []) 0:=(m2.out o3 zzy).out o4 zzy;have Z5:Cs (al (al H2 [.map (H.next+1)] 192 0) L8 nJ 0) (H.next+2) [.map (H.next+1)] 192 0:=by have:=(aP H2 [.map (H.next+1)] 192 0).out o4 zzy;rw[iN] at this;exact this
 have ay1:∀(H':Hp) (a b:AV),aZ a=true->aZ b=true->st 2 (.ptr H'.next 0) (.agg [a,b]) (al H' [.nilFunc,zi 0] nJ 0)=some (al H' [a,b] nJ 0):=λH' a b ha hb=>gJ (by simp[ha,hb]) rfl rfl zzx rfl;have one:∀(k:Nat) (z z':Int) (p:Nat->Bool) (e:Int) (fv:AV) (H':Hp) (H'':Hp),k<4->z=(k:Nat)->z'=(k+1:Nat)->L8[k*2]?=some fv->L8[k*2+1]?=some (zi e)->aZ fv=true->
   av H' H.next 0 1=some [dx]->H.next+4<=H'.next->(∀a b,L8[k*2]?=some a->L8[k*2+1]?=some b->av H' (H.next+3) (k*2) 2=some [a,b])->
   cK (zf 125) [dv dx,fv] (al H' [fv,zi e] nJ 0)=some (.bool ((List.range ts.length).any p),H'')->Out [H.next+1] (al H' [fv,zi e] nJ 0) H''->
   ∀gY:K.Fn 1,Np JN GO cK gY (.ptr H.next 0) (.slice (H.next+3) 0 4 4 true 2) (zi 4) (zi z) H'=if (List.range ts.length).any p then some (zi e,H'') else Np JN GO cK gY (.ptr H.next 0) (.slice (H.next+3) 0 4 4 true 2) (zi 4) (zi z') H'':=by
  intro k z z' p e fv H' H'' hk hz Eu ha hb hfv MP hHn hl hs hos gY;subst hz;subst Eu;have mu:=hl _ _ ha hb;have qj:ia 2 (.slice (H.next+3) 0 4 4 true 2) (zi (k:Nat))=some (.ptr (H.next+3) (k*2)):=by rw[DL hk];simp
  have aR:decide (((k:Nat):Int)<4)=true:=zz3 zzz;have es:IntKind.wrap .i64 ((k:Int)+1)=((k+1:Nat):Int):=by rw[wrap_i64 zzz zzz];rfl
  have aC:=ay1 H' fv (zi e) hfv rfl;have he:cellAt H'' H'.next 1=some (zi e):=by rw[hos.cellAt (by rw[bT];omega) (by rw[No];omega),BC rfl];rfl
  have cF:az H' [.nilFunc,zi 0] nJ 0=some (H'.next,al H' [.nilFunc,zi 0] nJ 0):=eh zzy;rw[afl];cases PW:(List.range ts.length).any p with
  |true=>
   rw[PW] at hs;simp(disch:=try exact zqz)only[SW,aR,qj,mu,cF,aC,MP,hs,he,if_true,ar,aq,zz0,simprocAttr]
  |false=>
   rw[PW] at hs;simp(disch:=try exact zqz)only[SW,aR,qj,mu,cF,aC,MP,hs,es,aa8,if_false,ar,aq,zz0,simprocAttr]
 generalize hH4:al (al H2 [.map (H.next+1)] 192 0) L8 nJ 0=H4 at*
 have vF:∀{A B:Hp},Out [] A B->Out [H.next+1] A B:=λh=>h.mono λj hj=>by cases hj
 have Pb:∀j∈([H.next+1]:List Nat),j=H.next+1:=λj hj=>by rw[No] at hj;exact hj
 obtain⟨a1,a2,a3,a4⟩:=K8 (Out.refl [H.next+1] H4) Pb;have r1:=aD H4 [.func (.func 120) [] [],zi 2] nJ 0;obtain⟨H5,s1,s2⟩:=Pn (S:=[]) (fv:=.func (.func 120) [] []) (p:=p1 ts) (λ_ _=>True) hn zzy tri (λi t x H' ht hx bp _=>by
  obtain⟨H'',c1,c2⟩:=aCd t x i H';have hp:p1 ts i=Bx t:=by unfold p1;rw[ht]
  exact⟨H'',by rw[hp];exact c1,c2,λ_=>trivial⟩) (a3.au r1) trivial
 have g1:=one 0 0 1 (p1 ts) 2 _ H4 H5 zzz rfl rfl rfl rfl rfl a2 zzz (λa b ha hb=>by obtain⟨a',b',x1,x2,x3⟩:=a4 0 zzz;rw[x1] at ha;rw[x2] at hb;cases ha;cases hb;exact x3) s1 (vF s2);have t5:Out [H.next+1] H4 H5:=vF (r1.trans s2);obtain⟨b1,b2,b3,b4⟩:=K8 t5 Pb;have n5:=t5.nx;have r2:=aD H5 [.func (.func 121) [] [.ptr (H.next+2) 0],zi 5] nJ 0;have hHI:Ps (H.next+1) (H.next+2) ts 0 (al H5 [.func (.func 121) [] [.ptr (H.next+2) 0],zi 5] nJ 0):=
  ⟨192,[],0,((Z5.out (r1.trans s2) zzy).out r2 zzy),(hm4.out (r1.trans s2) zzy).out r2 zzy,by rw[akA];rfl,zzz,amN⟩
 have hfm:∀j∈nf dx xs,j∉([H.next+1]:List Nat):=λj hj=>by rw[No];have:=pj j hj;omega
 obtain⟨H6,u1,u2⟩:=Pn (S:=[H.next+1]) (fv:=.func (.func 121) [] [.ptr (H.next+2) 0]) (p:=dup ts) (Ps (H.next+1) (H.next+2) ts) hn hfm (λi A B hA Nq=>by obtain⟨el,l,c,x1,x2,x3,x4⟩:=hA;exact⟨el,l,c,x1.out Nq zzy,x2.out Nq zzy,x3,x4⟩) (λi t x H' ht hx bp hI=>aDi hI ht) (b3.au r2) hHI;have g2:=one 1 1 2 (dup ts) 5 _ H5 H6 zzz rfl rfl rfl rfl rfl b2 zzz (λa b ha hb=>by obtain⟨a',b',x1,x2,x3⟩:=b4 1 zzz;rw[x1] at ha;rw[x2] at hb;cases ha;cases hb;exact x3) u1 u2;have t6:Out [H.next+1] H4 H6:=t5.trans ((vF r2).trans u2);obtain⟨c1,c2,c3,c4⟩:=K8 t6 Pb;have n6:=t6.nx;have r3:=aD H6 [.func (.func 122) [] [],zi 1] nJ 0;obtain⟨H7,v1,v2⟩:=Pn (S:=[]) (fv:=.func (.func 122) [] []) (p:=p3 ts) (λ_ _=>True) hn zzy tri (λi t x H' ht hx bp _=>by
  obtain⟨H'',c1,c2⟩:=ava t x i H';have hp:p3 ts i=uA t:=by unfold p3;rw[ht]
  exact⟨H'',by rw[hp];exact c1,c2,λ_=>trivial⟩) (c3.au r3) trivial
 have g3:=one 2 2 3 (p3 ts) 1 _ H6 H7 zzz rfl rfl rfl rfl rfl c2 zzz (λa b ha hb=>by obtain⟨a',b',x1,x2,x3⟩:=c4 2 zzz;rw[x1] at ha;rw[x2] at hb;cases ha;cases hb;exact x3) v1 (vF v2);have t7:Out [H.next+1] H4 H7:=t6.trans (vF (r3.trans v2));obtain⟨d1,d2,d3,d4⟩:=K8 t7 Pb;have n7:=t7.nx;have r4:=aD H7 [.func (.func 123) [] [.ptr H.next 0],zi 1] nJ 0;obtain⟨H8,w1,w2⟩:=Pn (S:=[]) (fv:=.func (.func 123) [] [.ptr H.next 0]) (p:=p4 ts) (λ_ H'=>cellAt H' H.next 0=some dx/\H.next<H'.next) hn zzy (λi A B hA Nq=>⟨by rw[Nq.cellAt hA.2 zzy];exact hA.1,by have:=Nq.nx;omega⟩) (λi t x H' ht hx bp hI=>by
  obtain⟨x',bb,oo,y1,y2,y3,_⟩:=bp.at ht;rw[hx] at y1;cases y1;obtain⟨H'',c1,c2⟩:=aH6 (i:=(i:Int)) (n:=ts.length) hn (cZ t (aac ht)) il fX hI.1 hI.2 y3;have hp:p4 ts i = !tH ts.length i [] t.after:=by unfold p4;rw[ht]
  exact⟨H'',by rw[hp];exact c1,c2,λ_=>⟨by rw[c2.cellAt hI.2 zzy];exact hI.1,by have:=c2.nx;omega⟩⟩) (d3.au r4) ⟨by rw[r4.cellAt zzz zzy];exact d1,by rw[bT];omega⟩
 have g4:=one 3 3 4 (p4 ts) 1 _ H7 H8 zzz rfl rfl rfl rfl rfl d2 zzz (λa b ha hb=>by obtain⟨a',b',x1,x2,x3⟩:=d4 3 zzz;rw[x1] at ha;rw[x2] at hb;cases ha;cases hb;exact x3) w1 (vF w2);have t8:Out [H.next+1] H4 H8:=t7.trans (vF (r4.trans w2));obtain⟨e1,e2,e3,e4⟩:=K8 t8 Pb;have fin:∀{B:Hp},Out [H.next+1] H4 B->Out [] H B:=λh=>ho4.then h λj hj=>by rw[No] at hj;exact .inr zzz
 have g5:∀gY:K.Fn 1,Np JN GO cK gY (.ptr H.next 0) (.slice (H.next+3) 0 4 4 true 2) (zi 4) (zi 4) H8=gY (.ptr H.next 0) H8:=λgY=>by have d:decide ((4:Int)<4)=false:=rfl;rw[afl];simp only[SW,d,zz0,simprocAttr]
 have zw:st 1 (.ptr (H.next+2) 0) (.map (H.next+1)) (al H2 [.lG] 192 0)=some (al H2 [.map (H.next+1)] 192 0):=R1 rfl (by rw[iN]) zzx zzy;have cF:az (al H2 [.map (H.next+1)] 192 0) L8 nJ 0=some (H.next+3,H4):=by rw[<-hH4,eh (by show 8<=_;omega),P7]
 have J3:fl [.nilFunc,(zi 0),.nilFunc,(zi 0),.nilFunc,(zi 0),.nilFunc,(zi 0)] [(0,2,(.agg [.func (.func 120) [] [],zi 2])),(2,2,(.agg [.func (.func 121) [] [.ptr (H.next+2) 0],zi 5])),(4,2,(.agg [.func (.func 122) [] [],zi 1])),(6,2,(.agg [.func (.func 123) [] [.ptr H.next 0],zi 1]))]=some L8:=rfl;have SE:jD ts=if (List.range ts.length).any (p1 ts) then 2 else if (List.range ts.length).any (dup ts) then 5 else if (List.range ts.length).any (p3 ts) then 1 else if (List.range ts.length).any (p4 ts) then 1 else if DX ts.length (la 0 ts) then 0 else 7:=by unfold jD;rw[zz1 dH]
 rw[SE];have Kh:BV (al H [dx] 72 0)=some (H.next+1,H2):=m1;have eg:((4:Nat):Int)=4:=rfl;have Kg:H.next+2+1=H.next+3:=rfl;have I1:al (al H2 [.map (H.next+1)] 192 0) [.func (.func 120) [] [],zi 2,.func (.func 121) [] [.ptr (H.next+2) 0],zi 5,.func (.func 122) [] [],zi 1,.func (.func 123) [] [.ptr H.next 0],zi 1] nJ 0=H4:=hH4;have adD:aE (.slice (H.next+3) 0 4 4 true 2)=some (zi 4):=rfl;have Ju:H2.next=H.next+2:=iN;cases q1:(List.range ts.length).any (p1 ts) with
 |true=>
  simp only[q1,if_true] at g1;refine⟨H5,Je ?_,fin t5⟩;unfold Ee;simp(disch:=try exact zqz)only[il,sZ,d,Kh,Ju,zw,J3,eg,Kg,I1,g1,if_true,ar,aq,zz0,simprocAttr]
 |false=>
 cases q2:(List.range ts.length).any (dup ts) with
 |true=>
  simp only[q1,aa8,if_false] at g1;simp only[q2,if_true] at g2;refine⟨H6,Je ?_,fin t6⟩;unfold Ee;simp(disch:=try exact zqz)only[il,sZ,d,Kh,Ju,zw,J3,eg,Kg,I1,g1,g2,if_true,aa8,if_false,ar,aq,zz0,simprocAttr]
 |false=>
 cases q3:(List.range ts.length).any (p3 ts) with
 |true=>
  simp only[q1,aa8,if_false] at g1;simp only[q2,aa8,if_false] at g2;simp only[q3,if_true] at g3;refine⟨H7,Je ?_,fin t7⟩;unfold Ee;simp(disch:=try exact zqz)only[il,sZ,d,Kh,Ju,zw,J3,eg,Kg,I1,g1,g2,g3,if_true,aa8,if_false,ar,aq,zz0,simprocAttr]
 |false=>
 cases q4:(List.range ts.length).any (p4 ts) with
 |true=>
  simp only[q1,aa8,if_false] at g1;simp only[q2,aa8,if_false] at g2;simp only[q3,aa8,if_false] at g3;simp only[q4,if_true] at g4;refine⟨H8,Je ?_,fin t8⟩;unfold Ee;simp(disch:=try exact zqz)only[il,sZ,d,Kh,Ju,zw,J3,eg,Kg,I1,g1,g2,g3,g4,if_true,aa8,if_false,ar,aq,zz0,simprocAttr]
 |false=>
  simp only[q1,aa8,if_false] at g1;simp only[q2,aa8,if_false] at g2;simp only[q3,aa8,if_false] at g3;simp only[q4,aa8,if_false] at g4;have acj:=Qm q4;have aCP:∀t∈ts,t.after.length<=16:=λt ht=>by obtain⟨i,hi⟩:=aca ht;obtain⟨x1,x2⟩:=Dn acj hi;have:=Px (n:=ts.length) (λa h=>⟨(x1 a h).1,(x1 a h).2.1⟩) x2;omega
  obtain⟨ex,H9,y1,y2,y3,y4⟩:=asz hr.2 aCP acj e3;obtain⟨cy,kk,kW,z1,z2,z3,z4⟩:=aDa (arI hr.2 acj) y2;refine⟨kW,Je ?_,(fin t8).trans (y3.trans z4)⟩;by_cases hk:kk=0;·have Ze:=z3.1 hk;rw[zz2 Ze];have dk:decide ((0:Int)<((kk:Nat):Int))=false:=zz4 zzz;unfold Ee;simp(disch:=try exact zqz)only[il,sZ,d,Kh,Ju,zw,J3,eg,Kg,I1,g1,g2,g3,g4,g5,e2,y1,z1,z2,dk,aa8,if_false,ar,aq,zz0,simprocAttr]
  ·have Ze:¬DX ts.length (la 0 ts):=λq=>hk (z3.2 q);rw[zz1 Ze];have dk:decide ((0:Int)<((kk:Nat):Int))=true:=zz3 zzz;unfold Ee;simp(disch:=try exact zqz)only[il,sZ,d,Kh,Ju,zw,J3,eg,Kg,I1,g1,g2,g3,g4,g5,e2,y1,z1,z2,dk,aa8,if_false,ar,aq,zz0,simprocAttr]
def wE (names:List Str):List Str->Option (List Int)
 |[]=>some []|s::r=>match names.findIdx? (λa=>s==a) with
  |some i=>(wE names r).map λl=>(i:Int)::l
  |none=>none
abbrev AZ:Str:=[97,102,116,101,114]
abbrev CN:Str:=[114,101,116,114,121]
abbrev AT:Str:=[119,97,105,116]
abbrev zG:Str:=[98,97,115,101]
abbrev vR:Str:=[111,110]
noncomputable def kA (t:Tk)(key value:Str)(names:List Str):Option Tk:=
 if key=AZ then (wE names (cJ 44 value)).map λl=>{t with after:=t.after++l}
 else if key=CN then (uq value).map λ(n:Nat)=>{t with cj:=n}
 else if key=AT then (uq value).map λ(n:Nat)=>{t with wait:=n}
 else if key=zG then (uq value).map λ(n:Nat)=>{t with base:=n}
 else if key=vR then (if value=[] then none else some {t with on:=value})
 else (uq value).map λ_=>t
structure TO (H:Hp)(p:Nat)(t:Tk)(x:AV):Prop where
 c:Cs H p (aH t x) 99 0
 o:Ow H 3 1 x (ints t.after)
 ne:p∉ak x
theorem TO.au {H H':Hp}{p:Nat}{t:Tk}{x:AV}(h:TO H p t x)(k:Out [] H H'):TO H' p t x:=⟨h.c.out k zzy,h.o.out k zzy,h.ne⟩
theorem TO.st {H:Hp}{p:Nat}{t:Tk}{x:AV}(h:TO H p t x)(o:Nat)(ho:o<6)(v:AV)(hv:aZ v=true)(t':Tk)(ht:(aH t x).set o v=aH t' x)(ha:t'.after=t.after):
  ∃H',st 1 (.ptr p o) v H=some H'/\TO H' p t' x/\Out [p] H H':=by
 obtain⟨H',w1,w2,w3,w4⟩:=ff h.c zzx (o:=o) (by rw[y9];exact ho) hv;rw[ht] at w2;exact⟨H',w1,⟨w2,by rw[ha];exact h.o.out w3 λj hj=>by rw[No];intro e;subst e;exact h.ne hj,h.ne⟩,w3⟩
theorem aii {names:List Str}{nx sx:AV}{p:Nat}{parts:List Str}(mf:names.length<=100000)(gR:parts.length<=100000):∀(r:List Str) (i:Nat) (H:Hp) (t:Tk) (x:AV),i<=parts.length->parts.drop i=r->Rw H 1 nx (strs names)->Rw H 1 sx (strs parts)->TO H p t x->(∀j,j∈ak nx\/j∈ak sx->j≠p/\j∉ak x)->t.after.length+r.length<=200000->
  ∃H',Out (p::ak x) H H'/\((∃l x',wE names r=some l/\(∀(eJ:K.Fn 1) (cP:K.Fn 0),Jg JN GO cK eJ cP (.ptr p 0) nx sx (zi (parts.length:Nat)) (zi (i:Nat)) H=cP H')/\TO H' p {t with after:=t.after++l} x'/\∀j∈ak x',j∈ak x\/H.next<=j)\/
   (wE names r=none/\∀(eJ:K.Fn 1) (cP:K.Fn 0),Jg JN GO cK eJ cP (.ptr p 0) nx sx (zi (parts.length:Nat)) (zi (i:Nat)) H=some (.bool false,H')))
 |[],i,H,t,x,hi,h,kD,Su,hT,hd,cZ=>by obtain rfl:=drop_nil hi h;refine⟨H,Out.refl _ _,.inl ⟨[],x,rfl,λeJ cP=>?_,by simpa using hT,λj hj=>.inl hj⟩⟩;rw[PY];simp only[KC,df,zz0,simprocAttr]
 |s::r,i,H,t,x,hi,h,kD,Su,hT,hd,cZ=>by
  obtain⟨h1,h2,h3⟩:=dU h;obtain⟨q,q1,q2⟩:=Su.fW (mS h2) .i64;have es:=dC h1 zzz;have pQ:=QB kD zzz s;simp only[aaP] at cZ;unfold wE;cases hf:names.findIdx? (λa=>s==a) with
  |none=>
   rw[hf] at pQ;have d:decide (nR none<0)=true:=rfl;refine⟨H,Out.refl _ _,.inr ⟨rfl,λeJ cP=>?_⟩⟩;rw[PY];simp(disch:=try exact zqz)only[KC,aN h1,q1,q2,pQ,d,ar,aq,zz0,simprocAttr]
  |some m=>
   rw[hf] at pQ;have d:decide (nR (some m)<0)=false:=zz4 (by show ¬((m:Int)<0);omega);have tu:nR (some m)=(m:Int):=rfl;rw[tu] at pQ d;have MP:cellAt H p 1=some x:=hT.c.cellAt rfl;have aIV:=hT.c.1;obtain⟨x1,H1,p1,p2,p3,p4,p5⟩:=vf (el2:=3) (z:=[(zi 0)]) (vs:=[zi (m:Int)]) hT.o rfl rfl zzx (by rw[nb];simp;omega);have uw:ints t.after++[zi (m:Int)]=ints (t.after++[(m:Int)]):=by rw[Qk];rfl
   rw[uw] at p2;have ye:=hT.c.out p3 hT.ne;obtain⟨H2,w1,w2,w3,w4⟩:=ff ye zzx (o:=1) (by rw[y9];omega) (v:=x1) p5;have fY:(aH t x).set 1 x1=aH {t with after:=t.after++[(m:Int)]} x1:=rfl;rw[fY] at w2;have mE:=p3.nx;have aoI:p∉ak x1:=λz=>(p4 p z).elim hT.ne λz=>zzz;have zU:TO H2 p {t with after:=t.after++[(m:Int)]} x1:=⟨w2,p2.out w3 λj hj=>by rw[No];intro e;subst e;exact aoI hj,aoI⟩;have o2:Out (p::ak x) H H2:=(p3.mono λj hj=>.tail _ hj).trans (w3.mono λj hj=>by rw[No] at hj;subst hj;exact .head _);have jw:=kD.lt;have mR:=Su.lt;have wO:∀j,j∈ak nx\/j∈ak sx->j≠p/\j∉ak x1:=λj hj=>⟨(hd j hj).1,λz=>(p4 j z).elim (hd j hj).2 λy=>by have:=hj.elim (jw j) (mR j);omega⟩;obtain⟨H',i1,i2⟩:=aii (p:=p) mf gR r (i+1) H2 {t with after:=t.after++[(m:Int)]} x1 h1 h3 (kD.out o2 λj hj=>by rw[aaD,not_or];exact hd j (.inl hj)) (Su.out o2 λj hj=>by rw[aaD,not_or];exact hd j (.inr hj)) zU wO (by simp;omega);have key:∀j∈ak x1,j∈ak x\/H.next<=j:=λj hj=>(p4 j hj).imp id λz=>zzz;have iN:=o2.nx;have oo:Out (p::ak x) H H':=o2.then i1 λj hj=>by
    rcases aaD.1 hj with rfl|hj;·exact .inl (.head _)
    ·exact (key j hj).imp (λz=>.tail _ z) id
   have fI:=p1 _ rfl;refine⟨H',oo,?_⟩;rcases i2 with⟨l,x',k1,k2,k3,k4⟩|⟨k1,k2⟩;·refine .inl ⟨(m:Int)::l,x',by simp[k1],λeJ cP=>?_,by simpa[abr] using k3,λj hj=>(k4 j hj).elim (key j) λz=>.inr zzz⟩;rw[PY];simp(disch:=try exact zqz)only[KC,aN h1,q1,q2,pQ,d,MP,fI,w1,es,k2,ar,aq,zz0,simprocAttr]
   ·refine .inr ⟨by simp[k1],λeJ cP=>?_⟩;rw[PY];simp(disch:=try exact zqz)only[KC,aN h1,q1,q2,pQ,d,MP,fI,w1,es,k2,ar,aq,zz0,simprocAttr]
theorem Ly {a b:Str}(h:a≠b):(a==b)=false:=zz7 h
theorem aIh {names:List Str}{nx:AV}{p:Nat}{key value:Str}{t:Tk}{x:AV}{H:Hp}(hg:Gl H)(mf:names.length<=100000)(hv:value.length<=90000)(kD:Rw H 1 nx (strs names))(hT:TO H p t x)(hd:∀j,j∈ak nx->j≠p/\j∉ak x)(cZ:t.after.length<=10000):
  ∃ok H',cK (zf 118) [.ptr p 0,.str key,.str value,nx] H=some (.bool ok,H')/\Out (p::ak x) H H'/\(ok=true->∃t' x',kA t key value names=some t'/\TO H' p t' x'/\∀j∈ak x',j∈ak x\/H.next<=j)/\(ok=false->kA t key value names=none):=by
 obtain⟨n,XN,H1,n1,n2,n3,n4⟩:=aCM (s:=value) hg;have Dk:=hT.au n4;have W0:=Dk.c.1;have Gs:=kD.au n4;have mE:=n4.nx;have vF:∀{S:List Nat} {A B:Hp},Out [] A B->Out S A B:=λh=>h.mono λj hj=>by cases hj
 have num:∀(o:Nat) (f:Nat->Tk),o<6->(∀m:Nat,(aH t x).set o (zi (m:Int))=aH (f m) x)->(∀m,(f m).after=t.after)->kA t key value names=(uq value).map f->
   (∀H2,st 1 (.ptr p o) (zi n) H1=some H2->Bl JN GO cK (.ptr p 0) (.str key) (.str value) nx H=some (.bool XN,H2))->∃ok H',cK (zf 118) [.ptr p 0,.str key,.str value,nx] H=some (.bool ok,H')/\Out (p::ak x) H H'/\(ok=true->∃t' x',kA t key value names=some t'/\TO H' p t' x'/\∀j∈ak x',j∈ak x\/H.next<=j)/\(ok=false->kA t key value names=none):=by
  intro o f ho hf hfa hm mK;cases XN with
  |true=>
   obtain⟨m,rfl⟩:∃m:Nat,n=m:=⟨n.toNat,by have:=n3 rfl;omega⟩;obtain⟨H2,w1,w2,w3⟩:=Dk.st o ho (zi (m:Int)) rfl (f m) (hf m) (hfa m);refine⟨true,H2,Hh (mK H2 w1),(vF n4).trans (w3.mono λj hj=>by rw[No] at hj;subst hj;exact .head _),λ_=>⟨f m,x,?_,w2,λj hj=>.inl hj⟩,λq=>by cases q⟩;rw[hm,n2,zz2 rfl,abI];rfl
  |false=>
   obtain⟨H2,w1,w2,w3,w4⟩:=ff Dk.c zzx (o:=o) (by rw[y9];exact ho) (v:=zi n) rfl;refine⟨false,H2,Hh (mK H2 w1),(vF n4).trans (w3.mono λj hj=>by rw[No] at hj;subst hj;exact .head _),λq=>(by cases q),λ_=>?_⟩;rw[hm,n2];rfl
 by_cases k1:key=AZ
 ·subst k1;obtain⟨sx,H2,s1,s2,s3,s4⟩:=Yc (c:=44) zzx (s:=value) zzz H1;have mR:=s2.gu;rw[gZ] at mR;have gR:(cJ 44 value).length<=90001:=by rw[Iu];have:=TK 44 value;omega
  have zU:=Dk.au s3;have IF:=kD.lt;have Mb:=hT.o.rw.lt;have hpH:=hT.c.1;obtain⟨H',i1,i2⟩:=aii (p:=p) mf zzz (cJ 44 value) 0 H2 t x (aa7 _) aaY (Gs.au s3) s2 zU (λj hj=>hj.elim (hd j) λz=>⟨by have:=s4 j z;omega,λy=>by have:=s4 j z;have:=Mb j y;omega⟩) zzz;have hm:kA t AZ value names=(wE names (cJ 44 value)).map λl=>{t with after:=t.after++l}:=by unfold kA;rw[zz2 rfl]
  have oo:Out (p::ak x) H H':=(vF (n4.trans s3)).trans i1;have iN:=(n4.trans s3).nx;have e:(AZ==AZ)=true:=rfl;rcases i2 with⟨l,x',q1,q2,q3,q4⟩|⟨q1,q2⟩;·rw[show (((0:Nat):Int))=0 from rfl] at q2;refine⟨true,H',Hh ?_,oo,λ_=>⟨_,x',by rw[hm,q1];rfl,q3,λj hj=>(q4 j hj).imp id λz=>zzz⟩,λq=>by cases q⟩;unfold Bl;simp(disch:=try exact zqz)only[n1,e,s1,mR,q2,ar,aq,zz0,simprocAttr]
  ·rw[show (((0:Nat):Int))=0 from rfl] at q2;refine⟨false,H',Hh ?_,oo,λq=>(by cases q),λ_=>by rw[hm,q1];rfl⟩;unfold Bl;simp(disch:=try exact zqz)only[n1,e,s1,mR,q2,ar,aq,zz0,simprocAttr]
 have e1:=Ly k1;by_cases k2:key=CN;·subst k2;have e2:(CN==CN)=true:=rfl;refine num 2 (λm=>{t with cj:=(m:Int)}) zzz (λm=>rfl) (λm=>rfl) (by unfold kA;rw[zz1 k1,zz2 rfl]) λH2 aC=>?_;unfold Bl;simp(disch:=try exact zqz)only[n1,e1,e2,aC,ar,aq,zz0,simprocAttr]
 have e2:=Ly k2;by_cases k3:key=AT;·subst k3;have e3:(AT==AT)=true:=rfl;refine num 3 (λm=>{t with wait:=(m:Int)}) zzz (λm=>rfl) (λm=>rfl) (by unfold kA;rw[zz1 k1,zz1 k2,zz2 rfl]) λH2 aC=>?_;unfold Bl;simp(disch:=try exact zqz)only[n1,e1,e2,e3,aC,ar,aq,zz0,simprocAttr]
 have e3:=Ly k3;by_cases k4:key=zG;·subst k4;have e4:(zG==zG)=true:=rfl;refine num 4 (λm=>{t with base:=(m:Int)}) zzz (λm=>rfl) (λm=>rfl) (by unfold kA;rw[zz1 k1,zz1 k2,zz1 k3,zz2 rfl]) λH2 aC=>?_;unfold Bl;simp(disch:=try exact zqz)only[n1,e1,e2,e3,e4,aC,ar,aq,zz0,simprocAttr]
 have e4:=Ly k4;by_cases k5:key=vR
 ·subst k5;have e5:(vR==vR)=true:=rfl;obtain⟨H2,w1,w2,w3⟩:=Dk.st 5 zzz (.str value) rfl {t with on:=value} rfl rfl;have oo:Out (p::ak x) H H2:=(vF n4).trans (w3.mono λj hj=>by rw[No] at hj;subst hj;exact .head _);have hm:kA t vR value names=if value=[] then none else some {t with on:=value}:=by unfold kA;rw[zz1 k1,zz1 k2,zz1 k3,zz1 k4,zz2 rfl]
  by_cases Jb:value=[]
  ·have e6:(value==[])=true:=by rw[Jb];rfl
   refine⟨false,H2,Hh ?_,oo,λq=>(by cases q),λ_=>by rw[hm,zz2 Jb]⟩;unfold Bl;simp(disch:=try exact zqz)only[n1,e1,e2,e3,e4,e5,e6,w1,ar,aq,zz0,simprocAttr]
  ·have e6:(value==[])=false:=zz7 Jb;refine⟨true,H2,Hh ?_,oo,λ_=>⟨_,x,by rw[hm,zz1 Jb],w2,λj hj=>.inl hj⟩,λq=>by cases q⟩;unfold Bl;simp(disch:=try exact zqz)only[n1,e1,e2,e3,e4,e5,e6,w1,ar,aq,zz0,simprocAttr]
 ·have e5:=Ly k5;have hm:kA t key value names=(uq value).map λ_=>t:=by unfold kA;rw[zz1 k1,zz1 k2,zz1 k3,zz1 k4,zz1 k5]
  refine⟨XN,H1,Hh ?_,vF n4,λq=>⟨t,x,?_,Dk,λj hj=>.inl hj⟩,λq=>?_⟩;·unfold Bl;simp(disch:=try exact zqz)only[n1,e1,e2,e3,e4,e5,ar,aq,zz0,simprocAttr]
  ·rw[hm,n2,zz2 q];rfl
  ·rw[hm,n2,q];rfl
noncomputable def oF (names:List Str):List Str->Tk->List Str->Option Tk
 |[],t,_=>some t|s::r,t,ks=>match ks.findIdx? (λa=>(cut 61 s).1==a) with
  |none=>none|some m=>if (cut 61 s).1.length=s.length then none else match kA t (cut 61 s).1 (cut 61 s).2.1 names with
   |none=>none|some t'=>oF names r t' (ks.drop (m+1))
theorem agK (c:Nat)(s:Str):(cut c s).1.length<=s.length/\(cut c s).2.1.length<=s.length:=by
 unfold cut;split;·exact⟨by rw[ad8];exact Nat.min_le_right _ _,by rw[aeF];exact Nat.sub_le _ _⟩
 ·exact⟨aaO _,aa7 _⟩
theorem ahR {names:List Str}:∀{r:List Str} {l:List Int},wE names r=some l->l.length=r.length
 |[],l,h=>by cases h;rfl
 |s::r,l,h=>by
  unfold wE at h;split at h;·rw[aaq] at h;obtain⟨l',h1,rfl⟩:=h;simp[ahR h1]
  ·cases h
theorem amb {t t':Tk}{key value:Str}{names:List Str}(h:kA t key value names=some t'):t'.after.length<=t.after.length+value.length+1:=by
 unfold kA at h;split at h;·rw[aaq] at h;obtain⟨l,h1,rfl⟩:=h;have:=ahR h1;rw[Iu] at this;have:=TK 44 value;simp only[aal];omega
 ·split at h;·rw[aaq] at h;obtain⟨m,_,rfl⟩:=h;simp only;omega
  ·split at h;·rw[aaq] at h;obtain⟨m,_,rfl⟩:=h;simp only;omega
   ·split at h;·rw[aaq] at h;obtain⟨m,_,rfl⟩:=h;simp only;omega
    ·split at h
     ·split at h;·cases h
      ·cases h;simp only;omega
     ·rw[aaq] at h;obtain⟨m,_,rfl⟩:=h;omega
theorem al2 {α:Type}{p:α->Bool}:∀{l:List α} {m:Nat},l.findIdx? p=some m->m<l.length
 |[],m,h=>by cases h
 |a::l,m,h=>by
  rw[ajW] at h;split at h;·cases h;simp
  ·rw[aaq] at h;obtain⟨k,h1,rfl⟩:=h;have:=al2 h1;simp only[aaP];omega
theorem ahw {names w:List Str}{nx wx:AV}{p q:Nat}(mf:names.length<=100000)(Fc:w.length<=100000)(IN:∀s∈w,s.length<=80000)(FE:p≠q):∀(r:List Str) (i:Nat) (H:Hp) (t:Tk) (x kx:AV) (ks:List Str),i<=w.length->w.drop i=r->Gl H->11<=p->(∀j∈ak x,11<=j)->Rw H 1 nx (strs names)->Rw H 1 wx (strs w)->Rw H 1 kx (strs ks)->ks.length<=10->TO H p t x->(∀j,j∈ak nx\/j∈ak wx\/j∈ak kx->j≠p/\j∉ak x)->t.after.length+dJ r+r.length<=10000->
  ∃H',Out (p::ak x) H H'/\((∃t' x',oF names r t ks=some t'/\(∀aK:K.Fn 2,QI JN GO cK aK nx (.ptr q 0) (.ptr p 0) kx wx (zi (w.length:Nat)) (zi (i:Nat)) H=aK (.ptr q 0) (.ptr p 0) H')/\TO H' p t' x'/\∀j∈ak x',j∈ak x\/H.next<=j)\/
   (oF names r t ks=none/\(cellAt H q 0).isSome=true/\False)\/(oF names r t ks=none/\∃H2,Out (p::ak x) H H2/\∀aK:K.Fn 2,QI JN GO cK aK nx (.ptr q 0) (.ptr p 0) kx wx (zi (w.length:Nat)) (zi (i:Nat)) H=B1 (st 6 (.ptr q 0) (.agg [(.str []),.ah,(zi 0),(zi 0),(zi 0),(.str [])]) H2) λh=>B1 (aB 6 (.ptr q 0) h) λv=>some (.tuple [v,.bool false],h)))
 |[],i,H,t,x,kx,ks,hi,h,hg,UR,Ya,kD,BW,Se,kN,hT,hd,cZ=>by obtain rfl:=drop_nil hi h;refine⟨H,Out.refl _ _,.inl ⟨t,x,rfl,λaK=>?_,hT,λj hj=>.inl hj⟩⟩;rw[J4];simp only[Gk,df,zz0,simprocAttr]
 |s::r,i,H,t,x,kx,ks,hi,h,hg,UR,Ya,kD,BW,Se,kN,hT,hd,cZ=>by
  obtain⟨h1,h2,h3⟩:=dU h;obtain⟨y,q1,q2⟩:=BW.fW (mS h2) .i64;have es:=dC h1 zzz;have mR:=IN s (aac h2);have Ex:=aA5 (c:=61) zzx (s:=s) zzz H;obtain⟨cl1,cl2⟩:=agK 61 s;have pQ:=QB Se zzz (cut 61 s).1;have uR:dJ (s::r)=s.length+dJ r:=by simp[dJ]
  rw[uR] at cZ;simp only[aaP] at cZ;have JE:fl [(.str []),.ah,(zi 0),(zi 0),(zi 0),(.str [])] []=some [(.str []),.ah,(zi 0),(zi 0),(zi 0),(.str [])]:=rfl;unfold oF;cases hf:ks.findIdx? (λa=>(cut 61 s).1==a) with
  |none=>
   rw[hf] at pQ;have d:decide (nR none<0)=true:=rfl;refine⟨H,Out.refl _ _,.inr (.inr ⟨rfl,H,Out.refl _ _,λaK=>?_⟩)⟩;rw[J4];simp(disch:=try exact zqz)only[Gk,aN h1,q1,q2,Ex,pQ,d,JE,ar,aq,zz0,simprocAttr]
  |some m=>
   rw[hf] at pQ;have hm:=al2 hf;have d:decide (nR (some m)<0)=false:=zz4 (by show ¬((m:Int)<0);omega);have tu:nR (some m)=(m:Int):=rfl;rw[tu] at pQ d;simp only;by_cases hl:(cut 61 s).1.length=s.length
   ·have d2:(((cut 61 s).1.length:Int)==(s.length:Int))=true:=by rw[hl];simp
    rw[zz2 hl];refine⟨H,Out.refl _ _,.inr (.inr ⟨rfl,H,Out.refl _ _,λaK=>?_⟩)⟩;rw[J4];simp(disch:=try exact zqz)only[Gk,aN h1,q1,q2,Ex,pQ,d,d2,JE,ar,aq,zz0,simprocAttr]
   ·have d2:(((cut 61 s).1.length:Int)==(s.length:Int))=false:=zz7 zzz;rw[zz1 hl];obtain⟨ok,H1,s1,s2,s3,s4⟩:=aIh (key:=(cut 61 s).1) (value:=(cut 61 s).2.1) hg mf zzz kD hT (λj hj=>hd j (.inl hj)) zzz;cases ok with
    |false=>
     have hs:=s4 rfl;rw[hs];refine⟨H1,s2,.inr (.inr ⟨rfl,H1,s2,λaK=>?_⟩)⟩;rw[J4];simp(disch:=try exact zqz)only[Gk,aN h1,q1,q2,Ex,pQ,d,d2,s1,JE,ar,aq,zz0,simprocAttr]
    |true=>
     obtain⟨t',x',u1,u2,u3⟩:=s3 rfl;rw[u1];have Kq:=amb u1;have e1:IntKind.wrap .i64 ((m:Int)+1)=((m+1:Nat):Int):=by rw[wrap_i64 zzz zzz];rfl
     have fX:∀j,j∈ak nx\/j∈ak wx\/j∈ak kx->j∉p::ak x:=λj hj=>by rw[aaD,not_or];exact hd j hj
     have aFk:=Se.out s2 λj hj=>fX j (.inr (.inr hj));obtain⟨TB,k1,k2,k3⟩:=yD (n:=ks.length) aFk (by rw[gZ,adM]) zzx (a:=m+1) (b:=ks.length) (lo:=some (zi (m+1:Nat))) (hi:=none) zzz (aaO _) (Bd.yes _ _ _) (Bd.no _);have iu:((strs ks).drop ((m+1)*1)).take ((ks.length-(m+1))*1)=strs (ks.drop (m+1)):=by rw[adM,adM,afe (by rw[aeF,gZ];omega)];simp[strs,List.map_drop]
     rw[iu] at k2;have aR:∀j,j∈ak nx\/j∈ak wx\/j∈ak kx->j<H.next:=λj hj=>by
      rcases hj with hj|hj|hj;·exact kD.lt j hj
      ·exact BW.lt j hj
      ·exact Se.lt j hj
     have Ub:=hg.nx;have mE:=s2.nx;obtain⟨H',i1,i2⟩:=ahw (q:=q) mf Fc IN FE r (i+1) H1 t' x' TB (ks.drop (m+1)) h1 h3 (hg.out s2 λj hj=>by
      rcases aaD.1 hj with rfl|hj;·exact UR
      ·exact Ya j hj) UR (λj hj=>(u3 j hj).elim (Ya j) λz=>zzz) (kD.out s2 λj hj=>fX j (.inl hj)) (BW.out s2 λj hj=>fX j (.inr (.inl hj))) k2 (by rw[aeF];omega) u2 (λj hj=>by have lL:j∈ak nx\/j∈ak wx\/j∈ak kx:=hj.imp id λz=>z.imp id (k3 j);exact⟨(hd j lL).1,λz=>(u3 j z).elim (hd j lL).2 λy=>by have:=aR j lL;omega⟩) zzz
     have key:∀j∈p::ak x',j∈p::ak x\/H.next<=j:=λj hj=>by
      rcases aaD.1 hj with rfl|hj;·exact .inl (.head _)
      ·exact (u3 j hj).imp (λz=>.tail _ z) id
     refine⟨H',s2.then i1 key,?_⟩;simp only;rcases i2 with⟨t2,x2,v1,v2,v3,v4⟩|⟨_,_,v⟩|⟨v1,H2,v2,v3⟩;·refine .inl ⟨t2,x2,v1,λaK=>?_,v3,λj hj=>(v4 j hj).elim (u3 j) λz=>.inr zzz⟩;rw[J4];simp(disch:=try exact zqz)only[Gk,aN h1,q1,q2,Ex,pQ,d,d2,s1,e1,k1,es,v2,ar,aq,zz0,simprocAttr]
     ·exact v.elim
     ·refine .inr (.inr ⟨v1,H2,s2.then v2 key,λaK=>?_⟩);rw[J4];simp(disch:=try exact zqz)only[Gk,aN h1,q1,q2,Ex,pQ,d,d2,s1,e1,k1,es,v3,ar,aq,zz0,simprocAttr]
abbrev mC:List Str:=[AZ,CN,AT,zG,vR]
noncomputable def yu (names w:List Str):Option Tk:=oF names w.tail ⟨w.headD [],[],0,10,1,[]⟩ mC
theorem iC {H:Hp}{i n el:Nat}{l vs:List AV}(h:Cs H i l el 0)(hn:n=vs.length)(hl:l.length=vs.length)(hv:vs.all aZ=true):∃H',st n (.ptr i 0) (.agg vs) H=some H'/\Cs H' i vs el 0/\Out [i] H H'/\H'.next=H.next:=by
 obtain⟨hi,c,hc,hg⟩:=h;obtain⟨H',c',q1,q2,q3,q4,q5⟩:=Sd vs H i 0 c 0 l.length el 0 hc zzz (aaO _) zzz (λk hk=>by rw[ade,hg k (l[k]' zzz) (aaC zzz)];rfl) (acT.1 hv);refine⟨H',?_,⟨zzz,c',?_,λk v hk=>?_⟩,⟨zzz,λj hj hn=>q4 j (by simpa using hn)⟩,q2⟩
 ·unfold st;have:Nat.beq n vs.length=true:=by subst hn;exact ait _
  simp only[HM,this,cond_true];exact q1
 ·rw[q3,hl]
 ·have:=(aag.1 hk).1;rw[q5,zz2 zzz,agA];exact hk
theorem arc {names w:List Str}{nx wx:AV}{H:Hp}(hg:Gl H)(mf:names.length<=100000)(hw0:w≠[])(Fc:w.length<=5000)(IN:∀s∈w,s.length<=80000)(uR:dJ w+w.length<=10000)(kD:Rw H 1 nx (strs names))(BW:Rw H 1 wx (strs w)):
  ∃H',Out [] H H'/\((∃t x,yu names w=some t/\cK (zf 89) [wx,nx] H=some (.tuple [.agg (aH t x),.bool true],H')/\Rw H' 1 x (ints t.after)/\∀j∈ak x,H.next<=j)\/(yu names w=none/\∃v,cK (zf 89) [wx,nx] H=some (.tuple [.agg v,.bool false],H')/\v.length=6/\v.all aZ=true)):=by
 obtain⟨w0,w,rfl⟩:∃a b,w=a::b:=by
  cases w with
  |nil=>exact absurd rfl hw0|cons a b=>exact⟨a,b,rfl⟩
 have Ub:=hg.nx;have o1:=aD H [(AV.str []),AV.ah,(AV.int .i64 0),(AV.int .i64 0),(AV.int .i64 0),(AV.str [])] 99 0;have o2:=aD (al H [(AV.str []),AV.ah,(AV.int .i64 0),(AV.int .i64 0),(AV.int .i64 0),(AV.str [])] 99 0) (aH ⟨w0,[],0,10,1,[]⟩ .ah) 99 0;have o3:=aD (al (al H [(AV.str []),AV.ah,(AV.int .i64 0),(AV.int .i64 0),(AV.int .i64 0),(AV.str [])] 99 0) (aH ⟨w0,[],0,10,1,[]⟩ .ah) 99 0) (strs mC) 9 0;have bF:=o1.trans o2;have gh:=bF.trans o3;have c1:=((aP H [(AV.str []),AV.ah,(AV.int .i64 0),(AV.int .i64 0),(AV.int .i64 0),(AV.str [])] 99 0).out o2 zzy).out o3 zzy;have c2:=(aP (al H [(AV.str []),AV.ah,(AV.int .i64 0),(AV.int .i64 0),(AV.int .i64 0),(AV.str [])] 99 0) (aH ⟨w0,[],0,10,1,[]⟩ .ah) 99 0).out o3 zzy;have c3:=aP (al (al H [(AV.str []),AV.ah,(AV.int .i64 0),(AV.int .i64 0),(AV.int .i64 0),(AV.str [])] 99 0) (aH ⟨w0,[],0,10,1,[]⟩ .ah) 99 0) (strs mC) 9 0;generalize hH3:al (al (al H [(AV.str []),AV.ah,(AV.int .i64 0),(AV.int .i64 0),(AV.int .i64 0),(AV.str [])] 99 0) (aH ⟨w0,[],0,10,1,[]⟩ .ah) 99 0) (strs mC) 9 0=H3 at*
 have DP:H3.next=H.next+3:=by rw[<-hH3];rfl
 have nA:Rw H3 1 (.slice (H.next+2) 0 5 5 true 1) (strs mC):=.mk c3.ro rfl (aaO _) rfl;have aq0:=BW.au gh;obtain⟨wx',s1,s2,s3⟩:=yD (n:=w.length+1) aq0 (by rw[gZ];simp) zzx (a:=1) (b:=w.length+1) (lo:=some (zi 1)) (hi:=none) zzz (aaO _) (Bd.yes .i64 1 0) (Bd.no _);have oq:((strs (w0::w)).drop (1*1)).take ((w.length+1-1)*1)=strs w:=by rw[adM,adM,Nat.add_sub_cancel];show (strs w).take w.length=_;rw[afe (by rw[gZ];omega)]
 rw[oq] at s2;have Yh:=s2.gu;rw[gZ] at Yh;have hwr:=BW.lt;have IF:=kD.lt;obtain⟨y,y1,y2⟩:=(BW.au o1).fW (i:=0) (v:=.str w0) rfl .i64;rw[show (((0:Nat):Int))=0 from rfl] at y1;have yx:dJ (w0::w)=w0.length+dJ w:=by simp[dJ]
 rw[yx] at uR;simp only[aaP] at uR Fc;have hT:TO H3 (H.next+1) ⟨w0,[],0,10,1,[]⟩ .ah:=⟨c2,.nil,by simp[ak]⟩;obtain⟨H4,i1,i2⟩:=ahw (q:=H.next) (p:=H.next+1) mf zzz (λs hs=>IN s (.tail _ hs)) zzz w 0 H3 ⟨w0,[],0,10,1,[]⟩ .ah (.slice (H.next+2) 0 5 5 true 1) mC (aa7 _) aaY (hg.au gh) zzz (λj hj=>by cases hj) (kD.au gh) s2 nA zzx hT (λj hj=>by
  refine⟨?_,by simp[ak]⟩;rcases hj with hj|hj|hj;·have:=IF j hj;omega
  ·have:=hwr j (s3 j hj);omega
  ·rw[pK zzv,No] at hj;omega) (by simp;omega)
 have I6:Out [H.next+1] H3 H4:=i1.mono λj hj=>by
  rcases aaD.1 hj with rfl|hj;·exact .head _
  ·cases hj
 have aiO:fl [(.str []),.ah,(zi 0),(zi 0),(zi 0),(.str [])] [(0,1,.str w0),(3,1,zi 10),(4,1,zi 1)]=some (aH ⟨w0,[],0,10,1,[]⟩ .ah):=rfl;have Ip:fl [(.str []),(.str []),(.str []),(.str []),(.str [])] [(0,1,.str [97,102,116,101,114]),(1,1,.str [114,101,116,114,121]),(2,1,.str [119,97,105,116]),(3,1,.str [98,97,115,101]),(4,1,.str [111,110])]=some (strs mC):=rfl;have aC:=Bb ⟨w0,[],0,10,1,[]⟩ .ah rfl (al H [(AV.str []),AV.ah,(AV.int .i64 0),(AV.int .i64 0),(AV.int .i64 0),(AV.str [])] 99 0);have hnk:az (al (al H [(AV.str []),AV.ah,(AV.int .i64 0),(AV.int .i64 0),(AV.int .i64 0),(AV.str [])] 99 0) (aH ⟨w0,[],0,10,1,[]⟩ .ah) 99 0) (strs mC) 9 0=some (H.next+2,H3):=by rw[<-hH3,eh (by show 5<=_;omega)];rfl
 have aln:H.next+1+1=H.next+2:=rfl;have hm:yu names (w0::w)=oF names w ⟨w0,[],0,10,1,[]⟩ mC:=rfl;rw[hm];have fin:∀{A:Hp} {S:List Nat},Out S H3 A->(∀j∈S,H.next<=j)->Out [] H A:=λh hS=>gh.then h λj hj=>.inr (hS j hj);have eP:(al H [(AV.str []),AV.ah,(AV.int .i64 0),(AV.int .i64 0),(AV.int .i64 0),(AV.str [])] 99 0).next=H.next+1:=rfl;rw[eP] at aC;rw[show (((0:Nat):Int))=0 from rfl] at i2;rcases i2 with⟨t,x,v1,v2,v3,v4⟩|⟨_,_,v⟩|⟨v1,H5,v2,v3⟩;·have kB:=v3.o.lr;have n0:av H4 (H.next+1) 0 6=some (aH t x):=v3.c.av 6 0 (by rw[y9];omega);have c4:=c1.out I6 zzy;obtain⟨H5,w1,w2,w3,w4⟩:=iC (n:=6) (vs:=aH t x) c4 rfl rfl (by simp[aH,J5,iS,kB]);have hc5:av H5 H.next 0 6=some (aH t x):=w2.av 6 0 (by rw[y9];omega);have Mb:∀j∈ak x,H3.next<=j:=λj hj=>(v4 j hj).elim (λz=>by cases z) id;refine⟨H5,(fin I6 (λj hj=>by rw[No] at hj;omega)).then w3 λj hj=>by rw[No] at hj;exact .inr zzz,.inl ⟨t,x,v1,adZ ?_,v3.o.rw.out w3 λj hj=>by rw[No];have:=Mb j hj;omega,λj hj=>by have:=Mb j hj;omega⟩⟩;unfold abU;simp(disch:=try exact zqz)only[y1,y2,aiO,aC,Ip,hnk,hH3,aln,s1,Yh,v2,n0,w1,hc5,ar,aq,zz0,simprocAttr]
 ·exact v.elim
 ·have Jc:Out [H.next+1] H3 H5:=v2.mono λj hj=>by
   rcases aaD.1 hj with rfl|hj;·exact .head _
   ·cases hj
  have c5:=c1.out Jc zzy;obtain⟨H6,w1,w2,w3,w4⟩:=iC (n:=6) (vs:=[(AV.str []),AV.ah,(AV.int .i64 0),(AV.int .i64 0),(AV.int .i64 0),(AV.str [])]) c5 rfl rfl rfl;have hc6:av H6 H.next 0 6=some [(AV.str []),AV.ah,(AV.int .i64 0),(AV.int .i64 0),(AV.int .i64 0),(AV.str [])]:=w2.av 6 0 (by show 0+6<=6;omega);refine⟨H6,(fin Jc (λj hj=>by rw[No] at hj;omega)).then w3 λj hj=>by rw[No] at hj;exact .inr zzz,.inr ⟨v1,[(AV.str []),AV.ah,(AV.int .i64 0),(AV.int .i64 0),(AV.int .i64 0),(AV.str [])],adZ ?_,rfl,rfl⟩⟩;unfold abU;simp(disch:=try exact zqz)only[y1,y2,aiO,aC,Ip,hnk,hH3,aln,s1,Yh,v3,w1,hc6,ar,aq,zz0,simprocAttr]
end Go.Proofs.YtodfajmihkagnaaGreatDoor.bD
