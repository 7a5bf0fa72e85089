/- Laws that the proof uses. -/
import Derived.Test.YtbdlbhlhnpblpaaGreatDoorAm10
set_option linter.unusedVariables false
set_option linter.unusedSimpArgs false
namespace Go.Proofs.YtbdlbhlhnpblpaaGreatDoor.Am
section
section
namespace K
def pk (c a b:AV):Option AV:=match c with | .bool q=>some (bif q then a else b) | _=>none
def bx (ty:Nat)(x:AV)(H:Hp):Option (Nat × Hp):=match kx x with | some l=>cP H l ty 0 | none=>none
def fl (z:List AV):List (Nat × Nat × AV)->Option (List AV)
 | []=>some z
 | (off,size,v)::r=>match kx v with
  | some cs=>if cs.length=size/\off+size<=z.length then fl (z.take off++cs++z.drop (off+size)) r else none
  | none=>none
def st (n:Nat)(x v:AV)(H:Hp):Option Hp:=match x with
 | .ptr i o=>match kx v with
  | some cs=>bif Nat.beq n cs.length then setCells H i o cs else none
  | none=>none
 | _=>none
def fa (off:Nat)(x:AV):Option AV:=match x with | .ptr i o=>some (.ptr i (o+off)) | _=>none
def fd (off:Nat)(x:AV):Option AV:=match x with | .agg cs=>cs[off]? | _=>none
def fda (n off:Nat)(x:AV):Option AV:=match x with | .agg cs=>bif Nat.ble (off+n) cs.length then some (.agg ((cs.drop off).take n)) else none | _=>none
def ia (s:Nat)(x ix:AV):Option AV:=match x,ix with
 | .slice i off len _ _ es,.int _ k=>if s=es/\0<=k/\k<len then some (.ptr i (off+k.toNat*es)) else none
 | _,_=>none
def Xp (n s:Nat)(x ix:AV):Option AV:=match x,ix with
 | .ptr i off,.int _ k=>if 0<=k/\k<n then some (.ptr i (off+k.toNat*s)) else none
 | _,_=>none
def ixs (x ix:AV):Option AV:=match x,ix with
 | .str s,.int _ k=>if 0<=k then (s[k.toNat]?).map fun (b:Nat) => .int .u8 b else none
 | _,_=>none
def ex (i:Nat)(x:AV):Option AV:=match x with | .tuple l=>l[i]? | _=>none
def ta (t:Nat)(ok:Bool)(x:AV):Option AV:=match x with | .iface u v=>if u=t then some (bif ok then .tuple [v,.bool true] else v) else none | _=>none
def ii (f:IntKind->Int->Int->Option AV)(x y:AV):Option AV:=match x,y with | .int k a,.int k' b=>if k=k' then f k a b else none | _,_=>none
def i2 (f:IntKind->Int->Int->Option AV)(x y:AV):Option AV:=match x,y with | .int k a,.int _ b=>f k a b | _,_=>none
def df:=ii fun k a b=>some (.int k (k.wrap (a+b)))
def kj:=ii fun k a b=>some (.int k (k.wrap (a-b)))
def uQ:=ii fun k a b=>some (.int k (k.wrap (a*b)))
def PY:=ii fun k a b=>if b=0 then none else some (.int k (k.wrap (a.tdiv b)))
def oW:=ii fun k a b=>if b=0 then none else some (.int k (a.tmod b))
def uj:=ii fun k a b=>some (.int k (k.wrap (ji k a &&& ji k b:Nat)))
def rp:=ii fun k a b=>some (.int k (k.wrap (ji k a ||| ji k b:Nat)))
def Tf:=ii fun k a b=>some (.int k (k.wrap (ji k a ^^^ ji k b:Nat)))
def pC:=ii fun _ a b=>some (.bool (a==b))
def dq:=ii fun _ a b=>some (.bool (a != b))
def dy:=ii fun _ a b=>some (.bool (a<b))
def xV:=ii fun _ a b=>some (.bool (a<=b))
def eR:=ii fun _ a b=>some (.bool (b<a))
def se:=ii fun _ a b=>some (.bool (b<=a))
def sV:=i2 fun k a b=>if b<0 then none else some (.int k (k.wrap (a*2 ^ (min b.toNat k.bits))))
def td:=i2 fun k a b=>if b<0 then none else some (.int k (a.fdiv (2 ^ (min b.toNat k.bits))))
def G9 (op:BinOp)(x y:AV):Option AV:=match op with
 | .add=>df x y | .sub=>kj x y | .mul=>uQ x y | .quo=>PY x y | .rem=>oW x y | .and=>uj x y | .or=>rp x y | .xor=>Tf x y | .shl=>sV x y | .shr=>td x y | .andNot=>none
 | .eql=>pC x y | .neq=>dq x y | .lss=>dy x y | .leq=>xV x y | .gtr=>eR x y | .geq=>se x y
def ss (f:List Nat->List Nat->Option AV)(x y:AV):Option AV:=match x,y with | .str a,.str b=>f a b | _,_=>none
def O8:=ss fun a b=>bif Nat.ble (a.length+b.length) 4294967296 then some (.str (a++b)) else none
def seq:=ss fun a b=>some (.bool (a==b))
def Br:=ss fun a b=>some (.bool (!(a==b)))
def slt:=ss fun a b=>some (.bool (nu a b))
def sle:=ss fun a b=>some (.bool (nu a b||a==b))
def RQ:=ss fun a b=>some (.bool (!(nu a b||a==b)))
def R1:=ss fun a b=>some (.bool (!(nu a b)))
def Hs (op:BinOp)(x y:AV):Option AV:=match op with
 | .add=>O8 x y | .eql=>seq x y | .neq=>Br x y | .lss=>slt x y | .leq=>sle x y | .gtr=>RQ x y | .geq=>R1 x y | _=>none
def pe (x y:AV)(H:Hp):Option Bool:=match x,y with
 | .cD,.cD=>some true
 | .cD,.ptr _ _=>some false
 | .ptr _ _,.cD=>some false
 | .ptr i a,.ptr j b=>bif Nat.beq i j then some (Nat.beq a b) else bif clean H i&&clean H j then some false else none
 | _,_=>none
def mW (op:BinOp)(o:Option Bool):Option AV:=match op with
 | .eql=>o.map .bool
 | .neq=>o.map fun b => .bool !b
 | _=>none
def cv (k:IntKind)(x:AV):Option AV:=match x with | .int _ n=>some (.int k (k.wrap n)) | _=>none
def UI (x:AV):Option AV:=match x with | .str s=>some (.str s) | _=>none
def Z5 (x:AV)(lo hi:Option AV):Option AV:=match x with
 | .str s=>(oK s.length s.length lo hi none).map fun p => .str ((s.drop p.1).take (p.2.1-p.1))
 | _=>none
def dC (s:Nat)(x:AV)(lo hi mx:Option AV):Option AV:=match x with
 | .ae=>(oK 0 0 lo hi mx).map fun _ => .ae
 | .slice i off len cap ex es=>(oK len cap lo hi mx).bind fun p=>if s=es then some (.slice i (off+p.1*es) (p.2.1-p.1) (p.2.2-p.1) (ex||mx.isSome) es) else none
 | _=>none
def Ww (z:List AV)(el s:Nat)(l c:AV)(H:Hp):Option (AV × Hp):=match l,c with
 | .int _ l,.int _ c=>if 0<=l/\l<=c/\c<=1048576 then (cP H (rep c.toNat z) el 0).map fun r=>(.slice r.1 0 l.toNat c.toNat true s,r.2) else none
 | _,_=>none
inductive KT where | str | int
def vJ (kt:KT)(x y:AV):Option Bool:=match kt with
 | .str=>(match x,y with | .str a,.str b=>some (a==b) | _,_=>none)
 | .int=>(match x,y with | .int k a,.int k' b=>if k=k' then some (a==b) else none | _,_=>none)
def nk (kt:KT)(k:AV):List ME->Bool
 | []=>true
 | e::es=>match vJ kt k e.key with
  | some false=>nk kt k es
  | _=>false
def fk (kt:KT)(k:AV):List ME->Nat->Option (Option (Nat × ME))
 | [],_=>some none
 | e::es,i=>match vJ kt k e.key with
  | some true=>bif nk kt k es then some (some (i,e)) else none
  | some false=>fk kt k es (i+1)
  | none=>none
def ny (kt:KT)(z:AV)(ok:Bool)(x k:AV)(H:Hp):Option AV:=match mapOf H x with
 | some (es,_)=>match fk kt k es 0 with
  | some (some (_,m))=>some (bif ok then .tuple [m.val,.bool true] else m.val)
  | some none=>some (bif ok then .tuple [z,.bool false] else z)
  | none=>none
 | none=>none
def xH (kt:KT)(x k v:AV)(H:Hp):Option Hp:=match x with
 | .map i=>match H.h.get i with
  | some (.map es c)=>match fk kt k es 0 with
   | some (some (j,m))=>bif Hz m.key k then some (setObj H i (.map (es.set j { m with key:=k,val:=v }) c)) else none
   | some none=>some (setObj H i (.map (es++[⟨k,v,c⟩]) (c+1)))
   | none=>none
  | _=>none
 | _=>none
def AX (kt:KT)(m k:AV)(H:Hp):Option Hp:=match m with
 | .jt=>some H
 | .map i=>match H.h.get i with
  | some (.map es c)=>match fk kt k es 0 with
   | some (some (j,_))=>some (setObj H i (.map (es.eraseIdx j) c))
   | some none=>some H
   | none=>none
  | _=>none
 | _=>none
def Ep (H:Hp):Option (Nat × Hp):=alloc H (.map [] 0)
def cy (x:AV):Option AV:=match x with | .ae=>some (.int .i64 0) | .slice _ _ n _ _ _=>some (.int .i64 n) | _=>none
def lens (x:AV):Option AV:=match x with | .str s=>some (.int .i64 s.length) | _=>none
def FG (x:AV)(H:Hp):Option AV:=match x with
 | .jt=>some (.int .i64 0)
 | .map i=>match H.h.get i with | some (.map es _)=>some (.int .i64 es.length) | _=>none
 | _=>none
def xi (es:Nat)(z:List AV)(fI:Bool)(x:AV)(H:Hp):Option (Nat × List AV):=match fI,x with
 | true,.int .i64 k=>if 0<=k/\k<16777216 then some (k.toNat,rep k.toNat z) else none
 | false,.ae=>some (0,[])
 | false,.slice i off len _ _ _=>(cU H i off (len*es)).map fun l=>(len,l)
 | false,.str s=>if es=1 then some (s.length,s.map fun (b:Nat)=>AV.int .u8 b) else none
 | _,_=>none
def yU (el es:Nat)(n:Nat)(new:List AV)(s:AV)(H:Hp):Option (AV × Hp):=match s with
 | .ae=>
  bif Nat.beq n 0 then some (.ae,H) else
  bif Nat.ble n 16777216 then (cP H new el 0).map fun r=>(.slice r.1 0 n n false es,r.2) else none
 | .slice i off len cap ex bZ=>
  bif Nat.ble (len+n) 16777216&&Nat.beq es bZ&&new.all dF then
  bif Nat.ble (len+n) cap then (setCells H i (off+len*es) new).map fun H=>(.slice i off (len+n) cap ex es,H)
  else bif ex then (cU H i off (len*es)).bind fun old=>(cP H (old++new) el 0).map fun r=>(.slice r.1 0 (len+n) (len+n) false es,r.2)
  else match H.h.get i with
   | some (.cells c lo hi qC fl)=>
    bif Nat.ble fl 1&&Nat.ble lo off&&Nat.ble (off+len*es) hi&&Nat.beq el qC then
     (alloc { H with h:=H.h.del i } (.cells (c.cR (off+len*es) new) off (off+(len+n)*es) el 1)).map fun r=>(.slice r.1 off (len+n) (len+n) false es,r.2)
    else none
   | _=>none
  else none
 | _=>none
def fQ (el es:Nat)(z:List AV)(fI:Bool)(s x:AV)(H:Hp):Option (AV × Hp):=match xi es z fI x H with
 | some (n,new)=>yU el es n new s H
 | none=>none
def Rz (es:Nat)(d x:AV)(H:Hp):Option (AV × Hp):=match TC x with
 | some xl=>match d with
  | .ae=>some (.int .i64 0,H)
  | .slice i off dl _ _ _=>
   bif Nat.beq (Nat.min xl dl) 0 then some (.int .i64 0,H) else
   match Rn es (Nat.min xl dl) x H with
   | some cs=>(setCells H i off cs).map fun H=>(.int .i64 (Nat.min xl dl),H)
   | none=>none
  | _=>none
 | none=>none
def xB (x:AV)(H:Hp):Option AV:=match x with
 | .ae=>some (.str [])
 | .slice i off len _ _ _=>bif Nat.beq len 0 then some (.str []) else (cU H i off len).bind fun cs=>(uh cs).map .str
 | _=>none
def Us (el:Nat)(x:AV)(H:Hp):Option (AV × Hp):=match x with
 | .str s=>(cP H (s.map fun (b:Nat)=>AV.int .u8 b) el 1).map fun r=>(.slice r.1 0 s.length s.length false 1,r.2)
 | _=>none
end K
namespace K
variable (P:Program)
def qe (kt:TypeId):Option KT:=match P.underlying kt with | some .string=>some .str | some (.int _)=>some .int | _=>none
def Wl (ty:TypeId)(f:Nat):Option Nat:=match P.underlying ty with
 | some (.struct fs)=>match fs[f]? with
  | some fd=>bif yl P fd.type then some fd.offset else none
  | none=>none
 | _=>none
inductive CL where | int | str | bool | ptr | other
def Px (t:TypeId):CL:=match P.underlying t with | some (.int _) => .int | some .string => .str | some .bool => .bool | some (.pointer el)=>(match sz P el with | some (_+1) => .ptr | _ => .other) | _ => .other
def bb (op:BinOp)(x y:AV):Option AV:=match op,x,y with
 | .eql,.bool a,.bool b=>some (.bool (a==b))
 | .neq,.bool a,.bool b=>some (.bool (!(a==b)))
 | _,_,_=>none
def gA (op:BinOp)(t:TypeId)(c:Bool)(x y:AV):Bool:=match op with
 | .eql | .neq=>(match x,y with | .nilIface,.nilIface=>c | .agg _,.agg _ => !(P.eqGuardType P.depth t) | _,_=>true)
 | _=>true
def CM (op:BinOp)(t:TypeId)(X Y:Operand)(x y:AV)(H:Hp)(k:AV->R):R:=match Px P t with
 | .int=>B1 (G9 op x y) k
 | .str=>B1 (Hs op x y) k
 | .bool=>B1 (bb op x y) k
 | .ptr=>B1 (mW op (pe x y H)) k
 | .other=>TW (gA P op t (sQ X||sQ Y) x y) (B1 (iK P op t x y H) k)
def Dy (a b:TypeId)(x:AV)(H:Hp)(k:AV->Hp->R):R:=match P.underlying a,P.underlying b with
 | some (.int _),some (.int q)=>B1 (cv q x) fun v=>k v H
 | some .string,some .string=>B1 (UI x) fun v=>k v H
 | some (.slice e),some .string=>(match P.underlying e with | some (.int .u8)=>B1 (xB x H) fun v=>k v H | _=>none)
 | some .string,some (.slice e)=>(match P.underlying e with | some (.int .u8)=>B2 (Us e x H) k | _=>none)
 | _,_=>B2 (jG P a b x H) k
def BU (t:TypeId)(x:AV)(lo hi mx:Option AV)(H:Hp)(k:AV->R):R:=match P.underlying t with
 | some .string=>(match mx with | none=>B1 (Z5 x lo hi) k | some _=>none)
 | some (.slice el)=>(match sz P el with | some s=>B1 (dC s x lo hi mx) k | none=>none)
 | _=>B1 (uS P t x lo hi mx H) k
def BP (b:Builtin)(ty:Array TypeId)(args:List AV)(H:Hp)(k:AV->Hp->R):R:=match b,args with
 | .len,[x]=>(match (ty[0]?).bind P.underlying with
  | some .string=>B1 (lens x) fun v=>k v H
  | some (.slice _)=>B1 (cy x) fun v=>k v H
  | some (.map _ _)=>B1 (FG x H) fun v=>k v H
  | _=>B2 (fx P .len ty args H) k)
 | .append,[s,x]=>(match (ty[0]?).bind P.underlying,Dv P ty with
  | some (.slice el),some fI=>(match sz P el,zc P el with
   | some es,some z=>bif Nat.ble (P.bytesOf el) 4096&&Nat.beq z.length es then B2 (fQ el es z fI s x H) k else none
   | _,_=>none)
  | _,_=>none)
 | .copy,[d,x]=>(match (ty[0]?).bind P.underlying with
  | some (.slice el)=>(match sz P el with
   | some es=>B2 (Rz es d x H) k
   | none=>none)
  | _=>none)
 | .delete,[m,q]=>(match (ty[0]?).bind P.underlying with
  | some (.map kt _)=>(match qe P kt with
   | some kt=>B1 (AX kt m q H) fun H=>k cF H
   | none=>B2 (fx P .delete ty args H) k)
  | _=>none)
 | b,args=>B2 (fx P b ty args H) k
def dI (cf:CF)(o:Oper)(t:Tm)(H:Hp)(k:AV->Hp->R):R:=
 match o.op with
 | .move x=>k (ev P.globals.size t x) H
 | .assign x=>k (ev P.globals.size t x) H
 | .pick c a b=>B1 (pk (ev P.globals.size t c) (ev P.globals.size t a) (ev P.globals.size t b)) fun v=>k v H
 | .alloc ty=>(match zc P ty with | some l=>BN (cP H l ty 0) fun i H=>k (.ptr i 0) H | none=>none)
 | .box ty x=>BN (bx ty (ev P.globals.size t x) H) fun i H=>k (.ptr i 0) H
 | .build ty ps=>(match zc P ty,P.underlying ty with
  | some z,some (.struct fs)=>(match Q7 P fs with
   | some pl=>(match oG (fun (p:Nat × Operand)=>(pl[p.1]?).map fun q=>(q.1,q.2,ev P.globals.size t p.2)) ps.toList with
    | some l=>B1 (fl z l) fun l=>k (.agg l) H
    | none=>none)
   | none=>none)
  | some z,some (.array _ el)=>(match sz P el with
   | some s=>B1 (fl z (ps.toList.map fun p=>(p.1*s,s,ev P.globals.size t p.2))) fun l=>k (.agg l) H
   | none=>none)
  | _,_=>none)
 | .buildSlice ty n ps=>(match P.underlying ty with
  | some (.slice el)=>(match sz P el with
   | some s=>bif Nat.ble (n*s) 65536 then (match wV P el s n with
    | some z=>B1 (fl z (ps.toList.map fun p=>(p.1*s,s,ev P.globals.size t p.2))) fun l=>BN (cP H l el 0) fun i H=>k (.slice i 0 n n true s) H
    | none=>none) else none
   | none=>none)
  | _=>none)
 | .insert ty m q v=>(match P.underlying ty with
  | some (.map kt _)=>(match qe P kt with
   | some kt=>B1 (xH kt (ev P.globals.size t m) (ev P.globals.size t q) (ev P.globals.size t v) H) fun H=>k cF H
   | none=>B1 (tT P ty (ev P.globals.size t m) (ev P.globals.size t q) (ev P.globals.size t v) H) fun H=>k cF H)
  | _=>none)
 | .mapUpdate ty m q v=>(match P.underlying ty with
  | some (.map kt _)=>(match qe P kt with
   | some kt=>B1 (xH kt (ev P.globals.size t m) (ev P.globals.size t q) (ev P.globals.size t v) H) fun H=>k cF H
   | none=>B1 (tT P ty (ev P.globals.size t m) (ev P.globals.size t q) (ev P.globals.size t v) H) fun H=>k cF H)
  | _=>none)
 | .load ty a=>(match uV P ty,sz P ty with
  | some true,some n=>B1 (cn n (ev P.globals.size t a) H) fun v=>k v H
  | some false,_=>B1 (ld (ev P.globals.size t a) H) fun v=>k v H
  | _,_=>none)
 | .store ty a v=>(match sz P ty with | some n=>B1 (st n (ev P.globals.size t a) (ev P.globals.size t v) H) fun H=>k cF H | none=>none)
 | .nilCheck x=>B1 (cg (ev P.globals.size t x)) fun v=>k v H
 | .binOp op ty x y _=>CM P op ty x y (ev P.globals.size t x) (ev P.globals.size t y) H fun v=>k v H
 | .unOp op _ x=>B1 (mw op (ev P.globals.size t x)) fun v=>k v H
 | .convert a b x=>Dy P a b (ev P.globals.size t x) H k
 | .makeInterface ty x=>(match Jg P ty (ev P.globals.size t x) with | some v=>k v H | none=>none)
 | .makeFunc fn a b=>(match JM fn (a.toList.map (ev P.globals.size t)) (b.toList.map (ev P.globals.size t)) with | some v=>k v H | none=>none)
 | .makeMap _ none=>BN (Ep H) fun i H=>k (.map i) H
 | .makeSlice ty l c=>(match P.underlying ty with
  | some (.slice el)=>(match sz P el,zc P el with
   | some s,some z=>bif Nat.ble (P.bytesOf el) 4096&&Nat.beq z.length s then B2 (Ww z el s (ev P.globals.size t l) (ev P.globals.size t c) H) k else none
   | _,_=>none)
  | _=>none)
 | .slice ty x lo hi mx=>BU P ty (ev P.globals.size t x) (lo.map (ev P.globals.size t)) (hi.map (ev P.globals.size t)) (mx.map (ev P.globals.size t)) H fun v=>k v H
 | .fieldAddr ty x f=>(match Wl P ty f with | some off=>B1 (fa off (ev P.globals.size t x)) fun v=>k v H | none=>none)
 | .field ty x f=>(match P.underlying ty with
  | some (.struct fs)=>(match fs[f]? with
   | some d=>(match uV P d.type,sz P d.type with
    | some true,some n=>B1 (fda n d.offset (ev P.globals.size t x)) fun v=>k v H
    | some false,_=>B1 (fd d.offset (ev P.globals.size t x)) fun v=>k v H
    | _,_=>none)
   | none=>none)
  | _=>none)
 | .indexAddr ty x ix=>(match P.underlying ty with
  | some (.slice el)=>(match sz P el with | some s=>B1 (ia s (ev P.globals.size t x) (ev P.globals.size t ix)) fun v=>k v H | none=>none)
  | some (.array n el)=>(match sz P el with | some s=>B1 (Xp n s (ev P.globals.size t x) (ev P.globals.size t ix)) fun v=>k v H | none=>none)
  | _=>none)
 | .index ty x ix=>(match P.underlying ty with
  | some .string=>B1 (ixs (ev P.globals.size t x) (ev P.globals.size t ix)) fun v=>k v H
  | _=>B1 (Cc P ty (ev P.globals.size t x) (ev P.globals.size t ix)) fun v=>k v H)
 | .lookup ty x q ok=>(match P.underlying ty with
  | some (.map kt el)=>(match qe P kt,((P.info? el).bind (·.zero)).bind iz with
   | some kt,some z=>B1 (ny kt z ok (ev P.globals.size t x) (ev P.globals.size t q) H) fun v=>k v H
   | _,_=>B1 (zz P ty (ev P.globals.size t x) (ev P.globals.size t q) ok H) fun v=>k v H)
  | _=>none)
 | .range ty x=>B2 (Li P ty (ev P.globals.size t x) H) k
 | .next it s=>B2 (Ko (ev P.globals.size t it) s H) k
 | .entry it=>B1 (Ky (ev P.globals.size t it) H) fun v=>k v H
 | .extract tp i=>B1 (ex i (ev P.globals.size t tp)) fun v=>k v H
 | .typeAssert x _ I8 ok=>(match P.underlying I8 with
  | some (.interface _)=>none
  | some _=>B1 (ta I8 ok (ev P.globals.size t x)) fun v=>k v H
  | none=>none)
 | .call { callee := .value f,args,.. }=>B2 (cf (ev P.globals.size t f) (args.toList.map (ev P.globals.size t)) H) k
 | .call { callee := .builtin b,args,argTypes }=>BP P b argTypes (args.toList.map (ev P.globals.size t)) H k
 | _=>none
end K
end
namespace K
variable {P:Program}
theorem aiO {op:BinOp}{x y v:AV}{t:TypeId}{H:Hp}(h:G9 op x y=some v):iK P op t x y H=some v:=by
 cases op<;>simp only[G9,df,kj,uQ,PY,oW,uj,rp,Tf,pC,dq,dy,xV,eR,se,sV,td,ii,i2,reduceCtorEq] at h <;>
  (split at h<;>first | (cases h;done) | exact h)
theorem acA {op:BinOp}{x y v:AV}{t:TypeId}{H:Hp}(h:Hs op x y=some v):iK P op t x y H=some v:=by
 cases op<;>simp only[Hs,O8,seq,Br,slt,sle,RQ,R1,ss,reduceCtorEq] at h <;>
  (split at h<;>first | (cases h;done) | exact h)
theorem aje {op:BinOp}{x y v:AV}(h:G9 op x y=some v):∃ k a k' b,x = .int k a/\y = .int k' b:=by
 cases op<;>simp only[G9,df,kj,uQ,PY,oW,uj,rp,Tf,pC,dq,dy,xV,eR,se,sV,td,ii,i2,reduceCtorEq] at h <;>
  (split at h<;>first | (cases h;done) | exact⟨_,_,_,_,rfl,rfl⟩)
theorem afH {op:BinOp}{x y v:AV}(h:Hs op x y=some v):∃ a b,x = .str a/\y = .str b:=by
 cases op<;>simp only[Hs,O8,seq,Br,slt,sle,RQ,R1,ss,reduceCtorEq] at h <;>
  (split at h<;>first | (cases h;done) | exact⟨_,_,rfl,rfl⟩)
theorem acC {op:BinOp}{t:TypeId}{X Y:Operand}{k k':IntKind}{a b:Int}:qg P op t X Y (.int k a) (.int k' b)=true:=by cases op<;>rfl
theorem aep {op:BinOp}{t:TypeId}{X Y:Operand}{a b:List Nat}:qg P op t X Y (.str a) (.str b)=true:=by cases op<;>rfl
theorem alC {op:BinOp}{t:TypeId}{X Y:Operand}{x y:AV}{H:Hp}{k:AV->R}{r:AV × Hp}(h:CM P op t X Y x y H k=some r) :
  ∃ v,(bif qg P op t X Y x y then (iK P op t x y H).map fun v=>(v,H) else none)=some (v,H)/\k v=some r:=by
 unfold CM at h
 split at h
 ·obtain⟨v,h1,h2⟩:=dQ h
  obtain⟨_,_,_,_,rfl,rfl⟩:=aje h1
  exact⟨v,by rw[acC,aiO h1];rfl,h2⟩
 ·obtain⟨v,h1,h2⟩:=dQ h
  obtain⟨_,_,rfl,rfl⟩:=afH h1
  exact⟨v,by rw[aep,acA h1];rfl,h2⟩
 ·rename_i hc
  obtain⟨v,h1,h2⟩:=dQ h
  have hu:P.underlying t=some .bool:=by
   unfold Px at hc
   split at hc<;>first | (cases hc;done) | assumption | skip
   split at hc<;>cases hc
  unfold bb at h1
  split at h1
  ·cases h1
   refine⟨_,?_,h2⟩
   have hb:∀ a b,iK P .eql t (.bool a) (.bool b) H=some (.bool (a==b)):=by intro a b;simp only[iK];unfold iq;rw[hu];rfl
   rw[hb];rfl
  ·cases h1
   refine⟨_,?_,h2⟩
   have hb:∀ a b,iK P .neq t (.bool a) (.bool b) H=some (.bool (!(a==b))):=by intro a b;simp only[iK];unfold iq;rw[hu];rfl
   rw[hb];rfl
  ·cases h1
 ·rename_i hc
  obtain⟨v,h1,h2⟩:=dQ h
  have hu:∃ el n,P.underlying t=some (.pointer el)/\sz P el=some (n+1):=by
   unfold Px at hc
   split at hc<;>first | (cases hc;done) | skip
   rename_i el hu
   split at hc
   ·rename_i n hs;exact⟨el,n,hu,hs⟩
   ·cases hc
  obtain⟨el,n,hu,hs⟩:=hu
  have he:∀ q,pe x y H=some q->iq P 50 t x y H=some q:=by
   intro q hq
   unfold pe at hq
   unfold iq
   rw[hu]
   cases x<;>cases y<;>first | (cases hq;done) | (cases hq;rfl) | skip
   simp only[hs]
   exact hq
  have hx:(∃ i j,x = .ptr i j)\/x = .cD:=by
   unfold mW at h1
   cases hp:pe x y H with
   | none=>rw[hp] at h1;cases op<;>cases h1
   | some q=>
    unfold pe at hp
    cases x<;>first | (cases y<;>cases hp;done) | exact .inl ⟨_,_,rfl⟩ | exact .inr rfl
  have hg:qg P op t X Y x y=true:=by
   rcases hx with⟨i,j,rfl⟩ | rfl<;>(cases op<;>first | rfl | (cases y<;>rfl))
  refine⟨v,?_,h2⟩
  rw[hg]
  cases hp:pe x y H with
  | none=>rw[hp] at h1;cases op<;>cases h1
  | some q=>
   rw[hp] at h1
   have:=he q hp
   rcases hx with⟨i,j,rfl⟩ | rfl<;>(cases op<;>first | (cases h1;done) | skip) <;>
    (cases h1;cases y<;>first | (unfold pe at hp;cases hp;done) | (simp only[iK,this];rfl))
 ·have hga:gA P op t (sQ X||sQ Y) x y=qg P op t X Y x y:=rfl
  rw[hga] at h
  cases hg:qg P op t X Y x y with
  | false=>rw[hg] at h;cases h
  | true=>
   rw[hg] at h
   obtain⟨v,h1,h2⟩:=dQ h
   exact⟨v,by rw[h1];rfl,h2⟩
theorem K6 (place:Nat->Option (Nat × Nat)):∀ (ps:List (Nat × AV)) (qs:List (Nat × Nat × AV)) (z l:List AV),oG (fun (p:Nat × AV)=>(place p.1).map fun q=>(q.1,q.2,p.2)) ps=some qs->fl z qs=some l->rF place z ps=some l
 | [],qs,z,l,h,hf=>by cases h;exact hf
 | (i,v)::ps,qs,z,l,h,hf=>by
  unfold oG at h
  cases hp:place i with
  | none=>rw[hp] at h;cases h
  | some q=>
   rw[hp] at h
   simp only[ahH] at h
   split at h
   ·rename_i r hr
    cases h
    unfold fl at hf
    unfold rF
    rw[hp]
    simp only
    split at hf
    ·rename_i cs dP
     rw[dP]
     simp only
     split at hf
     ·rename_i hc
      rw[if_pos hc]
      exact K6 place ps r _ l hr hf
     ·cases hf
    ·cases hf
   ·cases h
theorem Ru {kt:TypeId}{K:KT}(hk:qe P kt=some K){x y:AV}{H:Hp}{b:Bool}(h:vJ K x y=some b):iq P 20 kt x y H=some b:=by
 unfold qe at hk
 split at hk
 ·rename_i hu
  cases hk
  unfold vJ at h
  simp only at h
  split at h
  ·unfold iq;rw[hu];exact h
  ·cases h
 ·rename_i q hu
  cases hk
  unfold vJ at h
  simp only at h
  split at h
  ·unfold iq;rw[hu];exact h
  ·cases h
 ·cases hk
theorem Zz {kt:TypeId}{K:KT}(hk:qe P kt=some K){H:Hp}{q:AV}:∀ es:List ME,nk K q es=true->zp P H kt q es=true
 | [],h=>rfl
 | e::es,h=>by
  unfold nk at h
  unfold zp
  split at h
  ·rename_i h1;rw[Ru hk h1];exact Zz hk es h
  ·cases h
theorem zN {kt:TypeId}{K:KT}(hk:qe P kt=some K){H:Hp}{q:AV}:∀ (es:List ME) (i:Nat) (r:Option (Nat × ME)),fk K q es i=some r->vV P H kt q es i=some r
 | [],i,r,h=>h
 | e::es,i,r,h=>by
  unfold fk at h
  unfold vV
  split at h
  ·rename_i h1
   rw[Ru hk h1]
   cases hn:nk K q es with
   | false=>rw[hn] at h;cases h
   | true=>rw[hn] at h;rw[Zz hk es hn];exact h
  ·rename_i h1;rw[Ru hk h1];exact zN hk es (i+1) r h
  ·cases h
theorem Od {kt:TypeId}{K:KT}(hk:qe P kt=some K)(v:AV):nc P 20 kt v=true:=by
 unfold qe at hk
 unfold nc
 split at hk
 ·rename_i hu;rw[hu]
 ·rename_i q hu;rw[hu]
 ·cases hk
theorem aeW {ty kt el:TypeId}{K:KT}{z:AV}{ok:Bool}{x q v:AV}{H:Hp}(hu:P.underlying ty=some (.map kt el))(hk:qe P kt=some K)(hz:((P.info? el).bind (·.zero)).bind iz=some z)(h:ny K z ok x q H=some v):zz P ty x q ok H=some v:=by
 unfold zz
 rw[hu]
 simp only[Od hk,cond_true]
 unfold ny at h
 split at h
 ·rename_i es c hm
  rw[hm]
  simp only
  split at h
  ·rename_i i m hf
   rw[zN hk es 0 _ hf]
   cases h;rfl
  ·rename_i hf
   rw[zN hk es 0 _ hf]
   simp only[hz]
   cases h;cases ok<;>rfl
  ·cases h
 ·cases h
theorem Ze {ty kt el:TypeId}{K:KT}{x q v:AV}{H H':Hp}(hu:P.underlying ty=some (.map kt el))(hk:qe P kt=some K)(h:xH K x q v H=some H'):tT P ty x q v H=some H':=by
 unfold tT
 rw[hu]
 unfold xH at h
 split at h
 ·rename_i i
  simp only[Od hk,cond_true]
  split at h
  ·rename_i es c hg
   rw[hg]
   simp only
   split at h
   ·rename_i j m hf
    rw[zN hk es 0 _ hf]
    exact h
   ·rename_i hf
    rw[zN hk es 0 _ hf]
    exact h
   ·cases h
  ·cases h
 ·cases h
theorem aly {ty:Array TypeId}{t0 kt el:TypeId}{K:KT}{m q:AV}{H H':Hp}(ht:(ty[0]?).bind P.underlying=some (.map kt el))(hk:qe P kt=some K)(h:AX K m q H=some H'):Dz P ty m q H=some H':=by
 unfold Dz
 rw[ht]
 simp only[Od hk,cond_true]
 unfold AX at h
 split at h
 ·exact h
 ·rename_i i
  simp only
  split at h
  ·rename_i es c hg
   rw[hg]
   simp only
   split at h
   ·rename_i j m hf
    rw[zN hk es 0 _ hf]
    exact h
   ·rename_i hf
    rw[zN hk es 0 _ hf]
    exact h
   ·cases h
  ·cases h
 ·cases h
theorem akp {ty:Array TypeId}{el es:Nat}{z:List AV}{fI:Bool}{s x v:AV}{H H':Hp}(ht:(ty[0]?).bind P.underlying=some (.slice el))(hz:Dv P ty=some fI)(hs:sz P el=some es)(Dt:zc P el=some z)
  (hc:(Nat.ble (P.bytesOf el) 4096&&Nat.beq z.length es)=true) (h:fQ el es z fI s x H=some (v,H')):FN P ty s x H=some (v,H'):=by
 unfold FN
 rw[ht,hz]
 simp only[hs,Dt,hc,cond_true]
 unfold fQ at h
 have hlen:z.length=es:=by
  simp only[aaK,Nat.beq_eq] at hc
  exact hc.2
 have hn:∀ r,xi es z fI x H=some r->Gk P fI el es x H=some r:=by
  intro r hr
  unfold xi at hr
  unfold Gk
  split at hr
  ·split at hr
   ·rename_i hk
    simp only[if_pos hk,Dt,if_pos hlen]
    exact hr
   ·cases hr
  ·exact hr
  ·exact hr
  ·exact hr
  ·cases hr
 split at h
 ·rename_i n new jg
  rw[hn _ jg]
  simp only
  unfold yU at h
  split at h
  ·cases hb:Nat.beq n 0 with
   | true=>rw[hb] at h;exact h
   | false=>
    rw[hb] at h
    simp only[cond_false] at h ⊢
    cases ft:Nat.ble n 16777216 with
    | false=>rw[ft] at h;cases h
    | true=>
     rw[ft] at h
     simp only[cond_true] at h ⊢
     cases jk:cP H new el 0 with
     | none=>rw[jk] at h;cases h
     | some r=>rw[jk] at h;exact h
  ·rename_i i off len cap ex bZ
   cases hb:(Nat.ble (len+n) 16777216&&Nat.beq es bZ&&new.all dF) with
   | false=>rw[hb] at h;cases h
   | true=>
    rw[hb] at h
    simp only[cond_true] at h ⊢
    cases ft:Nat.ble (len+n) cap with
    | true=>
     rw[ft] at h
     simp only[cond_true] at h ⊢
     cases Y2:setCells H i (off+len*es) new with
     | none=>rw[Y2] at h;cases h
     | some H2=>rw[Y2] at h;rw[hb];exact h
    | false=>
     rw[ft] at h
     simp only[cond_false] at h ⊢
     cases ex with
     | true=>
      simp only[cond_true] at h ⊢
      cases zw:cU H i off (len*es) with
      | none=>rw[zw] at h;cases h
      | some old=>
       rw[zw] at h
       simp only[ach] at h ⊢
       cases jk:cP H (old++new) el 0 with
       | none=>rw[jk] at h;cases h
       | some r=>rw[jk] at h;rw[hb];exact h
     | false=>
      simp only[cond_false] at h ⊢
      split at h
      ·rename_i c lo hi qC fl hg
       rw[hg]
       simp only
       cases o8:(Nat.ble fl 1&&Nat.ble lo off&&Nat.ble (off+len*es) hi&&Nat.beq el qC) with
       | false=>rw[o8] at h;cases h
       | true=>
        rw[o8] at h
        simp only[cond_true] at h ⊢
        cases dV:alloc { H with h:=H.h.del i } (.cells (c.cR (off+len*es) new) off (off+(len+n)*es) el 1) with
        | none=>rw[dV] at h;cases h
        | some r=>rw[dV] at h;rw[hb];exact h
      ·cases h
  ·cases h
 ·cases h
theorem aeR {ty:Array TypeId}{el es:Nat}{d x v:AV}{H H':Hp}(ht:(ty[0]?).bind P.underlying=some (.slice el))(hs:sz P el=some es)(h:Rz es d x H=some (v,H')):EU P ty d x H=some (v,H'):=by
 unfold EU
 rw[ht]
 unfold Rz at h
 split at h
 ·rename_i xl hl
  simp only[hs,hl]
  split at h
  ·exact h
  ·rename_i i off dl c e f
   simp only
   cases hb:Nat.beq (Nat.min xl dl) 0 with
   | true=>rw[hb] at h;exact h
   | false=>
    rw[hb] at h
    simp only[cond_false] at h ⊢
    split at h
    ·rename_i cs dP;rw[dP];exact h
    ·cases h
  ·cases h
 ·cases h
theorem alw {b:Builtin}{ty:Array TypeId}{args:List AV}{H:Hp}{k:AV->Hp->R}{r:AV × Hp}(h:BP P b ty args H k=some r):∃ v H',fx P b ty args H=some (v,H')/\k v H'=some r:=by
 unfold BP at h
 split at h
 ·rename_i x
  split at h
  ·rename_i hu
   obtain⟨v,h1,h2⟩:=dQ h
   refine⟨v,H,?_,h2⟩
   unfold lens at h1
   split at h1
   ·cases h1;simp only[fx,xm,hu];rfl
   ·cases h1
  ·rename_i el hu
   obtain⟨v,h1,h2⟩:=dQ h
   refine⟨v,H,?_,h2⟩
   unfold cy at h1
   split at h1
   ·cases h1;simp only[fx,xm,hu];rfl
   ·cases h1;simp only[fx,xm,hu];rfl
   ·cases h1
  ·rename_i a b hu
   obtain⟨v,h1,h2⟩:=dQ h
   refine⟨v,H,?_,h2⟩
   unfold FG at h1
   split at h1
   ·cases h1;simp only[fx,xm,hu];rfl
   ·simp only[fx,xm,hu]
    exact (congrArg (Option.map fun v=>(v,H)) h1)
   ·cases h1
  ·exact qG h
 ·rename_i s x
  split at h
  ·rename_i el fI hu hz
   split at h
   ·rename_i es z hs Dt
    cases hc:(Nat.ble (P.bytesOf el) 4096&&Nat.beq z.length es) with
    | false=>rw[hc] at h;cases h
    | true=>
     rw[hc] at h
     obtain⟨v,H',h1,h2⟩:=qG h
     exact⟨v,H',akp hu hz hs Dt hc h1,h2⟩
   ·cases h
  ·cases h
 ·rename_i d x
  split at h
  ·rename_i el hu
   split at h
   ·rename_i es hs
    obtain⟨v,H',h1,h2⟩:=qG h
    exact⟨v,H',aeR hu hs h1,h2⟩
   ·cases h
  ·cases h
 ·rename_i m q
  split at h
  ·rename_i kt el hu
   split at h
   ·rename_i K hk
    obtain⟨H',h1,h2⟩:=dQ h
    refine⟨cF,H',?_,h2⟩
    show (Dz P ty m q H).map (fun H=>(cF,H))=_
    rw[aly (t0:=0) hu hk h1];rfl
   ·exact qG h
  ·cases h
 ·exact qG h
end K
end
namespace K
variable {P:Program}
theorem KX {α β γ:Type}(f:β->Option γ)(g:α->β):∀ l:List α,oG f (l.map g)=oG (fun a=>f (g a)) l
 | []=>rfl
 | a::l=>by
  simp only[abc,oG,KX f g l]
theorem LK {α β:Type}(f:α->β):∀ l:List α,oG (fun a=>some (f a)) l=some (l.map f)
 | []=>rfl
 | a::l=>by
  simp only[abc,oG,LK f l]
theorem afU {a b:TypeId}{x:AV}{H:Hp}{k:AV->Hp->R}{r:AV × Hp}(h:Dy P a b x H k=some r):∃ v H',jG P a b x H=some (v,H')/\k v H'=some r:=by
 unfold Dy at h
 split at h
 ·rename_i q q' ha hb
  obtain⟨v,h1,h2⟩:=dQ h
  refine⟨v,H,?_,h2⟩
  unfold cv at h1
  split at h1
  ·cases h1;unfold jG;rw[ha,hb]
  ·cases h1
 ·rename_i ha hb
  obtain⟨v,h1,h2⟩:=dQ h
  refine⟨v,H,?_,h2⟩
  unfold UI at h1
  split at h1
  ·cases h1;unfold jG;rw[ha,hb]
  ·cases h1
 ·rename_i e ha hb
  split at h
  ·rename_i he
   obtain⟨v,h1,h2⟩:=dQ h
   refine⟨v,H,?_,h2⟩
   unfold xB at h1
   split at h1
   ·cases h1;unfold jG;rw[ha,hb];simp only[he]
   ·rename_i i off len c x s
    unfold jG;rw[ha,hb];simp only[he]
    cases hl:Nat.beq len 0 with
    | true=>rw[hl] at h1;cases h1;rfl
    | false=>
     rw[hl] at h1
     simp only[cond_false] at h1 ⊢
     cases hc:cU H i off len with
     | none=>rw[hc] at h1;cases h1
     | some cs=>
      rw[hc] at h1
      simp only[ach] at h1 ⊢
      cases ft:uh cs with
      | none=>rw[ft] at h1;cases h1
      | some s=>rw[ft] at h1;cases h1;rfl
   ·cases h1
  ·cases h
 ·rename_i e ha hb
  split at h
  ·rename_i he
   obtain⟨v,H',h1,h2⟩:=qG h
   refine⟨v,H',?_,h2⟩
   unfold Us at h1
   split at h1
   ·rename_i s
    unfold jG;rw[ha,hb];simp only[he]
    cases hn:cP H (s.map fun (b:Nat)=>AV.int .u8 b) e 1 with
    | none=>rw[hn] at h1;cases h1
    | some r=>rw[hn] at h1;exact h1
   ·cases h1
  ·cases h
 ·exact qG h
theorem ahW {t:TypeId}{x:AV}{lo hi mx:Option AV}{H:Hp}{k:AV->R}{r:AV × Hp}(h:BU P t x lo hi mx H k=some r):∃ v,uS P t x lo hi mx H=some v/\k v=some r:=by
 unfold BU at h
 split at h
 ·rename_i hu
  split at h
  ·obtain⟨v,h1,h2⟩:=dQ h
   refine⟨v,?_,h2⟩
   unfold Z5 at h1
   split at h1
   ·rename_i s
    unfold uS
    simp only[hu,ace,ach,ahp,abP,if_false]
    cases hb:oK s.length s.length lo hi none with
    | none=>rw[hb] at h1;cases h1
    | some p=>rw[hb] at h1;exact h1
   ·cases h1
  ·cases h
 ·rename_i el hu
  split at h
  ·rename_i s hs
   obtain⟨v,h1,h2⟩:=dQ h
   refine⟨v,?_,h2⟩
   unfold dC at h1
   split at h1
   ·unfold uS
    simp only[hu,ace,ach,hs,Option.isSome_some,if_true]
    cases hb:oK 0 0 lo hi mx with
    | none=>rw[hb] at h1;cases h1
    | some p=>rw[hb] at h1;exact h1
   ·rename_i i off len cap ex es
    unfold uS
    simp only[hu,ace,ach,hs]
    cases hb:oK len cap lo hi mx with
    | none=>rw[hb] at h1;cases h1
    | some p=>
     rw[hb] at h1
     simp only[ach] at h1 ⊢
     split at h1
     ·rename_i he;subst he;simpa using h1
     ·cases h1
   ·cases h1
  ·cases h
 ·exact dQ h
theorem HZ {cf:CF}{o:Oper}{t:Tm}{H:Hp}{k:AV->Hp->R}{r:AV × Hp}(h:dI P cf o t H k=some r):∃ v H',qL P cf t o H=some (v,H')/\k v H'=some r:=by
 obtain⟨dst,op,ty0,pos,after,guard⟩:=o
 cases op
 case move x=>exact⟨_,_,rfl,h⟩
 case assign x=>exact⟨_,_,rfl,h⟩
 case pick c a b=>
  obtain⟨v,h1,h2⟩:=dQ h
  refine⟨v,H,?_,h2⟩
  unfold pk at h1
  show (match ev P.globals.size t c with | .bool q=>some (bif q then ev P.globals.size t a else ev P.globals.size t b,H) | _=>none)=_
  split at h1
  ·rename_i q hq;first | (rw[hq];cases h1;rfl) | (cases h1;rfl)
  ·cases h1
 case alloc ty=>
  have h0:(match zc P ty with | some l=>BN (cP H l ty 0) fun i H=>k (.ptr i 0) H | none=>none)=some r:=h
  show ∃ v H',(match zc P ty with | some l=>(cP H l ty 0).map fun r=>(AV.ptr r.1 0,r.2) | none=>none)=some (v,H')/\_
  split at h0
  ·rename_i l hl
   obtain⟨i,H2,h1,h2⟩:=KC h0
   exact⟨_,_,by rw[h1];rfl,h2⟩
  ·cases h0
 case box ty x=>
  have h0:BN (bx ty (ev P.globals.size t x) H) (fun i H=>k (.ptr i 0) H)=some r:=h
  obtain⟨i,H2,h1,h2⟩:=KC h0
  refine⟨.ptr i 0,H2,?_,h2⟩
  show (match kx (ev P.globals.size t x) with | some l=>(cP H l ty 0).map fun r:Nat × Hp=>(AV.ptr r.1 0,r.2) | none=>none)=some (AV.ptr i 0,H2)
  unfold bx at h1
  split at h1
  ·rename_i l hl;first | (rw[hl];simp only[h1];rfl) | (simp only[h1];rfl)
  ·cases h1
 case build ty ps=>
  show ∃ v H',(DI P ty (ps.toList.map fun (i,x)=>(i,ev P.globals.size t x))).map (fun v=>(v,H))=some (v,H')/\_
  unfold dI at h
  simp only at h
  unfold DI
  split at h
  ·rename_i z fs hz hu
   rw[hz,hu]
   simp only
   split at h
   ·rename_i pl hZ
    rw[hZ]
    simp only
    split at h
    ·rename_i l hl
     obtain⟨l2,h1,h2⟩:=dQ h
     refine⟨.agg l2,H,?_,h2⟩
     rw[K6 (pl[·]?) (ps.toList.map fun (i,x)=>(i,ev P.globals.size t x)) l z l2 (by rw[KX];exact hl) h1]
     rfl
    ·cases h
   ·cases h
  ·rename_i z n el hz hu
   rw[hz,hu]
   simp only
   split at h
   ·rename_i s hs
    rw[hs]
    simp only
    obtain⟨l2,h1,h2⟩:=dQ h
    refine⟨.agg l2,H,?_,h2⟩
    have hq:oG (fun (p:Nat × AV)=>((fun i=>some (i*s,s)) p.1).map fun q=>(q.1,q.2,p.2)) (ps.toList.map fun (i,x)=>(i,ev P.globals.size t x))=some (ps.toList.map fun p=>(p.1*s,s,ev P.globals.size t p.2)):=by
     rw[KX]
     exact LK (fun p:Nat × Operand=>(p.1*s,s,ev P.globals.size t p.2)) _
    rw[K6 (fun i=>some (i*s,s)) _ _ z l2 hq h1]
    rfl
   ·cases h
  ·cases h
 case buildSlice ty n ps=>
  show ∃ v H',yk P ty n (ps.toList.map fun (i,x)=>(i,ev P.globals.size t x)) H=some (v,H')/\_
  unfold dI at h
  simp only at h
  unfold yk
  split at h
  ·rename_i el hu
   rw[hu]
   simp only
   split at h
   ·rename_i s hs
    rw[hs]
    simp only
    cases hb:Nat.ble (n*s) 65536 with
    | false=>rw[hb] at h;cases h
    | true=>
     rw[hb] at h
     simp only[cond_true] at h ⊢
     split at h
     ·rename_i z hz
      rw[hz]
      simp only
      obtain⟨l2,h1,h2⟩:=dQ h
      obtain⟨i,H2,h3,h4⟩:=KC h2
      have hq:oG (fun (p:Nat × AV)=>((fun i=>some (i*s,s)) p.1).map fun q=>(q.1,q.2,p.2)) (ps.toList.map fun (i,x)=>(i,ev P.globals.size t x))=some (ps.toList.map fun p=>(p.1*s,s,ev P.globals.size t p.2)):=by
       rw[KX]
       exact LK (fun p:Nat × Operand=>(p.1*s,s,ev P.globals.size t p.2)) _
      refine⟨_,_,?_,h4⟩
      rw[K6 (fun i=>some (i*s,s)) _ _ z l2 hq h1]
      simp only[h3]
      rfl
     ·cases h
   ·cases h
  ·cases h
 case insert ty m q v=>
  unfold dI at h
  simp only at h
  show ∃ v' H',(tT P ty (ev P.globals.size t m) (ev P.globals.size t q) (ev P.globals.size t v) H).map (fun H=>(cF,H))=some (v',H')/\_
  split at h
  ·rename_i kt el hu
   split at h
   ·rename_i K hk
    obtain⟨H',h1,h2⟩:=dQ h
    exact⟨_,H',by rw[Ze hu hk h1];rfl,h2⟩
   ·obtain⟨H',h1,h2⟩:=dQ h
    exact⟨_,H',by rw[h1];rfl,h2⟩
  ·cases h
 case mapUpdate ty m q v=>
  unfold dI at h
  simp only at h
  show ∃ v' H',(tT P ty (ev P.globals.size t m) (ev P.globals.size t q) (ev P.globals.size t v) H).map (fun H=>(cF,H))=some (v',H')/\_
  split at h
  ·rename_i kt el hu
   split at h
   ·rename_i K hk
    obtain⟨H',h1,h2⟩:=dQ h
    exact⟨_,H',by rw[Ze hu hk h1];rfl,h2⟩
   ·obtain⟨H',h1,h2⟩:=dQ h
    exact⟨_,H',by rw[h1];rfl,h2⟩
  ·cases h
 case load ty a=>
  unfold dI at h
  simp only at h
  show ∃ v H',(p9 P H ty (ev P.globals.size t a)).map (fun v=>(v,H))=some (v,H')/\_
  split at h
  ·rename_i n ha hs
   obtain⟨v,h1,h2⟩:=dQ h
   refine⟨v,H,?_,h2⟩
   unfold cn at h1
   split at h1
   ·rename_i i off hx
    rw[hx]
    unfold p9
    simp only[ha,hs,ace,ach,if_true]
    cases hc:cU H i off n with
    | none=>rw[hc] at h1;cases h1
    | some l=>rw[hc] at h1;cases h1;rfl
   ·cases h1
  ·rename_i q ha hs
   obtain⟨v,h1,h2⟩:=dQ h
   refine⟨v,H,?_,h2⟩
   unfold ld at h1
   split at h1
   ·rename_i i off hx
    rw[hx]
    unfold p9
    simp only[hs,ace,ach,abP,if_false,h1]
    rfl
   ·cases h1
  ·cases h
 case store ty a v=>
  unfold dI at h
  simp only at h
  show ∃ v' H',(Ew P H ty (ev P.globals.size t a) (ev P.globals.size t v)).map (fun H=>(cF,H))=some (v',H')/\_
  split at h
  ·rename_i n hs
   obtain⟨H',h1,h2⟩:=dQ h
   refine⟨_,H',?_,h2⟩
   unfold st at h1
   split at h1
   ·rename_i i off hx
    rw[hx]
    unfold Ew
    split at h1
    ·rename_i cs dP
     simp only[dP,hs,ace,ach]
     cases hb:Nat.beq n cs.length with
     | false=>rw[hb] at h1;cases h1
     | true=>
      rw[hb] at h1
      have:=aaV hb
      subst this
      simp only[cond_true] at h1
      simp[h1]
    ·cases h1
   ·cases h1
  ·cases h
 case nilCheck x=>
  obtain⟨v,h1,h2⟩:=dQ h
  exact⟨v,H,by show (cg _).map _=_;rw[h1];rfl,h2⟩
 case binOp op ty x y ty2=>
  obtain⟨v,h1,h2⟩:=alC h
  exact⟨v,H,h1,h2⟩
 case unOp op ty x=>
  obtain⟨v,h1,h2⟩:=dQ h
  exact⟨v,H,by show (mw op _).map _=_;rw[h1];rfl,h2⟩
 case convert a b x=>exact afU h
 case makeInterface ty x=>
  unfold dI at h
  simp only at h
  split at h
  ·rename_i v hv
   exact⟨v,H,by show (Jg P ty _).map _=_;rw[hv];rfl,h⟩
  ·cases h
 case makeFunc fn a b=>
  unfold dI at h
  simp only at h
  split at h
  ·rename_i v hv
   exact⟨v,H,by show (JM fn _ _).map _=_;rw[hv];rfl,h⟩
  ·cases h
 case makeMap ty x=>
  cases x with
  | some y=>cases h
  | none=>
   have h0:BN (Ep H) (fun i H=>k (.map i) H)=some r:=h
   obtain⟨i,H2,h1,h2⟩:=KC h0
   refine⟨_,_,?_,h2⟩
   show (alloc H (.map [] 0)).map (fun r:Nat × Hp=>(AV.map r.1,r.2))=_
   unfold Ep at h1
   rw[h1];rfl
 case makeSlice ty l c=>
  unfold dI at h
  simp only at h
  show ∃ v H',tE P ty (ev P.globals.size t l) (ev P.globals.size t c) H=some (v,H')/\_
  split at h
  ·rename_i el hu
   split at h
   ·rename_i s z hs hz
    cases hb:(Nat.ble (P.bytesOf el) 4096&&Nat.beq z.length s) with
    | false=>rw[hb] at h;cases h
    | true=>
     rw[hb] at h
     simp only[cond_true] at h
     simp only[aaK,acN,Nat.beq_eq] at hb
     obtain⟨v,H',h1,h2⟩:=qG h
     refine⟨v,H',?_,h2⟩
     unfold Ww at h1
     split at h1
     ·rename_i k1 n k2 m hl hc
      rw[hl,hc]
      unfold tE
      rw[hu]
      simp only[hs]
      split at h1
      ·rename_i sh
       rw[if_pos ⟨sh.1,sh.2.1,sh.2.2,hb.1⟩]
       have hr:wV P el s m.toNat=some (rep m.toNat z):=by
        unfold wV
        cases h0:Nat.beq (m.toNat*s) 0 with
        | true=>
         have Pt:=aaV h0
         have:rep m.toNat z=[]:=by
          unfold rep
          rcases ahI.1 Pt with q | q
          ·rw[q];rfl
          ·have:z=[]:=ae7 (by rw[hb.2,q])
           rw[this];simp
         rw[this];rfl
        | false=>
         simp only[cond_false,hz]
         rw[hb.2,Nat.beq_refl];rfl
       rw[hr]
       simp only
       cases hn:cP H (rep m.toNat z) el 0 with
       | none=>rw[hn] at h1;cases h1
       | some q=>rw[hn] at h1;exact h1
      ·cases h1
     ·cases h1
   ·cases h
  ·cases h
 case slice ty x lo hi mx=>
  obtain⟨v,h1,h2⟩:=ahW h
  exact⟨v,H,by show (uS P ty _ _ _ _ H).map _=_;rw[h1];rfl,h2⟩
 case fieldAddr ty x f=>
  unfold dI at h
  simp only at h
  show ∃ v H',(Im P ty (ev P.globals.size t x) f).map (fun v=>(v,H))=some (v,H')/\_
  split at h
  ·rename_i off ho
   obtain⟨v,h1,h2⟩:=dQ h
   refine⟨v,H,?_,h2⟩
   unfold fa at h1
   split at h1
   ·rename_i i o hx
    rw[hx]
    cases h1
    unfold Wl at ho
    unfold Im
    split at ho
    ·rename_i fs hu
     rw[hu]
     simp only
     split at ho
     ·rename_i fd GI
      rw[GI]
      simp only
      cases hp:yl P fd.type with
      | false=>rw[hp] at ho;cases ho
      | true=>rw[hp] at ho;cases ho;rfl
     ·cases ho
    ·cases ho
   ·cases h1
  ·cases h
 case field ty x f=>
  unfold dI at h
  simp only at h
  show ∃ v H',(Ex P ty (ev P.globals.size t x) f).map (fun v=>(v,H))=some (v,H')/\_
  split at h
  ·rename_i fs hu
   split at h
   ·rename_i d hd
    split at h
    ·rename_i n ha hs
     obtain⟨v,h1,h2⟩:=dQ h
     refine⟨v,H,?_,h2⟩
     unfold fda at h1
     split at h1
     ·rename_i cs hx
      rw[hx]
      unfold Ex
      rw[hu]
      simp only[hd]
      unfold kT
      simp only[ha,hs,ace,ach,if_true]
      cases hb:Nat.ble (d.offset+n) cs.length with
      | false=>rw[hb] at h1;cases h1
      | true=>rw[hb] at h1;cases h1;rfl
     ·cases h1
    ·rename_i q ha hs
     obtain⟨v,h1,h2⟩:=dQ h
     refine⟨v,H,?_,h2⟩
     unfold fd at h1
     split at h1
     ·rename_i cs hx
      rw[hx]
      unfold Ex
      rw[hu]
      simp only[hd]
      unfold kT
      simp only[hs,ace,ach,abP,if_false,h1]
      rfl
     ·cases h1
    ·cases h
   ·cases h
  ·cases h
 case indexAddr ty x ix=>
  unfold dI at h
  simp only at h
  show ∃ v H',(Cg P ty (ev P.globals.size t x) (ev P.globals.size t ix)).map (fun v=>(v,H))=some (v,H')/\_
  split at h
  ·rename_i el hu
   split at h
   ·rename_i s hs
    obtain⟨v,h1,h2⟩:=dQ h
    refine⟨v,H,?_,h2⟩
    unfold ia at h1
    split at h1
    ·rename_i i off len c e es q kk hx oD
     rw[hx,oD]
     unfold Cg
     simp only[hu,ace,ach,hs]
     split at h1
     ·rename_i hc
      obtain⟨rfl,c1,c2⟩:=hc
      cases h1
      simp[c1,c2]
     ·cases h1
    ·cases h1
   ·cases h
  ·rename_i n el hu
   split at h
   ·rename_i s hs
    obtain⟨v,h1,h2⟩:=dQ h
    refine⟨v,H,?_,h2⟩
    unfold Xp at h1
    split at h1
    ·rename_i i off q kk hx oD
     rw[hx,oD]
     unfold Cg
     simp only[hu,ace,ach,hs]
     split at h1
     ·rename_i hc
      obtain⟨c1,c2⟩:=hc
      cases h1
      simp[c1,c2]
     ·cases h1
    ·cases h1
   ·cases h
  ·cases h
 case index ty x ix=>
  unfold dI at h
  simp only at h
  show ∃ v H',(Cc P ty (ev P.globals.size t x) (ev P.globals.size t ix)).map (fun v=>(v,H))=some (v,H')/\_
  split at h
  ·rename_i hu
   obtain⟨v,h1,h2⟩:=dQ h
   refine⟨v,H,?_,h2⟩
   unfold ixs at h1
   split at h1
   ·rename_i s q kk hx oD
    rw[hx,oD]
    unfold Cc
    simp only[hu,ace,ach,h1]
    rfl
   ·cases h1
  ·obtain⟨v,h1,h2⟩:=dQ h
   exact⟨v,H,by rw[h1];rfl,h2⟩
 case lookup ty x q ok=>
  unfold dI at h
  simp only at h
  show ∃ v H',(zz P ty (ev P.globals.size t x) (ev P.globals.size t q) ok H).map (fun v=>(v,H))=some (v,H')/\_
  split at h
  ·rename_i kt el hu
   split at h
   ·rename_i K z hk hz
    obtain⟨v,h1,h2⟩:=dQ h
    exact⟨v,H,by rw[aeW hu hk hz h1];rfl,h2⟩
   ·obtain⟨v,h1,h2⟩:=dQ h
    exact⟨v,H,by rw[h1];rfl,h2⟩
  ·cases h
 case range ty x=>exact qG h
 case next it s=>exact qG h
 case entry it=>cases h
 case extract tp i=>
  obtain⟨v,h1,h2⟩:=dQ h
  refine⟨v,H,?_,h2⟩
  show (match ev P.globals.size t tp with | .tuple l=>(l[i]?).map fun v=>(v,H) | _=>none)=_
  unfold ex at h1
  split at h1
  ·rename_i l hl;first | (rw[hl];simp only[h1];rfl) | (simp only[h1];rfl)
  ·cases h1
 case typeAssert x a I8 ok=>
  unfold dI at h
  simp only at h
  show ∃ v H',(E3 P I8 (ev P.globals.size t x) ok).map (fun v=>(v,H))=some (v,H')/\_
  split at h
  ·cases h
  ·rename_i d cx hu
   obtain⟨v,h1,h2⟩:=dQ h
   refine⟨v,H,?_,h2⟩
   unfold ta at h1
   split at h1
   ·rename_i u w hx
    rw[hx]
    unfold E3
    split at h1
    ·rename_i he
     cases h1
     cases d<;>first | (exact absurd rfl (cx _)) | (rw[hu];simp only[he,if_true];rfl)
    ·cases h1
   ·cases h1
  ·cases h
 case call c=>
  obtain⟨callee,args,oY⟩:=c
  cases callee with
  | value f=>exact qG h
  | invoke r m=>cases h
  | builtin b=>exact alw h
 all_goals cases h
end K
end Go.Proofs.YtbdlbhlhnpblpaaGreatDoor.Am
