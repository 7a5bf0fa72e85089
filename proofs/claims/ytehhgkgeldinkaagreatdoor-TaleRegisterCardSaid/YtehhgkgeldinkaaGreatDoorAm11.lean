/- Laws that the proof uses. -/
import Derived.Test.YtehhgkgeldinkaaGreatDoorAm10
set_option linter.unusedVariables false
set_option linter.unusedSimpArgs false
namespace Go.Proofs.YtehhgkgeldinkaaGreatDoor.Am
section
section
namespace K
def pk (c a b:AV):Option AV:=match c with | .bool q=>some (bif q then a else b) | _=>none
def bx (ty:Nat)(x:AV)(H:Hp):Option (Nat × Hp):=match jX x with | some l=>cI H l ty 0 | none=>none
def fl (z:List AV):List (Nat × Nat × AV)->Option (List AV)
 | []=>some z
 | (off,size,v)::r=>match jX v with
  | some cs=>if cs.length=size/\off+size<=z.length then fl (z.take off++cs++z.drop (off+size)) r else none
  | none=>none
def st (n:Nat)(x v:AV)(H:Hp):Option Hp:=match x with
 | .ptr i o=>match jX v with
  | some cs=>bif Nat.beq n cs.length then setCells H i o cs else none
  | none=>none
 | _=>none
def fa (off:Nat)(x:AV):Option AV:=match x with | .ptr i o=>some (.ptr i (o+off)) | _=>none
def fd (off:Nat)(x:AV):Option AV:=match x with | .agg cs=>cs[off]? | _=>none
def fda (n off:Nat)(x:AV):Option AV:=match x with | .agg cs=>bif Nat.ble (off+n) cs.length then some (.agg ((cs.drop off).take n)) else none | _=>none
def ia (s:Nat)(x ix:AV):Option AV:=match x,ix with
 | .slice i off len _ _ es,.int _ k=>if s=es/\0<=k/\k<len then some (.ptr i (off+k.toNat*es)) else none
 | _,_=>none
def pK (n s:Nat)(x ix:AV):Option AV:=match x,ix with
 | .ptr i off,.int _ k=>if 0<=k/\k<n then some (.ptr i (off+k.toNat*s)) else none
 | _,_=>none
def td (x ix:AV):Option AV:=match x,ix with
 | .str s,.int _ k=>if 0<=k then (s[k.toNat]?).map fun (b:Nat) => .int .u8 b else none
 | _,_=>none
def ex (i:Nat)(x:AV):Option AV:=match x with | .tuple l=>l[i]? | _=>none
def ta (t:Nat)(ok:Bool)(x:AV):Option AV:=match x with | .iface u v=>if u=t then some (bif ok then .tuple [v,.bool true] else v) else none | _=>none
def ii (f:IntKind->Int->Int->Option AV)(x y:AV):Option AV:=match x,y with | .int k a,.int k' b=>if k=k' then f k a b else none | _,_=>none
def i2 (f:IntKind->Int->Int->Option AV)(x y:AV):Option AV:=match x,y with | .int k a,.int _ b=>f k a b | _,_=>none
def dj:=ii fun k a b=>some (.int k (k.wrap (a+b)))
def jI:=ii fun k a b=>some (.int k (k.wrap (a-b)))
def qV:=ii fun k a b=>some (.int k (k.wrap (a*b)))
def BG:=ii fun k a b=>if b=0 then none else some (.int k (k.wrap (a.tdiv b)))
def rE:=ii fun k a b=>if b=0 then none else some (.int k (a.tmod b))
def tR:=ii fun k a b=>some (.int k (k.wrap (lr k a &&& lr k b:Nat)))
def qF:=ii fun k a b=>some (.int k (k.wrap (lr k a ||| lr k b:Nat)))
def Tn:=ii fun k a b=>some (.int k (k.wrap (lr k a ^^^ lr k b:Nat)))
def cN:=ii fun _ a b=>some (.bool (a==b))
def eX:=ii fun _ a b=>some (.bool (a != b))
def dV:=ii fun _ a b=>some (.bool (a<b))
def sL:=ii fun _ a b=>some (.bool (a<=b))
def iy:=ii fun _ a b=>some (.bool (b<a))
def qi:=ii fun _ a b=>some (.bool (b<=a))
def sN:=i2 fun k a b=>if b<0 then none else some (.int k (k.wrap (a*2 ^ (min b.toNat k.bits))))
def ue:=i2 fun k a b=>if b<0 then none else some (.int k (a.fdiv (2 ^ (min b.toNat k.bits))))
def HZ (op:BinOp)(x y:AV):Option AV:=match op with
 | .add=>dj x y | .sub=>jI x y | .mul=>qV x y | .quo=>BG x y | .rem=>rE x y | .and=>tR x y | .or=>qF x y | .xor=>Tn x y | .shl=>sN x y | .shr=>ue x y | .andNot=>none
 | .eql=>cN x y | .neq=>eX x y | .lss=>dV x y | .leq=>sL x y | .gtr=>iy x y | .geq=>qi x y
def ss (f:List Nat->List Nat->Option AV)(x y:AV):Option AV:=match x,y with | .str a,.str b=>f a b | _,_=>none
def jQ:=ss fun a b=>bif Nat.ble (a.length+b.length) 4294967296 then some (.str (a++b)) else none
def seq:=ss fun a b=>some (.bool (a==b))
def yG:=ss fun a b=>some (.bool (!(a==b)))
def slt:=ss fun a b=>some (.bool (qg a b))
def sle:=ss fun a b=>some (.bool (qg a b||a==b))
def Sf:=ss fun a b=>some (.bool (!(qg a b||a==b)))
def Su:=ss fun a b=>some (.bool (!(qg a b)))
def Ig (op:BinOp)(x y:AV):Option AV:=match op with
 | .add=>jQ x y | .eql=>seq x y | .neq=>yG x y | .lss=>slt x y | .leq=>sle x y | .gtr=>Sf x y | .geq=>Su x y | _=>none
def pe (x y:AV)(H:Hp):Option Bool:=match x,y with
 | .aC,.aC=>some true
 | .aC,.ptr _ _=>some false
 | .ptr _ _,.aC=>some false
 | .ptr i a,.ptr j b=>bif Nat.beq i j then some (Nat.beq a b) else bif clean H i&&clean H j then some false else none
 | _,_=>none
def po (op:BinOp)(o:Option Bool):Option AV:=match op with
 | .eql=>o.map .bool
 | .neq=>o.map fun b => .bool !b
 | _=>none
def cv (k:IntKind)(x:AV):Option AV:=match x with | .int _ n=>some (.int k (k.wrap n)) | _=>none
def UW (x:AV):Option AV:=match x with | .str s=>some (.str s) | _=>none
def sU (x:AV)(lo hi:Option AV):Option AV:=match x with
 | .str s=>(ru s.length s.length lo hi none).map fun p => .str ((s.drop p.1).take (p.2.1-p.1))
 | _=>none
def fT (s:Nat)(x:AV)(lo hi mx:Option AV):Option AV:=match x with
 | .ae=>(ru 0 0 lo hi mx).map fun _ => .ae
 | .slice i off len cap ex es=>(ru len cap lo hi mx).bind fun p=>if s=es then some (.slice i (off+p.1*es) (p.2.1-p.1) (p.2.2-p.1) (ex||mx.isSome) es) else none
 | _=>none
def FZ (z:List AV)(el s:Nat)(l c:AV)(H:Hp):Option (AV × Hp):=match l,c with
 | .int _ l,.int _ c=>if 0<=l/\l<=c/\c<=1048576 then (cI H (rep c.toNat z) el 0).map fun r=>(.slice r.1 0 l.toNat c.toNat true s,r.2) else none
 | _,_=>none
inductive KT where | str | int
def xO (kt:KT)(x y:AV):Option Bool:=match kt with
 | .str=>(match x,y with | .str a,.str b=>some (a==b) | _,_=>none)
 | .int=>(match x,y with | .int k a,.int k' b=>if k=k' then some (a==b) else none | _,_=>none)
def nk (kt:KT)(k:AV):List ME->Bool
 | []=>true
 | e::es=>match xO kt k e.key with
  | some false=>nk kt k es
  | _=>false
def fk (kt:KT)(k:AV):List ME->Nat->Option (Option (Nat × ME))
 | [],_=>some none
 | e::es,i=>match xO kt k e.key with
  | some true=>bif nk kt k es then some (some (i,e)) else none
  | some false=>fk kt k es (i+1)
  | none=>none
def mU (kt:KT)(z:AV)(ok:Bool)(x k:AV)(H:Hp):Option AV:=match mapOf H x with
 | some (es,_)=>match fk kt k es 0 with
  | some (some (_,m))=>some (bif ok then .tuple [m.val,.bool true] else m.val)
  | some none=>some (bif ok then .tuple [z,.bool false] else z)
  | none=>none
 | none=>none
def kb (kt:KT)(x k v:AV)(H:Hp):Option Hp:=match x with
 | .map i=>match H.h.get i with
  | some (.map es c)=>match fk kt k es 0 with
   | some (some (j,m))=>bif Au m.key k then some (setObj H i (.map (es.set j { m with key:=k,val:=v }) c)) else none
   | some none=>some (setObj H i (.map (es++[⟨k,v,c⟩]) (c+1)))
   | none=>none
  | _=>none
 | _=>none
def Aq (kt:KT)(m k:AV)(H:Hp):Option Hp:=match m with
 | .iF=>some H
 | .map i=>match H.h.get i with
  | some (.map es c)=>match fk kt k es 0 with
   | some (some (j,_))=>some (setObj H i (.map (es.eraseIdx j) c))
   | some none=>some H
   | none=>none
  | _=>none
 | _=>none
def xm (H:Hp):Option (Nat × Hp):=alloc H (.map [] 0)
def cJ (x:AV):Option AV:=match x with | .ae=>some (.int .i64 0) | .slice _ _ n _ _ _=>some (.int .i64 n) | _=>none
def lens (x:AV):Option AV:=match x with | .str s=>some (.int .i64 s.length) | _=>none
def Gt (x:AV)(H:Hp):Option AV:=match x with
 | .iF=>some (.int .i64 0)
 | .map i=>match H.h.get i with | some (.map es _)=>some (.int .i64 es.length) | _=>none
 | _=>none
def tC (es:Nat)(z:List AV)(il:Bool)(x:AV)(H:Hp):Option (Nat × List AV):=match il,x with
 | true,.int .i64 k=>if 0<=k/\k<16777216 then some (k.toNat,rep k.toNat z) else none
 | false,.ae=>some (0,[])
 | false,.slice i off len _ _ _=>(dQ H i off (len*es)).map fun l=>(len,l)
 | false,.str s=>if es=1 then some (s.length,s.map fun (b:Nat)=>AV.int .u8 b) else none
 | _,_=>none
def AS (el es:Nat)(n:Nat)(new:List AV)(s:AV)(H:Hp):Option (AV × Hp):=match s with
 | .ae=>
  bif Nat.beq n 0 then some (.ae,H) else
  bif Nat.ble n 16777216 then (cI H new el 0).map fun r=>(.slice r.1 0 n n false es,r.2) else none
 | .slice i off len cap ex aq=>
  bif Nat.ble (len+n) 16777216&&Nat.beq es aq&&new.all db then
  bif Nat.ble (len+n) cap then (setCells H i (off+len*es) new).map fun H=>(.slice i off (len+n) cap ex es,H)
  else bif ex then (dQ H i off (len*es)).bind fun old=>(cI H (old++new) el 0).map fun r=>(.slice r.1 0 (len+n) (len+n) false es,r.2)
  else match H.h.get i with
   | some (.cells c lo hi nM fl)=>
    bif Nat.ble fl 1&&Nat.ble lo off&&Nat.ble (off+len*es) hi&&Nat.beq el nM then
     (alloc { H with h:=H.h.del i } (.cells (c.dh (off+len*es) new) off (off+(len+n)*es) el 1)).map fun r=>(.slice r.1 off (len+n) (len+n) false es,r.2)
    else none
   | _=>none
  else none
 | _=>none
def fZ (el es:Nat)(z:List AV)(il:Bool)(s x:AV)(H:Hp):Option (AV × Hp):=match tC es z il x H with
 | some (n,new)=>AS el es n new s H
 | none=>none
def Ej (es:Nat)(d x:AV)(H:Hp):Option (AV × Hp):=match Mm x with
 | some xl=>match d with
  | .ae=>some (.int .i64 0,H)
  | .slice i off dl _ _ _=>
   bif Nat.beq (Nat.min xl dl) 0 then some (.int .i64 0,H) else
   match RP es (Nat.min xl dl) x H with
   | some cs=>(setCells H i off cs).map fun H=>(.int .i64 (Nat.min xl dl),H)
   | none=>none
  | _=>none
 | none=>none
def Xc (x:AV)(H:Hp):Option AV:=match x with
 | .ae=>some (.str [])
 | .slice i off len _ _ _=>bif Nat.beq len 0 then some (.str []) else (dQ H i off len).bind fun cs=>(uW cs).map .str
 | _=>none
def Uz (el:Nat)(x:AV)(H:Hp):Option (AV × Hp):=match x with
 | .str s=>(cI H (s.map fun (b:Nat)=>AV.int .u8 b) el 1).map fun r=>(.slice r.1 0 s.length s.length false 1,r.2)
 | _=>none
end K
namespace K
variable (P:Program)
def sQ (kt:TypeId):Option KT:=match P.underlying kt with | some .string=>some .str | some (.int _)=>some .int | _=>none
def WA (ty:TypeId)(f:Nat):Option Nat:=match P.underlying ty with
 | some (.struct fs)=>match fs[f]? with
  | some fd=>bif yh P fd.type then some fd.offset else none
  | none=>none
 | _=>none
inductive CL where | int | str | bool | ptr | other
def PY (t:TypeId):CL:=match P.underlying t with | some (.int _) => .int | some .string => .str | some .bool => .bool | some (.pointer el)=>(match sz P el with | some (_+1) => .ptr | _ => .other) | _ => .other
def bb (op:BinOp)(x y:AV):Option AV:=match op,x,y with
 | .eql,.bool a,.bool b=>some (.bool (a==b))
 | .neq,.bool a,.bool b=>some (.bool (!(a==b)))
 | _,_,_=>none
def gA (op:BinOp)(t:TypeId)(c:Bool)(x y:AV):Bool:=match op with
 | .eql | .neq=>(match x,y with | .nilIface,.nilIface=>c | .agg _,.agg _ => !(P.eqGuardType P.depth t) | _,_=>true)
 | _=>true
def D4 (op:BinOp)(t:TypeId)(X Y:Operand)(x y:AV)(H:Hp)(k:AV->R):R:=match PY P t with
 | .int=>B1 (HZ op x y) k
 | .str=>B1 (Ig op x y) k
 | .bool=>B1 (bb op x y) k
 | .ptr=>B1 (po op (pe x y H)) k
 | .other=>Iw (gA P op t (uZ X||uZ Y) x y) (B1 (kG P op t x y H) k)
def EP (a b:TypeId)(x:AV)(H:Hp)(k:AV->Hp->R):R:=match P.underlying a,P.underlying b with
 | some (.int _),some (.int q)=>B1 (cv q x) fun v=>k v H
 | some .string,some .string=>B1 (UW x) fun v=>k v H
 | some (.slice e),some .string=>(match P.underlying e with | some (.int .u8)=>B1 (Xc x H) fun v=>k v H | _=>none)
 | some .string,some (.slice e)=>(match P.underlying e with | some (.int .u8)=>B2 (Uz e x H) k | _=>none)
 | _,_=>B2 (jw P a b x H) k
def CZ (t:TypeId)(x:AV)(lo hi mx:Option AV)(H:Hp)(k:AV->R):R:=match P.underlying t with
 | some .string=>(match mx with | none=>B1 (sU x lo hi) k | some _=>none)
 | some (.slice el)=>(match sz P el with | some s=>B1 (fT s x lo hi mx) k | none=>none)
 | _=>B1 (xc P t x lo hi mx H) k
def CW (b:Builtin)(ty:Array TypeId)(args:List AV)(H:Hp)(k:AV->Hp->R):R:=match b,args with
 | .len,[x]=>(match (ty[0]?).bind P.underlying with
  | some .string=>B1 (lens x) fun v=>k v H
  | some (.slice _)=>B1 (cJ x) fun v=>k v H
  | some (.map _ _)=>B1 (Gt x H) fun v=>k v H
  | _=>B2 (eP P .len ty args H) k)
 | .append,[s,x]=>(match (ty[0]?).bind P.underlying,EM P ty with
  | some (.slice el),some il=>(match sz P el,zc P el with
   | some es,some z=>bif Nat.ble (P.bytesOf el) 4096&&Nat.beq z.length es then B2 (fZ el es z il s x H) k else none
   | _,_=>none)
  | _,_=>none)
 | .copy,[d,x]=>(match (ty[0]?).bind P.underlying with
  | some (.slice el)=>(match sz P el with
   | some es=>B2 (Ej es d x H) k
   | none=>none)
  | _=>none)
 | .delete,[m,q]=>(match (ty[0]?).bind P.underlying with
  | some (.map kt _)=>(match sQ P kt with
   | some kt=>B1 (Aq kt m q H) fun H=>k cP H
   | none=>B2 (eP P .delete ty args H) k)
  | _=>none)
 | b,args=>B2 (eP P b ty args H) k
def eU (cf:CF)(o:Oper)(t:Tm)(H:Hp)(k:AV->Hp->R):R:=
 match o.op with
 | .move x=>k (ev P.globals.size t x) H
 | .assign x=>k (ev P.globals.size t x) H
 | .pick c a b=>B1 (pk (ev P.globals.size t c) (ev P.globals.size t a) (ev P.globals.size t b)) fun v=>k v H
 | .alloc ty=>(match zc P ty with | some l=>BN (cI H l ty 0) fun i H=>k (.ptr i 0) H | none=>none)
 | .box ty x=>BN (bx ty (ev P.globals.size t x) H) fun i H=>k (.ptr i 0) H
 | .build ty ps=>(match zc P ty,P.underlying ty with
  | some z,some (.struct fs)=>(match Rv P fs with
   | some pl=>(match rm (fun (p:Nat × Operand)=>(pl[p.1]?).map fun q=>(q.1,q.2,ev P.globals.size t p.2)) ps.toList with
    | some l=>B1 (fl z l) fun l=>k (.agg l) H
    | none=>none)
   | none=>none)
  | some z,some (.array _ el)=>(match sz P el with
   | some s=>B1 (fl z (ps.toList.map fun p=>(p.1*s,s,ev P.globals.size t p.2))) fun l=>k (.agg l) H
   | none=>none)
  | _,_=>none)
 | .buildSlice ty n ps=>(match P.underlying ty with
  | some (.slice el)=>(match sz P el with
   | some s=>bif Nat.ble (n*s) 65536 then (match yP P el s n with
    | some z=>B1 (fl z (ps.toList.map fun p=>(p.1*s,s,ev P.globals.size t p.2))) fun l=>BN (cI H l el 0) fun i H=>k (.slice i 0 n n true s) H
    | none=>none) else none
   | none=>none)
  | _=>none)
 | .insert ty m q v=>(match P.underlying ty with
  | some (.map kt _)=>(match sQ P kt with
   | some kt=>B1 (kb kt (ev P.globals.size t m) (ev P.globals.size t q) (ev P.globals.size t v) H) fun H=>k cP H
   | none=>B1 (tw P ty (ev P.globals.size t m) (ev P.globals.size t q) (ev P.globals.size t v) H) fun H=>k cP H)
  | _=>none)
 | .mapUpdate ty m q v=>(match P.underlying ty with
  | some (.map kt _)=>(match sQ P kt with
   | some kt=>B1 (kb kt (ev P.globals.size t m) (ev P.globals.size t q) (ev P.globals.size t v) H) fun H=>k cP H
   | none=>B1 (tw P ty (ev P.globals.size t m) (ev P.globals.size t q) (ev P.globals.size t v) H) fun H=>k cP H)
  | _=>none)
 | .load ty a=>(match xe P ty,sz P ty with
  | some true,some n=>B1 (af n (ev P.globals.size t a) H) fun v=>k v H
  | some false,_=>B1 (ld (ev P.globals.size t a) H) fun v=>k v H
  | _,_=>none)
 | .store ty a v=>(match sz P ty with | some n=>B1 (st n (ev P.globals.size t a) (ev P.globals.size t v) H) fun H=>k cP H | none=>none)
 | .nilCheck x=>B1 (ag (ev P.globals.size t x)) fun v=>k v H
 | .binOp op ty x y _=>D4 P op ty x y (ev P.globals.size t x) (ev P.globals.size t y) H fun v=>k v H
 | .unOp op _ x=>B1 (ie op (ev P.globals.size t x)) fun v=>k v H
 | .convert a b x=>EP P a b (ev P.globals.size t x) H k
 | .makeInterface ty x=>(match JK P ty (ev P.globals.size t x) with | some v=>k v H | none=>none)
 | .makeFunc fn a b=>(match Ky fn (a.toList.map (ev P.globals.size t)) (b.toList.map (ev P.globals.size t)) with | some v=>k v H | none=>none)
 | .makeMap _ none=>BN (xm H) fun i H=>k (.map i) H
 | .makeSlice ty l c=>(match P.underlying ty with
  | some (.slice el)=>(match sz P el,zc P el with
   | some s,some z=>bif Nat.ble (P.bytesOf el) 4096&&Nat.beq z.length s then B2 (FZ z el s (ev P.globals.size t l) (ev P.globals.size t c) H) k else none
   | _,_=>none)
  | _=>none)
 | .slice ty x lo hi mx=>CZ P ty (ev P.globals.size t x) (lo.map (ev P.globals.size t)) (hi.map (ev P.globals.size t)) (mx.map (ev P.globals.size t)) H fun v=>k v H
 | .fieldAddr ty x f=>(match WA P ty f with | some off=>B1 (fa off (ev P.globals.size t x)) fun v=>k v H | none=>none)
 | .field ty x f=>(match P.underlying ty with
  | some (.struct fs)=>(match fs[f]? with
   | some d=>(match xe P d.type,sz P d.type with
    | some true,some n=>B1 (fda n d.offset (ev P.globals.size t x)) fun v=>k v H
    | some false,_=>B1 (fd d.offset (ev P.globals.size t x)) fun v=>k v H
    | _,_=>none)
   | none=>none)
  | _=>none)
 | .indexAddr ty x ix=>(match P.underlying ty with
  | some (.slice el)=>(match sz P el with | some s=>B1 (ia s (ev P.globals.size t x) (ev P.globals.size t ix)) fun v=>k v H | none=>none)
  | some (.array n el)=>(match sz P el with | some s=>B1 (pK n s (ev P.globals.size t x) (ev P.globals.size t ix)) fun v=>k v H | none=>none)
  | _=>none)
 | .index ty x ix=>(match P.underlying ty with
  | some .string=>B1 (td (ev P.globals.size t x) (ev P.globals.size t ix)) fun v=>k v H
  | _=>B1 (xH P ty (ev P.globals.size t x) (ev P.globals.size t ix)) fun v=>k v H)
 | .lookup ty x q ok=>(match P.underlying ty with
  | some (.map kt el)=>(match sQ P kt,((P.info? el).bind (·.zero)).bind kf with
   | some kt,some z=>B1 (mU kt z ok (ev P.globals.size t x) (ev P.globals.size t q) H) fun v=>k v H
   | _,_=>B1 (Bi P ty (ev P.globals.size t x) (ev P.globals.size t q) ok H) fun v=>k v H)
  | _=>none)
 | .range ty x=>B2 (sd P ty (ev P.globals.size t x) H) k
 | .next it s=>B2 (pW (ev P.globals.size t it) s H) k
 | .entry it=>B1 (Lr (ev P.globals.size t it) H) fun v=>k v H
 | .extract tp i=>B1 (ex i (ev P.globals.size t tp)) fun v=>k v H
 | .typeAssert x _ JC ok=>(match P.underlying JC with
  | some (.interface _)=>none
  | some _=>B1 (ta JC ok (ev P.globals.size t x)) fun v=>k v H
  | none=>none)
 | .call { callee := .value f,args,.. }=>B2 (cf (ev P.globals.size t f) (args.toList.map (ev P.globals.size t)) H) k
 | .call { callee := .builtin b,args,argTypes }=>CW P b argTypes (args.toList.map (ev P.globals.size t)) H k
 | _=>none
end K
end
namespace K
variable {P:Program}
theorem amr {op:BinOp}{x y v:AV}{t:TypeId}{H:Hp}(h:HZ op x y=some v):kG P op t x y H=some v:=by
 cases op<;>simp only[HZ,dj,jI,qV,BG,rE,tR,qF,Tn,cN,eX,dV,sL,iy,qi,sN,ue,ii,i2,reduceCtorEq] at h <;>
  (split at h<;>first | (cases h;done) | exact h)
theorem adE {op:BinOp}{x y v:AV}{t:TypeId}{H:Hp}(h:Ig op x y=some v):kG P op t x y H=some v:=by
 cases op<;>simp only[Ig,jQ,seq,yG,slt,sle,Sf,Su,ss,reduceCtorEq] at h <;>
  (split at h<;>first | (cases h;done) | exact h)
theorem am3 {op:BinOp}{x y v:AV}(h:HZ op x y=some v):∃ k a k' b,x = .int k a/\y = .int k' b:=by
 cases op<;>simp only[HZ,dj,jI,qV,BG,rE,tR,qF,Tn,cN,eX,dV,sL,iy,qi,sN,ue,ii,i2,reduceCtorEq] at h <;>
  (split at h<;>first | (cases h;done) | exact⟨_,_,_,_,rfl,rfl⟩)
theorem ail {op:BinOp}{x y v:AV}(h:Ig op x y=some v):∃ a b,x = .str a/\y = .str b:=by
 cases op<;>simp only[Ig,jQ,seq,yG,slt,sle,Sf,Su,ss,reduceCtorEq] at h <;>
  (split at h<;>first | (cases h;done) | exact⟨_,_,rfl,rfl⟩)
theorem adF {op:BinOp}{t:TypeId}{X Y:Operand}{k k':IntKind}{a b:Int}:sS P op t X Y (.int k a) (.int k' b)=true:=by cases op<;>rfl
theorem agn {op:BinOp}{t:TypeId}{X Y:Operand}{a b:List Nat}:sS P op t X Y (.str a) (.str b)=true:=by cases op<;>rfl
theorem ap1 {op:BinOp}{t:TypeId}{X Y:Operand}{x y:AV}{H:Hp}{k:AV->R}{r:AV × Hp}(h:D4 P op t X Y x y H k=some r) :
  ∃ v,(bif sS P op t X Y x y then (kG P op t x y H).map fun v=>(v,H) else none)=some (v,H)/\k v=some r:=by
 unfold D4 at h
 split at h
 ·obtain⟨v,h1,h2⟩:=fu h
  obtain⟨_,_,_,_,rfl,rfl⟩:=am3 h1
  exact⟨v,by rw[adF,amr h1];rfl,h2⟩
 ·obtain⟨v,h1,h2⟩:=fu h
  obtain⟨_,_,rfl,rfl⟩:=ail h1
  exact⟨v,by rw[agn,adE h1];rfl,h2⟩
 ·rename_i hc
  obtain⟨v,h1,h2⟩:=fu h
  have hu:P.underlying t=some .bool:=by
   unfold PY at hc
   split at hc<;>first | (cases hc;done) | assumption | skip
   split at hc<;>cases hc
  unfold bb at h1
  split at h1
  ·cases h1
   refine⟨_,?_,h2⟩
   have hb:∀ a b,kG P .eql t (.bool a) (.bool b) H=some (.bool (a==b)):=by intro a b;simp only[kG];unfold ja;rw[hu];rfl
   rw[hb];rfl
  ·cases h1
   refine⟨_,?_,h2⟩
   have hb:∀ a b,kG P .neq t (.bool a) (.bool b) H=some (.bool (!(a==b))):=by intro a b;simp only[kG];unfold ja;rw[hu];rfl
   rw[hb];rfl
  ·cases h1
 ·rename_i hc
  obtain⟨v,h1,h2⟩:=fu h
  have hu:∃ el n,P.underlying t=some (.pointer el)/\sz P el=some (n+1):=by
   unfold PY at hc
   split at hc<;>first | (cases hc;done) | skip
   rename_i el hu
   split at hc
   ·rename_i n hs;exact⟨el,n,hu,hs⟩
   ·cases hc
  obtain⟨el,n,hu,hs⟩:=hu
  have he:∀ q,pe x y H=some q->ja P 50 t x y H=some q:=by
   intro q hq
   unfold pe at hq
   unfold ja
   rw[hu]
   cases x<;>cases y<;>first | (cases hq;done) | (cases hq;rfl) | skip
   simp only[hs]
   exact hq
  have hx:(∃ i j,x = .ptr i j)\/x = .aC:=by
   unfold po at h1
   cases hp:pe x y H with
   | none=>rw[hp] at h1;cases op<;>cases h1
   | some q=>
    unfold pe at hp
    cases x<;>first | (cases y<;>cases hp;done) | exact .inl ⟨_,_,rfl⟩ | exact .inr rfl
  have hg:sS P op t X Y x y=true:=by
   rcases hx with⟨i,j,rfl⟩ | rfl<;>(cases op<;>first | rfl | (cases y<;>rfl))
  refine⟨v,?_,h2⟩
  rw[hg]
  cases hp:pe x y H with
  | none=>rw[hp] at h1;cases op<;>cases h1
  | some q=>
   rw[hp] at h1
   have:=he q hp
   rcases hx with⟨i,j,rfl⟩ | rfl<;>(cases op<;>first | (cases h1;done) | skip) <;>
    (cases h1;cases y<;>first | (unfold pe at hp;cases hp;done) | (simp only[kG,this];rfl))
 ·have Qy:gA P op t (uZ X||uZ Y) x y=sS P op t X Y x y:=rfl
  rw[Qy] at h
  cases hg:sS P op t X Y x y with
  | false=>rw[hg] at h;cases h
  | true=>
   rw[hg] at h
   obtain⟨v,h1,h2⟩:=fu h
   exact⟨v,by rw[h1];rfl,h2⟩
theorem LW (place:Nat->Option (Nat × Nat)):∀ (ps:List (Nat × AV)) (qs:List (Nat × Nat × AV)) (z l:List AV),rm (fun (p:Nat × AV)=>(place p.1).map fun q=>(q.1,q.2,p.2)) ps=some qs->fl z qs=some l->uf place z ps=some l
 | [],qs,z,l,h,hf=>by cases h;exact hf
 | (i,v)::ps,qs,z,l,h,hf=>by
  unfold rm at h
  cases hp:place i with
  | none=>rw[hp] at h;cases h
  | some q=>
   rw[hp] at h
   simp only[ahk] at h
   split at h
   ·rename_i r hr
    cases h
    unfold fl at hf
    unfold uf
    rw[hp]
    simp only
    split at hf
    ·rename_i cs fC
     rw[fC]
     simp only
     split at hf
     ·rename_i hc
      rw[if_pos hc]
      exact LW place ps r _ l hr hf
     ·cases hf
    ·cases hf
   ·cases h
theorem RY {kt:TypeId}{K:KT}(hk:sQ P kt=some K){x y:AV}{H:Hp}{b:Bool}(h:xO K x y=some b):ja P 20 kt x y H=some b:=by
 unfold sQ at hk
 split at hk
 ·rename_i hu
  cases hk
  unfold xO at h
  simp only at h
  split at h
  ·unfold ja;rw[hu];exact h
  ·cases h
 ·rename_i q hu
  cases hk
  unfold xO at h
  simp only at h
  split at h
  ·unfold ja;rw[hu];exact h
  ·cases h
 ·cases hk
theorem ZZ {kt:TypeId}{K:KT}(hk:sQ P kt=some K){H:Hp}{q:AV}:∀ es:List ME,nk K q es=true->Ba P H kt q es=true
 | [],h=>rfl
 | e::es,h=>by
  unfold nk at h
  unfold Ba
  split at h
  ·rename_i h1;rw[RY hk h1];exact ZZ hk es h
  ·cases h
theorem BC {kt:TypeId}{K:KT}(hk:sQ P kt=some K){H:Hp}{q:AV}:∀ (es:List ME) (i:Nat) (r:Option (Nat × ME)),fk K q es i=some r->ya P H kt q es i=some r
 | [],i,r,h=>h
 | e::es,i,r,h=>by
  unfold fk at h
  unfold ya
  split at h
  ·rename_i h1
   rw[RY hk h1]
   cases hn:nk K q es with
   | false=>rw[hn] at h;cases h
   | true=>rw[hn] at h;rw[ZZ hk es hn];exact h
  ·rename_i h1;rw[RY hk h1];exact BC hk es (i+1) r h
  ·cases h
theorem O0 {kt:TypeId}{K:KT}(hk:sQ P kt=some K)(v:AV):px P 20 kt v=true:=by
 unfold sQ at hk
 unfold px
 split at hk
 ·rename_i hu;rw[hu]
 ·rename_i q hu;rw[hu]
 ·cases hk
theorem ahh {ty kt el:TypeId}{K:KT}{z:AV}{ok:Bool}{x q v:AV}{H:Hp}(hu:P.underlying ty=some (.map kt el))(hk:sQ P kt=some K)(hz:((P.info? el).bind (·.zero)).bind kf=some z)(h:mU K z ok x q H=some v):Bi P ty x q ok H=some v:=by
 unfold Bi
 rw[hu]
 simp only[O0 hk,cond_true]
 unfold mU at h
 split at h
 ·rename_i es c hm
  rw[hm]
  simp only
  split at h
  ·rename_i i m hf
   rw[BC hk es 0 _ hf]
   cases h;rfl
  ·rename_i hf
   rw[BC hk es 0 _ hf]
   simp only[hz]
   cases h;cases ok<;>rfl
  ·cases h
 ·cases h
theorem ZB {ty kt el:TypeId}{K:KT}{x q v:AV}{H H':Hp}(hu:P.underlying ty=some (.map kt el))(hk:sQ P kt=some K)(h:kb K x q v H=some H'):tw P ty x q v H=some H':=by
 unfold tw
 rw[hu]
 unfold kb at h
 split at h
 ·rename_i i
  simp only[O0 hk,cond_true]
  split at h
  ·rename_i es c hg
   rw[hg]
   simp only
   split at h
   ·rename_i j m hf
    rw[BC hk es 0 _ hf]
    exact h
   ·rename_i hf
    rw[BC hk es 0 _ hf]
    exact h
   ·cases h
  ·cases h
 ·cases h
theorem apY {ty:Array TypeId}{t0 kt el:TypeId}{K:KT}{m q:AV}{H H':Hp}(ht:(ty[0]?).bind P.underlying=some (.map kt el))(hk:sQ P kt=some K)(h:Aq K m q H=some H'):EU P ty m q H=some H':=by
 unfold EU
 rw[ht]
 simp only[O0 hk,cond_true]
 unfold Aq at h
 split at h
 ·exact h
 ·rename_i i
  simp only
  split at h
  ·rename_i es c hg
   rw[hg]
   simp only
   split at h
   ·rename_i j m hf
    rw[BC hk es 0 _ hf]
    exact h
   ·rename_i hf
    rw[BC hk es 0 _ hf]
    exact h
   ·cases h
  ·cases h
 ·cases h
theorem aoz {ty:Array TypeId}{el es:Nat}{z:List AV}{il:Bool}{s x v:AV}{H H':Hp}(ht:(ty[0]?).bind P.underlying=some (.slice el))(hz:EM P ty=some il)(hs:sz P el=some es)(EI:zc P el=some z)
  (hc:(Nat.ble (P.bytesOf el) 4096&&Nat.beq z.length es)=true) (h:fZ el es z il s x H=some (v,H')):GA P ty s x H=some (v,H'):=by
 unfold GA
 rw[ht,hz]
 simp only[hs,EI,hc,cond_true]
 unfold fZ at h
 have hlen:z.length=es:=by
  simp only[zf,afS] at hc
  exact hc.2
 have hn:∀ r,tC es z il x H=some r->G4 P il el es x H=some r:=by
  intro r hr
  unfold tC at hr
  unfold G4
  split at hr
  ·split at hr
   ·rename_i hk
    simp only[if_pos hk,EI,if_pos hlen]
    exact hr
   ·cases hr
  ·exact hr
  ·exact hr
  ·exact hr
  ·cases hr
 split at h
 ·rename_i n new ji
  rw[hn _ ji]
  simp only
  unfold AS at h
  split at h
  ·cases hb:Nat.beq n 0 with
   | true=>rw[hb] at h;exact h
   | false=>
    rw[hb] at h
    simp only[cond_false] at h ⊢
    cases iT:Nat.ble n 16777216 with
    | false=>rw[iT] at h;cases h
    | true=>
     rw[iT] at h
     simp only[cond_true] at h ⊢
     cases jz:cI H new el 0 with
     | none=>rw[jz] at h;cases h
     | some r=>rw[jz] at h;exact h
  ·rename_i i off len cap ex aq
   cases hb:(Nat.ble (len+n) 16777216&&Nat.beq es aq&&new.all db) with
   | false=>rw[hb] at h;cases h
   | true=>
    rw[hb] at h
    simp only[cond_true] at h ⊢
    cases iT:Nat.ble (len+n) cap with
    | true=>
     rw[iT] at h
     simp only[cond_true] at h ⊢
     cases Zh:setCells H i (off+len*es) new with
     | none=>rw[Zh] at h;cases h
     | some H2=>rw[Zh] at h;rw[hb];exact h
    | false=>
     rw[iT] at h
     simp only[cond_false] at h ⊢
     cases ex with
     | true=>
      simp only[cond_true] at h ⊢
      cases Be:dQ H i off (len*es) with
      | none=>rw[Be] at h;cases h
      | some old=>
       rw[Be] at h
       simp only[ac0] at h ⊢
       cases jz:cI H (old++new) el 0 with
       | none=>rw[jz] at h;cases h
       | some r=>rw[jz] at h;rw[hb];exact h
     | false=>
      simp only[cond_false] at h ⊢
      split at h
      ·rename_i c lo hi nM fl hg
       rw[hg]
       simp only
       cases tW:(Nat.ble fl 1&&Nat.ble lo off&&Nat.ble (off+len*es) hi&&Nat.beq el nM) with
       | false=>rw[tW] at h;cases h
       | true=>
        rw[tW] at h
        simp only[cond_true] at h ⊢
        cases ff:alloc { H with h:=H.h.del i } (.cells (c.dh (off+len*es) new) off (off+(len+n)*es) el 1) with
        | none=>rw[ff] at h;cases h
        | some r=>rw[ff] at h;rw[hb];exact h
      ·cases h
  ·cases h
 ·cases h
theorem ag9 {ty:Array TypeId}{el es:Nat}{d x v:AV}{H H':Hp}(ht:(ty[0]?).bind P.underlying=some (.slice el))(hs:sz P el=some es)(h:Ej es d x H=some (v,H')):F0 P ty d x H=some (v,H'):=by
 unfold F0
 rw[ht]
 unfold Ej at h
 split at h
 ·rename_i xl hl
  simp only[hs,hl]
  split at h
  ·exact h
  ·rename_i i off dl c e f
   simp only
   cases hb:Nat.beq (Nat.min xl dl) 0 with
   | true=>rw[hb] at h;exact h
   | false=>
    rw[hb] at h
    simp only[cond_false] at h ⊢
    split at h
    ·rename_i cs fC;rw[fC];exact h
    ·cases h
  ·cases h
 ·cases h
theorem apV {b:Builtin}{ty:Array TypeId}{args:List AV}{H:Hp}{k:AV->Hp->R}{r:AV × Hp}(h:CW P b ty args H k=some r):∃ v H',eP P b ty args H=some (v,H')/\k v H'=some r:=by
 unfold CW at h
 split at h
 ·rename_i x
  split at h
  ·rename_i hu
   obtain⟨v,h1,h2⟩:=fu h
   refine⟨v,H,?_,h2⟩
   unfold lens at h1
   split at h1
   ·cases h1;simp only[eP,zq,hu];rfl
   ·cases h1
  ·rename_i el hu
   obtain⟨v,h1,h2⟩:=fu h
   refine⟨v,H,?_,h2⟩
   unfold cJ at h1
   split at h1
   ·cases h1;simp only[eP,zq,hu];rfl
   ·cases h1;simp only[eP,zq,hu];rfl
   ·cases h1
  ·rename_i a b hu
   obtain⟨v,h1,h2⟩:=fu h
   refine⟨v,H,?_,h2⟩
   unfold Gt at h1
   split at h1
   ·cases h1;simp only[eP,zq,hu];rfl
   ·simp only[eP,zq,hu]
    exact (congrArg (Option.map fun v=>(v,H)) h1)
   ·cases h1
  ·exact tn h
 ·rename_i s x
  split at h
  ·rename_i el il hu hz
   split at h
   ·rename_i es z hs EI
    cases hc:(Nat.ble (P.bytesOf el) 4096&&Nat.beq z.length es) with
    | false=>rw[hc] at h;cases h
    | true=>
     rw[hc] at h
     obtain⟨v,H',h1,h2⟩:=tn h
     exact⟨v,H',aoz hu hz hs EI hc h1,h2⟩
   ·cases h
  ·cases h
 ·rename_i d x
  split at h
  ·rename_i el hu
   split at h
   ·rename_i es hs
    obtain⟨v,H',h1,h2⟩:=tn h
    exact⟨v,H',ag9 hu hs h1,h2⟩
   ·cases h
  ·cases h
 ·rename_i m q
  split at h
  ·rename_i kt el hu
   split at h
   ·rename_i K hk
    obtain⟨H',h1,h2⟩:=fu h
    refine⟨cP,H',?_,h2⟩
    show (EU P ty m q H).map (fun H=>(cP,H))=_
    rw[apY (t0:=0) hu hk h1];rfl
   ·exact tn h
  ·cases h
 ·exact tn h
end K
end
namespace K
variable {P:Program}
theorem LK {α β γ:Type}(f:β->Option γ)(g:α->β):∀ l:List α,rm f (l.map g)=rm (fun a=>f (g a)) l
 | []=>rfl
 | a::l=>by
  simp only[ab8,rm,LK f g l]
theorem MU {α β:Type}(f:α->β):∀ l:List α,rm (fun a=>some (f a)) l=some (l.map f)
 | []=>rfl
 | a::l=>by
  simp only[ab8,rm,MU f l]
theorem aiD {a b:TypeId}{x:AV}{H:Hp}{k:AV->Hp->R}{r:AV × Hp}(h:EP P a b x H k=some r):∃ v H',jw P a b x H=some (v,H')/\k v H'=some r:=by
 unfold EP at h
 split at h
 ·rename_i q q' ha hb
  obtain⟨v,h1,h2⟩:=fu h
  refine⟨v,H,?_,h2⟩
  unfold cv at h1
  split at h1
  ·cases h1;unfold jw;rw[ha,hb]
  ·cases h1
 ·rename_i ha hb
  obtain⟨v,h1,h2⟩:=fu h
  refine⟨v,H,?_,h2⟩
  unfold UW at h1
  split at h1
  ·cases h1;unfold jw;rw[ha,hb]
  ·cases h1
 ·rename_i e ha hb
  split at h
  ·rename_i he
   obtain⟨v,h1,h2⟩:=fu h
   refine⟨v,H,?_,h2⟩
   unfold Xc at h1
   split at h1
   ·cases h1;unfold jw;rw[ha,hb];simp only[he]
   ·rename_i i off len c x s
    unfold jw;rw[ha,hb];simp only[he]
    cases hl:Nat.beq len 0 with
    | true=>rw[hl] at h1;cases h1;rfl
    | false=>
     rw[hl] at h1
     simp only[cond_false] at h1 ⊢
     cases hc:dQ H i off len with
     | none=>rw[hc] at h1;cases h1
     | some cs=>
      rw[hc] at h1
      simp only[ac0] at h1 ⊢
      cases iT:uW cs with
      | none=>rw[iT] at h1;cases h1
      | some s=>rw[iT] at h1;cases h1;rfl
   ·cases h1
  ·cases h
 ·rename_i e ha hb
  split at h
  ·rename_i he
   obtain⟨v,H',h1,h2⟩:=tn h
   refine⟨v,H',?_,h2⟩
   unfold Uz at h1
   split at h1
   ·rename_i s
    unfold jw;rw[ha,hb];simp only[he]
    cases hn:cI H (s.map fun (b:Nat)=>AV.int .u8 b) e 1 with
    | none=>rw[hn] at h1;cases h1
    | some r=>rw[hn] at h1;exact h1
   ·cases h1
  ·cases h
 ·exact tn h
theorem ald {t:TypeId}{x:AV}{lo hi mx:Option AV}{H:Hp}{k:AV->R}{r:AV × Hp}(h:CZ P t x lo hi mx H k=some r):∃ v,xc P t x lo hi mx H=some v/\k v=some r:=by
 unfold CZ at h
 split at h
 ·rename_i hu
  split at h
  ·obtain⟨v,h1,h2⟩:=fu h
   refine⟨v,?_,h2⟩
   unfold sU at h1
   split at h1
   ·rename_i s
    unfold xc
    simp only[hu,acT,ac0,ai9,abZ,if_false]
    cases hb:ru s.length s.length lo hi none with
    | none=>rw[hb] at h1;cases h1
    | some p=>rw[hb] at h1;exact h1
   ·cases h1
  ·cases h
 ·rename_i el hu
  split at h
  ·rename_i s hs
   obtain⟨v,h1,h2⟩:=fu h
   refine⟨v,?_,h2⟩
   unfold fT at h1
   split at h1
   ·unfold xc
    simp only[hu,acT,ac0,hs,Option.isSome_some,if_true]
    cases hb:ru 0 0 lo hi mx with
    | none=>rw[hb] at h1;cases h1
    | some p=>rw[hb] at h1;exact h1
   ·rename_i i off len cap ex es
    unfold xc
    simp only[hu,acT,ac0,hs]
    cases hb:ru len cap lo hi mx with
    | none=>rw[hb] at h1;cases h1
    | some p=>
     rw[hb] at h1
     simp only[ac0] at h1 ⊢
     split at h1
     ·rename_i he;subst he;simpa using h1
     ·cases h1
   ·cases h1
  ·cases h
 ·exact fu h
theorem IG {cf:CF}{o:Oper}{t:Tm}{H:Hp}{k:AV->Hp->R}{r:AV × Hp}(h:eU P cf o t H k=some r):∃ v H',rk P cf t o H=some (v,H')/\k v H'=some r:=by
 obtain⟨dst,op,ty0,pos,after,guard⟩:=o
 cases op
 case move x=>exact⟨_,_,rfl,h⟩
 case assign x=>exact⟨_,_,rfl,h⟩
 case pick c a b=>
  obtain⟨v,h1,h2⟩:=fu h
  refine⟨v,H,?_,h2⟩
  unfold pk at h1
  show (match ev P.globals.size t c with | .bool q=>some (bif q then ev P.globals.size t a else ev P.globals.size t b,H) | _=>none)=_
  split at h1
  ·rename_i q hq;first | (rw[hq];cases h1;rfl) | (cases h1;rfl)
  ·cases h1
 case alloc ty=>
  have h0:(match zc P ty with | some l=>BN (cI H l ty 0) fun i H=>k (.ptr i 0) H | none=>none)=some r:=h
  show ∃ v H',(match zc P ty with | some l=>(cI H l ty 0).map fun r=>(AV.ptr r.1 0,r.2) | none=>none)=some (v,H')/\_
  split at h0
  ·rename_i l hl
   obtain⟨i,H2,h1,h2⟩:=Lv h0
   exact⟨_,_,by rw[h1];rfl,h2⟩
  ·cases h0
 case box ty x=>
  have h0:BN (bx ty (ev P.globals.size t x) H) (fun i H=>k (.ptr i 0) H)=some r:=h
  obtain⟨i,H2,h1,h2⟩:=Lv h0
  refine⟨.ptr i 0,H2,?_,h2⟩
  show (match jX (ev P.globals.size t x) with | some l=>(cI H l ty 0).map fun r:Nat × Hp=>(AV.ptr r.1 0,r.2) | none=>none)=some (AV.ptr i 0,H2)
  unfold bx at h1
  split at h1
  ·rename_i l hl;first | (rw[hl];simp only[h1];rfl) | (simp only[h1];rfl)
  ·cases h1
 case build ty ps=>
  show ∃ v H',(E4 P ty (ps.toList.map fun (i,x)=>(i,ev P.globals.size t x))).map (fun v=>(v,H))=some (v,H')/\_
  unfold eU at h
  simp only at h
  unfold E4
  split at h
  ·rename_i z fs hz hu
   rw[hz,hu]
   simp only
   split at h
   ·rename_i pl vK
    rw[vK]
    simp only
    split at h
    ·rename_i l hl
     obtain⟨l2,h1,h2⟩:=fu h
     refine⟨.agg l2,H,?_,h2⟩
     rw[LW (pl[·]?) (ps.toList.map fun (i,x)=>(i,ev P.globals.size t x)) l z l2 (by rw[LK];exact hl) h1]
     rfl
    ·cases h
   ·cases h
  ·rename_i z n el hz hu
   rw[hz,hu]
   simp only
   split at h
   ·rename_i s hs
    rw[hs]
    simp only
    obtain⟨l2,h1,h2⟩:=fu h
    refine⟨.agg l2,H,?_,h2⟩
    have hq:rm (fun (p:Nat × AV)=>((fun i=>some (i*s,s)) p.1).map fun q=>(q.1,q.2,p.2)) (ps.toList.map fun (i,x)=>(i,ev P.globals.size t x))=some (ps.toList.map fun p=>(p.1*s,s,ev P.globals.size t p.2)):=by
     rw[LK]
     exact MU (fun p:Nat × Operand=>(p.1*s,s,ev P.globals.size t p.2)) _
    rw[LW (fun i=>some (i*s,s)) _ _ z l2 hq h1]
    rfl
   ·cases h
  ·cases h
 case buildSlice ty n ps=>
  show ∃ v H',Ad P ty n (ps.toList.map fun (i,x)=>(i,ev P.globals.size t x)) H=some (v,H')/\_
  unfold eU at h
  simp only at h
  unfold Ad
  split at h
  ·rename_i el hu
   rw[hu]
   simp only
   split at h
   ·rename_i s hs
    rw[hs]
    simp only
    cases hb:Nat.ble (n*s) 65536 with
    | false=>rw[hb] at h;cases h
    | true=>
     rw[hb] at h
     simp only[cond_true] at h ⊢
     split at h
     ·rename_i z hz
      rw[hz]
      simp only
      obtain⟨l2,h1,h2⟩:=fu h
      obtain⟨i,H2,h3,h4⟩:=Lv h2
      have hq:rm (fun (p:Nat × AV)=>((fun i=>some (i*s,s)) p.1).map fun q=>(q.1,q.2,p.2)) (ps.toList.map fun (i,x)=>(i,ev P.globals.size t x))=some (ps.toList.map fun p=>(p.1*s,s,ev P.globals.size t p.2)):=by
       rw[LK]
       exact MU (fun p:Nat × Operand=>(p.1*s,s,ev P.globals.size t p.2)) _
      refine⟨_,_,?_,h4⟩
      rw[LW (fun i=>some (i*s,s)) _ _ z l2 hq h1]
      simp only[h3]
      rfl
     ·cases h
   ·cases h
  ·cases h
 case insert ty m q v=>
  unfold eU at h
  simp only at h
  show ∃ v' H',(tw P ty (ev P.globals.size t m) (ev P.globals.size t q) (ev P.globals.size t v) H).map (fun H=>(cP,H))=some (v',H')/\_
  split at h
  ·rename_i kt el hu
   split at h
   ·rename_i K hk
    obtain⟨H',h1,h2⟩:=fu h
    exact⟨_,H',by rw[ZB hu hk h1];rfl,h2⟩
   ·obtain⟨H',h1,h2⟩:=fu h
    exact⟨_,H',by rw[h1];rfl,h2⟩
  ·cases h
 case mapUpdate ty m q v=>
  unfold eU at h
  simp only at h
  show ∃ v' H',(tw P ty (ev P.globals.size t m) (ev P.globals.size t q) (ev P.globals.size t v) H).map (fun H=>(cP,H))=some (v',H')/\_
  split at h
  ·rename_i kt el hu
   split at h
   ·rename_i K hk
    obtain⟨H',h1,h2⟩:=fu h
    exact⟨_,H',by rw[ZB hu hk h1];rfl,h2⟩
   ·obtain⟨H',h1,h2⟩:=fu h
    exact⟨_,H',by rw[h1];rfl,h2⟩
  ·cases h
 case load ty a=>
  unfold eU at h
  simp only at h
  show ∃ v H',(sO P H ty (ev P.globals.size t a)).map (fun v=>(v,H))=some (v,H')/\_
  split at h
  ·rename_i n ha hs
   obtain⟨v,h1,h2⟩:=fu h
   refine⟨v,H,?_,h2⟩
   unfold af at h1
   split at h1
   ·rename_i i off hx
    rw[hx]
    unfold sO
    simp only[ha,hs,acT,ac0,if_true]
    cases hc:dQ H i off n with
    | none=>rw[hc] at h1;cases h1
    | some l=>rw[hc] at h1;cases h1;rfl
   ·cases h1
  ·rename_i q ha hs
   obtain⟨v,h1,h2⟩:=fu h
   refine⟨v,H,?_,h2⟩
   unfold ld at h1
   split at h1
   ·rename_i i off hx
    rw[hx]
    unfold sO
    simp only[hs,acT,ac0,abZ,if_false,h1]
    rfl
   ·cases h1
  ·cases h
 case store ty a v=>
  unfold eU at h
  simp only at h
  show ∃ v' H',(FB P H ty (ev P.globals.size t a) (ev P.globals.size t v)).map (fun H=>(cP,H))=some (v',H')/\_
  split at h
  ·rename_i n hs
   obtain⟨H',h1,h2⟩:=fu h
   refine⟨_,H',?_,h2⟩
   unfold st at h1
   split at h1
   ·rename_i i off hx
    rw[hx]
    unfold FB
    split at h1
    ·rename_i cs fC
     simp only[fC,hs,acT,ac0]
     cases hb:Nat.beq n cs.length with
     | false=>rw[hb] at h1;cases h1
     | true=>
      rw[hb] at h1
      have:=aba hb
      subst this
      simp only[cond_true] at h1
      simp[h1]
    ·cases h1
   ·cases h1
  ·cases h
 case nilCheck x=>
  obtain⟨v,h1,h2⟩:=fu h
  exact⟨v,H,by show (ag _).map _=_;rw[h1];rfl,h2⟩
 case binOp op ty x y ty2=>
  obtain⟨v,h1,h2⟩:=ap1 h
  exact⟨v,H,h1,h2⟩
 case unOp op ty x=>
  obtain⟨v,h1,h2⟩:=fu h
  exact⟨v,H,by show (ie op _).map _=_;rw[h1];rfl,h2⟩
 case convert a b x=>exact aiD h
 case makeInterface ty x=>
  unfold eU at h
  simp only at h
  split at h
  ·rename_i v hv
   exact⟨v,H,by show (JK P ty _).map _=_;rw[hv];rfl,h⟩
  ·cases h
 case makeFunc fn a b=>
  unfold eU at h
  simp only at h
  split at h
  ·rename_i v hv
   exact⟨v,H,by show (Ky fn _ _).map _=_;rw[hv];rfl,h⟩
  ·cases h
 case makeMap ty x=>
  cases x with
  | some y=>cases h
  | none=>
   have h0:BN (xm H) (fun i H=>k (.map i) H)=some r:=h
   obtain⟨i,H2,h1,h2⟩:=Lv h0
   refine⟨_,_,?_,h2⟩
   show (alloc H (.map [] 0)).map (fun r:Nat × Hp=>(AV.map r.1,r.2))=_
   unfold xm at h1
   rw[h1];rfl
 case makeSlice ty l c=>
  unfold eU at h
  simp only at h
  show ∃ v H',vG P ty (ev P.globals.size t l) (ev P.globals.size t c) H=some (v,H')/\_
  split at h
  ·rename_i el hu
   split at h
   ·rename_i s z hs hz
    cases hb:(Nat.ble (P.bytesOf el) 4096&&Nat.beq z.length s) with
    | false=>rw[hb] at h;cases h
    | true=>
     rw[hb] at h
     simp only[cond_true] at h
     simp only[zf,ado,afS] at hb
     obtain⟨v,H',h1,h2⟩:=tn h
     refine⟨v,H',?_,h2⟩
     unfold FZ at h1
     split at h1
     ·rename_i k1 n k2 m hl hc
      rw[hl,hc]
      unfold vG
      rw[hu]
      simp only[hs]
      split at h1
      ·rename_i uB
       rw[if_pos ⟨uB.1,uB.2.1,uB.2.2,hb.1⟩]
       have hr:yP P el s m.toNat=some (rep m.toNat z):=by
        unfold yP
        cases h0:Nat.beq (m.toNat*s) 0 with
        | true=>
         have PQ:=aba h0
         have:rep m.toNat z=[]:=by
          unfold rep
          rcases aji.1 PQ with q | q
          ·rw[q];rfl
          ·have:z=[]:=agG (by rw[hb.2,q])
           rw[this];simp
         rw[this];rfl
        | false=>
         simp only[cond_false,hz]
         rw[hb.2,agU];rfl
       rw[hr]
       simp only
       cases hn:cI H (rep m.toNat z) el 0 with
       | none=>rw[hn] at h1;cases h1
       | some q=>rw[hn] at h1;exact h1
      ·cases h1
     ·cases h1
   ·cases h
  ·cases h
 case slice ty x lo hi mx=>
  obtain⟨v,h1,h2⟩:=ald h
  exact⟨v,H,by show (xc P ty _ _ _ _ H).map _=_;rw[h1];rfl,h2⟩
 case fieldAddr ty x f=>
  unfold eU at h
  simp only at h
  show ∃ v H',(IW P ty (ev P.globals.size t x) f).map (fun v=>(v,H))=some (v,H')/\_
  split at h
  ·rename_i off ho
   obtain⟨v,h1,h2⟩:=fu h
   refine⟨v,H,?_,h2⟩
   unfold fa at h1
   split at h1
   ·rename_i i o hx
    rw[hx]
    cases h1
    unfold WA at ho
    unfold IW
    split at ho
    ·rename_i fs hu
     rw[hu]
     simp only
     split at ho
     ·rename_i fd Hm
      rw[Hm]
      simp only
      cases hp:yh P fd.type with
      | false=>rw[hp] at ho;cases ho
      | true=>rw[hp] at ho;cases ho;rfl
     ·cases ho
    ·cases ho
   ·cases h1
  ·cases h
 case field ty x f=>
  unfold eU at h
  simp only at h
  show ∃ v H',(FD P ty (ev P.globals.size t x) f).map (fun v=>(v,H))=some (v,H')/\_
  split at h
  ·rename_i fs hu
   split at h
   ·rename_i d hd
    split at h
    ·rename_i n ha hs
     obtain⟨v,h1,h2⟩:=fu h
     refine⟨v,H,?_,h2⟩
     unfold fda at h1
     split at h1
     ·rename_i cs hx
      rw[hx]
      unfold FD
      rw[hu]
      simp only[hd]
      unfold nu
      simp only[ha,hs,acT,ac0,if_true]
      cases hb:Nat.ble (d.offset+n) cs.length with
      | false=>rw[hb] at h1;cases h1
      | true=>rw[hb] at h1;cases h1;rfl
     ·cases h1
    ·rename_i q ha hs
     obtain⟨v,h1,h2⟩:=fu h
     refine⟨v,H,?_,h2⟩
     unfold fd at h1
     split at h1
     ·rename_i cs hx
      rw[hx]
      unfold FD
      rw[hu]
      simp only[hd]
      unfold nu
      simp only[hs,acT,ac0,abZ,if_false,h1]
      rfl
     ·cases h1
    ·cases h
   ·cases h
  ·cases h
 case indexAddr ty x ix=>
  unfold eU at h
  simp only at h
  show ∃ v H',(Dx P ty (ev P.globals.size t x) (ev P.globals.size t ix)).map (fun v=>(v,H))=some (v,H')/\_
  split at h
  ·rename_i el hu
   split at h
   ·rename_i s hs
    obtain⟨v,h1,h2⟩:=fu h
    refine⟨v,H,?_,h2⟩
    unfold ia at h1
    split at h1
    ·rename_i i off len c e es q kk hx ri
     rw[hx,ri]
     unfold Dx
     simp only[hu,acT,ac0,hs]
     split at h1
     ·rename_i hc
      obtain⟨rfl,c1,c2⟩:=hc
      cases h1
      simp[c1,c2]
     ·cases h1
    ·cases h1
   ·cases h
  ·rename_i n el hu
   split at h
   ·rename_i s hs
    obtain⟨v,h1,h2⟩:=fu h
    refine⟨v,H,?_,h2⟩
    unfold pK at h1
    split at h1
    ·rename_i i off q kk hx ri
     rw[hx,ri]
     unfold Dx
     simp only[hu,acT,ac0,hs]
     split at h1
     ·rename_i hc
      obtain⟨c1,c2⟩:=hc
      cases h1
      simp[c1,c2]
     ·cases h1
    ·cases h1
   ·cases h
  ·cases h
 case index ty x ix=>
  unfold eU at h
  simp only at h
  show ∃ v H',(xH P ty (ev P.globals.size t x) (ev P.globals.size t ix)).map (fun v=>(v,H))=some (v,H')/\_
  split at h
  ·rename_i hu
   obtain⟨v,h1,h2⟩:=fu h
   refine⟨v,H,?_,h2⟩
   unfold td at h1
   split at h1
   ·rename_i s q kk hx ri
    rw[hx,ri]
    unfold xH
    simp only[hu,acT,ac0,h1]
    rfl
   ·cases h1
  ·obtain⟨v,h1,h2⟩:=fu h
   exact⟨v,H,by rw[h1];rfl,h2⟩
 case lookup ty x q ok=>
  unfold eU at h
  simp only at h
  show ∃ v H',(Bi P ty (ev P.globals.size t x) (ev P.globals.size t q) ok H).map (fun v=>(v,H))=some (v,H')/\_
  split at h
  ·rename_i kt el hu
   split at h
   ·rename_i K z hk hz
    obtain⟨v,h1,h2⟩:=fu h
    exact⟨v,H,by rw[ahh hu hk hz h1];rfl,h2⟩
   ·obtain⟨v,h1,h2⟩:=fu h
    exact⟨v,H,by rw[h1];rfl,h2⟩
  ·cases h
 case range ty x=>exact tn h
 case next it s=>exact tn h
 case entry it=>cases h
 case extract tp i=>
  obtain⟨v,h1,h2⟩:=fu h
  refine⟨v,H,?_,h2⟩
  show (match ev P.globals.size t tp with | .tuple l=>(l[i]?).map fun v=>(v,H) | _=>none)=_
  unfold ex at h1
  split at h1
  ·rename_i l hl;first | (rw[hl];simp only[h1];rfl) | (simp only[h1];rfl)
  ·cases h1
 case typeAssert x a JC ok=>
  unfold eU at h
  simp only at h
  show ∃ v H',(F4 P JC (ev P.globals.size t x) ok).map (fun v=>(v,H))=some (v,H')/\_
  split at h
  ·cases h
  ·rename_i d cL hu
   obtain⟨v,h1,h2⟩:=fu h
   refine⟨v,H,?_,h2⟩
   unfold ta at h1
   split at h1
   ·rename_i u w hx
    rw[hx]
    unfold F4
    split at h1
    ·rename_i he
     cases h1
     cases d<;>first | (exact absurd rfl (cL _)) | (rw[hu];simp only[he,if_true];rfl)
    ·cases h1
   ·cases h1
  ·cases h
 case call c=>
  obtain⟨callee,args,rI⟩:=c
  cases callee with
  | value f=>exact tn h
  | invoke r m=>cases h
  | builtin b=>exact apV h
 all_goals cases h
end K
end Go.Proofs.YtehhgkgeldinkaaGreatDoor.Am
