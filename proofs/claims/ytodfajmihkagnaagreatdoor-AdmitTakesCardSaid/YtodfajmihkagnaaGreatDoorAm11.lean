/- What an operation does, its types resolved, and that it is the evaluator's (of no program). -/
import Derived.Test.YtodfajmihkagnaaGreatDoorAm10
set_option linter.unusedVariables false
set_option linter.unusedSimpArgs false
namespace Go.Proofs.YtodfajmihkagnaaGreatDoor.Am
section
section
set_option linter.unusedVariables false
set_option linter.unusedSimpArgs false
namespace K
def pk (c a b:AV):Option AV:=match c with | .bool q=>some (bif q then a else b) | _=>none
def bx (ty:Nat)(x:AV)(H:Hp):Option (Nat × Hp):=match pJ x with | some l=>aE H l ty 0 | none=>none
def fl (z:List AV):List (Nat × Nat × AV)->Option (List AV)
 | []=>some z
 | (off,size,v)::r=>match pJ v with
  | some cs=>if cs.length=size/\off+size<=z.length then fl (z.take off++cs++z.drop (off+size)) r else none
  | none=>none
def st (n:Nat)(x v:AV)(H:Hp):Option Hp:=match x with
 | .ptr i o=>match pJ v with
  | some cs=>bif Nat.beq n cs.length then setCells H i o cs else none
  | none=>none
 | _=>none
def fa (off:Nat)(x:AV):Option AV:=match x with | .ptr i o=>some (.ptr i (o+off)) | _=>none
def fd (off:Nat)(x:AV):Option AV:=match x with | .agg cs=>cs[off]? | _=>none
def Y9 (n off:Nat)(x:AV):Option AV:=match x with | .agg cs=>bif Nat.ble (off+n) cs.length then some (.agg ((cs.drop off).take n)) else none | _=>none
def ia (s:Nat)(x ix:AV):Option AV:=match x,ix with
 | .slice i off len _ _ es,.int _ k=>if s=es/\0<=k/\k<len then some (.ptr i (off+k.toNat*es)) else none
 | _,_=>none
def nj (n s:Nat)(x ix:AV):Option AV:=match x,ix with
 | .ptr i off,.int _ k=>if 0<=k/\k<n then some (.ptr i (off+k.toNat*s)) else none
 | _,_=>none
def ue (x ix:AV):Option AV:=match x,ix with
 | .str s,.int _ k=>if 0<=k then (s[k.toNat]?).map fun (b:Nat) => .int .u8 b else none
 | _,_=>none
def ex (i:Nat)(x:AV):Option AV:=match x with | .tuple l=>l[i]? | _=>none
def ta (t:Nat)(ok:Bool)(x:AV):Option AV:=match x with | .iface u v=>if u=t then some (bif ok then .tuple [v,.bool true] else v) else none | _=>none
def ii (f:IntKind->Int->Int->Option AV)(x y:AV):Option AV:=match x,y with | .int k a,.int k' b=>if k=k' then f k a b else none | _,_=>none
def i2 (f:IntKind->Int->Int->Option AV)(x y:AV):Option AV:=match x,y with | .int k a,.int _ b=>f k a b | _,_=>none
def bS:=ii fun k a b=>some (.int k (k.wrap (a+b)))
def mY:=ii fun k a b=>some (.int k (k.wrap (a-b)))
def wB:=ii fun k a b=>some (.int k (k.wrap (a*b)))
def Bf:=ii fun k a b=>if b=0 then none else some (.int k (k.wrap (a.tdiv b)))
def Qr:=ii fun k a b=>if b=0 then none else some (.int k (a.tmod b))
def Pz:=ii fun k a b=>some (.int k (k.wrap (nw k a &&& nw k b:Nat)))
def LX:=ii fun k a b=>some (.int k (k.wrap (nw k a ||| nw k b:Nat)))
def Rj:=ii fun k a b=>some (.int k (k.wrap (nw k a ^^^ nw k b:Nat)))
def bG:=ii fun _ a b=>some (.bool (a==b))
def hY:=ii fun _ a b=>some (.bool (a != b))
def cB:=ii fun _ a b=>some (.bool (a<b))
def nZ:=ii fun _ a b=>some (.bool (a<=b))
def lE:=ii fun _ a b=>some (.bool (b<a))
def lJ:=ii fun _ a b=>some (.bool (b<=a))
def zG:=i2 fun k a b=>if b<0 then none else some (.int k (k.wrap (a*2 ^ (min b.toNat k.bits))))
def Ag:=i2 fun k a b=>if b<0 then none else some (.int k (a.fdiv (2 ^ (min b.toNat k.bits))))
def Gb (op:BinOp)(x y:AV):Option AV:=match op with
 | .add=>bS x y | .sub=>mY x y | .mul=>wB x y | .quo=>Bf x y | .rem=>Qr x y | .and=>Pz x y | .or=>LX x y | .xor=>Rj x y | .shl=>zG x y | .shr=>Ag x y | .andNot=>none
 | .eql=>bG x y | .neq=>hY x y | .lss=>cB x y | .leq=>nZ x y | .gtr=>lE x y | .geq=>lJ x y
def ss (f:List Nat->List Nat->Option AV)(x y:AV):Option AV:=match x,y with | .str a,.str b=>f a b | _,_=>none
def oI:=ss fun a b=>bif Nat.ble (a.length+b.length) 4294967296 then some (.str (a++b)) else none
def seq:=ss fun a b=>some (.bool (a==b))
def qH:=ss fun a b=>some (.bool (!(a==b)))
def slt:=ss fun a b=>some (.bool (qm a b))
def sle:=ss fun a b=>some (.bool (qm a b||a==b))
def Sq:=ss fun a b=>some (.bool (!(qm a b||a==b)))
def MB:=ss fun a b=>some (.bool (!(qm a b)))
def FB (op:BinOp)(x y:AV):Option AV:=match op with
 | .add=>oI x y | .eql=>seq x y | .neq=>qH x y | .lss=>slt x y | .leq=>sle x y | .gtr=>Sq x y | .geq=>MB x y | _=>none
def pe (x y:AV)(H:Hp):Option Bool:=match x,y with
 | .fB,.fB=>some true
 | .fB,.ptr _ _=>some false
 | .ptr _ _,.fB=>some false
 | .ptr i a,.ptr j b=>bif Nat.beq i j then some (Nat.beq a b) else bif clean H i&&clean H j then some false else none
 | _,_=>none
def Dx (op:BinOp)(o:Option Bool):Option AV:=match op with
 | .eql=>o.map .bool
 | .neq=>o.map fun b => .bool !b
 | _=>none
def cv (k:IntKind)(x:AV):Option AV:=match x with | .int _ n=>some (.int k (k.wrap n)) | _=>none
def cvs (x:AV):Option AV:=match x with | .str s=>some (.str s) | _=>none
def nJ (x:AV)(lo hi:Option AV):Option AV:=match x with
 | .str s=>(qV s.length s.length lo hi none).map fun p => .str ((s.drop p.1).take (p.2.1-p.1))
 | _=>none
def qq (s:Nat)(x:AV)(lo hi mx:Option AV):Option AV:=match x with
 | .ah=>(qV 0 0 lo hi mx).map fun _ => .ah
 | .slice i off len cap ex es=>(qV len cap lo hi mx).bind fun p=>if s=es then some (.slice i (off+p.1*es) (p.2.1-p.1) (p.2.2-p.1) (ex||mx.isSome) es) else none
 | _=>none
def xj (z:List AV)(el s:Nat)(l c:AV)(H:Hp):Option (AV × Hp):=match l,c with
 | .int _ l,.int _ c=>if 0<=l/\l<=c/\c<=1048576 then (aE H (rep c.toNat z) el 0).map fun r=>(.slice r.1 0 l.toNat c.toNat true s,r.2) else none
 | _,_=>none
inductive KT where | str | int
def xh (kt:KT)(x y:AV):Option Bool:=match kt with
 | .str=>(match x,y with | .str a,.str b=>some (a==b) | _,_=>none)
 | .int=>(match x,y with | .int k a,.int k' b=>if k=k' then some (a==b) else none | _,_=>none)
def nk (kt:KT)(k:AV):List ME->Bool
 | []=>true
 | e::es=>match xh kt k e.key with
  | some false=>nk kt k es
  | _=>false
def fk (kt:KT)(k:AV):List ME->Nat->Option (Option (Nat × ME))
 | [],_=>some none
 | e::es,i=>match xh kt k e.key with
  | some true=>bif nk kt k es then some (some (i,e)) else none
  | some false=>fk kt k es (i+1)
  | none=>none
def uz (kt:KT)(z:AV)(ok:Bool)(x k:AV)(H:Hp):Option AV:=match mapOf H x with
 | some (es,_)=>match fk kt k es 0 with
  | some (some (_,m))=>some (bif ok then .tuple [m.val,.bool true] else m.val)
  | some none=>some (bif ok then .tuple [z,.bool false] else z)
  | none=>none
 | none=>none
def th (kt:KT)(x k v:AV)(H:Hp):Option Hp:=match x with
 | .map i=>match H.h.get i with
  | some (.map es c)=>match fk kt k es 0 with
   | some (some (j,m))=>bif Aj m.key k then some (setObj H i (.map (es.set j { m with key:=k,val:=v }) c)) else none
   | some none=>some (setObj H i (.map (es++[⟨k,v,c⟩]) (c+1)))
   | none=>none
  | _=>none
 | _=>none
def QC (kt:KT)(m k:AV)(H:Hp):Option Hp:=match m with
 | .ja=>some H
 | .map i=>match H.h.get i with
  | some (.map es c)=>match fk kt k es 0 with
   | some (some (j,_))=>some (setObj H i (.map (es.eraseIdx j) c))
   | some none=>some H
   | none=>none
  | _=>none
 | _=>none
def xc (H:Hp):Option (Nat × Hp):=alloc H (.map [] 0)
def bq (x:AV):Option AV:=match x with | .ah=>some (.int .i64 0) | .slice _ _ n _ _ _=>some (.int .i64 n) | _=>none
def lens (x:AV):Option AV:=match x with | .str s=>some (.int .i64 s.length) | _=>none
def VX (x:AV)(H:Hp):Option AV:=match x with
 | .ja=>some (.int .i64 0)
 | .map i=>match H.h.get i with | some (.map es _)=>some (.int .i64 es.length) | _=>none
 | _=>none
def Aw (es:Nat)(z:List AV)(eV:Bool)(x:AV)(H:Hp):Option (Nat × List AV):=match eV,x with
 | true,.int .i64 k=>if 0<=k/\k<16777216 then some (k.toNat,rep k.toNat z) else none
 | false,.ah=>some (0,[])
 | false,.slice i off len _ _ _=>(av H i off (len*es)).map fun l=>(len,l)
 | false,.str s=>if es=1 then some (s.length,s.map fun (b:Nat)=>AV.int .u8 b) else none
 | _,_=>none
def Dp (el es:Nat)(n:Nat)(new:List AV)(s:AV)(H:Hp):Option (AV × Hp):=match s with
 | .ah=>
  bif Nat.beq n 0 then some (.ah,H) else
  bif Nat.ble n 16777216 then (aE H new el 0).map fun r=>(.slice r.1 0 n n false es,r.2) else none
 | .slice i off len cap ex aL=>
  bif Nat.ble (len+n) 16777216&&Nat.beq es aL&&new.all ba then
  bif Nat.ble (len+n) cap then (setCells H i (off+len*es) new).map fun H=>(.slice i off (len+n) cap ex es,H)
  else bif ex then (av H i off (len*es)).bind fun eZ=>(aE H (eZ++new) el 0).map fun r=>(.slice r.1 0 (len+n) (len+n) false es,r.2)
  else match H.h.get i with
   | some (.cells c lo hi sN fl)=>
    bif Nat.ble fl 1&&Nat.ble lo off&&Nat.ble (off+len*es) hi&&Nat.beq el sN then
     (alloc { H with h:=H.h.del i } (.cells (c.bZ (off+len*es) new) off (off+(len+n)*es) el 1)).map fun r=>(.slice r.1 off (len+n) (len+n) false es,r.2)
    else none
   | _=>none
  else none
 | _=>none
def gw (el es:Nat)(z:List AV)(eV:Bool)(s x:AV)(H:Hp):Option (AV × Hp):=match Aw es z eV x H with
 | some (n,new)=>Dp el es n new s H
 | none=>none
def Cf (es:Nat)(d x:AV)(H:Hp):Option (AV × Hp):=match IL x with
 | some xl=>match d with
  | .ah=>some (.int .i64 0,H)
  | .slice i off dl _ _ _=>
   bif Nat.beq (Nat.min xl dl) 0 then some (.int .i64 0,H) else
   match MS es (Nat.min xl dl) x H with
   | some cs=>(setCells H i off cs).map fun H=>(.int .i64 (Nat.min xl dl),H)
   | none=>none
  | _=>none
 | none=>none
def Cy (x:AV)(H:Hp):Option AV:=match x with
 | .ah=>some (.str [])
 | .slice i off len _ _ _=>bif Nat.beq len 0 then some (.str []) else (av H i off len).bind fun cs=>(uV cs).map .str
 | _=>none
def X4 (el:Nat)(x:AV)(H:Hp):Option (AV × Hp):=match x with
 | .str s=>(aE H (s.map fun (b:Nat)=>AV.int .u8 b) el 1).map fun r=>(.slice r.1 0 s.length s.length false 1,r.2)
 | _=>none
end K
set_option linter.unusedVariables false
set_option linter.unusedSimpArgs false
namespace K
variable (P:Program)
def qX (kt:TypeId):Option KT:=match P.underlying kt with | some .string=>some .str | some (.int _)=>some .int | _=>none
def Tg (ty:TypeId)(f:Nat):Option Nat:=match P.underlying ty with
 | some (.struct fs)=>match fs[f]? with
  | some fd=>bif xC P fd.type then some fd.offset else none
  | none=>none
 | _=>none
inductive CL where | int | str | bool | ptr | other
def MN (t:TypeId):CL:=match P.underlying t with | some (.int _) => .int | some .string => .str | some .bool => .bool | some (.pointer el)=>(match sz P el with | some (_+1) => .ptr | _ => .other) | _ => .other
def bb (op:BinOp)(x y:AV):Option AV:=match op,x,y with
 | .eql,.bool a,.bool b=>some (.bool (a==b))
 | .neq,.bool a,.bool b=>some (.bool (!(a==b)))
 | _,_,_=>none
def gA (op:BinOp)(t:TypeId)(c:Bool)(x y:AV):Bool:=match op with
 | .eql | .neq=>(match x,y with | .nilIface,.nilIface=>c | .agg _,.agg _ => !(P.eqGuardType P.depth t) | _,_=>true)
 | _=>true
def DO (op:BinOp)(t:TypeId)(X Y:Operand)(x y:AV)(H:Hp)(k:AV->R):R:=match MN P t with
 | .int=>B1 (Gb op x y) k
 | .str=>B1 (FB op x y) k
 | .bool=>B1 (bb op x y) k
 | .ptr=>B1 (Dx op (pe x y H)) k
 | .other=>qE (gA P op t (uY X||uY Y) x y) (B1 (eA P op t x y H) k)
def BE (a b:TypeId)(x:AV)(H:Hp)(k:AV->Hp->R):R:=match P.underlying a,P.underlying b with
 | some (.int _),some (.int q)=>B1 (cv q x) fun v=>k v H
 | some .string,some .string=>B1 (cvs x) fun v=>k v H
 | some (.slice e),some .string=>(match P.underlying e with | some (.int .u8)=>B1 (Cy x H) fun v=>k v H | _=>none)
 | some .string,some (.slice e)=>(match P.underlying e with | some (.int .u8)=>B2 (X4 e x H) k | _=>none)
 | _,_=>B2 (iY P a b x H) k
def Dq (t:TypeId)(x:AV)(lo hi mx:Option AV)(H:Hp)(k:AV->R):R:=match P.underlying t with
 | some .string=>(match mx with | none=>B1 (nJ x lo hi) k | some _=>none)
 | some (.slice el)=>(match sz P el with | some s=>B1 (qq s x lo hi mx) k | none=>none)
 | _=>B1 (rq P t x lo hi mx H) k
def Dm (b:Builtin)(ty:Array TypeId)(args:List AV)(H:Hp)(k:AV->Hp->R):R:=match b,args with
 | .len,[x]=>(match (ty[0]?).bind P.underlying with
  | some .string=>B1 (lens x) fun v=>k v H
  | some (.slice _)=>B1 (bq x) fun v=>k v H
  | some (.map _ _)=>B1 (VX x H) fun v=>k v H
  | _=>B2 (gG P .len ty args H) k)
 | .append,[s,x]=>(match (ty[0]?).bind P.underlying,Ca P ty with
  | some (.slice el),some eV=>(match sz P el,zc P el with
   | some es,some z=>bif Nat.ble (P.bytesOf el) 4096&&Nat.beq z.length es then B2 (gw el es z eV s x H) k else none
   | _,_=>none)
  | _,_=>none)
 | .copy,[d,x]=>(match (ty[0]?).bind P.underlying with
  | some (.slice el)=>(match sz P el with
   | some es=>B2 (Cf es d x H) k
   | none=>none)
  | _=>none)
 | .delete,[m,q]=>(match (ty[0]?).bind P.underlying with
  | some (.map kt _)=>(match qX P kt with
   | some kt=>B1 (QC kt m q H) fun H=>k bK H
   | none=>B2 (gG P .delete ty args H) k)
  | _=>none)
 | b,args=>B2 (gG P b ty args H) k
def eh (cf:CF)(o:Oper)(t:Tm)(H:Hp)(k:AV->Hp->R):R:=
 match o.op with
 | .move x=>k (ev P.globals.size t x) H
 | .assign x=>k (ev P.globals.size t x) H
 | .pick c a b=>B1 (pk (ev P.globals.size t c) (ev P.globals.size t a) (ev P.globals.size t b)) fun v=>k v H
 | .alloc ty=>(match zc P ty with | some l=>BN (aE H l ty 0) fun i H=>k (.ptr i 0) H | none=>none)
 | .box ty x=>BN (bx ty (ev P.globals.size t x) H) fun i H=>k (.ptr i 0) H
 | .build ty ps=>(match zc P ty,P.underlying ty with
  | some z,some (.struct fs)=>(match Mj P fs with
   | some pl=>(match qZ (fun (p:Nat × Operand)=>(pl[p.1]?).map fun q=>(q.1,q.2,ev P.globals.size t p.2)) ps.toList with
    | some l=>B1 (fl z l) fun l=>k (.agg l) H
    | none=>none)
   | none=>none)
  | some z,some (.array _ el)=>(match sz P el with
   | some s=>B1 (fl z (ps.toList.map fun p=>(p.1*s,s,ev P.globals.size t p.2))) fun l=>k (.agg l) H
   | none=>none)
  | _,_=>none)
 | .buildSlice ty n ps=>(match P.underlying ty with
  | some (.slice el)=>(match sz P el with
   | some s=>bif Nat.ble (n*s) 65536 then (match yD P el s n with
    | some z=>B1 (fl z (ps.toList.map fun p=>(p.1*s,s,ev P.globals.size t p.2))) fun l=>BN (aE H l el 0) fun i H=>k (.slice i 0 n n true s) H
    | none=>none) else none
   | none=>none)
  | _=>none)
 | .insert ty m q v=>(match P.underlying ty with
  | some (.map kt _)=>(match qX P kt with
   | some kt=>B1 (th kt (ev P.globals.size t m) (ev P.globals.size t q) (ev P.globals.size t v) H) fun H=>k bK H
   | none=>B1 (nH P ty (ev P.globals.size t m) (ev P.globals.size t q) (ev P.globals.size t v) H) fun H=>k bK H)
  | _=>none)
 | .mapUpdate ty m q v=>(match P.underlying ty with
  | some (.map kt _)=>(match qX P kt with
   | some kt=>B1 (th kt (ev P.globals.size t m) (ev P.globals.size t q) (ev P.globals.size t v) H) fun H=>k bK H
   | none=>B1 (nH P ty (ev P.globals.size t m) (ev P.globals.size t q) (ev P.globals.size t v) H) fun H=>k bK H)
  | _=>none)
 | .load ty a=>(match wu P ty,sz P ty with
  | some true,some n=>B1 (aA n (ev P.globals.size t a) H) fun v=>k v H
  | some false,_=>B1 (ld (ev P.globals.size t a) H) fun v=>k v H
  | _,_=>none)
 | .store ty a v=>(match sz P ty with | some n=>B1 (st n (ev P.globals.size t a) (ev P.globals.size t v) H) fun H=>k bK H | none=>none)
 | .nilCheck x=>B1 (aV (ev P.globals.size t x)) fun v=>k v H
 | .binOp op ty x y _=>DO P op ty x y (ev P.globals.size t x) (ev P.globals.size t y) H fun v=>k v H
 | .unOp op _ x=>B1 (fT op (ev P.globals.size t x)) fun v=>k v H
 | .convert a b x=>BE P a b (ev P.globals.size t x) H k
 | .makeInterface ty x=>(match Lr P ty (ev P.globals.size t x) with | some v=>k v H | none=>none)
 | .makeFunc fn a b=>(match IB fn (a.toList.map (ev P.globals.size t)) (b.toList.map (ev P.globals.size t)) with | some v=>k v H | none=>none)
 | .makeMap _ none=>BN (xc H) fun i H=>k (.map i) H
 | .makeSlice ty l c=>(match P.underlying ty with
  | some (.slice el)=>(match sz P el,zc P el with
   | some s,some z=>bif Nat.ble (P.bytesOf el) 4096&&Nat.beq z.length s then B2 (xj z el s (ev P.globals.size t l) (ev P.globals.size t c) H) k else none
   | _,_=>none)
  | _=>none)
 | .slice ty x lo hi mx=>Dq P ty (ev P.globals.size t x) (lo.map (ev P.globals.size t)) (hi.map (ev P.globals.size t)) (mx.map (ev P.globals.size t)) H fun v=>k v H
 | .fieldAddr ty x f=>(match Tg P ty f with | some off=>B1 (fa off (ev P.globals.size t x)) fun v=>k v H | none=>none)
 | .field ty x f=>(match P.underlying ty with
  | some (.struct fs)=>(match fs[f]? with
   | some d=>(match wu P d.type,sz P d.type with
    | some true,some n=>B1 (Y9 n d.offset (ev P.globals.size t x)) fun v=>k v H
    | some false,_=>B1 (fd d.offset (ev P.globals.size t x)) fun v=>k v H
    | _,_=>none)
   | none=>none)
  | _=>none)
 | .indexAddr ty x ix=>(match P.underlying ty with
  | some (.slice el)=>(match sz P el with | some s=>B1 (ia s (ev P.globals.size t x) (ev P.globals.size t ix)) fun v=>k v H | none=>none)
  | some (.array n el)=>(match sz P el with | some s=>B1 (nj n s (ev P.globals.size t x) (ev P.globals.size t ix)) fun v=>k v H | none=>none)
  | _=>none)
 | .index ty x ix=>(match P.underlying ty with
  | some .string=>B1 (ue (ev P.globals.size t x) (ev P.globals.size t ix)) fun v=>k v H
  | _=>B1 (DA P ty (ev P.globals.size t x) (ev P.globals.size t ix)) fun v=>k v H)
 | .lookup ty x q ok=>(match P.underlying ty with
  | some (.map kt el)=>(match qX P kt,((P.info? el).bind (·.zero)).bind jr with
   | some kt,some z=>B1 (uz kt z ok (ev P.globals.size t x) (ev P.globals.size t q) H) fun v=>k v H
   | _,_=>B1 (pZ P ty (ev P.globals.size t x) (ev P.globals.size t q) ok H) fun v=>k v H)
  | _=>none)
 | .range ty x=>B2 (xF P ty (ev P.globals.size t x) H) k
 | .next it s=>B2 (vV (ev P.globals.size t it) s H) k
 | .entry it=>B1 (I1 (ev P.globals.size t it) H) fun v=>k v H
 | .extract tp i=>B1 (ex i (ev P.globals.size t tp)) fun v=>k v H
 | .typeAssert x _ KW ok=>(match P.underlying KW with
  | some (.interface _)=>none
  | some _=>B1 (ta KW ok (ev P.globals.size t x)) fun v=>k v H
  | none=>none)
 | .call { callee := .value f,args,.. }=>B2 (cf (ev P.globals.size t f) (args.toList.map (ev P.globals.size t)) H) k
 | .call { callee := .builtin b,args,argTypes }=>Dm P b argTypes (args.toList.map (ev P.globals.size t)) H k
 | _=>none
end K
end
set_option linter.unusedVariables false
set_option linter.unusedSimpArgs false
namespace K
variable {P:Program}
theorem agz {op:BinOp}{x y v:AV}{t:TypeId}{H:Hp}(h:Gb op x y=some v):eA P op t x y H=some v:=by
 cases op<;>simp only[Gb,bS,mY,wB,Bf,Qr,Pz,LX,Rj,bG,hY,cB,nZ,lE,lJ,zG,Ag,ii,i2,reduceCtorEq] at h <;>
  (split at h<;>first | (cases h;done) | exact h)
theorem apM {op:BinOp}{x y v:AV}{t:TypeId}{H:Hp}(h:FB op x y=some v):eA P op t x y H=some v:=by
 cases op<;>simp only[FB,oI,seq,qH,slt,sle,Sq,MB,ss,reduceCtorEq] at h <;>
  (split at h<;>first | (cases h;done) | exact h)
theorem ajB {op:BinOp}{x y v:AV}(h:Gb op x y=some v):∃ k a k' b,x = .int k a/\y = .int k' b:=by
 cases op<;>simp only[Gb,bS,mY,wB,Bf,Qr,Pz,LX,Rj,bG,hY,cB,nZ,lE,lJ,zG,Ag,ii,i2,reduceCtorEq] at h <;>
  (split at h<;>first | (cases h;done) | exact⟨_,_,_,_,rfl,rfl⟩)
theorem ahm {op:BinOp}{x y v:AV}(h:FB op x y=some v):∃ a b,x = .str a/\y = .str b:=by
 cases op<;>simp only[FB,oI,seq,qH,slt,sle,Sq,MB,ss,reduceCtorEq] at h <;>
  (split at h<;>first | (cases h;done) | exact⟨_,_,rfl,rfl⟩)
theorem afU {op:BinOp}{t:TypeId}{X Y:Operand}{k k':IntKind}{a b:Int}:rO P op t X Y (.int k a) (.int k' b)=true:=by cases op<;>rfl
theorem acx {op:BinOp}{t:TypeId}{X Y:Operand}{a b:List Nat}:rO P op t X Y (.str a) (.str b)=true:=by cases op<;>rfl
theorem agd {op:BinOp}{t:TypeId}{X Y:Operand}{x y:AV}{H:Hp}{k:AV->R}{r:AV × Hp}(h:DO P op t X Y x y H k=some r) :
  ∃ v,(bif rO P op t X Y x y then (eA P op t x y H).map fun v=>(v,H) else none)=some (v,H)/\k v=some r:=by
 unfold DO at h
 split at h
 ·obtain⟨v,h1,h2⟩:=eM h
  obtain⟨_,_,_,_,rfl,rfl⟩:=ajB h1
  exact⟨v,by rw[afU,agz h1];rfl,h2⟩
 ·obtain⟨v,h1,h2⟩:=eM h
  obtain⟨_,_,rfl,rfl⟩:=ahm h1
  exact⟨v,by rw[acx,apM h1];rfl,h2⟩
 ·rename_i hc
  obtain⟨v,h1,h2⟩:=eM h
  have hu:P.underlying t=some .bool:=by
   unfold MN at hc
   split at hc<;>first | (cases hc;done) | assumption | skip
   split at hc<;>cases hc
  unfold bb at h1
  split at h1
  ·cases h1
   refine⟨_,?_,h2⟩
   have hb:∀ a b,eA P .eql t (.bool a) (.bool b) H=some (.bool (a==b)):=by intro a b;simp only[eA];unfold dC;rw[hu];rfl
   rw[hb];rfl
  ·cases h1
   refine⟨_,?_,h2⟩
   have hb:∀ a b,eA P .neq t (.bool a) (.bool b) H=some (.bool (!(a==b))):=by intro a b;simp only[eA];unfold dC;rw[hu];rfl
   rw[hb];rfl
  ·cases h1
 ·rename_i hc
  obtain⟨v,h1,h2⟩:=eM h
  have hu:∃ el n,P.underlying t=some (.pointer el)/\sz P el=some (n+1):=by
   unfold MN at hc
   split at hc<;>first | (cases hc;done) | skip
   rename_i el hu
   split at hc
   ·rename_i n hs;exact⟨el,n,hu,hs⟩
   ·cases hc
  obtain⟨el,n,hu,hs⟩:=hu
  have he:∀ q,pe x y H=some q->dC P 50 t x y H=some q:=by
   intro q hq
   unfold pe at hq
   unfold dC
   rw[hu]
   cases x<;>cases y<;>first | (cases hq;done) | (cases hq;rfl) | skip
   simp only[hs]
   exact hq
  have hx:(∃ i j,x = .ptr i j)\/x = .fB:=by
   unfold Dx at h1
   cases hp:pe x y H with
   | none=>rw[hp] at h1;cases op<;>cases h1
   | some q=>
    unfold pe at hp
    cases x<;>first | (cases y<;>cases hp;done) | exact .inl ⟨_,_,rfl⟩ | exact .inr rfl
  have hg:rO P op t X Y x y=true:=by
   rcases hx with⟨i,j,rfl⟩ | rfl<;>(cases op<;>first | rfl | (cases y<;>rfl))
  refine⟨v,?_,h2⟩
  rw[hg]
  cases hp:pe x y H with
  | none=>rw[hp] at h1;cases op<;>cases h1
  | some q=>
   rw[hp] at h1
   have:=he q hp
   rcases hx with⟨i,j,rfl⟩ | rfl<;>(cases op<;>first | (cases h1;done) | skip) <;>
    (cases h1;cases y<;>first | (unfold pe at hp;cases hp;done) | (simp only[eA,this];rfl))
 ·have hga:gA P op t (uY X||uY Y) x y=rO P op t X Y x y:=rfl
  rw[hga] at h
  cases hg:rO P op t X Y x y with
  | false=>rw[hg] at h;cases h
  | true=>
   rw[hg] at h
   obtain⟨v,h1,h2⟩:=eM h
   exact⟨v,by rw[h1];rfl,h2⟩
theorem Ly (place:Nat->Option (Nat × Nat)):∀ (ps:List (Nat × AV)) (qs:List (Nat × Nat × AV)) (z l:List AV),qZ (fun (p:Nat × AV)=>(place p.1).map fun q=>(q.1,q.2,p.2)) ps=some qs->fl z qs=some l->sJ place z ps=some l
 | [],qs,z,l,h,hf=>by cases h;exact hf
 | (i,v)::ps,qs,z,l,h,hf=>by
  unfold qZ at h
  cases hp:place i with
  | none=>rw[hp] at h;cases h
  | some q=>
   rw[hp] at h
   simp only[aek] at h
   split at h
   ·rename_i r hr
    cases h
    unfold fl at hf
    unfold sJ
    rw[hp]
    simp only
    split at hf
    ·rename_i cs fu
     rw[fu]
     simp only
     split at hf
     ·rename_i hc
      rw[if_pos hc]
      exact Ly place ps r _ l hr hf
     ·cases hf
    ·cases hf
   ·cases h
theorem PL {kt:TypeId}{K:KT}(hk:qX P kt=some K){x y:AV}{H:Hp}{b:Bool}(h:xh K x y=some b):dC P 20 kt x y H=some b:=by
 unfold qX at hk
 split at hk
 ·rename_i hu
  cases hk
  unfold xh at h
  simp only at h
  split at h
  ·unfold dC;rw[hu];exact h
  ·cases h
 ·rename_i q hu
  cases hk
  unfold xh at h
  simp only at h
  split at h
  ·unfold dC;rw[hu];exact h
  ·cases h
 ·cases hk
theorem X9 {kt:TypeId}{K:KT}(hk:qX P kt=some K){H:Hp}{q:AV}:∀ es:List ME,nk K q es=true->vE P H kt q es=true
 | [],h=>rfl
 | e::es,h=>by
  unfold nk at h
  unfold vE
  split at h
  ·rename_i h1;rw[PL hk h1];exact X9 hk es h
  ·cases h
theorem AL {kt:TypeId}{K:KT}(hk:qX P kt=some K){H:Hp}{q:AV}:∀ (es:List ME) (i:Nat) (r:Option (Nat × ME)),fk K q es i=some r->mz P H kt q es i=some r
 | [],i,r,h=>h
 | e::es,i,r,h=>by
  unfold fk at h
  unfold mz
  split at h
  ·rename_i h1
   rw[PL hk h1]
   cases hn:nk K q es with
   | false=>rw[hn] at h;cases h
   | true=>rw[hn] at h;rw[X9 hk es hn];exact h
  ·rename_i h1;rw[PL hk h1];exact AL hk es (i+1) r h
  ·cases h
theorem Qo {kt:TypeId}{K:KT}(hk:qX P kt=some K)(v:AV):nc P 20 kt v=true:=by
 unfold qX at hk
 unfold nc
 split at hk
 ·rename_i hu;rw[hu]
 ·rename_i q hu;rw[hu]
 ·cases hk
theorem ah1 {ty kt el:TypeId}{K:KT}{z:AV}{ok:Bool}{x q v:AV}{H:Hp}(hu:P.underlying ty=some (.map kt el))(hk:qX P kt=some K)(hz:((P.info? el).bind (·.zero)).bind jr=some z)(h:uz K z ok x q H=some v):pZ P ty x q ok H=some v:=by
 unfold pZ
 rw[hu]
 simp only[Qo hk,cond_true]
 unfold uz at h
 split at h
 ·rename_i es c hm
  rw[hm]
  simp only
  split at h
  ·rename_i i m hf
   rw[AL hk es 0 _ hf]
   cases h;rfl
  ·rename_i hf
   rw[AL hk es 0 _ hf]
   simp only[hz]
   cases h;cases ok<;>rfl
  ·cases h
 ·cases h
theorem Qz {ty kt el:TypeId}{K:KT}{x q v:AV}{H H':Hp}(hu:P.underlying ty=some (.map kt el))(hk:qX P kt=some K)(h:th K x q v H=some H'):nH P ty x q v H=some H':=by
 unfold nH
 rw[hu]
 unfold th at h
 split at h
 ·rename_i i
  simp only[Qo hk,cond_true]
  split at h
  ·rename_i es c hg
   rw[hg]
   simp only
   split at h
   ·rename_i j m hf
    rw[AL hk es 0 _ hf]
    exact h
   ·rename_i hf
    rw[AL hk es 0 _ hf]
    exact h
   ·cases h
  ·cases h
 ·cases h
theorem ajZ {ty:Array TypeId}{t0 kt el:TypeId}{K:KT}{m q:AV}{H H':Hp}(ht:(ty[0]?).bind P.underlying=some (.map kt el))(hk:qX P kt=some K)(h:QC K m q H=some H'):BZ P ty m q H=some H':=by
 unfold BZ
 rw[ht]
 simp only[Qo hk,cond_true]
 unfold QC at h
 split at h
 ·exact h
 ·rename_i i
  simp only
  split at h
  ·rename_i es c hg
   rw[hg]
   simp only
   split at h
   ·rename_i j m hf
    rw[AL hk es 0 _ hf]
    exact h
   ·rename_i hf
    rw[AL hk es 0 _ hf]
    exact h
   ·cases h
  ·cases h
 ·cases h
theorem aoV {ty:Array TypeId}{el es:Nat}{z:List AV}{eV:Bool}{s x v:AV}{H H':Hp}(ht:(ty[0]?).bind P.underlying=some (.slice el))(hz:Ca P ty=some eV)(hs:sz P el=some es)(B6:zc P el=some z)
  (hc:(Nat.ble (P.bytesOf el) 4096&&Nat.beq z.length es)=true) (h:gw el es z eV s x H=some (v,H')):Ee P ty s x H=some (v,H'):=by
 unfold Ee
 rw[ht,hz]
 simp only[hs,B6,hc,cond_true]
 unfold gw at h
 have hlen:z.length=es:=by
  simp only[aaG,Nat.beq_eq] at hc
  exact hc.2
 have hn:∀ r,Aw es z eV x H=some r->E9 P eV el es x H=some r:=by
  intro r hr
  unfold Aw at hr
  unfold E9
  split at hr
  ·split at hr
   ·rename_i hk
    simp only[if_pos hk,B6,if_pos hlen]
    exact hr
   ·cases hr
  ·exact hr
  ·exact hr
  ·exact hr
  ·cases hr
 split at h
 ·rename_i n new uo
  rw[hn _ uo]
  simp only
  unfold Dp at h
  split at h
  ·cases hb:Nat.beq n 0 with
   | true=>rw[hb] at h;exact h
   | false=>
    rw[hb] at h
    simp only[cond_false] at h ⊢
    cases iv:Nat.ble n 16777216 with
    | false=>rw[iv] at h;cases h
    | true=>
     rw[iv] at h
     simp only[cond_true] at h ⊢
     cases dN:aE H new el 0 with
     | none=>rw[dN] at h;cases h
     | some r=>rw[dN] at h;exact h
  ·rename_i i off len cap ex aL
   cases hb:(Nat.ble (len+n) 16777216&&Nat.beq es aL&&new.all ba) with
   | false=>rw[hb] at h;cases h
   | true=>
    rw[hb] at h
    simp only[cond_true] at h ⊢
    cases iv:Nat.ble (len+n) cap with
    | true=>
     rw[iv] at h
     simp only[cond_true] at h ⊢
     cases hsc:setCells H i (off+len*es) new with
     | none=>rw[hsc] at h;cases h
     | some H2=>rw[hsc] at h;rw[hb];exact h
    | false=>
     rw[iv] at h
     simp only[cond_false] at h ⊢
     cases ex with
     | true=>
      simp only[cond_true] at h ⊢
      cases xo:av H i off (len*es) with
      | none=>rw[xo] at h;cases h
      | some eZ=>
       rw[xo] at h
       simp only[adu] at h ⊢
       cases dN:aE H (eZ++new) el 0 with
       | none=>rw[dN] at h;cases h
       | some r=>rw[dN] at h;rw[hb];exact h
     | false=>
      simp only[cond_false] at h ⊢
      split at h
      ·rename_i c lo hi sN fl hg
       rw[hg]
       simp only
       cases qG:(Nat.ble fl 1&&Nat.ble lo off&&Nat.ble (off+len*es) hi&&Nat.beq el sN) with
       | false=>rw[qG] at h;cases h
       | true=>
        rw[qG] at h
        simp only[cond_true] at h ⊢
        cases dm:alloc { H with h:=H.h.del i } (.cells (c.bZ (off+len*es) new) off (off+(len+n)*es) el 1) with
        | none=>rw[dm] at h;cases h
        | some r=>rw[dm] at h;rw[hb];exact h
      ·cases h
  ·cases h
 ·cases h
theorem am1 {ty:Array TypeId}{el es:Nat}{d x v:AV}{H H':Hp}(ht:(ty[0]?).bind P.underlying=some (.slice el))(hs:sz P el=some es)(h:Cf es d x H=some (v,H')):Hc P ty d x H=some (v,H'):=by
 unfold Hc
 rw[ht]
 unfold Cf at h
 split at h
 ·rename_i xl hl
  simp only[hs,hl]
  split at h
  ·exact h
  ·rename_i i off dl c e f
   simp only
   cases hb:Nat.beq (Nat.min xl dl) 0 with
   | true=>rw[hb] at h;exact h
   | false=>
    rw[hb] at h
    simp only[cond_false] at h ⊢
    split at h
    ·rename_i cs fu;rw[fu];exact h
    ·cases h
  ·cases h
 ·cases h
theorem agM {b:Builtin}{ty:Array TypeId}{args:List AV}{H:Hp}{k:AV->Hp->R}{r:AV × Hp}(h:Dm P b ty args H k=some r):∃ v H',gG P b ty args H=some (v,H')/\k v H'=some r:=by
 unfold Dm at h
 split at h
 ·rename_i x
  split at h
  ·rename_i hu
   obtain⟨v,h1,h2⟩:=eM h
   refine⟨v,H,?_,h2⟩
   unfold lens at h1
   split at h1
   ·cases h1;simp only[gG,yk,hu];rfl
   ·cases h1
  ·rename_i el hu
   obtain⟨v,h1,h2⟩:=eM h
   refine⟨v,H,?_,h2⟩
   unfold bq at h1
   split at h1
   ·cases h1;simp only[gG,yk,hu];rfl
   ·cases h1;simp only[gG,yk,hu];rfl
   ·cases h1
  ·rename_i a b hu
   obtain⟨v,h1,h2⟩:=eM h
   refine⟨v,H,?_,h2⟩
   unfold VX at h1
   split at h1
   ·cases h1;simp only[gG,yk,hu];rfl
   ·simp only[gG,yk,hu]
    exact (congrArg (Option.map fun v=>(v,H)) h1)
   ·cases h1
  ·exact tE h
 ·rename_i s x
  split at h
  ·rename_i el eV hu hz
   split at h
   ·rename_i es z hs B6
    cases hc:(Nat.ble (P.bytesOf el) 4096&&Nat.beq z.length es) with
    | false=>rw[hc] at h;cases h
    | true=>
     rw[hc] at h
     obtain⟨v,H',h1,h2⟩:=tE h
     exact⟨v,H',aoV hu hz hs B6 hc h1,h2⟩
   ·cases h
  ·cases h
 ·rename_i d x
  split at h
  ·rename_i el hu
   split at h
   ·rename_i es hs
    obtain⟨v,H',h1,h2⟩:=tE h
    exact⟨v,H',am1 hu hs h1,h2⟩
   ·cases h
  ·cases h
 ·rename_i m q
  split at h
  ·rename_i kt el hu
   split at h
   ·rename_i K hk
    obtain⟨H',h1,h2⟩:=eM h
    refine⟨bK,H',?_,h2⟩
    show (BZ P ty m q H).map (fun H=>(bK,H))=_
    rw[ajZ (t0:=0) hu hk h1];rfl
   ·exact tE h
  ·cases h
 ·exact tE h
end K
end
set_option linter.unusedVariables false
set_option linter.unusedSimpArgs false
namespace K
variable {P:Program}
theorem JM {α β γ:Type}(f:β->Option γ)(g:α->β):∀ l:List α,qZ f (l.map g)=qZ (fun a=>f (g a)) l
 | []=>rfl
 | a::l=>by
  simp only[adK,qZ,JM f g l]
theorem PQ {α β:Type}(f:α->β):∀ l:List α,qZ (fun a=>some (f a)) l=some (l.map f)
 | []=>rfl
 | a::l=>by
  simp only[adK,qZ,PQ f l]
theorem aj8 {a b:TypeId}{x:AV}{H:Hp}{k:AV->Hp->R}{r:AV × Hp}(h:BE P a b x H k=some r):∃ v H',iY P a b x H=some (v,H')/\k v H'=some r:=by
 unfold BE at h
 split at h
 ·rename_i q q' ha hb
  obtain⟨v,h1,h2⟩:=eM h
  refine⟨v,H,?_,h2⟩
  unfold cv at h1
  split at h1
  ·cases h1;unfold iY;rw[ha,hb]
  ·cases h1
 ·rename_i ha hb
  obtain⟨v,h1,h2⟩:=eM h
  refine⟨v,H,?_,h2⟩
  unfold cvs at h1
  split at h1
  ·cases h1;unfold iY;rw[ha,hb]
  ·cases h1
 ·rename_i e ha hb
  split at h
  ·rename_i he
   obtain⟨v,h1,h2⟩:=eM h
   refine⟨v,H,?_,h2⟩
   unfold Cy at h1
   split at h1
   ·cases h1;unfold iY;rw[ha,hb];simp only[he]
   ·rename_i i off len c x s
    unfold iY;rw[ha,hb];simp only[he]
    cases hl:Nat.beq len 0 with
    | true=>rw[hl] at h1;cases h1;rfl
    | false=>
     rw[hl] at h1
     simp only[cond_false] at h1 ⊢
     cases hc:av H i off len with
     | none=>rw[hc] at h1;cases h1
     | some cs=>
      rw[hc] at h1
      simp only[adu] at h1 ⊢
      cases iv:uV cs with
      | none=>rw[iv] at h1;cases h1
      | some s=>rw[iv] at h1;cases h1;rfl
   ·cases h1
  ·cases h
 ·rename_i e ha hb
  split at h
  ·rename_i he
   obtain⟨v,H',h1,h2⟩:=tE h
   refine⟨v,H',?_,h2⟩
   unfold X4 at h1
   split at h1
   ·rename_i s
    unfold iY;rw[ha,hb];simp only[he]
    cases hn:aE H (s.map fun (b:Nat)=>AV.int .u8 b) e 1 with
    | none=>rw[hn] at h1;cases h1
    | some r=>rw[hn] at h1;exact h1
   ·cases h1
  ·cases h
 ·exact tE h
theorem ajD {t:TypeId}{x:AV}{lo hi mx:Option AV}{H:Hp}{k:AV->R}{r:AV × Hp}(h:Dq P t x lo hi mx H k=some r):∃ v,rq P t x lo hi mx H=some v/\k v=some r:=by
 unfold Dq at h
 split at h
 ·rename_i hu
  split at h
  ·obtain⟨v,h1,h2⟩:=eM h
   refine⟨v,?_,h2⟩
   unfold nJ at h1
   split at h1
   ·rename_i s
    unfold rq
    simp only[hu,acX,adu,afk,abz,if_false]
    cases hb:qV s.length s.length lo hi none with
    | none=>rw[hb] at h1;cases h1
    | some p=>rw[hb] at h1;exact h1
   ·cases h1
  ·cases h
 ·rename_i el hu
  split at h
  ·rename_i s hs
   obtain⟨v,h1,h2⟩:=eM h
   refine⟨v,?_,h2⟩
   unfold qq at h1
   split at h1
   ·unfold rq
    simp only[hu,acX,adu,hs,af7,if_true]
    cases hb:qV 0 0 lo hi mx with
    | none=>rw[hb] at h1;cases h1
    | some p=>rw[hb] at h1;exact h1
   ·rename_i i off len cap ex es
    unfold rq
    simp only[hu,acX,adu,hs]
    cases hb:qV len cap lo hi mx with
    | none=>rw[hb] at h1;cases h1
    | some p=>
     rw[hb] at h1
     simp only[adu] at h1 ⊢
     split at h1
     ·rename_i he;subst he;simpa using h1
     ·cases h1
   ·cases h1
  ·cases h
 ·exact eM h
theorem Jp {cf:CF}{o:Oper}{t:Tm}{H:Hp}{k:AV->Hp->R}{r:AV × Hp}(h:eh P cf o t H k=some r):∃ v H',pB P cf t o H=some (v,H')/\k v H'=some r:=by
 obtain⟨dst,op,SP,pos,after,guard⟩:=o
 cases op
 case move x=>exact⟨_,_,rfl,h⟩
 case assign x=>exact⟨_,_,rfl,h⟩
 case pick c a b=>
  obtain⟨v,h1,h2⟩:=eM h
  refine⟨v,H,?_,h2⟩
  unfold pk at h1
  show (match ev P.globals.size t c with | .bool q=>some (bif q then ev P.globals.size t a else ev P.globals.size t b,H) | _=>none)=_
  split at h1
  ·rename_i q hq;first | (rw[hq];cases h1;rfl) | (cases h1;rfl)
  ·cases h1
 case alloc ty=>
  have h0:(match zc P ty with | some l=>BN (aE H l ty 0) fun i H=>k (.ptr i 0) H | none=>none)=some r:=h
  show ∃ v H',(match zc P ty with | some l=>(aE H l ty 0).map fun r=>(AV.ptr r.1 0,r.2) | none=>none)=some (v,H')/\_
  split at h0
  ·rename_i l hl
   obtain⟨i,H2,h1,h2⟩:=J6 h0
   exact⟨_,_,by rw[h1];rfl,h2⟩
  ·cases h0
 case box ty x=>
  have h0:BN (bx ty (ev P.globals.size t x) H) (fun i H=>k (.ptr i 0) H)=some r:=h
  obtain⟨i,H2,h1,h2⟩:=J6 h0
  refine⟨.ptr i 0,H2,?_,h2⟩
  show (match pJ (ev P.globals.size t x) with | some l=>(aE H l ty 0).map fun r:Nat × Hp=>(AV.ptr r.1 0,r.2) | none=>none)=some (AV.ptr i 0,H2)
  unfold bx at h1
  split at h1
  ·rename_i l hl;first | (rw[hl];simp only[h1];rfl) | (simp only[h1];rfl)
  ·cases h1
 case build ty ps=>
  show ∃ v H',(FW P ty (ps.toList.map fun (i,x)=>(i,ev P.globals.size t x))).map (fun v=>(v,H))=some (v,H')/\_
  unfold eh at h
  simp only at h
  unfold FW
  split at h
  ·rename_i z fs hz hu
   rw[hz,hu]
   simp only
   split at h
   ·rename_i pl ml
    rw[ml]
    simp only
    split at h
    ·rename_i l hl
     obtain⟨l2,h1,h2⟩:=eM h
     refine⟨.agg l2,H,?_,h2⟩
     rw[Ly (pl[·]?) (ps.toList.map fun (i,x)=>(i,ev P.globals.size t x)) l z l2 (by rw[JM];exact hl) h1]
     rfl
    ·cases h
   ·cases h
  ·rename_i z n el hz hu
   rw[hz,hu]
   simp only
   split at h
   ·rename_i s hs
    rw[hs]
    simp only
    obtain⟨l2,h1,h2⟩:=eM h
    refine⟨.agg l2,H,?_,h2⟩
    have hq:qZ (fun (p:Nat × AV)=>((fun i=>some (i*s,s)) p.1).map fun q=>(q.1,q.2,p.2)) (ps.toList.map fun (i,x)=>(i,ev P.globals.size t x))=some (ps.toList.map fun p=>(p.1*s,s,ev P.globals.size t p.2)):=by
     rw[JM]
     exact PQ (fun p:Nat × Operand=>(p.1*s,s,ev P.globals.size t p.2)) _
    rw[Ly (fun i=>some (i*s,s)) _ _ z l2 hq h1]
    rfl
   ·cases h
  ·cases h
 case buildSlice ty n ps=>
  show ∃ v H',D9 P ty n (ps.toList.map fun (i,x)=>(i,ev P.globals.size t x)) H=some (v,H')/\_
  unfold eh at h
  simp only at h
  unfold D9
  split at h
  ·rename_i el hu
   rw[hu]
   simp only
   split at h
   ·rename_i s hs
    rw[hs]
    simp only
    cases hb:Nat.ble (n*s) 65536 with
    | false=>rw[hb] at h;cases h
    | true=>
     rw[hb] at h
     simp only[cond_true] at h ⊢
     split at h
     ·rename_i z hz
      rw[hz]
      simp only
      obtain⟨l2,h1,h2⟩:=eM h
      obtain⟨i,H2,h3,h4⟩:=J6 h2
      have hq:qZ (fun (p:Nat × AV)=>((fun i=>some (i*s,s)) p.1).map fun q=>(q.1,q.2,p.2)) (ps.toList.map fun (i,x)=>(i,ev P.globals.size t x))=some (ps.toList.map fun p=>(p.1*s,s,ev P.globals.size t p.2)):=by
       rw[JM]
       exact PQ (fun p:Nat × Operand=>(p.1*s,s,ev P.globals.size t p.2)) _
      refine⟨_,_,?_,h4⟩
      rw[Ly (fun i=>some (i*s,s)) _ _ z l2 hq h1]
      simp only[h3]
      rfl
     ·cases h
   ·cases h
  ·cases h
 case insert ty m q v=>
  unfold eh at h
  simp only at h
  show ∃ v' H',(nH P ty (ev P.globals.size t m) (ev P.globals.size t q) (ev P.globals.size t v) H).map (fun H=>(bK,H))=some (v',H')/\_
  split at h
  ·rename_i kt el hu
   split at h
   ·rename_i K hk
    obtain⟨H',h1,h2⟩:=eM h
    exact⟨_,H',by rw[Qz hu hk h1];rfl,h2⟩
   ·obtain⟨H',h1,h2⟩:=eM h
    exact⟨_,H',by rw[h1];rfl,h2⟩
  ·cases h
 case mapUpdate ty m q v=>
  unfold eh at h
  simp only at h
  show ∃ v' H',(nH P ty (ev P.globals.size t m) (ev P.globals.size t q) (ev P.globals.size t v) H).map (fun H=>(bK,H))=some (v',H')/\_
  split at h
  ·rename_i kt el hu
   split at h
   ·rename_i K hk
    obtain⟨H',h1,h2⟩:=eM h
    exact⟨_,H',by rw[Qz hu hk h1];rfl,h2⟩
   ·obtain⟨H',h1,h2⟩:=eM h
    exact⟨_,H',by rw[h1];rfl,h2⟩
  ·cases h
 case load ty a=>
  unfold eh at h
  simp only at h
  show ∃ v H',(rL P H ty (ev P.globals.size t a)).map (fun v=>(v,H))=some (v,H')/\_
  split at h
  ·rename_i n ha hs
   obtain⟨v,h1,h2⟩:=eM h
   refine⟨v,H,?_,h2⟩
   unfold aA at h1
   split at h1
   ·rename_i i off hx
    rw[hx]
    unfold rL
    simp only[ha,hs,acX,adu,if_true]
    cases hc:av H i off n with
    | none=>rw[hc] at h1;cases h1
    | some l=>rw[hc] at h1;cases h1;rfl
   ·cases h1
  ·rename_i q ha hs
   obtain⟨v,h1,h2⟩:=eM h
   refine⟨v,H,?_,h2⟩
   unfold ld at h1
   split at h1
   ·rename_i i off hx
    rw[hx]
    unfold rL
    simp only[hs,acX,adu,abz,if_false,h1]
    rfl
   ·cases h1
  ·cases h
 case store ty a v=>
  unfold eh at h
  simp only at h
  show ∃ v' H',(Et P H ty (ev P.globals.size t a) (ev P.globals.size t v)).map (fun H=>(bK,H))=some (v',H')/\_
  split at h
  ·rename_i n hs
   obtain⟨H',h1,h2⟩:=eM h
   refine⟨_,H',?_,h2⟩
   unfold st at h1
   split at h1
   ·rename_i i off hx
    rw[hx]
    unfold Et
    split at h1
    ·rename_i cs fu
     simp only[fu,hs,acX,adu]
     cases hb:Nat.beq n cs.length with
     | false=>rw[hb] at h1;cases h1
     | true=>
      rw[hb] at h1
      have:=aa9 hb
      subst this
      simp only[cond_true] at h1
      simp[h1]
    ·cases h1
   ·cases h1
  ·cases h
 case nilCheck x=>
  obtain⟨v,h1,h2⟩:=eM h
  exact⟨v,H,by show (aV _).map _=_;rw[h1];rfl,h2⟩
 case binOp op ty x y ty2=>
  obtain⟨v,h1,h2⟩:=agd h
  exact⟨v,H,h1,h2⟩
 case unOp op ty x=>
  obtain⟨v,h1,h2⟩:=eM h
  exact⟨v,H,by show (fT op _).map _=_;rw[h1];rfl,h2⟩
 case convert a b x=>exact aj8 h
 case makeInterface ty x=>
  unfold eh at h
  simp only at h
  split at h
  ·rename_i v hv
   exact⟨v,H,by show (Lr P ty _).map _=_;rw[hv];rfl,h⟩
  ·cases h
 case makeFunc fn a b=>
  unfold eh at h
  simp only at h
  split at h
  ·rename_i v hv
   exact⟨v,H,by show (IB fn _ _).map _=_;rw[hv];rfl,h⟩
  ·cases h
 case makeMap ty x=>
  cases x with
  | some y=>cases h
  | none=>
   have h0:BN (xc H) (fun i H=>k (.map i) H)=some r:=h
   obtain⟨i,H2,h1,h2⟩:=J6 h0
   refine⟨_,_,?_,h2⟩
   show (alloc H (.map [] 0)).map (fun r:Nat × Hp=>(AV.map r.1,r.2))=_
   unfold xc at h1
   rw[h1];rfl
 case makeSlice ty l c=>
  unfold eh at h
  simp only at h
  show ∃ v H',ux P ty (ev P.globals.size t l) (ev P.globals.size t c) H=some (v,H')/\_
  split at h
  ·rename_i el hu
   split at h
   ·rename_i s z hs hz
    cases hb:(Nat.ble (P.bytesOf el) 4096&&Nat.beq z.length s) with
    | false=>rw[hb] at h;cases h
    | true=>
     rw[hb] at h
     simp only[cond_true] at h
     simp only[aaG,aez,Nat.beq_eq] at hb
     obtain⟨v,H',h1,h2⟩:=tE h
     refine⟨v,H',?_,h2⟩
     unfold xj at h1
     split at h1
     ·rename_i k1 n k2 m hl hc
      rw[hl,hc]
      unfold ux
      rw[hu]
      simp only[hs]
      split at h1
      ·rename_i sF
       rw[if_pos ⟨sF.1,sF.2.1,sF.2.2,hb.1⟩]
       have hr:yD P el s m.toNat=some (rep m.toNat z):=by
        unfold yD
        cases h0:Nat.beq (m.toNat*s) 0 with
        | true=>
         have O2:=aa9 h0
         have:rep m.toNat z=[]:=by
          unfold rep
          rcases Nat.mul_eq_zero.1 O2 with q | q
          ·rw[q];rfl
          ·have:z=[]:=List.eq_nil_of_length_eq_zero (by rw[hb.2,q])
           rw[this];simp
         rw[this];rfl
        | false=>
         simp only[cond_false,hz]
         rw[hb.2,ahj];rfl
       rw[hr]
       simp only
       cases hn:aE H (rep m.toNat z) el 0 with
       | none=>rw[hn] at h1;cases h1
       | some q=>rw[hn] at h1;exact h1
      ·cases h1
     ·cases h1
   ·cases h
  ·cases h
 case slice ty x lo hi mx=>
  obtain⟨v,h1,h2⟩:=ajD h
  exact⟨v,H,by show (rq P ty _ _ _ _ H).map _=_;rw[h1];rfl,h2⟩
 case fieldAddr ty x f=>
  unfold eh at h
  simp only at h
  show ∃ v H',(K1 P ty (ev P.globals.size t x) f).map (fun v=>(v,H))=some (v,H')/\_
  split at h
  ·rename_i off ho
   obtain⟨v,h1,h2⟩:=eM h
   refine⟨v,H,?_,h2⟩
   unfold fa at h1
   split at h1
   ·rename_i i o hx
    rw[hx]
    cases h1
    unfold Tg at ho
    unfold K1
    split at ho
    ·rename_i fs hu
     rw[hu]
     simp only
     split at ho
     ·rename_i fd Gk
      rw[Gk]
      simp only
      cases hp:xC P fd.type with
      | false=>rw[hp] at ho;cases ho
      | true=>rw[hp] at ho;cases ho;rfl
     ·cases ho
    ·cases ho
   ·cases h1
  ·cases h
 case field ty x f=>
  unfold eh at h
  simp only at h
  show ∃ v H',(EK P ty (ev P.globals.size t x) f).map (fun v=>(v,H))=some (v,H')/\_
  split at h
  ·rename_i fs hu
   split at h
   ·rename_i d hd
    split at h
    ·rename_i n ha hs
     obtain⟨v,h1,h2⟩:=eM h
     refine⟨v,H,?_,h2⟩
     unfold Y9 at h1
     split at h1
     ·rename_i cs hx
      rw[hx]
      unfold EK
      rw[hu]
      simp only[hd]
      unfold mi
      simp only[ha,hs,acX,adu,if_true]
      cases hb:Nat.ble (d.offset+n) cs.length with
      | false=>rw[hb] at h1;cases h1
      | true=>rw[hb] at h1;cases h1;rfl
     ·cases h1
    ·rename_i q ha hs
     obtain⟨v,h1,h2⟩:=eM h
     refine⟨v,H,?_,h2⟩
     unfold fd at h1
     split at h1
     ·rename_i cs hx
      rw[hx]
      unfold EK
      rw[hu]
      simp only[hd]
      unfold mi
      simp only[hs,acX,adu,abz,if_false,h1]
      rfl
     ·cases h1
    ·cases h
   ·cases h
  ·cases h
 case indexAddr ty x ix=>
  unfold eh at h
  simp only at h
  show ∃ v H',(BA P ty (ev P.globals.size t x) (ev P.globals.size t ix)).map (fun v=>(v,H))=some (v,H')/\_
  split at h
  ·rename_i el hu
   split at h
   ·rename_i s hs
    obtain⟨v,h1,h2⟩:=eM h
    refine⟨v,H,?_,h2⟩
    unfold ia at h1
    split at h1
    ·rename_i i off len c e es q kk hx qc
     rw[hx,qc]
     unfold BA
     simp only[hu,acX,adu,hs]
     split at h1
     ·rename_i hc
      obtain⟨rfl,c1,c2⟩:=hc
      cases h1
      simp[c1,c2]
     ·cases h1
    ·cases h1
   ·cases h
  ·rename_i n el hu
   split at h
   ·rename_i s hs
    obtain⟨v,h1,h2⟩:=eM h
    refine⟨v,H,?_,h2⟩
    unfold nj at h1
    split at h1
    ·rename_i i off q kk hx qc
     rw[hx,qc]
     unfold BA
     simp only[hu,acX,adu,hs]
     split at h1
     ·rename_i hc
      obtain⟨c1,c2⟩:=hc
      cases h1
      simp[c1,c2]
     ·cases h1
    ·cases h1
   ·cases h
  ·cases h
 case index ty x ix=>
  unfold eh at h
  simp only at h
  show ∃ v H',(DA P ty (ev P.globals.size t x) (ev P.globals.size t ix)).map (fun v=>(v,H))=some (v,H')/\_
  split at h
  ·rename_i hu
   obtain⟨v,h1,h2⟩:=eM h
   refine⟨v,H,?_,h2⟩
   unfold ue at h1
   split at h1
   ·rename_i s q kk hx qc
    rw[hx,qc]
    unfold DA
    simp only[hu,acX,adu,h1]
    rfl
   ·cases h1
  ·obtain⟨v,h1,h2⟩:=eM h
   exact⟨v,H,by rw[h1];rfl,h2⟩
 case lookup ty x q ok=>
  unfold eh at h
  simp only at h
  show ∃ v H',(pZ P ty (ev P.globals.size t x) (ev P.globals.size t q) ok H).map (fun v=>(v,H))=some (v,H')/\_
  split at h
  ·rename_i kt el hu
   split at h
   ·rename_i K z hk hz
    obtain⟨v,h1,h2⟩:=eM h
    exact⟨v,H,by rw[ah1 hu hk hz h1];rfl,h2⟩
   ·obtain⟨v,h1,h2⟩:=eM h
    exact⟨v,H,by rw[h1];rfl,h2⟩
  ·cases h
 case range ty x=>exact tE h
 case next it s=>exact tE h
 case entry it=>cases h
 case extract tp i=>
  obtain⟨v,h1,h2⟩:=eM h
  refine⟨v,H,?_,h2⟩
  show (match ev P.globals.size t tp with | .tuple l=>(l[i]?).map fun v=>(v,H) | _=>none)=_
  unfold ex at h1
  split at h1
  ·rename_i l hl;first | (rw[hl];simp only[h1];rfl) | (simp only[h1];rfl)
  ·cases h1
 case typeAssert x a KW ok=>
  unfold eh at h
  simp only at h
  show ∃ v H',(Ft P KW (ev P.globals.size t x) ok).map (fun v=>(v,H))=some (v,H')/\_
  split at h
  ·cases h
  ·rename_i d aO hu
   obtain⟨v,h1,h2⟩:=eM h
   refine⟨v,H,?_,h2⟩
   unfold ta at h1
   split at h1
   ·rename_i u w hx
    rw[hx]
    unfold Ft
    split at h1
    ·rename_i he
     cases h1
     cases d<;>first | (exact absurd rfl (aO _)) | (rw[hu];simp only[he,if_true];rfl)
    ·cases h1
   ·cases h1
  ·cases h
 case call c=>
  obtain⟨callee,args,qP⟩:=c
  cases callee with
  | value f=>exact tE h
  | invoke r m=>cases h
  | builtin b=>exact agM h
 all_goals cases h
end K
end Go.Proofs.YtodfajmihkagnaaGreatDoor.Am
