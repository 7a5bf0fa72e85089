/- What an operation does, its types resolved, and that it is the evaluator's (of no program). -/
import Derived.Test.YtodfajmihkagnaaGreatDoorAm10
set_option linter.unusedVariables false
set_option linter.unusedSimpArgs false
namespace Go.Proofs.YtodfajmihkagnaaGreatDoor.Am
section
section
set_option linter.unusedVariables false
set_option linter.unusedSimpArgs false
namespace K
def pk (c a b:AV):Option AV:=match c with | .bool q=>some (bif q then a else b) | _=>none
def bx (ty:Nat)(x:AV)(H:Hp):Option (Nat × Hp):=match rK x with | some l=>aC H l ty 0 | none=>none
def fl (z:List AV):List (Nat × Nat × AV)->Option (List AV)
 | []=>some z
 | (off,size,v)::r=>match rK v with
  | some cs=>if cs.length=size/\off+size<=z.length then fl (z.take off++cs++z.drop (off+size)) r else none
  | none=>none
def st (n:Nat)(x v:AV)(H:Hp):Option Hp:=match x with
 | .ptr i o=>match rK v with
  | some cs=>bif Nat.beq n cs.length then setCells H i o cs else none
  | none=>none
 | _=>none
def fa (off:Nat)(x:AV):Option AV:=match x with | .ptr i o=>some (.ptr i (o+off)) | _=>none
def fd (off:Nat)(x:AV):Option AV:=match x with | .agg cs=>cs[off]? | _=>none
def fda (n off:Nat)(x:AV):Option AV:=match x with | .agg cs=>bif Nat.ble (off+n) cs.length then some (.agg ((cs.drop off).take n)) else none | _=>none
def ia (s:Nat)(x ix:AV):Option AV:=match x,ix with
 | .slice i off len _ _ es,.int _ k=>if s=es/\0<=k/\k<len then some (.ptr i (off+k.toNat*es)) else none
 | _,_=>none
def pj (n s:Nat)(x ix:AV):Option AV:=match x,ix with
 | .ptr i off,.int _ k=>if 0<=k/\k<n then some (.ptr i (off+k.toNat*s)) else none
 | _,_=>none
def wW (x ix:AV):Option AV:=match x,ix with
 | .str s,.int _ k=>if 0<=k then (s[k.toNat]?).map fun (b:Nat) => .int .u8 b else none
 | _,_=>none
def ex (i:Nat)(x:AV):Option AV:=match x with | .tuple l=>l[i]? | _=>none
def ta (t:Nat)(ok:Bool)(x:AV):Option AV:=match x with | .iface u v=>if u=t then some (bif ok then .tuple [v,.bool true] else v) else none | _=>none
def ii (f:IntKind->Int->Int->Option AV)(x y:AV):Option AV:=match x,y with | .int k a,.int k' b=>if k=k' then f k a b else none | _,_=>none
def i2 (f:IntKind->Int->Int->Option AV)(x y:AV):Option AV:=match x,y with | .int k a,.int _ b=>f k a b | _,_=>none
def bU:=ii fun k a b=>some (.int k (k.wrap (a+b)))
def nW:=ii fun k a b=>some (.int k (k.wrap (a-b)))
def xY:=ii fun k a b=>some (.int k (k.wrap (a*b)))
def Df:=ii fun k a b=>if b=0 then none else some (.int k (k.wrap (a.tdiv b)))
def Q1:=ii fun k a b=>if b=0 then none else some (.int k (a.tmod b))
def Tz:=ii fun k a b=>some (.int k (k.wrap (oZ k a &&& oZ k b:Nat)))
def Qx:=ii fun k a b=>some (.int k (k.wrap (oZ k a ||| oZ k b:Nat)))
def UQ:=ii fun k a b=>some (.int k (k.wrap (oZ k a ^^^ oZ k b:Nat)))
def cl:=ii fun _ a b=>some (.bool (a==b))
def eT:=ii fun _ a b=>some (.bool (a != b))
def bX:=ii fun _ a b=>some (.bool (a<b))
def oJ:=ii fun _ a b=>some (.bool (a<=b))
def jA:=ii fun _ a b=>some (.bool (b<a))
def mH:=ii fun _ a b=>some (.bool (b<=a))
def Cl:=i2 fun k a b=>if b<0 then none else some (.int k (k.wrap (a*2 ^ (min b.toNat k.bits))))
def B6:=i2 fun k a b=>if b<0 then none else some (.int k (a.fdiv (2 ^ (min b.toNat k.bits))))
def J6 (op:BinOp)(x y:AV):Option AV:=match op with
 | .add=>bU x y | .sub=>nW x y | .mul=>xY x y | .quo=>Df x y | .rem=>Q1 x y | .and=>Tz x y | .or=>Qx x y | .xor=>UQ x y | .shl=>Cl x y | .shr=>B6 x y | .andNot=>none
 | .eql=>cl x y | .neq=>eT x y | .lss=>bX x y | .leq=>oJ x y | .gtr=>jA x y | .geq=>mH x y
def ss (f:List Nat->List Nat->Option AV)(x y:AV):Option AV:=match x,y with | .str a,.str b=>f a b | _,_=>none
def so:=ss fun a b=>bif Nat.ble (a.length+b.length) 4294967296 then some (.str (a++b)) else none
def seq:=ss fun a b=>some (.bool (a==b))
def qL:=ss fun a b=>some (.bool (!(a==b)))
def slt:=ss fun a b=>some (.bool (qP a b))
def sle:=ss fun a b=>some (.bool (qP a b||a==b))
def Pz:=ss fun a b=>some (.bool (!(qP a b||a==b)))
def TG:=ss fun a b=>some (.bool (!(qP a b)))
def IB (op:BinOp)(x y:AV):Option AV:=match op with
 | .add=>so x y | .eql=>seq x y | .neq=>qL x y | .lss=>slt x y | .leq=>sle x y | .gtr=>Pz x y | .geq=>TG x y | _=>none
def pe (x y:AV)(H:Hp):Option Bool:=match x,y with
 | .dR,.dR=>some true
 | .dR,.ptr _ _=>some false
 | .ptr _ _,.dR=>some false
 | .ptr i a,.ptr j b=>bif Nat.beq i j then some (Nat.beq a b) else bif clean H i&&clean H j then some false else none
 | _,_=>none
def BT (op:BinOp)(o:Option Bool):Option AV:=match op with
 | .eql=>o.map .bool
 | .neq=>o.map fun b => .bool !b
 | _=>none
def cv (k:IntKind)(x:AV):Option AV:=match x with | .int _ n=>some (.int k (k.wrap n)) | _=>none
def Yp (x:AV):Option AV:=match x with | .str s=>some (.str s) | _=>none
def oL (x:AV)(lo hi:Option AV):Option AV:=match x with
 | .str s=>(sC s.length s.length lo hi none).map fun p => .str ((s.drop p.1).take (p.2.1-p.1))
 | _=>none
def qE (s:Nat)(x:AV)(lo hi mx:Option AV):Option AV:=match x with
 | .ae=>(sC 0 0 lo hi mx).map fun _ => .ae
 | .slice i off len cap ex es=>(sC len cap lo hi mx).bind fun p=>if s=es then some (.slice i (off+p.1*es) (p.2.1-p.1) (p.2.2-p.1) (ex||mx.isSome) es) else none
 | _=>none
def zK (z:List AV)(el s:Nat)(l c:AV)(H:Hp):Option (AV × Hp):=match l,c with
 | .int _ l,.int _ c=>if 0<=l/\l<=c/\c<=1048576 then (aC H (rep c.toNat z) el 0).map fun r=>(.slice r.1 0 l.toNat c.toNat true s,r.2) else none
 | _,_=>none
inductive KT where | str | int
def zq (kt:KT)(x y:AV):Option Bool:=match kt with
 | .str=>(match x,y with | .str a,.str b=>some (a==b) | _,_=>none)
 | .int=>(match x,y with | .int k a,.int k' b=>if k=k' then some (a==b) else none | _,_=>none)
def nk (kt:KT)(k:AV):List ME->Bool
 | []=>true
 | e::es=>match zq kt k e.key with
  | some false=>nk kt k es
  | _=>false
def fk (kt:KT)(k:AV):List ME->Nat->Option (Option (Nat × ME))
 | [],_=>some none
 | e::es,i=>match zq kt k e.key with
  | some true=>bif nk kt k es then some (some (i,e)) else none
  | some false=>fk kt k es (i+1)
  | none=>none
def qI (kt:KT)(z:AV)(ok:Bool)(x k:AV)(H:Hp):Option AV:=match mapOf H x with
 | some (es,_)=>match fk kt k es 0 with
  | some (some (_,m))=>some (bif ok then .tuple [m.val,.bool true] else m.val)
  | some none=>some (bif ok then .tuple [z,.bool false] else z)
  | none=>none
 | none=>none
def wP (kt:KT)(x k v:AV)(H:Hp):Option Hp:=match x with
 | .map i=>match H.h.get i with
  | some (.map es c)=>match fk kt k es 0 with
   | some (some (j,m))=>bif Dz m.key k then some (setObj H i (.map (es.set j { m with key:=k,val:=v }) c)) else none
   | some none=>some (setObj H i (.map (es++[⟨k,v,c⟩]) (c+1)))
   | none=>none
  | _=>none
 | _=>none
def O1 (kt:KT)(m k:AV)(H:Hp):Option Hp:=match m with
 | .jZ=>some H
 | .map i=>match H.h.get i with
  | some (.map es c)=>match fk kt k es 0 with
   | some (some (j,_))=>some (setObj H i (.map (es.eraseIdx j) c))
   | some none=>some H
   | none=>none
  | _=>none
 | _=>none
def zW (H:Hp):Option (Nat × Hp):=alloc H (.map [] 0)
def aK (x:AV):Option AV:=match x with | .ae=>some (.int .i64 0) | .slice _ _ n _ _ _=>some (.int .i64 n) | _=>none
def lens (x:AV):Option AV:=match x with | .str s=>some (.int .i64 s.length) | _=>none
def abc (x:AV)(H:Hp):Option AV:=match x with
 | .jZ=>some (.int .i64 0)
 | .map i=>match H.h.get i with | some (.map es _)=>some (.int .i64 es.length) | _=>none
 | _=>none
def Cv (es:Nat)(z:List AV)(fg:Bool)(x:AV)(H:Hp):Option (Nat × List AV):=match fg,x with
 | true,.int .i64 k=>if 0<=k/\k<16777216 then some (k.toNat,rep k.toNat z) else none
 | false,.ae=>some (0,[])
 | false,.slice i off len _ _ _=>(aq H i off (len*es)).map fun l=>(len,l)
 | false,.str s=>if es=1 then some (s.length,s.map fun (b:Nat)=>AV.int .u8 b) else none
 | _,_=>none
def E9 (el es:Nat)(n:Nat)(new:List AV)(s:AV)(H:Hp):Option (AV × Hp):=match s with
 | .ae=>
  bif Nat.beq n 0 then some (.ae,H) else
  bif Nat.ble n 16777216 then (aC H new el 0).map fun r=>(.slice r.1 0 n n false es,r.2) else none
 | .slice i off len cap ex aQ=>
  bif Nat.ble (len+n) 16777216&&Nat.beq es aQ&&new.all bq then
  bif Nat.ble (len+n) cap then (setCells H i (off+len*es) new).map fun H=>(.slice i off (len+n) cap ex es,H)
  else bif ex then (aq H i off (len*es)).bind fun hU=>(aC H (hU++new) el 0).map fun r=>(.slice r.1 0 (len+n) (len+n) false es,r.2)
  else match H.h.get i with
   | some (.cells c lo hi vN fl)=>
    bif Nat.ble fl 1&&Nat.ble lo off&&Nat.ble (off+len*es) hi&&Nat.beq el vN then
     (alloc { H with h:=H.h.del i } (.cells (c.cJ (off+len*es) new) off (off+(len+n)*es) el 1)).map fun r=>(.slice r.1 off (len+n) (len+n) false es,r.2)
    else none
   | _=>none
  else none
 | _=>none
def eV (el es:Nat)(z:List AV)(fg:Bool)(s x:AV)(H:Hp):Option (AV × Hp):=match Cv es z fg x H with
 | some (n,new)=>E9 el es n new s H
 | none=>none
def Ew (es:Nat)(d x:AV)(H:Hp):Option (AV × Hp):=match NC x with
 | some xl=>match d with
  | .ae=>some (.int .i64 0,H)
  | .slice i off dl _ _ _=>
   bif Nat.beq (Nat.min xl dl) 0 then some (.int .i64 0,H) else
   match Uh es (Nat.min xl dl) x H with
   | some cs=>(setCells H i off cs).map fun H=>(.int .i64 (Nat.min xl dl),H)
   | none=>none
  | _=>none
 | none=>none
def D8 (x:AV)(H:Hp):Option AV:=match x with
 | .ae=>some (.str [])
 | .slice i off len _ _ _=>bif Nat.beq len 0 then some (.str []) else (aq H i off len).bind fun cs=>(wX cs).map .str
 | _=>none
def s2b (el:Nat)(x:AV)(H:Hp):Option (AV × Hp):=match x with
 | .str s=>(aC H (s.map fun (b:Nat)=>AV.int .u8 b) el 1).map fun r=>(.slice r.1 0 s.length s.length false 1,r.2)
 | _=>none
end K
set_option linter.unusedVariables false
set_option linter.unusedSimpArgs false
namespace K
variable (P:Program)
def tu (kt:TypeId):Option KT:=match P.underlying kt with | some .string=>some .str | some (.int _)=>some .int | _=>none
def Zt (ty:TypeId)(f:Nat):Option Nat:=match P.underlying ty with
 | some (.struct fs)=>match fs[f]? with
  | some fd=>bif y9 P fd.type then some fd.offset else none
  | none=>none
 | _=>none
inductive CL where | int | str | bool | ptr | other
def PN (t:TypeId):CL:=match P.underlying t with | some (.int _) => .int | some .string => .str | some .bool => .bool | some (.pointer el)=>(match sz P el with | some (_+1) => .ptr | _ => .other) | _ => .other
def bb (op:BinOp)(x y:AV):Option AV:=match op,x,y with
 | .eql,.bool a,.bool b=>some (.bool (a==b))
 | .neq,.bool a,.bool b=>some (.bool (!(a==b)))
 | _,_,_=>none
def gA (op:BinOp)(t:TypeId)(c:Bool)(x y:AV):Bool:=match op with
 | .eql | .neq=>(match x,y with | .nilIface,.nilIface=>c | .agg _,.agg _ => !(P.eqGuardType P.depth t) | _,_=>true)
 | _=>true
def FY (op:BinOp)(t:TypeId)(X Y:Operand)(x y:AV)(H:Hp)(k:AV->R):R:=match PN P t with
 | .int=>B1 (J6 op x y) k
 | .str=>B1 (IB op x y) k
 | .bool=>B1 (bb op x y) k
 | .ptr=>B1 (BT op (pe x y H)) k
 | .other=>xc (gA P op t (xb X||xb Y) x y) (B1 (fe P op t x y H) k)
def DT (a b:TypeId)(x:AV)(H:Hp)(k:AV->Hp->R):R:=match P.underlying a,P.underlying b with
 | some (.int _),some (.int q)=>B1 (cv q x) fun v=>k v H
 | some .string,some .string=>B1 (Yp x) fun v=>k v H
 | some (.slice e),some .string=>(match P.underlying e with | some (.int .u8)=>B1 (D8 x H) fun v=>k v H | _=>none)
 | some .string,some (.slice e)=>(match P.underlying e with | some (.int .u8)=>B2 (s2b e x H) k | _=>none)
 | _,_=>B2 (jU P a b x H) k
def Gn (t:TypeId)(x:AV)(lo hi mx:Option AV)(H:Hp)(k:AV->R):R:=match P.underlying t with
 | some .string=>(match mx with | none=>B1 (oL x lo hi) k | some _=>none)
 | some (.slice el)=>(match sz P el with | some s=>B1 (qE s x lo hi mx) k | none=>none)
 | _=>B1 (su P t x lo hi mx H) k
def EJ (b:Builtin)(ty:Array TypeId)(args:List AV)(H:Hp)(k:AV->Hp->R):R:=match b,args with
 | .len,[x]=>(match (ty[0]?).bind P.underlying with
  | some .string=>B1 (lens x) fun v=>k v H
  | some (.slice _)=>B1 (aK x) fun v=>k v H
  | some (.map _ _)=>B1 (abc x H) fun v=>k v H
  | _=>B2 (gS P .len ty args H) k)
 | .append,[s,x]=>(match (ty[0]?).bind P.underlying,Fk P ty with
  | some (.slice el),some fg=>(match sz P el,zc P el with
   | some es,some z=>bif Nat.ble (P.bytesOf el) 4096&&Nat.beq z.length es then B2 (eV el es z fg s x H) k else none
   | _,_=>none)
  | _,_=>none)
 | .copy,[d,x]=>(match (ty[0]?).bind P.underlying with
  | some (.slice el)=>(match sz P el with
   | some es=>B2 (Ew es d x H) k
   | none=>none)
  | _=>none)
 | .delete,[m,q]=>(match (ty[0]?).bind P.underlying with
  | some (.map kt _)=>(match tu P kt with
   | some kt=>B1 (O1 kt m q H) fun H=>k cq H
   | none=>B2 (gS P .delete ty args H) k)
  | _=>none)
 | b,args=>B2 (gS P b ty args H) k
def ey (cf:CF)(o:Oper)(t:Tm)(H:Hp)(k:AV->Hp->R):R:=
 match o.op with
 | .move x=>k (ev P.globals.size t x) H
 | .assign x=>k (ev P.globals.size t x) H
 | .pick c a b=>B1 (pk (ev P.globals.size t c) (ev P.globals.size t a) (ev P.globals.size t b)) fun v=>k v H
 | .alloc ty=>(match zc P ty with | some l=>BN (aC H l ty 0) fun i H=>k (.ptr i 0) H | none=>none)
 | .box ty x=>BN (bx ty (ev P.globals.size t x) H) fun i H=>k (.ptr i 0) H
 | .build ty ps=>(match zc P ty,P.underlying ty with
  | some z,some (.struct fs)=>(match Pk P fs with
   | some pl=>(match sG (fun (p:Nat × Operand)=>(pl[p.1]?).map fun q=>(q.1,q.2,ev P.globals.size t p.2)) ps.toList with
    | some l=>B1 (fl z l) fun l=>k (.agg l) H
    | none=>none)
   | none=>none)
  | some z,some (.array _ el)=>(match sz P el with
   | some s=>B1 (fl z (ps.toList.map fun p=>(p.1*s,s,ev P.globals.size t p.2))) fun l=>k (.agg l) H
   | none=>none)
  | _,_=>none)
 | .buildSlice ty n ps=>(match P.underlying ty with
  | some (.slice el)=>(match sz P el with
   | some s=>bif Nat.ble (n*s) 65536 then (match Ag P el s n with
    | some z=>B1 (fl z (ps.toList.map fun p=>(p.1*s,s,ev P.globals.size t p.2))) fun l=>BN (aC H l el 0) fun i H=>k (.slice i 0 n n true s) H
    | none=>none) else none
   | none=>none)
  | _=>none)
 | .insert ty m q v=>(match P.underlying ty with
  | some (.map kt _)=>(match tu P kt with
   | some kt=>B1 (wP kt (ev P.globals.size t m) (ev P.globals.size t q) (ev P.globals.size t v) H) fun H=>k cq H
   | none=>B1 (pZ P ty (ev P.globals.size t m) (ev P.globals.size t q) (ev P.globals.size t v) H) fun H=>k cq H)
  | _=>none)
 | .mapUpdate ty m q v=>(match P.underlying ty with
  | some (.map kt _)=>(match tu P kt with
   | some kt=>B1 (wP kt (ev P.globals.size t m) (ev P.globals.size t q) (ev P.globals.size t v) H) fun H=>k cq H
   | none=>B1 (pZ P ty (ev P.globals.size t m) (ev P.globals.size t q) (ev P.globals.size t v) H) fun H=>k cq H)
  | _=>none)
 | .load ty a=>(match xG P ty,sz P ty with
  | some true,some n=>B1 (az n (ev P.globals.size t a) H) fun v=>k v H
  | some false,_=>B1 (ld (ev P.globals.size t a) H) fun v=>k v H
  | _,_=>none)
 | .store ty a v=>(match sz P ty with | some n=>B1 (st n (ev P.globals.size t a) (ev P.globals.size t v) H) fun H=>k cq H | none=>none)
 | .nilCheck x=>B1 (aT (ev P.globals.size t x)) fun v=>k v H
 | .binOp op ty x y _=>FY P op ty x y (ev P.globals.size t x) (ev P.globals.size t y) H fun v=>k v H
 | .unOp op _ x=>B1 (eu op (ev P.globals.size t x)) fun v=>k v H
 | .convert a b x=>DT P a b (ev P.globals.size t x) H k
 | .makeInterface ty x=>(match Oa P ty (ev P.globals.size t x) with | some v=>k v H | none=>none)
 | .makeFunc fn a b=>(match Mg fn (a.toList.map (ev P.globals.size t)) (b.toList.map (ev P.globals.size t)) with | some v=>k v H | none=>none)
 | .makeMap _ none=>BN (zW H) fun i H=>k (.map i) H
 | .makeSlice ty l c=>(match P.underlying ty with
  | some (.slice el)=>(match sz P el,zc P el with
   | some s,some z=>bif Nat.ble (P.bytesOf el) 4096&&Nat.beq z.length s then B2 (zK z el s (ev P.globals.size t l) (ev P.globals.size t c) H) k else none
   | _,_=>none)
  | _=>none)
 | .slice ty x lo hi mx=>Gn P ty (ev P.globals.size t x) (lo.map (ev P.globals.size t)) (hi.map (ev P.globals.size t)) (mx.map (ev P.globals.size t)) H fun v=>k v H
 | .fieldAddr ty x f=>(match Zt P ty f with | some off=>B1 (fa off (ev P.globals.size t x)) fun v=>k v H | none=>none)
 | .field ty x f=>(match P.underlying ty with
  | some (.struct fs)=>(match fs[f]? with
   | some d=>(match xG P d.type,sz P d.type with
    | some true,some n=>B1 (fda n d.offset (ev P.globals.size t x)) fun v=>k v H
    | some false,_=>B1 (fd d.offset (ev P.globals.size t x)) fun v=>k v H
    | _,_=>none)
   | none=>none)
  | _=>none)
 | .indexAddr ty x ix=>(match P.underlying ty with
  | some (.slice el)=>(match sz P el with | some s=>B1 (ia s (ev P.globals.size t x) (ev P.globals.size t ix)) fun v=>k v H | none=>none)
  | some (.array n el)=>(match sz P el with | some s=>B1 (pj n s (ev P.globals.size t x) (ev P.globals.size t ix)) fun v=>k v H | none=>none)
  | _=>none)
 | .index ty x ix=>(match P.underlying ty with
  | some .string=>B1 (wW (ev P.globals.size t x) (ev P.globals.size t ix)) fun v=>k v H
  | _=>B1 (DS P ty (ev P.globals.size t x) (ev P.globals.size t ix)) fun v=>k v H)
 | .lookup ty x q ok=>(match P.underlying ty with
  | some (.map kt el)=>(match tu P kt,((P.info? el).bind (·.zero)).bind jL with
   | some kt,some z=>B1 (qI kt z ok (ev P.globals.size t x) (ev P.globals.size t q) H) fun v=>k v H
   | _,_=>B1 (rH P ty (ev P.globals.size t x) (ev P.globals.size t q) ok H) fun v=>k v H)
  | _=>none)
 | .range ty x=>B2 (zH P ty (ev P.globals.size t x) H) k
 | .next it s=>B2 (ye (ev P.globals.size t it) s H) k
 | .entry it=>B1 (Om (ev P.globals.size t it) H) fun v=>k v H
 | .extract tp i=>B1 (ex i (ev P.globals.size t tp)) fun v=>k v H
 | .typeAssert x _ Nh ok=>(match P.underlying Nh with
  | some (.interface _)=>none
  | some _=>B1 (ta Nh ok (ev P.globals.size t x)) fun v=>k v H
  | none=>none)
 | .call { callee := .value f,args,.. }=>B2 (cf (ev P.globals.size t f) (args.toList.map (ev P.globals.size t)) H) k
 | .call { callee := .builtin b,args,argTypes }=>EJ P b argTypes (args.toList.map (ev P.globals.size t)) H k
 | _=>none
end K
end
set_option linter.unusedVariables false
set_option linter.unusedSimpArgs false
namespace K
variable {P:Program}
theorem avq {op:BinOp}{x y v:AV}{t:TypeId}{H:Hp}(h:J6 op x y=some v):fe P op t x y H=some v:=by
 cases op<;>simp only[J6,bU,nW,xY,Df,Q1,Tz,Qx,UQ,cl,eT,bX,oJ,jA,mH,Cl,B6,ii,i2,reduceCtorEq] at h <;>
  (split at h<;>first | (cases h;done) | exact h)
theorem aqE {op:BinOp}{x y v:AV}{t:TypeId}{H:Hp}(h:IB op x y=some v):fe P op t x y H=some v:=by
 cases op<;>simp only[IB,so,seq,qL,slt,sle,Pz,TG,ss,reduceCtorEq] at h <;>
  (split at h<;>first | (cases h;done) | exact h)
theorem agK {op:BinOp}{x y v:AV}(h:J6 op x y=some v):∃ k a k' b,x = .int k a/\y = .int k' b:=by
 cases op<;>simp only[J6,bU,nW,xY,Df,Q1,Tz,Qx,UQ,cl,eT,bX,oJ,jA,mH,Cl,B6,ii,i2,reduceCtorEq] at h <;>
  (split at h<;>first | (cases h;done) | exact⟨_,_,_,_,rfl,rfl⟩)
theorem ajF {op:BinOp}{x y v:AV}(h:IB op x y=some v):∃ a b,x = .str a/\y = .str b:=by
 cases op<;>simp only[IB,so,seq,qL,slt,sle,Pz,TG,ss,reduceCtorEq] at h <;>
  (split at h<;>first | (cases h;done) | exact⟨_,_,rfl,rfl⟩)
theorem apr {op:BinOp}{t:TypeId}{X Y:Operand}{k k':IntKind}{a b:Int}:uf P op t X Y (.int k a) (.int k' b)=true:=by cases op<;>rfl
theorem aiE {op:BinOp}{t:TypeId}{X Y:Operand}{a b:List Nat}:uf P op t X Y (.str a) (.str b)=true:=by cases op<;>rfl
theorem auS {op:BinOp}{t:TypeId}{X Y:Operand}{x y:AV}{H:Hp}{k:AV->R}{r:AV × Hp}(h:FY P op t X Y x y H k=some r) :
  ∃ v,(bif uf P op t X Y x y then (fe P op t x y H).map fun v=>(v,H) else none)=some (v,H)/\k v=some r:=by
 unfold FY at h
 split at h
 ·obtain⟨v,h1,h2⟩:=eK h
  obtain⟨_,_,_,_,rfl,rfl⟩:=agK h1
  exact⟨v,by rw[apr,avq h1];rfl,h2⟩
 ·obtain⟨v,h1,h2⟩:=eK h
  obtain⟨_,_,rfl,rfl⟩:=ajF h1
  exact⟨v,by rw[aiE,aqE h1];rfl,h2⟩
 ·rename_i hc
  obtain⟨v,h1,h2⟩:=eK h
  have hu:P.underlying t=some .bool:=by
   unfold PN at hc
   split at hc<;>first | (cases hc;done) | assumption | skip
   split at hc<;>cases hc
  unfold bb at h1
  split at h1
  ·cases h1
   refine⟨_,?_,h2⟩
   have hb:∀ a b,fe P .eql t (.bool a) (.bool b) H=some (.bool (a==b)):=by intro a b;simp only[fe];unfold dX;rw[hu];rfl
   rw[hb];rfl
  ·cases h1
   refine⟨_,?_,h2⟩
   have hb:∀ a b,fe P .neq t (.bool a) (.bool b) H=some (.bool (!(a==b))):=by intro a b;simp only[fe];unfold dX;rw[hu];rfl
   rw[hb];rfl
  ·cases h1
 ·rename_i hc
  obtain⟨v,h1,h2⟩:=eK h
  have hu:∃ el n,P.underlying t=some (.pointer el)/\sz P el=some (n+1):=by
   unfold PN at hc
   split at hc<;>first | (cases hc;done) | skip
   rename_i el hu
   split at hc
   ·rename_i n hs;exact⟨el,n,hu,hs⟩
   ·cases hc
  obtain⟨el,n,hu,hs⟩:=hu
  have he:∀ q,pe x y H=some q->dX P 50 t x y H=some q:=by
   intro q hq
   unfold pe at hq
   unfold dX
   rw[hu]
   cases x<;>cases y<;>first | (cases hq;done) | (cases hq;rfl) | skip
   simp only[hs]
   exact hq
  have hx:(∃ i j,x = .ptr i j)\/x = .dR:=by
   unfold BT at h1
   cases hp:pe x y H with
   | none=>rw[hp] at h1;cases op<;>cases h1
   | some q=>
    unfold pe at hp
    cases x<;>first | (cases y<;>cases hp;done) | exact .inl ⟨_,_,rfl⟩ | exact .inr rfl
  have hg:uf P op t X Y x y=true:=by
   rcases hx with⟨i,j,rfl⟩ | rfl<;>(cases op<;>first | rfl | (cases y<;>rfl))
  refine⟨v,?_,h2⟩
  rw[hg]
  cases hp:pe x y H with
  | none=>rw[hp] at h1;cases op<;>cases h1
  | some q=>
   rw[hp] at h1
   have:=he q hp
   rcases hx with⟨i,j,rfl⟩ | rfl<;>(cases op<;>first | (cases h1;done) | skip) <;>
    (cases h1;cases y<;>first | (unfold pe at hp;cases hp;done) | (simp only[fe,this];rfl))
 ·have hga:gA P op t (xb X||xb Y) x y=uf P op t X Y x y:=rfl
  rw[hga] at h
  cases hg:uf P op t X Y x y with
  | false=>rw[hg] at h;cases h
  | true=>
   rw[hg] at h
   obtain⟨v,h1,h2⟩:=eK h
   exact⟨v,by rw[h1];rfl,h2⟩
theorem Oi (place:Nat->Option (Nat × Nat)):∀ (ps:List (Nat × AV)) (qs:List (Nat × Nat × AV)) (z l:List AV),sG (fun (p:Nat × AV)=>(place p.1).map fun q=>(q.1,q.2,p.2)) ps=some qs->fl z qs=some l->vi place z ps=some l
 | [],qs,z,l,h,hf=>by cases h;exact hf
 | (i,v)::ps,qs,z,l,h,hf=>by
  unfold sG at h
  cases hp:place i with
  | none=>rw[hp] at h;cases h
  | some q=>
   rw[hp] at h
   simp only[ae6] at h
   split at h
   ·rename_i r hr
    cases h
    unfold fl at hf
    unfold vi
    rw[hp]
    simp only
    split at hf
    ·rename_i cs fK
     rw[fK]
     simp only
     split at hf
     ·rename_i hc
      rw[if_pos hc]
      exact Oi place ps r _ l hr hf
     ·cases hf
    ·cases hf
   ·cases h
theorem TD {kt:TypeId}{K:KT}(hk:tu P kt=some K){x y:AV}{H:Hp}{b:Bool}(h:zq K x y=some b):dX P 20 kt x y H=some b:=by
 unfold tu at hk
 split at hk
 ·rename_i hu
  cases hk
  unfold zq at h
  simp only at h
  split at h
  ·unfold dX;rw[hu];exact h
  ·cases h
 ·rename_i q hu
  cases hk
  unfold zq at h
  simp only at h
  split at h
  ·unfold dX;rw[hu];exact h
  ·cases h
 ·cases hk
theorem ZY {kt:TypeId}{K:KT}(hk:tu P kt=some K){H:Hp}{q:AV}:∀ es:List ME,nk K q es=true->xJ P H kt q es=true
 | [],h=>rfl
 | e::es,h=>by
  unfold nk at h
  unfold xJ
  split at h
  ·rename_i h1;rw[TD hk h1];exact ZY hk es h
  ·cases h
theorem CV {kt:TypeId}{K:KT}(hk:tu P kt=some K){H:Hp}{q:AV}:∀ (es:List ME) (i:Nat) (r:Option (Nat × ME)),fk K q es i=some r->nq P H kt q es i=some r
 | [],i,r,h=>h
 | e::es,i,r,h=>by
  unfold fk at h
  unfold nq
  split at h
  ·rename_i h1
   rw[TD hk h1]
   cases hn:nk K q es with
   | false=>rw[hn] at h;cases h
   | true=>rw[hn] at h;rw[ZY hk es hn];exact h
  ·rename_i h1;rw[TD hk h1];exact CV hk es (i+1) r h
  ·cases h
theorem UY {kt:TypeId}{K:KT}(hk:tu P kt=some K)(v:AV):pf P 20 kt v=true:=by
 unfold tu at hk
 unfold pf
 split at hk
 ·rename_i hu;rw[hu]
 ·rename_i q hu;rw[hu]
 ·cases hk
theorem anp {ty kt el:TypeId}{K:KT}{z:AV}{ok:Bool}{x q v:AV}{H:Hp}(hu:P.underlying ty=some (.map kt el))(hk:tu P kt=some K)(hz:((P.info? el).bind (·.zero)).bind jL=some z)(h:qI K z ok x q H=some v):rH P ty x q ok H=some v:=by
 unfold rH
 rw[hu]
 simp only[UY hk,cond_true]
 unfold qI at h
 split at h
 ·rename_i es c hm
  rw[hm]
  simp only
  split at h
  ·rename_i i m hf
   rw[CV hk es 0 _ hf]
   cases h;rfl
  ·rename_i hf
   rw[CV hk es 0 _ hf]
   simp only[hz]
   cases h;cases ok<;>rfl
  ·cases h
 ·cases h
theorem aaX {ty kt el:TypeId}{K:KT}{x q v:AV}{H H':Hp}(hu:P.underlying ty=some (.map kt el))(hk:tu P kt=some K)(h:wP K x q v H=some H'):pZ P ty x q v H=some H':=by
 unfold pZ
 rw[hu]
 unfold wP at h
 split at h
 ·rename_i i
  simp only[UY hk,cond_true]
  split at h
  ·rename_i es c hg
   rw[hg]
   simp only
   split at h
   ·rename_i j m hf
    rw[CV hk es 0 _ hf]
    exact h
   ·rename_i hf
    rw[CV hk es 0 _ hf]
    exact h
   ·cases h
  ·cases h
 ·cases h
theorem atm {ty:Array TypeId}{t0 kt el:TypeId}{K:KT}{m q:AV}{H H':Hp}(ht:(ty[0]?).bind P.underlying=some (.map kt el))(hk:tu P kt=some K)(h:O1 K m q H=some H'):Gh P ty m q H=some H':=by
 unfold Gh
 rw[ht]
 simp only[UY hk,cond_true]
 unfold O1 at h
 split at h
 ·exact h
 ·rename_i i
  simp only
  split at h
  ·rename_i es c hg
   rw[hg]
   simp only
   split at h
   ·rename_i j m hf
    rw[CV hk es 0 _ hf]
    exact h
   ·rename_i hf
    rw[CV hk es 0 _ hf]
    exact h
   ·cases h
  ·cases h
 ·cases h
theorem agu {ty:Array TypeId}{el es:Nat}{z:List AV}{fg:Bool}{s x v:AV}{H H':Hp}(ht:(ty[0]?).bind P.underlying=some (.slice el))(hz:Fk P ty=some fg)(hs:sz P el=some es)(Eo:zc P el=some z)
  (hc:(Nat.ble (P.bytesOf el) 4096&&Nat.beq z.length es)=true) (h:eV el es z fg s x H=some (v,H')):Kt P ty s x H=some (v,H'):=by
 unfold Kt
 rw[ht,hz]
 simp only[hs,Eo,hc,cond_true]
 unfold eV at h
 have hlen:z.length=es:=by
  simp only[aaT,Nat.beq_eq] at hc
  exact hc.2
 have hn:∀ r,Cv es z fg x H=some r->Hn P fg el es x H=some r:=by
  intro r hr
  unfold Cv at hr
  unfold Hn
  split at hr
  ·split at hr
   ·rename_i hk
    simp only[if_pos hk,Eo,if_pos hlen]
    exact hr
   ·cases hr
  ·exact hr
  ·exact hr
  ·exact hr
  ·cases hr
 split at h
 ·rename_i n new rN
  rw[hn _ rN]
  simp only
  unfold E9 at h
  split at h
  ·cases hb:Nat.beq n 0 with
   | true=>rw[hb] at h;exact h
   | false=>
    rw[hb] at h
    simp only[cond_false] at h ⊢
    cases iP:Nat.ble n 16777216 with
    | false=>rw[iP] at h;cases h
    | true=>
     rw[iP] at h
     simp only[cond_true] at h ⊢
     cases dJ:aC H new el 0 with
     | none=>rw[dJ] at h;cases h
     | some r=>rw[dJ] at h;exact h
  ·rename_i i off len cap ex aQ
   cases hb:(Nat.ble (len+n) 16777216&&Nat.beq es aQ&&new.all bq) with
   | false=>rw[hb] at h;cases h
   | true=>
    rw[hb] at h
    simp only[cond_true] at h ⊢
    cases iP:Nat.ble (len+n) cap with
    | true=>
     rw[iP] at h
     simp only[cond_true] at h ⊢
     cases Z0:setCells H i (off+len*es) new with
     | none=>rw[Z0] at h;cases h
     | some H2=>rw[Z0] at h;rw[hb];exact h
    | false=>
     rw[iP] at h
     simp only[cond_false] at h ⊢
     cases ex with
     | true=>
      simp only[cond_true] at h ⊢
      cases yV:aq H i off (len*es) with
      | none=>rw[yV] at h;cases h
      | some hU=>
       rw[yV] at h
       simp only[acF] at h ⊢
       cases dJ:aC H (hU++new) el 0 with
       | none=>rw[dJ] at h;cases h
       | some r=>rw[dJ] at h;rw[hb];exact h
     | false=>
      simp only[cond_false] at h ⊢
      split at h
      ·rename_i c lo hi vN fl hg
       rw[hg]
       simp only
       cases vQ:(Nat.ble fl 1&&Nat.ble lo off&&Nat.ble (off+len*es) hi&&Nat.beq el vN) with
       | false=>rw[vQ] at h;cases h
       | true=>
        rw[vQ] at h
        simp only[cond_true] at h ⊢
        cases dh:alloc { H with h:=H.h.del i } (.cells (c.cJ (off+len*es) new) off (off+(len+n)*es) el 1) with
        | none=>rw[dh] at h;cases h
        | some r=>rw[dh] at h;rw[hb];exact h
      ·cases h
  ·cases h
 ·cases h
theorem aln {ty:Array TypeId}{el es:Nat}{d x v:AV}{H H':Hp}(ht:(ty[0]?).bind P.underlying=some (.slice el))(hs:sz P el=some es)(h:Ew es d x H=some (v,H')):Ic P ty d x H=some (v,H'):=by
 unfold Ic
 rw[ht]
 unfold Ew at h
 split at h
 ·rename_i xl hl
  simp only[hs,hl]
  split at h
  ·exact h
  ·rename_i i off dl c e f
   simp only
   cases hb:Nat.beq (Nat.min xl dl) 0 with
   | true=>rw[hb] at h;exact h
   | false=>
    rw[hb] at h
    simp only[cond_false] at h ⊢
    split at h
    ·rename_i cs fK;rw[fK];exact h
    ·cases h
  ·cases h
 ·cases h
theorem anO {b:Builtin}{ty:Array TypeId}{args:List AV}{H:Hp}{k:AV->Hp->R}{r:AV × Hp}(h:EJ P b ty args H k=some r):∃ v H',gS P b ty args H=some (v,H')/\k v H'=some r:=by
 unfold EJ at h
 split at h
 ·rename_i x
  split at h
  ·rename_i hu
   obtain⟨v,h1,h2⟩:=eK h
   refine⟨v,H,?_,h2⟩
   unfold lens at h1
   split at h1
   ·cases h1;simp only[gS,AR,hu];rfl
   ·cases h1
  ·rename_i el hu
   obtain⟨v,h1,h2⟩:=eK h
   refine⟨v,H,?_,h2⟩
   unfold aK at h1
   split at h1
   ·cases h1;simp only[gS,AR,hu];rfl
   ·cases h1;simp only[gS,AR,hu];rfl
   ·cases h1
  ·rename_i a b hu
   obtain⟨v,h1,h2⟩:=eK h
   refine⟨v,H,?_,h2⟩
   unfold abc at h1
   split at h1
   ·cases h1;simp only[gS,AR,hu];rfl
   ·simp only[gS,AR,hu]
    exact (congrArg (Option.map fun v=>(v,H)) h1)
   ·cases h1
  ·exact uQ h
 ·rename_i s x
  split at h
  ·rename_i el fg hu hz
   split at h
   ·rename_i es z hs Eo
    cases hc:(Nat.ble (P.bytesOf el) 4096&&Nat.beq z.length es) with
    | false=>rw[hc] at h;cases h
    | true=>
     rw[hc] at h
     obtain⟨v,H',h1,h2⟩:=uQ h
     exact⟨v,H',agu hu hz hs Eo hc h1,h2⟩
   ·cases h
  ·cases h
 ·rename_i d x
  split at h
  ·rename_i el hu
   split at h
   ·rename_i es hs
    obtain⟨v,H',h1,h2⟩:=uQ h
    exact⟨v,H',aln hu hs h1,h2⟩
   ·cases h
  ·cases h
 ·rename_i m q
  split at h
  ·rename_i kt el hu
   split at h
   ·rename_i K hk
    obtain⟨H',h1,h2⟩:=eK h
    refine⟨cq,H',?_,h2⟩
    show (Gh P ty m q H).map (fun H=>(cq,H))=_
    rw[atm (t0:=0) hu hk h1];rfl
   ·exact uQ h
  ·cases h
 ·exact uQ h
end K
end
set_option linter.unusedVariables false
set_option linter.unusedSimpArgs false
namespace K
variable {P:Program}
theorem Ma {α β γ:Type}(f:β->Option γ)(g:α->β):∀ l:List α,sG f (l.map g)=sG (fun a=>f (g a)) l
 | []=>rfl
 | a::l=>by
  simp only[ac4,sG,Ma f g l]
theorem SH {α β:Type}(f:α->β):∀ l:List α,sG (fun a=>some (f a)) l=some (l.map f)
 | []=>rfl
 | a::l=>by
  simp only[ac4,sG,SH f l]
theorem ano {a b:TypeId}{x:AV}{H:Hp}{k:AV->Hp->R}{r:AV × Hp}(h:DT P a b x H k=some r):∃ v H',jU P a b x H=some (v,H')/\k v H'=some r:=by
 unfold DT at h
 split at h
 ·rename_i q q' ha hb
  obtain⟨v,h1,h2⟩:=eK h
  refine⟨v,H,?_,h2⟩
  unfold cv at h1
  split at h1
  ·cases h1;unfold jU;rw[ha,hb]
  ·cases h1
 ·rename_i ha hb
  obtain⟨v,h1,h2⟩:=eK h
  refine⟨v,H,?_,h2⟩
  unfold Yp at h1
  split at h1
  ·cases h1;unfold jU;rw[ha,hb]
  ·cases h1
 ·rename_i e ha hb
  split at h
  ·rename_i he
   obtain⟨v,h1,h2⟩:=eK h
   refine⟨v,H,?_,h2⟩
   unfold D8 at h1
   split at h1
   ·cases h1;unfold jU;rw[ha,hb];simp only[he]
   ·rename_i i off len c x s
    unfold jU;rw[ha,hb];simp only[he]
    cases hl:Nat.beq len 0 with
    | true=>rw[hl] at h1;cases h1;rfl
    | false=>
     rw[hl] at h1
     simp only[cond_false] at h1 ⊢
     cases hc:aq H i off len with
     | none=>rw[hc] at h1;cases h1
     | some cs=>
      rw[hc] at h1
      simp only[acF] at h1 ⊢
      cases iP:wX cs with
      | none=>rw[iP] at h1;cases h1
      | some s=>rw[iP] at h1;cases h1;rfl
   ·cases h1
  ·cases h
 ·rename_i e ha hb
  split at h
  ·rename_i he
   obtain⟨v,H',h1,h2⟩:=uQ h
   refine⟨v,H',?_,h2⟩
   unfold s2b at h1
   split at h1
   ·rename_i s
    unfold jU;rw[ha,hb];simp only[he]
    cases hn:aC H (s.map fun (b:Nat)=>AV.int .u8 b) e 1 with
    | none=>rw[hn] at h1;cases h1
    | some r=>rw[hn] at h1;exact h1
   ·cases h1
  ·cases h
 ·exact uQ h
theorem an9 {t:TypeId}{x:AV}{lo hi mx:Option AV}{H:Hp}{k:AV->R}{r:AV × Hp}(h:Gn P t x lo hi mx H k=some r):∃ v,su P t x lo hi mx H=some v/\k v=some r:=by
 unfold Gn at h
 split at h
 ·rename_i hu
  split at h
  ·obtain⟨v,h1,h2⟩:=eK h
   refine⟨v,?_,h2⟩
   unfold oL at h1
   split at h1
   ·rename_i s
    unfold su
    simp only[hu,acy,acF,aho,abH,if_false]
    cases hb:sC s.length s.length lo hi none with
    | none=>rw[hb] at h1;cases h1
    | some p=>rw[hb] at h1;exact h1
   ·cases h1
  ·cases h
 ·rename_i el hu
  split at h
  ·rename_i s hs
   obtain⟨v,h1,h2⟩:=eK h
   refine⟨v,?_,h2⟩
   unfold qE at h1
   split at h1
   ·unfold su
    simp only[hu,acy,acF,hs,ahx,if_true]
    cases hb:sC 0 0 lo hi mx with
    | none=>rw[hb] at h1;cases h1
    | some p=>rw[hb] at h1;exact h1
   ·rename_i i off len cap ex es
    unfold su
    simp only[hu,acy,acF,hs]
    cases hb:sC len cap lo hi mx with
    | none=>rw[hb] at h1;cases h1
    | some p=>
     rw[hb] at h1
     simp only[acF] at h1 ⊢
     split at h1
     ·rename_i he;subst he;simpa using h1
     ·cases h1
   ·cases h1
  ·cases h
 ·exact eK h
theorem K2 {cf:CF}{o:Oper}{t:Tm}{H:Hp}{k:AV->Hp->R}{r:AV × Hp}(h:ey P cf o t H k=some r):∃ v H',tQ P cf t o H=some (v,H')/\k v H'=some r:=by
 obtain⟨dst,op,YY,pos,after,guard⟩:=o
 cases op
 case move x=>exact⟨_,_,rfl,h⟩
 case assign x=>exact⟨_,_,rfl,h⟩
 case pick c a b=>
  obtain⟨v,h1,h2⟩:=eK h
  refine⟨v,H,?_,h2⟩
  unfold pk at h1
  show (match ev P.globals.size t c with | .bool q=>some (bif q then ev P.globals.size t a else ev P.globals.size t b,H) | _=>none)=_
  split at h1
  ·rename_i q hq;first | (rw[hq];cases h1;rfl) | (cases h1;rfl)
  ·cases h1
 case alloc ty=>
  have h0:(match zc P ty with | some l=>BN (aC H l ty 0) fun i H=>k (.ptr i 0) H | none=>none)=some r:=h
  show ∃ v H',(match zc P ty with | some l=>(aC H l ty 0).map fun r=>(AV.ptr r.1 0,r.2) | none=>none)=some (v,H')/\_
  split at h0
  ·rename_i l hl
   obtain⟨i,H2,h1,h2⟩:=Lk h0
   exact⟨_,_,by rw[h1];rfl,h2⟩
  ·cases h0
 case box ty x=>
  have h0:BN (bx ty (ev P.globals.size t x) H) (fun i H=>k (.ptr i 0) H)=some r:=h
  obtain⟨i,H2,h1,h2⟩:=Lk h0
  refine⟨.ptr i 0,H2,?_,h2⟩
  show (match rK (ev P.globals.size t x) with | some l=>(aC H l ty 0).map fun r:Nat × Hp=>(AV.ptr r.1 0,r.2) | none=>none)=some (AV.ptr i 0,H2)
  unfold bx at h1
  split at h1
  ·rename_i l hl;first | (rw[hl];simp only[h1];rfl) | (simp only[h1];rfl)
  ·cases h1
 case build ty ps=>
  show ∃ v H',(J2 P ty (ps.toList.map fun (i,x)=>(i,ev P.globals.size t x))).map (fun v=>(v,H))=some (v,H')/\_
  unfold ey at h
  simp only at h
  unfold J2
  split at h
  ·rename_i z fs hz hu
   rw[hz,hu]
   simp only
   split at h
   ·rename_i pl jy
    rw[jy]
    simp only
    split at h
    ·rename_i l hl
     obtain⟨l2,h1,h2⟩:=eK h
     refine⟨.agg l2,H,?_,h2⟩
     rw[Oi (pl[·]?) (ps.toList.map fun (i,x)=>(i,ev P.globals.size t x)) l z l2 (by rw[Ma];exact hl) h1]
     rfl
    ·cases h
   ·cases h
  ·rename_i z n el hz hu
   rw[hz,hu]
   simp only
   split at h
   ·rename_i s hs
    rw[hs]
    simp only
    obtain⟨l2,h1,h2⟩:=eK h
    refine⟨.agg l2,H,?_,h2⟩
    have hq:sG (fun (p:Nat × AV)=>((fun i=>some (i*s,s)) p.1).map fun q=>(q.1,q.2,p.2)) (ps.toList.map fun (i,x)=>(i,ev P.globals.size t x))=some (ps.toList.map fun p=>(p.1*s,s,ev P.globals.size t p.2)):=by
     rw[Ma]
     exact SH (fun p:Nat × Operand=>(p.1*s,s,ev P.globals.size t p.2)) _
    rw[Oi (fun i=>some (i*s,s)) _ _ z l2 hq h1]
    rfl
   ·cases h
  ·cases h
 case buildSlice ty n ps=>
  show ∃ v H',Ho P ty n (ps.toList.map fun (i,x)=>(i,ev P.globals.size t x)) H=some (v,H')/\_
  unfold ey at h
  simp only at h
  unfold Ho
  split at h
  ·rename_i el hu
   rw[hu]
   simp only
   split at h
   ·rename_i s hs
    rw[hs]
    simp only
    cases hb:Nat.ble (n*s) 65536 with
    | false=>rw[hb] at h;cases h
    | true=>
     rw[hb] at h
     simp only[cond_true] at h ⊢
     split at h
     ·rename_i z hz
      rw[hz]
      simp only
      obtain⟨l2,h1,h2⟩:=eK h
      obtain⟨i,H2,h3,h4⟩:=Lk h2
      have hq:sG (fun (p:Nat × AV)=>((fun i=>some (i*s,s)) p.1).map fun q=>(q.1,q.2,p.2)) (ps.toList.map fun (i,x)=>(i,ev P.globals.size t x))=some (ps.toList.map fun p=>(p.1*s,s,ev P.globals.size t p.2)):=by
       rw[Ma]
       exact SH (fun p:Nat × Operand=>(p.1*s,s,ev P.globals.size t p.2)) _
      refine⟨_,_,?_,h4⟩
      rw[Oi (fun i=>some (i*s,s)) _ _ z l2 hq h1]
      simp only[h3]
      rfl
     ·cases h
   ·cases h
  ·cases h
 case insert ty m q v=>
  unfold ey at h
  simp only at h
  show ∃ v' H',(pZ P ty (ev P.globals.size t m) (ev P.globals.size t q) (ev P.globals.size t v) H).map (fun H=>(cq,H))=some (v',H')/\_
  split at h
  ·rename_i kt el hu
   split at h
   ·rename_i K hk
    obtain⟨H',h1,h2⟩:=eK h
    exact⟨_,H',by rw[aaX hu hk h1];rfl,h2⟩
   ·obtain⟨H',h1,h2⟩:=eK h
    exact⟨_,H',by rw[h1];rfl,h2⟩
  ·cases h
 case mapUpdate ty m q v=>
  unfold ey at h
  simp only at h
  show ∃ v' H',(pZ P ty (ev P.globals.size t m) (ev P.globals.size t q) (ev P.globals.size t v) H).map (fun H=>(cq,H))=some (v',H')/\_
  split at h
  ·rename_i kt el hu
   split at h
   ·rename_i K hk
    obtain⟨H',h1,h2⟩:=eK h
    exact⟨_,H',by rw[aaX hu hk h1];rfl,h2⟩
   ·obtain⟨H',h1,h2⟩:=eK h
    exact⟨_,H',by rw[h1];rfl,h2⟩
  ·cases h
 case load ty a=>
  unfold ey at h
  simp only at h
  show ∃ v H',(th P H ty (ev P.globals.size t a)).map (fun v=>(v,H))=some (v,H')/\_
  split at h
  ·rename_i n ha hs
   obtain⟨v,h1,h2⟩:=eK h
   refine⟨v,H,?_,h2⟩
   unfold az at h1
   split at h1
   ·rename_i i off hx
    rw[hx]
    unfold th
    simp only[ha,hs,acy,acF,if_true]
    cases hc:aq H i off n with
    | none=>rw[hc] at h1;cases h1
    | some l=>rw[hc] at h1;cases h1;rfl
   ·cases h1
  ·rename_i q ha hs
   obtain⟨v,h1,h2⟩:=eK h
   refine⟨v,H,?_,h2⟩
   unfold ld at h1
   split at h1
   ·rename_i i off hx
    rw[hx]
    unfold th
    simp only[hs,acy,acF,abH,if_false,h1]
    rfl
   ·cases h1
  ·cases h
 case store ty a v=>
  unfold ey at h
  simp only at h
  show ∃ v' H',(GV P H ty (ev P.globals.size t a) (ev P.globals.size t v)).map (fun H=>(cq,H))=some (v',H')/\_
  split at h
  ·rename_i n hs
   obtain⟨H',h1,h2⟩:=eK h
   refine⟨_,H',?_,h2⟩
   unfold st at h1
   split at h1
   ·rename_i i off hx
    rw[hx]
    unfold GV
    split at h1
    ·rename_i cs fK
     simp only[fK,hs,acy,acF]
     cases hb:Nat.beq n cs.length with
     | false=>rw[hb] at h1;cases h1
     | true=>
      rw[hb] at h1
      have:=abI hb
      subst this
      simp only[cond_true] at h1
      simp[h1]
    ·cases h1
   ·cases h1
  ·cases h
 case nilCheck x=>
  obtain⟨v,h1,h2⟩:=eK h
  exact⟨v,H,by show (aT _).map _=_;rw[h1];rfl,h2⟩
 case binOp op ty x y ty2=>
  obtain⟨v,h1,h2⟩:=auS h
  exact⟨v,H,h1,h2⟩
 case unOp op ty x=>
  obtain⟨v,h1,h2⟩:=eK h
  exact⟨v,H,by show (eu op _).map _=_;rw[h1];rfl,h2⟩
 case convert a b x=>exact ano h
 case makeInterface ty x=>
  unfold ey at h
  simp only at h
  split at h
  ·rename_i v hv
   exact⟨v,H,by show (Oa P ty _).map _=_;rw[hv];rfl,h⟩
  ·cases h
 case makeFunc fn a b=>
  unfold ey at h
  simp only at h
  split at h
  ·rename_i v hv
   exact⟨v,H,by show (Mg fn _ _).map _=_;rw[hv];rfl,h⟩
  ·cases h
 case makeMap ty x=>
  cases x with
  | some y=>cases h
  | none=>
   have h0:BN (zW H) (fun i H=>k (.map i) H)=some r:=h
   obtain⟨i,H2,h1,h2⟩:=Lk h0
   refine⟨_,_,?_,h2⟩
   show (alloc H (.map [] 0)).map (fun r:Nat × Hp=>(AV.map r.1,r.2))=_
   unfold zW at h1
   rw[h1];rfl
 case makeSlice ty l c=>
  unfold ey at h
  simp only at h
  show ∃ v H',wY P ty (ev P.globals.size t l) (ev P.globals.size t c) H=some (v,H')/\_
  split at h
  ·rename_i el hu
   split at h
   ·rename_i s z hs hz
    cases hb:(Nat.ble (P.bytesOf el) 4096&&Nat.beq z.length s) with
    | false=>rw[hb] at h;cases h
    | true=>
     rw[hb] at h
     simp only[cond_true] at h
     simp only[aaT,afV,Nat.beq_eq] at hb
     obtain⟨v,H',h1,h2⟩:=uQ h
     refine⟨v,H',?_,h2⟩
     unfold zK at h1
     split at h1
     ·rename_i k1 n k2 m hl hc
      rw[hl,hc]
      unfold wY
      rw[hu]
      simp only[hs]
      split at h1
      ·rename_i tv
       rw[if_pos ⟨tv.1,tv.2.1,tv.2.2,hb.1⟩]
       have hr:Ag P el s m.toNat=some (rep m.toNat z):=by
        unfold Ag
        cases h0:Nat.beq (m.toNat*s) 0 with
        | true=>
         have Sv:=abI h0
         have:rep m.toNat z=[]:=by
          unfold rep
          rcases Nat.mul_eq_zero.1 Sv with q | q
          ·rw[q];rfl
          ·have:z=[]:=List.eq_nil_of_length_eq_zero (by rw[hb.2,q])
           rw[this];simp
         rw[this];rfl
        | false=>
         simp only[cond_false,hz]
         rw[hb.2,aie];rfl
       rw[hr]
       simp only
       cases hn:aC H (rep m.toNat z) el 0 with
       | none=>rw[hn] at h1;cases h1
       | some q=>rw[hn] at h1;exact h1
      ·cases h1
     ·cases h1
   ·cases h
  ·cases h
 case slice ty x lo hi mx=>
  obtain⟨v,h1,h2⟩:=an9 h
  exact⟨v,H,by show (su P ty _ _ _ _ H).map _=_;rw[h1];rfl,h2⟩
 case fieldAddr ty x f=>
  unfold ey at h
  simp only at h
  show ∃ v H',(NN P ty (ev P.globals.size t x) f).map (fun v=>(v,H))=some (v,H')/\_
  split at h
  ·rename_i off ho
   obtain⟨v,h1,h2⟩:=eK h
   refine⟨v,H,?_,h2⟩
   unfold fa at h1
   split at h1
   ·rename_i i o hx
    rw[hx]
    cases h1
    unfold Zt at ho
    unfold NN
    split at ho
    ·rename_i fs hu
     rw[hu]
     simp only
     split at ho
     ·rename_i fd Iz
      rw[Iz]
      simp only
      cases hp:y9 P fd.type with
      | false=>rw[hp] at ho;cases ho
      | true=>rw[hp] at ho;cases ho;rfl
     ·cases ho
    ·cases ho
   ·cases h1
  ·cases h
 case field ty x f=>
  unfold ey at h
  simp only at h
  show ∃ v H',(GM P ty (ev P.globals.size t x) f).map (fun v=>(v,H))=some (v,H')/\_
  split at h
  ·rename_i fs hu
   split at h
   ·rename_i d hd
    split at h
    ·rename_i n ha hs
     obtain⟨v,h1,h2⟩:=eK h
     refine⟨v,H,?_,h2⟩
     unfold fda at h1
     split at h1
     ·rename_i cs hx
      rw[hx]
      unfold GM
      rw[hu]
      simp only[hd]
      unfold nH
      simp only[ha,hs,acy,acF,if_true]
      cases hb:Nat.ble (d.offset+n) cs.length with
      | false=>rw[hb] at h1;cases h1
      | true=>rw[hb] at h1;cases h1;rfl
     ·cases h1
    ·rename_i q ha hs
     obtain⟨v,h1,h2⟩:=eK h
     refine⟨v,H,?_,h2⟩
     unfold fd at h1
     split at h1
     ·rename_i cs hx
      rw[hx]
      unfold GM
      rw[hu]
      simp only[hd]
      unfold nH
      simp only[hs,acy,acF,abH,if_false,h1]
      rfl
     ·cases h1
    ·cases h
   ·cases h
  ·cases h
 case indexAddr ty x ix=>
  unfold ey at h
  simp only at h
  show ∃ v H',(DY P ty (ev P.globals.size t x) (ev P.globals.size t ix)).map (fun v=>(v,H))=some (v,H')/\_
  split at h
  ·rename_i el hu
   split at h
   ·rename_i s hs
    obtain⟨v,h1,h2⟩:=eK h
    refine⟨v,H,?_,h2⟩
    unfold ia at h1
    split at h1
    ·rename_i i off len c e es q kk hx qU
     rw[hx,qU]
     unfold DY
     simp only[hu,acy,acF,hs]
     split at h1
     ·rename_i hc
      obtain⟨rfl,c1,c2⟩:=hc
      cases h1
      simp[c1,c2]
     ·cases h1
    ·cases h1
   ·cases h
  ·rename_i n el hu
   split at h
   ·rename_i s hs
    obtain⟨v,h1,h2⟩:=eK h
    refine⟨v,H,?_,h2⟩
    unfold pj at h1
    split at h1
    ·rename_i i off q kk hx qU
     rw[hx,qU]
     unfold DY
     simp only[hu,acy,acF,hs]
     split at h1
     ·rename_i hc
      obtain⟨c1,c2⟩:=hc
      cases h1
      simp[c1,c2]
     ·cases h1
    ·cases h1
   ·cases h
  ·cases h
 case index ty x ix=>
  unfold ey at h
  simp only at h
  show ∃ v H',(DS P ty (ev P.globals.size t x) (ev P.globals.size t ix)).map (fun v=>(v,H))=some (v,H')/\_
  split at h
  ·rename_i hu
   obtain⟨v,h1,h2⟩:=eK h
   refine⟨v,H,?_,h2⟩
   unfold wW at h1
   split at h1
   ·rename_i s q kk hx qU
    rw[hx,qU]
    unfold DS
    simp only[hu,acy,acF,h1]
    rfl
   ·cases h1
  ·obtain⟨v,h1,h2⟩:=eK h
   exact⟨v,H,by rw[h1];rfl,h2⟩
 case lookup ty x q ok=>
  unfold ey at h
  simp only at h
  show ∃ v H',(rH P ty (ev P.globals.size t x) (ev P.globals.size t q) ok H).map (fun v=>(v,H))=some (v,H')/\_
  split at h
  ·rename_i kt el hu
   split at h
   ·rename_i K z hk hz
    obtain⟨v,h1,h2⟩:=eK h
    exact⟨v,H,by rw[anp hu hk hz h1];rfl,h2⟩
   ·obtain⟨v,h1,h2⟩:=eK h
    exact⟨v,H,by rw[h1];rfl,h2⟩
  ·cases h
 case range ty x=>exact uQ h
 case next it s=>exact uQ h
 case entry it=>cases h
 case extract tp i=>
  obtain⟨v,h1,h2⟩:=eK h
  refine⟨v,H,?_,h2⟩
  show (match ev P.globals.size t tp with | .tuple l=>(l[i]?).map fun v=>(v,H) | _=>none)=_
  unfold ex at h1
  split at h1
  ·rename_i l hl;first | (rw[hl];simp only[h1];rfl) | (simp only[h1];rfl)
  ·cases h1
 case typeAssert x a Nh ok=>
  unfold ey at h
  simp only at h
  show ∃ v H',(GS P Nh (ev P.globals.size t x) ok).map (fun v=>(v,H))=some (v,H')/\_
  split at h
  ·cases h
  ·rename_i d aH hu
   obtain⟨v,h1,h2⟩:=eK h
   refine⟨v,H,?_,h2⟩
   unfold ta at h1
   split at h1
   ·rename_i u w hx
    rw[hx]
    unfold GS
    split at h1
    ·rename_i he
     cases h1
     cases d<;>first | (exact absurd rfl (aH _)) | (rw[hu];simp only[he,if_true];rfl)
    ·cases h1
   ·cases h1
  ·cases h
 case call c=>
  obtain⟨callee,args,sP⟩:=c
  cases callee with
  | value f=>exact uQ h
  | invoke r m=>cases h
  | builtin b=>exact anO h
 all_goals cases h
end K
end Go.Proofs.YtodfajmihkagnaaGreatDoor.Am
