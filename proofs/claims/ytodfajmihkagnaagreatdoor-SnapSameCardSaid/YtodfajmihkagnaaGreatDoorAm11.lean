/- Laws that the proof uses. -/
import Derived.Test.YtodfajmihkagnaaGreatDoorAm10
set_option linter.unusedVariables false
set_option linter.unusedSimpArgs false
namespace Go.Proofs.YtodfajmihkagnaaGreatDoor.Am
section
section
namespace K
def pk (c a b:AV):Option AV:=match c with|.bool q=>some (bif q then a else b)|_=>none
def bx (ty:Nat)(x:AV)(H:Hp):Option (Nat×Hp):=match uE x with|some l=>aA H l ty 0|none=>none
def fl (z:List AV):List (Nat×Nat×AV)->Option (List AV)
 |[]=>some z|(off,size,v)::r=>match uE v with
  |some cs=>if cs.length=size/\off+size<=z.length then fl (z.take off++cs++z.drop (off+size)) r else none
  |none=>none
def st (n:Nat)(x v:AV)(H:Hp):Option Hp:=match x with
 |.ptr i o=>match uE v with
  |some cs=>bif Nat.beq n cs.length then setCells H i o cs else none
  |none=>none
 |_=>none
def fa (off:Nat)(x:AV):Option AV:=match x with|.ptr i o=>some (.ptr i (o+off))|_=>none
def fd (off:Nat)(x:AV):Option AV:=match x with|.agg cs=>cs[off]?|_=>none
def fda (n off:Nat)(x:AV):Option AV:=match x with|.agg cs=>bif Nat.ble (off+n) cs.length then some (.agg ((cs.drop off).take n)) else none|_=>none
def ia (s:Nat)(x ix:AV):Option AV:=match x,ix with
 |.slice i off len _ _ es,.int _ k=>if s=es/\0<=k/\k<len then some (.ptr i (off+k.toNat*es)) else none
 |_,_=>none
def qA (n s:Nat)(x ix:AV):Option AV:=match x,ix with
 |.ptr i off,.int _ k=>if 0<=k/\k<n then some (.ptr i (off+k.toNat*s)) else none
 |_,_=>none
def z7 (x ix:AV):Option AV:=match x,ix with
 |.str s,.int _ k=>if 0<=k then (s[k.toNat]?).map λ(b:Nat)=>.int .u8 b else none
 |_,_=>none
def ex (i:Nat)(x:AV):Option AV:=match x with|.tuple l=>l[i]?|_=>none
def ta (t:Nat)(ok:Bool)(x:AV):Option AV:=match x with|.iface u v=>if u=t then some (bif ok then .tuple [v,.bool true] else v) else none|_=>none
def ii (f:IntKind->Int->Int->Option AV)(x y:AV):Option AV:=match x,y with|.int k a,.int k' b=>if k=k' then f k a b else none|_,_=>none
def i2 (f:IntKind->Int->Int->Option AV)(x y:AV):Option AV:=match x,y with|.int k a,.int _ b=>f k a b|_,_=>none
def aZ:=ii λk a b=>some (.int k (k.wrap (a+b)))
def pC:=ii λk a b=>some (.int k (k.wrap (a-b)))
def vK:=ii λk a b=>some (.int k (k.wrap (a*b)))
def Gr:=ii λk a b=>if b=0 then none else some (.int k (k.wrap (a.tdiv b)))
def wA:=ii λk a b=>if b=0 then none else some (.int k (a.tmod b))
def zn:=ii λk a b=>some (.int k (k.wrap (mh k a&&&mh k b:Nat)))
def zv:=ii λk a b=>some (.int k (k.wrap (mh k a|||mh k b:Nat)))
def Br:=ii λk a b=>some (.int k (k.wrap (mh k a ^^^ mh k b:Nat)))
def bJ:=ii λ_ a b=>some (.bool (a==b))
def gk:=ii λ_ a b=>some (.bool (a != b))
def ba:=ii λ_ a b=>some (.bool (a<b))
def qE:=ii λ_ a b=>some (.bool (a<=b))
def iC:=ii λ_ a b=>some (.bool (b<a))
def me:=ii λ_ a b=>some (.bool (b<=a))
def wD:=i2 λk a b=>if b<0 then none else some (.int k (k.wrap (a*2^(min b.toNat k.bits))))
def sP:=i2 λk a b=>if b<0 then none else some (.int k (a.fdiv (2^(min b.toNat k.bits))))
def Od (op:BinOp)(x y:AV):Option AV:=match op with
 |.add=>aZ x y|.sub=>pC x y|.mul=>vK x y|.quo=>Gr x y|.rem=>wA x y|.and=>zn x y|.or=>zv x y|.xor=>Br x y|.shl=>wD x y|.shr=>sP x y|.andNot=>none|.eql=>bJ x y|.neq=>gk x y|.lss=>ba x y|.leq=>qE x y|.gtr=>iC x y|.geq=>me x y
def ss (f:List Nat->List Nat->Option AV)(x y:AV):Option AV:=match x,y with|.str a,.str b=>f a b|_,_=>none
def uY:=ss λa b=>bif Nat.ble (a.length+b.length) 4294967296 then some (.str (a++b)) else none
def seq:=ss λa b=>some (.bool (a==b))
def sL:=ss λa b=>some (.bool (!(a==b)))
def slt:=ss λa b=>some (.bool (tw a b))
def sle:=ss λa b=>some (.bool (tw a b||a==b))
def sgt:=ss λa b=>some (.bool (!(tw a b||a==b)))
def sge:=ss λa b=>some (.bool (!(tw a b)))
def Oj (op:BinOp)(x y:AV):Option AV:=match op with
 |.add=>uY x y|.eql=>seq x y|.neq=>sL x y|.lss=>slt x y|.leq=>sle x y|.gtr=>sgt x y|.geq=>sge x y|_=>none
def pe (x y:AV)(H:Hp):Option Bool:=match x,y with
 |.dE,.dE=>some true|.dE,.ptr _ _=>some false|.ptr _ _,.dE=>some false|.ptr i a,.ptr j b=>bif Nat.beq i j then some (Nat.beq a b) else bif clean H i&&clean H j then some false else none
 |_,_=>none
def CQ (op:BinOp)(o:Option Bool):Option AV:=match op with
 |.eql=>o.map .bool|.neq=>o.map λb=>.bool !b
 |_=>none
def cv (k:IntKind)(x:AV):Option AV:=match x with|.int _ n=>some (.int k (k.wrap n))|_=>none
def cvs (x:AV):Option AV:=match x with|.str s=>some (.str s)|_=>none
def qM (x:AV)(lo hi:Option AV):Option AV:=match x with
 |.str s=>(uW s.length s.length lo hi none).map λp=>.str ((s.drop p.1).take (p.2.1-p.1))
 |_=>none
def oh (s:Nat)(x:AV)(lo hi mx:Option AV):Option AV:=match x with
 |.ah=>(uW 0 0 lo hi mx).map λ_=>.ah
 |.slice i off len cap ex es=>(uW len cap lo hi mx).bind λp=>if s=es then some (.slice i (off+p.1*es) (p.2.1-p.1) (p.2.2-p.1) (ex||mx.isSome) es) else none
 |_=>none
def B0 (z:List AV)(el s:Nat)(l c:AV)(H:Hp):Option (AV×Hp):=match l,c with
 |.int _ l,.int _ c=>if 0<=l/\l<=c/\c<=1048576 then (aA H (rep c.toNat z) el 0).map λr=>(.slice r.1 0 l.toNat c.toNat true s,r.2) else none
 |_,_=>none
inductive KT where|str|int
def Cl (kt:KT)(x y:AV):Option Bool:=match kt with
 |.str=>(match x,y with|.str a,.str b=>some (a==b)|_,_=>none)|.int=>(match x,y with|.int k a,.int k' b=>if k=k' then some (a==b) else none|_,_=>none)
def nk (kt:KT)(k:AV):List ME->Bool
 |[]=>true|e::es=>match Cl kt k e.key with
  |some false=>nk kt k es|_=>false
def fk (kt:KT)(k:AV):List ME->Nat->Option (Option (Nat×ME))
 |[],_=>some none|e::es,i=>match Cl kt k e.key with
  |some true=>bif nk kt k es then some (some (i,e)) else none
  |some false=>fk kt k es (i+1)|none=>none
def tC (kt:KT)(z:AV)(ok:Bool)(x k:AV)(H:Hp):Option AV:=match mapOf H x with
 |some (es,_)=>match fk kt k es 0 with
  |some (some (_,m))=>some (bif ok then .tuple [m.val,.bool true] else m.val)|some none=>some (bif ok then .tuple [z,.bool false] else z)|none=>none
 |none=>none
def xT (kt:KT)(x k v:AV)(H:Hp):Option Hp:=match x with
 |.map i=>match H.h.get i with
  |some (.map es c)=>match fk kt k es 0 with
   |some (some (j,m))=>bif Hu m.key k then some (setObj H i (.map (es.set j {m with key:=k,val:=v}) c)) else none
   |some none=>some (setObj H i (.map (es++[⟨k,v,c⟩]) (c+1)))|none=>none
  |_=>none
 |_=>none
def aaW (kt:KT)(m k:AV)(H:Hp):Option Hp:=match m with
 |.lz=>some H|.map i=>match H.h.get i with
  |some (.map es c)=>match fk kt k es 0 with
   |some (some (j,_))=>some (setObj H i (.map (es.eraseIdx j) c))|some none=>some H|none=>none
  |_=>none
 |_=>none
def BS (H:Hp):Option (Nat×Hp):=alloc H (.map [] 0)
def aG (x:AV):Option AV:=match x with|.ah=>some (.int .i64 0)|.slice _ _ n _ _ _=>some (.int .i64 n)|_=>none
def lens (x:AV):Option AV:=match x with|.str s=>some (.int .i64 s.length)|_=>none
def ail (x:AV)(H:Hp):Option AV:=match x with
 |.lz=>some (.int .i64 0)|.map i=>match H.h.get i with|some (.map es _)=>some (.int .i64 es.length)|_=>none
 |_=>none
def BV (es:Nat)(z:List AV)(gm:Bool)(x:AV)(H:Hp):Option (Nat×List AV):=match gm,x with
 |true,.int .i64 k=>if 0<=k/\k<16777216 then some (k.toNat,rep k.toNat z) else none
 |false,.ah=>some (0,[])|false,.slice i off len _ _ _=>(av H i off (len*es)).map λl=>(len,l)
 |false,.str s=>if es=1 then some (s.length,s.map λ(b:Nat)=>AV.int .u8 b) else none
 |_,_=>none
def HW (el es:Nat)(n:Nat)(new:List AV)(s:AV)(H:Hp):Option (AV×Hp):=match s with
 |.ah=>
  bif Nat.beq n 0 then some (.ah,H) else
  bif Nat.ble n 16777216 then (aA H new el 0).map λr=>(.slice r.1 0 n n false es,r.2) else none
 |.slice i off len cap ex es'=>
  bif Nat.ble (len+n) 16777216&&Nat.beq es es'&&new.all aW then
  bif Nat.ble (len+n) cap then (setCells H i (off+len*es) new).map λH=>(.slice i off (len+n) cap ex es,H)
  else bif ex then (av H i off (len*es)).bind λgI=>(aA H (gI++new) el 0).map λr=>(.slice r.1 0 (len+n) (len+n) false es,r.2)
  else match H.h.get i with
   |some (.cells c lo hi xu fl)=>
    bif Nat.ble fl 1&&Nat.ble lo off&&Nat.ble (off+len*es) hi&&Nat.beq el xu then
     (alloc {H with h:=H.h.del i} (.cells (c.cz (off+len*es) new) off (off+(len+n)*es) el 1)).map λr=>(.slice r.1 off (len+n) (len+n) false es,r.2)
    else none
   |_=>none
  else none
 |_=>none
def c8 (el es:Nat)(z:List AV)(gm:Bool)(s x:AV)(H:Hp):Option (AV×Hp):=match BV es z gm x H with
 |some (n,new)=>HW el es n new s H|none=>none
def JM (es:Nat)(d x:AV)(H:Hp):Option (AV×Hp):=match TL x with
 |some xl=>match d with
  |.ah=>some (.int .i64 0,H)|.slice i off dl _ _ _=>
   bif Nat.beq (Nat.min xl dl) 0 then some (.int .i64 0,H) else
   match Z0 es (Nat.min xl dl) x H with
   |some cs=>(setCells H i off cs).map λH=>(.int .i64 (Nat.min xl dl),H)
   |none=>none
  |_=>none
 |none=>none
def tQ (x:AV)(H:Hp):Option AV:=match x with
 |.ah=>some (.str [])|.slice i off len _ _ _=>bif Nat.beq len 0 then some (.str []) else (av H i off len).bind λcs=>(zg cs).map .str
 |_=>none
def s2b (el:Nat)(x:AV)(H:Hp):Option (AV×Hp):=match x with
 |.str s=>(aA H (s.map λ(b:Nat)=>AV.int .u8 b) el 1).map λr=>(.slice r.1 0 s.length s.length false 1,r.2)
 |_=>none
end K
namespace K
variable (P:Program)
def vo (kt:TypeId):Option KT:=match P.underlying kt with|some .string=>some .str|some (.int _)=>some .int|_=>none
def afp (ty:TypeId)(f:Nat):Option Nat:=match P.underlying ty with
 |some (.struct fs)=>match fs[f]? with
  |some fd=>bif CC P fd.type then some fd.offset else none
  |none=>none
 |_=>none
inductive CL where|int|str|bool|ptr|other
def Xx (t:TypeId):CL:=match P.underlying t with|some (.int _)=>.int|some .string=>.str|some .bool=>.bool|some (.pointer el)=>(match sz P el with|some (_+1)=>.ptr|_=>.other)|_=>.other
def bb (op:BinOp)(x y:AV):Option AV:=match op,x,y with
 |.eql,.bool a,.bool b=>some (.bool (a==b))|.neq,.bool a,.bool b=>some (.bool (!(a==b)))|_,_,_=>none
def gA (op:BinOp)(t:TypeId)(c:Bool)(x y:AV):Bool:=match op with
 |.eql|.neq=>(match x,y with|.nilIface,.nilIface=>c|.agg _,.agg _=>!(P.eqGuardType P.depth t)|_,_=>true)|_=>true
def Jt (op:BinOp)(t:TypeId)(X Y:Operand)(x y:AV)(H:Hp)(k:AV->R):R:=match Xx P t with
 |.int=>B1 (Od op x y) k|.str=>B1 (Oj op x y) k|.bool=>B1 (bb op x y) k|.ptr=>B1 (CQ op (pe x y H)) k|.other=>xi (gA P op t (zq X||zq Y) x y) (B1 (fV P op t x y H) k)
def Kw (a b:TypeId)(x:AV)(H:Hp)(k:AV->Hp->R):R:=match P.underlying a,P.underlying b with
 |some (.int _),some (.int q)=>B1 (cv q x) λv=>k v H
 |some .string,some .string=>B1 (cvs x) λv=>k v H
 |some (.slice e),some .string=>(match P.underlying e with|some (.int .u8)=>B1 (tQ x H) λv=>k v H|_=>none)|some .string,some (.slice e)=>(match P.underlying e with|some (.int .u8)=>B2 (s2b e x H) k|_=>none)|_,_=>B2 (kY P a b x H) k
def Ip (t:TypeId)(x:AV)(lo hi mx:Option AV)(H:Hp)(k:AV->R):R:=match P.underlying t with
 |some .string=>(match mx with|none=>B1 (qM x lo hi) k|some _=>none)|some (.slice el)=>(match sz P el with|some s=>B1 (oh s x lo hi mx) k|none=>none)|_=>B1 (uJ P t x lo hi mx H) k
def Il (b:Builtin)(ty:Array TypeId)(args:List AV)(H:Hp)(k:AV->Hp->R):R:=match b,args with
 |.len,[x]=>(match (ty[0]?).bind P.underlying with
  |some .string=>B1 (lens x) λv=>k v H
  |some (.slice _)=>B1 (aG x) λv=>k v H
  |some (.map _ _)=>B1 (ail x H) λv=>k v H
  |_=>B2 (jn P .len ty args H) k)
 |.append,[s,x]=>(match (ty[0]?).bind P.underlying,Ks P ty with
  |some (.slice el),some gm=>(match sz P el,zc P el with
   |some es,some z=>bif Nat.ble (P.bytesOf el) 4096&&Nat.beq z.length es then B2 (c8 el es z gm s x H) k else none
   |_,_=>none)
  |_,_=>none)
 |.copy,[d,x]=>(match (ty[0]?).bind P.underlying with
  |some (.slice el)=>(match sz P el with
   |some es=>B2 (JM es d x H) k|none=>none)
  |_=>none)
 |.delete,[m,q]=>(match (ty[0]?).bind P.underlying with
  |some (.map kt _)=>(match vo P kt with
   |some kt=>B1 (aaW kt m q H) λH=>k bP H
   |none=>B2 (jn P .delete ty args H) k)
  |_=>none)
 |b,args=>B2 (jn P b ty args H) k
def fu (cf:CF)(o:Oper)(t:Tm)(H:Hp)(k:AV->Hp->R):R:=
 match o.op with
 |.move x=>k (ev P.globals.size t x) H|.assign x=>k (ev P.globals.size t x) H|.pick c a b=>B1 (pk (ev P.globals.size t c) (ev P.globals.size t a) (ev P.globals.size t b)) λv=>k v H
 |.alloc ty=>(match zc P ty with|some l=>BN (aA H l ty 0) λi H=>k (.ptr i 0) H|none=>none)|.box ty x=>BN (bx ty (ev P.globals.size t x) H) λi H=>k (.ptr i 0) H
 |.build ty ps=>(match zc P ty,P.underlying ty with
  |some z,some (.struct fs)=>(match ZK P fs with
   |some pl=>(match uU (λ(p:Nat×Operand)=>(pl[p.1]?).map λq=>(q.1,q.2,ev P.globals.size t p.2)) ps.toList with
    |some l=>B1 (fl z l) λl=>k (.agg l) H
    |none=>none)
   |none=>none)
  |some z,some (.array _ el)=>(match sz P el with
   |some s=>B1 (fl z (ps.toList.map λp=>(p.1*s,s,ev P.globals.size t p.2))) λl=>k (.agg l) H
   |none=>none)
  |_,_=>none)
 |.buildSlice ty n ps=>(match P.underlying ty with
  |some (.slice el)=>(match sz P el with
   |some s=>bif Nat.ble (n*s) 65536 then (match Dn P el s n with
    |some z=>B1 (fl z (ps.toList.map λp=>(p.1*s,s,ev P.globals.size t p.2))) λl=>BN (aA H l el 0) λi H=>k (.slice i 0 n n true s) H
    |none=>none) else none
   |none=>none)
  |_=>none)
 |.insert ty m q v=>(match P.underlying ty with
  |some (.map kt _)=>(match vo P kt with
   |some kt=>B1 (xT kt (ev P.globals.size t m) (ev P.globals.size t q) (ev P.globals.size t v) H) λH=>k bP H
   |none=>B1 (qm P ty (ev P.globals.size t m) (ev P.globals.size t q) (ev P.globals.size t v) H) λH=>k bP H)
  |_=>none)
 |.mapUpdate ty m q v=>(match P.underlying ty with
  |some (.map kt _)=>(match vo P kt with
   |some kt=>B1 (xT kt (ev P.globals.size t m) (ev P.globals.size t q) (ev P.globals.size t v) H) λH=>k bP H
   |none=>B1 (qm P ty (ev P.globals.size t m) (ev P.globals.size t q) (ev P.globals.size t v) H) λH=>k bP H)
  |_=>none)
 |.load ty a=>(match Ah P ty,sz P ty with
  |some true,some n=>B1 (aB n (ev P.globals.size t a) H) λv=>k v H
  |some false,_=>B1 (ld (ev P.globals.size t a) H) λv=>k v H
  |_,_=>none)
 |.store ty a v=>(match sz P ty with|some n=>B1 (st n (ev P.globals.size t a) (ev P.globals.size t v) H) λH=>k bP H|none=>none)|.nilCheck x=>B1 (aI (ev P.globals.size t x)) λv=>k v H
 |.binOp op ty x y _=>Jt P op ty x y (ev P.globals.size t x) (ev P.globals.size t y) H λv=>k v H
 |.unOp op _ x=>B1 (ep op (ev P.globals.size t x)) λv=>k v H
 |.convert a b x=>Kw P a b (ev P.globals.size t x) H k|.makeInterface ty x=>(match QO P ty (ev P.globals.size t x) with|some v=>k v H|none=>none)|.makeFunc fn a b=>(match Rk fn (a.toList.map (ev P.globals.size t)) (b.toList.map (ev P.globals.size t)) with|some v=>k v H|none=>none)|.makeMap _ none=>BN (BS H) λi H=>k (.map i) H
 |.makeSlice ty l c=>(match P.underlying ty with
  |some (.slice el)=>(match sz P el,zc P el with
   |some s,some z=>bif Nat.ble (P.bytesOf el) 4096&&Nat.beq z.length s then B2 (B0 z el s (ev P.globals.size t l) (ev P.globals.size t c) H) k else none
   |_,_=>none)
  |_=>none)
 |.slice ty x lo hi mx=>Ip P ty (ev P.globals.size t x) (lo.map (ev P.globals.size t)) (hi.map (ev P.globals.size t)) (mx.map (ev P.globals.size t)) H λv=>k v H
 |.fieldAddr ty x f=>(match afp P ty f with|some off=>B1 (fa off (ev P.globals.size t x)) λv=>k v H|none=>none)|.field ty x f=>(match P.underlying ty with
  |some (.struct fs)=>(match fs[f]? with
   |some d=>(match Ah P d.type,sz P d.type with
    |some true,some n=>B1 (fda n d.offset (ev P.globals.size t x)) λv=>k v H
    |some false,_=>B1 (fd d.offset (ev P.globals.size t x)) λv=>k v H
    |_,_=>none)
   |none=>none)
  |_=>none)
 |.indexAddr ty x ix=>(match P.underlying ty with
  |some (.slice el)=>(match sz P el with|some s=>B1 (ia s (ev P.globals.size t x) (ev P.globals.size t ix)) λv=>k v H|none=>none)|some (.array n el)=>(match sz P el with|some s=>B1 (qA n s (ev P.globals.size t x) (ev P.globals.size t ix)) λv=>k v H|none=>none)|_=>none)
 |.index ty x ix=>(match P.underlying ty with
  |some .string=>B1 (z7 (ev P.globals.size t x) (ev P.globals.size t ix)) λv=>k v H
  |_=>B1 (IU P ty (ev P.globals.size t x) (ev P.globals.size t ix)) λv=>k v H)
 |.lookup ty x q ok=>(match P.underlying ty with
  |some (.map kt el)=>(match vo P kt,((P.info? el).bind (·.zero)).bind lj with
   |some kt,some z=>B1 (tC kt z ok (ev P.globals.size t x) (ev P.globals.size t q) H) λv=>k v H
   |_,_=>B1 (tP P ty (ev P.globals.size t x) (ev P.globals.size t q) ok H) λv=>k v H)
  |_=>none)
 |.range ty x=>B2 (C9 P ty (ev P.globals.size t x) H) k|.next it s=>B2 (Bf (ev P.globals.size t it) s H) k|.entry it=>B1 (SL (ev P.globals.size t it) H) λv=>k v H
 |.extract tp i=>B1 (ex i (ev P.globals.size t tp)) λv=>k v H
 |.typeAssert x _ Qz ok=>(match P.underlying Qz with
  |some (.interface _)=>none|some _=>B1 (ta Qz ok (ev P.globals.size t x)) λv=>k v H
  |none=>none)
 |.call {callee:=.value f,args,.. }=>B2 (cf (ev P.globals.size t f) (args.toList.map (ev P.globals.size t)) H) k|.call {callee:=.builtin b,args,argTypes}=>Il P b argTypes (args.toList.map (ev P.globals.size t)) H k|_=>none
end K
end
namespace K
variable {P:Program}
section
variable {H H':Hp}{K:KT}{Y:Operand}{el kt:TypeId}{es:Nat}{k:AV->Hp->R}{op:BinOp}{r:AV×Hp}{ty:Array TypeId}{x y:AV}
theorem aBo {v:AV}{t:TypeId}(h:Od op x y=some v):fV P op t x y H=some v:=by
 cases op<;>simp only[Od,aZ,pC,vK,Gr,wA,zn,zv,Br,bJ,gk,ba,qE,iC,me,wD,sP,ii,i2,reduceCtorEq] at h <;>
  (split at h<;>first|(cases h;done)|exact h)
theorem aqO {v:AV}{t:TypeId}(h:Oj op x y=some v):fV P op t x y H=some v:=by
 cases op<;>simp only[Oj,uY,seq,sL,slt,sle,sgt,sge,ss,reduceCtorEq] at h <;>
  (split at h<;>first|(cases h;done)|exact h)
theorem aCh {v:AV}(h:Od op x y=some v):∃k a k' b,x=.int k a/\y=.int k' b:=by
 cases op<;>simp only[Od,aZ,pC,vK,Gr,wA,zn,zv,Br,bJ,gk,ba,qE,iC,me,wD,sP,ii,i2,reduceCtorEq] at h <;>
  (split at h<;>first|(cases h;done)|exact⟨_,_,_,_,rfl,rfl⟩)
theorem awk {v:AV}(h:Oj op x y=some v):∃a b,x=.str a/\y=.str b:=by
 cases op<;>simp only[Oj,uY,seq,sL,slt,sle,sgt,sge,ss,reduceCtorEq] at h <;>
  (split at h<;>first|(cases h;done)|exact⟨_,_,rfl,rfl⟩)
theorem aqP {t:TypeId}{X:Operand}{k k':IntKind}{a b:Int}:wQ P op t X Y (.int k a) (.int k' b)=true:=by cases op<;>rfl
theorem aub {t:TypeId}{X:Operand}{a b:List Nat}:wQ P op t X Y (.str a) (.str b)=true:=by cases op<;>rfl
theorem aFJ {t:TypeId}{X:Operand}{k:AV->R}(h:Jt P op t X Y x y H k=some r):
  ∃v,(bif wQ P op t X Y x y then (fV P op t x y H).map λv=>(v,H) else none)=some (v,H)/\k v=some r:=by
 unfold Jt at h;split at h;·obtain⟨v,h1,h2⟩:=fR h;obtain⟨_,_,_,_,rfl,rfl⟩:=aCh h1;exact⟨v,by rw[aqP,aBo h1];rfl,h2⟩
 ·obtain⟨v,h1,h2⟩:=fR h;obtain⟨_,_,rfl,rfl⟩:=awk h1;exact⟨v,by rw[aub,aqO h1];rfl,h2⟩
 ·rename_i hc;obtain⟨v,h1,h2⟩:=fR h;have hu:P.underlying t=some .bool:=by
   unfold Xx at hc;split at hc<;>first|(cases hc;done)|assumption|skip
   split at hc<;>cases hc
  unfold bb at h1;split at h1
  ·cases h1;refine⟨_,?_,h2⟩;have hb:∀a b,fV P .eql t (.bool a) (.bool b) H=some (.bool (a==b)):=by intro a b;simp only[fV];unfold eL;rw[hu];rfl
   rw[hb];rfl
  ·cases h1;refine⟨_,?_,h2⟩;have hb:∀a b,fV P .neq t (.bool a) (.bool b) H=some (.bool (!(a==b))):=by intro a b;simp only[fV];unfold eL;rw[hu];rfl
   rw[hb];rfl
  ·cases h1
 ·rename_i hc;obtain⟨v,h1,h2⟩:=fR h;have hu:∃el n,P.underlying t=some (.pointer el)/\sz P el=some (n+1):=by
   unfold Xx at hc;split at hc<;>first|(cases hc;done)|skip
   rename_i el hu;split at hc;·rename_i n hs;exact⟨el,n,hu,hs⟩
   ·cases hc
  obtain⟨el,n,hu,hs⟩:=hu;have he:∀q,pe x y H=some q->eL P 50 t x y H=some q:=by
   intro q hq;unfold pe at hq;unfold eL;rw[hu];cases x<;>cases y<;>first|(cases hq;done)|(cases hq;rfl)|skip
   simp only[hs];exact hq
  have hx:(∃i j,x=.ptr i j)\/x=.dE:=by
   unfold CQ at h1;cases hp:pe x y H with
   |none=>rw[hp] at h1;cases op<;>cases h1|some q=>
    unfold pe at hp;cases x<;>first|(cases y<;>cases hp;done)|exact .inl ⟨_,_,rfl⟩|exact .inr rfl
  have hg:wQ P op t X Y x y=true:=by rcases hx with⟨i,j,rfl⟩|rfl<;>(cases op<;>first|rfl|(cases y<;>rfl))
  refine⟨v,?_,h2⟩;rw[hg];cases hp:pe x y H with
  |none=>rw[hp] at h1;cases op<;>cases h1|some q=>
   rw[hp] at h1;have:=he q hp;rcases hx with⟨i,j,rfl⟩|rfl<;>(cases op<;>first|(cases h1;done)|skip) <;>
    (cases h1;cases y<;>first|(unfold pe at hp;cases hp;done)|(simp only[fV,this];rfl))
 ·have hga:gA P op t (zq X||zq Y) x y=wQ P op t X Y x y:=rfl;rw[hga] at h;cases hg:wQ P op t X Y x y with
  |false=>rw[hg] at h;cases h
  |true=>
   rw[hg] at h;obtain⟨v,h1,h2⟩:=fR h;exact⟨v,by rw[h1];rfl,h2⟩
theorem Tq (place:Nat->Option (Nat×Nat)):∀(ps:List (Nat×AV)) (qs:List (Nat×Nat×AV)) (z l:List AV),uU (λ(p:Nat×AV)=>(place p.1).map λq=>(q.1,q.2,p.2)) ps=some qs->fl z qs=some l->ye place z ps=some l
 |[],qs,z,l,h,hf=>by cases h;exact hf
 |(i,v)::ps,qs,z,l,h,hf=>by
  unfold uU at h;cases hp:place i with
  |none=>rw[hp] at h;cases h
  |some q=>
   rw[hp] at h;simp only[ael] at h;split at h
   ·rename_i r hr;cases h;unfold fl at hf;unfold ye;rw[hp];simp only;split at hf
    ·rename_i cs gS;rw[gS];simp only;split at hf;·rename_i hc;rw[zz2 hc];exact Tq place ps r _ l hr hf
     ·cases hf
    ·cases hf
   ·cases h
theorem Z6 (hk:vo P kt=some K){b:Bool}(h:Cl K x y=some b):eL P 20 kt x y H=some b:=by
 unfold vo at hk;split at hk
 ·rename_i hu;cases hk;unfold Cl at h;simp only at h;split at h;·unfold eL;rw[hu];exact h
  ·cases h
 ·rename_i q hu;cases hk;unfold Cl at h;simp only at h;split at h;·unfold eL;rw[hu];exact h
  ·cases h
 ·cases hk
theorem alp {kt:TypeId}{K:KT}(hk:vo P kt=some K){H:Hp}{q:AV}:∀es:List ME,nk K q es=true->AB P H kt q es=true
 |[],h=>rfl|e::es,h=>by
  unfold nk at h;unfold AB;split at h;·rename_i h1;rw[Z6 hk h1];exact alp hk es h
  ·cases h
theorem Gj {kt:TypeId}{K:KT}(hk:vo P kt=some K){H:Hp}{q:AV}:∀(es:List ME) (i:Nat) (r:Option (Nat×ME)),fk K q es i=some r->pw P H kt q es i=some r
 |[],i,r,h=>h|e::es,i,r,h=>by
  unfold fk at h;unfold pw;split at h
  ·rename_i h1;rw[Z6 hk h1];cases hn:nk K q es with
   |false=>rw[hn] at h;cases h
   |true=>rw[hn] at h;rw[alp hk es hn];exact h
  ·rename_i h1;rw[Z6 hk h1];exact Gj hk es (i+1) r h
  ·cases h
theorem Wj (hk:vo P kt=some K)(v:AV):qN P 20 kt v=true:=by
 unfold vo at hk;unfold qN;split at hk;·rename_i hu;rw[hu]
 ·rename_i q hu;rw[hu]
 ·cases hk
theorem au9 {ty:TypeId}{z:AV}{ok:Bool}{q v:AV}(hu:P.underlying ty=some (.map kt el))(hk:vo P kt=some K)(hz:((P.info? el).bind (·.zero)).bind lj=some z)(h:tC K z ok x q H=some v):tP P ty x q ok H=some v:=by
 unfold tP;rw[hu];simp only[Wj hk,cond_true];unfold tC at h;split at h
 ·rename_i es c hm;rw[hm];simp only;split at h;·rename_i i m hf;rw[Gj hk es 0 _ hf];cases h;rfl
  ·rename_i hf;rw[Gj hk es 0 _ hf];simp only[hz];cases h;cases ok<;>rfl
  ·cases h
 ·cases h
theorem ZI {ty:TypeId}{q v:AV}(hu:P.underlying ty=some (.map kt el))(hk:vo P kt=some K)(h:xT K x q v H=some H'):qm P ty x q v H=some H':=by
 unfold qm;rw[hu];unfold xT at h;split at h
 ·rename_i i;simp only[Wj hk,cond_true];split at h
  ·rename_i es c hg;rw[hg];simp only;split at h;·rename_i j m hf;rw[Gj hk es 0 _ hf];exact h
   ·rename_i hf;rw[Gj hk es 0 _ hf];exact h
   ·cases h
  ·cases h
 ·cases h
theorem aFy {t0:TypeId}{m q:AV}(ht:(ty[0]?).bind P.underlying=some (.map kt el))(hk:vo P kt=some K)(h:aaW K m q H=some H'):Kz P ty m q H=some H':=by
 unfold Kz;rw[ht];simp only[Wj hk,cond_true];unfold aaW at h;split at h;·exact h
 ·rename_i i;simp only;split at h
  ·rename_i es c hg;rw[hg];simp only;split at h;·rename_i j m hf;rw[Gj hk es 0 _ hf];exact h
   ·rename_i hf;rw[Gj hk es 0 _ hf];exact h
   ·cases h
  ·cases h
 ·cases h
theorem aDY {el:Nat}{z:List AV}{gm:Bool}{s v:AV}(ht:(ty[0]?).bind P.underlying=some (.slice el))(hz:Ks P ty=some gm)(hs:sz P el=some es)(Ko:zc P el=some z)
  (hc:(Nat.ble (P.bytesOf el) 4096&&Nat.beq z.length es)=true) (h:c8 el es z gm s x H=some (v,H')):My P ty s x H=some (v,H'):=by
 unfold My;rw[ht,hz];simp only[hs,Ko,hc,cond_true];unfold c8 at h;have hlen:z.length=es:=by simp only[aam,Nat.beq_eq] at hc;exact hc.2
 have hn:∀r,BV es z gm x H=some r->M8 P gm el es x H=some r:=by
  intro r hr;unfold BV at hr;unfold M8;split at hr
  ·split at hr;·rename_i hk;simp only[zz2 hk,Ko,zz2 hlen];exact hr
   ·cases hr
  ·exact hr
  ·exact hr
  ·exact hr
  ·cases hr
 split at h
 ·rename_i n new uP;rw[hn _ uP];simp only;unfold HW at h;split at h
  ·cases hb:Nat.beq n 0 with
   |true=>rw[hb] at h;exact h|false=>
    rw[hb] at h;simp only[cond_false] at h⊢;cases jd:Nat.ble n 16777216 with
    |false=>rw[jd] at h;cases h
    |true=>
     rw[jd] at h;simp only[cond_true] at h⊢;cases cB:aA H new el 0 with
     |none=>rw[cB] at h;cases h
     |some r=>rw[cB] at h;exact h
  ·rename_i i off len cap ex es';cases hb:(Nat.ble (len+n) 16777216&&Nat.beq es es'&&new.all aW) with
   |false=>rw[hb] at h;cases h
   |true=>
    rw[hb] at h;simp only[cond_true] at h⊢;cases jd:Nat.ble (len+n) cap with
    |true=>
     rw[jd] at h;simp only[cond_true] at h⊢;cases hsc:setCells H i (off+len*es) new with
     |none=>rw[hsc] at h;cases h
     |some H2=>rw[hsc] at h;rw[hb];exact h
    |false=>
     rw[jd] at h;simp only[cond_false] at h⊢;cases ex with
     |true=>
      simp only[cond_true] at h⊢;cases B6:av H i off (len*es) with
      |none=>rw[B6] at h;cases h
      |some gI=>
       rw[B6] at h;simp only[acf] at h⊢;cases cB:aA H (gI++new) el 0 with
       |none=>rw[cB] at h;cases h
       |some r=>rw[cB] at h;rw[hb];exact h
     |false=>
      simp only[cond_false] at h⊢;split at h
      ·rename_i c lo hi xu fl hg;rw[hg];simp only;cases vc:(Nat.ble fl 1&&Nat.ble lo off&&Nat.ble (off+len*es) hi&&Nat.beq el xu) with
       |false=>rw[vc] at h;cases h
       |true=>
        rw[vc] at h;simp only[cond_true] at h⊢;cases dd:alloc {H with h:=H.h.del i} (.cells (c.cz (off+len*es) new) off (off+(len+n)*es) el 1) with
        |none=>rw[dd] at h;cases h
        |some r=>rw[dd] at h;rw[hb];exact h
      ·cases h
  ·cases h
 ·cases h
theorem au1 {el:Nat}{d v:AV}(ht:(ty[0]?).bind P.underlying=some (.slice el))(hs:sz P el=some es)(h:JM es d x H=some (v,H')):LL P ty d x H=some (v,H'):=by
 unfold LL;rw[ht];unfold JM at h;split at h
 ·rename_i xl hl;simp only[hs,hl];split at h;·exact h
  ·rename_i i off dl c e f;simp only;cases hb:Nat.beq (Nat.min xl dl) 0 with
   |true=>rw[hb] at h;exact h|false=>
    rw[hb] at h;simp only[cond_false] at h⊢;split at h;·rename_i cs gS;rw[gS];exact h
    ·cases h
  ·cases h
 ·cases h
theorem aFw {b:Builtin}{args:List AV}(h:Il P b ty args H k=some r):∃v H',jn P b ty args H=some (v,H')/\k v H'=some r:=by
 unfold Il at h;split at h
 ·rename_i x;split at h
  ·rename_i hu;obtain⟨v,h1,h2⟩:=fR h;refine⟨v,H,?_,h2⟩;unfold lens at h1;split at h1;·cases h1;simp only[jn,DJ,hu];rfl
   ·cases h1
  ·rename_i el hu;obtain⟨v,h1,h2⟩:=fR h;refine⟨v,H,?_,h2⟩;unfold aG at h1;split at h1;·cases h1;simp only[jn,DJ,hu];rfl
   ·cases h1;simp only[jn,DJ,hu];rfl
   ·cases h1
  ·rename_i a b hu;obtain⟨v,h1,h2⟩:=fR h;refine⟨v,H,?_,h2⟩;unfold ail at h1;split at h1;·cases h1;simp only[jn,DJ,hu];rfl
   ·simp only[jn,DJ,hu];exact (congrArg (Option.map λv=>(v,H)) h1)
   ·cases h1
  ·exact xA h
 ·rename_i s x;split at h
  ·rename_i el gm hu hz;split at h
   ·rename_i es z hs Ko;cases hc:(Nat.ble (P.bytesOf el) 4096&&Nat.beq z.length es) with
    |false=>rw[hc] at h;cases h
    |true=>
     rw[hc] at h;obtain⟨v,H',h1,h2⟩:=xA h;exact⟨v,H',aDY hu hz hs Ko hc h1,h2⟩
   ·cases h
  ·cases h
 ·rename_i d x;split at h
  ·rename_i el hu;split at h;·rename_i es hs;obtain⟨v,H',h1,h2⟩:=xA h;exact⟨v,H',au1 hu hs h1,h2⟩
   ·cases h
  ·cases h
 ·rename_i m q;split at h
  ·rename_i kt el hu;split at h;·rename_i K hk;obtain⟨H',h1,h2⟩:=fR h;refine⟨bP,H',?_,h2⟩;show (Kz P ty m q H).map (λH=>(bP,H))=_;rw[aFy (t0:=0) hu hk h1];rfl
   ·exact xA h
  ·cases h
 ·exact xA h
end
end K
end
namespace K
variable {P:Program}
theorem Tj {α β γ:Type}(f:β->Option γ)(g:α->β):∀l:List α,uU f (l.map g)=uU (λa=>f (g a)) l
 |[]=>rfl|a::l=>by simp only[abo,uU,Tj f g l]
theorem Uj {α β:Type}(f:α->β):∀l:List α,uU (λa=>some (f a)) l=some (l.map f)
 |[]=>rfl|a::l=>by simp only[abo,uU,Uj f l]
section
variable {H:Hp}{k:AV->Hp->R}{r:AV×Hp}{x:AV}
theorem awF {a b:TypeId}(h:Kw P a b x H k=some r):∃v H',kY P a b x H=some (v,H')/\k v H'=some r:=by
 unfold Kw at h;split at h
 ·rename_i q q' ha hb;obtain⟨v,h1,h2⟩:=fR h;refine⟨v,H,?_,h2⟩;unfold cv at h1;split at h1;·cases h1;unfold kY;rw[ha,hb]
  ·cases h1
 ·rename_i ha hb;obtain⟨v,h1,h2⟩:=fR h;refine⟨v,H,?_,h2⟩;unfold cvs at h1;split at h1;·cases h1;unfold kY;rw[ha,hb]
  ·cases h1
 ·rename_i e ha hb;split at h
  ·rename_i he;obtain⟨v,h1,h2⟩:=fR h;refine⟨v,H,?_,h2⟩;unfold tQ at h1;split at h1;·cases h1;unfold kY;rw[ha,hb];simp only[he]
   ·rename_i i off len c x s;unfold kY;rw[ha,hb];simp only[he];cases hl:Nat.beq len 0 with
    |true=>rw[hl] at h1;cases h1;rfl|false=>
     rw[hl] at h1;simp only[cond_false] at h1⊢;cases hc:av H i off len with
     |none=>rw[hc] at h1;cases h1
     |some cs=>
      rw[hc] at h1;simp only[acf] at h1⊢;cases jd:zg cs with
      |none=>rw[jd] at h1;cases h1
      |some s=>rw[jd] at h1;cases h1;rfl
   ·cases h1
  ·cases h
 ·rename_i e ha hb;split at h
  ·rename_i he;obtain⟨v,H',h1,h2⟩:=xA h;refine⟨v,H',?_,h2⟩;unfold s2b at h1;split at h1
   ·rename_i s;unfold kY;rw[ha,hb];simp only[he];cases hn:aA H (s.map λ(b:Nat)=>AV.int .u8 b) e 1 with
    |none=>rw[hn] at h1;cases h1
    |some r=>rw[hn] at h1;exact h1
   ·cases h1
  ·cases h
 ·exact xA h
theorem azQ {t:TypeId}{lo hi mx:Option AV}{k:AV->R}(h:Ip P t x lo hi mx H k=some r):∃v,uJ P t x lo hi mx H=some v/\k v=some r:=by
 unfold Ip at h;split at h
 ·rename_i hu;split at h
  ·obtain⟨v,h1,h2⟩:=fR h;refine⟨v,?_,h2⟩;unfold qM at h1;split at h1
   ·rename_i s;unfold uJ;simp only[hu,abY,acf,af0,aa4,if_false];cases hb:uW s.length s.length lo hi none with
    |none=>rw[hb] at h1;cases h1
    |some p=>rw[hb] at h1;exact h1
   ·cases h1
  ·cases h
 ·rename_i el hu;split at h
  ·rename_i s hs;obtain⟨v,h1,h2⟩:=fR h;refine⟨v,?_,h2⟩;unfold oh at h1;split at h1
   ·unfold uJ;simp only[hu,abY,acf,hs,agd,if_true];cases hb:uW 0 0 lo hi mx with
    |none=>rw[hb] at h1;cases h1
    |some p=>rw[hb] at h1;exact h1
   ·rename_i i off len cap ex es;unfold uJ;simp only[hu,abY,acf,hs];cases hb:uW len cap lo hi mx with
    |none=>rw[hb] at h1;cases h1
    |some p=>
     rw[hb] at h1;simp only[acf] at h1⊢;split at h1;·rename_i he;subst he;simpa using h1
     ·cases h1
   ·cases h1
  ·cases h
 ·exact fR h
theorem Pf {cf:CF}{o:Oper}{t:Tm}(h:fu P cf o t H k=some r):∃v H',si P cf t o H=some (v,H')/\k v H'=some r:=by
 obtain⟨dst,op,ty0,pos,after,guard⟩:=o;cases op
 case move x=>exact⟨_,_,rfl,h⟩
 case assign x=>exact⟨_,_,rfl,h⟩
 case pick c a b=>
  obtain⟨v,h1,h2⟩:=fR h;refine⟨v,H,?_,h2⟩;unfold pk at h1;show (match ev P.globals.size t c with|.bool q=>some (bif q then ev P.globals.size t a else ev P.globals.size t b,H)|_=>none)=_;split at h1;·rename_i q hq;first|(rw[hq];cases h1;rfl)|(cases h1;rfl)
  ·cases h1
 case alloc ty=>
  have h0:(match zc P ty with|some l=>BN (aA H l ty 0) λi H=>k (.ptr i 0) H|none=>none)=some r:=h;show ∃v H',(match zc P ty with|some l=>(aA H l ty 0).map λr=>(AV.ptr r.1 0,r.2)|none=>none)=some (v,H')/\_;split at h0;·rename_i l hl;obtain⟨i,H2,h1,h2⟩:=SY h0;exact⟨_,_,by rw[h1];rfl,h2⟩
  ·cases h0
 case box ty x=>
  have h0:BN (bx ty (ev P.globals.size t x) H) (λi H=>k (.ptr i 0) H)=some r:=h;obtain⟨i,H2,h1,h2⟩:=SY h0;refine⟨.ptr i 0,H2,?_,h2⟩;show (match uE (ev P.globals.size t x) with|some l=>(aA H l ty 0).map λr:Nat×Hp=>(AV.ptr r.1 0,r.2)|none=>none)=some (AV.ptr i 0,H2);unfold bx at h1;split at h1;·rename_i l hl;first|(rw[hl];simp only[h1];rfl)|(simp only[h1];rfl)
  ·cases h1
 case build ty ps=>
  show ∃v H',(KI P ty (ps.toList.map λ(i,x)=>(i,ev P.globals.size t x))).map (λv=>(v,H))=some (v,H')/\_;unfold fu at h;simp only at h;unfold KI;split at h
  ·rename_i z fs hz hu;rw[hz,hu];simp only;split at h
   ·rename_i pl iS;rw[iS];simp only;split at h;·rename_i l hl;obtain⟨l2,h1,h2⟩:=fR h;refine⟨.agg l2,H,?_,h2⟩;rw[Tq (pl[·]?) (ps.toList.map λ(i,x)=>(i,ev P.globals.size t x)) l z l2 (by rw[Tj];exact hl) h1];rfl
    ·cases h
   ·cases h
  ·rename_i z n el hz hu;rw[hz,hu];simp only;split at h
   ·rename_i s hs;rw[hs];simp only;obtain⟨l2,h1,h2⟩:=fR h;refine⟨.agg l2,H,?_,h2⟩;have hq:uU (λ(p:Nat×AV)=>((λi=>some (i*s,s)) p.1).map λq=>(q.1,q.2,p.2)) (ps.toList.map λ(i,x)=>(i,ev P.globals.size t x))=some (ps.toList.map λp=>(p.1*s,s,ev P.globals.size t p.2)):=by rw[Tj];exact Uj (λp:Nat×Operand=>(p.1*s,s,ev P.globals.size t p.2)) _
    rw[Tq (λi=>some (i*s,s)) _ _ z l2 hq h1];rfl
   ·cases h
  ·cases h
 case buildSlice ty n ps=>
  show ∃v H',Nn P ty n (ps.toList.map λ(i,x)=>(i,ev P.globals.size t x)) H=some (v,H')/\_;unfold fu at h;simp only at h;unfold Nn;split at h
  ·rename_i el hu;rw[hu];simp only;split at h
   ·rename_i s hs;rw[hs];simp only;cases hb:Nat.ble (n*s) 65536 with
    |false=>rw[hb] at h;cases h
    |true=>
     rw[hb] at h;simp only[cond_true] at h⊢;split at h
     ·rename_i z hz;rw[hz];simp only;obtain⟨l2,h1,h2⟩:=fR h;obtain⟨i,H2,h3,h4⟩:=SY h2;have hq:uU (λ(p:Nat×AV)=>((λi=>some (i*s,s)) p.1).map λq=>(q.1,q.2,p.2)) (ps.toList.map λ(i,x)=>(i,ev P.globals.size t x))=some (ps.toList.map λp=>(p.1*s,s,ev P.globals.size t p.2)):=by rw[Tj];exact Uj (λp:Nat×Operand=>(p.1*s,s,ev P.globals.size t p.2)) _
      refine⟨_,_,?_,h4⟩;rw[Tq (λi=>some (i*s,s)) _ _ z l2 hq h1];simp only[h3];rfl
     ·cases h
   ·cases h
  ·cases h
 case insert ty m q v=>
  unfold fu at h;simp only at h;show ∃v' H',(qm P ty (ev P.globals.size t m) (ev P.globals.size t q) (ev P.globals.size t v) H).map (λH=>(bP,H))=some (v',H')/\_;split at h
  ·rename_i kt el hu;split at h;·rename_i K hk;obtain⟨H',h1,h2⟩:=fR h;exact⟨_,H',by rw[ZI hu hk h1];rfl,h2⟩
   ·obtain⟨H',h1,h2⟩:=fR h;exact⟨_,H',by rw[h1];rfl,h2⟩
  ·cases h
 case mapUpdate ty m q v=>
  unfold fu at h;simp only at h;show ∃v' H',(qm P ty (ev P.globals.size t m) (ev P.globals.size t q) (ev P.globals.size t v) H).map (λH=>(bP,H))=some (v',H')/\_;split at h
  ·rename_i kt el hu;split at h;·rename_i K hk;obtain⟨H',h1,h2⟩:=fR h;exact⟨_,H',by rw[ZI hu hk h1];rfl,h2⟩
   ·obtain⟨H',h1,h2⟩:=fR h;exact⟨_,H',by rw[h1];rfl,h2⟩
  ·cases h
 case load ty a=>
  unfold fu at h;simp only at h;show ∃v H',(wH P H ty (ev P.globals.size t a)).map (λv=>(v,H))=some (v,H')/\_;split at h
  ·rename_i n ha hs;obtain⟨v,h1,h2⟩:=fR h;refine⟨v,H,?_,h2⟩;unfold aB at h1;split at h1
   ·rename_i i off hx;rw[hx];unfold wH;simp only[ha,hs,abY,acf,if_true];cases hc:av H i off n with
    |none=>rw[hc] at h1;cases h1
    |some l=>rw[hc] at h1;cases h1;rfl
   ·cases h1
  ·rename_i q ha hs;obtain⟨v,h1,h2⟩:=fR h;refine⟨v,H,?_,h2⟩;unfold ld at h1;split at h1;·rename_i i off hx;rw[hx];unfold wH;simp only[hs,abY,acf,aa4,if_false,h1];rfl
   ·cases h1
  ·cases h
 case store ty a v=>
  unfold fu at h;simp only at h;show ∃v' H',(Lh P H ty (ev P.globals.size t a) (ev P.globals.size t v)).map (λH=>(bP,H))=some (v',H')/\_;split at h
  ·rename_i n hs;obtain⟨H',h1,h2⟩:=fR h;refine⟨_,H',?_,h2⟩;unfold st at h1;split at h1
   ·rename_i i off hx;rw[hx];unfold Lh;split at h1
    ·rename_i cs gS;simp only[gS,hs,abY,acf];cases hb:Nat.beq n cs.length with
     |false=>rw[hb] at h1;cases h1
     |true=>
      rw[hb] at h1;have:=aaY hb;subst this;simp only[cond_true] at h1;simp[h1]
    ·cases h1
   ·cases h1
  ·cases h
 case nilCheck x=>
  obtain⟨v,h1,h2⟩:=fR h;exact⟨v,H,by show (aI _).map _=_;rw[h1];rfl,h2⟩
 case binOp op ty x y ty2=>
  obtain⟨v,h1,h2⟩:=aFJ h;exact⟨v,H,h1,h2⟩
 case unOp op ty x=>
  obtain⟨v,h1,h2⟩:=fR h;exact⟨v,H,by show (ep op _).map _=_;rw[h1];rfl,h2⟩
 case convert a b x=>exact awF h
 case makeInterface ty x=>
  unfold fu at h;simp only at h;split at h;·rename_i v hv;exact⟨v,H,by show (QO P ty _).map _=_;rw[hv];rfl,h⟩
  ·cases h
 case makeFunc fn a b=>
  unfold fu at h;simp only at h;split at h;·rename_i v hv;exact⟨v,H,by show (Rk fn _ _).map _=_;rw[hv];rfl,h⟩
  ·cases h
 case makeMap ty x=>
  cases x with
  |some y=>cases h
  |none=>
   have h0:BN (BS H) (λi H=>k (.map i) H)=some r:=h;obtain⟨i,H2,h1,h2⟩:=SY h0;refine⟨_,_,?_,h2⟩;show (alloc H (.map [] 0)).map (λr:Nat×Hp=>(AV.map r.1,r.2))=_;unfold BS at h1;rw[h1];rfl
 case makeSlice ty l c=>
  unfold fu at h;simp only at h;show ∃v H',zX P ty (ev P.globals.size t l) (ev P.globals.size t c) H=some (v,H')/\_;split at h
  ·rename_i el hu;split at h
   ·rename_i s z hs hz;cases hb:(Nat.ble (P.bytesOf el) 4096&&Nat.beq z.length s) with
    |false=>rw[hb] at h;cases h
    |true=>
     rw[hb] at h;simp only[cond_true] at h;simp only[aam,aeF,Nat.beq_eq] at hb;obtain⟨v,H',h1,h2⟩:=xA h;refine⟨v,H',?_,h2⟩;unfold B0 at h1;split at h1
     ·rename_i k1 n k2 m hl hc;rw[hl,hc];unfold zX;rw[hu];simp only[hs];split at h1
      ·rename_i vP;rw[zz2 ⟨vP.1,vP.2.1,vP.2.2,hb.1⟩];have hr:Dn P el s m.toNat=some (rep m.toNat z):=by
        unfold Dn;cases h0:Nat.beq (m.toNat*s) 0 with
        |true=>
         have Xq:=aaY h0;have:rep m.toNat z=[]:=by
          unfold rep;rcases Nat.mul_eq_zero.1 Xq with q|q;·rw[q];rfl
          ·have:z=[]:=alI (by rw[hb.2,q]);rw[this];simp
         rw[this];rfl
        |false=>
         simp only[cond_false,hz];rw[hb.2,aiw];rfl
       rw[hr];simp only;cases hn:aA H (rep m.toNat z) el 0 with
       |none=>rw[hn] at h1;cases h1
       |some q=>rw[hn] at h1;exact h1
      ·cases h1
     ·cases h1
   ·cases h
  ·cases h
 case slice ty x lo hi mx=>
  obtain⟨v,h1,h2⟩:=azQ h;exact⟨v,H,by show (uJ P ty _ _ _ _ H).map _=_;rw[h1];rfl,h2⟩
 case fieldAddr ty x f=>
  unfold fu at h;simp only at h;show ∃v H',(PB P ty (ev P.globals.size t x) f).map (λv=>(v,H))=some (v,H')/\_;split at h
  ·rename_i off ho;obtain⟨v,h1,h2⟩:=fR h;refine⟨v,H,?_,h2⟩;unfold fa at h1;split at h1
   ·rename_i i o hx;rw[hx];cases h1;unfold afp at ho;unfold PB;split at ho
    ·rename_i fs hu;rw[hu];simp only;split at ho
     ·rename_i fd NL;rw[NL];simp only;cases hp:CC P fd.type with
      |false=>rw[hp] at ho;cases ho
      |true=>rw[hp] at ho;cases ho;rfl
     ·cases ho
    ·cases ho
   ·cases h1
  ·cases h
 case field ty x f=>
  unfold fu at h;simp only at h;show ∃v H',(Li P ty (ev P.globals.size t x) f).map (λv=>(v,H))=some (v,H')/\_;split at h
  ·rename_i fs hu;split at h
   ·rename_i d hd;split at h
    ·rename_i n ha hs;obtain⟨v,h1,h2⟩:=fR h;refine⟨v,H,?_,h2⟩;unfold fda at h1;split at h1
     ·rename_i cs hx;rw[hx];unfold Li;rw[hu];simp only[hd];unfold pA;simp only[ha,hs,abY,acf,if_true];cases hb:Nat.ble (d.offset+n) cs.length with
      |false=>rw[hb] at h1;cases h1
      |true=>rw[hb] at h1;cases h1;rfl
     ·cases h1
    ·rename_i q ha hs;obtain⟨v,h1,h2⟩:=fR h;refine⟨v,H,?_,h2⟩;unfold fd at h1;split at h1;·rename_i cs hx;rw[hx];unfold Li;rw[hu];simp only[hd];unfold pA;simp only[hs,abY,acf,aa4,if_false,h1];rfl
     ·cases h1
    ·cases h
   ·cases h
  ·cases h
 case indexAddr ty x ix=>
  unfold fu at h;simp only at h;show ∃v H',(I0 P ty (ev P.globals.size t x) (ev P.globals.size t ix)).map (λv=>(v,H))=some (v,H')/\_;split at h
  ·rename_i el hu;split at h
   ·rename_i s hs;obtain⟨v,h1,h2⟩:=fR h;refine⟨v,H,?_,h2⟩;unfold ia at h1;split at h1
    ·rename_i i off len c e es q kk hx tB;rw[hx,tB];unfold I0;simp only[hu,abY,acf,hs];split at h1;·rename_i hc;obtain⟨rfl,c1,c2⟩:=hc;cases h1;simp[c1,c2]
     ·cases h1
    ·cases h1
   ·cases h
  ·rename_i n el hu;split at h
   ·rename_i s hs;obtain⟨v,h1,h2⟩:=fR h;refine⟨v,H,?_,h2⟩;unfold qA at h1;split at h1
    ·rename_i i off q kk hx tB;rw[hx,tB];unfold I0;simp only[hu,abY,acf,hs];split at h1;·rename_i hc;obtain⟨c1,c2⟩:=hc;cases h1;simp[c1,c2]
     ·cases h1
    ·cases h1
   ·cases h
  ·cases h
 case index ty x ix=>
  unfold fu at h;simp only at h;show ∃v H',(IU P ty (ev P.globals.size t x) (ev P.globals.size t ix)).map (λv=>(v,H))=some (v,H')/\_;split at h
  ·rename_i hu;obtain⟨v,h1,h2⟩:=fR h;refine⟨v,H,?_,h2⟩;unfold z7 at h1;split at h1;·rename_i s q kk hx tB;rw[hx,tB];unfold IU;simp only[hu,abY,acf,h1];rfl
   ·cases h1
  ·obtain⟨v,h1,h2⟩:=fR h;exact⟨v,H,by rw[h1];rfl,h2⟩
 case lookup ty x q ok=>
  unfold fu at h;simp only at h;show ∃v H',(tP P ty (ev P.globals.size t x) (ev P.globals.size t q) ok H).map (λv=>(v,H))=some (v,H')/\_;split at h
  ·rename_i kt el hu;split at h;·rename_i K z hk hz;obtain⟨v,h1,h2⟩:=fR h;exact⟨v,H,by rw[au9 hu hk hz h1];rfl,h2⟩
   ·obtain⟨v,h1,h2⟩:=fR h;exact⟨v,H,by rw[h1];rfl,h2⟩
  ·cases h
 case range ty x=>exact xA h
 case next it s=>exact xA h
 case entry it=>cases h
 case extract tp i=>
  obtain⟨v,h1,h2⟩:=fR h;refine⟨v,H,?_,h2⟩;show (match ev P.globals.size t tp with|.tuple l=>(l[i]?).map λv=>(v,H)|_=>none)=_;unfold ex at h1;split at h1;·rename_i l hl;first|(rw[hl];simp only[h1];rfl)|(simp only[h1];rfl)
  ·cases h1
 case typeAssert x a Qz ok=>
  unfold fu at h;simp only at h;show ∃v H',(LW P Qz (ev P.globals.size t x) ok).map (λv=>(v,H))=some (v,H')/\_;split at h;·cases h
  ·rename_i d aE hu;obtain⟨v,h1,h2⟩:=fR h;refine⟨v,H,?_,h2⟩;unfold ta at h1;split at h1
   ·rename_i u w hx;rw[hx];unfold LW;split at h1;·rename_i he;cases h1;cases d<;>first|(exact absurd rfl (aE _))|(rw[hu];simp only[he,if_true];rfl)
    ·cases h1
   ·cases h1
  ·cases h
 case call c=>
  obtain⟨callee,args,u9⟩:=c;cases callee with
  |value f=>exact xA h|invoke r m=>cases h
  |builtin b=>exact aFw h
 all_goals cases h
end
end K
end Go.Proofs.YtodfajmihkagnaaGreatDoor.Am
