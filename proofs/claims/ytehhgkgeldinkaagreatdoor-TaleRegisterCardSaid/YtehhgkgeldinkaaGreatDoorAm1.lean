/- Laws that the proof uses. -/
import GoSem.Dispatch
import Derived.Orders
import Derived.Laws.Cells
import Derived.Below
import Derived.Laws.Strings
import Derived.Laws.BytesString
import Derived.Lib.UnsafeStr
import Derived.IntWalk
import Derived.Laws.Externs
import Derived.Lib.Bytealg
set_option linter.unusedVariables false
set_option linter.unusedSimpArgs false
namespace Go.Proofs.YtehhgkgeldinkaaGreatDoor
open Go
theorem gk:type_of% @List.getElem?_cons_succ:=@List.getElem?_cons_succ
theorem nq:type_of% @List.getElem?_cons_zero:=@List.getElem?_cons_zero
theorem wc:type_of% @List.mem_singleton:=@List.mem_singleton
theorem yB:type_of% @Option.map_eq_some_iff:=@Option.map_eq_some_iff
theorem yL:type_of% @List.mem_cons:=@List.mem_cons
theorem yS:type_of% @Nat.zero_add:=@Nat.zero_add
theorem yX:type_of% @List.mem_append_right:=@List.mem_append_right
theorem zf:type_of% @Bool.and_eq_true:=@Bool.and_eq_true
theorem No:type_of% @Eq.trans:=@Eq.trans
theorem aag:type_of% @Bool.not_false:=@Bool.not_false
theorem aal:type_of% @List.mem_append:=@List.mem_append
theorem aar:type_of% @Nat.le_refl:=@Nat.le_refl
theorem aat:type_of% @Bool.not_true:=@Bool.not_true
theorem aax:type_of% @List.getElem?_eq_getElem:=@List.getElem?_eq_getElem
theorem aaI:type_of% @List.mem_append_left:=@List.mem_append_left
theorem aa6:type_of% @Option.bind_eq_some_iff:=@Option.bind_eq_some_iff
theorem aba:type_of% @Nat.eq_of_beq_eq_true:=@Nat.eq_of_beq_eq_true
theorem abf:type_of% @List.getElem?_eq_some_iff:=@List.getElem?_eq_some_iff
theorem abn:type_of% @List.length_cons:=@List.length_cons
theorem abz:type_of% @List.length_append:=@List.length_append
theorem abM:type_of% @Array.getElem?_eq_some_iff:=@Array.getElem?_eq_some_iff
theorem abS:type_of% @Nat.le_trans:=@Nat.le_trans
theorem abT:type_of% @Prod.mk.injEq:=@Prod.mk.injEq
theorem abU:type_of% @List.getElem?_append_left:=@List.getElem?_append_left
theorem abY:type_of% @List.length_nil:=@List.length_nil
theorem abZ:type_of% @Bool.false_eq_true:=@Bool.false_eq_true
theorem ab2:type_of% @BEq.rfl:=@BEq.rfl
theorem ab8:type_of% @List.map_cons:=@List.map_cons
theorem acs:type_of% @List.getElem?_append_right:=@List.getElem?_append_right
theorem acx:type_of% @List.mem_of_getElem?:=@List.mem_of_getElem?
theorem acB:type_of% @List.nodup_cons:=@List.nodup_cons
theorem acJ:type_of% @List.map_append:=@List.map_append
theorem acK:type_of% @List.nodup_append:=@List.nodup_append
theorem acS:type_of% @Option.some.injEq:=@Option.some.injEq
theorem acT:type_of% @Option.bind_eq_bind:=@Option.bind_eq_bind
theorem ac0:type_of% @Option.bind_some:=@Option.bind_some
theorem ac6:type_of% @List.all_eq_true:=@List.all_eq_true
theorem adf:type_of% @Nat.zero_le:=@Nat.zero_le
theorem adg:type_of% @List.length_map:=@List.length_map
theorem adh:type_of% @List.getElem?_map:=@List.getElem?_map
theorem adi:type_of% @Nat.lt_of_lt_of_le:=@Nat.lt_of_lt_of_le
theorem adj:type_of% @List.mem_map:=@List.mem_map
theorem adl:type_of% @Array.toList_inj:=@Array.toList_inj
theorem adm:type_of% @Array.getElem?_toList:=@Array.getElem?_toList
theorem adn:type_of% @Nat.blt_eq:=@Nat.blt_eq
theorem ado:type_of% @Nat.ble_eq:=@Nat.ble_eq
theorem adt:type_of% @Array.getD_eq_getD_getElem?:=@Array.getD_eq_getD_getElem?
theorem adz:type_of% @Option.some.inj:=@Option.some.inj
theorem adG:type_of% @List.getElem?_drop:=@List.getElem?_drop
theorem adI:type_of% @List.mem_flatMap:=@List.mem_flatMap
theorem adM:type_of% @List.getElem?_take:=@List.getElem?_take
theorem adQ:type_of% @Nat.mul_one:=@Nat.mul_one
theorem adY:type_of% @List.append_assoc:=@List.append_assoc
theorem ad0:type_of% @List.getElem?_toArray:=@List.getElem?_toArray
theorem ad4:type_of% @Nat.mul_le_mul_right:=@Nat.mul_le_mul_right
theorem aea:type_of% @List.take_of_length_le:=@List.take_of_length_le
theorem aef:type_of% @List.length_drop:=@List.length_drop
theorem aeg:type_of% @List.length_replicate:=@List.length_replicate
theorem aen:type_of% @Array.getElem?_setIfInBounds_self_of_lt:=@Array.getElem?_setIfInBounds_self_of_lt
theorem aeq:type_of% @Int.toNat_natCast:=@Int.toNat_natCast
theorem aeB:type_of% @List.mem_nil_iff:=@List.mem_nil_iff
theorem aeE:type_of% @Nat.mod_eq_of_lt:=@Nat.mod_eq_of_lt
theorem aeP:type_of% @Array.getElem?_eq_getElem:=@Array.getElem?_eq_getElem
theorem aeS:type_of% @Nat.add_mul:=@Nat.add_mul
theorem aeX:type_of% @Nat.lt_succ_self:=@Nat.lt_succ_self
theorem aeY:type_of% @Option.isSome_iff_exists:=@Option.isSome_iff_exists
theorem ae6:type_of% @Nat.add_zero:=@Nat.add_zero
theorem ae9:type_of% @Nat.sub_zero:=@Nat.sub_zero
theorem afa:type_of% @List.flatMap_append:=@List.flatMap_append
theorem aff:type_of% @Bool.or_eq_true:=@Bool.or_eq_true
theorem afi:type_of% @List.length_take:=@List.length_take
theorem afj:type_of% @Nat.add_assoc:=@Nat.add_assoc
theorem afn:type_of% @List.drop_eq_nil_of_le:=@List.drop_eq_nil_of_le
theorem aft:type_of% @Array.getElem?_setIfInBounds_ne:=@Array.getElem?_setIfInBounds_ne
theorem afB:type_of% @Nat.zero_mul:=@Nat.zero_mul
theorem afD:type_of% @List.append_nil:=@List.append_nil
theorem afE:type_of% @List.nil_append:=@List.nil_append
theorem afO:type_of% @List.drop_zero:=@List.drop_zero
theorem afS:type_of% @Nat.beq_eq:=@Nat.beq_eq
theorem afT:type_of% @List.getElem?_zip_eq_some:=@List.getElem?_zip_eq_some
theorem af0:type_of% @Array.length_toList:=@Array.length_toList
theorem af2:type_of% @List.flatMap_cons:=@List.flatMap_cons
theorem af4:type_of% @List.flatten_cons:=@List.flatten_cons
theorem agd:type_of% @Nat.add_sub_cancel_left:=@Nat.add_sub_cancel_left
theorem agt:type_of% @List.getD_eq_getElem?_getD:=@List.getD_eq_getElem?_getD
theorem agx:type_of% @List.map_map:=@List.map_map
theorem agy:type_of% @Option.getD_some:=@Option.getD_some
theorem agE:type_of% @List.drop_eq_getElem_cons:=@List.drop_eq_getElem_cons
theorem agG:type_of% @List.eq_nil_of_length_eq_zero:=@List.eq_nil_of_length_eq_zero
theorem agH:type_of% @List.replicate_succ:=@List.replicate_succ
theorem agL:type_of% @Bool.true_eq_false:=@Bool.true_eq_false
theorem agO:type_of% @List.getElem?_replicate:=@List.getElem?_replicate
theorem agU:type_of% @Nat.beq_refl:=@Nat.beq_refl
theorem ag4:type_of% @List.map_congr_left:=@List.map_congr_left
theorem ahd:type_of% @List.cons_append:=@List.cons_append
theorem ahk:type_of% @Option.map_some:=@Option.map_some
theorem ahm:type_of% @List.length_set:=@List.length_set
theorem aho:type_of% @Array.getElem?_push:=@Array.getElem?_push
theorem ahp:type_of% @Nat.one_mul:=@Nat.one_mul
theorem ahB:type_of% @Nat.lt_or_ge:=@Nat.lt_or_ge
theorem ahD:type_of% @Nat.eq_of_mul_eq_mul_right:=@Nat.eq_of_mul_eq_mul_right
theorem ah1:type_of% @Nat.mod_lt:=@Nat.mod_lt
theorem ah6:type_of% @List.sum_cons:=@List.sum_cons
theorem aib:type_of% @List.drop_drop:=@List.drop_drop
theorem aio:type_of% @Nat.add_sub_cancel:=@Nat.add_sub_cancel
theorem aiy:type_of% @BitVec.toNat_ofInt:=@BitVec.toNat_ofInt
theorem aiE:type_of% @List.getLast?_eq_getElem?:=@List.getLast?_eq_getElem?
theorem aiK:type_of% @Nat.min_eq_left:=@Nat.min_eq_left
theorem aiL:type_of% @Bool.eq_iff_iff:=@Bool.eq_iff_iff
theorem ai1:type_of% @Nat.pow_succ:=@Nat.pow_succ
theorem ai7:type_of% @Bool.false_and:=@Bool.false_and
theorem ai9:type_of% @Option.isSome_none:=@Option.isSome_none
theorem aja:type_of% @Nat.sub_self:=@Nat.sub_self
theorem ajg:type_of% @List.mem_cons_self:=@List.mem_cons_self
theorem aji:type_of% @Nat.mul_eq_zero:=@Nat.mul_eq_zero
theorem ajs:type_of% @UInt8.lt_iff_toNat_lt:=@UInt8.lt_iff_toNat_lt
theorem ajA:type_of% @List.set_append_right:=@List.set_append_right
theorem ajD:type_of% @Nat.mul_comm:=@Nat.mul_comm
theorem zqz{p:Prop}(h:p:=by first|assumption|omega|(simp only[K8,Ds,simprocAttr];done)|(simp only[Ds];omega)|(simp only[K8,Ds,simprocAttr, *];done)|fail):p:=h
end Go.Proofs.YtehhgkgeldinkaaGreatDoor
namespace Go.Proofs.YtehhgkgeldinkaaGreatDoor.Am
section
section
section
section
inductive Pa where
 | e
 | a (p:Pa)
 | b (p:Pa)
 | c (p:Pa)
 | d (p:Pa)
 deriving DecidableEq
def sr:Nat->Nat->Pa
 | 0,_ => .e
 | f+1,n=>bif Nat.beq n 0 then .e else bif Nat.beq ((n-1) % 4) 0 then .a (sr f ((n-1) / 4)) else bif Nat.beq ((n-1) % 4) 1 then .b (sr f ((n-1) / 4)) else bif Nat.beq ((n-1) % 4) 2 then .c (sr f ((n-1) / 4)) else .d (sr f ((n-1) / 4))
def pathOf (n:Nat):Pa:=sr (n+1) n
inductive Tr (α:Type) where
 | nil
 | node (v:Option α) (k0 k1 k2 k3:Tr α)
namespace Tr
variable {α:Type}
def val:Tr α->Option α
 | .nil=>none
 | .node v _ _ _ _=>v
def c0:Tr α->Tr α
 | .nil => .nil
 | .node _ k _ _ _=>k
def c1:Tr α->Tr α
 | .nil => .nil
 | .node _ _ k _ _=>k
def c2:Tr α->Tr α
 | .nil => .nil
 | .node _ _ _ k _=>k
def c3:Tr α->Tr α
 | .nil => .nil
 | .node _ _ _ _ k=>k
def lF:Pa->Tr α->Option α
 | .e,t=>t.val
 | .a p,t=>lF p t.c0
 | .b p,t=>lF p t.c1
 | .c p,t=>lF p t.c2
 | .d p,t=>lF p t.c3
def iq:Pa->Option α->Tr α->Tr α
 | .e,x,t => .node x t.c0 t.c1 t.c2 t.c3
 | .a p,x,t => .node t.val (iq p x t.c0) t.c1 t.c2 t.c3
 | .b p,x,t => .node t.val t.c0 (iq p x t.c1) t.c2 t.c3
 | .c p,x,t => .node t.val t.c0 t.c1 (iq p x t.c2) t.c3
 | .d p,x,t => .node t.val t.c0 t.c1 t.c2 (iq p x t.c3)
def get (t:Tr α)(n:Nat):Option α:=lF (pathOf n) t
def fJ (t:Tr α)(n:Nat)(x:α):Tr α:=iq (pathOf n) (some x) t
def del (t:Tr α)(n:Nat):Tr α:=iq (pathOf n) none t
def put (_:Nat)(t:Tr α)(n:Nat)(x:α):Tr α:=iq (pathOf n) (some x) t
def dh (t:Tr α)(n:Nat):List α->Tr α
 | []=>t
 | x::xs=>dh (t.put 34 n x) (n+1) xs
end Tr
inductive AV where
 | dT
 | bool (b:Bool)
 | int (k:IntKind) (n:Int)
 | str (s:List Nat)
 | aC
 | ptr (i off:Nat)
 | ae
 | slice (i off len cap:Nat) (exact:Bool) (es:Nat)
 | iF
 | map (i:Nat)
 | func (fn:Fn) (first captured:List AV)
 | yield (l:Nat)
 | nilFunc
 | nilIface
 | iface (t:TypeId) (v:AV)
 | agg (l:List AV)
 | tuple (l:List AV)
 deriving Inhabited
def cP:AV := .tuple []
structure ME where
 key:AV
 val:AV
 born:Nat
inductive AO where
 | cells (c:Tr AV) (lo hi:Nat) (elem:TypeId) (fl:Nat)
 | map (es:List ME) (clock:Nat)
 | sA (s:List Nat) (pos:Nat)
 | uT (m:Option Nat) (since:Nat) (seen:List Nat) (asM:Nat)
 | loop (pending:Option Code) (tmps:Tr AV) (params:List Tmp) (assign body:Code)
structure Hp where
 h:Tr AO
 next:Nat
abbrev Tm:=Tr AV
def bytes (s:ByteArray):List Nat:=s.data.toList.map (·.toNat)
def oK:Value->Option AV
 | .bool b=>some (.bool b)
 | .int k n=>some (.int k n)
 | .string s=>some (.str (bytes s))
 | .pointer none=>some .aC
 | .slice none 0 0=>some .ae
 | .map none=>some .iF
 | .nilFunc=>some .nilFunc
 | .nilIface=>some .nilIface
 | _=>none
def kf:Value->Option AV
 | .agg cs=>(cs.toList.mapM oK).map .agg
 | .tuple cs=>(cs.toList.mapM oK).map .tuple
 | .iface t v=>(oK v).map (.iface t)
 | v=>oK v
def ev (G:Nat)(t:Tm):Operand->AV
 | .tmp x=>(t.get x).getD cP
 | .const v=>(kf v).getD .dT
 | .global g=>bif Nat.blt g G then .ptr g 0 else .dT
 | .func f => .func (.func f) [] []
def jX:AV->Option (List AV)
 | .agg l=>some l
 | .dT=>none
 | v=>some [v]
variable (P:Program)
def zc (t:TypeId):Option (List AV):=do (<- (<-P.info? t).zero).cells.toList.mapM oK
def sz (t:TypeId):Option Nat:=(P.info? t).map (·.size)
def xe (t:TypeId):Option Bool:=(P.underlying t).map fun | .struct _=>true | .array _ _=>true | _=>false
def rm {α β:Type}(f:α->Option β):List α->Option (List β)
 | []=>some []
 | a::l=>match f a with
  | some b=>match rm f l with
   | some r=>some (b::r)
   | none=>none
  | none=>none
def cellAt (H:Hp)(i off:Nat):Option AV:=
 match H.h.get i with
 | some (.cells c lo hi _ _)=>bif Nat.ble lo off&&Nat.blt off hi then c.get off else none
 | _=>none
def dQ (H:Hp)(i off:Nat):Nat->Option (List AV)
 | 0=>some []
 | n+1=>do
  let v <-cellAt H i off
  let r <-dQ H i (off+1) n
  pure (v::r)
def db:AV->Bool
 | .agg _ | .tuple _ | .dT=>false
 | _=>true
def setCell (H:Hp)(i off:Nat)(v:AV):Option Hp:=
 match H.h.get i with
 | some (.cells c lo hi el fl)=>bif Nat.ble lo off&&Nat.blt off hi&&Nat.ble fl 1&&(c.get off).isSome&&db v then some { H with h:=H.h.fJ i (.cells (c.fJ off v) lo hi el fl) } else none
 | _=>none
def setCells (H:Hp)(i off:Nat):List AV->Option Hp
 | []=>some H
 | v::vs=>do setCells (<-setCell H i off v) i (off+1) vs
def alloc (H:Hp)(o:AO):Option (Nat × Hp):=
 some (H.next,⟨H.h.put 34 H.next o,H.next+1⟩)
def cI (H:Hp)(l:List AV)(elem:TypeId)(fl:Nat):Option (Nat × Hp):=
 bif Nat.ble l.length 16777216 then alloc H (.cells (Tr.dh .nil 0 l) 0 l.length elem fl) else none
def setObj (H:Hp)(i:Nat)(o:AO):Hp:={ H with h:=H.h.fJ i o }
def mO:AV->AV->Bool
 | .bool a,.bool b=>a==b
 | .int j a,.int k b=>j==k&&a==b
 | .str a,.str b=>a==b
 | .aC,.aC=>true
 | .ptr a b,.ptr c d=>Nat.beq a c&&Nat.beq b d
 | .ae,.ae=>true
 | .slice a b c d e f,.slice a' b' c' d' e' f'=>Nat.beq a a'&&Nat.beq b b'&&Nat.beq c c'&&Nat.beq d d'&&e==e'&&Nat.beq f f'
 | .iF,.iF=>true
 | .map a,.map b=>Nat.beq a b
 | .nilFunc,.nilFunc=>true
 | .nilIface,.nilIface=>true
 | _,_=>false
def wG:List AV->List AV->Bool
 | [],[]=>true
 | a::x,b::y=>mO a b&&wG x y
 | _,_=>false
def same:AV->AV->Bool
 | .agg x,.agg y=>wG x y
 | .tuple x,.tuple y=>wG x y
 | .iface t x,.iface u y=>Nat.beq t u&&mO x y
 | a,b=>mO a b
def sO (H:Hp)(t:TypeId)(a:AV):Option AV:=
 match a with
 | .ptr i off=>do
  if <-xe P t then do pure (.agg (<-dQ H i off (<-sz P t))) else cellAt H i off
 | _=>none
def FB (H:Hp)(t:TypeId)(a v:AV):Option Hp:=
 match a with
 | .ptr i off=>do
  let cs <-jX v
  if (<-sz P t)==cs.length then setCells H i off cs else none
 | _=>none
def nu (t:TypeId)(cs:List AV)(off:Nat):Option AV:=do
 if <-xe P t then do
  let n <-sz P t
  bif Nat.ble (off+n) cs.length then some (.agg ((cs.drop off).take n)) else none
 else cs[off]?
def uf (place:Nat->Option (Nat × Nat))(cells:List AV):List (Nat × AV)->Option (List AV)
 | []=>some cells
 | (i,v)::rest=>
  match place i with
  | none=>none
  | some (off,size)=>
   match jX v with
   | none=>none
   | some cs=>
    if cs.length=size/\off+size<=cells.length then uf place (cells.take off++cs++cells.drop (off+size)) rest else none
def Rv (fs:Array Field):Option (List (Nat × Nat)):=rm (fun f:Field=>(sz P f.type).map fun n=>(f.offset,n)) fs.toList
def rep (n:Nat)(l:List AV):List AV:=(List.replicate n l).flatten
def wJ {α:Type}(g:α->Option Bool):List α->Option Bool
 | []=>some true
 | a::r=>match g a with
  | some true=>wJ g r
  | some false=>some false
  | none=>none
def clean (H:Hp)(i:Nat):Bool:=
 match H.h.get i with
 | some (.cells _ _ _ _ 0)=>true
 | _=>false
def ja:Nat->TypeId->AV->AV->Hp->Option Bool
 | 0,_,_,_,_=>none
 | d+1,t,x,y,H=>
  match P.underlying t with
  | none=>none
  | some u=>
  match u,x,y with
  | .bool,.bool a,.bool b=>some (a==b)
  | .int _,.int k a,.int k' b=>if k=k' then some (a==b) else none
  | .string,.str a,.str b=>some (a==b)
  | .pointer _,.aC,.aC=>some true
  | .pointer _,.aC,.ptr _ _=>some false
  | .pointer _,.ptr _ _,.aC=>some false
  | .pointer el,.ptr i a,.ptr j b=>
   match sz P el with
   | some (n+1)=>bif Nat.beq i j then some (Nat.beq a b) else bif clean H i&&clean H j then some false else none
   | _=>none
  | .interface _,.nilIface,.nilIface=>some true
  | .interface _,.nilIface,.iface _ _=>some false
  | .interface _,.iface _ _,.nilIface=>some false
  | .interface _,.iface t x,.iface t' y=>
   if t=t' then
    match P.info? t with
    | some i=>bif i.comparable then ja d t x y H else none
    | none=>none
   else some false
  | .struct fs,.agg xs,.agg ys=>
   bif P.stoodInHeld t then none else
   wJ (fun f => if f.name = "_" then some true else
    match nu P f.type xs f.offset,nu P f.type ys f.offset with
    | some a,some b=>ja d f.type a b H
    | _,_=>none) fs.toList
  | .array n el,.agg xs,.agg ys=>
   match sz P el with
   | some s=>wJ (fun i=>
    match nu P el xs (i*s),nu P el ys (i*s) with
    | some a,some b=>ja d el a b H
    | _,_=>none) (List.range' 0 n)
   | none=>none
  | .slice _,.ae,.ae=>some true
  | .slice _,.ae,.slice .. => some false
  | .slice _,.slice ..,.ae=>some false
  | .map _ _,.iF,.iF=>some true
  | .map _ _,.iF,.map _=>some false
  | .map _ _,.map _,.iF=>some false
  | .func ..,.nilFunc,.nilFunc=>some true
  | .func ..,.nilFunc,.func .. => some false
  | .func ..,.func ..,.nilFunc=>some false
  | _,_,_=>none
def qg:List Nat->List Nat->Bool
 | _,[]=>false
 | [],_::_=>true
 | a::x,b::y=>Nat.blt a b||(Nat.beq a b&&qg x y)
def lr (k:IntKind)(a:Int):Nat:=(a % ((2 ^ k.bits:Nat):Int)).toNat
def kG (op:BinOp)(t:TypeId)(x y:AV)(H:Hp):Option AV:=
 match op,x,y with
 | .shl,.int k a,.int _ b=>if b<0 then none else some (.int k (k.wrap (a*2 ^ (min b.toNat k.bits))))
 | .shr,.int k a,.int _ b=>if b<0 then none else some (.int k (a.fdiv (2 ^ (min b.toNat k.bits))))
 | op,.int k a,.int k' b=>
  if k=k' then
   match op with
   | .add=>some (.int k (k.wrap (a+b)))
   | .sub=>some (.int k (k.wrap (a-b)))
   | .mul=>some (.int k (k.wrap (a*b)))
   | .quo=>if b=0 then none else some (.int k (k.wrap (a.tdiv b)))
   | .rem=>if b=0 then none else some (.int k (a.tmod b))
   | .and=>some (.int k (k.wrap (lr k a &&& lr k b:Nat)))
   | .or=>some (.int k (k.wrap (lr k a ||| lr k b:Nat)))
   | .xor=>some (.int k (k.wrap (lr k a ^^^ lr k b:Nat)))
   | .andNot=>none
   | .eql=>some (.bool (a==b))
   | .neq=>some (.bool (a != b))
   | .lss=>some (.bool (a<b))
   | .leq=>some (.bool (a<=b))
   | .gtr=>some (.bool (b<a))
   | .geq=>some (.bool (b<=a))
   | _=>none
  else none
 | op,.str a,.str b=>
  match op with
  | .add=>bif Nat.ble (a.length+b.length) 4294967296 then some (.str (a++b)) else none
  | .eql=>some (.bool (a==b))
  | .neq=>some (.bool (!(a==b)))
  | .lss=>some (.bool (qg a b))
  | .leq=>some (.bool (qg a b||a==b))
  | .gtr=>some (.bool (!(qg a b||a==b)))
  | .geq=>some (.bool (!(qg a b)))
  | _=>none
 | .eql,x,y=>(ja P 50 t x y H).map .bool
 | .neq,x,y=>(ja P 50 t x y H).map fun b => .bool !b
 | _,_,_=>none
def uZ:Operand->Bool
 | .const _=>true
 | _=>false
def sS (op:BinOp)(t:TypeId)(X Y:Operand)(x y:AV):Bool:=
 match op with
 | .eql | .neq=>match x,y with
  | .nilIface,.nilIface=>uZ X||uZ Y
  | .agg _,.agg _ => !(P.eqGuardType P.depth t)
  | _,_=>true
 | _=>true
def ie (op:UnOp)(x:AV):Option AV:=
 match op,x with
 | .neg,.int k n=>some (.int k (k.wrap (0-n)))
 | .not,.bool b=>some (.bool !b)
 | .xor,.int k n=>if k.signed then none else if 0<=n then some (.int k (k.wrap ((k.max.toNat % 2 ^ k.bits) ^^^ (n.toNat % 2 ^ k.bits):Nat))) else none
 | _,_=>none
def uW:List AV->Option (List Nat)
 | []=>some []
 | .int .u8 n::r=>do if 0<=n&&n<256 then pure (n.toNat::(<-uW r)) else none
 | _=>none
def yh (t:TypeId):Bool:=match sz P t with | some (_+1)=>true | _=>false
def jw (src dst:TypeId)(x:AV)(H:Hp):Option (AV × Hp):=
 match P.underlying src,P.underlying dst with
 | some s,some d=>
  match s,d,x with
  | _,.int k,.int _ n=>some (.int k (k.wrap n),H)
  | _,.string,.int _ n=>if 0<=n/\n<128 then some (.str [n.toNat],H) else none
  | _,.string,.str s=>some (.str s,H)
  | _,.slice e,.str s=>
   match P.underlying e with
   | some (.int .u8)=>
    match cI H (s.map fun (b:Nat)=>AV.int .u8 b) e 1 with
    | some (i,H)=>some (.slice i 0 s.length s.length false 1,H)
    | none=>none
   | _=>none
  | .slice _,.slice e,.slice i off len cap ex es=>
   bif Nat.beq src dst&&Nat.blt 0 len then
    match P.underlying e,H.h.get i with
    | some (.int .u8),some (.cells c lo hi el 0)=>some (.slice i off len cap ex es,{ H with h:=H.h.fJ i (.cells c lo hi el 1) })
    | _,_=>none
   else none
  | .slice e,.string,.ae=>
   match P.underlying e with
   | some (.int .u8)=>some (.str [],H)
   | _=>none
  | .slice e,.string,.slice i off len _ _ _=>
   match P.underlying e with
   | some (.int .u8)=>bif Nat.beq len 0 then some (.str [],H) else (dQ H i off len).bind fun cs=>(uW cs).map fun b=>(.str b,H)
   | _=>none
  | .pointer t,.unsafePointer,.ptr i o=>bif (cellAt H i o).isSome&&yh P t then some (.ptr i o,H) else none
  | .unsafePointer,.pointer u,.ptr i o=>
   match H.h.get i with
   | some (.cells _ lo _ el _)=>bif Nat.beq el u&&Nat.beq lo 0&&Nat.beq o 0&&Nat.blt 0 (P.cellsOf u)&&(cellAt H i (P.cellsOf u-1)).isSome then some (.ptr i o,H) else none
   | _=>none
  | _,_,_=>none
 | _,_=>none
def bound (lo:Nat)(hi:Nat):AV->Option Nat
 | .int _ n=>if (lo:Int)<=n&&n<=hi then some n.toNat else none
 | _=>none
def ru (len cap:Nat)(low high mx:Option AV):Option (Nat × Nat × Nat):=do
 let m <- (match mx with | some v=>bound 0 cap v | none=>some cap:Option Nat)
 let h <- (match high with | some v=>bound 0 m v | none=>(match mx with | none=>some len | some _=>none):Option Nat)
 let l <- (match low with | some v=>bound 0 h v | none=>some 0:Option Nat)
 pure (l,h,m)
def xc (t:TypeId)(x:AV)(low high mx:Option AV)(H:Hp):Option AV:=do
 match <-P.underlying t,x with
 | .string,.str s=>do
  if mx.isSome then none else
  let (l,h,_) <-ru s.length s.length low high none
  some (.str ((s.drop l).take (h-l)))
 | .slice el,.ae=>do
  let (_,_,_) <-ru 0 0 low high mx
  if (sz P el).isSome then some .ae else none
 | .slice el,.slice i off len cap ex es=>do
  let (l,h,m) <-ru len cap low high mx
  if (<-sz P el)==es then some (.slice i (off+l*es) (h-l) (m-l) (ex||mx.isSome) es) else none
 | .array n e,.ptr i off=>do
  let (l,h,m) <-ru n n low high mx
  let es <-sz P e
  if Nat.blt 0 (n*es)&&(cellAt H i (off+n*es-1)).isSome then some (.slice i (off+l*es) (h-l) (m-l) true es) else none
 | _,_=>none
def Dx (t:TypeId)(x ix:AV):Option AV:=do
 match <-P.underlying t,x,ix with
 | .array n e,.ptr i off,.int _ k=>do
  let es <-sz P e
  if 0<=k&&k<n then some (.ptr i (off+k.toNat*es)) else none
 | .slice el,.slice i off len _ _ es,.int _ k=>do
  if (<-sz P el)==es&&0<=k&&k<len then some (.ptr i (off+k.toNat*es)) else none
 | _,_,_=>none
def xH (t:TypeId)(x ix:AV):Option AV:=do
 match <-P.underlying t,x,ix with
 | .array n e,.agg cs,.int _ k=>do
  let es <-sz P e
  if 0<=k&&k<n then nu P e cs (k.toNat*es) else none
 | .string,.str s,.int _ k=>if 0<=k then (s[k.toNat]?).map fun (b:Nat) => .int .u8 b else none
 | _,_,_=>none
def px:Nat->TypeId->AV->Bool
 | 0,_,_=>false
 | d+1,t,v=>
  match P.underlying t,v with
  | some (.int _),_=>true
  | some .string,_=>true
  | some .bool,_=>true
  | some (.struct fs), .agg cs => fs.toList.all fun f => if f.name ≠ "_" then (match nu P f.type cs f.offset with | some v => px d f.type v | none => false) else true
  | some (.array n el),.agg cs=>
   match sz P el with
   | some s=>(List.range' 0 n).all fun i=>match nu P el cs (i*s) with | some v=>px d el v | none=>false
   | none=>false
  | _,_=>false
def GP:AV->AV->Bool
 | .bool a,.bool b=>a==b
 | .int j a,.int k b=>decide (j=k)&&decide (a=b)
 | .str a,.str b=>a==b
 | _,_=>false
def C6:List AV->List AV->Bool
 | [],[]=>true
 | a::x,b::y=>GP a b&&C6 x y
 | _,_=>false
def Au:AV->AV->Bool
 | .agg x,.agg y=>C6 x y
 | a,b=>GP a b
def Ba (H:Hp)(t:TypeId)(k:AV):List ME->Bool
 | []=>true
 | e::es=>match ja P 20 t k e.key H with
  | some false=>Ba H t k es
  | _=>false
def ya (H:Hp)(t:TypeId)(k:AV):List ME->Nat->Option (Option (Nat × ME))
 | [],_=>some none
 | e::es,i=>match ja P 20 t k e.key H with
  | some true=>bif Ba P H t k es then some (some (i,e)) else none
  | some false=>ya H t k es (i+1)
  | none=>none
def mapOf (H:Hp):AV->Option (List ME × Nat)
 | .iF=>some ([],0)
 | .map i=>match H.h.get i with | some (.map es c)=>some (es,c) | _=>none
 | _=>none
def Bi (t:TypeId)(x k:AV)(ok:Bool)(H:Hp):Option AV:=
 match P.underlying t with
 | some (.map kt el)=>
  bif px P 20 kt k then
   match mapOf H x with
   | some (es,_)=>
    match ya P H kt k es 0 with
    | some (some (_,m))=>some (bif ok then .tuple [m.val,.bool true] else m.val)
    | some none=>(((P.info? el).bind (·.zero)).bind kf).map fun z=>bif ok then .tuple [z,.bool false] else z
    | none=>none
   | none=>none
  else none
 | _=>none
def tw (t:TypeId)(x k v:AV)(H:Hp):Option Hp:=
 match P.underlying t,x with
 | some (.map kt _),.map i=>
  bif px P 20 kt k then
   match H.h.get i with
   | some (.map es c)=>
    match ya P H kt k es 0 with
    | some (some (j,m))=>bif Au m.key k then some (setObj H i (.map (es.set j { m with key:=k,val:=v }) c)) else none
    | some none=>some (setObj H i (.map (es++[⟨k,v,c⟩]) (c+1)))
    | none=>none
   | _=>none
  else none
 | _,_=>none
def G4 (il:Bool)(el es:Nat)(x:AV)(H:Hp):Option (Nat × List AV):=
 match il,x with
 | true,.int .i64 k=>
  if 0<=k/\k<16777216 then
   match zc P el with
   | some z=>if z.length=es then some (k.toNat,rep k.toNat z) else none
   | none=>none
  else none
 | false,.ae=>some (0,[])
 | false,.slice i off len _ _ _=>(dQ H i off (len*es)).map fun l=>(len,l)
 | false,.str s=>if es=1 then some (s.length,s.map fun (b:Nat)=>AV.int .u8 b) else none
 | _,_=>none
def EM (dq:Array TypeId):Option Bool:=
 match dq[1]? with
 | some t=>(P.underlying t).map (fun d=>match d with | .int _=>true | _=>false)
 | none=>some false
def GA (dq:Array TypeId)(s x:AV)(H:Hp):Option (AV × Hp):=
 match (dq[0]?).bind P.underlying,EM P dq with
 | some (.slice el),some il=>
  match sz P el,zc P el with
  | some es,some z=>
   bif Nat.ble (P.bytesOf el) 4096&&Nat.beq z.length es then
   match G4 P il el es x H with
   | some (n,new)=>
    match s with
    | .ae=>
     bif Nat.beq n 0 then some (.ae,H) else
     bif Nat.ble n 16777216 then
     match cI H new el 0 with
     | some (i,H)=>some (.slice i 0 n n false es,H)
     | none=>none
     else none
    | .slice i off len cap ex aq=>
     bif Nat.ble (len+n) 16777216&&Nat.beq es aq&&new.all db then
     bif Nat.ble (len+n) cap then
      match setCells H i (off+len*es) new with
      | some H=>some (.slice i off (len+n) cap ex es,H)
      | none=>none
     else bif ex then
      match dQ H i off (len*es) with
      | some old=>
       match cI H (old++new) el 0 with
       | some (j,H)=>some (.slice j 0 (len+n) (len+n) false es,H)
       | none=>none
      | none=>none
     else
      match H.h.get i with
      | some (.cells c lo hi nM fl)=>
       bif Nat.ble fl 1&&Nat.ble lo off&&Nat.ble (off+len*es) hi&&Nat.beq el nM then
        match alloc { H with h:=H.h.del i } (.cells (c.dh (off+len*es) new) off (off+(len+n)*es) el 1) with
        | some (j,H)=>some (.slice j off (len+n) (len+n) false es,H)
        | none=>none
       else none
      | _=>none
     else none
    | _=>none
   | none=>none
   else none
  | _,_=>none
 | _,_=>none
def Mm:AV->Option Nat
 | .ae=>some 0
 | .slice _ _ l _ _ _=>some l
 | .str s=>some s.length
 | _=>none
def RP (es n:Nat)(x:AV)(H:Hp):Option (List AV):=
 match x with
 | .slice i off _ _ _ _=>dQ H i off (n*es)
 | .str s=>some ((s.take n).map fun (b:Nat)=>AV.int .u8 b)
 | _=>none
def F0 (dq:Array TypeId)(d x:AV)(H:Hp):Option (AV × Hp):=
 match (dq[0]?).bind P.underlying with
 | some (.slice el)=>
  match sz P el,Mm x with
  | some es,some xl=>
   match d with
   | .ae=>some (.int .i64 0,H)
   | .slice i off dl _ _ _=>
    bif Nat.beq (Nat.min xl dl) 0 then some (.int .i64 0,H) else
    match RP es (Nat.min xl dl) x H with
    | some cs=>(setCells H i off cs).map fun H=>(.int .i64 (Nat.min xl dl),H)
    | none=>none
   | _=>none
  | _,_=>none
 | _=>none
def EU (dq:Array TypeId)(m k:AV)(H:Hp):Option Hp:=
 match (dq[0]?).bind P.underlying with
 | some (.map kt _)=>
  bif px P 20 kt k then
  match m with
  | .iF=>some H
  | .map i=>
   match H.h.get i with
   | some (.map es c)=>
    match ya P H kt k es 0 with
    | some (some (j,_))=>some (setObj H i (.map (es.eraseIdx j) c))
    | some none=>some H
    | none=>none
   | _=>none
  | _=>none
  else none
 | _=>none
def DL (dq:Array TypeId)(x:AV)(H:Hp):Option Hp:=
 match (dq[0]?).bind P.underlying,x with
 | some _,.iF=>some H
 | some _,.ae=>some H
 | some _,.map i=>match H.h.get i with
  | some (.map _ c)=>some (setObj H i (.map [] c))
  | _=>none
 | some (.slice el),.slice i off n _ _ _=>
  match zc P el with
  | some z=>setCells H i off (rep n z)
  | none=>none
 | _,_=>none
def zq (dq:Array TypeId)(x:AV)(H:Hp):Option AV:=
 match (dq[0]?).bind P.underlying,x with
 | some .string,.str s=>some (.int .i64 s.length)
 | some (.array n _),_=>some (.int .i64 n)
 | some (.slice _),.ae=>some (.int .i64 0)
 | some (.slice _),.slice _ _ n _ _ _=>some (.int .i64 n)
 | some (.map _ _),.iF=>some (.int .i64 0)
 | some (.map _ _),.map i=>match H.h.get i with
  | some (.map es _)=>some (.int .i64 es.length)
  | _=>none
 | some (.pointer a),_=>match P.underlying a with | some (.array n _)=>some (.int .i64 n) | _=>none
 | _,_=>none
def IY (dq:Array TypeId)(x:AV):Option AV:=
 match (dq[0]?).bind P.underlying,x with
 | some (.slice _),.ae=>some (.int .i64 0)
 | some (.slice _),.slice _ _ _ c true _=>some (.int .i64 c)
 | _,_=>none
def O1 (mx:Bool):AV->AV->Option AV
 | .int k x,.int _ y=>some (.int k (bif mx then (if y>x then y else x) else (if y<x then y else x)))
 | _,_=>none
def BT (mx:Bool):AV->List AV->Option AV
 | x,[]=>some x
 | x,y::r=>match O1 mx x y with
  | some z=>BT mx z r
  | none=>none
def KA (dq:Array TypeId)(p:AV)(k:IntKind)(n:Int)(H:Hp):Option (AV × Hp):=
 match dq.toList,k with
 | [t0,_],.i64=>
  match P.underlying t0,p with
  | some (.pointer _),.aC=>if n=0 then some (.str [],H) else none
  | some (.pointer el),.ptr i off=>
   if n=0 then some (.str [],H) else
   match H.h.get i with
   | some (.cells c lo hi nM fl)=>
    if el=nM/\P.cellsOf el=1/\0<n/\n<16777216/\fl<=1 then
     ((dQ H i off n.toNat).bind uW).map fun s=>(.str s,{ H with h:=H.h.fJ i (.cells c lo hi nM 2) })
    else none
   | _=>none
  | _,_=>none
 | _,_=>none
def eP (b:Builtin)(dq:Array TypeId)(args:List AV)(H:Hp):Option (AV × Hp):=
 match b,args with
 | .append,[s,x]=>GA P dq s x H
 | .copy,[d,x]=>F0 P dq d x H
 | .delete,[m,k]=>(EU P dq m k H).map fun H=>(cP,H)
 | .clear,[x]=>(DL P dq x H).map fun H=>(cP,H)
 | .len,[x]=>(zq P dq x H).map fun v=>(v,H)
 | .cap,[x]=>(IY P dq x).map fun v=>(v,H)
 | .min,x::r=>(BT false x r).map fun v=>(v,H)
 | .max,x::r=>(BT true x r).map fun v=>(v,H)
 | .unsafeSliceData,[.ae]=>some (.aC,H)
 | .unsafeSliceData,[.slice i off l c _ _]=>bif Nat.blt 0 l then some (.ptr i off,H) else none
 | .unsafeString,[p,.int k n]=>KA P dq p k n H
 | _,_=>none
def E4 (t:TypeId)(ps:List (Nat × AV)):Option AV:=
 match zc P t,P.underlying t with
 | some z,some (.struct fs)=>
  match Rv P fs with
  | some pl=>(uf (pl[·]?) z ps).map .agg
  | none=>none
 | some z,some (.array _ el)=>
  match sz P el with
  | some s=>(uf (fun i=>some (i*s,s)) z ps).map .agg
  | none=>none
 | _,_=>none
def yP (el s n:Nat):Option (List AV):=
 bif Nat.beq (n*s) 0 then some [] else
 match zc P el with
 | some z=>bif Nat.beq z.length s then some (rep n z) else none
 | none=>none
def Ad (t:TypeId)(len:Nat)(ps:List (Nat × AV))(H:Hp):Option (AV × Hp):=
 match P.underlying t with
 | some (.slice el)=>
  match sz P el with
  | some s=>
   bif Nat.ble (len*s) 65536 then
    match yP P el s len with
    | some z=>
     match uf (fun i=>some (i*s,s)) z ps with
     | some cs=>(cI H cs el 0).map fun r=>(.slice r.1 0 len len true s,r.2)
     | none=>none
    | none=>none
   else none
  | none=>none
 | _=>none
def vG (t:TypeId)(l c:AV)(H:Hp):Option (AV × Hp):=
 match P.underlying t,l,c with
 | some (.slice el),.int _ l,.int _ c=>
  match sz P el with
  | some s=>
   if 0<=l/\l<=c/\c<=1048576/\P.bytesOf el<=4096 then
    match yP P el s c.toNat with
    | some z=>(cI H z el 0).map fun r=>(.slice r.1 0 l.toNat c.toNat true s,r.2)
    | none=>none
   else none
  | none=>none
 | _,_,_=>none
def sd (t:TypeId)(x:AV)(H:Hp):Option (AV × Hp):=
 match P.underlying t,x with
 | some .string,.str s=>(alloc H (.sA s 0)).map fun r=>(.ptr r.1 0,r.2)
 | some (.map _ _),.iF=>(alloc H (.uT none 0 [] 0)).map fun r=>(.ptr r.1 0,r.2)
 | some (.map _ _),.map m=>
  match H.h.get m with
  | some (.map [] _)=>(alloc H (.uT (some m) 0 [] 0)).map fun r=>(.ptr r.1 0,r.2)
  | _=>none
 | _,_=>none
def pW (it:AV)(rQ:Bool)(H:Hp):Option (AV × Hp):=
 match it with
 | .ptr i 0=>
  match H.h.get i,rQ with
  | some (.sA s pos),true=>
   match s.drop pos with
   | []=>some (.tuple [.bool false],H)
   | b::_=>bif Nat.blt b 128 then some (.tuple [.bool true,.int .i64 pos,.int .i32 b],setObj H i (.sA s (pos+1))) else none
  | some (.uT none _ _ _),false=>some (.tuple [.bool false],H)
  | some (.uT (some m) _ _ _),false=>
   match H.h.get m with
   | some (.map [] _)=>some (.tuple [.bool false],H)
   | _=>none
  | _,_=>none
 | _=>none
def Lr (it:AV)(H:Hp):Option AV:=none
def F4 (uv:TypeId)(x:AV)(ok:Bool):Option AV:=
 match P.underlying uv,x with
 | some (.interface _),_=>none
 | some _,.iface t v=>if t=uv then some (bif ok then .tuple [v,.bool true] else v) else none
 | _,_=>none
def IW (t:TypeId)(x:AV)(f:Nat):Option AV:=
 match P.underlying t,x with
 | some (.struct fs),.ptr i o=>
  match fs[f]? with
  | some fd=>bif yh P fd.type then some (.ptr i (o+fd.offset)) else none
  | none=>none
 | _,_=>none
def FD (t:TypeId)(x:AV)(f:Nat):Option AV:=
 match P.underlying t,x with
 | some (.struct fs),.agg cs=>
  match fs[f]? with
  | some fd=>nu P fd.type cs fd.offset
  | none=>none
 | _,_=>none
def ag:AV->Option AV
 | .ptr i o=>some (.ptr i o)
 | .func (.func f) a b=>some (.func (.func f) a b)
 | .iface t v=>some (.iface t v)
 | _=>none
def JK (t:TypeId)(x:AV):Option AV:=
 match P.underlying t with
 | some (.interface _)=>none
 | some _=>some (.iface t x)
 | none=>none
def Ky (fn:Fn)(a b:List AV):Option AV:=
 match fn with
 | .yield _=>none
 | fn=>some (.func fn a b)
def fH (e:Operand->AV)(o:Oper)(H:Hp):Option (AV × Hp):=
 match o.op with
 | .move x=>some (e x,H)
 | .assign x=>some (e x,H)
 | .pick c a b=>match e c with | .bool t=>some (bif t then e a else e b,H) | _=>none
 | .alloc t=>match zc P t with | some l=>(cI H l t 0).map fun r=>(.ptr r.1 0,r.2) | none=>none
 | .box t x=>match jX (e x) with | some l=>(cI H l t 0).map fun r=>(.ptr r.1 0,r.2) | none=>none
 | .build t parts=>(E4 P t (parts.toList.map fun (i,x)=>(i,e x))).map fun v=>(v,H)
 | .buildSlice t len parts=>Ad P t len (parts.toList.map fun (i,x)=>(i,e x)) H
 | .insert t m k v=>(tw P t (e m) (e k) (e v) H).map fun H=>(cP,H)
 | .mapUpdate t m k v=>(tw P t (e m) (e k) (e v) H).map fun H=>(cP,H)
 | .load t a=>(sO P H t (e a)).map fun v=>(v,H)
 | .store t a v=>(FB P H t (e a) (e v)).map fun H=>(cP,H)
 | .nilCheck x=>(ag (e x)).map fun v=>(v,H)
 | .binOp op t x y _=>bif sS P op t x y (e x) (e y) then (kG P op t (e x) (e y) H).map fun v=>(v,H) else none
 | .unOp op _ x=>(ie op (e x)).map fun v=>(v,H)
 | .convert a b x=>jw P a b (e x) H
 | .makeInterface t x=>(JK P t (e x)).map fun v=>(v,H)
 | .makeFunc fn a b=>(Ky fn (a.toList.map e) (b.toList.map e)).map fun v=>(v,H)
 | .makeMap _ none=>(alloc H (.map [] 0)).map fun r=>(.map r.1,r.2)
 | .makeSlice t l c=>vG P t (e l) (e c) H
 | .slice t x lo hi mx=>(xc P t (e x) (lo.map e) (hi.map e) (mx.map e) H).map fun v=>(v,H)
 | .fieldAddr t x f=>(IW P t (e x) f).map fun v=>(v,H)
 | .field t x f=>(FD P t (e x) f).map fun v=>(v,H)
 | .indexAddr t x ix=>(Dx P t (e x) (e ix)).map fun v=>(v,H)
 | .index t x ix=>(xH P t (e x) (e ix)).map fun v=>(v,H)
 | .lookup t x k ok=>(Bi P t (e x) (e k) ok H).map fun v=>(v,H)
 | .range t x=>sd P t (e x) H
 | .next it rQ=>pW (e it) rQ H
 | .entry it=>(Lr (e it) H).map fun v=>(v,H)
 | .extract t ix=>match e t with | .tuple l=>(l[ix]?).map fun v=>(v,H) | _=>none
 | .typeAssert x _ uv ok=>(F4 P uv (e x) ok).map fun v=>(v,H)
 | .call c=>match c.callee with
  | .builtin b=>eP P b c.argTypes (c.args.toList.map e) H
  | _=>none
 | _=>none
inductive Kd where | pure | read | late | dU
 deriving DecidableEq
def kd (o:Oper):Kd:=
 match o.op with
 | .load .. | .lookup .. | .slice .. | .entry _ => .read
 | .move _ | .assign _ | .pick .. | .build .. | .nilCheck _ | .unOp .. | .makeInterface .. | .makeFunc .. | .fieldAddr .. | .field .. | .indexAddr .. | .index .. | .extract .. | .typeAssert .. => .pure
 | .alloc _ | .buildSlice .. => .late
 | .makeSlice _ l c=>match l,c with | .const _,.const _ => .late | _,_ => .dU
 | .binOp op t .. => match op with
  | .eql | .neq=>match P.underlying t with | some (.int _) | some .string | some .bool => .pure | _ => .read
  | _ => .pure
 | .convert a b x=>match P.underlying a,P.underlying b with
  | some (.int _),some (.int _) => .pure
  | some .string,some .string => .pure
  | some (.slice _),some .string => .read
  | some .string,some (.slice _)=>match x with | .const _ => .late | _ => .dU
  | _,_ => .dU
 | .call c=>match c.callee with
  | .builtin .len => .read
  | .builtin .min | .builtin .max | .builtin .cap => .pure
  | _ => .dU
 | _ => .dU
def before:List Oper->List Nat->List Nat
 | [],acc=>acc
 | o::r,acc=>before r (acc++[o.after.toList.foldl (fun s e=>if Region.binds .any e then s ||| 2 ^ e.on ||| acc.getD e.on 0 else s) 0])
end
inductive Ext where
 | same
 | GC (t:TypeId)
 | LX
 | count
def gL (c:Nat):List Nat->Nat
 | []=>0
 | b::r=>bif Nat.beq b c then gL c r+1 else gL c r
def mW (c:Nat):List Nat->Nat->Option Nat
 | [],_=>none
 | b::r,i=>bif Nat.beq b c then some i else mW c r (i+1)
abbrev Prim:=List AV->Hp->Option (AV × Hp)
inductive X where
 | normal
 | exit (i:Nat)
 | ret
variable (P:Program)(ext:Nat->Option Ext)(aw:Nat->Option Prim)
def C3 (k:Ext)(args:List AV)(H:Hp):Option (AV × Hp):=
 match k,args with
 | .same,[x]=>some (x,H)
 | .GC t,[.int .i64 n]=>
  match P.underlying t with
  | some (.slice el)=>
   if 0<=n/\n<=1048576 then
    (cI H (List.replicate n.toNat .dT) el 0).map fun r=>(.slice r.1 0 n.toNat n.toNat false 1,r.2)
   else none
  | _=>none
 | .LX,[.str s,.int .u8 n]=>some (.int .i64 (match mW (n.toNat % 256) s 0 with | some i=>(i:Int) | none => -1),H)
 | .count,[.str s,.int .u8 n]=>some (.int .i64 (gL (n.toNat % 256) s:Nat),H)
 | _,_=>none
def mI (ops:Array Oper)(o:Oper)(t:Tm):Option Bool:=
 match o.guard with
 | none=>some true
 | some (j,want)=>
  match (ops[j]?).bind (·.dst) with
  | none=>some false
  | some d=>match t.get d with
   | none=>some false
   | some (.bool b)=>some (b==want)
   | some .dT=>none
   | some _=>some false
def hZ (n:Nat)(dst:Option Tmp)(v:AV)(t:Tm):Option Tm:=
 match dst with
 | none=>some t
 | some d=>bif Nat.blt d n&&Nat.blt d 4294967296 then some (t.put 34 d v) else none
abbrev CF:=AV->List AV->Hp->Option (AV × Hp)
def rk (cf:CF)(t:Tm)(o:Oper)(H:Hp):Option (AV × Hp):=
 match o.op with
 | .call { callee := .value f,args,.. }=>cf (ev P.globals.size t f) (args.toList.map (ev P.globals.size t)) H
 | _=>fH P (ev P.globals.size t) o H
def lN (cf:CF)(n:Nat)(ops:Array Oper):List Oper->Tm->Hp->Option (Tm × Hp)
 | [],t,H=>some (t,H)
 | o::r,t,H=>
  match mI ops o t with
  | some true=>
   match rk P cf t o H with
   | some (v,H)=>match hZ n o.dst v t with
    | some t=>lN cf n ops r t H
    | none=>none
   | none=>none
  | some false=>match hZ n o.dst cP t with
   | some t=>lN cf n ops r t H
   | none=>none
  | none=>none
structure jW where
 i:Nat
 o:Oper
 b:Nat
 x:Bool
 k:Kd
 v:AV
 t:Tm
 hb:Hp
 ha:Hp
def kV (cf:CF)(n:Nat)(ops:Array Oper):Nat->List Oper->List Nat->Tm->Tm->Hp->Hp->Option (List jW × Tm × Hp)
 | _,[],_,_,te,_,h=>some ([],te,h)
 | _,_::_,[],_,_,_,_=>none
 | i,o::r,b::bs,tp,te,hb,h=>
  match mI ops o tp with
  | some true=>
   match kd P o with
   | .late=>
    match fH P (ev P.globals.size tp) o h with
    | some (v,h')=>
     match hZ n o.dst .dT tp,hZ n o.dst v te with
     | some ko,some ka=>(kV cf n ops (i+1) r bs ko ka hb h').map fun x=>(⟨i,o,b,true,.late,v,tp,hb,hb⟩::x.1,x.2)
     | _,_=>none
    | none=>none
   | .dU=>
    match rk P cf te o h with
    | some (v,h')=>
     match hZ n o.dst v tp,hZ n o.dst v te with
     | some ko,some ka=>(kV cf n ops (i+1) r bs ko ka h' h').map fun x=>(⟨i,o,b,true,.dU,v,tp,hb,h'⟩::x.1,x.2)
     | _,_=>none
    | none=>none
   | k=>
    match fH P (ev P.globals.size tp) o hb with
    | some (v,_)=>
     match hZ n o.dst v tp,hZ n o.dst v te with
     | some ko,some ka=>(kV cf n ops (i+1) r bs ko ka hb h).map fun x=>(⟨i,o,b,true,k,v,tp,hb,hb⟩::x.1,x.2)
     | _,_=>none
    | none=>none
  | some false=>
   match hZ n o.dst cP tp,hZ n o.dst cP te with
   | some ko,some ka=>(kV cf n ops (i+1) r bs ko ka hb h).map fun x=>(⟨i,o,b,false,.pure,cP,tp,hb,hb⟩::x.1,x.2)
   | _,_=>none
  | none=>none
def tmpsOf (o:Oper):List Tmp:=o.op.operands.toList.filterMap fun | .tmp t=>some t | _=>none
def Fw (ops:Array Oper)(o:Oper):Option Tmp:=o.guard.bind fun g=>(ops[g.1]?).bind (·.dst)
def yg (ops:Array Oper)(o:Oper)(d:Tmp):Bool:=(tmpsOf o).contains d||Fw ops o==some d
def Ki (ops:Array Oper)(i:Nat)(oi:Oper)(bi:Nat)(j:Nat)(oj:Oper)(bj:Nat):Bool:=
 match oi.dst with
 | none=>true
 | some d=>Nat.beq i j||(!(oj.dst==some d)&&(!(yg ops oj d)||(bif Nat.blt i j then bj.testBit i else bi.testBit j)))
def uI (ops:Array Oper):Bool:=
 let l:=ops.toList.zip (before ops.toList [])
 let z:=(List.range ops.size).zip l
 z.all fun x=>(x.2.1.after.all fun e => !(Region.binds .any e)||Nat.blt e.on x.1)&&z.all fun y=>Ki ops x.1 x.2.1 x.2.2 y.1 y.2.1 y.2.2
def tM (s:jW)(H:Hp):Bool:=
 match fH P (ev P.globals.size s.t) s.o H with
 | some (v,_)=>same s.v v
 | none=>false
def Bm (l:List jW):Bool:=
 l.all fun s=>match s.k with
  | .dU=>l.all fun r=>match r.k with
   | .dU | .late => !(Nat.blt r.i s.i)||s.b.testBit r.i
   | .read=>bif Nat.blt r.i s.i then s.b.testBit r.i||tM P r s.ha else r.b.testBit s.i||tM P r s.hb
   | .pure=>true
  | _=>true
def Bf (cf:CF)(n:Nat)(ops:Array Oper)(t:Tm)(H:Hp):Option (Tm × Hp):=
 bif uI ops then
  match kV P cf n ops 0 ops.toList (before ops.toList []) t t H H with
  | some (l,t,H)=>bif Bm P l then some (t,H) else none
  | none=>none
 else none
def BS (o:Oper):Bool:=match o.op with | .makeMap _ none | .insert .. | .mapUpdate .. => true | _=>false
def O5 (N:Nat)(e:Operand->AV)(o:Oper):Bool:=
 match o.op with
 | .makeMap _ none=>true
 | .insert _ m _ _=>match e m with | .map i=>Nat.ble N i | _=>false
 | .mapUpdate _ m _ _=>match e m with | .map i=>Nat.ble N i | _=>false
 | _=>false
def Pz (o:Oper):Bool:=match kd P o with | .pure | .read=>true | _=>false
def BI (tF:Tm)(o:Oper)(v:AV):Bool:=match o.dst with | none=>true | some d=>(match tF.get d with | some x=>same x v | none=>false)
def Hd (b hm hs:Nat):Bool:=Nat.beq ((b &&& hm) &&& hs) (b &&& hm)
abbrev Zp:=List (Nat × Oper × Nat)
def ze (ops:Array Oper)(z:Zp)(hm N M:Nat)(tF:Tm):Nat->Nat->Hp->Bool
 | f,hs,H=>
  (z.all fun x=>BS x.2.1||!(Hd x.2.2 hm hs) ||
   (match mI ops x.2.1 tF with
    | some true=>Pz P x.2.1&&(match fH P (ev P.globals.size tF) x.2.1 H with | some (v,_)=>BI tF x.2.1 v | none=>false)
    | some false=>BI tF x.2.1 cP
    | none=>false)) &&
  (bif Nat.beq (hm &&& hs) hm then Nat.beq H.next M else
   match f with
   | 0=>false
   | f+1=>z.all fun x => !(BS x.2.1)||hs.testBit x.1||!(Hd x.2.2 hm hs) ||
    (match mI ops x.2.1 tF with
     | some true=>O5 N (ev P.globals.size tF) x.2.1&&(match fH P (ev P.globals.size tF) x.2.1 H with
      | some (v,H')=>BI tF x.2.1 v&&ze ops z hm N M tF f (hs ||| 2 ^ x.1) H'
      | none=>false)
     | some false=>BI tF x.2.1 cP&&ze ops z hm N M tF f (hs ||| 2 ^ x.1) H
     | none=>false))
def Rl (ops:Array Oper)(z:Zp):Bool:=z.all fun x=>z.all fun y=>match y.2.1.dst with | none=>true | some d => !(yg ops x.2.1 d)||x.2.2.testBit y.1
def zg (s:Nat)(x:Nat × Oper):Bool := !(s.testBit x.1)&&x.2.after.toList.all fun e => !(Region.binds .any e)||s.testBit e.on
def LU (z:List (Nat × Oper))(x:Nat × Oper):Bool:=zg (2 ^ x.1-1) x&&z.all fun y => !(Nat.blt x.1 y.1)||!(zg (2 ^ x.1-1) y)
def Xl (x:Nat × Oper × Nat):Bool:=Nat.beq x.2.2 (2 ^ x.1-1)
def Pt:Zp->Nat->Nat
 | [],m=>m
 | x::r,m=>bif (x::r).all Xl then x.1 else Pt r m
def uO:Zp->Nat
 | []=>0
 | x::r=>bif BS x.2.1 then 2 ^ x.1 ||| uO r else uO r
def Oe (n:Nat)(ops:Array Oper)(t:Tm)(H:Hp):Option (Tm × Hp):=
 let z:=(List.range ops.size).zip (ops.toList.zip (before ops.toList []))
 let w:=(List.range ops.size).zip ops.toList
 let p:=Pt z ops.size
 match lN P (fun _ _ _=>none) n ops (ops.toList.take p) t H with
 | some (tF,HF)=>bif uI ops&&Nat.ble p ops.size&&(z.drop p).all Xl&&(w.drop p).all (LU w)&&Rl ops (z.take p)&&(z.take p).all (fun x=>match x.2.1.dst with | none=>true | some d=>Nat.blt d n&&Nat.blt d 4294967296)&&ze P ops (z.take p) (uO (z.take p)) H.next HF.next tF p 0 H then lN P (fun _ _ _=>none) n ops (ops.toList.drop p) tF ⟨H.h,HF.next⟩ else none
 | none=>none
def TO (cf:CF)(n:Nat)(ops:Array Oper)(t:Tm)(H:Hp):Option (Tm × Hp):=
 match Bf P cf n ops t H with
 | some r=>some r
 | none=>Oe P n ops t H
def tH (t:Tm)(H:Hp):List ResultVar->Option (List AV)
 | []=>some []
 | .tmp x::r=>match tH t H r with
  | some l=>some ((t.get x).getD cP::l)
  | none=>none
 | .cell a ty::r=>match sO P H ty ((t.get a).getD cP),tH t H r with
  | some v,some l=>some (v::l)
  | _,_=>none
def J6:List AV->AV
 | [v]=>v
 | l => .tuple l
def Dr (run:Nat->Code->Tm->Hp->Option (X × Tm × Hp)):CF:=fun g args H=>
 match g with
 | .func (.func aB) first cap=>
  match aw aB with
  | some p=>p (first++args++cap) H
  | none=>
   match P.funcs[aB]? with
   | some fn=>
    match fn.body with
    | some b=>
     bif Nat.ble (first++args++cap).length fn.ntmps&&Nat.blt fn.ntmps 4294967296 then
      match run fn.ntmps b (Tr.dh .nil 0 (first++args++cap)) H with
      | some (.exit _,_,_)=>none
      | some (_,t,H)=>(tH P t H fn.results.toList).map fun l=>(J6 l,H)
      | none=>none
     else none
    | none=>match ext aB with
     | some k=>C3 P k (first++args++cap) H
     | none=>none
   | none=>none
 | _=>none
def code:Nat->Nat->Code->Tm->Hp->Option (X × Tm × Hp)
 | 0,_,_,_,_=>none
 | f+1,n,c,t,H=>
  match c with
  | .skip=>some (.normal,t,H)
  | .label _=>some (.normal,t,H)
  | .seq a b=>
   match code f n a t H with
   | some (.normal,t,H)=>code f n b t H
   | r=>r
  | .cond c a b=>match ev P.globals.size t c with
   | .bool x=>bif x then code f n a t H else code f n b t H
   | _=>none
  | .block i b=>
   match code f n b t H with
   | some (.exit j,t,H)=>bif Nat.beq j i then some (.normal,t,H) else some (.exit j,t,H)
   | r=>r
  | .loop b=>
   match code f n b t H with
   | some (.normal,t,H)=>code f n (.loop b) t H
   | r=>r
  | .exit i=>some (.exit i,t,H)
  | .ret=>some (.ret,t,H)
  | .region _ ops d=>
   match (bif d then TO P (Dr P ext aw (code f)) n ops t H else lN P (Dr P ext aw (code f)) n ops ops.toList t H) with
   | some (t,H)=>some (.normal,t,H)
   | none=>none
  | _=>none
def tT (fuel:Nat)(g:Nat)(args:List AV)(H:Hp):Option (AV × Hp):=Dr P ext aw (code P ext aw fuel) (.func (.func g) [] []) args H
def Lw (r:Option (AV × Hp)):Bool:=match r with | some (.bool true,_)=>true | _=>false
end
structure Em where
 b:Nat->Nat
 d:Nat->Int
 n:Nat->Nat
 N:Nat
def Em.le (e e':Em):Prop:=e.N<=e'.N/\∀ i,i<e.N->e'.b i=e.b i/\e'.d i=e.d i/\e'.n i=e.n i
theorem Em.le_refl (e:Em):e.le e:=⟨aar _,fun _ _=>⟨rfl,rfl,rfl⟩⟩
theorem Em.le_trans {a b c:Em}(h:a.le b)(k:b.le c):a.le c:=
 ⟨abS h.1 k.1,fun i hi=>by
  obtain⟨x,y,z⟩:=h.2 i hi
  obtain⟨x',y',z'⟩:=k.2 i (adi hi h.1)
  exact⟨x'.trans x,y'.trans y,z'.trans z⟩⟩
inductive VR (e:Em):AV->Value->Prop
 | dT (v:Value):VR e .dT v
 | bool (b:Bool):VR e (.bool b) (.bool b)
 | int (k:IntKind) (n:Int):VR e (.int k n) (.int k n)
 | str (s:ByteArray):VR e (.str (bytes s)) (.string s)
 | aC:VR e .aC (.pointer none)
 | ptr (i off o:Nat) (hi:i<e.N) (ho:(o:Int)=off+e.d i):VR e (.ptr i off) (.pointer (some ⟨e.b i,o,none⟩))
 | ae:VR e .ae (.slice none 0 0)
 | slice (i off len cap:Nat) (ex:Bool) (es o c:Nat) (hi:i<e.N) (ho:(o:Int)=off+e.d i) (hl:len<=c) (hc:cap<=c) (hx:ex=true->c=cap) (hn:o+c*es<=e.n i) :
   VR e (.slice i off len cap ex es) (.slice (some ⟨e.b i,o,none⟩) len c)
 | yt (i off:Nat) (ex:Bool) (es:Nat) (a:Addr):VR e (.slice i off 0 0 ex es) (.slice (some a) 0 0)
 | iF:VR e .iF (.map none)
 | map (i:Nat) (hi:i<e.N):VR e (.map i) (.map (some (e.b i)))
 | func (fn:Fn) (hf:∀ l,fn ≠ .yield l) (a c:List AV) (a' c':Array Value) (ha:a'.toList.length=a.length) (hc:c'.toList.length=c.length)
   (h1:∀ (i:Nat) (v:AV) (v':Value),a[i]? = some v->a'.toList[i]? = some v'->VR e v v') (h2:∀ (i:Nat) (v:AV) (v':Value),c[i]? = some v->c'.toList[i]? = some v'->VR e v v') :
   VR e (.func fn a c) (.func fn a' c')
 | nilFunc:VR e .nilFunc .nilFunc
 | nilIface:VR e .nilIface .nilIface
 | iface (t:TypeId) (v:AV) (v':Value) (h:VR e v v'):VR e (.iface t v) (.iface t v')
 | agg (l:List AV) (vs:Array Value) (hl:vs.toList.length=l.length) (h:∀ (i:Nat) (v:AV) (v':Value),l[i]? = some v->vs.toList[i]? = some v'->VR e v v'):VR e (.agg l) (.agg vs)
 | tuple (l:List AV) (vs:Array Value) (hl:vs.toList.length=l.length) (h:∀ (i:Nat) (v:AV) (v':Value),l[i]? = some v->vs.toList[i]? = some v'->VR e v v'):VR e (.tuple l) (.tuple vs)
theorem VR.mono {e e':Em}(h:e.le e'){v:AV}{v':Value}(hv:VR e v v'):VR e' v v':=by
 induction hv with
 | dT v=>exact .dT v
 | bool b=>exact .bool b
 | int k n=>exact .int k n
 | str s=>exact .str s
 | aC=>exact .aC
 | ptr i off o hi ho=>
  obtain⟨x,y,z⟩:=h.2 i hi
  rw[<-x];exact .ptr i off o (adi hi h.1) (by rw[y];exact ho)
 | ae=>exact .ae
 | slice i off len cap ex es o c hi ho hl hc hx hn=>
  obtain⟨x,y,z⟩:=h.2 i hi
  rw[<-x];exact .slice i off len cap ex es o c (adi hi h.1) (by rw[y];exact ho) hl hc hx (by rw[z];exact hn)
 | yt i off ex es a=>exact .yt i off ex es a
 | iF=>exact .iF
 | map i hi=>
  obtain⟨x,y,z⟩:=h.2 i hi
  rw[<-x];exact .map i (adi hi h.1)
 | func fn hf a c a' c' ha hc h1 h2 i1 i2=>exact .func fn hf a c a' c' ha hc i1 i2
 | nilFunc=>exact .nilFunc
 | nilIface=>exact .nilIface
 | iface t v v' _ ih=>exact .iface t v v' ih
 | agg l vs hl _ ih=>exact .agg l vs hl ih
 | tuple l vs hl _ ih=>exact .tuple l vs hl ih
def az (e:Em)(l:List AV)(vs:List Value):Prop:=vs.length=l.length/\∀ (i:Nat) (v:AV) (v':Value),l[i]? = some v->vs[i]? = some v'->VR e v v'
theorem az.nil (e:Em):az e [] []:=⟨rfl,by simp⟩
theorem az.cons {e:Em}{v:AV}{v':Value}{l:List AV}{vs:List Value}(h:VR e v v')(k:az e l vs):az e (v::l) (v'::vs):=by
 refine⟨by simp[k.1],fun i => ?_⟩
 cases i with
 | zero=>intro a b ha hb;simp at ha hb;subst ha;subst hb;exact h
 | succ i=>intro a b ha hb;exact k.2 i a b (by simpa using ha) (by simpa using hb)
theorem az.iW {e:Em}{vs:List Value}(h:az e [] vs):vs=[]:=by simpa using h.1
theorem az.cons_inv {e:Em}{v:AV}{l:List AV}{vs:List Value}(h:az e (v::l) vs):∃ v' ws,vs=v'::ws/\VR e v v'/\az e l ws:=by
 cases vs with
 | nil=>simp[az] at h
 | cons v' ws=>exact⟨v',ws,rfl,h.2 0 v v' rfl rfl,by simpa using h.1,fun i a b ha hb=>h.2 (i+1) a b (by simpa using ha) (by simpa using hb)⟩
theorem az.mono {e e':Em}(h:e.le e'){l:List AV}{vs:List Value}(k:az e l vs):az e' l vs:=⟨k.1,fun i a b ha hb=>(k.2 i a b ha hb).mono h⟩
theorem az.append {e:Em}{a b:List AV}{x y:List Value}(h:az e a x)(k:az e b y):az e (a++b) (x++y):=by
 refine⟨by simp[h.1,k.1],fun i v v' hv cQ => ?_⟩
 by_cases hi:i<a.length
 ·rw[abU hi] at hv
  rw[abU (by rw[h.1];exact hi)] at cQ
  exact h.2 i v v' hv cQ
 ·rw[acs (by omega)] at hv
  rw[acs (by rw[h.1];omega),h.1] at cQ
  exact k.2 _ v v' hv cQ
theorem az.take {e:Em}{a:List AV}{x:List Value}(n:Nat)(h:az e a x):az e (a.take n) (x.take n):=by
 refine⟨by simp[h.1],fun i v v' hv cQ => ?_⟩
 rw[adM] at hv cQ
 split at hv
 ·rw[if_pos (by assumption)] at cQ
  exact h.2 i v v' hv cQ
 ·simp at hv
theorem az.drop {e:Em}{a:List AV}{x:List Value}(n:Nat)(h:az e a x):az e (a.drop n) (x.drop n):=by
 refine⟨by simp[h.1],fun i v v' hv cQ => ?_⟩
 rw[adG] at hv cQ
 exact h.2 _ v v' hv cQ
theorem az.get {e:Em}{a:List AV}{x:List Value}(h:az e a x){i:Nat}{v:AV}(hv:a[i]? = some v):∃ v',x[i]? = some v'/\VR e v v':=by
 have hi:i<a.length:=(abf.1 hv).1
 have hx:i<x.length:=by rw[h.1];exact hi
 exact⟨x[i],aax hx,h.2 i v _ hv (aax hx)⟩
theorem az.replicate {e:Em}{v:AV}{v':Value}(n:Nat)(h:VR e v v'):az e (List.replicate n v) (List.replicate n v'):=by
 refine⟨by simp,fun i a b ha hb => ?_⟩
 rw[agO] at ha hb
 split at ha
 ·rw[if_pos (by assumption)] at hb
  cases ha;cases hb;exact h
 ·cases ha
theorem az.map {e:Em}{ρ:Operand->AV}{σ:Operand->Value}(h:∀ x,VR e (ρ x) (σ x)):∀ l:List Operand,az e (l.map ρ) (l.map σ)
 | [] => .nil e
 | x::l => .cons (h x) (az.map h l)
theorem VR.UM {e:Em}{l:List AV}{vs:List Value}(h:az e l vs):VR e (.agg l) (.agg vs.toArray) := .agg l _ (by simpa using h.1) (by simpa using h.2)
theorem VR.tuple' {e:Em}{l:List AV}{vs:List Value}(h:az e l vs):VR e (.tuple l) (.tuple vs.toArray) := .tuple l _ (by simpa using h.1) (by simpa using h.2)
theorem oa {n m:Nat}(h:n≠m):Nat.beq n m=false:=by
 cases hb:Nat.beq n m
 ·rfl
 ·exact absurd (aba hb) h
theorem sZ (n:Nat):Nat.beq n n=true:=agU n
namespace Tr
variable {α:Type}
def dec:Pa->Nat
 | .e=>0
 | .a p=>4*dec p+1
 | .b p=>4*dec p+2
 | .c p=>4*dec p+3
 | .d p=>4*dec p+4
theorem Ol:∀ (f n:Nat),n<f->dec (sr f n)=n
 | 0,n,h=>by omega
 | f+1,n,h=>by
  have ih:=fun k (hk:k<f)=>Ol f k hk
  rw[sr]
  by_cases h0:n=0
  ·subst h0;rfl
  ·have ah:(n-1) / 4<f:=by omega
   have JD:=ih _ ah
   rw[oa h0,cond_false]
   by_cases q0:(n-1) % 4=0
   ·rw[q0,sZ,cond_true,dec,JD];omega
   ·rw[oa q0,cond_false]
    by_cases q1:(n-1) % 4=1
    ·rw[q1,sZ,cond_true,dec,JD];omega
    ·rw[oa q1,cond_false]
     by_cases q2:(n-1) % 4=2
     ·rw[q2,sZ,cond_true,dec,JD];omega
     ·rw[oa q2,cond_false,dec,JD];omega
theorem arp {n m:Nat}(h:pathOf n=pathOf m):n=m:=by
 have h1:=Ol (n+1) n (aeX _)
 have h2:=Ol (m+1) m (aeX _)
 unfold pathOf at h
 rw[<-h1,<-h2,h]
theorem sW:∀ p:Pa,lF p (.nil:Tr α)=none
 | .e=>rfl
 | .a p=>sW p
 | .b p=>sW p
 | .c p=>sW p
 | .d p=>sW p
theorem get_nil (n:Nat):(.nil:Tr α).get n=none:=sW _
theorem al6:∀ (p q:Pa) (x:Option α) (t:Tr α),lF q (iq p x t)=if q=p then x else lF q t:=by
 intro p
 induction p with
 | e=>intro q x t;cases q<;>simp[lF,iq,val,c0,c1,c2,c3]
 | a p ih=>intro q x t;cases q<;>simp[lF,iq,val,c0,c1,c2,c3,ih]
 | b p ih=>intro q x t;cases q<;>simp[lF,iq,val,c0,c1,c2,c3,ih]
 | c p ih=>intro q x t;cases q<;>simp[lF,iq,val,c0,c1,c2,c3,ih]
 | d p ih=>intro q x t;cases q<;>simp[lF,iq,val,c0,c1,c2,c3,ih]
theorem fE (t:Tr α)(n m:Nat)(x:Option α):(iq (pathOf n) x t).get m=if m=n then x else t.get m:=by
 unfold get
 rw[al6]
 by_cases h:m=n
 ·subst h;simp
 ·rw[if_neg h,if_neg (fun q=>h (arp q))]
theorem Ls (t:Tr α):∀ (n:Nat) (x:α) (m:Nat),(t.get n).isSome=true->(t.fJ n x).get m=if m=n then some x else t.get m:=fun n x m _=>fE t n m (some x)
theorem Sd (t:Tr α):∀ (n m:Nat),(t.del n).get m=if m=n then none else t.get m:=fun n m=>fE t n m none
theorem Ij:∀ (f:Nat) (t:Tr α) (n:Nat) (x:α) (m:Nat),n+1<2 ^ f->(t.put f n x).get m=if m=n then some x else t.get m:=fun f t n x m _=>fE t n m (some x)
theorem xJ:∀ (l:List α) (t:Tr α) (n m:Nat),(t.dh n l).get m=if n<=m/\m<n+l.length then l[m-n]? else t.get m
 | [],t,n,m=>by
  rw[if_neg (by simp only[abY];omega)];rfl
 | x::l,t,n,m=>by
  rw[dh,xJ l,put,fE]
  by_cases h1:m=n
  ·subst h1
   rw[if_neg (by omega),if_pos rfl,if_pos (by simp)];simp
  ·by_cases h2:n+1<=m/\m<n+1+l.length
   ·rw[if_pos h2,if_pos (by simp;omega)]
    have:m-n=(m-(n+1))+1:=by omega
    rw[this,gk]
   ·rw[if_neg h2,if_neg h1,if_neg (by simp;omega)]
theorem D5 (t:Tr α):∀ (l:List α) (t:Tr α) (n m:Nat),n+l.length<17000000000->(t.dh n l).get m=if n<=m/\m<n+l.length then l[m-n]? else t.get m:=by
 intro l
 induction l with
 | nil=>intro t n m _;simp[dh];omega
 | cons x xs ih=>
  intro t n m h
  simp only[abn] at h
  rw[dh,ih _ _ _ (by omega),Ij _ _ _ _ _ (by omega)]
  by_cases h1:m=n
  ·subst h1
   rw[if_neg (by omega),if_pos rfl,if_pos (by simp)];simp
  ·by_cases h2:n+1<=m/\m<n+1+xs.length
   ·rw[if_pos h2,if_pos (by simp;omega)]
    have:m-n=(m-(n+1))+1:=by omega
    rw[this,gk]
   ·rw[if_neg h2,if_neg h1,if_neg (by simp;omega)]
end Tr
end
def iQ (e:Em)(es:List ME)(aq:List MapEntry):Prop:=
 aq.length=es.length/\∀ (i:Nat) (m:ME) (m':MapEntry),es[i]? = some m->aq[i]? = some m'->VR e m.key m'.key/\VR e m.val m'.val
inductive OR (e:Em) (i:Nat):AO->Obj->Prop
 | cells (c:Tr AV) (lo hi:Nat) (el:TypeId) (fl:Nat) (C:Array Value) (fz:Nat × Nat) (hn:C.size=e.n i)
   (hc:∀ (k:Nat) (v:AV),lo<=k->k<hi->c.get k=some v->∃ k':Nat,(k':Int)=k+e.d i/\∃ v',C[k']? = some v'/\VR e v v')
   (h0:fl=0->fz=(0,0)) (h1:fl<=1->∀ k,k<C.size->(decide (fz.1<=k)&&decide (k<fz.2))=false) (hd:lo=0->e.d i=0):OR e i (.cells c lo hi el fl) (.cells C el fz)
 | map (es:List ME) (c:Nat) (aq:Array MapEntry) (c':Nat) (fs:List MapEntry) (hp:fs.Perm aq.toList) (h:iQ e es fs) (hn:(fs.map (·.born)).Nodup) (hb:∀ x∈fs,x.born<c'):OR e i (.map es c) (.map aq c')
 | sA (s:List Nat) (pos:Nat) (s':ByteArray) (h:bytes s'=s) (hd:e.d i=0):OR e i (.sA s pos) (.stringIter s' pos)
 | Jr (a:Nat) (b:List Nat) (c:Nat) (a':Nat) (b':Array Nat) (c':Nat) (hd:e.d i=0):OR e i (.uT none a b c) (.mapIter none a' b' c')
 | uT (m a:Nat) (b:List Nat) (c:Nat) (a':Nat) (b':Array Nat) (c':Nat) (hm:m<e.N) (hd:e.d i=0):OR e i (.uT (some m) a b c) (.mapIter (some (e.b m)) a' b' c')
theorem iQ.mono {e e':Em}(h:e.le e'){es:List ME}{aq:List MapEntry}(k:iQ e es aq):iQ e' es aq:=
 ⟨k.1,fun i m m' hm oF=>let ⟨a,b⟩:=k.2 i m m' hm oF;⟨a.mono h,b.mono h⟩⟩
theorem OR.mono {e e':Em}(h:e.le e'){i:Nat}(hi:i<e.N){o:AO}{ob:Obj}(k:OR e i o ob):OR e' i o ob:=by
 obtain⟨x,y,z⟩:=h.2 i hi
 cases k with
 | cells c lo hi el fl C fz hn hc h0 h1 hd=>
  refine .cells c lo hi el fl C fz (hn.trans z.symm) ?_ h0 h1 (fun q=>by rw[y];exact hd q)
  intro k v a b hk
  obtain⟨k',lJ,v',cQ,hr⟩:=hc k v a b hk
  exact⟨k',by rw[y];exact lJ,v',cQ,hr.mono h⟩
 | map es c aq c' fs hp hm hn hb=>exact .map es c aq c' fs hp (hm.mono h) hn hb
 | sA s pos s' hs hd=>exact .sA s pos s' hs (y.trans hd)
 | Jr a b c a' b' c' hd=>exact .Jr a b c a' b' c' (y.trans hd)
 | uT m a b c a' b' c' hm hd=>
  obtain⟨x',_,_⟩:=h.2 m hm
  rw[<-x'];exact .uT m a b c a' b' c' (adi hm h.1) (y.trans hd)
def wr:AO->Bool
 | .cells _ _ _ _ fl=>Nat.ble fl 1
 | _=>true
structure RH (G:Nat)(F:Nat->Prop)(W:World)(e:Em)(H:Hp)(w:World):Prop where
 N:e.N=H.next
 obj:∀ i o,H.h.get i=some o->i<e.N/\∃ ob,w.heap[e.b i]? = some ob/\OR e i o ob/\(wr o=true\/e.n G<=e.b i->¬ F (e.b i))
 inj:∀ i j oi oj,H.h.get i=some oi->H.h.get j=some oj->(wr oi=true\/e.n G<=e.b i)->e.b i=e.b j->i=j
 nW:∀ g,g<G->g<e.N/\e.b g=g/\e.d g=0
 frame:∀ k,F k->k<w.heap.size/\w.heap[k]? = W.heap[k]?
 os:w.os=W.os
 tape:w.tape=W.tape
 output:w.output=W.output
 size:W.heap.size<=w.heap.size
 jy:G<=w.heap.size/\G<e.N/\e.n G<=w.heap.size
section
variable {G:Nat}{F:Nat->Prop}{W:World}{e:Em}{H:Hp}{w:World}
theorem RH.drawn (h:RH G F W e H w)(n:Nat):RH G F W e H { w with drawn:=n }:=⟨h.N,h.obj,h.inj,h.nW,h.frame,h.os,h.tape,h.output,h.size,h.jy⟩
theorem RH.QF (h:RH G F W e H w){F':Nat->Prop}{W':World}(hF:∀ k,F' k->k<w.heap.size/\w.heap[k]? = W'.heap[k]?)(hw:∀ i o,H.h.get i=some o->wr o=true\/e.n G<=e.b i->¬ F' (e.b i))
  (os:w.os=W'.os) (tape:w.tape=W'.tape) (output:w.output=W'.output) (size:W'.heap.size<=w.heap.size):RH G F' W' e H w:=
 ⟨h.N,fun i o ho=>let ⟨a,ob,b,c,_⟩:=h.obj i o ho;⟨a,ob,b,c,hw i o ho⟩,h.inj,h.nW,hF,os,tape,output,size,h.jy⟩
theorem M1 {i off:Nat}{v:AV}(h:cellAt H i off=some v):∃ c lo hi el fl,H.h.get i=some (.cells c lo hi el fl)/\lo<=off/\off<hi/\c.get off=some v:=by
 unfold cellAt at h
 split at h
 ·rename_i c lo hi el fl hg
  cases hb:(Nat.ble lo off&&Nat.blt off hi) with
  | false=>rw[hb] at h;cases h
  | true=>
   rw[hb] at h
   simp only[zf,ado,adn] at hb
   exact⟨c,lo,hi,el,fl,hg,hb.1,hb.2,h⟩
 ·cases h
theorem RH.load (h:RH G F W e H w){i off:Nat}{v:AV}(hc:cellAt H i off=some v):i<e.N/\∃ o:Nat,(o:Int)=off+e.d i/\∃ v',w.cell? ⟨e.b i,o,none⟩=some v'/\VR e v v':=by
 obtain⟨c,lo,hi,el,fl,hg,fG,gp,hv⟩:=M1 hc
 obtain⟨hN,ob,dP,dH,_⟩:=h.obj i _ hg
 cases dH with
 | cells _ _ _ _ _ C fz hn gi h0 h1 hd=>
  obtain⟨k',lJ,v',cQ,hr⟩:=gi off v fG gp hv
  exact⟨hN,k',lJ,v',by simp[World.cell?,dP,cQ],hr⟩
theorem RH.S5 (h:RH G F W e H w){i off o:Nat}{v:AV}(hc:cellAt H i off=some v)(ho:(o:Int)=off+e.d i):o<e.n i:=by
 obtain⟨c,lo,hi,el,fl,hg,fG,gp,hv⟩:=M1 hc
 obtain⟨hN,ob,dP,dH,_⟩:=h.obj i _ hg
 cases dH with
 | cells _ _ _ _ _ C fz hn gi h0 h1 hd=>
  obtain⟨k',lJ,v',cQ,hr⟩:=gi off v fG gp hv
  have:=(abM.1 cQ).1
  omega
theorem VR.Vg {v:AV}{v':Value}(h:VR e v v')(ho:db v=true):v'.oneCell'=true:=by
 cases h<;>first | rfl | (simp[db] at ho)
theorem aqv {i off:Nat}{v:AV}{H':Hp}(h:setCell H i off v=some H'):∃ c lo hi el fl,H.h.get i=some (.cells c lo hi el fl)/\lo<=off/\off<hi/\fl<=1/\(c.get off).isSome=true/\db v=true/\
  H'={ H with h:=H.h.fJ i (.cells (c.fJ off v) lo hi el fl) }:=by
 unfold setCell at h
 split at h
 ·rename_i c lo hi el fl hg
  cases hb:(Nat.ble lo off&&Nat.blt off hi&&Nat.ble fl 1&&(c.get off).isSome&&db v) with
  | false=>rw[hb] at h;cases h
  | true=>
   rw[hb] at h
   simp only[zf,ado,adn] at hb
   exact⟨c,lo,hi,el,fl,hg,hb.1.1.1.1,hb.1.1.1.2,hb.1.1.2,hb.1.2,hb.2,by simpa using h.symm⟩
 ·cases h
theorem Hy {α:Type}(a:Array α)(k:Nat)(f:α->α){x:α}(h:a[k]? = some x):(a.modify k f)[k]? = some (f x):=by
 rw[Array.getElem?_modify,if_pos rfl,h];rfl
theorem Gj {α:Type}(a:Array α)(k j:Nat)(f:α->α)(h:k≠j):(a.modify k f)[j]? = a[j]? := by
 rw[Array.getElem?_modify,if_neg h]
theorem RH.put (h:RH G F W e H w){i:Nat}{o o':AO}(hg:H.h.get i=some o)(hw:wr o=true){rp:Obj}{w':World}
  (dp:w'.heap.size=w.heap.size) (hb:w'.heap[e.b i]? = some rp) (cL:∀ k,k≠e.b i->w'.heap[k]? = w.heap[k]?)
  (dH:OR e i o' rp) (os:w'.os=w.os) (tape:w'.tape=w.tape) (output:w'.output=w.output):RH G F W e { H with h:=H.h.fJ i o' } w':=by
 obtain⟨hN,ob,dP,_,hF⟩:=h.obj i o hg
 have eF:∀ j,(H.h.fJ i o').get j=if j=i then some o' else H.h.get j:=fun j=>Tr.Ls _ _ _ _ (by rw[hg];rfl)
 have agK:∀ j oj,(H.h.fJ i o').get j=some oj->∃ oI,H.h.get j=some oI:=by
  intro j oj hj
  rw[eF] at hj
  by_cases e:j=i
  ·exact⟨o,by rw[e];exact hg⟩
  ·rw[if_neg e] at hj;exact⟨oj,hj⟩
 refine⟨h.N,?_,?_,h.nW,?_,os.trans h.os,tape.trans h.tape,output.trans h.output,by rw[dp];exact h.size,by rw[dp];exact h.jy⟩
 ·intro j oj hj
  have Xp:=hj
  rw[eF] at hj
  by_cases ej:j=i
  ·subst ej
   rw[if_pos rfl] at hj
   cases hj
   exact⟨hN,rp,hb,dH,fun _=>hF (.inl hw)⟩
  ·rw[if_neg ej] at hj
   obtain⟨a,nH,b2,c2,d2⟩:=h.obj j oj hj
   refine⟨a,nH,?_,c2,d2⟩
   rw[cL _ (fun e2=>ej (h.inj i j o oj hg hj (.inl hw) e2.symm).symm)]
   exact b2
 ·intro j k oj ok hj hk hq he
  obtain⟨Wu,lJ⟩:=agK k ok hk
  by_cases ej:j=i
  ·subst ej
   exact h.inj j k o Wu hg lJ (.inl hw) he
  ·rw[eF,if_neg ej] at hj
   exact h.inj j k oj Wu hj lJ hq he
 ·intro k hk
  obtain⟨a,b⟩:=h.frame k hk
  refine⟨by rw[dp];exact a,?_⟩
  rw[cL k (fun e2=>hF (.inl hw) (e2▸hk))]
  exact b
theorem RH.store (h:RH G F W e H w){i off:Nat}{v:AV}{v':Value}{H':Hp}(hs:setCell H i off v=some H')(hv:VR e v v') :
  i<e.N/\∃ o:Nat,(o:Int)=off+e.d i/\(w.cell? ⟨e.b i,o,none⟩).isSome=true/\w.frozen? ⟨e.b i,o,none⟩=false/\v'.oneCell'=true/\RH G F W e H' (w.setCell ⟨e.b i,o,none⟩ v'):=by
 obtain⟨c,lo,hi,el,fl,hg,fG,gp,sH,Y1,h1c,rfl⟩:=aqv hs
 obtain⟨hN,ob,dP,dH,hF⟩:=h.obj i _ hg
 obtain⟨v0,XK⟩:=aeY.1 Y1
 cases dH with
 | cells _ _ _ _ _ C fz hn gi h0 h1 hd=>
  obtain⟨k',lJ,v0',ach,hr⟩:=gi off v0 fG gp XK
  have jm:k'<C.size:=(abM.1 ach).1
  refine⟨hN,k',lJ,by simp[World.cell?,dP,ach],?_,hv.Vg h1c,?_⟩
  ·have:=h1 sH k' jm
   simp only[World.frozen?,dP]
   exact this
  ·refine h.put hg (by simp[wr,sH]) (rp := .cells (C.setIfInBounds k' v') el fz) ?_ ?_ ?_ ?_ rfl rfl rfl
   ·simp[World.setCell]
   ·simp only[World.setCell]
    rw[Hy _ _ _ dP]
    rfl
   ·intro k hk
    simp only[World.setCell]
    rw[Gj _ _ _ _ (fun e=>hk e.symm)]
   ·refine .cells _ lo hi el fl _ fz (by simpa using hn) ?_ h0 (by simpa using h1) hd
    intro k u a b hk
    rw[Tr.Ls _ _ _ _ Y1] at hk
    by_cases ek:k=off
    ·subst ek
     rw[if_pos rfl] at hk
     cases hk
     exact⟨k',lJ,v',by simp[jm],hv⟩
    ·rw[if_neg ek] at hk
     obtain⟨k2,yU,u',jE,eg⟩:=gi k u a b hk
     refine⟨k2,yU,u',?_,eg⟩
     rw[aft (by omega)]
     exact jE
def Em.ext (e:Em)(b:Nat)(d:Int)(n:Nat):Em:=
 { b:=fun i=>if i=e.N then b else e.b i,d:=fun i=>if i=e.N then d else e.d i,n:=fun i=>if i=e.N then n else e.n i,N:=e.N+1 }
theorem Em.nf (e:Em)(b:Nat)(d:Int)(n:Nat):e.le (e.ext b d n):=
 ⟨Nat.le_succ _,fun i hi=>by
  have:¬ i=e.N:=by omega
  simp[Em.ext,this]⟩
theorem Em.jL (e:Em)(b:Nat)(d:Int)(n:Nat):(e.ext b d n).b e.N=b:=by simp[Em.ext]
theorem Em.jN (e:Em)(b:Nat)(d:Int)(n:Nat):(e.ext b d n).d e.N=d:=by simp[Em.ext]
theorem Em.qt (e:Em)(b:Nat)(d:Int)(n:Nat):(e.ext b d n).n e.N=n:=by simp[Em.ext]
theorem qz {o:AO}{i:Nat}{H':Hp}(h:alloc H o=some (i,H')):i=H.next/\True/\H'=⟨H.h.put 34 H.next o,H.next+1⟩:=by
 unfold alloc at h
 simp only[acS,abT] at h
 exact⟨h.1.symm,trivial,h.2.symm⟩
theorem RH.alloc (h:RH G F W e H w){o:AO}{i:Nat}{H':Hp}(ha:Am.alloc H o=some (i,H')){ob:Obj}{d:Int}{n:Nat}
  (dH:OR (e.ext w.heap.size d n) i o ob):i=e.N/\RH G F W (e.ext w.heap.size d n) H' { w with heap:=w.heap.push ob }:=by
 obtain⟨rfl,ah,rfl⟩:=qz ha
 have hN:=h.N
 have eF:∀ j,(H.h.put 34 H.next o).get j=if j=H.next then some o else H.h.get j:=fun j=>Tr.fE _ _ _ _
 have hle:=Em.nf e w.heap.size d n
 have old:∀ j oj,H.h.get j=some oj->(e.ext w.heap.size d n).b j=e.b j/\e.b j<w.heap.size:=by
  intro j oj hj
  obtain⟨a,nH,b2,_,_⟩:=h.obj j oj hj
  exact⟨(hle.2 j a).1,(abM.1 b2).1⟩
 refine⟨hN.symm,?_,?_,?_,?_,?_,h.os,h.tape,h.output,by simp;have:=h.size;omega,by obtain⟨g1,g2,g3⟩:=h.jy;rw[(hle.2 G g2).2.2];simp[Em.ext];omega⟩
 ·simp[Em.ext,hN]
 ·intro j oj hj
  simp only at hj
  rw[eF] at hj
  by_cases ej:j=H.next
  ·subst ej
   rw[if_pos rfl] at hj
   cases hj
   refine⟨by simp[Em.ext,hN],ob,?_,dH,?_⟩
   ·rw[<-hN,Em.jL];simp
   ·intro _ hF
    rw[<-hN,Em.jL] at hF
    have:=(h.frame _ hF).1
    omega
  ·rw[if_neg ej] at hj
   obtain⟨a,nH,b2,c2,d2⟩:=h.obj j oj hj
   obtain⟨q,r⟩:=old j oj hj
   refine⟨by simp[Em.ext];omega,nH,?_,c2.mono hle a,?_⟩
   ·rw[q,aho,if_neg (by omega)];exact b2
   ·intro hw;rw[q,(hle.2 G h.jy.2.1).2.2] at hw;rw[q];exact d2 hw
 ·intro j k oj ok hj hk hq he
  simp only at hj hk
  rw[eF] at hj hk
  by_cases ej:j=H.next<;>by_cases ek:k=H.next
  ·omega
  ·rw[if_neg ek] at hk
   obtain⟨q,r⟩:=old k ok hk
   rw[q,ej,<-hN,Em.jL] at he
   omega
  ·rw[if_neg ej] at hj
   obtain⟨q,r⟩:=old j oj hj
   rw[q,ek,<-hN,Em.jL] at he
   omega
  ·rw[if_neg ej] at hj
   rw[if_neg ek] at hk
   rw[(old j oj hj).1,(hle.2 G h.jy.2.1).2.2] at hq
   rw[(old j oj hj).1,(old k ok hk).1] at he
   exact h.inj j k oj ok hj hk hq he
 ·intro g hg
  obtain⟨a,b,c⟩:=h.nW g hg
  obtain⟨x,y,_⟩:=hle.2 g a
  exact⟨by simp[Em.ext];omega,x.trans b,y.trans c⟩
 ·intro k hk
  obtain⟨a,b⟩:=h.frame k hk
  refine⟨by simp;omega,?_⟩
  simp only
  rw[aho,if_neg (by omega)]
  exact b
end
end
section
variable {P:Program}{G:Nat}{F:Nat->Prop}{W:World}{e:Em}{H:Hp}{w:World}
theorem au {t:TypeId}{d:TypeDesc}(h:P.underlying t=some d)(w:World):(underlying t).run P w = .ok d w:=by
 simp[underlying,h]
theorem pT {t:TypeId}{i:TypeInfo}(h:P.info? t=some i)(w:World):(typeInfo t).run P w = .ok i w:=by
 simp[typeInfo,h]
theorem gT {t:TypeId}{n:Nat}(h:sz P t=some n)(w:World):(sizeOf t).run P w = .ok n w:=by
 unfold sz at h
 cases hi:P.info? t with
 | none=>simp[hi] at h
 | some i=>
  simp only[hi,ahk,acS] at h
  simp[sizeOf,typeInfo,hi,h]
theorem KR {t:TypeId}{b:Bool}(h:xe P t=some b)(w:World):(isAgg t).run P w = .ok b w:=by
 unfold xe at h
 cases hu:P.underlying t with
 | none=>simp[hu] at h
 | some d=>
  simp only[hu,ahk,acS] at h
  simp only[isAgg,Sem.run_bind,au hu,Result.andThen_ok]
  subst h
  cases d<;>rfl
theorem RH.AT (h:RH G F W e H w){i:Nat}:∀ {n off:Nat} {l:List AV} {o:Nat},dQ H i off n=some l->(o:Int)=off+e.d i->
  ∃ cs:List Value,az e l cs/\cs.length=n/\∀ j v,cs[j]? = some v->w.cell? ⟨e.b i,o+j,none⟩=some v:=by
 intro n
 induction n with
 | zero=>
  intro off l o hc ho
  simp only[dQ,acS] at hc
  subst hc
  exact⟨[],.nil e,rfl,by simp⟩
 | succ n ih=>
  intro off l o hc ho
  simp only[dQ,acT,Option.pure_def,aa6,acS] at hc
  obtain⟨v,hv,r,hr,rfl⟩:=hc
  obtain⟨_,o',fh,v',cQ,gu⟩:=h.load hv
  have:o'=o:=by omega
  subst this
  obtain⟨cs,h1,h2,h3⟩:=ih (o:=o'+1) hr (by omega)
  refine⟨v'::cs,.cons gu h1,by simp[h2],fun j u hj => ?_⟩
  cases j with
  | zero=>simp at hj;subst hj;exact cQ
  | succ j=>have:=h3 j u (by simpa using hj);rw[show o'+(j+1)=o'+1+j by omega];exact this
theorem RH.Kt:∀ {l:List AV} {cs:List Value} {H H':Hp} {w:World} {i off k:Nat} {o:Nat},RH G F W e H w->setCells H i (off+k) l=some H'->az e l cs->(o:Int)=off+e.d i->
  ∃ w',(storeCells ⟨e.b i,o,none⟩ cs k).run P w = .ok () w'/\RH G F W e H' w':=by
 intro l
 induction l with
 | nil=>
  intro cs H H' w i off k o h hs hl ho
  simp only[setCells,acS] at hs
  subst hs
  rw[hl.iW]
  exact⟨w,by simp[storeCells],h⟩
 | cons v l ih=>
  intro cs H H' w i off k o h hs hl ho
  simp only[setCells,acT,aa6] at hs
  obtain⟨H1,h1,h2⟩:=hs
  obtain⟨v',ws,rfl,hv,sD⟩:=hl.cons_inv
  obtain⟨_,o',fh,c1,c2,c3,hr⟩:=h.store h1 hv
  have:o'=o+k:=by omega
  subst this
  obtain⟨w',yc,eg⟩:=ih (off:=off) (k:=k+1) hr h2 sD ho
  refine⟨w',?_,eg⟩
  obtain⟨u,hu⟩:=aeY.1 c1
  have ha:(Addr.add ⟨e.b i,o,none⟩ k)=⟨e.b i,o+k,none⟩:=by
   unfold Addr.add;split
   ·rename_i h0;subst h0;rfl
   ·rfl
  simp only[storeCells,Sem.run_bind,ha,run_store P w _ _ _ c3,hu,c2,abZ,if_false,Result.andThen_ok]
  exact yc
theorem VR.cells {v:AV}{v':Value}{l:List AV}(h:VR e v v')(hc:jX v=some l):az e l v'.cells.toList:=by
 cases h<;>simp only[jX,acS,reduceCtorEq] at hc<;>subst hc<;>first | (exact⟨by assumption,by assumption⟩) | (simp only[Value.cells];exact .cons (by constructor<;>assumption) (.nil _))
theorem add_lit (b o k:Nat):Addr.add ⟨b,o,none⟩ k=⟨b,o+k,none⟩:=by
 unfold Addr.add;split
 ·rename_i h0;subst h0;rfl
 ·rfl
theorem VR.pA {i off:Nat}{v':Value}(h:VR e (.ptr i off) v'):∃ o:Nat,i<e.N/\(o:Int)=off+e.d i/\v' = .pointer (some ⟨e.b i,o,none⟩):=by
 cases h with
 | ptr _ _ o hi ho=>exact⟨o,hi,ho,rfl⟩
theorem VR.gQ {k:IntKind}{n:Int}{v':Value}(h:VR e (.int k n) v'):v' = .int k n:=by cases h;rfl
theorem VR.uU {b:Bool}{v':Value}(h:VR e (.bool b) v'):v' = .bool b:=by cases h;rfl
theorem VR.lj {s:List Nat}{v':Value}(h:VR e (.str s) v'):∃ b,s=bytes b/\v' = .string b:=by
 cases h with
 | str b=>exact⟨b,rfl,rfl⟩
theorem VR.vL {l:List AV}{v':Value}(h:VR e (.agg l) v'):∃ vs:Array Value,v' = .agg vs/\az e l vs.toList:=by
 cases h with
 | agg _ vs hl h=>exact⟨vs,rfl,hl,h⟩
theorem VR.Zd {l:List AV}{v':Value}(h:VR e (.tuple l) v'):∃ vs:Array Value,v' = .tuple vs/\az e l vs.toList:=by
 cases h with
 | tuple _ vs hl h=>exact⟨vs,rfl,hl,h⟩
theorem VR.EF {i:Nat}{v':Value}(h:VR e (.map i) v'):i<e.N/\v' = .map (some (e.b i)):=by
 cases h with
 | map _ hi=>exact⟨hi,rfl⟩
theorem VR.lM {i off len cap:Nat}{ex:Bool}{es:Nat}{v':Value}(h:VR e (.slice i off len cap ex es) v') :
  (∃ o c:Nat,i<e.N/\(o:Int)=off+e.d i/\len<=c/\cap<=c/\(ex=true->c=cap)/\o+c*es<=e.n i/\v' = .slice (some ⟨e.b i,o,none⟩) len c)\/
  (len=0/\cap=0/\∃ a,v' = .slice (some a) 0 0):=by
 cases h with
 | slice _ _ _ _ _ _ o c hi ho hl hc hx hn=>exact .inl ⟨o,c,hi,ho,hl,hc,hx,hn,rfl⟩
 | yt _ _ _ _ a=>exact .inr ⟨rfl,rfl,a,rfl⟩
theorem Ve (h:RH G F W e H w){t:TypeId}{a v:AV}{a':Value}(ha:VR e a a')(hl:sO P H t a=some v) :
  ∃ v',(Instr.loadAt t a').run P w = .ok v' w/\VR e v v':=by
 unfold sO at hl
 split at hl
 ·rename_i i off
  simp only[acT,aa6] at hl
  obtain⟨b,hb,hl⟩:=hl
  obtain⟨o,hi,ho,rfl⟩:=ha.pA
  cases b with
  | true=>
   simp only[if_true,Option.pure_def,aa6,acS] at hl
   obtain⟨n,hn,l,hl,rfl⟩:=hl
   obtain⟨cs,h1,h2,h3⟩:=h.AT hl ho
   refine⟨.agg cs.toArray,?_,.UM h1⟩
   have:=run_loadCells_list (P:=P) w ⟨e.b i,o,none⟩ cs (fun j v hj=>by rw[add_lit];exact h3 j v hj)
   rw[h2] at this
   simp[Instr.loadAt,Instr.sureAddr,loadVar,KR hb,gT hn,this]
  | false=>
   simp only[abZ,if_false] at hl
   obtain⟨_,o',fh,v',cQ,hr⟩:=h.load hl
   have:o'=o:=by omega
   subst this
   exact⟨v',by simp[Instr.loadAt,Instr.sureAddr,loadVar,KR hb,cQ],hr⟩
 ·cases hl
theorem aeb (h:RH G F W e H w){t:TypeId}{a v:AV}{a' v':Value}{H':Hp}(ha:VR e a a')(hv:VR e v v')(hs:FB P H t a v=some H') :
  ∃ w',(Instr.storeAt t a' v').run P w = .ok () w'/\RH G F W e H' w':=by
 unfold FB at hs
 split at hs
 ·rename_i i off
  simp only[acT,aa6] at hs
  obtain⟨cs,fC,n,hn,hs⟩:=hs
  obtain⟨o,hi,ho,rfl⟩:=ha.pA
  split at hs
  ·rename_i hlen
   have hl:=hv.cells fC
   obtain⟨w',yc,hr⟩:=RH.Kt (P:=P) (off:=off) (k:=0) h hs hl ho
   refine⟨w',?_,hr⟩
   have dp:v'.cells.size=n:=by
    have:=hl.1
    simp at this hlen
    omega
   simp[Instr.storeAt,Instr.sureAddr,storeVar,gT hn,dp,yc]
  ·cases hs
 ·cases hs
theorem El {l:List AV}{el:TypeId}{fl i:Nat}{H':Hp}(h:cI H l el fl=some (i,H')) :
  l.length<=16777216/\Am.alloc H (.cells (Tr.dh .nil 0 l) 0 l.length el fl)=some (i,H'):=by
 unfold cI at h
 cases hb:Nat.ble l.length 16777216 with
 | false=>rw[hb] at h;cases h
 | true=>rw[hb] at h;exact⟨by simpa using hb,h⟩
theorem RH.newRow (h:RH G F W e H w){l:List AV}{cs rest:List Value}{el:TypeId}{fl i:Nat}{H':Hp}{fz:Nat × Nat}(hn:cI H l el fl=some (i,H'))(hl:az e l cs)
  (h0:fl=0->fz=(0,0)) (h1:fl<=1->∀ k,k<(cs++rest).length->(decide (fz.1<=k)&&decide (k<fz.2))=false) :
  ∃ e',e.le e'/\i<e'.N/\e'.b i=w.heap.size/\e'.d i=0/\e'.n i=(cs++rest).length/\RH G F W e' H' { w with heap:=w.heap.push (.cells (cs++rest).toArray el fz) }:=by
 obtain⟨hlen,ha⟩:=El hn
 have hle:=Em.nf e w.heap.size 0 (cs++rest).length
 have dH:OR (e.ext w.heap.size 0 (cs++rest).length) i (.cells (Tr.dh .nil 0 l) 0 l.length el fl) (.cells (cs++rest).toArray el fz):=by
  have hi:=(qz ha).1
  have gS:i=e.N:=hi.trans h.N.symm
  subst gS
  refine .cells _ _ _ _ _ _ fz (by simp[Em.qt]) ?_ h0 (by simpa using h1) (fun _=>Em.jN ..)
  intro k v _ hk hg
  rw[Tr.D5 .nil _ _ _ _ (by omega)] at hg
  rw[if_pos ⟨by omega,by omega⟩,ae9] at hg
  obtain⟨v',cQ,hr⟩:=hl.get hg
  refine⟨k,by rw[Em.jN];omega,v',?_,hr.mono hle⟩
  have:k<cs.length:=(abf.1 cQ).1
  simp only[ad0]
  rw[abU this]
  exact cQ
 obtain⟨hi,hr⟩:=h.alloc ha dH
 subst hi
 exact⟨_,hle,by simp[Em.ext],Em.jL ..,Em.jN ..,Em.qt ..,hr⟩
end
end Go.Proofs.YtehhgkgeldinkaaGreatDoor.Am
