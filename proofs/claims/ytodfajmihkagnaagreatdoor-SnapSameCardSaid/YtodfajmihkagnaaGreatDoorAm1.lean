/- Laws that the proof uses. -/
import GoSem.Dispatch
import Derived.Orders
import Derived.Laws.Cells
import Derived.Below
import Derived.Laws.Strings
import Derived.Laws.BytesString
import Derived.Lib.UnsafeStr
import Derived.IntWalk
import Derived.Laws.Externs
import Derived.Lib.Bytealg
set_option linter.unusedVariables false
set_option linter.unusedSimpArgs false
namespace Go.Proofs.YtodfajmihkagnaaGreatDoor
theorem zzz{p:Prop}(h:p:=by omega):p:=h
theorem zzy{p:Prop}(h:p:=by simp):p:=h
theorem zzx{p:Prop}(h:p:=by decide):p:=h
theorem zzw{p:Prop}(h:p:=by kernel_rfl):p:=h
theorem zzv{p:Prop}(h:p:=by rfl):p:=h
theorem zz1:type_of%@if_neg:=@if_neg
theorem zz2:type_of%@if_pos:=@if_pos
theorem zz3:type_of%@decide_eq_true:=@decide_eq_true
theorem zz4:type_of%@decide_eq_false:=@decide_eq_false
theorem zz5:type_of%@decide_eq_true_eq:=@decide_eq_true_eq
theorem zz6:type_of%@beq_iff_eq:=@beq_iff_eq
theorem zz7:type_of%@beq_false_of_ne:=@beq_false_of_ne
theorem zz8:type_of%@beq_eq_false_iff_ne:=@beq_eq_false_iff_ne
theorem zz9:type_of%@of_decide_eq_true:=@of_decide_eq_true
end Go.Proofs.YtodfajmihkagnaaGreatDoor
namespace Go.Proofs.YtodfajmihkagnaaGreatDoor
open Go
theorem No:type_of%@List.mem_singleton:=@List.mem_singleton
theorem aab:type_of%@List.mem_of_getElem?:=@List.mem_of_getElem?
theorem aac:type_of%@List.getElem?_eq_some_iff:=@List.getElem?_eq_some_iff
theorem aag:type_of%@Option.map_eq_some_iff:=@Option.map_eq_some_iff
theorem aah:type_of%@List.length_append:=@List.length_append
theorem aai:type_of%@List.getElem?_eq_getElem:=@List.getElem?_eq_getElem
theorem aal:type_of%@List.mem_cons:=@List.mem_cons
theorem aam:type_of%@Bool.and_eq_true:=@Bool.and_eq_true
theorem aaq:type_of%@Nat.le_refl:=@Nat.le_refl
theorem aau:type_of%@List.length_cons:=@List.length_cons
theorem aaw:type_of%@List.mem_append_right:=@List.mem_append_right
theorem aaC:type_of%@Option.bind_eq_some_iff:=@Option.bind_eq_some_iff
theorem aaG:type_of%@List.mem_append_left:=@List.mem_append_left
theorem aaM:type_of%@List.drop_zero:=@List.drop_zero
theorem aaQ:type_of%@List.mem_append:=@List.mem_append
theorem aaY:type_of%@Nat.eq_of_beq_eq_true:=@Nat.eq_of_beq_eq_true
theorem aa4:type_of%@Bool.false_eq_true:=@Bool.false_eq_true
theorem abg:type_of%@Nat.zero_le:=@Nat.zero_le
theorem abi:type_of%@List.getElem?_append_left:=@List.getElem?_append_left
theorem abk:type_of%@Eq.trans:=@Eq.trans
theorem abm:type_of%@List.getElem?_append_right:=@List.getElem?_append_right
theorem abo:type_of%@List.map_cons:=@List.map_cons
theorem abC:type_of%@List.append_assoc:=@List.append_assoc
theorem abF:type_of%@List.length_map:=@List.length_map
theorem abN:type_of%@List.mem_map:=@List.mem_map
theorem abO:type_of%@Int.toNat_natCast:=@Int.toNat_natCast
theorem abW:type_of%@Array.getElem?_eq_some_iff:=@Array.getElem?_eq_some_iff
theorem abX:type_of%@Prod.mk.injEq:=@Prod.mk.injEq
theorem abY:type_of%@Option.bind_eq_bind:=@Option.bind_eq_bind
theorem ab0:type_of%@Option.some.inj:=@Option.some.inj
theorem ab2:type_of%@List.getElem?_of_mem:=@List.getElem?_of_mem
theorem acd:type_of%@List.getElem?_map:=@List.getElem?_map
theorem acf:type_of%@Option.bind_some:=@Option.bind_some
theorem acj:type_of%@List.length_nil:=@List.length_nil
theorem acn:type_of%@Bool.false_and:=@Bool.false_and
theorem acy:type_of%@Bool.true_and:=@Bool.true_and
theorem acM:type_of%@Option.some.injEq:=@Option.some.injEq
theorem acZ:type_of%@List.map_append:=@List.map_append
theorem ac2:type_of%@Nat.lt_of_lt_of_le:=@Nat.lt_of_lt_of_le
theorem ac4:type_of%@List.append_nil:=@List.append_nil
theorem adb:type_of%@List.getElem?_cons_succ:=@List.getElem?_cons_succ
theorem adf:type_of%@List.getElem?_zipWith:=@List.getElem?_zipWith
theorem adi:type_of%@List.length_set:=@List.length_set
theorem adn:type_of%@Nat.zero_add:=@Nat.zero_add
theorem adp:type_of%@List.getElem?_cons_zero:=@List.getElem?_cons_zero
theorem adP:type_of%@List.all_eq_true:=@List.all_eq_true
theorem adS:type_of%@Nat.mul_le_mul_right:=@Nat.mul_le_mul_right
theorem adT:type_of%@List.mem_or_eq_of_mem_set:=@List.mem_or_eq_of_mem_set
theorem adV:type_of%@Nat.mul_one:=@Nat.mul_one
theorem ad9:type_of%@List.length_take:=@List.length_take
theorem aee:type_of%@Array.toList_inj:=@Array.toList_inj
theorem aeg:type_of%@Nat.blt_eq:=@Nat.blt_eq
theorem ael:type_of%@Option.map_some:=@Option.map_some
theorem aeq:type_of%@Array.getElem?_toList:=@Array.getElem?_toList
theorem aet:type_of%@List.nodup_append:=@List.nodup_append
theorem aey:type_of%@List.length_zipWith:=@List.length_zipWith
theorem aeA:type_of%@Nat.add_zero:=@Nat.add_zero
theorem aeE:type_of%@Nat.add_sub_cancel_left:=@Nat.add_sub_cancel_left
theorem aeF:type_of%@Nat.ble_eq:=@Nat.ble_eq
theorem aeG:type_of%@List.length_drop:=@List.length_drop
theorem aeK:type_of%@List.getElem?_toArray:=@List.getElem?_toArray
theorem aeT:type_of%@Array.getElem?_setIfInBounds_ne:=@Array.getElem?_setIfInBounds_ne
theorem ae0:type_of%@List.getElem?_set_self:=@List.getElem?_set_self
theorem ae2:type_of%@List.take_of_length_le:=@List.take_of_length_le
theorem ae8:type_of%@List.mem_flatMap:=@List.mem_flatMap
theorem afc:type_of%@List.length_replicate:=@List.length_replicate
theorem afi:type_of%@Nat.le_trans:=@Nat.le_trans
theorem afj:type_of%@Int.cast_ofNat_Int:=@Int.cast_ofNat_Int
theorem afB:type_of%@Nat.add_mul:=@Nat.add_mul
theorem afG:type_of%@Array.getD_eq_getD_getElem?:=@Array.getD_eq_getD_getElem?
theorem afJ:type_of%@Int.toNat_of_nonneg:=@Int.toNat_of_nonneg
theorem afK:type_of%@Option.getD_some:=@Option.getD_some
theorem afV:type_of%@List.nil_append:=@List.nil_append
theorem afX:type_of%@List.getElem?_drop:=@List.getElem?_drop
theorem af0:type_of%@Option.isSome_none:=@Option.isSome_none
theorem agd:type_of%@Option.isSome_some:=@Option.isSome_some
theorem agw:type_of%@Array.getElem?_eq_getElem:=@Array.getElem?_eq_getElem
theorem agD:type_of%@Nat.le_succ:=@Nat.le_succ
theorem agF:type_of%@List.flatten_cons:=@List.flatten_cons
theorem agL:type_of%@Array.getElem?_setIfInBounds_self_of_lt:=@Array.getElem?_setIfInBounds_self_of_lt
theorem agM:type_of%@List.getElem?_eq_none:=@List.getElem?_eq_none
theorem agN:type_of%@Nat.sub_zero:=@Nat.sub_zero
theorem agZ:type_of%@List.getElem?_set:=@List.getElem?_set
theorem ahp:type_of%@Bool.or_eq_false_iff:=@Bool.or_eq_false_iff
theorem ahD:type_of%@Nat.zero_mul:=@Nat.zero_mul
theorem ahL:type_of%@Nat.lt_succ_self:=@Nat.lt_succ_self
theorem ahP:type_of%@Bool.not_eq_true:=@Bool.not_eq_true
theorem ahT:type_of%@Nat.mod_eq_of_lt:=@Nat.mod_eq_of_lt
theorem ah8:type_of%@List.mem_flatten:=@List.mem_flatten
theorem aij:type_of%@List.getD_eq_getElem?_getD:=@List.getD_eq_getElem?_getD
theorem aiw:type_of%@Nat.beq_refl:=@Nat.beq_refl
theorem aiy:type_of%@List.drop_eq_getElem_cons:=@List.drop_eq_getElem_cons
theorem aiA:type_of%@List.drop_eq_nil_of_le:=@List.drop_eq_nil_of_le
theorem aiJ:type_of%@Bool.or_eq_true:=@Bool.or_eq_true
theorem aiM:type_of%@List.length_zip:=@List.length_zip
theorem aiN:type_of%@Option.isSome_iff_exists:=@Option.isSome_iff_exists
theorem aiO:type_of%@List.map_nil:=@List.map_nil
theorem aiP:type_of%@List.take_append_drop:=@List.take_append_drop
theorem ai6:type_of%@List.take_add_one:=@List.take_add_one
theorem ai8:type_of%@Decidable.not_not:=@Decidable.not_not
theorem ajg:type_of%@List.getElem?_take:=@List.getElem?_take
theorem aji:type_of%@List.getElem?_set_ne:=@List.getElem?_set_ne
theorem ajA:type_of%@Nat.sub_self:=@Nat.sub_self
theorem ajD:type_of%@List.nodup_cons:=@List.nodup_cons
theorem ajN:type_of%@Nat.min_self:=@Nat.min_self
theorem ajP:type_of%@List.findIdx?_cons:=@List.findIdx?_cons
theorem ajR:type_of%@Nat.one_mul:=@Nat.one_mul
theorem ajX:type_of%@List.mem_nil_iff:=@List.mem_nil_iff
theorem aj8:type_of%@List.ext_getElem?:=@List.ext_getElem?
theorem akd:type_of%@List.take_zero:=@List.take_zero
theorem akk:type_of%@Bool.not_eq_true':=@Bool.not_eq_true'
theorem aky:type_of%@List.any_eq_false:=@List.any_eq_false
theorem akW:type_of%@List.pairwise_iff_getElem:=@List.pairwise_iff_getElem
theorem ak2:type_of%@Bool.not_eq_false':=@Bool.not_eq_false'
theorem ak3:type_of%@Nat.add_assoc:=@Nat.add_assoc
theorem ak4:type_of%@Array.getElem?_push:=@Array.getElem?_push
theorem alb:type_of%@Array.length_toList:=@Array.length_toList
theorem alq:type_of%@List.all_cons:=@List.all_cons
theorem alv:type_of%@Bool.not_true:=@Bool.not_true
theorem alx:type_of%@BitVec.toNat_ofInt:=@BitVec.toNat_ofInt
theorem alB:type_of%@List.getElem?_zip_eq_some:=@List.getElem?_zip_eq_some
theorem alD:type_of%@Nat.lt_or_ge:=@Nat.lt_or_ge
theorem alI:type_of%@List.eq_nil_of_length_eq_zero:=@List.eq_nil_of_length_eq_zero
theorem alR:type_of%@List.getElem?_replicate:=@List.getElem?_replicate
theorem alV:type_of%@List.map_congr_left:=@List.map_congr_left
theorem al4:type_of%@List.flatMap_append:=@List.flatMap_append
theorem al6:type_of%@Bool.not_false:=@Bool.not_false
theorem ama:type_of%@Nat.mod_lt:=@Nat.mod_lt
theorem amb:type_of%@List.map_map:=@List.map_map
theorem aml:type_of%@List.zip_cons_cons:=@List.zip_cons_cons
theorem amw:type_of%@Nat.le_of_lt:=@Nat.le_of_lt
theorem amM:type_of%@Nat.min_eq_left:=@Nat.min_eq_left
theorem amY:type_of%@List.set_append_right:=@List.set_append_right
theorem am6:type_of%@Bool.eq_iff_iff:=@Bool.eq_iff_iff
theorem am8:type_of%@List.of_mem_zip:=@List.of_mem_zip
theorem ank:type_of%@Bool.false_or:=@Bool.false_or
theorem anm:type_of%@List.mem_range:=@List.mem_range
theorem anq:type_of%@List.nodup_nil:=@List.nodup_nil
theorem anE:type_of%@List.range'_succ:=@List.range'_succ
theorem anH:type_of%@Nat.mul_comm:=@Nat.mul_comm
theorem anP:type_of%@List.perm_middle:=@List.perm_middle
theorem an3:type_of%@List.countP_cons:=@List.countP_cons
theorem aoj:type_of%@Nat.min_le_right:=@Nat.min_le_right
theorem zqz{p:Prop}(h:p:=by first|assumption|omega|(simp only[ag,af,simprocAttr];done)|(simp only[af];omega)|(simp only[ag,af,simprocAttr, *];done)|fail):p:=h
theorem zqq{p:Prop}(h:p:=by (first|assumption|omega|(simp only[ag,af,Nat.reduceAdd,Nat.reduceLeDiff,Nat.reduceLT]<;>fail)|(simp only[af];omega)|(simp only[ag,af,Nat.reduceAdd,Nat.reduceLeDiff,Nat.reduceLT, *]<;>fail)|fail)):p:=h
end Go.Proofs.YtodfajmihkagnaaGreatDoor
namespace Go.Proofs.YtodfajmihkagnaaGreatDoor.Am
section
section
section
section
inductive Pa where
 |e
 |a (p:Pa)
 |b (p:Pa)
 |c (p:Pa)
 |d (p:Pa)
 deriving DecidableEq
def Fk:Nat->Nat->Pa
 |0,_=>.e|f+1,n=>bif Nat.beq n 0 then .e else bif Nat.beq ((n-1)%4) 0 then .a (Fk f ((n-1) / 4)) else bif Nat.beq ((n-1)%4) 1 then .b (Fk f ((n-1) / 4)) else bif Nat.beq ((n-1)%4) 2 then .c (Fk f ((n-1) / 4)) else .d (Fk f ((n-1) / 4))
def pathOf (n:Nat):Pa:=Fk (n+1) n
inductive Tr (α:Type) where
 |nil
 |node (v:Option α) (k0 k1 k2 k3:Tr α)
namespace Tr
variable {α:Type}
def val:Tr α->Option α
 |.nil=>none|.node v _ _ _ _=>v
def c0:Tr α->Tr α
 |.nil=>.nil|.node _ k _ _ _=>k
def c1:Tr α->Tr α
 |.nil=>.nil|.node _ _ k _ _=>k
def c2:Tr α->Tr α
 |.nil=>.nil|.node _ _ _ k _=>k
def c3:Tr α->Tr α
 |.nil=>.nil|.node _ _ _ _ k=>k
def vJ:Pa->Tr α->Option α
 |.e,t=>t.val|.a p,t=>vJ p t.c0|.b p,t=>vJ p t.c1|.c p,t=>vJ p t.c2|.d p,t=>vJ p t.c3
def mI:Pa->Option α->Tr α->Tr α
 |.e,x,t=>.node x t.c0 t.c1 t.c2 t.c3|.a p,x,t=>.node t.val (mI p x t.c0) t.c1 t.c2 t.c3|.b p,x,t=>.node t.val t.c0 (mI p x t.c1) t.c2 t.c3|.c p,x,t=>.node t.val t.c0 t.c1 (mI p x t.c2) t.c3|.d p,x,t=>.node t.val t.c0 t.c1 t.c2 (mI p x t.c3)
def get (t:Tr α)(n:Nat):Option α:=vJ (pathOf n) t
def bW (t:Tr α)(n:Nat)(x:α):Tr α:=mI (pathOf n) (some x) t
def del (t:Tr α)(n:Nat):Tr α:=mI (pathOf n) none t
def put (_:Nat)(t:Tr α)(n:Nat)(x:α):Tr α:=mI (pathOf n) (some x) t
def cz (t:Tr α)(n:Nat):List α->Tr α
 |[]=>t|x::xs=>cz (t.put 34 n x) (n+1) xs
end Tr
inductive AV where
 |dG
 |bool (b:Bool)
 |int (k:IntKind) (n:Int)
 |str (s:List Nat)
 |dE
 |ptr (i off:Nat)
 |ah
 |slice (i off len cap:Nat) (exact:Bool) (es:Nat)
 |lz
 |map (i:Nat)
 |func (fn:Fn) (first captured:List AV)
 |yield (l:Nat)
 |nilFunc
 |nilIface
 |iface (t:TypeId) (v:AV)
 |agg (l:List AV)
 |tuple (l:List AV)
 deriving Inhabited
def bP:AV:=.tuple []
structure ME where
 key:AV
 val:AV
 born:Nat
inductive AO where
 |cells (c:Tr AV) (lo hi:Nat) (elem:TypeId) (fl:Nat)
 |map (es:List ME) (clock:Nat)
 |vS (s:List Nat) (pos:Nat)
 |xQ (m:Option Nat) (since:Nat) (seen:List Nat) (aIW:Nat)
 |loop (pending:Option Code) (tmps:Tr AV) (params:List Tmp) (assign body:Code)
structure Hp where
 h:Tr AO
 next:Nat
abbrev Tm:=Tr AV
def bytes (s:ByteArray):List Nat:=s.data.toList.map (·.toNat)
def qS:Value->Option AV
 |.bool b=>some (.bool b)|.int k n=>some (.int k n)|.string s=>some (.str (bytes s))|.pointer none=>some .dE|.slice none 0 0=>some .ah|.map none=>some .lz|.nilFunc=>some .nilFunc|.nilIface=>some .nilIface|_=>none
def lj:Value->Option AV
 |.agg cs=>(cs.toList.mapM qS).map .agg|.tuple cs=>(cs.toList.mapM qS).map .tuple|.iface t v=>(qS v).map (.iface t)|v=>qS v
def ev (G:Nat)(t:Tm):Operand->AV
 |.tmp x=>(t.get x).getD bP|.const v=>(lj v).getD .dG|.global g=>bif Nat.blt g G then .ptr g 0 else .dG
 |.func f=>.func (.func f) [] []
def uE:AV->Option (List AV)
 |.agg l=>some l|.dG=>none|v=>some [v]
variable (P:Program)
def zc (t:TypeId):Option (List AV):=do (<- (<-P.info? t).zero).cells.toList.mapM qS
def sz (t:TypeId):Option Nat:=(P.info? t).map (·.size)
def Ah (t:TypeId):Option Bool:=(P.underlying t).map λ|.struct _=>true|.array _ _=>true|_=>false
def uU {α β:Type}(f:α->Option β):List α->Option (List β)
 |[]=>some []|a::l=>match f a with
  |some b=>match uU f l with
   |some r=>some (b::r)|none=>none
  |none=>none
def cellAt (H:Hp)(i off:Nat):Option AV:=
 match H.h.get i with
 |some (.cells c lo hi _ _)=>bif Nat.ble lo off&&Nat.blt off hi then c.get off else none
 |_=>none
def av (H:Hp)(i off:Nat):Nat->Option (List AV)
 |0=>some []|n+1=>do
  let v <-cellAt H i off
  let r <-av H i (off+1) n
  pure (v::r)
def aW:AV->Bool
 |.agg _|.tuple _|.dG=>false|_=>true
def setCell (H:Hp)(i off:Nat)(v:AV):Option Hp:=
 match H.h.get i with
 |some (.cells c lo hi el fl)=>bif Nat.ble lo off&&Nat.blt off hi&&Nat.ble fl 1&&(c.get off).isSome&&aW v then some {H with h:=H.h.bW i (.cells (c.bW off v) lo hi el fl)} else none
 |_=>none
def setCells (H:Hp)(i off:Nat):List AV->Option Hp
 |[]=>some H|v::vs=>do setCells (<-setCell H i off v) i (off+1) vs
def alloc (H:Hp)(o:AO):Option (Nat×Hp):=
 some (H.next,⟨H.h.put 34 H.next o,H.next+1⟩)
def aA (H:Hp)(l:List AV)(elem:TypeId)(fl:Nat):Option (Nat×Hp):=
 bif Nat.ble l.length 16777216 then alloc H (.cells (Tr.cz .nil 0 l) 0 l.length elem fl) else none
def setObj (H:Hp)(i:Nat)(o:AO):Hp:={H with h:=H.h.bW i o}
def sY:AV->AV->Bool
 |.bool a,.bool b=>a==b|.int j a,.int k b=>j==k&&a==b|.str a,.str b=>a==b|.dE,.dE=>true|.ptr a b,.ptr c d=>Nat.beq a c&&Nat.beq b d|.ah,.ah=>true|.slice a b c d e f,.slice a' b' c' d' e' f'=>Nat.beq a a'&&Nat.beq b b'&&Nat.beq c c'&&Nat.beq d d'&&e==e'&&Nat.beq f f'|.lz,.lz=>true|.map a,.map b=>Nat.beq a b|.nilFunc,.nilFunc=>true|.nilIface,.nilIface=>true|_,_=>false
def yf:List AV->List AV->Bool
 |[],[]=>true|a::x,b::y=>sY a b&&yf x y|_,_=>false
def same:AV->AV->Bool
 |.agg x,.agg y=>yf x y|.tuple x,.tuple y=>yf x y|.iface t x,.iface u y=>Nat.beq t u&&sY x y|a,b=>sY a b
def wH (H:Hp)(t:TypeId)(a:AV):Option AV:=
 match a with
 |.ptr i off=>do
  if <-Ah P t then do pure (.agg (<-av H i off (<-sz P t))) else cellAt H i off
 |_=>none
def Lh (H:Hp)(t:TypeId)(a v:AV):Option Hp:=
 match a with
 |.ptr i off=>do
  let cs <-uE v
  if (<-sz P t)==cs.length then setCells H i off cs else none
 |_=>none
def pA (t:TypeId)(cs:List AV)(off:Nat):Option AV:=do
 if <-Ah P t then do
  let n <-sz P t
  bif Nat.ble (off+n) cs.length then some (.agg ((cs.drop off).take n)) else none
 else cs[off]?
def ye (place:Nat->Option (Nat×Nat))(cells:List AV):List (Nat×AV)->Option (List AV)
 |[]=>some cells|(i,v)::rest=>
  match place i with
  |none=>none|some (off,size)=>
   match uE v with
   |none=>none|some cs=>
    if cs.length=size/\off+size<=cells.length then ye place (cells.take off++cs++cells.drop (off+size)) rest else none
def ZK (fs:Array Field):Option (List (Nat×Nat)):=uU (λf:Field=>(sz P f.type).map λn=>(f.offset,n)) fs.toList
def rep (n:Nat)(l:List AV):List AV:=(List.replicate n l).flatten
def ur {α:Type}(g:α->Option Bool):List α->Option Bool
 |[]=>some true|a::r=>match g a with
  |some true=>ur g r|some false=>some false|none=>none
def clean (H:Hp)(i:Nat):Bool:=
 match H.h.get i with
 |some (.cells _ _ _ _ 0)=>true|_=>false
def eL:Nat->TypeId->AV->AV->Hp->Option Bool
 |0,_,_,_,_=>none|d+1,t,x,y,H=>
  match P.underlying t with
  |none=>none|some u=>
  match u,x,y with
  |.bool,.bool a,.bool b=>some (a==b)|.int _,.int k a,.int k' b=>if k=k' then some (a==b) else none
  |.string,.str a,.str b=>some (a==b)|.pointer _,.dE,.dE=>some true|.pointer _,.dE,.ptr _ _=>some false|.pointer _,.ptr _ _,.dE=>some false|.pointer el,.ptr i a,.ptr j b=>
   match sz P el with
   |some (n+1)=>bif Nat.beq i j then some (Nat.beq a b) else bif clean H i&&clean H j then some false else none
   |_=>none
  |.interface _,.nilIface,.nilIface=>some true|.interface _,.nilIface,.iface _ _=>some false|.interface _,.iface _ _,.nilIface=>some false|.interface _,.iface t x,.iface t' y=>
   if t=t' then
    match P.info? t with
    |some i=>bif i.comparable then eL d t x y H else none
    |none=>none
   else some false
  |.struct fs,.agg xs,.agg ys=>
   bif P.stoodInHeld t then none else
   ur (λf=>if f.name = "_" then some true else
    match pA P f.type xs f.offset,pA P f.type ys f.offset with
    |some a,some b=>eL d f.type a b H|_,_=>none) fs.toList
  |.array n el,.agg xs,.agg ys=>
   match sz P el with
   |some s=>ur (λi=>
    match pA P el xs (i*s),pA P el ys (i*s) with
    |some a,some b=>eL d el a b H|_,_=>none) (List.range' 0 n)
   |none=>none
  |.slice _,.ah,.ah=>some true|.slice _,.ah,.slice .. => some false|.slice _,.slice ..,.ah=>some false|.map _ _,.lz,.lz=>some true|.map _ _,.lz,.map _=>some false|.map _ _,.map _,.lz=>some false|.func ..,.nilFunc,.nilFunc=>some true|.func ..,.nilFunc,.func .. => some false|.func ..,.func ..,.nilFunc=>some false|_,_,_=>none
def tw:List Nat->List Nat->Bool
 |_,[]=>false|[],_::_=>true|a::x,b::y=>Nat.blt a b||(Nat.beq a b&&tw x y)
def mh (k:IntKind)(a:Int):Nat:=(a%((2^k.bits:Nat):Int)).toNat
def fV (op:BinOp)(t:TypeId)(x y:AV)(H:Hp):Option AV:=
 match op,x,y with
 |.shl,.int k a,.int _ b=>if b<0 then none else some (.int k (k.wrap (a*2^(min b.toNat k.bits))))
 |.shr,.int k a,.int _ b=>if b<0 then none else some (.int k (a.fdiv (2^(min b.toNat k.bits))))
 |op,.int k a,.int k' b=>
  if k=k' then
   match op with
   |.add=>some (.int k (k.wrap (a+b)))|.sub=>some (.int k (k.wrap (a-b)))|.mul=>some (.int k (k.wrap (a*b)))|.quo=>if b=0 then none else some (.int k (k.wrap (a.tdiv b)))
   |.rem=>if b=0 then none else some (.int k (a.tmod b))
   |.and=>some (.int k (k.wrap (mh k a&&&mh k b:Nat)))|.or=>some (.int k (k.wrap (mh k a|||mh k b:Nat)))|.xor=>some (.int k (k.wrap (mh k a ^^^ mh k b:Nat)))|.andNot=>none|.eql=>some (.bool (a==b))|.neq=>some (.bool (a != b))|.lss=>some (.bool (a<b))|.leq=>some (.bool (a<=b))|.gtr=>some (.bool (b<a))|.geq=>some (.bool (b<=a))|_=>none
  else none
 |op,.str a,.str b=>
  match op with
  |.add=>bif Nat.ble (a.length+b.length) 4294967296 then some (.str (a++b)) else none
  |.eql=>some (.bool (a==b))|.neq=>some (.bool (!(a==b)))|.lss=>some (.bool (tw a b))|.leq=>some (.bool (tw a b||a==b))|.gtr=>some (.bool (!(tw a b||a==b)))|.geq=>some (.bool (!(tw a b)))|_=>none
 |.eql,x,y=>(eL P 50 t x y H).map .bool|.neq,x,y=>(eL P 50 t x y H).map λb=>.bool !b
 |_,_,_=>none
def zq:Operand->Bool
 |.const _=>true|_=>false
def wQ (op:BinOp)(t:TypeId)(X Y:Operand)(x y:AV):Bool:=
 match op with
 |.eql|.neq=>match x,y with
  |.nilIface,.nilIface=>zq X||zq Y|.agg _,.agg _=>!(P.eqGuardType P.depth t)|_,_=>true
 |_=>true
def ep (op:UnOp)(x:AV):Option AV:=
 match op,x with
 |.neg,.int k n=>some (.int k (k.wrap (0-n)))|.not,.bool b=>some (.bool !b)|.xor,.int k n=>if k.signed then none else if 0<=n then some (.int k (k.wrap ((k.max.toNat%2^k.bits) ^^^ (n.toNat%2^k.bits):Nat))) else none
 |_,_=>none
def zg:List AV->Option (List Nat)
 |[]=>some []|.int .u8 n::r=>do if 0<=n&&n<256 then pure (n.toNat::(<-zg r)) else none
 |_=>none
def CC (t:TypeId):Bool:=match sz P t with|some (_+1)=>true|_=>false
def kY (src dst:TypeId)(x:AV)(H:Hp):Option (AV×Hp):=
 match P.underlying src,P.underlying dst with
 |some s,some d=>
  match s,d,x with
  |_,.int k,.int _ n=>some (.int k (k.wrap n),H)|_,.string,.int _ n=>if 0<=n/\n<128 then some (.str [n.toNat],H) else none
  |_,.string,.str s=>some (.str s,H)|_,.slice e,.str s=>
   match P.underlying e with
   |some (.int .u8)=>
    match aA H (s.map λ(b:Nat)=>AV.int .u8 b) e 1 with
    |some (i,H)=>some (.slice i 0 s.length s.length false 1,H)|none=>none
   |_=>none
  |.slice _,.slice e,.slice i off len cap ex es=>
   bif Nat.beq src dst&&Nat.blt 0 len then
    match P.underlying e,H.h.get i with
    |some (.int .u8),some (.cells c lo hi el 0)=>some (.slice i off len cap ex es,{H with h:=H.h.bW i (.cells c lo hi el 1)})|_,_=>none
   else none
  |.slice e,.string,.ah=>
   match P.underlying e with
   |some (.int .u8)=>some (.str [],H)|_=>none
  |.slice e,.string,.slice i off len _ _ _=>
   match P.underlying e with
   |some (.int .u8)=>bif Nat.beq len 0 then some (.str [],H) else (av H i off len).bind λcs=>(zg cs).map λb=>(.str b,H)
   |_=>none
  |.pointer t,.unsafePointer,.ptr i o=>bif (cellAt H i o).isSome&&CC P t then some (.ptr i o,H) else none
  |.unsafePointer,.pointer u,.ptr i o=>
   match H.h.get i with
   |some (.cells _ lo _ el _)=>bif Nat.beq el u&&Nat.beq lo 0&&Nat.beq o 0&&Nat.blt 0 (P.cellsOf u)&&(cellAt H i (P.cellsOf u-1)).isSome then some (.ptr i o,H) else none
   |_=>none
  |_,_,_=>none
 |_,_=>none
def bound (lo:Nat)(hi:Nat):AV->Option Nat
 |.int _ n=>if (lo:Int)<=n&&n<=hi then some n.toNat else none
 |_=>none
def uW (len cap:Nat)(low high mx:Option AV):Option (Nat×Nat×Nat):=do
 let m <- (match mx with|some v=>bound 0 cap v|none=>some cap:Option Nat)
 let h <- (match high with|some v=>bound 0 m v|none=>(match mx with|none=>some len|some _=>none):Option Nat)
 let l <- (match low with|some v=>bound 0 h v|none=>some 0:Option Nat)
 pure (l,h,m)
def uJ (t:TypeId)(x:AV)(low high mx:Option AV)(H:Hp):Option AV:=do
 match <-P.underlying t,x with
 |.string,.str s=>do
  if mx.isSome then none else
  let (l,h,_) <-uW s.length s.length low high none
  some (.str ((s.drop l).take (h-l)))
 |.slice el,.ah=>do
  let (_,_,_) <-uW 0 0 low high mx
  if (sz P el).isSome then some .ah else none
 |.slice el,.slice i off len cap ex es=>do
  let (l,h,m) <-uW len cap low high mx
  if (<-sz P el)==es then some (.slice i (off+l*es) (h-l) (m-l) (ex||mx.isSome) es) else none
 |.array n e,.ptr i off=>do
  let (l,h,m) <-uW n n low high mx
  let es <-sz P e
  if Nat.blt 0 (n*es)&&(cellAt H i (off+n*es-1)).isSome then some (.slice i (off+l*es) (h-l) (m-l) true es) else none
 |_,_=>none
def I0 (t:TypeId)(x ix:AV):Option AV:=do
 match <-P.underlying t,x,ix with
 |.array n e,.ptr i off,.int _ k=>do
  let es <-sz P e
  if 0<=k&&k<n then some (.ptr i (off+k.toNat*es)) else none
 |.slice el,.slice i off len _ _ es,.int _ k=>do
  if (<-sz P el)==es&&0<=k&&k<len then some (.ptr i (off+k.toNat*es)) else none
 |_,_,_=>none
def IU (t:TypeId)(x ix:AV):Option AV:=do
 match <-P.underlying t,x,ix with
 |.array n e,.agg cs,.int _ k=>do
  let es <-sz P e
  if 0<=k&&k<n then pA P e cs (k.toNat*es) else none
 |.string,.str s,.int _ k=>if 0<=k then (s[k.toNat]?).map λ(b:Nat)=>.int .u8 b else none
 |_,_,_=>none
def qN:Nat->TypeId->AV->Bool
 |0,_,_=>false|d+1,t,v=>
  match P.underlying t,v with
  |some (.int _),_=>true|some .string,_=>true|some .bool,_=>true|some (.struct fs),.agg cs=>fs.toList.all λf=>if f.name ≠ "_" then (match pA P f.type cs f.offset with|some v=>qN d f.type v|none=>false) else true
  |some (.array n el),.agg cs=>
   match sz P el with
   |some s=>(List.range' 0 n).all λi=>match pA P el cs (i*s) with|some v=>qN d el v|none=>false
   |none=>false
  |_,_=>false
def MS:AV->AV->Bool
 |.bool a,.bool b=>a==b|.int j a,.int k b=>decide (j=k)&&decide (a=b)|.str a,.str b=>a==b|_,_=>false
def Iz:List AV->List AV->Bool
 |[],[]=>true|a::x,b::y=>MS a b&&Iz x y|_,_=>false
def Hu:AV->AV->Bool
 |.agg x,.agg y=>Iz x y|a,b=>MS a b
def AB (H:Hp)(t:TypeId)(k:AV):List ME->Bool
 |[]=>true|e::es=>match eL P 20 t k e.key H with
  |some false=>AB H t k es|_=>false
def pw (H:Hp)(t:TypeId)(k:AV):List ME->Nat->Option (Option (Nat×ME))
 |[],_=>some none|e::es,i=>match eL P 20 t k e.key H with
  |some true=>bif AB P H t k es then some (some (i,e)) else none
  |some false=>pw H t k es (i+1)|none=>none
def mapOf (H:Hp):AV->Option (List ME×Nat)
 |.lz=>some ([],0)|.map i=>match H.h.get i with|some (.map es c)=>some (es,c)|_=>none
 |_=>none
def tP (t:TypeId)(x k:AV)(ok:Bool)(H:Hp):Option AV:=
 match P.underlying t with
 |some (.map kt el)=>
  bif qN P 20 kt k then
   match mapOf H x with
   |some (es,_)=>
    match pw P H kt k es 0 with
    |some (some (_,m))=>some (bif ok then .tuple [m.val,.bool true] else m.val)|some none=>(((P.info? el).bind (·.zero)).bind lj).map λz=>bif ok then .tuple [z,.bool false] else z
    |none=>none
   |none=>none
  else none
 |_=>none
def qm (t:TypeId)(x k v:AV)(H:Hp):Option Hp:=
 match P.underlying t,x with
 |some (.map kt _),.map i=>
  bif qN P 20 kt k then
   match H.h.get i with
   |some (.map es c)=>
    match pw P H kt k es 0 with
    |some (some (j,m))=>bif Hu m.key k then some (setObj H i (.map (es.set j {m with key:=k,val:=v}) c)) else none
    |some none=>some (setObj H i (.map (es++[⟨k,v,c⟩]) (c+1)))|none=>none
   |_=>none
  else none
 |_,_=>none
def M8 (gm:Bool)(el es:Nat)(x:AV)(H:Hp):Option (Nat×List AV):=
 match gm,x with
 |true,.int .i64 k=>
  if 0<=k/\k<16777216 then
   match zc P el with
   |some z=>if z.length=es then some (k.toNat,rep k.toNat z) else none
   |none=>none
  else none
 |false,.ah=>some (0,[])|false,.slice i off len _ _ _=>(av H i off (len*es)).map λl=>(len,l)
 |false,.str s=>if es=1 then some (s.length,s.map λ(b:Nat)=>AV.int .u8 b) else none
 |_,_=>none
def Ks (cL:Array TypeId):Option Bool:=
 match cL[1]? with
 |some t=>(P.underlying t).map (λd=>match d with|.int _=>true|_=>false)|none=>some false
def My (cL:Array TypeId)(s x:AV)(H:Hp):Option (AV×Hp):=
 match (cL[0]?).bind P.underlying,Ks P cL with
 |some (.slice el),some gm=>
  match sz P el,zc P el with
  |some es,some z=>
   bif Nat.ble (P.bytesOf el) 4096&&Nat.beq z.length es then
   match M8 P gm el es x H with
   |some (n,new)=>
    match s with
    |.ah=>
     bif Nat.beq n 0 then some (.ah,H) else
     bif Nat.ble n 16777216 then
     match aA H new el 0 with
     |some (i,H)=>some (.slice i 0 n n false es,H)|none=>none
     else none
    |.slice i off len cap ex es'=>
     bif Nat.ble (len+n) 16777216&&Nat.beq es es'&&new.all aW then
     bif Nat.ble (len+n) cap then
      match setCells H i (off+len*es) new with
      |some H=>some (.slice i off (len+n) cap ex es,H)|none=>none
     else bif ex then
      match av H i off (len*es) with
      |some gI=>
       match aA H (gI++new) el 0 with
       |some (j,H)=>some (.slice j 0 (len+n) (len+n) false es,H)|none=>none
      |none=>none
     else
      match H.h.get i with
      |some (.cells c lo hi xu fl)=>
       bif Nat.ble fl 1&&Nat.ble lo off&&Nat.ble (off+len*es) hi&&Nat.beq el xu then
        match alloc {H with h:=H.h.del i} (.cells (c.cz (off+len*es) new) off (off+(len+n)*es) el 1) with
        |some (j,H)=>some (.slice j off (len+n) (len+n) false es,H)|none=>none
       else none
      |_=>none
     else none
    |_=>none
   |none=>none
   else none
  |_,_=>none
 |_,_=>none
def TL:AV->Option Nat
 |.ah=>some 0|.slice _ _ l _ _ _=>some l|.str s=>some s.length|_=>none
def Z0 (es n:Nat)(x:AV)(H:Hp):Option (List AV):=
 match x with
 |.slice i off _ _ _ _=>av H i off (n*es)|.str s=>some ((s.take n).map λ(b:Nat)=>AV.int .u8 b)|_=>none
def LL (cL:Array TypeId)(d x:AV)(H:Hp):Option (AV×Hp):=
 match (cL[0]?).bind P.underlying with
 |some (.slice el)=>
  match sz P el,TL x with
  |some es,some xl=>
   match d with
   |.ah=>some (.int .i64 0,H)|.slice i off dl _ _ _=>
    bif Nat.beq (Nat.min xl dl) 0 then some (.int .i64 0,H) else
    match Z0 es (Nat.min xl dl) x H with
    |some cs=>(setCells H i off cs).map λH=>(.int .i64 (Nat.min xl dl),H)
    |none=>none
   |_=>none
  |_,_=>none
 |_=>none
def Kz (cL:Array TypeId)(m k:AV)(H:Hp):Option Hp:=
 match (cL[0]?).bind P.underlying with
 |some (.map kt _)=>
  bif qN P 20 kt k then
  match m with
  |.lz=>some H|.map i=>
   match H.h.get i with
   |some (.map es c)=>
    match pw P H kt k es 0 with
    |some (some (j,_))=>some (setObj H i (.map (es.eraseIdx j) c))|some none=>some H|none=>none
   |_=>none
  |_=>none
  else none
 |_=>none
def XX (cL:Array TypeId)(x:AV)(H:Hp):Option Hp:=
 match (cL[0]?).bind P.underlying,x with
 |some _,.lz=>some H|some _,.ah=>some H|some _,.map i=>match H.h.get i with
  |some (.map _ c)=>some (setObj H i (.map [] c))|_=>none
 |some (.slice el),.slice i off n _ _ _=>
  match zc P el with
  |some z=>setCells H i off (rep n z)|none=>none
 |_,_=>none
def DJ (cL:Array TypeId)(x:AV)(H:Hp):Option AV:=
 match (cL[0]?).bind P.underlying,x with
 |some .string,.str s=>some (.int .i64 s.length)|some (.array n _),_=>some (.int .i64 n)|some (.slice _),.ah=>some (.int .i64 0)|some (.slice _),.slice _ _ n _ _ _=>some (.int .i64 n)|some (.map _ _),.lz=>some (.int .i64 0)|some (.map _ _),.map i=>match H.h.get i with
  |some (.map es _)=>some (.int .i64 es.length)|_=>none
 |some (.pointer a),_=>match P.underlying a with|some (.array n _)=>some (.int .i64 n)|_=>none
 |_,_=>none
def PG (cL:Array TypeId)(x:AV):Option AV:=
 match (cL[0]?).bind P.underlying,x with
 |some (.slice _),.ah=>some (.int .i64 0)|some (.slice _),.slice _ _ _ c true _=>some (.int .i64 c)|_,_=>none
def Wn (mx:Bool):AV->AV->Option AV
 |.int k x,.int _ y=>some (.int k (bif mx then (if y>x then y else x) else (if y<x then y else x)))|_,_=>none
def GF (mx:Bool):AV->List AV->Option AV
 |x,[]=>some x|x,y::r=>match Wn mx x y with
  |some z=>GF mx z r|none=>none
def Rq (cL:Array TypeId)(p:AV)(k:IntKind)(n:Int)(H:Hp):Option (AV×Hp):=
 match cL.toList,k with
 |[t0,_],.i64=>
  match P.underlying t0,p with
  |some (.pointer _),.dE=>if n=0 then some (.str [],H) else none
  |some (.pointer el),.ptr i off=>
   if n=0 then some (.str [],H) else
   match H.h.get i with
   |some (.cells c lo hi xu fl)=>
    if el=xu/\P.cellsOf el=1/\0<n/\n<16777216/\fl<=1 then
     ((av H i off n.toNat).bind zg).map λs=>(.str s,{H with h:=H.h.bW i (.cells c lo hi xu 2)})
    else none
   |_=>none
  |_,_=>none
 |_,_=>none
def jn (b:Builtin)(cL:Array TypeId)(args:List AV)(H:Hp):Option (AV×Hp):=
 match b,args with
 |.append,[s,x]=>My P cL s x H|.copy,[d,x]=>LL P cL d x H|.delete,[m,k]=>(Kz P cL m k H).map λH=>(bP,H)
 |.clear,[x]=>(XX P cL x H).map λH=>(bP,H)
 |.len,[x]=>(DJ P cL x H).map λv=>(v,H)
 |.cap,[x]=>(PG P cL x).map λv=>(v,H)
 |.min,x::r=>(GF false x r).map λv=>(v,H)
 |.max,x::r=>(GF true x r).map λv=>(v,H)
 |.unsafeSliceData,[.ah]=>some (.dE,H)|.unsafeSliceData,[.slice i off l c _ _]=>bif Nat.blt 0 l then some (.ptr i off,H) else none
 |.unsafeString,[p,.int k n]=>Rq P cL p k n H|_,_=>none
def KI (t:TypeId)(ps:List (Nat×AV)):Option AV:=
 match zc P t,P.underlying t with
 |some z,some (.struct fs)=>
  match ZK P fs with
  |some pl=>(ye (pl[·]?) z ps).map .agg|none=>none
 |some z,some (.array _ el)=>
  match sz P el with
  |some s=>(ye (λi=>some (i*s,s)) z ps).map .agg|none=>none
 |_,_=>none
def Dn (el s n:Nat):Option (List AV):=
 bif Nat.beq (n*s) 0 then some [] else
 match zc P el with
 |some z=>bif Nat.beq z.length s then some (rep n z) else none
 |none=>none
def Nn (t:TypeId)(len:Nat)(ps:List (Nat×AV))(H:Hp):Option (AV×Hp):=
 match P.underlying t with
 |some (.slice el)=>
  match sz P el with
  |some s=>
   bif Nat.ble (len*s) 65536 then
    match Dn P el s len with
    |some z=>
     match ye (λi=>some (i*s,s)) z ps with
     |some cs=>(aA H cs el 0).map λr=>(.slice r.1 0 len len true s,r.2)
     |none=>none
    |none=>none
   else none
  |none=>none
 |_=>none
def zX (t:TypeId)(l c:AV)(H:Hp):Option (AV×Hp):=
 match P.underlying t,l,c with
 |some (.slice el),.int _ l,.int _ c=>
  match sz P el with
  |some s=>
   if 0<=l/\l<=c/\c<=1048576/\P.bytesOf el<=4096 then
    match Dn P el s c.toNat with
    |some z=>(aA H z el 0).map λr=>(.slice r.1 0 l.toNat c.toNat true s,r.2)
    |none=>none
   else none
  |none=>none
 |_,_,_=>none
def C9 (t:TypeId)(x:AV)(H:Hp):Option (AV×Hp):=
 match P.underlying t,x with
 |some .string,.str s=>(alloc H (.vS s 0)).map λr=>(.ptr r.1 0,r.2)
 |_,_=>none
def Bf (it:AV)(vl:Bool)(H:Hp):Option (AV×Hp):=
 match it with
 |.ptr i 0=>
  match H.h.get i,vl with
  |some (.vS s pos),true=>
   match s.drop pos with
   |[]=>some (.tuple [.bool false],H)|b::_=>bif Nat.blt b 128 then some (.tuple [.bool true,.int .i64 pos,.int .i32 b],setObj H i (.vS s (pos+1))) else none
  |_,_=>none
 |_=>none
def SL (it:AV)(H:Hp):Option AV:=none
def LW (yy:TypeId)(x:AV)(ok:Bool):Option AV:=
 match P.underlying yy,x with
 |some (.interface _),_=>none|some _,.iface t v=>if t=yy then some (bif ok then .tuple [v,.bool true] else v) else none
 |_,_=>none
def PB (t:TypeId)(x:AV)(f:Nat):Option AV:=
 match P.underlying t,x with
 |some (.struct fs),.ptr i o=>
  match fs[f]? with
  |some fd=>bif CC P fd.type then some (.ptr i (o+fd.offset)) else none
  |none=>none
 |_,_=>none
def Li (t:TypeId)(x:AV)(f:Nat):Option AV:=
 match P.underlying t,x with
 |some (.struct fs),.agg cs=>
  match fs[f]? with
  |some fd=>pA P fd.type cs fd.offset|none=>none
 |_,_=>none
def aI:AV->Option AV
 |.ptr i o=>some (.ptr i o)|.func (.func f) a b=>some (.func (.func f) a b)|.iface t v=>some (.iface t v)|_=>none
def QO (t:TypeId)(x:AV):Option AV:=
 match P.underlying t with
 |some (.interface _)=>none|some _=>some (.iface t x)|none=>none
def Rk (fn:Fn)(a b:List AV):Option AV:=
 match fn with
 |.yield _=>none|fn=>some (.func fn a b)
def jQ (e:Operand->AV)(o:Oper)(H:Hp):Option (AV×Hp):=
 match o.op with
 |.move x=>some (e x,H)|.assign x=>some (e x,H)|.pick c a b=>match e c with|.bool t=>some (bif t then e a else e b,H)|_=>none
 |.alloc t=>match zc P t with|some l=>(aA H l t 0).map λr=>(.ptr r.1 0,r.2)|none=>none
 |.box t x=>match uE (e x) with|some l=>(aA H l t 0).map λr=>(.ptr r.1 0,r.2)|none=>none
 |.build t parts=>(KI P t (parts.toList.map λ(i,x)=>(i,e x))).map λv=>(v,H)
 |.buildSlice t len parts=>Nn P t len (parts.toList.map λ(i,x)=>(i,e x)) H|.insert t m k v=>(qm P t (e m) (e k) (e v) H).map λH=>(bP,H)
 |.mapUpdate t m k v=>(qm P t (e m) (e k) (e v) H).map λH=>(bP,H)
 |.load t a=>(wH P H t (e a)).map λv=>(v,H)
 |.store t a v=>(Lh P H t (e a) (e v)).map λH=>(bP,H)
 |.nilCheck x=>(aI (e x)).map λv=>(v,H)
 |.binOp op t x y _=>bif wQ P op t x y (e x) (e y) then (fV P op t (e x) (e y) H).map λv=>(v,H) else none
 |.unOp op _ x=>(ep op (e x)).map λv=>(v,H)
 |.convert a b x=>kY P a b (e x) H|.makeInterface t x=>(QO P t (e x)).map λv=>(v,H)
 |.makeFunc fn a b=>(Rk fn (a.toList.map e) (b.toList.map e)).map λv=>(v,H)
 |.makeMap _ none=>(alloc H (.map [] 0)).map λr=>(.map r.1,r.2)
 |.makeSlice t l c=>zX P t (e l) (e c) H|.slice t x lo hi mx=>(uJ P t (e x) (lo.map e) (hi.map e) (mx.map e) H).map λv=>(v,H)
 |.fieldAddr t x f=>(PB P t (e x) f).map λv=>(v,H)
 |.field t x f=>(Li P t (e x) f).map λv=>(v,H)
 |.indexAddr t x ix=>(I0 P t (e x) (e ix)).map λv=>(v,H)
 |.index t x ix=>(IU P t (e x) (e ix)).map λv=>(v,H)
 |.lookup t x k ok=>(tP P t (e x) (e k) ok H).map λv=>(v,H)
 |.range t x=>C9 P t (e x) H|.next it vl=>Bf (e it) vl H|.entry it=>(SL (e it) H).map λv=>(v,H)
 |.extract t ix=>match e t with|.tuple l=>(l[ix]?).map λv=>(v,H)|_=>none
 |.typeAssert x _ yy ok=>(LW P yy (e x) ok).map λv=>(v,H)
 |.call c=>match c.callee with
  |.builtin b=>jn P b c.argTypes (c.args.toList.map e) H|_=>none
 |_=>none
inductive Kd where|pure|read|late|dP
 deriving DecidableEq
def kd (o:Oper):Kd:=
 match o.op with
 |.load .. |.lookup .. |.slice .. |.entry _=>.read|.move _|.assign _|.pick .. |.build .. |.nilCheck _|.unOp .. |.makeInterface .. |.makeFunc .. |.fieldAddr .. |.field .. |.indexAddr .. |.index .. |.extract .. |.typeAssert .. =>.pure|.alloc _=>.late|.makeSlice _ l c=>match l,c with|.const _,.const _=>.late|_,_=>.dP
 |.binOp op t .. => match op with
  |.eql|.neq=>match P.underlying t with|some (.int _)|some .string|some .bool=>.pure|_=>.read
  |_=>.pure
 |.convert a b x=>match P.underlying a,P.underlying b with
  |some (.int _),some (.int _)=>.pure|some .string,some .string=>.pure|some (.slice _),some .string=>.read|some .string,some (.slice _)=>match x with|.const _=>.late|_=>.dP
  |_,_=>.dP
 |.call c=>match c.callee with
  |.builtin .len=>.read|.builtin .min|.builtin .max|.builtin .cap=>.pure|_=>.dP
 |_=>.dP
def before:List Oper->List Nat->List Nat
 |[],acc=>acc|o::r,acc=>before r (acc++[o.after.toList.foldl (λs e=>if Region.binds .any e then s|||2^e.on|||acc.getD e.on 0 else s) 0])
end
inductive Ext where
 |same
 |MG (t:TypeId)
 |Tt
 |count
def iF (c:Nat):List Nat->Nat
 |[]=>0|b::r=>bif Nat.beq b c then iF c r+1 else iF c r
def lL (c:Nat):List Nat->Nat->Option Nat
 |[],_=>none|b::r,i=>bif Nat.beq b c then some i else lL c r (i+1)
abbrev Prim:=List AV->Hp->Option (AV×Hp)
inductive X where
 |normal
 |exit (i:Nat)
 |ret
variable (P:Program)(ext:Nat->Option Ext)(bH:Nat->Option Prim)
def Iq (k:Ext)(args:List AV)(H:Hp):Option (AV×Hp):=
 match k,args with
 |.same,[x]=>some (x,H)|.MG t,[.int .i64 n]=>
  match P.underlying t with
  |some (.slice el)=>
   if 0<=n/\n<=1048576 then
    (aA H (List.replicate n.toNat .dG) el 0).map λr=>(.slice r.1 0 n.toNat n.toNat false 1,r.2)
   else none
  |_=>none
 |.Tt,[.str s,.int .u8 n]=>some (.int .i64 (match lL (n.toNat%256) s 0 with|some i=>(i:Int)|none=>-1),H)|.count,[.str s,.int .u8 n]=>some (.int .i64 (iF (n.toNat%256) s:Nat),H)|_,_=>none
def sQ (ops:Array Oper)(o:Oper)(t:Tm):Option Bool:=
 match o.guard with
 |none=>some true|some (j,want)=>
  match (ops[j]?).bind (·.dst) with
  |none=>some false|some d=>match t.get d with
   |none=>some false|some (.bool b)=>some (b==want)|some .dG=>none|some _=>some false
def jk (n:Nat)(dst:Option Tmp)(v:AV)(t:Tm):Option Tm:=
 match dst with
 |none=>some t|some d=>bif Nat.blt d n&&Nat.blt d 4294967296 then some (t.put 34 d v) else none
abbrev CF:=AV->List AV->Hp->Option (AV×Hp)
def si (cf:CF)(t:Tm)(o:Oper)(H:Hp):Option (AV×Hp):=
 match o.op with
 |.call {callee:=.value f,args,.. }=>cf (ev P.globals.size t f) (args.toList.map (ev P.globals.size t)) H|_=>jQ P (ev P.globals.size t) o H
def wg (cf:CF)(n:Nat)(ops:Array Oper):List Oper->Tm->Hp->Option (Tm×Hp)
 |[],t,H=>some (t,H)|o::r,t,H=>
  match sQ ops o t with
  |some true=>
   match si P cf t o H with
   |some (v,H)=>match jk n o.dst v t with
    |some t=>wg cf n ops r t H|none=>none
   |none=>none
  |some false=>match jk n o.dst bP t with
   |some t=>wg cf n ops r t H|none=>none
  |none=>none
structure lX where
 i:Nat
 o:Oper
 b:Nat
 x:Bool
 k:Kd
 v:AV
 t:Tm
 hb:Hp
 ha:Hp
def nf (cf:CF)(n:Nat)(ops:Array Oper):Nat->List Oper->List Nat->Tm->Tm->Hp->Hp->Option (List lX×Tm×Hp)
 |_,[],_,_,te,_,h=>some ([],te,h)|_,_::_,[],_,_,_,_=>none|i,o::r,b::bs,tp,te,hb,h=>
  match sQ ops o tp with
  |some true=>
   match kd P o with
   |.late=>
    match jQ P (ev P.globals.size te) o h with
    |some (v,h')=>
     match jk n o.dst .dG tp,jk n o.dst v te with
     |some mA,some mn=>(nf cf n ops (i+1) r bs mA mn hb h').map λx=>(⟨i,o,b,true,.late,v,tp,hb,hb⟩::x.1,x.2)
     |_,_=>none
    |none=>none
   |.dP=>
    match si P cf te o h with
    |some (v,h')=>
     match jk n o.dst v tp,jk n o.dst v te with
     |some mA,some mn=>(nf cf n ops (i+1) r bs mA mn h' h').map λx=>(⟨i,o,b,true,.dP,v,tp,hb,h'⟩::x.1,x.2)
     |_,_=>none
    |none=>none
   |k=>
    match jQ P (ev P.globals.size tp) o hb with
    |some (v,_)=>
     match jk n o.dst v tp,jk n o.dst v te with
     |some mA,some mn=>(nf cf n ops (i+1) r bs mA mn hb h).map λx=>(⟨i,o,b,true,k,v,tp,hb,hb⟩::x.1,x.2)
     |_,_=>none
    |none=>none
  |some false=>
   match jk n o.dst bP tp,jk n o.dst bP te with
   |some mA,some mn=>(nf cf n ops (i+1) r bs mA mn hb h).map λx=>(⟨i,o,b,false,.pure,bP,tp,hb,hb⟩::x.1,x.2)
   |_,_=>none
  |none=>none
def tmpsOf (o:Oper):List Tmp:=o.op.operands.toList.filterMap λ|.tmp t=>some t|_=>none
def Le (ops:Array Oper)(o:Oper):Option Tmp:=o.guard.bind λg=>(ops[g.1]?).bind (·.dst)
def JE (ops:Array Oper)(o:Oper)(d:Tmp):Bool:=(tmpsOf o).contains d||Le ops o==some d
def Q4 (ops:Array Oper)(i:Nat)(oi:Oper)(bi:Nat)(j:Nat)(oj:Oper)(bj:Nat):Bool:=
 match oi.dst with
 |none=>true|some d=>Nat.beq i j||(!(oj.dst==some d)&&(!(JE ops oj d)||(bif Nat.blt i j then bj.testBit i else bi.testBit j)))
def AD (ops:Array Oper):Bool:=
 let l:=ops.toList.zip (before ops.toList []);let z:=(List.range ops.size).zip l
 z.all λx=>(x.2.1.after.all λe=>!(Region.binds .any e)||Nat.blt e.on x.1)&&z.all λy=>Q4 ops x.1 x.2.1 x.2.2 y.1 y.2.1 y.2.2
def xR (s:lX)(H:Hp):Bool:=
 match jQ P (ev P.globals.size s.t) s.o H with
 |some (v,_)=>same s.v v|none=>false
def FZ (l:List lX):Bool:=
 l.all λs=>match s.k with
  |.dP=>l.all λr=>match r.k with
   |.dP|.late=>!(Nat.blt r.i s.i)||s.b.testBit r.i|.read=>bif Nat.blt r.i s.i then s.b.testBit r.i||xR P r s.ha else r.b.testBit s.i||xR P r s.hb
   |.pure=>true
  |_=>true
def FQ (cf:CF)(n:Nat)(ops:Array Oper)(t:Tm)(H:Hp):Option (Tm×Hp):=
 bif AD ops then
  match nf P cf n ops 0 ops.toList (before ops.toList []) t t H H with
  |some (l,t,H)=>bif FZ P l then some (t,H) else none
  |none=>none
 else none
def xK (t:Tm)(H:Hp):List ResultVar->Option (List AV)
 |[]=>some []|.tmp x::r=>match xK t H r with
  |some l=>some ((t.get x).getD bP::l)|none=>none
 |.cell a ty::r=>match wH P H ty ((t.get a).getD bP),xK t H r with
  |some v,some l=>some (v::l)|_,_=>none
def QY:List AV->AV
 |[v]=>v|l=>.tuple l
def IV (run:Nat->Code->Tm->Hp->Option (X×Tm×Hp)):CF:=λg args H=>
 match g with
 |.func (.func aV) first cap=>
  match bH aV with
  |some p=>p (first++args++cap) H|none=>
   match P.funcs[aV]? with
   |some fn=>
    match fn.body with
    |some b=>
     bif Nat.ble (first++args++cap).length fn.ntmps&&Nat.blt fn.ntmps 4294967296 then
      match run fn.ntmps b (Tr.cz .nil 0 (first++args++cap)) H with
      |some (.exit _,_,_)=>none|some (_,t,H)=>(xK P t H fn.results.toList).map λl=>(QY l,H)
      |none=>none
     else none
    |none=>match ext aV with
     |some k=>Iq P k (first++args++cap) H|none=>none
   |none=>none
 |_=>none
def code:Nat->Nat->Code->Tm->Hp->Option (X×Tm×Hp)
 |0,_,_,_,_=>none|f+1,n,c,t,H=>
  match c with
  |.skip=>some (.normal,t,H)|.label _=>some (.normal,t,H)|.seq a b=>
   match code f n a t H with
   |some (.normal,t,H)=>code f n b t H|r=>r
  |.cond c a b=>match ev P.globals.size t c with
   |.bool x=>bif x then code f n a t H else code f n b t H
   |_=>none
  |.block i b=>
   match code f n b t H with
   |some (.exit j,t,H)=>bif Nat.beq j i then some (.normal,t,H) else some (.exit j,t,H)
   |r=>r
  |.loop b=>
   match code f n b t H with
   |some (.normal,t,H)=>code f n (.loop b) t H|r=>r
  |.exit i=>some (.exit i,t,H)|.ret=>some (.ret,t,H)|.region _ ops d=>
   match (bif d then FQ P (IV P ext bH (code f)) n ops t H else wg P (IV P ext bH (code f)) n ops ops.toList t H) with
   |some (t,H)=>some (.normal,t,H)|none=>none
  |_=>none
def Q7 (fuel:Nat)(g:Nat)(args:List AV)(H:Hp):Option (AV×Hp):=IV P ext bH (code P ext bH fuel) (.func (.func g) [] []) args H
def S4 (r:Option (AV×Hp)):Bool:=match r with|some (.bool true,_)=>true|_=>false
end
structure Em where
 b:Nat->Nat
 d:Nat->Int
 n:Nat->Nat
 N:Nat
def Em.le (e e':Em):Prop:=e.N<=e'.N/\∀i,i<e.N->e'.b i=e.b i/\e'.d i=e.d i/\e'.n i=e.n i
theorem Em.le_refl (e:Em):e.le e:=⟨aaq _,λ_ _=>⟨rfl,rfl,rfl⟩⟩
theorem Em.le_trans {a b c:Em}(h:a.le b)(k:b.le c):a.le c:=
 ⟨afi h.1 k.1,λi hi=>by grind [Em.le]⟩
inductive VR (e:Em):AV->Value->Prop
 |dG (v:Value):VR e .dG v
 |bool (b:Bool):VR e (.bool b) (.bool b)
 |int (k:IntKind) (n:Int):VR e (.int k n) (.int k n)
 |str (s:ByteArray):VR e (.str (bytes s)) (.string s)
 |dE:VR e .dE (.pointer none)
 |ptr (i off o:Nat) (hi:i<e.N) (ho:(o:Int)=off+e.d i):VR e (.ptr i off) (.pointer (some ⟨e.b i,o,none⟩))
 |ah:VR e .ah (.slice none 0 0)
 |slice (i off len cap:Nat) (ex:Bool) (es o c:Nat) (hi:i<e.N) (ho:(o:Int)=off+e.d i) (hl:len<=c) (hc:cap<=c) (hx:ex=true->c=cap) (hn:o+c*es<=e.n i):
   VR e (.slice i off len cap ex es) (.slice (some ⟨e.b i,o,none⟩) len c)
 |EG (i off:Nat) (ex:Bool) (es:Nat) (a:Addr):VR e (.slice i off 0 0 ex es) (.slice (some a) 0 0)
 |lz:VR e .lz (.map none)
 |map (i:Nat) (hi:i<e.N):VR e (.map i) (.map (some (e.b i)))
 |func (fn:Fn) (hf:∀l,fn ≠ .yield l) (a c:List AV) (a' c':Array Value) (ha:a'.toList.length=a.length) (hc:c'.toList.length=c.length)
   (h1:∀(i:Nat) (v:AV) (v':Value),a[i]?=some v->a'.toList[i]?=some v'->VR e v v') (h2:∀(i:Nat) (v:AV) (v':Value),c[i]?=some v->c'.toList[i]?=some v'->VR e v v'):
   VR e (.func fn a c) (.func fn a' c')
 |nilFunc:VR e .nilFunc .nilFunc
 |nilIface:VR e .nilIface .nilIface
 |iface (t:TypeId) (v:AV) (v':Value) (h:VR e v v'):VR e (.iface t v) (.iface t v')
 |agg (l:List AV) (vs:Array Value) (hl:vs.toList.length=l.length) (h:∀(i:Nat) (v:AV) (v':Value),l[i]?=some v->vs.toList[i]?=some v'->VR e v v'):VR e (.agg l) (.agg vs)
 |tuple (l:List AV) (vs:Array Value) (hl:vs.toList.length=l.length) (h:∀(i:Nat) (v:AV) (v':Value),l[i]?=some v->vs.toList[i]?=some v'->VR e v v'):VR e (.tuple l) (.tuple vs)
section
variable {a l:List AV}{e e':Em}{i m:Nat}{v':Value}{vs x:List Value}
theorem VR.mono (h:e.le e'){v:AV}(hv:VR e v v'):VR e' v v':=by
 induction hv <;> grind [VR, Em.le]
def aR (e:Em)(l:List AV)(vs:List Value):Prop:=vs.length=l.length/\∀(i:Nat) (v:AV) (v':Value),l[i]?=some v->vs[i]?=some v'->VR e v v'
theorem aR.nil (e:Em):aR e [] []:=⟨rfl,zzy⟩
theorem aR.cons {e:Em}{v:AV}{v':Value}{l:List AV}{vs:List Value}(h:VR e v v')(k:aR e l vs):aR e (v::l) (v'::vs):=by
 grind [aR]
theorem aR.mc (h:aR e [] vs):vs=[]:=by simpa using h.1
theorem aR.cons_inv {v:AV}(h:aR e (v::l) vs):∃v' ws,vs=v'::ws/\VR e v v'/\aR e l ws:=by
 cases vs with
 |nil=>grind [aR]|cons v' ws=>exact⟨v',ws,rfl,h.2 0 v v' rfl rfl,by grind [aR],λi a b ha hb=>h.2 (i+1) a b (by grind) (by grind)⟩
theorem aR.append {b:List AV}{y:List Value}(h:aR e a x)(k:aR e b y):aR e (a++b) (x++y):=by
 grind [aR]
theorem aR.take (n:Nat)(h:aR e a x):aR e (a.take n) (x.take n):=by
 grind [aR]
theorem aR.drop (n:Nat)(h:aR e a x):aR e (a.drop n) (x.drop n):=by grind [aR]
theorem aR.get (h:aR e a x){v:AV}(hv:a[i]?=some v):∃v',x[i]?=some v'/\VR e v v':=by
 have hx:i<x.length:=by rw[h.1];grind
 exact⟨x[i],aai hx,h.2 i v _ hv (aai hx)⟩
theorem aR.map {ρ:Operand->AV}{σ:Operand->Value}(h:∀x,VR e (ρ x) (σ x)):∀l:List Operand,aR e (l.map ρ) (l.map σ)
 := by grind [AV, VR, aR]
theorem VR.acN (h:aR e l vs):VR e (.agg l) (.agg vs.toArray):= by grind [aR, VR]
theorem VR.tuple' (h:aR e l vs):VR e (.tuple l) (.tuple vs.toArray):= by grind [aR, VR]
theorem rq {n:Nat}(h:n≠m):Nat.beq n m=false:=by
 grind [aaY]
theorem zW (n:Nat):Nat.beq n n=true:=aiw n
end
namespace Tr
variable {α:Type}
def dec:Pa->Nat
 |.e=>0|.a p=>4*dec p+1|.b p=>4*dec p+2|.c p=>4*dec p+3|.d p=>4*dec p+4
theorem VO:∀(f n:Nat),n<f->dec (Fk f n)=n
 |0,n,h=>zzz|f+1,n,h=>by
  have ih:=λk (hk:k<f)=>VO f k hk;rw[Fk];by_cases h0:n=0;·subst h0;rfl
  ·have aN:(n-1) / 4<f:=zzz;have QA:=ih _ aN;rw[rq h0,cond_false];by_cases q0:(n-1)%4=0;·rw[q0,zW,cond_true,dec,QA];omega
   ·rw[rq q0,cond_false];by_cases q1:(n-1)%4=1;·rw[q1,zW,cond_true,dec,QA];omega
    ·rw[rq q1,cond_false];by_cases q2:(n-1)%4=2;·rw[q2,zW,cond_true,dec,QA];omega
     ·rw[rq q2,cond_false,dec,QA];omega
theorem aHu {n m:Nat}(h:pathOf n=pathOf m):n=m:=by have h1:=VO (n+1) n (ahL _);simp_all [VO, pathOf]
theorem Bn:∀p:Pa,vJ p (.nil:Tr α)=none
 |.e=>rfl|.a p=>Bn p|.b p=>Bn p|.c p=>Bn p|.d p=>Bn p
theorem get_nil (n:Nat):(.nil:Tr α).get n=none:=Bn _
theorem aAY:∀(p q:Pa) (x:Option α) (t:Tr α),vJ q (mI p x t)=if q=p then x else vJ q t:=by
 intro p;induction p with
 |e=>intro q x t;cases q<;>simp[vJ,mI,val,c0,c1,c2,c3]|a p ih=>intro q x t;cases q<;>simp[vJ,mI,val,c0,c1,c2,c3,ih]|b p ih=>intro q x t;cases q<;>simp[vJ,mI,val,c0,c1,c2,c3,ih]|c p ih=>intro q x t;cases q<;>simp[vJ,mI,val,c0,c1,c2,c3,ih]|d p ih=>intro q x t;cases q<;>simp[vJ,mI,val,c0,c1,c2,c3,ih]
theorem gE (t:Tr α)(n m:Nat)(x:Option α):(mI (pathOf n) x t).get m=if m=n then x else t.get m:=by
 unfold get;rw[aAY];by_cases h:m=n;·grind
 ·rw[zz1 h,zz1 (λq=>h (aHu q))]
theorem Ex (t:Tr α):∀(n:Nat) (x:α) (m:Nat),(t.get n).isSome=true->(t.bW n x).get m=if m=n then some x else t.get m:=λn x m _=>gE t n m (some x)
theorem NI (t:Tr α):∀(n m:Nat),(t.del n).get m=if m=n then none else t.get m:=λn m=>gE t n m none
theorem Om:∀(f:Nat) (t:Tr α) (n:Nat) (x:α) (m:Nat),n+1<2^f->(t.put f n x).get m=if m=n then some x else t.get m:=λf t n x m _=>gE t n m (some x)
theorem zj:∀(l:List α) (t:Tr α) (n m:Nat),(t.cz n l).get m=if n<=m/\m<n+l.length then l[m-n]? else t.get m
 |[],t,n,m=>by grind [cz]
 |x::l,t,n,m=>by
  rw[cz,zj l,put,gE]; grind
theorem Jv (t:Tr α):∀(l:List α) (t:Tr α) (n m:Nat),n+l.length<17000000000->(t.cz n l).get m=if n<=m/\m<n+l.length then l[m-n]? else t.get m:=by
 intro l;induction l with
 |nil=>grind [cz]|cons x xs ih=>
  intro t n m h;simp only[aau] at h;rw[cz,ih _ _ _ zzz,Om _ _ _ _ _ zzz]; grind
end Tr
end
def jm (e:Em)(es:List ME)(es':List MapEntry):Prop:=
 es'.length=es.length/\∀(i:Nat) (m:ME) (m':MapEntry),es[i]?=some m->es'[i]?=some m'->VR e m.key m'.key/\VR e m.val m'.val
inductive OR (e:Em) (i:Nat):AO->Obj->Prop
 |cells (c:Tr AV) (lo hi:Nat) (el:TypeId) (fl:Nat) (C:Array Value) (fz:Nat×Nat) (hn:C.size=e.n i)
   (hc:∀(k:Nat) (v:AV),lo<=k->k<hi->c.get k=some v->∃k':Nat,(k':Int)=k+e.d i/\∃v',C[k']?=some v'/\VR e v v')
   (h0:fl=0->fz=(0,0)) (h1:fl<=1->∀k,k<C.size->(decide (fz.1<=k)&&decide (k<fz.2))=false) (hd:lo=0->e.d i=0):OR e i (.cells c lo hi el fl) (.cells C el fz)
 |map (es:List ME) (c:Nat) (es':Array MapEntry) (c':Nat) (fs:List MapEntry) (hp:fs.Perm es'.toList) (h:jm e es fs) (hn:(fs.map (·.born)).Nodup) (hb:∀x∈fs,x.born<c'):OR e i (.map es c) (.map es' c')
 |vS (s:List Nat) (pos:Nat) (s':ByteArray) (h:bytes s'=s) (hd:e.d i=0):OR e i (.vS s pos) (.stringIter s' pos)
 |afd (a:Nat) (b:List Nat) (c:Nat) (a':Nat) (b':Array Nat) (c':Nat) (hd:e.d i=0):OR e i (.xQ none a b c) (.mapIter none a' b' c')
 |xQ (m since:Nat) (seen:List Nat) (st:Nat) (hm:m<e.N) (hd:e.d i=0):OR e i (.xQ (some m) since seen st) (.mapIter (some (e.b m)) since seen.toArray st)
theorem jm.mono {e e':Em}(h:e.le e'){es:List ME}{es':List MapEntry}(k:jm e es es'):jm e' es es':=
 ⟨k.1,λi m m' hm nZ=>let ⟨a,b⟩:=k.2 i m m' hm nZ;⟨a.mono h,b.mono h⟩⟩
theorem OR.mono {e e':Em}(h:e.le e'){i:Nat}(hi:i<e.N){o:AO}{ob:Obj}(k:OR e i o ob):OR e' i o ob:=by
 obtain⟨x,y,z⟩:=h.2 i hi;cases k with
 |cells c lo hi el fl C fz hn hc h0 h1 hd=>
  refine .cells c lo hi el fl C fz (hn.trans z.symm) ?_ h0 h1 (λq=>by grind);intro k v a b hk;obtain⟨k',se,v',bT,hr⟩:=hc k v a b hk;exact⟨k',by grind,v',bT,hr.mono h⟩
 |map es c es' c' fs hp hm hn hb=>exact .map es c es' c' fs hp (hm.mono h) hn hb|vS s pos s' hs hd=>grind [OR]|afd a b c a' b' c' hd=>grind [OR]|xQ m since seen st hm hd=>
  grind [OR, Em.le]
def wr:AO->Bool
 |.cells _ _ _ _ fl=>Nat.ble fl 1|_=>true
structure RH (G:Nat)(F:Nat->Prop)(W:World)(e:Em)(H:Hp)(w:World):Prop where
 N:e.N=H.next
 obj:∀i o,H.h.get i=some o->i<e.N/\∃ob,w.heap[e.b i]?=some ob/\OR e i o ob/\(wr o=true\/e.n G<=e.b i->¬F (e.b i))
 inj:∀i j oi oj,H.h.get i=some oi->H.h.get j=some oj->(wr oi=true\/e.n G<=e.b i)->e.b i=e.b j->i=j
 tI:∀g,g<G->g<e.N/\e.b g=g/\e.d g=0
 frame:∀k,F k->k<w.heap.size/\w.heap[k]?=W.heap[k]?
 os:w.os=W.os
 tape:w.tape=W.tape
 output:w.output=W.output
 size:W.heap.size<=w.heap.size
 nK:G<=w.heap.size/\G<e.N/\e.n G<=w.heap.size
section
variable {G:Nat}{F:Nat->Prop}{W:World}{e:Em}{H:Hp}{w:World}
theorem RH.drawn (h:RH G F W e H w)(n:Nat):RH G F W e H {w with drawn:=n}:= by grind [RH]
theorem RH.MD (h:RH G F W e H w){F':Nat->Prop}{W':World}(hF:∀k,F' k->k<w.heap.size/\w.heap[k]?=W'.heap[k]?)(hw:∀i o,H.h.get i=some o->wr o=true\/e.n G<=e.b i->¬F' (e.b i))
  (os:w.os=W'.os) (tape:w.tape=W'.tape) (output:w.output=W'.output) (size:W'.heap.size<=w.heap.size):RH G F' W' e H w:=
 ⟨h.N,λi o ho=>let ⟨a,ob,b,c,_⟩:=h.obj i o ho;⟨a,ob,b,c,hw i o ho⟩,h.inj,h.tI,hF,os,tape,output,size,h.nK⟩
section
variable {H':Hp}{i off:Nat}{o:AO}{ob:Obj}{v':Value}{α:Type}
theorem Uo {v:AV}(h:cellAt H i off=some v):∃c lo hi el fl,H.h.get i=some (.cells c lo hi el fl)/\lo<=off/\off<hi/\c.get off=some v:=by
 unfold cellAt at h;split at h
 ·rename_i c lo hi el fl hg;cases hb:(Nat.ble lo off&&Nat.blt off hi) with
  |false=>grind
  |true=>
   simp only[aam,aeF,aeg] at hb; grind
 grind
theorem RH.load (h:RH G F W e H w){v:AV}(hc:cellAt H i off=some v):i<e.N/\∃o:Nat,(o:Int)=off+e.d i/\∃v',w.cell? ⟨e.b i,o,none⟩=some v'/\VR e v v':=by
 obtain⟨c,lo,hi,el,fl,hg,iL,lD,hv⟩:=Uo hc;obtain⟨hN,ob,eW,eN,_⟩:=h.obj i _ hg;grind [World.cell?, OR]
theorem RH.aa1 (h:RH G F W e H w){o:Nat}{v:AV}(hc:cellAt H i off=some v)(ho:(o:Int)=off+e.d i):o<e.n i:=by
 obtain⟨c,lo,hi,el,fl,hg,iL,lD,hv⟩:=Uo hc;obtain⟨hN,ob,eW,eN,_⟩:=h.obj i _ hg;grind [OR]
theorem VR.adx {v:AV}(h:VR e v v')(ho:aW v=true):v'.oneCell'=true:=by grind [Value.oneCell', VR, aW]
theorem aGr {v:AV}(h:setCell H i off v=some H'):∃c lo hi el fl,H.h.get i=some (.cells c lo hi el fl)/\lo<=off/\off<hi/\fl<=1/\(c.get off).isSome=true/\aW v=true/\
  H'={H with h:=H.h.bW i (.cells (c.bW off v) lo hi el fl)}:=by
 unfold setCell at h;split at h
 ·rename_i c lo hi el fl hg;cases hb:(Nat.ble lo off&&Nat.blt off hi&&Nat.ble fl 1&&(c.get off).isSome&&aW v) with
  |false=>grind
  |true=>
   simp only[aam,aeF,aeg] at hb; grind
 grind
theorem J0 (a:Array α)(k:Nat)(f:α->α){x:α}(h:a[k]?=some x):(a.modify k f)[k]?=some (f x):=by grind
theorem I7 (a:Array α)(k j:Nat)(f:α->α)(h:k≠j):(a.modify k f)[j]?=a[j]?:=by grind
theorem RH.put (h:RH G F W e H w){o':AO}(hg:H.h.get i=some o)(hw:wr o=true){su:Obj}{w':World}
  (fK:w'.heap.size=w.heap.size) (hb:w'.heap[e.b i]?=some su) (aE:∀k,k≠e.b i->w'.heap[k]?=w.heap[k]?)
  (eN:OR e i o' su) (os:w'.os=w.os) (tape:w'.tape=w.tape) (output:w'.output=w.output):RH G F W e {H with h:=H.h.bW i o'} w':=by
 have fP:∀j,(H.h.bW i o').get j=if j=i then some o' else H.h.get j:=λj=>Tr.Ex _ _ _ _ (by grind)
 refine⟨h.N,?_,?_,h.tI,?_,os.trans h.os,tape.trans h.tape,output.trans h.output,by rw[fK];exact h.size,by rw[fK];exact h.nK⟩
 ·intro j oj hj;grind [OR, wr, RH, Tr.get, Tr.bW]
 ·intro j k oj ok hj hk hq he;by_cases ej:j=i <;> grind [RH, Tr.get, wr, OR, Tr.bW]
 grind [RH]
theorem RH.store (h:RH G F W e H w){v:AV}(hs:setCell H i off v=some H')(hv:VR e v v'):
  i<e.N/\∃o:Nat,(o:Int)=off+e.d i/\(w.cell? ⟨e.b i,o,none⟩).isSome=true/\w.frozen? ⟨e.b i,o,none⟩=false/\v'.oneCell'=true/\RH G F W e H' (w.setCell ⟨e.b i,o,none⟩ v'):=by
 obtain⟨c,lo,hi,el,fl,hg,iL,lD,nN,ajT,h1c,rfl⟩:=aGr hs;obtain⟨hN,ob,eW,eN,hF⟩:=h.obj i _ hg;obtain⟨v0,I5⟩:=aiN.1 ajT;cases eN with
 |cells _ _ _ _ _ C fz hn jI h0 h1 hd=>
  obtain⟨k',se,v0',aoG,hr⟩:=jI off v0 iL lD I5;have iw:k'<C.size:=(abW.1 aoG).1;refine⟨hN,k',se,by simp[World.cell?,eW,aoG],?_,hv.adx h1c,?_⟩;·have:=h1 nN k' iw;simp only[World.frozen?,eW];exact this
  ·refine h.put hg (by simp[wr,nN]) (su:=.cells (C.setIfInBounds k' v') el fz) ?_ ?_ ?_ ?_ rfl rfl rfl;·simp[World.setCell]
   ·simp only[World.setCell];rw[J0 _ _ _ eW];rfl
   ·intro k hk;simp only[World.setCell];rw[I7 _ _ _ _ (λe=>hk e.symm)]
   ·refine .cells _ lo hi el fl _ fz (by simpa using hn) ?_ h0 (by simpa using h1) hd;intro k u a b hk;rw[Tr.Ex _ _ _ _ ajT] at hk;by_cases ek:k=off;·subst ek;rw[zz2 rfl] at hk;cases hk;exact⟨k',se,v',by simp[iw],hv⟩
    ·rw[zz1 ek] at hk;obtain⟨k2,Dv,u',kI,dH⟩:=jI k u a b hk;refine⟨k2,Dv,u',?_,dH⟩;rw[aeT zzz];exact kI
def Em.ext (e:Em)(b:Nat)(d:Int)(n:Nat):Em:=
 {b:=λi=>if i=e.N then b else e.b i,d:=λi=>if i=e.N then d else e.d i,n:=λi=>if i=e.N then n else e.n i,N:=e.N+1}
theorem Em.sE (e:Em)(b:Nat)(d:Int)(n:Nat):e.le (e.ext b d n):=
 ⟨agD _,λi hi=>by grind [Em.ext]⟩
theorem Em.pP (e:Em)(b:Nat)(d:Int)(n:Nat):(e.ext b d n).b e.N=b:=by simp[Em.ext]
theorem Em.pQ (e:Em)(b:Nat)(d:Int)(n:Nat):(e.ext b d n).d e.N=d:=by simp[Em.ext]
theorem Em.AM (e:Em)(b:Nat)(d:Int)(n:Nat):(e.ext b d n).n e.N=n:=by simp[Em.ext]
theorem AS (h:alloc H o=some (i,H')):i=H.next/\True/\H'=⟨H.h.put 34 H.next o,H.next+1⟩:=by grind [alloc]
theorem RH.alloc (h:RH G F W e H w)(ha:Am.alloc H o=some (i,H')){d:Int}{n:Nat}
  (eN:OR (e.ext w.heap.size d n) i o ob):i=e.N/\RH G F W (e.ext w.heap.size d n) H' {w with heap:=w.heap.push ob}:=by
 obtain⟨rfl,aN,rfl⟩:=AS ha;have hN:=h.N;have fP:∀j,(H.h.put 34 H.next o).get j=if j=H.next then some o else H.h.get j:=λj=>Tr.gE _ _ _ _
 have hle:=Em.sE e w.heap.size d n;have gI:∀j oj,H.h.get j=some oj->(e.ext w.heap.size d n).b j=e.b j/\e.b j<w.heap.size:=by intro j oj hj;obtain⟨a,sW,b2,_,_⟩:=h.obj j oj hj;exact⟨(hle.2 j a).1,(abW.1 b2).1⟩
 refine⟨hN.symm,?_,?_,?_,?_,?_,h.os,h.tape,h.output,by simp;have:=h.size;omega,by obtain⟨g1,g2,g3⟩:=h.nK;rw[(hle.2 G g2).2.2];simp[Em.ext];omega⟩;·simp[Em.ext,hN]
 ·intro j oj hj;rw[fP] at hj;by_cases ej:j=H.next
  ·subst ej;rw[zz2 rfl] at hj;cases hj;refine⟨by simp[Em.ext,hN],ob,?_,eN,?_⟩;·rw[<-hN,Em.pP];simp
   ·intro _ hF;rw[<-hN,Em.pP] at hF;have:=(h.frame _ hF).1;omega
  ·rw[zz1 ej] at hj;obtain⟨a,sW,b2,c2,d2⟩:=h.obj j oj hj;obtain⟨q,r⟩:=gI j oj hj;refine⟨by simp[Em.ext];omega,sW,?_,c2.mono hle a,?_⟩;·rw[q,ak4,zz1 zzz];exact b2
   ·intro hw;rw[q,(hle.2 G h.nK.2.1).2.2] at hw;rw[q];exact d2 hw
 ·intro j k oj ok hj hk hq he;rw[fP] at hj hk;by_cases ej:j=H.next<;>by_cases ek:k=H.next;·omega
  ·rw[zz1 ek] at hk;obtain⟨q,r⟩:=gI k ok hk;rw[q,ej,<-hN,Em.pP] at he;omega
  ·rw[zz1 ej] at hj;obtain⟨q,r⟩:=gI j oj hj;rw[q,ek,<-hN,Em.pP] at he;omega
  ·rw[zz1 ej] at hj;rw[zz1 ek] at hk;rw[(gI j oj hj).1,(hle.2 G h.nK.2.1).2.2] at hq;rw[(gI j oj hj).1,(gI k ok hk).1] at he;exact h.inj j k oj ok hj hk hq he
 ·intro g hg;obtain⟨a,b,c⟩:=h.tI g hg;obtain⟨x,y,_⟩:=hle.2 g a;exact⟨by simp[Em.ext];omega,x.trans b,y.trans c⟩
 ·intro k hk;obtain⟨a,b⟩:=h.frame k hk;refine⟨by simp;omega,?_⟩;simp only;rw[ak4,zz1 zzz];exact b
end
end
end
section
variable {P:Program}{G:Nat}{F:Nat->Prop}{W:World}{e:Em}{H:Hp}{w:World}
theorem aL {t:TypeId}{d:TypeDesc}(h:P.underlying t=some d)(w:World):(underlying t).run P w=.ok d w:=by simp[underlying,h]
theorem sM {t:TypeId}{i:TypeInfo}(h:P.info? t=some i)(w:World):(typeInfo t).run P w=.ok i w:=by simp[typeInfo,h]
theorem jq {t:TypeId}{n:Nat}(h:sz P t=some n)(w:World):(sizeOf t).run P w=.ok n w:=by
 unfold sz at h;cases hi:P.info? t with
 |none=>grind|some i=>
  simp_all [sizeOf, typeInfo]
theorem RU {t:TypeId}{b:Bool}(h:Ah P t=some b)(w:World):(isAgg t).run P w=.ok b w:=by
 unfold Ah at h;cases hu:P.underlying t with
 |none=>grind|some d=>
  simp only[hu,ael,acM] at h;simp only[isAgg,Sem.run_bind,aL hu,Result.andThen_ok];subst h;cases d<;>rfl
section
variable {H':Hp}{a' v':Value}{el:TypeId}{i off:Nat}{l:List AV}
theorem RH.Ds (h:RH G F W e H w):∀{n off:Nat} {l:List AV} {o:Nat},av H i off n=some l->(o:Int)=off+e.d i->
  ∃cs:List Value,aR e l cs/\cs.length=n/\∀j v,cs[j]?=some v->w.cell? ⟨e.b i,o+j,none⟩=some v:=by
 intro n;induction n with
 |zero=>
  simp_all [av, aR]
 |succ n ih=>
  intro off l o hc ho;simp only[av,abY,Option.pure_def,aaC,acM] at hc;obtain⟨v,hv,r,hr,rfl⟩:=hc;obtain⟨_,o',gO,v',bT,jy⟩:=h.load hv;have:o'=o:=zzz;subst this;obtain⟨cs,h1,h2,h3⟩:=ih (o:=o'+1) hr zzz;refine⟨v'::cs,.cons jy h1,by simp[h2],λj u hj=>?_⟩;cases j with
  |zero=>simp at hj;subst hj;exact bT|succ j=>have:=h3 j u (by simpa using hj);rw[show o'+(j+1)=o'+1+j by omega];exact this
theorem RH.Rc:∀{l:List AV} {cs:List Value} {H H':Hp} {w:World} {i off k:Nat} {o:Nat},RH G F W e H w->setCells H i (off+k) l=some H'->aR e l cs->(o:Int)=off+e.d i->
  ∃w',(storeCells ⟨e.b i,o,none⟩ cs k).run P w=.ok () w'/\RH G F W e H' w':=by
 intro l;induction l with
 |nil=>
  intro cs H H' w i off k o h hs hl ho;simp only[setCells,acM] at hs;rw[hl.mc];simp_all [storeCells]
 |cons v l ih=>
  intro cs H H' w i off k o h hs hl ho;simp only[setCells,abY,aaC] at hs;obtain⟨H1,h1,h2⟩:=hs;obtain⟨v',ws,rfl,hv,q8⟩:=hl.cons_inv;obtain⟨_,o',gO,c1,c2,c3,hr⟩:=h.store h1 hv;have:o'=o+k:=zzz;obtain⟨w',rK,dH⟩:=ih (off:=off) (k:=k+1) hr h2 q8 ho;obtain⟨u,hu⟩:=aiN.1 c1;have ha:(Addr.add ⟨e.b i,o,none⟩ k)=⟨e.b i,o+k,none⟩:=by
   grind [Addr.add]
  simp_all [storeCells, run_store]
theorem VR.cells {v:AV}(h:VR e v v')(hc:uE v=some l):aR e l v'.cells.toList:=by grind [aR, Value.cells, VR, uE]
theorem add_lit (b o k:Nat):Addr.add ⟨b,o,none⟩ k=⟨b,o+k,none⟩:=by
 grind [Addr.add]
theorem VR.tG (h:VR e (.ptr i off) v'):∃o:Nat,i<e.N/\(o:Int)=off+e.d i/\v'=.pointer (some ⟨e.b i,o,none⟩):=by
 grind [VR]
theorem VR.il {k:IntKind}{n:Int}(h:VR e (.int k n) v'):v'=.int k n:=by cases h;rfl
theorem VR.wj {b:Bool}(h:VR e (.bool b) v'):v'=.bool b:=by cases h;rfl
theorem VR.oc {s:List Nat}(h:VR e (.str s) v'):∃b,s=bytes b/\v'=.string b:=by
 grind [VR]
theorem VR.Aj (h:VR e (.agg l) v'):∃vs:Array Value,v'=.agg vs/\aR e l vs.toList:=by
 grind [aR, VR]
theorem VR.aj7 (h:VR e (.tuple l) v'):∃vs:Array Value,v'=.tuple vs/\aR e l vs.toList:=by
 grind [aR, VR]
theorem VR.Kk (h:VR e (.map i) v'):i<e.N/\v'=.map (some (e.b i)):=by
 grind [VR]
theorem VR.nL {len cap:Nat}{ex:Bool}{es:Nat}(h:VR e (.slice i off len cap ex es) v'):
  (∃o c:Nat,i<e.N/\(o:Int)=off+e.d i/\len<=c/\cap<=c/\(ex=true->c=cap)/\o+c*es<=e.n i/\v'=.slice (some ⟨e.b i,o,none⟩) len c)\/
  (len=0/\cap=0/\∃a,v'=.slice (some a) 0 0):=by
 grind [VR]
theorem adw (h:RH G F W e H w){t:TypeId}{a v:AV}(ha:VR e a a')(hl:wH P H t a=some v):
  ∃v',(Instr.loadAt t a').run P w=.ok v' w/\VR e v v':=by
 unfold wH at hl;split at hl
 ·rename_i i off;simp only[abY,aaC] at hl;obtain⟨b,hb,hl⟩:=hl;obtain⟨o,hi,ho,rfl⟩:=ha.tG;cases b with
  |true=>
   simp only[if_true,Option.pure_def,aaC,acM] at hl;obtain⟨n,hn,l,hl,rfl⟩:=hl;obtain⟨cs,h1,h2,h3⟩:=h.Ds hl ho;refine⟨.agg cs.toArray,?_,.acN h1⟩;have:=run_loadCells_list (P:=P) w ⟨e.b i,o,none⟩ cs (λj v hj=>by grind [add_lit]);simp_all [Instr.loadAt, Instr.sureAddr, loadVar, RU, jq]
  |false=>
   obtain⟨_,o',gO,v',bT,hr⟩:=h.load hl;have:o'=o:=zzz;simp_all [Instr.loadAt, Instr.sureAddr, loadVar, RU]
 grind
theorem arI (h:RH G F W e H w){t:TypeId}{a v:AV}(ha:VR e a a')(hv:VR e v v')(hs:Lh P H t a v=some H'):
  ∃w',(Instr.storeAt t a' v').run P w=.ok () w'/\RH G F W e H' w':=by
 unfold Lh at hs;split at hs
 ·rename_i i off;simp only[abY,aaC] at hs;obtain⟨cs,gS,n,hn,hs⟩:=hs;obtain⟨o,hi,ho,rfl⟩:=ha.tG;split at hs
  ·have hl:=hv.cells gS;obtain⟨w',rK,hr⟩:=RH.Rc (P:=P) (off:=off) (k:=0) h hs hl ho;refine⟨w',?_,hr⟩;have fK:v'.cells.size=n:=by have:=hl.1;grind
   simp[Instr.storeAt,Instr.sureAddr,storeVar,jq hn,fK,rK]
  grind
 grind
theorem SH {fl:Nat}(h:aA H l el fl=some (i,H')):
  l.length<=16777216/\Am.alloc H (.cells (Tr.cz .nil 0 l) 0 l.length el fl)=some (i,H'):=by
 unfold aA at h;cases hb:Nat.ble l.length 16777216 <;> simp_all
theorem RH.newRow (h:RH G F W e H w){cs rest:List Value}{fl:Nat}{fz:Nat×Nat}(hn:aA H l el fl=some (i,H'))(hl:aR e l cs)
  (h0:fl=0->fz=(0,0)) (h1:fl<=1->∀k,k<(cs++rest).length->(decide (fz.1<=k)&&decide (k<fz.2))=false):
  ∃e',e.le e'/\i<e'.N/\e'.b i=w.heap.size/\e'.d i=0/\e'.n i=(cs++rest).length/\RH G F W e' H' {w with heap:=w.heap.push (.cells (cs++rest).toArray el fz)}:=by
 obtain⟨hlen,ha⟩:=SH hn;have hle:=Em.sE e w.heap.size 0 (cs++rest).length;have eN:OR (e.ext w.heap.size 0 (cs++rest).length) i (.cells (Tr.cz .nil 0 l) 0 l.length el fl) (.cells (cs++rest).toArray el fz):=by have hi:=(AS ha).1;have jN:i=e.N:=hi.trans h.N.symm;subst jN;refine .cells _ _ _ _ _ _ fz (by simp[Em.AM]) ?_ h0 (by simpa using h1) (λ_=>Em.pQ ..);intro k v _ hk hg;rw[Tr.Jv .nil _ _ _ _ zzz] at hg;rw[zz2 ⟨zzz,zzz⟩,agN] at hg;obtain⟨v',bT,hr⟩:=hl.get hg;refine⟨k,by rw[Em.pQ];omega,v',?_,hr.mono hle⟩;have:k<cs.length:=(aac.1 bT).1;simp only[aeK];rw[abi this];exact bT
 grind [Em.ext, Em.pP, alloc, OR]
end
end
end Go.Proofs.YtodfajmihkagnaaGreatDoor.Am
