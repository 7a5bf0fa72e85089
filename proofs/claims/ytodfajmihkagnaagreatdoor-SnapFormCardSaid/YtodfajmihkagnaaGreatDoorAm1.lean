/- Laws that the proof uses. -/
import GoSem.Dispatch
import Derived.Orders
import Derived.Laws.Cells
import Derived.Below
import Derived.Laws.Strings
import Derived.Laws.BytesString
import Derived.Lib.UnsafeStr
import Derived.IntWalk
import Derived.Laws.Externs
import Derived.Lib.Bytealg
set_option linter.unusedVariables false
set_option linter.unusedSimpArgs false
namespace Go.Proofs.YtodfajmihkagnaaGreatDoor
theorem zzz{p:Prop}(h:p:=by omega):p:=h
theorem zzy{p:Prop}(h:p:=by simp):p:=h
theorem zzx{p:Prop}(h:p:=by decide):p:=h
theorem zzw{p:Prop}(h:p:=by kernel_rfl):p:=h
theorem zzv{p:Prop}(h:p:=by rfl):p:=h
theorem zz1:type_of%@if_neg:=@if_neg
theorem zz2:type_of%@if_pos:=@if_pos
theorem zz3:type_of%@decide_eq_true:=@decide_eq_true
theorem zz4:type_of%@decide_eq_false:=@decide_eq_false
theorem zz5:type_of%@decide_eq_true_eq:=@decide_eq_true_eq
theorem zz6:type_of%@beq_iff_eq:=@beq_iff_eq
theorem zz7:type_of%@beq_false_of_ne:=@beq_false_of_ne
theorem zz8:type_of%@beq_eq_false_iff_ne:=@beq_eq_false_iff_ne
end Go.Proofs.YtodfajmihkagnaaGreatDoor
namespace Go.Proofs.YtodfajmihkagnaaGreatDoor
open Go
theorem No:type_of%@List.mem_singleton:=@List.mem_singleton
theorem aad:type_of%@List.mem_of_getElem?:=@List.mem_of_getElem?
theorem aak:type_of%@List.getElem?_eq_some_iff:=@List.getElem?_eq_some_iff
theorem aal:type_of%@Option.map_eq_some_iff:=@Option.map_eq_some_iff
theorem aam:type_of%@List.length_append:=@List.length_append
theorem aap:type_of%@List.getElem?_eq_getElem:=@List.getElem?_eq_getElem
theorem aar:type_of%@List.mem_cons:=@List.mem_cons
theorem aaA:type_of%@Bool.and_eq_true:=@Bool.and_eq_true
theorem aaC:type_of%@Nat.le_refl:=@Nat.le_refl
theorem aaG:type_of%@List.length_cons:=@List.length_cons
theorem aaR:type_of%@List.mem_append_right:=@List.mem_append_right
theorem aba:type_of%@Option.bind_eq_some_iff:=@Option.bind_eq_some_iff
theorem abi:type_of%@List.mem_append_left:=@List.mem_append_left
theorem abl:type_of%@List.drop_zero:=@List.drop_zero
theorem abm:type_of%@List.mem_append:=@List.mem_append
theorem abu:type_of%@Bool.false_eq_true:=@Bool.false_eq_true
theorem abx:type_of%@Nat.eq_of_beq_eq_true:=@Nat.eq_of_beq_eq_true
theorem abz:type_of%@Nat.zero_le:=@Nat.zero_le
theorem abE:type_of%@List.getElem?_append_left:=@List.getElem?_append_left
theorem abG:type_of%@Eq.trans:=@Eq.trans
theorem ab4:type_of%@List.getElem?_append_right:=@List.getElem?_append_right
theorem ab7:type_of%@List.length_map:=@List.length_map
theorem ab9:type_of%@List.map_cons:=@List.map_cons
theorem acp:type_of%@List.append_assoc:=@List.append_assoc
theorem acv:type_of%@Int.toNat_natCast:=@Int.toNat_natCast
theorem acx:type_of%@List.mem_map:=@List.mem_map
theorem acC:type_of%@Prod.mk.injEq:=@Prod.mk.injEq
theorem acH:type_of%@Option.bind_eq_bind:=@Option.bind_eq_bind
theorem acJ:type_of%@List.getElem?_of_mem:=@List.getElem?_of_mem
theorem acQ:type_of%@Option.bind_some:=@Option.bind_some
theorem acU:type_of%@List.length_nil:=@List.length_nil
theorem acV:type_of%@List.getElem?_map:=@List.getElem?_map
theorem acW:type_of%@Bool.false_and:=@Bool.false_and
theorem ac0:type_of%@Option.some.inj:=@Option.some.inj
theorem ac9:type_of%@Bool.true_and:=@Bool.true_and
theorem adh:type_of%@Array.getElem?_eq_some_iff:=@Array.getElem?_eq_some_iff
theorem adn:type_of%@Option.some.injEq:=@Option.some.injEq
theorem adr:type_of%@List.getElem?_cons_succ:=@List.getElem?_cons_succ
theorem adz:type_of%@List.append_nil:=@List.append_nil
theorem adH:type_of%@List.map_append:=@List.map_append
theorem adR:type_of%@List.getElem?_zipWith:=@List.getElem?_zipWith
theorem adW:type_of%@List.getElem?_cons_zero:=@List.getElem?_cons_zero
theorem adZ:type_of%@List.length_set:=@List.length_set
theorem ad0:type_of%@Nat.zero_add:=@Nat.zero_add
theorem aec:type_of%@Nat.lt_of_lt_of_le:=@Nat.lt_of_lt_of_le
theorem aee:type_of%@Nat.mul_one:=@Nat.mul_one
theorem aeh:type_of%@List.all_eq_true:=@List.all_eq_true
theorem aes:type_of%@Array.toList_inj:=@Array.toList_inj
theorem aeI:type_of%@Nat.blt_eq:=@Nat.blt_eq
theorem aeL:type_of%@Option.map_some:=@Option.map_some
theorem aeQ:type_of%@Nat.mul_le_mul_right:=@Nat.mul_le_mul_right
theorem aeW:type_of%@Array.getElem?_toList:=@Array.getElem?_toList
theorem aeX:type_of%@List.length_take:=@List.length_take
theorem aeY:type_of%@List.mem_or_eq_of_mem_set:=@List.mem_or_eq_of_mem_set
theorem ae9:type_of%@Nat.add_zero:=@Nat.add_zero
theorem afB:type_of%@List.nodup_append:=@List.nodup_append
theorem afP:type_of%@List.length_zipWith:=@List.length_zipWith
theorem afX:type_of%@Nat.add_sub_cancel_left:=@Nat.add_sub_cancel_left
theorem af1:type_of%@Nat.ble_eq:=@Nat.ble_eq
theorem af5:type_of%@List.length_drop:=@List.length_drop
theorem agm:type_of%@List.getElem?_toArray:=@List.getElem?_toArray
theorem agH:type_of%@List.getElem?_set_self:=@List.getElem?_set_self
theorem agI:type_of%@List.take_of_length_le:=@List.take_of_length_le
theorem agK:type_of%@List.length_replicate:=@List.length_replicate
theorem agV:type_of%@List.mem_flatMap:=@List.mem_flatMap
theorem agW:type_of%@Int.cast_ofNat_Int:=@Int.cast_ofNat_Int
theorem agX:type_of%@Nat.add_mul:=@Nat.add_mul
theorem agY:type_of%@Array.getElem?_setIfInBounds_ne:=@Array.getElem?_setIfInBounds_ne
theorem ahc:type_of%@Nat.le_trans:=@Nat.le_trans
theorem ahf:type_of%@List.getElem?_drop:=@List.getElem?_drop
theorem ahi:type_of%@Array.getD_eq_getD_getElem?:=@Array.getD_eq_getD_getElem?
theorem ahp:type_of%@Int.toNat_of_nonneg:=@Int.toNat_of_nonneg
theorem ahr:type_of%@Option.getD_some:=@Option.getD_some
theorem ahG:type_of%@List.nil_append:=@List.nil_append
theorem ahJ:type_of%@Option.isSome_none:=@Option.isSome_none
theorem ahT:type_of%@Option.isSome_some:=@Option.isSome_some
theorem ahV:type_of%@List.flatten_cons:=@List.flatten_cons
theorem ahX:type_of%@Nat.le_succ:=@Nat.le_succ
theorem aid:type_of%@List.getElem?_eq_none:=@List.getElem?_eq_none
theorem aij:type_of%@Nat.sub_zero:=@Nat.sub_zero
theorem aip:type_of%@Array.getElem?_eq_getElem:=@Array.getElem?_eq_getElem
theorem aiE:type_of%@List.getElem?_set:=@List.getElem?_set
theorem ai1:type_of%@Bool.or_eq_false_iff:=@Bool.or_eq_false_iff
theorem ai8:type_of%@Nat.zero_mul:=@Nat.zero_mul
theorem ai9:type_of%@Nat.lt_succ_self:=@Nat.lt_succ_self
theorem aja:type_of%@Bool.not_eq_true:=@Bool.not_eq_true
theorem ajg:type_of%@Nat.mod_eq_of_lt:=@Nat.mod_eq_of_lt
theorem ajp:type_of%@List.getD_eq_getElem?_getD:=@List.getD_eq_getElem?_getD
theorem aju:type_of%@Nat.beq_refl:=@Nat.beq_refl
theorem ajy:type_of%@List.drop_eq_getElem_cons:=@List.drop_eq_getElem_cons
theorem ajA:type_of%@List.getElem?_take:=@List.getElem?_take
theorem ajE:type_of%@List.drop_eq_nil_of_le:=@List.drop_eq_nil_of_le
theorem ajI:type_of%@Bool.or_eq_true:=@Bool.or_eq_true
theorem ajQ:type_of%@Array.getElem?_setIfInBounds_self_of_lt:=@Array.getElem?_setIfInBounds_self_of_lt
theorem ajU:type_of%@List.length_zip:=@List.length_zip
theorem ajZ:type_of%@Option.isSome_iff_exists:=@Option.isSome_iff_exists
theorem aj4:type_of%@Decidable.not_not:=@Decidable.not_not
theorem aj6:type_of%@List.getElem?_set_ne:=@List.getElem?_set_ne
theorem aka:type_of%@Nat.sub_self:=@Nat.sub_self
theorem akb:type_of%@List.map_nil:=@List.map_nil
theorem akw:type_of%@Nat.min_self:=@Nat.min_self
theorem akM:type_of%@List.findIdx?_cons:=@List.findIdx?_cons
theorem akX:type_of%@Nat.one_mul:=@Nat.one_mul
theorem ak5:type_of%@List.mem_nil_iff:=@List.mem_nil_iff
theorem ak7:type_of%@List.ext_getElem?:=@List.ext_getElem?
theorem alh:type_of%@List.take_add_one:=@List.take_add_one
theorem alj:type_of%@List.take_zero:=@List.take_zero
theorem alo:type_of%@List.take_append_drop:=@List.take_append_drop
theorem alC:type_of%@List.nodup_cons:=@List.nodup_cons
theorem alE:type_of%@List.any_eq_false:=@List.any_eq_false
theorem alL:type_of%@List.mem_flatten:=@List.mem_flatten
theorem alZ:type_of%@Bool.not_eq_false':=@Bool.not_eq_false'
theorem ame:type_of%@Nat.add_assoc:=@Nat.add_assoc
theorem amk:type_of%@Bool.not_eq_true':=@Bool.not_eq_true'
theorem amr:type_of%@Array.getElem?_push:=@Array.getElem?_push
theorem amv:type_of%@Array.length_toList:=@Array.length_toList
theorem amA:type_of%@List.all_cons:=@List.all_cons
theorem amB:type_of%@Bool.not_true:=@Bool.not_true
theorem amL:type_of%@BitVec.toNat_ofInt:=@BitVec.toNat_ofInt
theorem amT:type_of%@List.pairwise_iff_getElem:=@List.pairwise_iff_getElem
theorem amY:type_of%@Nat.lt_or_ge:=@Nat.lt_or_ge
theorem am7:type_of%@List.eq_nil_of_length_eq_zero:=@List.eq_nil_of_length_eq_zero
theorem anf:type_of%@List.getElem?_replicate:=@List.getElem?_replicate
theorem ank:type_of%@List.flatMap_append:=@List.flatMap_append
theorem anu:type_of%@Bool.not_false:=@Bool.not_false
theorem anK:type_of%@Nat.mod_lt:=@Nat.mod_lt
theorem anW:type_of%@Nat.le_of_lt:=@Nat.le_of_lt
theorem anX:type_of%@Nat.min_eq_left:=@Nat.min_eq_left
theorem anZ:type_of%@List.set_append_right:=@List.set_append_right
theorem an3:type_of%@Bool.eq_iff_iff:=@Bool.eq_iff_iff
theorem an7:type_of%@Bool.false_or:=@Bool.false_or
theorem aog:type_of%@List.mem_range:=@List.mem_range
theorem aoh:type_of%@List.nodup_nil:=@List.nodup_nil
theorem aok:type_of%@Nat.mul_comm:=@Nat.mul_comm
theorem aoL:type_of%@List.map_map:=@List.map_map
theorem aoQ:type_of%@List.countP_cons:=@List.countP_cons
theorem zqz{p:Prop}(h:p:=by first|assumption|omega|(simp only[ag,af,simprocAttr];done)|(simp only[af];omega)|(simp only[ag,af,simprocAttr, *];done)|fail):p:=h
theorem zqq{p:Prop}(h:p:=by (first|assumption|omega|(simp only[ag,af,Nat.reduceAdd,Nat.reduceLeDiff,Nat.reduceLT]<;>fail)|(simp only[af];omega)|(simp only[ag,af,Nat.reduceAdd,Nat.reduceLeDiff,Nat.reduceLT, *]<;>fail)|fail)):p:=h
end Go.Proofs.YtodfajmihkagnaaGreatDoor
namespace Go.Proofs.YtodfajmihkagnaaGreatDoor.Am
section
section
section
section
inductive Pa where
 |e
 |a (p:Pa)
 |b (p:Pa)
 |c (p:Pa)
 |d (p:Pa)
 deriving DecidableEq
def En:Nat->Nat->Pa
 |0,_=>.e|f+1,n=>bif Nat.beq n 0 then .e else bif Nat.beq ((n-1)%4) 0 then .a (En f ((n-1) / 4)) else bif Nat.beq ((n-1)%4) 1 then .b (En f ((n-1) / 4)) else bif Nat.beq ((n-1)%4) 2 then .c (En f ((n-1) / 4)) else .d (En f ((n-1) / 4))
def pathOf (n:Nat):Pa:=En (n+1) n
inductive Tr (α:Type) where
 |nil
 |node (v:Option α) (k0 k1 k2 k3:Tr α)
namespace Tr
variable {α:Type}
def val:Tr α->Option α
 |.nil=>none|.node v _ _ _ _=>v
def c0:Tr α->Tr α
 |.nil=>.nil|.node _ k _ _ _=>k
def c1:Tr α->Tr α
 |.nil=>.nil|.node _ _ k _ _=>k
def c2:Tr α->Tr α
 |.nil=>.nil|.node _ _ _ k _=>k
def c3:Tr α->Tr α
 |.nil=>.nil|.node _ _ _ _ k=>k
def uS:Pa->Tr α->Option α
 |.e,t=>t.val|.a p,t=>uS p t.c0|.b p,t=>uS p t.c1|.c p,t=>uS p t.c2|.d p,t=>uS p t.c3
def mf:Pa->Option α->Tr α->Tr α
 |.e,x,t=>.node x t.c0 t.c1 t.c2 t.c3|.a p,x,t=>.node t.val (mf p x t.c0) t.c1 t.c2 t.c3|.b p,x,t=>.node t.val t.c0 (mf p x t.c1) t.c2 t.c3|.c p,x,t=>.node t.val t.c0 t.c1 (mf p x t.c2) t.c3|.d p,x,t=>.node t.val t.c0 t.c1 t.c2 (mf p x t.c3)
def get (t:Tr α)(n:Nat):Option α:=uS (pathOf n) t
def cL (t:Tr α)(n:Nat)(x:α):Tr α:=mf (pathOf n) (some x) t
def del (t:Tr α)(n:Nat):Tr α:=mf (pathOf n) none t
def put (_:Nat)(t:Tr α)(n:Nat)(x:α):Tr α:=mf (pathOf n) (some x) t
def bZ (t:Tr α)(n:Nat):List α->Tr α
 |[]=>t|x::xs=>bZ (t.put 34 n x) (n+1) xs
end Tr
inductive AV where
 |du
 |bool (b:Bool)
 |int (k:IntKind) (n:Int)
 |str (s:List Nat)
 |db
 |ptr (i off:Nat)
 |ah
 |slice (i off len cap:Nat) (exact:Bool) (es:Nat)
 |kP
 |map (i:Nat)
 |func (fn:Fn) (first captured:List AV)
 |yield (l:Nat)
 |nilFunc
 |nilIface
 |iface (t:TypeId) (v:AV)
 |agg (l:List AV)
 |tuple (l:List AV)
 deriving Inhabited
def bP:AV:=.tuple []
structure ME where
 key:AV
 val:AV
 born:Nat
inductive AO where
 |cells (c:Tr AV) (lo hi:Nat) (elem:TypeId) (fl:Nat)
 |map (es:List ME) (clock:Nat)
 |va (s:List Nat) (pos:Nat)
 |KK (m:Option Nat) (since:Nat) (seen:List Nat) (aF6:Nat)
 |loop (pending:Option Code) (tmps:Tr AV) (params:List Tmp) (assign body:Code)
structure Hp where
 h:Tr AO
 next:Nat
abbrev Tm:=Tr AV
def bytes (s:ByteArray):List Nat:=s.data.toList.map (·.toNat)
def qh:Value->Option AV
 |.bool b=>some (.bool b)|.int k n=>some (.int k n)|.string s=>some (.str (bytes s))|.pointer none=>some .db|.slice none 0 0=>some .ah|.map none=>some .kP|.nilFunc=>some .nilFunc|.nilIface=>some .nilIface|_=>none
def kK:Value->Option AV
 |.agg cs=>(cs.toList.mapM qh).map .agg|.tuple cs=>(cs.toList.mapM qh).map .tuple|.iface t v=>(qh v).map (.iface t)|v=>qh v
def ev (G:Nat)(t:Tm):Operand->AV
 |.tmp x=>(t.get x).getD bP|.const v=>(kK v).getD .du|.global g=>bif Nat.blt g G then .ptr g 0 else .du
 |.func f=>.func (.func f) [] []
def tM:AV->Option (List AV)
 |.agg l=>some l|.du=>none|v=>some [v]
variable (P:Program)
def zc (t:TypeId):Option (List AV):=do (<- (<-P.info? t).zero).cells.toList.mapM qh
def sz (t:TypeId):Option Nat:=(P.info? t).map (·.size)
def zG (t:TypeId):Option Bool:=(P.underlying t).map λ|.struct _=>true|.array _ _=>true|_=>false
def ua {α β:Type}(f:α->Option β):List α->Option (List β)
 |[]=>some []|a::l=>match f a with
  |some b=>match ua f l with
   |some r=>some (b::r)|none=>none
  |none=>none
def cellAt (H:Hp)(i off:Nat):Option AV:=
 match H.h.get i with
 |some (.cells c lo hi _ _)=>bif Nat.ble lo off&&Nat.blt off hi then c.get off else none
 |_=>none
def au (H:Hp)(i off:Nat):Nat->Option (List AV)
 |0=>some []|n+1=>do
  let v <-cellAt H i off
  let r <-au H i (off+1) n
  pure (v::r)
def aX:AV->Bool
 |.agg _|.tuple _|.du=>false|_=>true
def setCell (H:Hp)(i off:Nat)(v:AV):Option Hp:=
 match H.h.get i with
 |some (.cells c lo hi el fl)=>bif Nat.ble lo off&&Nat.blt off hi&&Nat.ble fl 1&&(c.get off).isSome&&aX v then some {H with h:=H.h.cL i (.cells (c.cL off v) lo hi el fl)} else none
 |_=>none
def setCells (H:Hp)(i off:Nat):List AV->Option Hp
 |[]=>some H|v::vs=>do setCells (<-setCell H i off v) i (off+1) vs
def alloc (H:Hp)(o:AO):Option (Nat×Hp):=
 some (H.next,⟨H.h.put 34 H.next o,H.next+1⟩)
def aA (H:Hp)(l:List AV)(elem:TypeId)(fl:Nat):Option (Nat×Hp):=
 bif Nat.ble l.length 16777216 then alloc H (.cells (Tr.bZ .nil 0 l) 0 l.length elem fl) else none
def setObj (H:Hp)(i:Nat)(o:AO):Hp:={H with h:=H.h.cL i o}
def rR:AV->AV->Bool
 |.bool a,.bool b=>a==b|.int j a,.int k b=>j==k&&a==b|.str a,.str b=>a==b|.db,.db=>true|.ptr a b,.ptr c d=>Nat.beq a c&&Nat.beq b d|.ah,.ah=>true|.slice a b c d e f,.slice a' b' c' d' e' f'=>Nat.beq a a'&&Nat.beq b b'&&Nat.beq c c'&&Nat.beq d d'&&e==e'&&Nat.beq f f'|.kP,.kP=>true|.map a,.map b=>Nat.beq a b|.nilFunc,.nilFunc=>true|.nilIface,.nilIface=>true|_,_=>false
def xB:List AV->List AV->Bool
 |[],[]=>true|a::x,b::y=>rR a b&&xB x y|_,_=>false
def same:AV->AV->Bool
 |.agg x,.agg y=>xB x y|.tuple x,.tuple y=>xB x y|.iface t x,.iface u y=>Nat.beq t u&&rR x y|a,b=>rR a b
def vH (H:Hp)(t:TypeId)(a:AV):Option AV:=
 match a with
 |.ptr i off=>do
  if <-zG P t then do pure (.agg (<-au H i off (<-sz P t))) else cellAt H i off
 |_=>none
def Kb (H:Hp)(t:TypeId)(a v:AV):Option Hp:=
 match a with
 |.ptr i off=>do
  let cs <-tM v
  if (<-sz P t)==cs.length then setCells H i off cs else none
 |_=>none
def oJ (t:TypeId)(cs:List AV)(off:Nat):Option AV:=do
 if <-zG P t then do
  let n <-sz P t
  bif Nat.ble (off+n) cs.length then some (.agg ((cs.drop off).take n)) else none
 else cs[off]?
def xA (place:Nat->Option (Nat×Nat))(cells:List AV):List (Nat×AV)->Option (List AV)
 |[]=>some cells|(i,v)::rest=>
  match place i with
  |none=>none|some (off,size)=>
   match tM v with
   |none=>none|some cs=>
    if cs.length=size/\off+size<=cells.length then xA place (cells.take off++cs++cells.drop (off+size)) rest else none
def Yd (fs:Array Field):Option (List (Nat×Nat)):=ua (λf:Field=>(sz P f.type).map λn=>(f.offset,n)) fs.toList
def rep (n:Nat)(l:List AV):List AV:=(List.replicate n l).flatten
def tB {α:Type}(g:α->Option Bool):List α->Option Bool
 |[]=>some true|a::r=>match g a with
  |some true=>tB g r|some false=>some false|none=>none
def clean (H:Hp)(i:Nat):Bool:=
 match H.h.get i with
 |some (.cells _ _ _ _ 0)=>true|_=>false
def eE:Nat->TypeId->AV->AV->Hp->Option Bool
 |0,_,_,_,_=>none|d+1,t,x,y,H=>
  match P.underlying t with
  |none=>none|some u=>
  match u,x,y with
  |.bool,.bool a,.bool b=>some (a==b)|.int _,.int k a,.int k' b=>if k=k' then some (a==b) else none
  |.string,.str a,.str b=>some (a==b)|.pointer _,.db,.db=>some true|.pointer _,.db,.ptr _ _=>some false|.pointer _,.ptr _ _,.db=>some false|.pointer el,.ptr i a,.ptr j b=>
   match sz P el with
   |some (n+1)=>bif Nat.beq i j then some (Nat.beq a b) else bif clean H i&&clean H j then some false else none
   |_=>none
  |.interface _,.nilIface,.nilIface=>some true|.interface _,.nilIface,.iface _ _=>some false|.interface _,.iface _ _,.nilIface=>some false|.interface _,.iface t x,.iface t' y=>
   if t=t' then
    match P.info? t with
    |some i=>bif i.comparable then eE d t x y H else none
    |none=>none
   else some false
  |.struct fs,.agg xs,.agg ys=>
   bif P.stoodInHeld t then none else
   tB (λf=>if f.name = "_" then some true else
    match oJ P f.type xs f.offset,oJ P f.type ys f.offset with
    |some a,some b=>eE d f.type a b H|_,_=>none) fs.toList
  |.array n el,.agg xs,.agg ys=>
   match sz P el with
   |some s=>tB (λi=>
    match oJ P el xs (i*s),oJ P el ys (i*s) with
    |some a,some b=>eE d el a b H|_,_=>none) (List.range' 0 n)
   |none=>none
  |.slice _,.ah,.ah=>some true|.slice _,.ah,.slice .. => some false|.slice _,.slice ..,.ah=>some false|.map _ _,.kP,.kP=>some true|.map _ _,.kP,.map _=>some false|.map _ _,.map _,.kP=>some false|.func ..,.nilFunc,.nilFunc=>some true|.func ..,.nilFunc,.func .. => some false|.func ..,.func ..,.nilFunc=>some false|_,_,_=>none
def si:List Nat->List Nat->Bool
 |_,[]=>false|[],_::_=>true|a::x,b::y=>Nat.blt a b||(Nat.beq a b&&si x y)
def lL (k:IntKind)(a:Int):Nat:=(a%((2^k.bits:Nat):Int)).toNat
def fT (op:BinOp)(t:TypeId)(x y:AV)(H:Hp):Option AV:=
 match op,x,y with
 |.shl,.int k a,.int _ b=>if b<0 then none else some (.int k (k.wrap (a*2^(min b.toNat k.bits))))
 |.shr,.int k a,.int _ b=>if b<0 then none else some (.int k (a.fdiv (2^(min b.toNat k.bits))))
 |op,.int k a,.int k' b=>
  if k=k' then
   match op with
   |.add=>some (.int k (k.wrap (a+b)))|.sub=>some (.int k (k.wrap (a-b)))|.mul=>some (.int k (k.wrap (a*b)))|.quo=>if b=0 then none else some (.int k (k.wrap (a.tdiv b)))
   |.rem=>if b=0 then none else some (.int k (a.tmod b))
   |.and=>some (.int k (k.wrap (lL k a&&&lL k b:Nat)))|.or=>some (.int k (k.wrap (lL k a|||lL k b:Nat)))|.xor=>some (.int k (k.wrap (lL k a ^^^ lL k b:Nat)))|.andNot=>none|.eql=>some (.bool (a==b))|.neq=>some (.bool (a != b))|.lss=>some (.bool (a<b))|.leq=>some (.bool (a<=b))|.gtr=>some (.bool (b<a))|.geq=>some (.bool (b<=a))|_=>none
  else none
 |op,.str a,.str b=>
  match op with
  |.add=>bif Nat.ble (a.length+b.length) 4294967296 then some (.str (a++b)) else none
  |.eql=>some (.bool (a==b))|.neq=>some (.bool (!(a==b)))|.lss=>some (.bool (si a b))|.leq=>some (.bool (si a b||a==b))|.gtr=>some (.bool (!(si a b||a==b)))|.geq=>some (.bool (!(si a b)))|_=>none
 |.eql,x,y=>(eE P 50 t x y H).map .bool|.neq,x,y=>(eE P 50 t x y H).map λb=>.bool !b
 |_,_,_=>none
def yJ:Operand->Bool
 |.const _=>true|_=>false
def vR (op:BinOp)(t:TypeId)(X Y:Operand)(x y:AV):Bool:=
 match op with
 |.eql|.neq=>match x,y with
  |.nilIface,.nilIface=>yJ X||yJ Y|.agg _,.agg _=>!(P.eqGuardType P.depth t)|_,_=>true
 |_=>true
def dY (op:UnOp)(x:AV):Option AV:=
 match op,x with
 |.neg,.int k n=>some (.int k (k.wrap (0-n)))|.not,.bool b=>some (.bool !b)|.xor,.int k n=>if k.signed then none else if 0<=n then some (.int k (k.wrap ((k.max.toNat%2^k.bits) ^^^ (n.toNat%2^k.bits):Nat))) else none
 |_,_=>none
def yC:List AV->Option (List Nat)
 |[]=>some []|.int .u8 n::r=>do if 0<=n&&n<256 then pure (n.toNat::(<-yC r)) else none
 |_=>none
def BX (t:TypeId):Bool:=match sz P t with|some (_+1)=>true|_=>false
def kD (src dst:TypeId)(x:AV)(H:Hp):Option (AV×Hp):=
 match P.underlying src,P.underlying dst with
 |some s,some d=>
  match s,d,x with
  |_,.int k,.int _ n=>some (.int k (k.wrap n),H)|_,.string,.int _ n=>if 0<=n/\n<128 then some (.str [n.toNat],H) else none
  |_,.string,.str s=>some (.str s,H)|_,.slice e,.str s=>
   match P.underlying e with
   |some (.int .u8)=>
    match aA H (s.map λ(b:Nat)=>AV.int .u8 b) e 1 with
    |some (i,H)=>some (.slice i 0 s.length s.length false 1,H)|none=>none
   |_=>none
  |.slice _,.slice e,.slice i off len cap ex es=>
   bif Nat.beq src dst&&Nat.blt 0 len then
    match P.underlying e,H.h.get i with
    |some (.int .u8),some (.cells c lo hi el 0)=>some (.slice i off len cap ex es,{H with h:=H.h.cL i (.cells c lo hi el 1)})|_,_=>none
   else none
  |.slice e,.string,.ah=>
   match P.underlying e with
   |some (.int .u8)=>some (.str [],H)|_=>none
  |.slice e,.string,.slice i off len _ _ _=>
   match P.underlying e with
   |some (.int .u8)=>bif Nat.beq len 0 then some (.str [],H) else (au H i off len).bind λcs=>(yC cs).map λb=>(.str b,H)
   |_=>none
  |.pointer t,.unsafePointer,.ptr i o=>bif (cellAt H i o).isSome&&BX P t then some (.ptr i o,H) else none
  |.unsafePointer,.pointer u,.ptr i o=>
   match H.h.get i with
   |some (.cells _ lo _ el _)=>bif Nat.beq el u&&Nat.beq lo 0&&Nat.beq o 0&&Nat.blt 0 (P.cellsOf u)&&(cellAt H i (P.cellsOf u-1)).isSome then some (.ptr i o,H) else none
   |_=>none
  |_,_,_=>none
 |_,_=>none
def bound (lo:Nat)(hi:Nat):AV->Option Nat
 |.int _ n=>if (lo:Int)<=n&&n<=hi then some n.toNat else none
 |_=>none
def ud (len cap:Nat)(low high mx:Option AV):Option (Nat×Nat×Nat):=do
 let m <- (match mx with|some v=>bound 0 cap v|none=>some cap:Option Nat)
 let h <- (match high with|some v=>bound 0 m v|none=>(match mx with|none=>some len|some _=>none):Option Nat)
 let l <- (match low with|some v=>bound 0 h v|none=>some 0:Option Nat)
 pure (l,h,m)
def tR (t:TypeId)(x:AV)(low high mx:Option AV)(H:Hp):Option AV:=do
 match <-P.underlying t,x with
 |.string,.str s=>do
  if mx.isSome then none else
  let (l,h,_) <-ud s.length s.length low high none
  some (.str ((s.drop l).take (h-l)))
 |.slice el,.ah=>do
  let (_,_,_) <-ud 0 0 low high mx
  if (sz P el).isSome then some .ah else none
 |.slice el,.slice i off len cap ex es=>do
  let (l,h,m) <-ud len cap low high mx
  if (<-sz P el)==es then some (.slice i (off+l*es) (h-l) (m-l) (ex||mx.isSome) es) else none
 |.array n e,.ptr i off=>do
  let (l,h,m) <-ud n n low high mx
  let es <-sz P e
  if Nat.blt 0 (n*es)&&(cellAt H i (off+n*es-1)).isSome then some (.slice i (off+l*es) (h-l) (m-l) true es) else none
 |_,_=>none
def HR (t:TypeId)(x ix:AV):Option AV:=do
 match <-P.underlying t,x,ix with
 |.array n e,.ptr i off,.int _ k=>do
  let es <-sz P e
  if 0<=k&&k<n then some (.ptr i (off+k.toNat*es)) else none
 |.slice el,.slice i off len _ _ es,.int _ k=>do
  if (<-sz P el)==es&&0<=k&&k<len then some (.ptr i (off+k.toNat*es)) else none
 |_,_,_=>none
def HM (t:TypeId)(x ix:AV):Option AV:=do
 match <-P.underlying t,x,ix with
 |.array n e,.agg cs,.int _ k=>do
  let es <-sz P e
  if 0<=k&&k<n then oJ P e cs (k.toNat*es) else none
 |.string,.str s,.int _ k=>if 0<=k then (s[k.toNat]?).map λ(b:Nat)=>.int .u8 b else none
 |_,_,_=>none
def qe:Nat->TypeId->AV->Bool
 |0,_,_=>false|d+1,t,v=>
  match P.underlying t,v with
  |some (.int _),_=>true|some .string,_=>true|some .bool,_=>true|some (.struct fs),.agg cs=>fs.toList.all λf=>if f.name ≠ "_" then (match oJ P f.type cs f.offset with|some v=>qe d f.type v|none=>false) else true
  |some (.array n el),.agg cs=>
   match sz P el with
   |some s=>(List.range' 0 n).all λi=>match oJ P el cs (i*s) with|some v=>qe d el v|none=>false
   |none=>false
  |_,_=>false
def Lz:AV->AV->Bool
 |.bool a,.bool b=>a==b|.int j a,.int k b=>decide (j=k)&&decide (a=b)|.str a,.str b=>a==b|_,_=>false
def Hs:List AV->List AV->Bool
 |[],[]=>true|a::x,b::y=>Lz a b&&Hs x y|_,_=>false
def GA:AV->AV->Bool
 |.agg x,.agg y=>Hs x y|a,b=>Lz a b
def zZ (H:Hp)(t:TypeId)(k:AV):List ME->Bool
 |[]=>true|e::es=>match eE P 20 t k e.key H with
  |some false=>zZ H t k es|_=>false
def oG (H:Hp)(t:TypeId)(k:AV):List ME->Nat->Option (Option (Nat×ME))
 |[],_=>some none|e::es,i=>match eE P 20 t k e.key H with
  |some true=>bif zZ P H t k es then some (some (i,e)) else none
  |some false=>oG H t k es (i+1)|none=>none
def mapOf (H:Hp):AV->Option (List ME×Nat)
 |.kP=>some ([],0)|.map i=>match H.h.get i with|some (.map es c)=>some (es,c)|_=>none
 |_=>none
def sJ (t:TypeId)(x k:AV)(ok:Bool)(H:Hp):Option AV:=
 match P.underlying t with
 |some (.map kt el)=>
  bif qe P 20 kt k then
   match mapOf H x with
   |some (es,_)=>
    match oG P H kt k es 0 with
    |some (some (_,m))=>some (bif ok then .tuple [m.val,.bool true] else m.val)|some none=>(((P.info? el).bind (·.zero)).bind kK).map λz=>bif ok then .tuple [z,.bool false] else z
    |none=>none
   |none=>none
  else none
 |_=>none
def qX (t:TypeId)(x k v:AV)(H:Hp):Option Hp:=
 match P.underlying t,x with
 |some (.map kt _),.map i=>
  bif qe P 20 kt k then
   match H.h.get i with
   |some (.map es c)=>
    match oG P H kt k es 0 with
    |some (some (j,m))=>bif GA m.key k then some (setObj H i (.map (es.set j {m with key:=k,val:=v}) c)) else none
    |some none=>some (setObj H i (.map (es++[⟨k,v,c⟩]) (c+1)))|none=>none
   |_=>none
  else none
 |_,_=>none
def LR (fX:Bool)(el es:Nat)(x:AV)(H:Hp):Option (Nat×List AV):=
 match fX,x with
 |true,.int .i64 k=>
  if 0<=k/\k<16777216 then
   match zc P el with
   |some z=>if z.length=es then some (k.toNat,rep k.toNat z) else none
   |none=>none
  else none
 |false,.ah=>some (0,[])|false,.slice i off len _ _ _=>(au H i off (len*es)).map λl=>(len,l)
 |false,.str s=>if es=1 then some (s.length,s.map λ(b:Nat)=>AV.int .u8 b) else none
 |_,_=>none
def Jq (cB:Array TypeId):Option Bool:=
 match cB[1]? with
 |some t=>(P.underlying t).map (λd=>match d with|.int _=>true|_=>false)|none=>some false
def Lh (cB:Array TypeId)(s x:AV)(H:Hp):Option (AV×Hp):=
 match (cB[0]?).bind P.underlying,Jq P cB with
 |some (.slice el),some fX=>
  match sz P el,zc P el with
  |some es,some z=>
   bif Nat.ble (P.bytesOf el) 4096&&Nat.beq z.length es then
   match LR P fX el es x H with
   |some (n,new)=>
    match s with
    |.ah=>
     bif Nat.beq n 0 then some (.ah,H) else
     bif Nat.ble n 16777216 then
     match aA H new el 0 with
     |some (i,H)=>some (.slice i 0 n n false es,H)|none=>none
     else none
    |.slice i off len cap ex es'=>
     bif Nat.ble (len+n) 16777216&&Nat.beq es es'&&new.all aX then
     bif Nat.ble (len+n) cap then
      match setCells H i (off+len*es) new with
      |some H=>some (.slice i off (len+n) cap ex es,H)|none=>none
     else bif ex then
      match au H i off (len*es) with
      |some je=>
       match aA H (je++new) el 0 with
       |some (j,H)=>some (.slice j 0 (len+n) (len+n) false es,H)|none=>none
      |none=>none
     else
      match H.h.get i with
      |some (.cells c lo hi wI fl)=>
       bif Nat.ble fl 1&&Nat.ble lo off&&Nat.ble (off+len*es) hi&&Nat.beq el wI then
        match alloc {H with h:=H.h.del i} (.cells (c.bZ (off+len*es) new) off (off+(len+n)*es) el 1) with
        |some (j,H)=>some (.slice j off (len+n) (len+n) false es,H)|none=>none
       else none
      |_=>none
     else none
    |_=>none
   |none=>none
   else none
  |_,_=>none
 |_,_=>none
def R2:AV->Option Nat
 |.ah=>some 0|.slice _ _ l _ _ _=>some l|.str s=>some s.length|_=>none
def Yr (es n:Nat)(x:AV)(H:Hp):Option (List AV):=
 match x with
 |.slice i off _ _ _ _=>au H i off (n*es)|.str s=>some ((s.take n).map λ(b:Nat)=>AV.int .u8 b)|_=>none
def KB (cB:Array TypeId)(d x:AV)(H:Hp):Option (AV×Hp):=
 match (cB[0]?).bind P.underlying with
 |some (.slice el)=>
  match sz P el,R2 x with
  |some es,some xl=>
   match d with
   |.ah=>some (.int .i64 0,H)|.slice i off dl _ _ _=>
    bif Nat.beq (Nat.min xl dl) 0 then some (.int .i64 0,H) else
    match Yr es (Nat.min xl dl) x H with
    |some cs=>(setCells H i off cs).map λH=>(.int .i64 (Nat.min xl dl),H)
    |none=>none
   |_=>none
  |_,_=>none
 |_=>none
def Jv (cB:Array TypeId)(m k:AV)(H:Hp):Option Hp:=
 match (cB[0]?).bind P.underlying with
 |some (.map kt _)=>
  bif qe P 20 kt k then
  match m with
  |.kP=>some H|.map i=>
   match H.h.get i with
   |some (.map es c)=>
    match oG P H kt k es 0 with
    |some (some (j,_))=>some (setObj H i (.map (es.eraseIdx j) c))|some none=>some H|none=>none
   |_=>none
  |_=>none
  else none
 |_=>none
def Wh (cB:Array TypeId)(x:AV)(H:Hp):Option Hp:=
 match (cB[0]?).bind P.underlying,x with
 |some _,.kP=>some H|some _,.ah=>some H|some _,.map i=>match H.h.get i with
  |some (.map _ c)=>some (setObj H i (.map [] c))|_=>none
 |some (.slice el),.slice i off n _ _ _=>
  match zc P el with
  |some z=>setCells H i off (rep n z)|none=>none
 |_,_=>none
def CY (cB:Array TypeId)(x:AV)(H:Hp):Option AV:=
 match (cB[0]?).bind P.underlying,x with
 |some .string,.str s=>some (.int .i64 s.length)|some (.array n _),_=>some (.int .i64 n)|some (.slice _),.ah=>some (.int .i64 0)|some (.slice _),.slice _ _ n _ _ _=>some (.int .i64 n)|some (.map _ _),.kP=>some (.int .i64 0)|some (.map _ _),.map i=>match H.h.get i with
  |some (.map es _)=>some (.int .i64 es.length)|_=>none
 |some (.pointer a),_=>match P.underlying a with|some (.array n _)=>some (.int .i64 n)|_=>none
 |_,_=>none
def Of (cB:Array TypeId)(x:AV):Option AV:=
 match (cB[0]?).bind P.underlying,x with
 |some (.slice _),.ah=>some (.int .i64 0)|some (.slice _),.slice _ _ _ c true _=>some (.int .i64 c)|_,_=>none
def UW (mx:Bool):AV->AV->Option AV
 |.int k x,.int _ y=>some (.int k (bif mx then (if y>x then y else x) else (if y<x then y else x)))|_,_=>none
def FQ (mx:Bool):AV->List AV->Option AV
 |x,[]=>some x|x,y::r=>match UW mx x y with
  |some z=>FQ mx z r|none=>none
def P5 (cB:Array TypeId)(p:AV)(k:IntKind)(n:Int)(H:Hp):Option (AV×Hp):=
 match cB.toList,k with
 |[t0,_],.i64=>
  match P.underlying t0,p with
  |some (.pointer _),.db=>if n=0 then some (.str [],H) else none
  |some (.pointer el),.ptr i off=>
   if n=0 then some (.str [],H) else
   match H.h.get i with
   |some (.cells c lo hi wI fl)=>
    if el=wI/\P.cellsOf el=1/\0<n/\n<16777216/\fl<=1 then
     ((au H i off n.toNat).bind yC).map λs=>(.str s,{H with h:=H.h.cL i (.cells c lo hi wI 2)})
    else none
   |_=>none
  |_,_=>none
 |_,_=>none
def iW (b:Builtin)(cB:Array TypeId)(args:List AV)(H:Hp):Option (AV×Hp):=
 match b,args with
 |.append,[s,x]=>Lh P cB s x H|.copy,[d,x]=>KB P cB d x H|.delete,[m,k]=>(Jv P cB m k H).map λH=>(bP,H)
 |.clear,[x]=>(Wh P cB x H).map λH=>(bP,H)
 |.len,[x]=>(CY P cB x H).map λv=>(v,H)
 |.cap,[x]=>(Of P cB x).map λv=>(v,H)
 |.min,x::r=>(FQ false x r).map λv=>(v,H)
 |.max,x::r=>(FQ true x r).map λv=>(v,H)
 |.unsafeSliceData,[.ah]=>some (.db,H)|.unsafeSliceData,[.slice i off l c _ _]=>bif Nat.blt 0 l then some (.ptr i off,H) else none
 |.unsafeString,[p,.int k n]=>P5 P cB p k n H|_,_=>none
def JE (t:TypeId)(ps:List (Nat×AV)):Option AV:=
 match zc P t,P.underlying t with
 |some z,some (.struct fs)=>
  match Yd P fs with
  |some pl=>(xA (pl[·]?) z ps).map .agg|none=>none
 |some z,some (.array _ el)=>
  match sz P el with
  |some s=>(xA (λi=>some (i*s,s)) z ps).map .agg|none=>none
 |_,_=>none
def CA (el s n:Nat):Option (List AV):=
 bif Nat.beq (n*s) 0 then some [] else
 match zc P el with
 |some z=>bif Nat.beq z.length s then some (rep n z) else none
 |none=>none
def Ma (t:TypeId)(len:Nat)(ps:List (Nat×AV))(H:Hp):Option (AV×Hp):=
 match P.underlying t with
 |some (.slice el)=>
  match sz P el with
  |some s=>
   bif Nat.ble (len*s) 65536 then
    match CA P el s len with
    |some z=>
     match xA (λi=>some (i*s,s)) z ps with
     |some cs=>(aA H cs el 0).map λr=>(.slice r.1 0 len len true s,r.2)
     |none=>none
    |none=>none
   else none
  |none=>none
 |_=>none
def zr (t:TypeId)(l c:AV)(H:Hp):Option (AV×Hp):=
 match P.underlying t,l,c with
 |some (.slice el),.int _ l,.int _ c=>
  match sz P el with
  |some s=>
   if 0<=l/\l<=c/\c<=1048576/\P.bytesOf el<=4096 then
    match CA P el s c.toNat with
    |some z=>(aA H z el 0).map λr=>(.slice r.1 0 l.toNat c.toNat true s,r.2)
    |none=>none
   else none
  |none=>none
 |_,_,_=>none
def Cl (t:TypeId)(x:AV)(H:Hp):Option (AV×Hp):=
 match P.underlying t,x with
 |some .string,.str s=>(alloc H (.va s 0)).map λr=>(.ptr r.1 0,r.2)
 |_,_=>none
def AD (it:AV)(uC:Bool)(H:Hp):Option (AV×Hp):=
 match it with
 |.ptr i 0=>
  match H.h.get i,uC with
  |some (.va s pos),true=>
   match s.drop pos with
   |[]=>some (.tuple [.bool false],H)|b::_=>bif Nat.blt b 128 then some (.tuple [.bool true,.int .i64 pos,.int .i32 b],setObj H i (.va s (pos+1))) else none
  |_,_=>none
 |_=>none
def Q1 (it:AV)(H:Hp):Option AV:=none
def KI (xW:TypeId)(x:AV)(ok:Bool):Option AV:=
 match P.underlying xW,x with
 |some (.interface _),_=>none|some _,.iface t v=>if t=xW then some (bif ok then .tuple [v,.bool true] else v) else none
 |_,_=>none
def Oa (t:TypeId)(x:AV)(f:Nat):Option AV:=
 match P.underlying t,x with
 |some (.struct fs),.ptr i o=>
  match fs[f]? with
  |some fd=>bif BX P fd.type then some (.ptr i (o+fd.offset)) else none
  |none=>none
 |_,_=>none
def Kc (t:TypeId)(x:AV)(f:Nat):Option AV:=
 match P.underlying t,x with
 |some (.struct fs),.agg cs=>
  match fs[f]? with
  |some fd=>oJ P fd.type cs fd.offset|none=>none
 |_,_=>none
def aJ:AV->Option AV
 |.ptr i o=>some (.ptr i o)|.func (.func f) a b=>some (.func (.func f) a b)|.iface t v=>some (.iface t v)|_=>none
def Py (t:TypeId)(x:AV):Option AV:=
 match P.underlying t with
 |some (.interface _)=>none|some _=>some (.iface t x)|none=>none
def P1 (fn:Fn)(a b:List AV):Option AV:=
 match fn with
 |.yield _=>none|fn=>some (.func fn a b)
def jx (e:Operand->AV)(o:Oper)(H:Hp):Option (AV×Hp):=
 match o.op with
 |.move x=>some (e x,H)|.assign x=>some (e x,H)|.pick c a b=>match e c with|.bool t=>some (bif t then e a else e b,H)|_=>none
 |.alloc t=>match zc P t with|some l=>(aA H l t 0).map λr=>(.ptr r.1 0,r.2)|none=>none
 |.box t x=>match tM (e x) with|some l=>(aA H l t 0).map λr=>(.ptr r.1 0,r.2)|none=>none
 |.build t parts=>(JE P t (parts.toList.map λ(i,x)=>(i,e x))).map λv=>(v,H)
 |.buildSlice t len parts=>Ma P t len (parts.toList.map λ(i,x)=>(i,e x)) H|.insert t m k v=>(qX P t (e m) (e k) (e v) H).map λH=>(bP,H)
 |.mapUpdate t m k v=>(qX P t (e m) (e k) (e v) H).map λH=>(bP,H)
 |.load t a=>(vH P H t (e a)).map λv=>(v,H)
 |.store t a v=>(Kb P H t (e a) (e v)).map λH=>(bP,H)
 |.nilCheck x=>(aJ (e x)).map λv=>(v,H)
 |.binOp op t x y _=>bif vR P op t x y (e x) (e y) then (fT P op t (e x) (e y) H).map λv=>(v,H) else none
 |.unOp op _ x=>(dY op (e x)).map λv=>(v,H)
 |.convert a b x=>kD P a b (e x) H|.makeInterface t x=>(Py P t (e x)).map λv=>(v,H)
 |.makeFunc fn a b=>(P1 fn (a.toList.map e) (b.toList.map e)).map λv=>(v,H)
 |.makeMap _ none=>(alloc H (.map [] 0)).map λr=>(.map r.1,r.2)
 |.makeSlice t l c=>zr P t (e l) (e c) H|.slice t x lo hi mx=>(tR P t (e x) (lo.map e) (hi.map e) (mx.map e) H).map λv=>(v,H)
 |.fieldAddr t x f=>(Oa P t (e x) f).map λv=>(v,H)
 |.field t x f=>(Kc P t (e x) f).map λv=>(v,H)
 |.indexAddr t x ix=>(HR P t (e x) (e ix)).map λv=>(v,H)
 |.index t x ix=>(HM P t (e x) (e ix)).map λv=>(v,H)
 |.lookup t x k ok=>(sJ P t (e x) (e k) ok H).map λv=>(v,H)
 |.range t x=>Cl P t (e x) H|.next it uC=>AD (e it) uC H|.entry it=>(Q1 (e it) H).map λv=>(v,H)
 |.extract t ix=>match e t with|.tuple l=>(l[ix]?).map λv=>(v,H)|_=>none
 |.typeAssert x _ xW ok=>(KI P xW (e x) ok).map λv=>(v,H)
 |.call c=>match c.callee with
  |.builtin b=>iW P b c.argTypes (c.args.toList.map e) H|_=>none
 |_=>none
inductive Kd where|pure|read|late|dG
 deriving DecidableEq
def kd (o:Oper):Kd:=
 match o.op with
 |.load .. |.lookup .. |.slice .. |.entry _=>.read|.move _|.assign _|.pick .. |.build .. |.nilCheck _|.unOp .. |.makeInterface .. |.makeFunc .. |.fieldAddr .. |.field .. |.indexAddr .. |.index .. |.extract .. |.typeAssert .. =>.pure|.alloc _=>.late|.makeSlice _ l c=>match l,c with|.const _,.const _=>.late|_,_=>.dG
 |.binOp op t .. => match op with
  |.eql|.neq=>match P.underlying t with|some (.int _)|some .string|some .bool=>.pure|_=>.read
  |_=>.pure
 |.convert a b x=>match P.underlying a,P.underlying b with
  |some (.int _),some (.int _)=>.pure|some .string,some .string=>.pure|some (.slice _),some .string=>.read|some .string,some (.slice _)=>match x with|.const _=>.late|_=>.dG
  |_,_=>.dG
 |.call c=>match c.callee with
  |.builtin .len=>.read|.builtin .min|.builtin .max|.builtin .cap=>.pure|_=>.dG
 |_=>.dG
def before:List Oper->List Nat->List Nat
 |[],acc=>acc|o::r,acc=>before r (acc++[o.after.toList.foldl (λs e=>if Region.binds .any e then s|||2^e.on|||acc.getD e.on 0 else s) 0])
end
inductive Ext where
 |same
 |Lm (t:TypeId)
 |RJ
 |count
def ij (c:Nat):List Nat->Nat
 |[]=>0|b::r=>bif Nat.beq b c then ij c r+1 else ij c r
def lg (c:Nat):List Nat->Nat->Option Nat
 |[],_=>none|b::r,i=>bif Nat.beq b c then some i else lg c r (i+1)
abbrev Prim:=List AV->Hp->Option (AV×Hp)
inductive X where
 |normal
 |exit (i:Nat)
 |ret
variable (P:Program)(ext:Nat->Option Ext)(bE:Nat->Option Prim)
def Hj (k:Ext)(args:List AV)(H:Hp):Option (AV×Hp):=
 match k,args with
 |.same,[x]=>some (x,H)|.Lm t,[.int .i64 n]=>
  match P.underlying t with
  |some (.slice el)=>
   if 0<=n/\n<=1048576 then
    (aA H (List.replicate n.toNat .du) el 0).map λr=>(.slice r.1 0 n.toNat n.toNat false 1,r.2)
   else none
  |_=>none
 |.RJ,[.str s,.int .u8 n]=>some (.int .i64 (match lg (n.toNat%256) s 0 with|some i=>(i:Int)|none=>-1),H)|.count,[.str s,.int .u8 n]=>some (.int .i64 (ij (n.toNat%256) s:Nat),H)|_,_=>none
def rH (ops:Array Oper)(o:Oper)(t:Tm):Option Bool:=
 match o.guard with
 |none=>some true|some (j,want)=>
  match (ops[j]?).bind (·.dst) with
  |none=>some false|some d=>match t.get d with
   |none=>some false|some (.bool b)=>some (b==want)|some .du=>none|some _=>some false
def iU (n:Nat)(dst:Option Tmp)(v:AV)(t:Tm):Option Tm:=
 match dst with
 |none=>some t|some d=>bif Nat.blt d n&&Nat.blt d 4294967296 then some (t.put 34 d v) else none
abbrev CF:=AV->List AV->Hp->Option (AV×Hp)
def u7 (cf:CF)(t:Tm)(o:Oper)(H:Hp):Option (AV×Hp):=
 match o.op with
 |.call {callee:=.value f,args,.. }=>cf (ev P.globals.size t f) (args.toList.map (ev P.globals.size t)) H|_=>jx P (ev P.globals.size t) o H
def vl (cf:CF)(n:Nat)(ops:Array Oper):List Oper->Tm->Hp->Option (Tm×Hp)
 |[],t,H=>some (t,H)|o::r,t,H=>
  match rH ops o t with
  |some true=>
   match u7 P cf t o H with
   |some (v,H)=>match iU n o.dst v t with
    |some t=>vl cf n ops r t H|none=>none
   |none=>none
  |some false=>match iU n o.dst bP t with
   |some t=>vl cf n ops r t H|none=>none
  |none=>none
structure lD where
 i:Nat
 o:Oper
 b:Nat
 x:Bool
 k:Kd
 v:AV
 t:Tm
 hb:Hp
 ha:Hp
def mL (cf:CF)(n:Nat)(ops:Array Oper):Nat->List Oper->List Nat->Tm->Tm->Hp->Hp->Option (List lD×Tm×Hp)
 |_,[],_,_,te,_,h=>some ([],te,h)|_,_::_,[],_,_,_,_=>none|i,o::r,b::bs,tp,te,hb,h=>
  match rH ops o tp with
  |some true=>
   match kd P o with
   |.late=>
    match jx P (ev P.globals.size te) o h with
    |some (v,h')=>
     match iU n o.dst .du tp,iU n o.dst v te with
     |some lV,some lN=>(mL cf n ops (i+1) r bs lV lN hb h').map λx=>(⟨i,o,b,true,.late,v,tp,hb,hb⟩::x.1,x.2)
     |_,_=>none
    |none=>none
   |.dG=>
    match u7 P cf te o h with
    |some (v,h')=>
     match iU n o.dst v tp,iU n o.dst v te with
     |some lV,some lN=>(mL cf n ops (i+1) r bs lV lN h' h').map λx=>(⟨i,o,b,true,.dG,v,tp,hb,h'⟩::x.1,x.2)
     |_,_=>none
    |none=>none
   |k=>
    match jx P (ev P.globals.size tp) o hb with
    |some (v,_)=>
     match iU n o.dst v tp,iU n o.dst v te with
     |some lV,some lN=>(mL cf n ops (i+1) r bs lV lN hb h).map λx=>(⟨i,o,b,true,k,v,tp,hb,hb⟩::x.1,x.2)
     |_,_=>none
    |none=>none
  |some false=>
   match iU n o.dst bP tp,iU n o.dst bP te with
   |some lV,some lN=>(mL cf n ops (i+1) r bs lV lN hb h).map λx=>(⟨i,o,b,false,.pure,bP,tp,hb,hb⟩::x.1,x.2)
   |_,_=>none
  |none=>none
def tmpsOf (o:Oper):List Tmp:=o.op.operands.toList.filterMap λ|.tmp t=>some t|_=>none
def J8 (ops:Array Oper)(o:Oper):Option Tmp:=o.guard.bind λg=>(ops[g.1]?).bind (·.dst)
def IK (ops:Array Oper)(o:Oper)(d:Tmp):Bool:=(tmpsOf o).contains d||J8 ops o==some d
def PM (ops:Array Oper)(i:Nat)(oi:Oper)(bi:Nat)(j:Nat)(oj:Oper)(bj:Nat):Bool:=
 match oi.dst with
 |none=>true|some d=>Nat.beq i j||(!(oj.dst==some d)&&(!(IK ops oj d)||(bif Nat.blt i j then bj.testBit i else bi.testBit j)))
def z6 (ops:Array Oper):Bool:=
 let l:=ops.toList.zip (before ops.toList []);let z:=(List.range ops.size).zip l
 z.all λx=>(x.2.1.after.all λe=>!(Region.binds .any e)||Nat.blt e.on x.1)&&z.all λy=>PM ops x.1 x.2.1 x.2.2 y.1 y.2.1 y.2.2
def xg (s:lD)(H:Hp):Bool:=
 match jx P (ev P.globals.size s.t) s.o H with
 |some (v,_)=>same s.v v|none=>false
def E9 (l:List lD):Bool:=
 l.all λs=>match s.k with
  |.dG=>l.all λr=>match r.k with
   |.dG|.late=>!(Nat.blt r.i s.i)||s.b.testBit r.i|.read=>bif Nat.blt r.i s.i then s.b.testBit r.i||xg P r s.ha else r.b.testBit s.i||xg P r s.hb
   |.pure=>true
  |_=>true
def EP (cf:CF)(n:Nat)(ops:Array Oper)(t:Tm)(H:Hp):Option (Tm×Hp):=
 bif z6 ops then
  match mL P cf n ops 0 ops.toList (before ops.toList []) t t H H with
  |some (l,t,H)=>bif E9 P l then some (t,H) else none
  |none=>none
 else none
def wY (t:Tm)(H:Hp):List ResultVar->Option (List AV)
 |[]=>some []|.tmp x::r=>match wY t H r with
  |some l=>some ((t.get x).getD bP::l)|none=>none
 |.cell a ty::r=>match vH P H ty ((t.get a).getD bP),wY t H r with
  |some v,some l=>some (v::l)|_,_=>none
def PH:List AV->AV
 |[v]=>v|l=>.tuple l
def HN (run:Nat->Code->Tm->Hp->Option (X×Tm×Hp)):CF:=λg args H=>
 match g with
 |.func (.func aU) first cap=>
  match bE aU with
  |some p=>p (first++args++cap) H|none=>
   match P.funcs[aU]? with
   |some fn=>
    match fn.body with
    |some b=>
     bif Nat.ble (first++args++cap).length fn.ntmps&&Nat.blt fn.ntmps 4294967296 then
      match run fn.ntmps b (Tr.bZ .nil 0 (first++args++cap)) H with
      |some (.exit _,_,_)=>none|some (_,t,H)=>(wY P t H fn.results.toList).map λl=>(PH l,H)
      |none=>none
     else none
    |none=>match ext aU with
     |some k=>Hj P k (first++args++cap) H|none=>none
   |none=>none
 |_=>none
def code:Nat->Nat->Code->Tm->Hp->Option (X×Tm×Hp)
 |0,_,_,_,_=>none|f+1,n,c,t,H=>
  match c with
  |.skip=>some (.normal,t,H)|.label _=>some (.normal,t,H)|.seq a b=>
   match code f n a t H with
   |some (.normal,t,H)=>code f n b t H|r=>r
  |.cond c a b=>match ev P.globals.size t c with
   |.bool x=>bif x then code f n a t H else code f n b t H
   |_=>none
  |.block i b=>
   match code f n b t H with
   |some (.exit j,t,H)=>bif Nat.beq j i then some (.normal,t,H) else some (.exit j,t,H)
   |r=>r
  |.loop b=>
   match code f n b t H with
   |some (.normal,t,H)=>code f n (.loop b) t H|r=>r
  |.exit i=>some (.exit i,t,H)|.ret=>some (.ret,t,H)|.region _ ops d=>
   match (bif d then EP P (HN P ext bE (code f)) n ops t H else vl P (HN P ext bE (code f)) n ops ops.toList t H) with
   |some (t,H)=>some (.normal,t,H)|none=>none
  |_=>none
def PN (fuel:Nat)(g:Nat)(args:List AV)(H:Hp):Option (AV×Hp):=HN P ext bE (code P ext bE fuel) (.func (.func g) [] []) args H
def Rg (r:Option (AV×Hp)):Bool:=match r with|some (.bool true,_)=>true|_=>false
end
structure Em where
 b:Nat->Nat
 d:Nat->Int
 n:Nat->Nat
 N:Nat
def Em.le (e e':Em):Prop:=e.N<=e'.N/\∀i,i<e.N->e'.b i=e.b i/\e'.d i=e.d i/\e'.n i=e.n i
theorem Em.le_refl (e:Em):e.le e:=⟨aaC _,λ_ _=>⟨rfl,rfl,rfl⟩⟩
theorem Em.le_trans {a b c:Em}(h:a.le b)(k:b.le c):a.le c:=
 ⟨ahc h.1 k.1,λi hi=>by obtain⟨x,y,z⟩:=h.2 i hi;obtain⟨x',y',z'⟩:=k.2 i (aec hi h.1);exact⟨x'.trans x,y'.trans y,z'.trans z⟩⟩
inductive VR (e:Em):AV->Value->Prop
 |du (v:Value):VR e .du v
 |bool (b:Bool):VR e (.bool b) (.bool b)
 |int (k:IntKind) (n:Int):VR e (.int k n) (.int k n)
 |str (s:ByteArray):VR e (.str (bytes s)) (.string s)
 |db:VR e .db (.pointer none)
 |ptr (i off o:Nat) (hi:i<e.N) (ho:(o:Int)=off+e.d i):VR e (.ptr i off) (.pointer (some ⟨e.b i,o,none⟩))
 |ah:VR e .ah (.slice none 0 0)
 |slice (i off len cap:Nat) (ex:Bool) (es o c:Nat) (hi:i<e.N) (ho:(o:Int)=off+e.d i) (hl:len<=c) (hc:cap<=c) (hx:ex=true->c=cap) (hn:o+c*es<=e.n i):
   VR e (.slice i off len cap ex es) (.slice (some ⟨e.b i,o,none⟩) len c)
 |DP (i off:Nat) (ex:Bool) (es:Nat) (a:Addr):VR e (.slice i off 0 0 ex es) (.slice (some a) 0 0)
 |kP:VR e .kP (.map none)
 |map (i:Nat) (hi:i<e.N):VR e (.map i) (.map (some (e.b i)))
 |func (fn:Fn) (hf:∀l,fn ≠ .yield l) (a c:List AV) (a' c':Array Value) (ha:a'.toList.length=a.length) (hc:c'.toList.length=c.length)
   (h1:∀(i:Nat) (v:AV) (v':Value),a[i]?=some v->a'.toList[i]?=some v'->VR e v v') (h2:∀(i:Nat) (v:AV) (v':Value),c[i]?=some v->c'.toList[i]?=some v'->VR e v v'):
   VR e (.func fn a c) (.func fn a' c')
 |nilFunc:VR e .nilFunc .nilFunc
 |nilIface:VR e .nilIface .nilIface
 |iface (t:TypeId) (v:AV) (v':Value) (h:VR e v v'):VR e (.iface t v) (.iface t v')
 |agg (l:List AV) (vs:Array Value) (hl:vs.toList.length=l.length) (h:∀(i:Nat) (v:AV) (v':Value),l[i]?=some v->vs.toList[i]?=some v'->VR e v v'):VR e (.agg l) (.agg vs)
 |tuple (l:List AV) (vs:Array Value) (hl:vs.toList.length=l.length) (h:∀(i:Nat) (v:AV) (v':Value),l[i]?=some v->vs.toList[i]?=some v'->VR e v v'):VR e (.tuple l) (.tuple vs)
section
variable {a l:List AV}{e e':Em}{i m:Nat}{v':Value}{vs x:List Value}
theorem VR.mono (h:e.le e'){v:AV}(hv:VR e v v'):VR e' v v':=by
 induction hv with
 |du v=>exact .du v|bool b=>exact .bool b|int k n=>exact .int k n|str s=>exact .str s|db=>exact .db|ptr i off o hi ho=>
  obtain⟨x,y,z⟩:=h.2 i hi;rw[<-x];exact .ptr i off o (aec hi h.1) (by rw[y];exact ho)
 |ah=>exact .ah|slice i off len cap ex es o c hi ho hl hc hx hn=>
  obtain⟨x,y,z⟩:=h.2 i hi;rw[<-x];exact .slice i off len cap ex es o c (aec hi h.1) (by rw[y];exact ho) hl hc hx (by rw[z];exact hn)
 |DP i off ex es a=>exact .DP i off ex es a|kP=>exact .kP|map i hi=>
  obtain⟨x,y,z⟩:=h.2 i hi;rw[<-x];exact .map i (aec hi h.1)
 |func fn hf a c a' c' ha hc h1 h2 i1 i2=>exact .func fn hf a c a' c' ha hc i1 i2|nilFunc=>exact .nilFunc|nilIface=>exact .nilIface|iface t v v' _ ih=>exact .iface t v v' ih|agg l vs hl _ ih=>exact .agg l vs hl ih|tuple l vs hl _ ih=>exact .tuple l vs hl ih
def aV (e:Em)(l:List AV)(vs:List Value):Prop:=vs.length=l.length/\∀(i:Nat) (v:AV) (v':Value),l[i]?=some v->vs[i]?=some v'->VR e v v'
theorem aV.nil (e:Em):aV e [] []:=⟨rfl,zzy⟩
theorem aV.cons {e:Em}{v:AV}{v':Value}{l:List AV}{vs:List Value}(h:VR e v v')(k:aV e l vs):aV e (v::l) (v'::vs):=by
 refine⟨by simp[k.1],λi=>?_⟩;cases i with
 |zero=>intro a b ha hb;simp at ha hb;subst ha;subst hb;exact h|succ i=>intro a b ha hb;exact k.2 i a b (by simpa using ha) (by simpa using hb)
theorem aV.lH (h:aV e [] vs):vs=[]:=by simpa using h.1
theorem aV.cons_inv {v:AV}(h:aV e (v::l) vs):∃v' ws,vs=v'::ws/\VR e v v'/\aV e l ws:=by
 cases vs with
 |nil=>simp[aV] at h|cons v' ws=>exact⟨v',ws,rfl,h.2 0 v v' rfl rfl,by simpa using h.1,λi a b ha hb=>h.2 (i+1) a b (by simpa using ha) (by simpa using hb)⟩
theorem aV.append {b:List AV}{y:List Value}(h:aV e a x)(k:aV e b y):aV e (a++b) (x++y):=by
 refine⟨by simp[h.1,k.1],λi v v' hv bS=>?_⟩;by_cases hi:i<a.length;·rw[abE hi] at hv;rw[abE (by rw[h.1];exact hi)] at bS;exact h.2 i v v' hv bS
 ·rw[ab4 zzz] at hv;rw[ab4 (by rw[h.1];omega),h.1] at bS;exact k.2 _ v v' hv bS
theorem aV.take (n:Nat)(h:aV e a x):aV e (a.take n) (x.take n):=by
 refine⟨by simp[h.1],λi v v' hv bS=>?_⟩;rw[ajA] at hv bS;split at hv;·rw[zz2 (by assumption)] at bS;exact h.2 i v v' hv bS
 ·simp at hv
theorem aV.drop (n:Nat)(h:aV e a x):aV e (a.drop n) (x.drop n):=by refine⟨by simp[h.1],λi v v' hv bS=>?_⟩;rw[ahf] at hv bS;exact h.2 _ v v' hv bS
theorem aV.get (h:aV e a x){v:AV}(hv:a[i]?=some v):∃v',x[i]?=some v'/\VR e v v':=by
 have hi:i<a.length:=(aak.1 hv).1;have hx:i<x.length:=by rw[h.1];exact hi
 exact⟨x[i],aap hx,h.2 i v _ hv (aap hx)⟩
theorem aV.map {ρ:Operand->AV}{σ:Operand->Value}(h:∀x,VR e (ρ x) (σ x)):∀l:List Operand,aV e (l.map ρ) (l.map σ)
 |[]=>.nil e|x::l=>.cons (h x) (aV.map h l)
theorem VR.aa5 (h:aV e l vs):VR e (.agg l) (.agg vs.toArray):=.agg l _ (by simpa using h.1) (by simpa using h.2)
theorem VR.tuple' (h:aV e l vs):VR e (.tuple l) (.tuple vs.toArray):=.tuple l _ (by simpa using h.1) (by simpa using h.2)
theorem qz {n:Nat}(h:n≠m):Nat.beq n m=false:=by
 cases hb:Nat.beq n m;·rfl
 ·exact absurd (abx hb) h
theorem zq (n:Nat):Nat.beq n n=true:=aju n
end
namespace Tr
variable {α:Type}
def dec:Pa->Nat
 |.e=>0|.a p=>4*dec p+1|.b p=>4*dec p+2|.c p=>4*dec p+3|.d p=>4*dec p+4
theorem Uk:∀(f n:Nat),n<f->dec (En f n)=n
 |0,n,h=>zzz|f+1,n,h=>by
  have ih:=λk (hk:k<f)=>Uk f k hk;rw[En];by_cases h0:n=0;·subst h0;rfl
  ·have aQ:(n-1) / 4<f:=zzz;have Pk:=ih _ aQ;rw[qz h0,cond_false];by_cases q0:(n-1)%4=0;·rw[q0,zq,cond_true,dec,Pk];omega
   ·rw[qz q0,cond_false];by_cases q1:(n-1)%4=1;·rw[q1,zq,cond_true,dec,Pk];omega
    ·rw[qz q1,cond_false];by_cases q2:(n-1)%4=2;·rw[q2,zq,cond_true,dec,Pk];omega
     ·rw[qz q2,cond_false,dec,Pk];omega
theorem aEA {n m:Nat}(h:pathOf n=pathOf m):n=m:=by have h1:=Uk (n+1) n (ai9 _);have h2:=Uk (m+1) m (ai9 _);unfold pathOf at h;rw[<-h1,<-h2,h]
theorem AK:∀p:Pa,uS p (.nil:Tr α)=none
 |.e=>rfl|.a p=>AK p|.b p=>AK p|.c p=>AK p|.d p=>AK p
theorem get_nil (n:Nat):(.nil:Tr α).get n=none:=AK _
theorem ayn:∀(p q:Pa) (x:Option α) (t:Tr α),uS q (mf p x t)=if q=p then x else uS q t:=by
 intro p;induction p with
 |e=>intro q x t;cases q<;>simp[uS,mf,val,c0,c1,c2,c3]|a p ih=>intro q x t;cases q<;>simp[uS,mf,val,c0,c1,c2,c3,ih]|b p ih=>intro q x t;cases q<;>simp[uS,mf,val,c0,c1,c2,c3,ih]|c p ih=>intro q x t;cases q<;>simp[uS,mf,val,c0,c1,c2,c3,ih]|d p ih=>intro q x t;cases q<;>simp[uS,mf,val,c0,c1,c2,c3,ih]
theorem gw (t:Tr α)(n m:Nat)(x:Option α):(mf (pathOf n) x t).get m=if m=n then x else t.get m:=by
 unfold get;rw[ayn];by_cases h:m=n;·subst h;simp
 ·rw[zz1 h,zz1 (λq=>h (aEA q))]
theorem YI (t:Tr α):∀(n:Nat) (x:α) (m:Nat),(t.get n).isSome=true->(t.cL n x).get m=if m=n then some x else t.get m:=λn x m _=>gw t n m (some x)
theorem YG (t:Tr α):∀(n m:Nat),(t.del n).get m=if m=n then none else t.get m:=λn m=>gw t n m none
theorem M9:∀(f:Nat) (t:Tr α) (n:Nat) (x:α) (m:Nat),n+1<2^f->(t.put f n x).get m=if m=n then some x else t.get m:=λf t n x m _=>gw t n m (some x)
theorem yE:∀(l:List α) (t:Tr α) (n m:Nat),(t.bZ n l).get m=if n<=m/\m<n+l.length then l[m-n]? else t.get m
 |[],t,n,m=>by rw[zz1 (by simp only[acU];omega)];rfl
 |x::l,t,n,m=>by
  rw[bZ,yE l,put,gw];by_cases h1:m=n;·subst h1;rw[zz1 zzz,zz2 rfl,zz2 zzy];simp
  ·by_cases h2:n+1<=m/\m<n+1+l.length;·rw[zz2 h2,zz2 (by simp;omega)];have:m-n=(m-(n+1))+1:=zzz;rw[this,adr]
   ·rw[zz1 h2,zz1 h1,zz1 (by simp;omega)]
theorem IB (t:Tr α):∀(l:List α) (t:Tr α) (n m:Nat),n+l.length<17000000000->(t.bZ n l).get m=if n<=m/\m<n+l.length then l[m-n]? else t.get m:=by
 intro l;induction l with
 |nil=>intro t n m _;simp[bZ];omega|cons x xs ih=>
  intro t n m h;simp only[aaG] at h;rw[bZ,ih _ _ _ zzz,M9 _ _ _ _ _ zzz];by_cases h1:m=n;·subst h1;rw[zz1 zzz,zz2 rfl,zz2 zzy];simp
  ·by_cases h2:n+1<=m/\m<n+1+xs.length;·rw[zz2 h2,zz2 (by simp;omega)];have:m-n=(m-(n+1))+1:=zzz;rw[this,adr]
   ·rw[zz1 h2,zz1 h1,zz1 (by simp;omega)]
end Tr
end
def jv (e:Em)(es:List ME)(es':List MapEntry):Prop:=
 es'.length=es.length/\∀(i:Nat) (m:ME) (m':MapEntry),es[i]?=some m->es'[i]?=some m'->VR e m.key m'.key/\VR e m.val m'.val
inductive OR (e:Em) (i:Nat):AO->Obj->Prop
 |cells (c:Tr AV) (lo hi:Nat) (el:TypeId) (fl:Nat) (C:Array Value) (fz:Nat×Nat) (hn:C.size=e.n i)
   (hc:∀(k:Nat) (v:AV),lo<=k->k<hi->c.get k=some v->∃k':Nat,(k':Int)=k+e.d i/\∃v',C[k']?=some v'/\VR e v v')
   (h0:fl=0->fz=(0,0)) (h1:fl<=1->∀k,k<C.size->(decide (fz.1<=k)&&decide (k<fz.2))=false) (hd:lo=0->e.d i=0):OR e i (.cells c lo hi el fl) (.cells C el fz)
 |map (es:List ME) (c:Nat) (es':Array MapEntry) (c':Nat) (fs:List MapEntry) (hp:fs.Perm es'.toList) (h:jv e es fs) (hn:(fs.map (·.born)).Nodup) (hb:∀x∈fs,x.born<c'):OR e i (.map es c) (.map es' c')
 |va (s:List Nat) (pos:Nat) (s':ByteArray) (h:bytes s'=s) (hd:e.d i=0):OR e i (.va s pos) (.stringIter s' pos)
 |adt (a:Nat) (b:List Nat) (c:Nat) (a':Nat) (b':Array Nat) (c':Nat) (hd:e.d i=0):OR e i (.KK none a b c) (.mapIter none a' b' c')
 |KK (m since:Nat) (seen:List Nat) (st:Nat) (hm:m<e.N) (hd:e.d i=0):OR e i (.KK (some m) since seen st) (.mapIter (some (e.b m)) since seen.toArray st)
theorem jv.mono {e e':Em}(h:e.le e'){es:List ME}{es':List MapEntry}(k:jv e es es'):jv e' es es':=
 ⟨k.1,λi m m' hm nB=>let ⟨a,b⟩:=k.2 i m m' hm nB;⟨a.mono h,b.mono h⟩⟩
theorem OR.mono {e e':Em}(h:e.le e'){i:Nat}(hi:i<e.N){o:AO}{ob:Obj}(k:OR e i o ob):OR e' i o ob:=by
 obtain⟨x,y,z⟩:=h.2 i hi;cases k with
 |cells c lo hi el fl C fz hn hc h0 h1 hd=>
  refine .cells c lo hi el fl C fz (hn.trans z.symm) ?_ h0 h1 (λq=>by rw[y];exact hd q);intro k v a b hk;obtain⟨k',qV,v',bS,hr⟩:=hc k v a b hk;exact⟨k',by rw[y];exact qV,v',bS,hr.mono h⟩
 |map es c es' c' fs hp hm hn hb=>exact .map es c es' c' fs hp (hm.mono h) hn hb|va s pos s' hs hd=>exact .va s pos s' hs (y.trans hd)|adt a b c a' b' c' hd=>exact .adt a b c a' b' c' (y.trans hd)|KK m since seen st hm hd=>
  obtain⟨x',_,_⟩:=h.2 m hm;rw[<-x'];exact .KK m since seen st (aec hm h.1) (y.trans hd)
def wr:AO->Bool
 |.cells _ _ _ _ fl=>Nat.ble fl 1|_=>true
structure RH (G:Nat)(F:Nat->Prop)(W:World)(e:Em)(H:Hp)(w:World):Prop where
 N:e.N=H.next
 obj:∀i o,H.h.get i=some o->i<e.N/\∃ob,w.heap[e.b i]?=some ob/\OR e i o ob/\(wr o=true\/e.n G<=e.b i->¬F (e.b i))
 inj:∀i j oi oj,H.h.get i=some oi->H.h.get j=some oj->(wr oi=true\/e.n G<=e.b i)->e.b i=e.b j->i=j
 ub:∀g,g<G->g<e.N/\e.b g=g/\e.d g=0
 frame:∀k,F k->k<w.heap.size/\w.heap[k]?=W.heap[k]?
 os:w.os=W.os
 tape:w.tape=W.tape
 output:w.output=W.output
 size:W.heap.size<=w.heap.size
 nL:G<=w.heap.size/\G<e.N/\e.n G<=w.heap.size
section
variable {G:Nat}{F:Nat->Prop}{W:World}{e:Em}{H:Hp}{w:World}
theorem RH.drawn (h:RH G F W e H w)(n:Nat):RH G F W e H {w with drawn:=n}:=⟨h.N,h.obj,h.inj,h.ub,h.frame,h.os,h.tape,h.output,h.size,h.nL⟩
theorem RH.WS (h:RH G F W e H w){F':Nat->Prop}{W':World}(hF:∀k,F' k->k<w.heap.size/\w.heap[k]?=W'.heap[k]?)(hw:∀i o,H.h.get i=some o->wr o=true\/e.n G<=e.b i->¬F' (e.b i))
  (os:w.os=W'.os) (tape:w.tape=W'.tape) (output:w.output=W'.output) (size:W'.heap.size<=w.heap.size):RH G F' W' e H w:=
 ⟨h.N,λi o ho=>let ⟨a,ob,b,c,_⟩:=h.obj i o ho;⟨a,ob,b,c,hw i o ho⟩,h.inj,h.ub,hF,os,tape,output,size,h.nL⟩
section
variable {H':Hp}{i off:Nat}{o:AO}{ob:Obj}{v':Value}{α:Type}
theorem SD {v:AV}(h:cellAt H i off=some v):∃c lo hi el fl,H.h.get i=some (.cells c lo hi el fl)/\lo<=off/\off<hi/\c.get off=some v:=by
 unfold cellAt at h;split at h
 ·rename_i c lo hi el fl hg;cases hb:(Nat.ble lo off&&Nat.blt off hi) with
  |false=>rw[hb] at h;cases h
  |true=>
   rw[hb] at h;simp only[aaA,af1,aeI] at hb;exact⟨c,lo,hi,el,fl,hg,hb.1,hb.2,h⟩
 ·cases h
theorem RH.load (h:RH G F W e H w){v:AV}(hc:cellAt H i off=some v):i<e.N/\∃o:Nat,(o:Int)=off+e.d i/\∃v',w.cell? ⟨e.b i,o,none⟩=some v'/\VR e v v':=by
 obtain⟨c,lo,hi,el,fl,hg,iy,kW,hv⟩:=SD hc;obtain⟨hN,ob,eN,eT,_⟩:=h.obj i _ hg;cases eT with
 |cells _ _ _ _ _ C fz hn ka h0 h1 hd=>
  obtain⟨k',qV,v',bS,hr⟩:=ka off v iy kW hv;exact⟨hN,k',qV,v',by simp[World.cell?,eN,bS],hr⟩
theorem RH.Zs (h:RH G F W e H w){o:Nat}{v:AV}(hc:cellAt H i off=some v)(ho:(o:Int)=off+e.d i):o<e.n i:=by
 obtain⟨c,lo,hi,el,fl,hg,iy,kW,hv⟩:=SD hc;obtain⟨hN,ob,eN,eT,_⟩:=h.obj i _ hg;cases eT with
 |cells _ _ _ _ _ C fz hn ka h0 h1 hd=>
  obtain⟨k',qV,v',bS,hr⟩:=ka off v iy kW hv;have:=(adh.1 bS).1;omega
theorem VR.abM {v:AV}(h:VR e v v')(ho:aX v=true):v'.oneCell'=true:=by cases h<;>first|rfl|(simp[aX] at ho)
theorem aDB {v:AV}(h:setCell H i off v=some H'):∃c lo hi el fl,H.h.get i=some (.cells c lo hi el fl)/\lo<=off/\off<hi/\fl<=1/\(c.get off).isSome=true/\aX v=true/\
  H'={H with h:=H.h.cL i (.cells (c.cL off v) lo hi el fl)}:=by
 unfold setCell at h;split at h
 ·rename_i c lo hi el fl hg;cases hb:(Nat.ble lo off&&Nat.blt off hi&&Nat.ble fl 1&&(c.get off).isSome&&aX v) with
  |false=>rw[hb] at h;cases h
  |true=>
   rw[hb] at h;simp only[aaA,af1,aeI] at hb;exact⟨c,lo,hi,el,fl,hg,hb.1.1.1.1,hb.1.1.1.2,hb.1.1.2,hb.1.2,hb.2,by simpa using h.symm⟩
 ·cases h
theorem I2 (a:Array α)(k:Nat)(f:α->α){x:α}(h:a[k]?=some x):(a.modify k f)[k]?=some (f x):=by rw[Array.getElem?_modify,zz2 rfl,h];rfl
theorem HY (a:Array α)(k j:Nat)(f:α->α)(h:k≠j):(a.modify k f)[j]?=a[j]?:=by rw[Array.getElem?_modify,zz1 h]
theorem RH.put (h:RH G F W e H w){o':AO}(hg:H.h.get i=some o)(hw:wr o=true){sD:Obj}{w':World}
  (fy:w'.heap.size=w.heap.size) (hb:w'.heap[e.b i]?=some sD) (aF:∀k,k≠e.b i->w'.heap[k]?=w.heap[k]?)
  (eT:OR e i o' sD) (os:w'.os=w.os) (tape:w'.tape=w.tape) (output:w'.output=w.output):RH G F W e {H with h:=H.h.cL i o'} w':=by
 obtain⟨hN,ob,eN,_,hF⟩:=h.obj i o hg;have gj:∀j,(H.h.cL i o').get j=if j=i then some o' else H.h.get j:=λj=>Tr.YI _ _ _ _ (by rw[hg];rfl)
 have ar4:∀j oj,(H.h.cL i o').get j=some oj->∃se,H.h.get j=some se:=by
  intro j oj hj;rw[gj] at hj;by_cases e:j=i;·exact⟨o,by rw[e];exact hg⟩
  ·rw[zz1 e] at hj;exact⟨oj,hj⟩
 refine⟨h.N,?_,?_,h.ub,?_,os.trans h.os,tape.trans h.tape,output.trans h.output,by rw[fy];exact h.size,by rw[fy];exact h.nL⟩
 ·intro j oj hj;have hj0:=hj;rw[gj] at hj;by_cases ej:j=i;·subst ej;rw[zz2 rfl] at hj;cases hj;exact⟨hN,sD,hb,eT,λ_=>hF (.inl hw)⟩
  ·rw[zz1 ej] at hj;obtain⟨a,rM,b2,c2,d2⟩:=h.obj j oj hj;refine⟨a,rM,?_,c2,d2⟩;rw[aF _ (λe2=>ej (h.inj i j o oj hg hj (.inl hw) e2.symm).symm)];exact b2
 ·intro j k oj ok hj hk hq he;obtain⟨ok',qV⟩:=ar4 k ok hk;by_cases ej:j=i;·subst ej;exact h.inj j k o ok' hg qV (.inl hw) he
  ·rw[gj,zz1 ej] at hj;exact h.inj j k oj ok' hj qV hq he
 ·intro k hk;obtain⟨a,b⟩:=h.frame k hk;refine⟨by rw[fy];exact a,?_⟩;rw[aF k (λe2=>hF (.inl hw) (e2▸hk))];exact b
theorem RH.store (h:RH G F W e H w){v:AV}(hs:setCell H i off v=some H')(hv:VR e v v'):
  i<e.N/\∃o:Nat,(o:Int)=off+e.d i/\(w.cell? ⟨e.b i,o,none⟩).isSome=true/\w.frozen? ⟨e.b i,o,none⟩=false/\v'.oneCell'=true/\RH G F W e H' (w.setCell ⟨e.b i,o,none⟩ v'):=by
 obtain⟨c,lo,hi,el,fl,hg,iy,kW,oq,ahZ,h1c,rfl⟩:=aDB hs;obtain⟨hN,ob,eN,eT,hF⟩:=h.obj i _ hg;obtain⟨v0,HW⟩:=ajZ.1 ahZ;cases eT with
 |cells _ _ _ _ _ C fz hn ka h0 h1 hd=>
  obtain⟨k',qV,v0',amC,hr⟩:=ka off v0 iy kW HW;have gZ:k'<C.size:=(adh.1 amC).1;refine⟨hN,k',qV,by simp[World.cell?,eN,amC],?_,hv.abM h1c,?_⟩;·have:=h1 oq k' gZ;simp only[World.frozen?,eN];exact this
  ·refine h.put hg (by simp[wr,oq]) (sD:=.cells (C.setIfInBounds k' v') el fz) ?_ ?_ ?_ ?_ rfl rfl rfl;·simp[World.setCell]
   ·simp only[World.setCell];rw[I2 _ _ _ eN];rfl
   ·intro k hk;simp only[World.setCell];rw[HY _ _ _ _ (λe=>hk e.symm)]
   ·refine .cells _ lo hi el fl _ fz (by simpa using hn) ?_ h0 (by simpa using h1) hd;intro k u a b hk;rw[Tr.YI _ _ _ _ ahZ] at hk;by_cases ek:k=off;·subst ek;rw[zz2 rfl] at hk;cases hk;exact⟨k',qV,v',by simp[gZ],hv⟩
    ·rw[zz1 ek] at hk;obtain⟨k2,CN,u',jW,dA⟩:=ka k u a b hk;refine⟨k2,CN,u',?_,dA⟩;rw[agY zzz];exact jW
def Em.ext (e:Em)(b:Nat)(d:Int)(n:Nat):Em:=
 {b:=λi=>if i=e.N then b else e.b i,d:=λi=>if i=e.N then d else e.d i,n:=λi=>if i=e.N then n else e.n i,N:=e.N+1}
theorem Em.rp (e:Em)(b:Nat)(d:Int)(n:Nat):e.le (e.ext b d n):=
 ⟨ahX _,λi hi=>by have:¬i=e.N:=zzz;simp[Em.ext,this]⟩
theorem Em.pj (e:Em)(b:Nat)(d:Int)(n:Nat):(e.ext b d n).b e.N=b:=by simp[Em.ext]
theorem Em.po (e:Em)(b:Nat)(d:Int)(n:Nat):(e.ext b d n).d e.N=d:=by simp[Em.ext]
theorem Em.Ag (e:Em)(b:Nat)(d:Int)(n:Nat):(e.ext b d n).n e.N=n:=by simp[Em.ext]
theorem Al (h:alloc H o=some (i,H')):i=H.next/\True/\H'=⟨H.h.put 34 H.next o,H.next+1⟩:=by unfold alloc at h;simp only[adn,acC] at h;exact⟨h.1.symm,trivial,h.2.symm⟩
theorem RH.alloc (h:RH G F W e H w)(ha:Am.alloc H o=some (i,H')){d:Int}{n:Nat}
  (eT:OR (e.ext w.heap.size d n) i o ob):i=e.N/\RH G F W (e.ext w.heap.size d n) H' {w with heap:=w.heap.push ob}:=by
 obtain⟨rfl,aQ,rfl⟩:=Al ha;have hN:=h.N;have gj:∀j,(H.h.put 34 H.next o).get j=if j=H.next then some o else H.h.get j:=λj=>Tr.gw _ _ _ _
 have hle:=Em.rp e w.heap.size d n;have je:∀j oj,H.h.get j=some oj->(e.ext w.heap.size d n).b j=e.b j/\e.b j<w.heap.size:=by intro j oj hj;obtain⟨a,rM,b2,_,_⟩:=h.obj j oj hj;exact⟨(hle.2 j a).1,(adh.1 b2).1⟩
 refine⟨hN.symm,?_,?_,?_,?_,?_,h.os,h.tape,h.output,by simp;have:=h.size;omega,by obtain⟨g1,g2,g3⟩:=h.nL;rw[(hle.2 G g2).2.2];simp[Em.ext];omega⟩;·simp[Em.ext,hN]
 ·intro j oj hj;simp only at hj;rw[gj] at hj;by_cases ej:j=H.next
  ·subst ej;rw[zz2 rfl] at hj;cases hj;refine⟨by simp[Em.ext,hN],ob,?_,eT,?_⟩;·rw[<-hN,Em.pj];simp
   ·intro _ hF;rw[<-hN,Em.pj] at hF;have:=(h.frame _ hF).1;omega
  ·rw[zz1 ej] at hj;obtain⟨a,rM,b2,c2,d2⟩:=h.obj j oj hj;obtain⟨q,r⟩:=je j oj hj;refine⟨by simp[Em.ext];omega,rM,?_,c2.mono hle a,?_⟩;·rw[q,amr,zz1 zzz];exact b2
   ·intro hw;rw[q,(hle.2 G h.nL.2.1).2.2] at hw;rw[q];exact d2 hw
 ·intro j k oj ok hj hk hq he;simp only at hj hk;rw[gj] at hj hk;by_cases ej:j=H.next<;>by_cases ek:k=H.next;·omega
  ·rw[zz1 ek] at hk;obtain⟨q,r⟩:=je k ok hk;rw[q,ej,<-hN,Em.pj] at he;omega
  ·rw[zz1 ej] at hj;obtain⟨q,r⟩:=je j oj hj;rw[q,ek,<-hN,Em.pj] at he;omega
  ·rw[zz1 ej] at hj;rw[zz1 ek] at hk;rw[(je j oj hj).1,(hle.2 G h.nL.2.1).2.2] at hq;rw[(je j oj hj).1,(je k ok hk).1] at he;exact h.inj j k oj ok hj hk hq he
 ·intro g hg;obtain⟨a,b,c⟩:=h.ub g hg;obtain⟨x,y,_⟩:=hle.2 g a;exact⟨by simp[Em.ext];omega,x.trans b,y.trans c⟩
 ·intro k hk;obtain⟨a,b⟩:=h.frame k hk;refine⟨by simp;omega,?_⟩;simp only;rw[amr,zz1 zzz];exact b
end
end
end
section
variable {P:Program}{G:Nat}{F:Nat->Prop}{W:World}{e:Em}{H:Hp}{w:World}
theorem aL {t:TypeId}{d:TypeDesc}(h:P.underlying t=some d)(w:World):(underlying t).run P w=.ok d w:=by simp[underlying,h]
theorem rC {t:TypeId}{i:TypeInfo}(h:P.info? t=some i)(w:World):(typeInfo t).run P w=.ok i w:=by simp[typeInfo,h]
theorem iZ {t:TypeId}{n:Nat}(h:sz P t=some n)(w:World):(sizeOf t).run P w=.ok n w:=by
 unfold sz at h;cases hi:P.info? t with
 |none=>simp[hi] at h|some i=>
  simp only[hi,aeL,adn] at h;simp[sizeOf,typeInfo,hi,h]
theorem Qm {t:TypeId}{b:Bool}(h:zG P t=some b)(w:World):(isAgg t).run P w=.ok b w:=by
 unfold zG at h;cases hu:P.underlying t with
 |none=>simp[hu] at h|some d=>
  simp only[hu,aeL,adn] at h;simp only[isAgg,Sem.run_bind,aL hu,Result.andThen_ok];subst h;cases d<;>rfl
section
variable {H':Hp}{a' v':Value}{el:TypeId}{i off:Nat}{l:List AV}
theorem RH.CI (h:RH G F W e H w):∀{n off:Nat} {l:List AV} {o:Nat},au H i off n=some l->(o:Int)=off+e.d i->
  ∃cs:List Value,aV e l cs/\cs.length=n/\∀j v,cs[j]?=some v->w.cell? ⟨e.b i,o+j,none⟩=some v:=by
 intro n;induction n with
 |zero=>
  intro off l o hc ho;simp only[au,adn] at hc;subst hc;exact⟨[],.nil e,rfl,zzy⟩
 |succ n ih=>
  intro off l o hc ho;simp only[au,acH,Option.pure_def,aba,adn] at hc;obtain⟨v,hv,r,hr,rfl⟩:=hc;obtain⟨_,o',iJ,v',bS,jh⟩:=h.load hv;have:o'=o:=zzz;subst this;obtain⟨cs,h1,h2,h3⟩:=ih (o:=o'+1) hr zzz;refine⟨v'::cs,.cons jh h1,by simp[h2],λj u hj=>?_⟩;cases j with
  |zero=>simp at hj;subst hj;exact bS|succ j=>have:=h3 j u (by simpa using hj);rw[show o'+(j+1)=o'+1+j by omega];exact this
theorem RH.PV:∀{l:List AV} {cs:List Value} {H H':Hp} {w:World} {i off k:Nat} {o:Nat},RH G F W e H w->setCells H i (off+k) l=some H'->aV e l cs->(o:Int)=off+e.d i->
  ∃w',(storeCells ⟨e.b i,o,none⟩ cs k).run P w=.ok () w'/\RH G F W e H' w':=by
 intro l;induction l with
 |nil=>
  intro cs H H' w i off k o h hs hl ho;simp only[setCells,adn] at hs;subst hs;rw[hl.lH];exact⟨w,by simp[storeCells],h⟩
 |cons v l ih=>
  intro cs H H' w i off k o h hs hl ho;simp only[setCells,acH,aba] at hs;obtain⟨H1,h1,h2⟩:=hs;obtain⟨v',ws,rfl,hv,qn⟩:=hl.cons_inv;obtain⟨_,o',iJ,c1,c2,c3,hr⟩:=h.store h1 hv;have:o'=o+k:=zzz;subst this;obtain⟨w',BU,dA⟩:=ih (off:=off) (k:=k+1) hr h2 qn ho;refine⟨w',?_,dA⟩;obtain⟨u,hu⟩:=ajZ.1 c1;have ha:(Addr.add ⟨e.b i,o,none⟩ k)=⟨e.b i,o+k,none⟩:=by
   unfold Addr.add;split;·rename_i h0;subst h0;rfl
   ·rfl
  simp only[storeCells,Sem.run_bind,ha,run_store P w _ _ _ c3,hu,c2,abu,if_false,Result.andThen_ok];exact BU
theorem VR.cells {v:AV}(h:VR e v v')(hc:tM v=some l):aV e l v'.cells.toList:=by cases h<;>simp only[tM,adn,reduceCtorEq] at hc<;>subst hc<;>first|(exact⟨by assumption,by assumption⟩)|(simp only[Value.cells];exact .cons (by constructor<;>assumption) (.nil _))
theorem add_lit (b o k:Nat):Addr.add ⟨b,o,none⟩ k=⟨b,o+k,none⟩:=by
 unfold Addr.add;split;·rename_i h0;subst h0;rfl
 ·rfl
theorem VR.vb (h:VR e (.ptr i off) v'):∃o:Nat,i<e.N/\(o:Int)=off+e.d i/\v'=.pointer (some ⟨e.b i,o,none⟩):=by
 cases h with
 |ptr _ _ o hi ho=>exact⟨o,hi,ho,rfl⟩
theorem VR.gV {k:IntKind}{n:Int}(h:VR e (.int k n) v'):v'=.int k n:=by cases h;rfl
theorem VR.yu {b:Bool}(h:VR e (.bool b) v'):v'=.bool b:=by cases h;rfl
theorem VR.nD {s:List Nat}(h:VR e (.str s) v'):∃b,s=bytes b/\v'=.string b:=by
 cases h with
 |str b=>exact⟨b,rfl,rfl⟩
theorem VR.zJ (h:VR e (.agg l) v'):∃vs:Array Value,v'=.agg vs/\aV e l vs.toList:=by
 cases h with
 |agg _ vs hl h=>exact⟨vs,rfl,hl,h⟩
theorem VR.aic (h:VR e (.tuple l) v'):∃vs:Array Value,v'=.tuple vs/\aV e l vs.toList:=by
 cases h with
 |tuple _ vs hl h=>exact⟨vs,rfl,hl,h⟩
theorem VR.M3 (h:VR e (.map i) v'):i<e.N/\v'=.map (some (e.b i)):=by
 cases h with
 |map _ hi=>exact⟨hi,rfl⟩
theorem VR.nf {len cap:Nat}{ex:Bool}{es:Nat}(h:VR e (.slice i off len cap ex es) v'):
  (∃o c:Nat,i<e.N/\(o:Int)=off+e.d i/\len<=c/\cap<=c/\(ex=true->c=cap)/\o+c*es<=e.n i/\v'=.slice (some ⟨e.b i,o,none⟩) len c)\/
  (len=0/\cap=0/\∃a,v'=.slice (some a) 0 0):=by
 cases h with
 |slice _ _ _ _ _ _ o c hi ho hl hc hx hn=>exact .inl ⟨o,c,hi,ho,hl,hc,hx,hn,rfl⟩|DP _ _ _ _ a=>exact .inr ⟨rfl,rfl,a,rfl⟩
theorem abL (h:RH G F W e H w){t:TypeId}{a v:AV}(ha:VR e a a')(hl:vH P H t a=some v):
  ∃v',(Instr.loadAt t a').run P w=.ok v' w/\VR e v v':=by
 unfold vH at hl;split at hl
 ·rename_i i off;simp only[acH,aba] at hl;obtain⟨b,hb,hl⟩:=hl;obtain⟨o,hi,ho,rfl⟩:=ha.vb;cases b with
  |true=>
   simp only[if_true,Option.pure_def,aba,adn] at hl;obtain⟨n,hn,l,hl,rfl⟩:=hl;obtain⟨cs,h1,h2,h3⟩:=h.CI hl ho;refine⟨.agg cs.toArray,?_,.aa5 h1⟩;have:=run_loadCells_list (P:=P) w ⟨e.b i,o,none⟩ cs (λj v hj=>by rw[add_lit];exact h3 j v hj);rw[h2] at this;simp[Instr.loadAt,Instr.sureAddr,loadVar,Qm hb,iZ hn,this]
  |false=>
   simp only[abu,if_false] at hl;obtain⟨_,o',iJ,v',bS,hr⟩:=h.load hl;have:o'=o:=zzz;subst this;exact⟨v',by simp[Instr.loadAt,Instr.sureAddr,loadVar,Qm hb,bS],hr⟩
 ·cases hl
theorem apv (h:RH G F W e H w){t:TypeId}{a v:AV}(ha:VR e a a')(hv:VR e v v')(hs:Kb P H t a v=some H'):
  ∃w',(Instr.storeAt t a' v').run P w=.ok () w'/\RH G F W e H' w':=by
 unfold Kb at hs;split at hs
 ·rename_i i off;simp only[acH,aba] at hs;obtain⟨cs,gG,n,hn,hs⟩:=hs;obtain⟨o,hi,ho,rfl⟩:=ha.vb;split at hs
  ·rename_i hlen;have hl:=hv.cells gG;obtain⟨w',BU,hr⟩:=RH.PV (P:=P) (off:=off) (k:=0) h hs hl ho;refine⟨w',?_,hr⟩;have fy:v'.cells.size=n:=by have:=hl.1;simp at this hlen;omega
   simp[Instr.storeAt,Instr.sureAddr,storeVar,iZ hn,fy,BU]
  ·cases hs
 ·cases hs
theorem QY {fl:Nat}(h:aA H l el fl=some (i,H')):
  l.length<=16777216/\Am.alloc H (.cells (Tr.bZ .nil 0 l) 0 l.length el fl)=some (i,H'):=by
 unfold aA at h;cases hb:Nat.ble l.length 16777216 with
 |false=>rw[hb] at h;cases h
 |true=>rw[hb] at h;exact⟨by simpa using hb,h⟩
theorem RH.newRow (h:RH G F W e H w){cs rest:List Value}{fl:Nat}{fz:Nat×Nat}(hn:aA H l el fl=some (i,H'))(hl:aV e l cs)
  (h0:fl=0->fz=(0,0)) (h1:fl<=1->∀k,k<(cs++rest).length->(decide (fz.1<=k)&&decide (k<fz.2))=false):
  ∃e',e.le e'/\i<e'.N/\e'.b i=w.heap.size/\e'.d i=0/\e'.n i=(cs++rest).length/\RH G F W e' H' {w with heap:=w.heap.push (.cells (cs++rest).toArray el fz)}:=by
 obtain⟨hlen,ha⟩:=QY hn;have hle:=Em.rp e w.heap.size 0 (cs++rest).length;have eT:OR (e.ext w.heap.size 0 (cs++rest).length) i (.cells (Tr.bZ .nil 0 l) 0 l.length el fl) (.cells (cs++rest).toArray el fz):=by have hi:=(Al ha).1;have jP:i=e.N:=hi.trans h.N.symm;subst jP;refine .cells _ _ _ _ _ _ fz (by simp[Em.Ag]) ?_ h0 (by simpa using h1) (λ_=>Em.po ..);intro k v _ hk hg;rw[Tr.IB .nil _ _ _ _ zzz] at hg;rw[zz2 ⟨zzz,zzz⟩,aij] at hg;obtain⟨v',bS,hr⟩:=hl.get hg;refine⟨k,by rw[Em.po];omega,v',?_,hr.mono hle⟩;have:k<cs.length:=(aak.1 bS).1;simp only[agm];rw[abE this];exact bS
 obtain⟨hi,hr⟩:=h.alloc ha eT;subst hi;exact⟨_,hle,by simp[Em.ext],Em.pj ..,Em.po ..,Em.Ag ..,hr⟩
end
end
end Go.Proofs.YtodfajmihkagnaaGreatDoor.Am
