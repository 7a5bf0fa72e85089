/- An evaluator over a symbolic heap, and how its values stand to the model's: definitions and first laws (of no program). -/
import GoSem.Dispatch
import Derived.Orders
import Derived.Laws.Cells
import Derived.Below
import Derived.Laws.Strings
import Derived.Laws.BytesString
import Derived.Lib.UnsafeStr
import Derived.IntWalk
import Derived.Laws.Externs
import Derived.Lib.Bytealg
set_option linter.unusedVariables false
set_option linter.unusedSimpArgs false
namespace Go.Proofs.YtehhgkgeldinkaaGreatDoor.Am

/-! The abstract machine: values, objects, the heap. -/

/-- a place in a tree with four branches -/
inductive Pa where
  | e
  | a (p : Pa)
  | b (p : Pa)
  | c (p : Pa)
  | d (p : Pa)
  deriving DecidableEq

def pth : Nat → Nat → Pa
  | 0, _ => .e
  | f + 1, n => bif Nat.beq n 0 then .e else bif Nat.beq ((n - 1) % 4) 0 then .a (pth f ((n - 1) / 4)) else bif Nat.beq ((n - 1) % 4) 1 then .b (pth f ((n - 1) / 4)) else bif Nat.beq ((n - 1) % 4) 2 then .c (pth f ((n - 1) / 4)) else .d (pth f ((n - 1) / 4))
def pathOf (n : Nat) : Pa := pth (n + 1) n

inductive Tr (α : Type) where
  | nil
  | node (v : Option α) (k0 k1 k2 k3 : Tr α)

namespace Tr
variable {α : Type}
def val : Tr α → Option α
  | .nil => none
  | .node v _ _ _ _ => v
def c0 : Tr α → Tr α
  | .nil => .nil
  | .node _ k _ _ _ => k
def c1 : Tr α → Tr α
  | .nil => .nil
  | .node _ _ k _ _ => k
def c2 : Tr α → Tr α
  | .nil => .nil
  | .node _ _ _ k _ => k
def c3 : Tr α → Tr α
  | .nil => .nil
  | .node _ _ _ _ k => k
def getP : Pa → Tr α → Option α
  | .e, t => t.val
  | .a p, t => getP p t.c0
  | .b p, t => getP p t.c1
  | .c p, t => getP p t.c2
  | .d p, t => getP p t.c3
def putP : Pa → Option α → Tr α → Tr α
  | .e, x, t => .node x t.c0 t.c1 t.c2 t.c3
  | .a p, x, t => .node t.val (putP p x t.c0) t.c1 t.c2 t.c3
  | .b p, x, t => .node t.val t.c0 (putP p x t.c1) t.c2 t.c3
  | .c p, x, t => .node t.val t.c0 t.c1 (putP p x t.c2) t.c3
  | .d p, x, t => .node t.val t.c0 t.c1 t.c2 (putP p x t.c3)
def get (t : Tr α) (n : Nat) : Option α := getP (pathOf n) t
/-- at a place that holds something -/
def upd (t : Tr α) (n : Nat) (x : α) : Tr α := putP (pathOf n) (some x) t
def del (t : Tr α) (n : Nat) : Tr α := putP (pathOf n) none t
def put (_ : Nat) (t : Tr α) (n : Nat) (x : α) : Tr α := putP (pathOf n) (some x) t
def puts (t : Tr α) (n : Nat) : List α → Tr α
  | [] => t
  | x :: xs => puts (t.put 34 n x) (n + 1) xs
end Tr

inductive AV where
  | junk
  | bool (b : Bool)
  | int (k : IntKind) (n : Int)
  | str (s : List Nat)
  | ptr0
  | ptr (i off : Nat)
  | slice0
  | slice (i off len cap : Nat) (exact : Bool) (es : Nat)
  | map0
  | map (i : Nat)
  | func (fn : Fn) (first captured : List AV)
  | yield (l : Nat)
  | nilFunc
  | nilIface
  | iface (t : TypeId) (v : AV)
  | agg (l : List AV)
  | tuple (l : List AV)
  deriving Inhabited

def undefA : AV := .tuple []

structure ME where
  key : AV
  val : AV
  born : Nat

inductive AO where
  | cells (c : Tr AV) (lo hi : Nat) (elem : TypeId) (fl : Nat)
  | map (es : List ME) (clock : Nat)
  | sit (s : List Nat) (pos : Nat)
  | mit (m : Option Nat) (since : Nat) (seen : List Nat) (stepped : Nat)
  | loop (pending : Option Code) (tmps : Tr AV) (params : List Tmp) (assign body : Code)

structure Hp where
  h : Tr AO
  next : Nat

abbrev Tm := Tr AV

def bytes (s : ByteArray) : List Nat := s.data.toList.map (·.toNat)

def ofS : Value → Option AV
  | .bool b => some (.bool b)
  | .int k n => some (.int k n)
  | .string s => some (.str (bytes s))
  | .pointer none => some .ptr0
  | .slice none 0 0 => some .slice0
  | .map none => some .map0
  | .nilFunc => some .nilFunc
  | .nilIface => some .nilIface
  | _ => none
def ofC : Value → Option AV
  | .agg cs => (cs.toList.mapM ofS).map .agg
  | .tuple cs => (cs.toList.mapM ofS).map .tuple
  | .iface t v => (ofS v).map (.iface t)
  | v => ofS v

def ev (G : Nat) (t : Tm) : Operand → AV
  | .tmp x => (t.get x).getD undefA
  | .const v => (ofC v).getD .junk
  | .global g => bif Nat.blt g G then .ptr g 0 else .junk
  | .func f => .func (.func f) [] []

def cellsV : AV → Option (List AV)
  | .agg l => some l
  | .junk => none
  | v => some [v]

variable (P : Program)

def zc (t : TypeId) : Option (List AV) := do (← (← P.info? t).zero).cells.toList.mapM ofS
def sz (t : TypeId) : Option Nat := (P.info? t).map (·.size)
def aggT (t : TypeId) : Option Bool := (P.underlying t).map fun | .struct _ => true | .array _ _ => true | _ => false

def mapMO {α β : Type} (f : α → Option β) : List α → Option (List β)
  | [] => some []
  | a :: l => match f a with
    | some b => match mapMO f l with
      | some r => some (b :: r)
      | none => none
    | none => none

def cellAt (H : Hp) (i off : Nat) : Option AV :=
  match H.h.get i with
  | some (.cells c lo hi _ _) => bif Nat.ble lo off && Nat.blt off hi then c.get off else none
  | _ => none
def cellsAt (H : Hp) (i off : Nat) : Nat → Option (List AV)
  | 0 => some []
  | n + 1 => do
    let v ← cellAt H i off
    let r ← cellsAt H i (off + 1) n
    pure (v :: r)
def oneC : AV → Bool
  | .agg _ | .tuple _ | .junk => false
  | _ => true
def setCell (H : Hp) (i off : Nat) (v : AV) : Option Hp :=
  match H.h.get i with
  | some (.cells c lo hi el fl) => bif Nat.ble lo off && Nat.blt off hi && Nat.ble fl 1 && (c.get off).isSome && oneC v then some { H with h := H.h.upd i (.cells (c.upd off v) lo hi el fl) } else none
  | _ => none
def setCells (H : Hp) (i off : Nat) : List AV → Option Hp
  | [] => some H
  | v :: vs => do setCells (← setCell H i off v) i (off + 1) vs
def alloc (H : Hp) (o : AO) : Option (Nat × Hp) :=
  some (H.next, ⟨H.h.put 34 H.next o, H.next + 1⟩)
def newCells (H : Hp) (l : List AV) (elem : TypeId) (fl : Nat) : Option (Nat × Hp) :=
  bif Nat.ble l.length 16777216 then alloc H (.cells (Tr.puts .nil 0 l) 0 l.length elem fl) else none
def setObj (H : Hp) (i : Nat) (o : AO) : Hp := { H with h := H.h.upd i o }

def sameS : AV → AV → Bool
  | .bool a, .bool b => a == b
  | .int j a, .int k b => j == k && a == b
  | .str a, .str b => a == b
  | .ptr0, .ptr0 => true
  | .ptr a b, .ptr c d => Nat.beq a c && Nat.beq b d
  | .slice0, .slice0 => true
  | .slice a b c d e f, .slice a' b' c' d' e' f' => Nat.beq a a' && Nat.beq b b' && Nat.beq c c' && Nat.beq d d' && e == e' && Nat.beq f f'
  | .map0, .map0 => true
  | .map a, .map b => Nat.beq a b
  | .nilFunc, .nilFunc => true
  | .nilIface, .nilIface => true
  | _, _ => false
def sameL : List AV → List AV → Bool
  | [], [] => true
  | a :: x, b :: y => sameS a b && sameL x y
  | _, _ => false
def same : AV → AV → Bool
  | .agg x, .agg y => sameL x y
  | .tuple x, .tuple y => sameL x y
  | .iface t x, .iface u y => Nat.beq t u && sameS x y
  | a, b => sameS a b

def loadV (H : Hp) (t : TypeId) (a : AV) : Option AV :=
  match a with
  | .ptr i off => do
    if ← aggT P t then do pure (.agg (← cellsAt H i off (← sz P t))) else cellAt H i off
  | _ => none
def storeV (H : Hp) (t : TypeId) (a v : AV) : Option Hp :=
  match a with
  | .ptr i off => do
    let cs ← cellsV v
    if (← sz P t) == cs.length then setCells H i off cs else none
  | _ => none

def partA (t : TypeId) (cs : List AV) (off : Nat) : Option AV := do
  if ← aggT P t then do
    let n ← sz P t
    bif Nat.ble (off + n) cs.length then some (.agg ((cs.drop off).take n)) else none
  else cs[off]?

def fillA (place : Nat → Option (Nat × Nat)) (cells : List AV) : List (Nat × AV) → Option (List AV)
  | [] => some cells
  | (i, v) :: rest =>
    match place i with
    | none => none
    | some (off, size) =>
      match cellsV v with
      | none => none
      | some cs =>
        if cs.length = size ∧ off + size ≤ cells.length then fillA place (cells.take off ++ cs ++ cells.drop (off + size)) rest else none

def placesA (fs : Array Field) : Option (List (Nat × Nat)) := mapMO (fun f : Field => (sz P f.type).map fun n => (f.offset, n)) fs.toList

def rep (n : Nat) (l : List AV) : List AV := (List.replicate n l).flatten

def allO {α : Type} (g : α → Option Bool) : List α → Option Bool
  | [] => some true
  | a :: r => match g a with
    | some true => allO g r
    | some false => some false
    | none => none

def clean (H : Hp) (i : Nat) : Bool :=
  match H.h.get i with
  | some (.cells _ _ _ _ 0) => true
  | _ => false

def eqA : Nat → TypeId → AV → AV → Hp → Option Bool
  | 0, _, _, _, _ => none
  | d + 1, t, x, y, H =>
    match P.underlying t with
    | none => none
    | some u =>
    match u, x, y with
    | .bool, .bool a, .bool b => some (a == b)
    | .int _, .int k a, .int k' b => if k = k' then some (a == b) else none
    | .string, .str a, .str b => some (a == b)
    | .pointer _, .ptr0, .ptr0 => some true
    | .pointer _, .ptr0, .ptr _ _ => some false
    | .pointer _, .ptr _ _, .ptr0 => some false
    | .pointer el, .ptr i a, .ptr j b =>
      match sz P el with
      | some (n + 1) => bif Nat.beq i j then some (Nat.beq a b) else bif clean H i && clean H j then some false else none
      | _ => none
    | .interface _, .nilIface, .nilIface => some true
    | .interface _, .nilIface, .iface _ _ => some false
    | .interface _, .iface _ _, .nilIface => some false
    | .interface _, .iface t x, .iface t' y =>
      if t = t' then
        match P.info? t with
        | some i => bif i.comparable then eqA d t x y H else none
        | none => none
      else some false
    | .struct fs, .agg xs, .agg ys =>
      bif P.stoodInHeld t then none else
      allO (fun f => if f.name = "_" then some true else
        match partA P f.type xs f.offset, partA P f.type ys f.offset with
        | some a, some b => eqA d f.type a b H
        | _, _ => none) fs.toList
    | .array n el, .agg xs, .agg ys =>
      match sz P el with
      | some s => allO (fun i =>
        match partA P el xs (i * s), partA P el ys (i * s) with
        | some a, some b => eqA d el a b H
        | _, _ => none) (List.range' 0 n)
      | none => none
    | .slice _, .slice0, .slice0 => some true
    | .slice _, .slice0, .slice .. => some false
    | .slice _, .slice .., .slice0 => some false
    | .map _ _, .map0, .map0 => some true
    | .map _ _, .map0, .map _ => some false
    | .map _ _, .map _, .map0 => some false
    | .func .., .nilFunc, .nilFunc => some true
    | .func .., .nilFunc, .func .. => some false
    | .func .., .func .., .nilFunc => some false
    | _, _, _ => none

def ltL : List Nat → List Nat → Bool
  | _, [] => false
  | [], _ :: _ => true
  | a :: x, b :: y => Nat.blt a b || (Nat.beq a b && ltL x y)

/-- the bits of a number -/
def bts (k : IntKind) (a : Int) : Nat := (a % ((2 ^ k.bits : Nat) : Int)).toNat

def binA (op : BinOp) (t : TypeId) (x y : AV) (H : Hp) : Option AV :=
  match op, x, y with
  | .shl, .int k a, .int _ b => if b < 0 then none else some (.int k (k.wrap (a * 2 ^ (min b.toNat k.bits))))
  | .shr, .int k a, .int _ b => if b < 0 then none else some (.int k (a.fdiv (2 ^ (min b.toNat k.bits))))
  | op, .int k a, .int k' b =>
    if k = k' then
      match op with
      | .add => some (.int k (k.wrap (a + b)))
      | .sub => some (.int k (k.wrap (a - b)))
      | .mul => some (.int k (k.wrap (a * b)))
      | .quo => if b = 0 then none else some (.int k (k.wrap (a.tdiv b)))
      | .rem => if b = 0 then none else some (.int k (a.tmod b))
      | .and => some (.int k (k.wrap (bts k a &&& bts k b : Nat)))
      | .or => some (.int k (k.wrap (bts k a ||| bts k b : Nat)))
      | .xor => some (.int k (k.wrap (bts k a ^^^ bts k b : Nat)))
      | .andNot => none
      | .eql => some (.bool (a == b))
      | .neq => some (.bool (a != b))
      | .lss => some (.bool (a < b))
      | .leq => some (.bool (a ≤ b))
      | .gtr => some (.bool (b < a))
      | .geq => some (.bool (b ≤ a))
      | _ => none
    else none
  | op, .str a, .str b =>
    match op with
    | .add => bif Nat.ble (a.length + b.length) 4294967296 then some (.str (a ++ b)) else none
    | .eql => some (.bool (a == b))
    | .neq => some (.bool (!(a == b)))
    | .lss => some (.bool (ltL a b))
    | .leq => some (.bool (ltL a b || a == b))
    | .gtr => some (.bool (!(ltL a b || a == b)))
    | .geq => some (.bool (!(ltL a b)))
    | _ => none
  | .eql, x, y => (eqA P 50 t x y H).map .bool
  | .neq, x, y => (eqA P 50 t x y H).map fun b => .bool !b
  | _, _, _ => none

def isC : Operand → Bool
  | .const _ => true
  | _ => false
def guardA (op : BinOp) (t : TypeId) (X Y : Operand) (x y : AV) : Bool :=
  match op with
  | .eql | .neq => match x, y with
    | .nilIface, .nilIface => isC X || isC Y
    | .agg _, .agg _ => !(P.eqGuardType P.depth t)
    | _, _ => true
  | _ => true

def unA (op : UnOp) (x : AV) : Option AV :=
  match op, x with
  | .neg, .int k n => some (.int k (k.wrap (0 - n)))
  | .not, .bool b => some (.bool !b)
  | .xor, .int k n => if k.signed then none else if 0 ≤ n then some (.int k (k.wrap ((k.max.toNat % 2 ^ k.bits) ^^^ (n.toNat % 2 ^ k.bits) : Nat))) else none
  | _, _ => none

def toBytes : List AV → Option (List Nat)
  | [] => some []
  | .int .u8 n :: r => do if 0 ≤ n && n < 256 then pure (n.toNat :: (← toBytes r)) else none
  | _ => none

def posSz (t : TypeId) : Bool := match sz P t with | some (_ + 1) => true | _ => false

def convA (src dst : TypeId) (x : AV) (H : Hp) : Option (AV × Hp) :=
  match P.underlying src, P.underlying dst with
  | some s, some d =>
    match s, d, x with
    | _, .int k, .int _ n => some (.int k (k.wrap n), H)
    | _, .string, .int _ n => if 0 ≤ n ∧ n < 128 then some (.str [n.toNat], H) else none
    | _, .string, .str s => some (.str s, H)
    | _, .slice e, .str s =>
      match P.underlying e with
      | some (.int .u8) =>
        match newCells H (s.map fun (b : Nat) => AV.int .u8 b) e 1 with
        | some (i, H) => some (.slice i 0 s.length s.length false 1, H)
        | none => none
      | _ => none
    | .slice _, .slice e, .slice i off len cap ex es =>
      bif Nat.beq src dst && Nat.blt 0 len then
        match P.underlying e, H.h.get i with
        | some (.int .u8), some (.cells c lo hi el 0) => some (.slice i off len cap ex es, { H with h := H.h.upd i (.cells c lo hi el 1) })
        | _, _ => none
      else none
    | .slice e, .string, .slice0 =>
      match P.underlying e with
      | some (.int .u8) => some (.str [], H)
      | _ => none
    | .slice e, .string, .slice i off len _ _ _ =>
      match P.underlying e with
      | some (.int .u8) => bif Nat.beq len 0 then some (.str [], H) else (cellsAt H i off len).bind fun cs => (toBytes cs).map fun b => (.str b, H)
      | _ => none
    | .pointer t, .unsafePointer, .ptr i o => bif (cellAt H i o).isSome && posSz P t then some (.ptr i o, H) else none
    | .unsafePointer, .pointer u, .ptr i o =>
      match H.h.get i with
      | some (.cells _ lo _ el _) => bif Nat.beq el u && Nat.beq lo 0 && Nat.beq o 0 && Nat.blt 0 (P.cellsOf u) && (cellAt H i (P.cellsOf u - 1)).isSome then some (.ptr i o, H) else none
      | _ => none
    | _, _, _ => none
  | _, _ => none

def bound (lo : Nat) (hi : Nat) : AV → Option Nat
  | .int _ n => if (lo : Int) ≤ n && n ≤ hi then some n.toNat else none
  | _ => none
def sliceBnd (len cap : Nat) (low high mx : Option AV) : Option (Nat × Nat × Nat) := do
  let m ← (match mx with | some v => bound 0 cap v | none => some cap : Option Nat)
  let h ← (match high with | some v => bound 0 m v | none => (match mx with | none => some len | some _ => none) : Option Nat)
  let l ← (match low with | some v => bound 0 h v | none => some 0 : Option Nat)
  pure (l, h, m)
def sliceA (t : TypeId) (x : AV) (low high mx : Option AV) (H : Hp) : Option AV := do
  match ← P.underlying t, x with
  | .string, .str s => do
    if mx.isSome then none else
    let (l, h, _) ← sliceBnd s.length s.length low high none
    some (.str ((s.drop l).take (h - l)))
  | .slice el, .slice0 => do
    let (_, _, _) ← sliceBnd 0 0 low high mx
    if (sz P el).isSome then some .slice0 else none
  | .slice el, .slice i off len cap ex es => do
    let (l, h, m) ← sliceBnd len cap low high mx
    if (← sz P el) == es then some (.slice i (off + l * es) (h - l) (m - l) (ex || mx.isSome) es) else none
  | .array n e, .ptr i off => do
    let (l, h, m) ← sliceBnd n n low high mx
    let es ← sz P e
    if Nat.blt 0 (n * es) && (cellAt H i (off + n * es - 1)).isSome then some (.slice i (off + l * es) (h - l) (m - l) true es) else none
  | _, _ => none

def indexAddrA (t : TypeId) (x ix : AV) : Option AV := do
  match ← P.underlying t, x, ix with
  | .array n e, .ptr i off, .int _ k => do
    let es ← sz P e
    if 0 ≤ k && k < n then some (.ptr i (off + k.toNat * es)) else none
  | .slice el, .slice i off len _ _ es, .int _ k => do
    if (← sz P el) == es && 0 ≤ k && k < len then some (.ptr i (off + k.toNat * es)) else none
  | _, _, _ => none
def indexA (t : TypeId) (x ix : AV) : Option AV := do
  match ← P.underlying t, x, ix with
  | .array n e, .agg cs, .int _ k => do
    let es ← sz P e
    if 0 ≤ k && k < n then partA P e cs (k.toNat * es) else none
  | .string, .str s, .int _ k => if 0 ≤ k then (s[k.toNat]?).map fun (b : Nat) => .int .u8 b else none
  | _, _, _ => none

/-- a key whose parts are plain -/
def chkK : Nat → TypeId → AV → Bool
  | 0, _, _ => false
  | d + 1, t, v =>
    match P.underlying t, v with
    | some (.int _), _ => true
    | some .string, _ => true
    | some .bool, _ => true
    | some (.struct fs), .agg cs => fs.toList.all fun f => if f.name ≠ "_" then (match partA P f.type cs f.offset with | some v => chkK d f.type v | none => false) else true
    | some (.array n el), .agg cs =>
      match sz P el with
      | some s => (List.range' 0 n).all fun i => match partA P el cs (i * s) with | some v => chkK d el v | none => false
      | none => false
    | _, _ => false

def sameK1 : AV → AV → Bool
  | .bool a, .bool b => a == b
  | .int j a, .int k b => decide (j = k) && decide (a = b)
  | .str a, .str b => a == b
  | _, _ => false
def sameKL : List AV → List AV → Bool
  | [], [] => true
  | a :: x, b :: y => sameK1 a b && sameKL x y
  | _, _ => false
/-- the very same key -/
def sameK : AV → AV → Bool
  | .agg x, .agg y => sameKL x y
  | a, b => sameK1 a b

def findK (H : Hp) (t : TypeId) (k : AV) : List ME → Nat → Option (Option (Nat × ME))
  | [], _ => some none
  | e :: es, i => match eqA P 20 t k e.key H with
    | some true => some (some (i, e))
    | some false => findK H t k es (i + 1)
    | none => none

def mapOf (H : Hp) : AV → Option (List ME × Nat)
  | .map0 => some ([], 0)
  | .map i => match H.h.get i with | some (.map es c) => some (es, c) | _ => none
  | _ => none

def lookupA (t : TypeId) (x k : AV) (ok : Bool) (H : Hp) : Option AV :=
  match P.underlying t with
  | some (.map kt el) =>
    bif chkK P 20 kt k then
      match mapOf H x with
      | some (es, _) =>
        match findK P H kt k es 0 with
        | some (some (_, m)) => some (bif ok then .tuple [m.val, .bool true] else m.val)
        | some none => (((P.info? el).bind (·.zero)).bind ofC).map fun z => bif ok then .tuple [z, .bool false] else z
        | none => none
      | none => none
    else none
  | _ => none
def mapUpd (t : TypeId) (x k v : AV) (H : Hp) : Option Hp :=
  match P.underlying t, x with
  | some (.map kt _), .map i =>
    bif chkK P 20 kt k then
      match H.h.get i with
      | some (.map es c) =>
        match findK P H kt k es 0 with
        | some (some (j, m)) => bif sameK m.key k then some (setObj H i (.map (es.set j { m with key := k, val := v }) c)) else none
        | some none => some (setObj H i (.map (es ++ [⟨k, v, c⟩]) (c + 1)))
        | none => none
      | _ => none
    else none
  | _, _ => none

def appNew (zeros : Bool) (el es : Nat) (x : AV) (H : Hp) : Option (Nat × List AV) :=
  match zeros, x with
  | true, .int .i64 k =>
    if 0 ≤ k ∧ k < 16777216 then
      match zc P el with
      | some z => if z.length = es then some (k.toNat, rep k.toNat z) else none
      | none => none
    else none
  | false, .slice0 => some (0, [])
  | false, .slice i off len _ _ _ => (cellsAt H i off (len * es)).map fun l => (len, l)
  | false, .str s => if es = 1 then some (s.length, s.map fun (b : Nat) => AV.int .u8 b) else none
  | _, _ => none

def appZeros (argT : Array TypeId) : Option Bool :=
  match argT[1]? with
  | some t => (P.underlying t).map (fun d => match d with | .int _ => true | _ => false)
  | none => some false

def appendA (argT : Array TypeId) (s x : AV) (H : Hp) : Option (AV × Hp) :=
  match (argT[0]?).bind P.underlying, appZeros P argT with
  | some (.slice el), some zeros =>
    match sz P el, zc P el with
    | some es, some z =>
      bif Nat.ble (P.bytesOf el) 4096 && Nat.beq z.length es then
      match appNew P zeros el es x H with
      | some (n, new) =>
        match s with
        | .slice0 =>
          bif Nat.beq n 0 then some (.slice0, H) else
          bif Nat.ble n 16777216 then
          match newCells H new el 0 with
          | some (i, H) => some (.slice i 0 n n false es, H)
          | none => none
          else none
        | .slice i off len cap ex es' =>
          bif Nat.ble (len + n) 16777216 && Nat.beq es es' && new.all oneC then
          bif Nat.ble (len + n) cap then
            match setCells H i (off + len * es) new with
            | some H => some (.slice i off (len + n) cap ex es, H)
            | none => none
          else bif ex then
            match cellsAt H i off (len * es) with
            | some old =>
              match newCells H (old ++ new) el 0 with
              | some (j, H) => some (.slice j 0 (len + n) (len + n) false es, H)
              | none => none
            | none => none
          else
            match H.h.get i with
            | some (.cells c lo hi el' fl) =>
              bif Nat.ble fl 1 && Nat.ble lo off && Nat.ble (off + len * es) hi && Nat.beq el el' then
                match alloc { H with h := H.h.del i } (.cells (c.puts (off + len * es) new) off (off + (len + n) * es) el 1) with
                | some (j, H) => some (.slice j off (len + n) (len + n) false es, H)
                | none => none
              else none
            | _ => none
          else none
        | _ => none
      | none => none
      else none
    | _, _ => none
  | _, _ => none

def lenS : AV → Option Nat
  | .slice0 => some 0
  | .slice _ _ l _ _ _ => some l
  | .str s => some s.length
  | _ => none
def cellsX (es n : Nat) (x : AV) (H : Hp) : Option (List AV) :=
  match x with
  | .slice i off _ _ _ _ => cellsAt H i off (n * es)
  | .str s => some ((s.take n).map fun (b : Nat) => AV.int .u8 b)
  | _ => none
def copyA (argT : Array TypeId) (d x : AV) (H : Hp) : Option (AV × Hp) :=
  match (argT[0]?).bind P.underlying with
  | some (.slice el) =>
    match sz P el, lenS x with
    | some es, some xl =>
      match d with
      | .slice0 => some (.int .i64 0, H)
      | .slice i off dl _ _ _ =>
        bif Nat.beq (Nat.min xl dl) 0 then some (.int .i64 0, H) else
        match cellsX es (Nat.min xl dl) x H with
        | some cs => (setCells H i off cs).map fun H => (.int .i64 (Nat.min xl dl), H)
        | none => none
      | _ => none
    | _, _ => none
  | _ => none

def delA (argT : Array TypeId) (m k : AV) (H : Hp) : Option Hp :=
  match (argT[0]?).bind P.underlying with
  | some (.map kt _) =>
    bif chkK P 20 kt k then
    match m with
    | .map0 => some H
    | .map i =>
      match H.h.get i with
      | some (.map es c) =>
        match findK P H kt k es 0 with
        | some (some (j, _)) => some (setObj H i (.map (es.eraseIdx j) c))
        | some none => some H
        | none => none
      | _ => none
    | _ => none
    else none
  | _ => none

def clearA (argT : Array TypeId) (x : AV) (H : Hp) : Option Hp :=
  match (argT[0]?).bind P.underlying, x with
  | some _, .map0 => some H
  | some _, .slice0 => some H
  | some _, .map i => match H.h.get i with
    | some (.map _ c) => some (setObj H i (.map [] c))
    | _ => none
  | some (.slice el), .slice i off n _ _ _ =>
    match zc P el with
    | some z => setCells H i off (rep n z)
    | none => none
  | _, _ => none

def lenA (argT : Array TypeId) (x : AV) (H : Hp) : Option AV :=
  match (argT[0]?).bind P.underlying, x with
  | some .string, .str s => some (.int .i64 s.length)
  | some (.array n _), _ => some (.int .i64 n)
  | some (.slice _), .slice0 => some (.int .i64 0)
  | some (.slice _), .slice _ _ n _ _ _ => some (.int .i64 n)
  | some (.map _ _), .map0 => some (.int .i64 0)
  | some (.map _ _), .map i => match H.h.get i with
    | some (.map es _) => some (.int .i64 es.length)
    | _ => none
  | some (.pointer a), _ => match P.underlying a with | some (.array n _) => some (.int .i64 n) | _ => none
  | _, _ => none
def capA (argT : Array TypeId) (x : AV) : Option AV :=
  match (argT[0]?).bind P.underlying, x with
  | some (.slice _), .slice0 => some (.int .i64 0)
  | some (.slice _), .slice _ _ _ c true _ => some (.int .i64 c)
  | _, _ => none

def minmax (mx : Bool) : AV → AV → Option AV
  | .int k x, .int _ y => some (.int k (bif mx then (if y > x then y else x) else (if y < x then y else x)))
  | _, _ => none
def minmaxL (mx : Bool) : AV → List AV → Option AV
  | x, [] => some x
  | x, y :: r => match minmax mx x y with
    | some z => minmaxL mx z r
    | none => none

def unsafeStrA (argT : Array TypeId) (p : AV) (k : IntKind) (n : Int) (H : Hp) : Option (AV × Hp) :=
  match argT.toList, k with
  | [t0, _], .i64 =>
    match P.underlying t0, p with
    | some (.pointer _), .ptr0 => if n = 0 then some (.str [], H) else none
    | some (.pointer el), .ptr i off =>
      if n = 0 then some (.str [], H) else
      match H.h.get i with
      | some (.cells c lo hi el' fl) =>
        if el = el' ∧ P.cellsOf el = 1 ∧ 0 < n ∧ n < 16777216 ∧ fl ≤ 1 then
          ((cellsAt H i off n.toNat).bind toBytes).map fun s => (.str s, { H with h := H.h.upd i (.cells c lo hi el' 2) })
        else none
      | _ => none
    | _, _ => none
  | _, _ => none

def builtinA (b : Builtin) (argT : Array TypeId) (args : List AV) (H : Hp) : Option (AV × Hp) :=
  match b, args with
  | .append, [s, x] => appendA P argT s x H
  | .copy, [d, x] => copyA P argT d x H
  | .delete, [m, k] => (delA P argT m k H).map fun H => (undefA, H)
  | .clear, [x] => (clearA P argT x H).map fun H => (undefA, H)
  | .len, [x] => (lenA P argT x H).map fun v => (v, H)
  | .cap, [x] => (capA P argT x).map fun v => (v, H)
  | .min, x :: r => (minmaxL false x r).map fun v => (v, H)
  | .max, x :: r => (minmaxL true x r).map fun v => (v, H)
  | .unsafeSliceData, [.slice0] => some (.ptr0, H)
  | .unsafeSliceData, [.slice i off l c _ _] => bif Nat.blt 0 l then some (.ptr i off, H) else none
  | .unsafeString, [p, .int k n] => unsafeStrA P argT p k n H
  | _, _ => none

def buildA (t : TypeId) (ps : List (Nat × AV)) : Option AV :=
  match zc P t, P.underlying t with
  | some z, some (.struct fs) =>
    match placesA P fs with
    | some pl => (fillA (pl[·]?) z ps).map .agg
    | none => none
  | some z, some (.array _ el) =>
    match sz P el with
    | some s => (fillA (fun i => some (i * s, s)) z ps).map .agg
    | none => none
  | _, _ => none

def rowZ (el s n : Nat) : Option (List AV) :=
  bif Nat.beq (n * s) 0 then some [] else
  match zc P el with
  | some z => bif Nat.beq z.length s then some (rep n z) else none
  | none => none

def buildSliceA (t : TypeId) (len : Nat) (ps : List (Nat × AV)) (H : Hp) : Option (AV × Hp) :=
  match P.underlying t with
  | some (.slice el) =>
    match sz P el with
    | some s =>
      bif Nat.ble (len * s) 65536 then
        match rowZ P el s len with
        | some z =>
          match fillA (fun i => some (i * s, s)) z ps with
          | some cs => (newCells H cs el 0).map fun r => (.slice r.1 0 len len true s, r.2)
          | none => none
        | none => none
      else none
    | none => none
  | _ => none

def makeSliceA (t : TypeId) (l c : AV) (H : Hp) : Option (AV × Hp) :=
  match P.underlying t, l, c with
  | some (.slice el), .int _ l, .int _ c =>
    match sz P el with
    | some s =>
      if 0 ≤ l ∧ l ≤ c ∧ c ≤ 1048576 ∧ P.bytesOf el ≤ 4096 then
        match rowZ P el s c.toNat with
        | some z => (newCells H z el 0).map fun r => (.slice r.1 0 l.toNat c.toNat true s, r.2)
        | none => none
      else none
    | none => none
  | _, _, _ => none

def rangeA (t : TypeId) (x : AV) (H : Hp) : Option (AV × Hp) :=
  match P.underlying t, x with
  | some .string, .str s => (alloc H (.sit s 0)).map fun r => (.ptr r.1 0, r.2)
  | some (.map _ _), .map0 => (alloc H (.mit none 0 [] 0)).map fun r => (.ptr r.1 0, r.2)
  | some (.map _ _), .map m =>
    match H.h.get m with
    | some (.map _ c) => (alloc H (.mit (some m) c [] c)).map fun r => (.ptr r.1 0, r.2)
    | _ => none
  | _, _ => none

def nextA (it : AV) (isS : Bool) (H : Hp) : Option (AV × Hp) :=
  match it with
  | .ptr i 0 =>
    match H.h.get i, isS with
    | some (.sit s pos), true =>
      match s.drop pos with
      | [] => some (.tuple [.bool false], H)
      | b :: _ => bif Nat.blt b 128 then some (.tuple [.bool true, .int .i64 pos, .int .i32 b], setObj H i (.sit s (pos + 1))) else none
    | some (.mit (some m) since seen st), false =>
      match H.h.get m with
      | some (.map es c) =>
        bif !(seen.isEmpty) && !(es.isEmpty) && es.all (fun x => Nat.ble st x.born) then none else
        match es.filter fun x => !(seen.contains x.born) with
        | [] => some (.tuple [.bool false], H)
        | [x] => bif Nat.blt x.born since then some (.tuple [.bool true, x.key, x.val], setObj H i (.mit (some m) since (seen ++ [x.born]) c)) else none
        | _ => none
      | _ => none
    | _, _ => none
  | _ => none

def entryA (it : AV) (H : Hp) : Option AV :=
  match it with
  | .ptr i 0 =>
    match H.h.get i with
    | some (.mit (some m) _ seen st) =>
      match H.h.get m, seen.getLast? with
      | some (.map es c), some b => bif Nat.beq c st then (es.find? fun x => Nat.beq x.born b).map fun x => .tuple [x.key, x.val] else none
      | _, _ => none
    | _ => none
  | _ => none

def assertA (as : TypeId) (x : AV) (ok : Bool) : Option AV :=
  match P.underlying as, x with
  | some (.interface _), _ => none
  | some _, .iface t v => if t = as then some (bif ok then .tuple [v, .bool true] else v) else none
  | _, _ => none

def fieldAddrA (t : TypeId) (x : AV) (f : Nat) : Option AV :=
  match P.underlying t, x with
  | some (.struct fs), .ptr i o =>
    match fs[f]? with
    | some fd => bif posSz P fd.type then some (.ptr i (o + fd.offset)) else none
    | none => none
  | _, _ => none
def fieldA (t : TypeId) (x : AV) (f : Nat) : Option AV :=
  match P.underlying t, x with
  | some (.struct fs), .agg cs =>
    match fs[f]? with
    | some fd => partA P fd.type cs fd.offset
    | none => none
  | _, _ => none
def nilA : AV → Option AV
  | .ptr i o => some (.ptr i o)
  | .func (.func f) a b => some (.func (.func f) a b)
  | .iface t v => some (.iface t v)
  | _ => none
def ifaceA (t : TypeId) (x : AV) : Option AV :=
  match P.underlying t with
  | some (.interface _) => none
  | some _ => some (.iface t x)
  | none => none
def funcA (fn : Fn) (a b : List AV) : Option AV :=
  match fn with
  | .yield _ => none
  | fn => some (.func fn a b)

/-- an operation that is no call of a function -/
def opA (e : Operand → AV) (o : Oper) (H : Hp) : Option (AV × Hp) :=
  match o.op with
  | .move x => some (e x, H)
  | .assign x => some (e x, H)
  | .pick c a b => match e c with | .bool t => some (bif t then e a else e b, H) | _ => none
  | .alloc t => match zc P t with | some l => (newCells H l t 0).map fun r => (.ptr r.1 0, r.2) | none => none
  | .box t x => match cellsV (e x) with | some l => (newCells H l t 0).map fun r => (.ptr r.1 0, r.2) | none => none
  | .build t parts => (buildA P t (parts.toList.map fun (i, x) => (i, e x))).map fun v => (v, H)
  | .buildSlice t len parts => buildSliceA P t len (parts.toList.map fun (i, x) => (i, e x)) H
  | .insert t m k v => (mapUpd P t (e m) (e k) (e v) H).map fun H => (undefA, H)
  | .mapUpdate t m k v => (mapUpd P t (e m) (e k) (e v) H).map fun H => (undefA, H)
  | .load t a => (loadV P H t (e a)).map fun v => (v, H)
  | .store t a v => (storeV P H t (e a) (e v)).map fun H => (undefA, H)
  | .nilCheck x => (nilA (e x)).map fun v => (v, H)
  | .binOp op t x y _ => bif guardA P op t x y (e x) (e y) then (binA P op t (e x) (e y) H).map fun v => (v, H) else none
  | .unOp op _ x => (unA op (e x)).map fun v => (v, H)
  | .convert a b x => convA P a b (e x) H
  | .makeInterface t x => (ifaceA P t (e x)).map fun v => (v, H)
  | .makeFunc fn a b => (funcA fn (a.toList.map e) (b.toList.map e)).map fun v => (v, H)
  | .makeMap _ none => (alloc H (.map [] 0)).map fun r => (.map r.1, r.2)
  | .makeSlice t l c => makeSliceA P t (e l) (e c) H
  | .slice t x lo hi mx => (sliceA P t (e x) (lo.map e) (hi.map e) (mx.map e) H).map fun v => (v, H)
  | .fieldAddr t x f => (fieldAddrA P t (e x) f).map fun v => (v, H)
  | .field t x f => (fieldA P t (e x) f).map fun v => (v, H)
  | .indexAddr t x ix => (indexAddrA P t (e x) (e ix)).map fun v => (v, H)
  | .index t x ix => (indexA P t (e x) (e ix)).map fun v => (v, H)
  | .lookup t x k ok => (lookupA P t (e x) (e k) ok H).map fun v => (v, H)
  | .range t x => rangeA P t (e x) H
  | .next it isS => nextA (e it) isS H
  | .entry it => (entryA (e it) H).map fun v => (v, H)
  | .extract t ix => match e t with | .tuple l => (l[ix]?).map fun v => (v, H) | _ => none
  | .typeAssert x _ as ok => (assertA P as (e x) ok).map fun v => (v, H)
  | .call c => match c.callee with
    | .builtin b => builtinA P b c.argTypes (c.args.toList.map e) H
    | _ => none
  | _ => none

/-- late: a new variable, which may be made earlier than here -/
inductive Kd where | pure | read | late | eff
  deriving DecidableEq
def kd (o : Oper) : Kd :=
  match o.op with
  | .load .. | .lookup .. | .slice .. | .entry _ => .read
  | .move _ | .assign _ | .pick .. | .build .. | .nilCheck _ | .unOp .. | .makeInterface .. | .makeFunc .. | .fieldAddr .. | .field .. | .indexAddr .. | .index .. | .extract .. | .typeAssert .. => .pure
  | .alloc _ => .late
  | .makeSlice _ l c => match l, c with | .const _, .const _ => .late | _, _ => .eff
  | .binOp op t .. => match op with
    | .eql | .neq => match P.underlying t with | some (.int _) | some .string | some .bool => .pure | _ => .read
    | _ => .pure
  | .convert a b x => match P.underlying a, P.underlying b with
    | some (.int _), some (.int _) => .pure
    | some .string, some .string => .pure
    | some (.slice _), some .string => .read
    | some .string, some (.slice _) => match x with | .const _ => .late | _ => .eff
    | _, _ => .eff
  | .call c => match c.callee with
    | .builtin .len => .read
    | .builtin .min | .builtin .max | .builtin .cap => .pure
    | _ => .eff
  | _ => .eff

/-- the operations ahead of each, as bits -/
def before : List Oper → List Nat → List Nat
  | [], acc => acc
  | o :: r, acc => before r (acc ++ [o.after.toList.foldl (fun s e => if Region.binds .any e then s ||| 2 ^ e.on ||| acc.getD e.on 0 else s) 0])

end Go.Proofs.YtehhgkgeldinkaaGreatDoor.Am
namespace Go.Proofs.YtehhgkgeldinkaaGreatDoor.Am

inductive Ext where
  | same
  | noZero (t : TypeId)
  | idxByte
  | count

/-- how often a byte stands there -/
def cntB (c : Nat) : List Nat → Nat
  | [] => 0
  | b :: r => bif Nat.beq b c then cntB c r + 1 else cntB c r

/-- the first place of a byte -/
def idxB (c : Nat) : List Nat → Nat → Option Nat
  | [], _ => none
  | b :: r, i => bif Nat.beq b c then some i else idxB c r (i + 1)

abbrev Prim := List AV → Hp → Option (AV × Hp)

inductive X where
  | normal
  | exit (i : Nat)
  | ret

variable (P : Program) (ext : Nat → Option Ext) (prim : Nat → Option Prim)

def extA (k : Ext) (args : List AV) (H : Hp) : Option (AV × Hp) :=
  match k, args with
  | .same, [x] => some (x, H)
  | .noZero t, [.int .i64 n] =>
    match P.underlying t with
    | some (.slice el) =>
      if 0 ≤ n ∧ n ≤ 1048576 then
        (newCells H (List.replicate n.toNat .junk) el 0).map fun r => (.slice r.1 0 n.toNat n.toNat false 1, r.2)
      else none
    | _ => none
  | .idxByte, [.str s, .int .u8 n] => some (.int .i64 (match idxB (n.toNat % 256) s 0 with | some i => (i : Int) | none => -1), H)
  | .count, [.str s, .int .u8 n] => some (.int .i64 (cntB (n.toNat % 256) s : Nat), H)
  | _, _ => none

def wantedA (ops : Array Oper) (o : Oper) (t : Tm) : Option Bool :=
  match o.guard with
  | none => some true
  | some (j, want) =>
    match (ops[j]?).bind (·.dst) with
    | none => some false
    | some d => match t.get d with
      | none => some false
      | some (.bool b) => some (b == want)
      | some .junk => none
      | some _ => some false

def putD (n : Nat) (dst : Option Tmp) (v : AV) (t : Tm) : Option Tm :=
  match dst with
  | none => some t
  | some d => bif Nat.blt d n && Nat.blt d 4294967296 then some (t.put 34 d v) else none

abbrev CF := AV → List AV → Hp → Option (AV × Hp)

def opC (cf : CF) (t : Tm) (o : Oper) (H : Hp) : Option (AV × Hp) :=
  match o.op with
  | .call { callee := .value f, args, .. } => cf (ev P.globals.size t f) (args.toList.map (ev P.globals.size t)) H
  | _ => opA P (ev P.globals.size t) o H

def seqOps (cf : CF) (n : Nat) (ops : Array Oper) : List Oper → Tm → Hp → Option (Tm × Hp)
  | [], t, H => some (t, H)
  | o :: r, t, H =>
    match wantedA ops o t with
    | some true =>
      match opC P cf t o H with
      | some (v, H) => match putD n o.dst v t with
        | some t => seqOps cf n ops r t H
        | none => none
      | none => none
    | some false => match putD n o.dst undefA t with
      | some t => seqOps cf n ops r t H
      | none => none
    | none => none

/-- a step of a drawn region in the order of the text -/
structure Stp where
  i : Nat
  o : Oper
  b : Nat
  x : Bool
  k : Kd
  v : AV
  t : Tm
  hb : Hp
  ha : Hp

def drawRun (cf : CF) (n : Nat) (ops : Array Oper) : Nat → List Oper → List Nat → Tm → Tm → Hp → Hp → Option (List Stp × Tm × Hp)
  | _, [], _, _, te, _, h => some ([], te, h)
  | _, _ :: _, [], _, _, _, _ => none
  | i, o :: r, b :: bs, tp, te, hb, h =>
    match wantedA ops o tp with
    | some true =>
      match kd P o with
      | .late =>
        match opA P (ev P.globals.size te) o h with
        | some (v, h') =>
          match putD n o.dst .junk tp, putD n o.dst v te with
          | some tp', some te' => (drawRun cf n ops (i + 1) r bs tp' te' hb h').map fun x => (⟨i, o, b, true, .late, v, tp, hb, hb⟩ :: x.1, x.2)
          | _, _ => none
        | none => none
      | .eff =>
        match opC P cf te o h with
        | some (v, h') =>
          match putD n o.dst v tp, putD n o.dst v te with
          | some tp', some te' => (drawRun cf n ops (i + 1) r bs tp' te' h' h').map fun x => (⟨i, o, b, true, .eff, v, tp, hb, h'⟩ :: x.1, x.2)
          | _, _ => none
        | none => none
      | k =>
        match opA P (ev P.globals.size tp) o hb with
        | some (v, _) =>
          match putD n o.dst v tp, putD n o.dst v te with
          | some tp', some te' => (drawRun cf n ops (i + 1) r bs tp' te' hb h).map fun x => (⟨i, o, b, true, k, v, tp, hb, hb⟩ :: x.1, x.2)
          | _, _ => none
        | none => none
    | some false =>
      match putD n o.dst undefA tp, putD n o.dst undefA te with
      | some tp', some te' => (drawRun cf n ops (i + 1) r bs tp' te' hb h).map fun x => (⟨i, o, b, false, .pure, undefA, tp, hb, hb⟩ :: x.1, x.2)
      | _, _ => none
    | none => none

def tmpsOf (o : Oper) : List Tmp := o.op.operands.toList.filterMap fun | .tmp t => some t | _ => none
def guardT (ops : Array Oper) (o : Oper) : Option Tmp := o.guard.bind fun g => (ops[g.1]?).bind (·.dst)
def readsT (ops : Array Oper) (o : Oper) (d : Tmp) : Bool := (tmpsOf o).contains d || guardT ops o == some d

/-- the region's own form: edges go back; a temporary has one writer; writer and reader are ordered -/
def pairOk (ops : Array Oper) (i : Nat) (oi : Oper) (bi : Nat) (j : Nat) (oj : Oper) (bj : Nat) : Bool :=
  match oi.dst with
  | none => true
  | some d => Nat.beq i j || (!(oj.dst == some d) && (!(readsT ops oj d) || (bif Nat.blt i j then bj.testBit i else bi.testBit j)))
def regOk (ops : Array Oper) : Bool :=
  let l := ops.toList.zip (before ops.toList [])
  let z := (List.range ops.size).zip l
  z.all fun x => (x.2.1.after.all fun e => !(Region.binds .any e) || Nat.blt e.on x.1) && z.all fun y => pairOk ops x.1 x.2.1 x.2.2 y.1 y.2.1 y.2.2

def readAt (s : Stp) (H : Hp) : Bool :=
  match opA P (ev P.globals.size s.t) s.o H with
  | some (v, _) => same s.v v
  | none => false
def dynOk (l : List Stp) : Bool :=
  l.all fun s => match s.k with
    | .eff => l.all fun r => match r.k with
      | .eff | .late => !(Nat.blt r.i s.i) || s.b.testBit r.i
      | .read => bif Nat.blt r.i s.i then s.b.testBit r.i || readAt P r s.ha else r.b.testBit s.i || readAt P r s.hb
      | .pure => true
    | _ => true

def drawOps (cf : CF) (n : Nat) (ops : Array Oper) (t : Tm) (H : Hp) : Option (Tm × Hp) :=
  bif regOk ops then
    match drawRun P cf n ops 0 ops.toList (before ops.toList []) t t H H with
    | some (l, t, H) => bif dynOk P l then some (t, H) else none
    | none => none
  else none

/-! a region run in every order, where none of the orders matters: what is new in it is forgotten behind it -/
/-- what changes the heap in such a region -/
def exHeap (o : Oper) : Bool := match o.op with | .makeMap _ none | .insert .. | .mapUpdate .. => true | _ => false
/-- it changes new objects only -/
def exOk (N : Nat) (e : Operand → AV) (o : Oper) : Bool :=
  match o.op with
  | .makeMap _ none => true
  | .insert _ m _ _ => match e m with | .map i => Nat.ble N i | _ => false
  | .mapUpdate _ m _ _ => match e m with | .map i => Nat.ble N i | _ => false
  | _ => false
def exQuiet (o : Oper) : Bool := match kd P o with | .pure | .read => true | _ => false
def exVal (tF : Tm) (o : Oper) (v : AV) : Bool := match o.dst with | none => true | some d => (match tF.get d with | some x => same x v | none => false)
/-- are the operations of a mask, of those that change the heap, done? -/
def exNeed (b hm hs : Nat) : Bool := Nat.beq ((b &&& hm) &&& hs) (b &&& hm)
abbrev Zp := List (Nat × Oper × Nat)
def exAll (ops : Array Oper) (z : Zp) (hm N M : Nat) (tF : Tm) : Nat → Nat → Hp → Bool
  | f, hs, H =>
    (z.all fun x => exHeap x.2.1 || !(exNeed x.2.2 hm hs) ||
      (match wantedA ops x.2.1 tF with
        | some true => exQuiet P x.2.1 && (match opA P (ev P.globals.size tF) x.2.1 H with | some (v, _) => exVal tF x.2.1 v | none => false)
        | some false => exVal tF x.2.1 undefA
        | none => false)) &&
    (bif Nat.beq (hm &&& hs) hm then Nat.beq H.next M else
      match f with
      | 0 => false
      | f + 1 => z.all fun x => !(exHeap x.2.1) || hs.testBit x.1 || !(exNeed x.2.2 hm hs) ||
        (match wantedA ops x.2.1 tF with
          | some true => exOk N (ev P.globals.size tF) x.2.1 && (match opA P (ev P.globals.size tF) x.2.1 H with
            | some (v, H') => exVal tF x.2.1 v && exAll ops z hm N M tF f (hs ||| 2 ^ x.1) H'
            | none => false)
          | some false => exVal tF x.2.1 undefA && exAll ops z hm N M tF f (hs ||| 2 ^ x.1) H
          | none => false))
/-- what an operation reads is written ahead of it -/
def exForm (ops : Array Oper) (z : Zp) : Bool := z.all fun x => z.all fun y => match y.2.1.dst with | none => true | some d => !(readsT ops x.2.1 d) || x.2.2.testBit y.1
def exRdy (s : Nat) (x : Nat × Oper) : Bool := !(s.testBit x.1) && x.2.after.toList.all fun e => !(Region.binds .any e) || s.testBit e.on
/-- from here on one operation alone may be next -/
def exAt (z : List (Nat × Oper)) (x : Nat × Oper) : Bool := exRdy (2 ^ x.1 - 1) x && z.all fun y => !(Nat.blt x.1 y.1) || !(exRdy (2 ^ x.1 - 1) y)
def exDep (x : Nat × Oper × Nat) : Bool := Nat.beq x.2.2 (2 ^ x.1 - 1)
/-- how many operations have no order of their own -/
def exP : Zp → Nat → Nat
  | [], m => m
  | x :: r, m => bif (x :: r).all exDep then x.1 else exP r m
def exMask : Zp → Nat
  | [] => 0
  | x :: r => bif exHeap x.2.1 then 2 ^ x.1 ||| exMask r else exMask r
def exOps (n : Nat) (ops : Array Oper) (t : Tm) (H : Hp) : Option (Tm × Hp) :=
  let z := (List.range ops.size).zip (ops.toList.zip (before ops.toList []))
  let w := (List.range ops.size).zip ops.toList
  let p := exP z ops.size
  match seqOps P (fun _ _ _ => none) n ops (ops.toList.take p) t H with
  | some (tF, HF) => bif regOk ops && Nat.ble p ops.size && (z.drop p).all exDep && (w.drop p).all (exAt w) && exForm ops (z.take p) && (z.take p).all (fun x => match x.2.1.dst with | none => true | some d => Nat.blt d n && Nat.blt d 4294967296) && exAll P ops (z.take p) (exMask (z.take p)) H.next HF.next tF p 0 H then seqOps P (fun _ _ _ => none) n ops (ops.toList.drop p) tF ⟨H.h, HF.next⟩ else none
  | none => none
/-- a region whose order is left open -/
def drawX (cf : CF) (n : Nat) (ops : Array Oper) (t : Tm) (H : Hp) : Option (Tm × Hp) :=
  match drawOps P cf n ops t H with
  | some r => some r
  | none => exOps P n ops t H

def resA (t : Tm) (H : Hp) : List ResultVar → Option (List AV)
  | [] => some []
  | .tmp x :: r => match resA t H r with
    | some l => some ((t.get x).getD undefA :: l)
    | none => none
  | .cell a ty :: r => match loadV P H ty ((t.get a).getD undefA), resA t H r with
    | some v, some l => some (v :: l)
    | _, _ => none

def tup : List AV → AV
  | [v] => v
  | l => .tuple l

/-- the calls, given how bodies run -/
def callWith (run : Nat → Code → Tm → Hp → Option (X × Tm × Hp)) : CF := fun g args H =>
  match g with
  | .func (.func fid) first cap =>
    match prim fid with
    | some p => p (first ++ args ++ cap) H
    | none =>
      match P.funcs[fid]? with
      | some fn =>
        match fn.body with
        | some b =>
          bif Nat.ble (first ++ args ++ cap).length fn.ntmps && Nat.blt fn.ntmps 4294967296 then
            match run fn.ntmps b (Tr.puts .nil 0 (first ++ args ++ cap)) H with
            | some (.exit _, _, _) => none
            | some (_, t, H) => (resA P t H fn.results.toList).map fun l => (tup l, H)
            | none => none
          else none
        | none => match ext fid with
          | some k => extA P k (first ++ args ++ cap) H
          | none => none
      | none => none
  | _ => none

def code : Nat → Nat → Code → Tm → Hp → Option (X × Tm × Hp)
  | 0, _, _, _, _ => none
  | f + 1, n, c, t, H =>
    match c with
    | .skip => some (.normal, t, H)
    | .label _ => some (.normal, t, H)
    | .seq a b =>
      match code f n a t H with
      | some (.normal, t, H) => code f n b t H
      | r => r
    | .cond c a b => match ev P.globals.size t c with
      | .bool x => bif x then code f n a t H else code f n b t H
      | _ => none
    | .block i b =>
      match code f n b t H with
      | some (.exit j, t, H) => bif Nat.beq j i then some (.normal, t, H) else some (.exit j, t, H)
      | r => r
    | .loop b =>
      match code f n b t H with
      | some (.normal, t, H) => code f n (.loop b) t H
      | r => r
    | .exit i => some (.exit i, t, H)
    | .ret => some (.ret, t, H)
    | .region _ ops d =>
      match (bif d then drawX P (callWith P ext prim (code f)) n ops t H else seqOps P (callWith P ext prim (code f)) n ops ops.toList t H) with
      | some (t, H) => some (.normal, t, H)
      | none => none
    | _ => none

def callA (fuel : Nat) (g : Nat) (args : List AV) (H : Hp) : Option (AV × Hp) := callWith P ext prim (code P ext prim fuel) (.func (.func g) [] []) args H

def retTrue (r : Option (AV × Hp)) : Bool := match r with | some (.bool true, _) => true | _ => false

end Go.Proofs.YtehhgkgeldinkaaGreatDoor.Am
namespace Go.Proofs.YtehhgkgeldinkaaGreatDoor.Am

/-! How the abstract machine's values and heap stand to the model's. -/

structure Em where
  b : Nat → Nat
  d : Nat → Int
  n : Nat → Nat
  N : Nat

def Em.le (e e' : Em) : Prop := e.N ≤ e'.N ∧ ∀ i, i < e.N → e'.b i = e.b i ∧ e'.d i = e.d i ∧ e'.n i = e.n i
theorem Em.le_refl (e : Em) : e.le e := ⟨Nat.le_refl _, fun _ _ => ⟨rfl, rfl, rfl⟩⟩
theorem Em.le_trans {a b c : Em} (h : a.le b) (k : b.le c) : a.le c :=
  ⟨Nat.le_trans h.1 k.1, fun i hi => by
    obtain ⟨x, y, z⟩ := h.2 i hi
    obtain ⟨x', y', z'⟩ := k.2 i (Nat.lt_of_lt_of_le hi h.1)
    exact ⟨x'.trans x, y'.trans y, z'.trans z⟩⟩

inductive VR (e : Em) : AV → Value → Prop
  | junk (v : Value) : VR e .junk v
  | bool (b : Bool) : VR e (.bool b) (.bool b)
  | int (k : IntKind) (n : Int) : VR e (.int k n) (.int k n)
  | str (s : ByteArray) : VR e (.str (bytes s)) (.string s)
  | ptr0 : VR e .ptr0 (.pointer none)
  | ptr (i off o : Nat) (hi : i < e.N) (ho : (o : Int) = off + e.d i) : VR e (.ptr i off) (.pointer (some ⟨e.b i, o, none⟩))
  | slice0 : VR e .slice0 (.slice none 0 0)
  | slice (i off len cap : Nat) (ex : Bool) (es o c : Nat) (hi : i < e.N) (ho : (o : Int) = off + e.d i) (hl : len ≤ c) (hc : cap ≤ c) (hx : ex = true → c = cap) (hn : o + c * es ≤ e.n i) :
      VR e (.slice i off len cap ex es) (.slice (some ⟨e.b i, o, none⟩) len c)
  | sliceE (i off : Nat) (ex : Bool) (es : Nat) (a : Addr) : VR e (.slice i off 0 0 ex es) (.slice (some a) 0 0)
  | map0 : VR e .map0 (.map none)
  | map (i : Nat) (hi : i < e.N) : VR e (.map i) (.map (some (e.b i)))
  | func (fn : Fn) (hf : ∀ l, fn ≠ .yield l) (a c : List AV) (a' c' : Array Value) (ha : a'.toList.length = a.length) (hc : c'.toList.length = c.length)
      (h1 : ∀ (i : Nat) (v : AV) (v' : Value), a[i]? = some v → a'.toList[i]? = some v' → VR e v v') (h2 : ∀ (i : Nat) (v : AV) (v' : Value), c[i]? = some v → c'.toList[i]? = some v' → VR e v v') :
      VR e (.func fn a c) (.func fn a' c')
  | nilFunc : VR e .nilFunc .nilFunc
  | nilIface : VR e .nilIface .nilIface
  | iface (t : TypeId) (v : AV) (v' : Value) (h : VR e v v') : VR e (.iface t v) (.iface t v')
  | agg (l : List AV) (vs : Array Value) (hl : vs.toList.length = l.length) (h : ∀ (i : Nat) (v : AV) (v' : Value), l[i]? = some v → vs.toList[i]? = some v' → VR e v v') : VR e (.agg l) (.agg vs)
  | tuple (l : List AV) (vs : Array Value) (hl : vs.toList.length = l.length) (h : ∀ (i : Nat) (v : AV) (v' : Value), l[i]? = some v → vs.toList[i]? = some v' → VR e v v') : VR e (.tuple l) (.tuple vs)

theorem VR.mono {e e' : Em} (h : e.le e') {v : AV} {v' : Value} (hv : VR e v v') : VR e' v v' := by
  induction hv with
  | junk v => exact .junk v
  | bool b => exact .bool b
  | int k n => exact .int k n
  | str s => exact .str s
  | ptr0 => exact .ptr0
  | ptr i off o hi ho =>
    obtain ⟨x, y, z⟩ := h.2 i hi
    rw [← x]; exact .ptr i off o (Nat.lt_of_lt_of_le hi h.1) (by rw [y]; exact ho)
  | slice0 => exact .slice0
  | slice i off len cap ex es o c hi ho hl hc hx hn =>
    obtain ⟨x, y, z⟩ := h.2 i hi
    rw [← x]; exact .slice i off len cap ex es o c (Nat.lt_of_lt_of_le hi h.1) (by rw [y]; exact ho) hl hc hx (by rw [z]; exact hn)
  | sliceE i off ex es a => exact .sliceE i off ex es a
  | map0 => exact .map0
  | map i hi =>
    obtain ⟨x, y, z⟩ := h.2 i hi
    rw [← x]; exact .map i (Nat.lt_of_lt_of_le hi h.1)
  | func fn hf a c a' c' ha hc h1 h2 i1 i2 => exact .func fn hf a c a' c' ha hc i1 i2
  | nilFunc => exact .nilFunc
  | nilIface => exact .nilIface
  | iface t v v' _ ih => exact .iface t v v' ih
  | agg l vs hl _ ih => exact .agg l vs hl ih
  | tuple l vs hl _ ih => exact .tuple l vs hl ih

def VRL (e : Em) (l : List AV) (vs : List Value) : Prop := vs.length = l.length ∧ ∀ (i : Nat) (v : AV) (v' : Value), l[i]? = some v → vs[i]? = some v' → VR e v v'

theorem VRL.nil (e : Em) : VRL e [] [] := ⟨rfl, by simp⟩
theorem VRL.cons {e : Em} {v : AV} {v' : Value} {l : List AV} {vs : List Value} (h : VR e v v') (k : VRL e l vs) : VRL e (v :: l) (v' :: vs) := by
  refine ⟨by simp [k.1], fun i => ?_⟩
  cases i with
  | zero => intro a b ha hb; simp at ha hb; subst ha; subst hb; exact h
  | succ i => intro a b ha hb; exact k.2 i a b (by simpa using ha) (by simpa using hb)
theorem VRL.nil_inv {e : Em} {vs : List Value} (h : VRL e [] vs) : vs = [] := by simpa using h.1
theorem VRL.cons_inv {e : Em} {v : AV} {l : List AV} {vs : List Value} (h : VRL e (v :: l) vs) : ∃ v' ws, vs = v' :: ws ∧ VR e v v' ∧ VRL e l ws := by
  cases vs with
  | nil => simp [VRL] at h
  | cons v' ws => exact ⟨v', ws, rfl, h.2 0 v v' rfl rfl, by simpa using h.1, fun i a b ha hb => h.2 (i + 1) a b (by simpa using ha) (by simpa using hb)⟩
theorem VRL.mono {e e' : Em} (h : e.le e') {l : List AV} {vs : List Value} (k : VRL e l vs) : VRL e' l vs := ⟨k.1, fun i a b ha hb => (k.2 i a b ha hb).mono h⟩
theorem VRL.append {e : Em} {a b : List AV} {x y : List Value} (h : VRL e a x) (k : VRL e b y) : VRL e (a ++ b) (x ++ y) := by
  refine ⟨by simp [h.1, k.1], fun i v v' hv hv' => ?_⟩
  by_cases hi : i < a.length
  · rw [List.getElem?_append_left hi] at hv
    rw [List.getElem?_append_left (by rw [h.1]; exact hi)] at hv'
    exact h.2 i v v' hv hv'
  · rw [List.getElem?_append_right (by omega)] at hv
    rw [List.getElem?_append_right (by rw [h.1]; omega), h.1] at hv'
    exact k.2 _ v v' hv hv'
theorem VRL.take {e : Em} {a : List AV} {x : List Value} (n : Nat) (h : VRL e a x) : VRL e (a.take n) (x.take n) := by
  refine ⟨by simp [h.1], fun i v v' hv hv' => ?_⟩
  rw [List.getElem?_take] at hv hv'
  split at hv
  · rw [if_pos (by assumption)] at hv'
    exact h.2 i v v' hv hv'
  · simp at hv
theorem VRL.drop {e : Em} {a : List AV} {x : List Value} (n : Nat) (h : VRL e a x) : VRL e (a.drop n) (x.drop n) := by
  refine ⟨by simp [h.1], fun i v v' hv hv' => ?_⟩
  rw [List.getElem?_drop] at hv hv'
  exact h.2 _ v v' hv hv'
theorem VRL.get {e : Em} {a : List AV} {x : List Value} (h : VRL e a x) {i : Nat} {v : AV} (hv : a[i]? = some v) : ∃ v', x[i]? = some v' ∧ VR e v v' := by
  have hi : i < a.length := (List.getElem?_eq_some_iff.1 hv).1
  have hx : i < x.length := by rw [h.1]; exact hi
  exact ⟨x[i], List.getElem?_eq_getElem hx, h.2 i v _ hv (List.getElem?_eq_getElem hx)⟩
theorem VRL.replicate {e : Em} {v : AV} {v' : Value} (n : Nat) (h : VR e v v') : VRL e (List.replicate n v) (List.replicate n v') := by
  refine ⟨by simp, fun i a b ha hb => ?_⟩
  rw [List.getElem?_replicate] at ha hb
  split at ha
  · rw [if_pos (by assumption)] at hb
    cases ha; cases hb; exact h
  · cases ha
theorem VRL.map {e : Em} {ρ : Operand → AV} {σ : Operand → Value} (h : ∀ x, VR e (ρ x) (σ x)) : ∀ l : List Operand, VRL e (l.map ρ) (l.map σ)
  | [] => .nil e
  | x :: l => .cons (h x) (VRL.map h l)
theorem VR.agg' {e : Em} {l : List AV} {vs : List Value} (h : VRL e l vs) : VR e (.agg l) (.agg vs.toArray) := .agg l _ (by simpa using h.1) (by simpa using h.2)
theorem VR.tuple' {e : Em} {l : List AV} {vs : List Value} (h : VRL e l vs) : VR e (.tuple l) (.tuple vs.toArray) := .tuple l _ (by simpa using h.1) (by simpa using h.2)

/-! the tree -/
theorem beq_f {n m : Nat} (h : n ≠ m) : Nat.beq n m = false := by
  cases hb : Nat.beq n m
  · rfl
  · exact absurd (Nat.eq_of_beq_eq_true hb) h
theorem beq_t (n : Nat) : Nat.beq n n = true := Nat.beq_refl n
namespace Tr
variable {α : Type}
def dec : Pa → Nat
  | .e => 0
  | .a p => 4 * dec p + 1
  | .b p => 4 * dec p + 2
  | .c p => 4 * dec p + 3
  | .d p => 4 * dec p + 4
theorem dec_pth : ∀ (f n : Nat), n < f → dec (pth f n) = n
  | 0, n, h => by omega
  | f + 1, n, h => by
    have ih := fun k (hk : k < f) => dec_pth f k hk
    rw [pth]
    by_cases h0 : n = 0
    · subst h0; rfl
    · have hlt : (n - 1) / 4 < f := by omega
      have ih' := ih _ hlt
      rw [beq_f h0, cond_false]
      by_cases q0 : (n - 1) % 4 = 0
      · rw [q0, beq_t, cond_true, dec, ih']; omega
      · rw [beq_f q0, cond_false]
        by_cases q1 : (n - 1) % 4 = 1
        · rw [q1, beq_t, cond_true, dec, ih']; omega
        · rw [beq_f q1, cond_false]
          by_cases q2 : (n - 1) % 4 = 2
          · rw [q2, beq_t, cond_true, dec, ih']; omega
          · rw [beq_f q2, cond_false, dec, ih']; omega
theorem path_inj {n m : Nat} (h : pathOf n = pathOf m) : n = m := by
  have h1 := dec_pth (n + 1) n (Nat.lt_succ_self _)
  have h2 := dec_pth (m + 1) m (Nat.lt_succ_self _)
  unfold pathOf at h
  rw [← h1, ← h2, h]
theorem getP_nil : ∀ p : Pa, getP p (.nil : Tr α) = none
  | .e => rfl
  | .a p => getP_nil p
  | .b p => getP_nil p
  | .c p => getP_nil p
  | .d p => getP_nil p
theorem get_nil (n : Nat) : (.nil : Tr α).get n = none := getP_nil _
theorem getP_putP : ∀ (p q : Pa) (x : Option α) (t : Tr α), getP q (putP p x t) = if q = p then x else getP q t := by
  intro p
  induction p with
  | e => intro q x t; cases q <;> simp [getP, putP, val, c0, c1, c2, c3]
  | a p ih => intro q x t; cases q <;> simp [getP, putP, val, c0, c1, c2, c3, ih]
  | b p ih => intro q x t; cases q <;> simp [getP, putP, val, c0, c1, c2, c3, ih]
  | c p ih => intro q x t; cases q <;> simp [getP, putP, val, c0, c1, c2, c3, ih]
  | d p ih => intro q x t; cases q <;> simp [getP, putP, val, c0, c1, c2, c3, ih]
theorem get_putP (t : Tr α) (n m : Nat) (x : Option α) : (putP (pathOf n) x t).get m = if m = n then x else t.get m := by
  unfold get
  rw [getP_putP]
  by_cases h : m = n
  · subst h; simp
  · rw [if_neg h, if_neg (fun q => h (path_inj q))]
theorem get_upd (t : Tr α) : ∀ (n : Nat) (x : α) (m : Nat), (t.get n).isSome = true → (t.upd n x).get m = if m = n then some x else t.get m := fun n x m _ => get_putP t n m (some x)
theorem get_del (t : Tr α) : ∀ (n m : Nat), (t.del n).get m = if m = n then none else t.get m := fun n m => get_putP t n m none
theorem get_put : ∀ (f : Nat) (t : Tr α) (n : Nat) (x : α) (m : Nat), n + 1 < 2 ^ f → (t.put f n x).get m = if m = n then some x else t.get m := fun f t n x m _ => get_putP t n m (some x)

theorem get_putsA : ∀ (l : List α) (t : Tr α) (n m : Nat), (t.puts n l).get m = if n ≤ m ∧ m < n + l.length then l[m - n]? else t.get m
  | [], t, n, m => by
    rw [if_neg (by simp only [List.length_nil]; omega)]; rfl
  | x :: l, t, n, m => by
    rw [puts, get_putsA l, put, get_putP]
    by_cases h1 : m = n
    · subst h1
      rw [if_neg (by omega), if_pos rfl, if_pos (by simp)]; simp
    · by_cases h2 : n + 1 ≤ m ∧ m < n + 1 + l.length
      · rw [if_pos h2, if_pos (by simp; omega)]
        have : m - n = (m - (n + 1)) + 1 := by omega
        rw [this, List.getElem?_cons_succ]
      · rw [if_neg h2, if_neg h1, if_neg (by simp; omega)]
theorem get_puts (t : Tr α) : ∀ (l : List α) (t : Tr α) (n m : Nat), n + l.length < 17000000000 → (t.puts n l).get m = if n ≤ m ∧ m < n + l.length then l[m - n]? else t.get m := by
  intro l
  induction l with
  | nil => intro t n m _; simp [puts]; omega
  | cons x xs ih =>
    intro t n m h
    simp only [List.length_cons] at h
    rw [puts, ih _ _ _ (by omega), get_put _ _ _ _ _ (by omega)]
    by_cases h1 : m = n
    · subst h1
      rw [if_neg (by omega), if_pos rfl, if_pos (by simp)]; simp
    · by_cases h2 : n + 1 ≤ m ∧ m < n + 1 + xs.length
      · rw [if_pos h2, if_pos (by simp; omega)]
        have : m - n = (m - (n + 1)) + 1 := by omega
        rw [this, List.getElem?_cons_succ]
      · rw [if_neg h2, if_neg h1, if_neg (by simp; omega)]
end Tr
end Go.Proofs.YtehhgkgeldinkaaGreatDoor.Am
namespace Go.Proofs.YtehhgkgeldinkaaGreatDoor.Am
set_option linter.unusedVariables false
set_option linter.unusedSimpArgs false

/-- an entry of a map -/
def MER (e : Em) (es : List ME) (es' : List MapEntry) : Prop :=
  es'.length = es.length ∧ ∀ (i : Nat) (m : ME) (m' : MapEntry), es[i]? = some m → es'[i]? = some m' → VR e m.key m'.key ∧ VR e m.val m'.val ∧ m.born = m'.born

inductive OR (e : Em) (i : Nat) : AO → Obj → Prop
  | cells (c : Tr AV) (lo hi : Nat) (el : TypeId) (fl : Nat) (C : Array Value) (fz : Nat × Nat) (hn : C.size = e.n i)
      (hc : ∀ (k : Nat) (v : AV), lo ≤ k → k < hi → c.get k = some v → ∃ k' : Nat, (k' : Int) = k + e.d i ∧ ∃ v', C[k']? = some v' ∧ VR e v v')
      (h0 : fl = 0 → fz = (0, 0)) (h1 : fl ≤ 1 → ∀ k, k < C.size → (decide (fz.1 ≤ k) && decide (k < fz.2)) = false) (hd : lo = 0 → e.d i = 0) : OR e i (.cells c lo hi el fl) (.cells C el fz)
  | map (es : List ME) (c : Nat) (es' : Array MapEntry) (h : MER e es es'.toList) : OR e i (.map es c) (.map es' c)
  | sit (s : List Nat) (pos : Nat) (s' : ByteArray) (h : bytes s' = s) (hd : e.d i = 0) : OR e i (.sit s pos) (.stringIter s' pos)
  | mit0 (a : Nat) (b : List Nat) (c : Nat) (a' : Nat) (b' : Array Nat) (c' : Nat) (hd : e.d i = 0) : OR e i (.mit none a b c) (.mapIter none a' b' c')
  | mit (m since : Nat) (seen : List Nat) (st : Nat) (hm : m < e.N) (hd : e.d i = 0) : OR e i (.mit (some m) since seen st) (.mapIter (some (e.b m)) since seen.toArray st)

theorem MER.mono {e e' : Em} (h : e.le e') {es : List ME} {es' : List MapEntry} (k : MER e es es') : MER e' es es' :=
  ⟨k.1, fun i m m' hm hm' => let ⟨a, b, c⟩ := k.2 i m m' hm hm'; ⟨a.mono h, b.mono h, c⟩⟩

theorem OR.mono {e e' : Em} (h : e.le e') {i : Nat} (hi : i < e.N) {o : AO} {ob : Obj} (k : OR e i o ob) : OR e' i o ob := by
  obtain ⟨x, y, z⟩ := h.2 i hi
  cases k with
  | cells c lo hi el fl C fz hn hc h0 h1 hd =>
    refine .cells c lo hi el fl C fz (hn.trans z.symm) ?_ h0 h1 (fun q => by rw [y]; exact hd q)
    intro k v a b hk
    obtain ⟨k', hk', v', hv', hr⟩ := hc k v a b hk
    exact ⟨k', by rw [y]; exact hk', v', hv', hr.mono h⟩
  | map es c es' hm => exact .map es c es' (hm.mono h)
  | sit s pos s' hs hd => exact .sit s pos s' hs (y.trans hd)
  | mit0 a b c a' b' c' hd => exact .mit0 a b c a' b' c' (y.trans hd)
  | mit m since seen st hm hd =>
    obtain ⟨x', _, _⟩ := h.2 m hm
    rw [← x']; exact .mit m since seen st (Nat.lt_of_lt_of_le hm h.1) (y.trans hd)

def wr : AO → Bool
  | .cells _ _ _ _ fl => Nat.ble fl 1
  | _ => true

structure RH (G : Nat) (F : Nat → Prop) (W : World) (e : Em) (H : Hp) (w : World) : Prop where
  N : e.N = H.next
  obj : ∀ i o, H.h.get i = some o → i < e.N ∧ ∃ ob, w.heap[e.b i]? = some ob ∧ OR e i o ob ∧ (wr o = true ∨ e.n G ≤ e.b i → ¬ F (e.b i))
  inj : ∀ i j oi oj, H.h.get i = some oi → H.h.get j = some oj → (wr oi = true ∨ e.n G ≤ e.b i) → e.b i = e.b j → i = j
  glob : ∀ g, g < G → g < e.N ∧ e.b g = g ∧ e.d g = 0
  frame : ∀ k, F k → k < w.heap.size ∧ w.heap[k]? = W.heap[k]?
  os : w.os = W.os
  tape : w.tape = W.tape
  output : w.output = W.output
  size : W.heap.size ≤ w.heap.size
  gsz : G ≤ w.heap.size ∧ G < e.N ∧ e.n G ≤ w.heap.size

section
variable {G : Nat} {F : Nat → Prop} {W : World} {e : Em} {H : Hp} {w : World}

theorem RH.drawn (h : RH G F W e H w) (n : Nat) : RH G F W e H { w with drawn := n } := ⟨h.N, h.obj, h.inj, h.glob, h.frame, h.os, h.tape, h.output, h.size, h.gsz⟩

/-- the frame may be named anew -/
theorem RH.reframe (h : RH G F W e H w) {F' : Nat → Prop} {W' : World} (hF : ∀ k, F' k → k < w.heap.size ∧ w.heap[k]? = W'.heap[k]?) (hw : ∀ i o, H.h.get i = some o → wr o = true ∨ e.n G ≤ e.b i → ¬ F' (e.b i))
    (os : w.os = W'.os) (tape : w.tape = W'.tape) (output : w.output = W'.output) (size : W'.heap.size ≤ w.heap.size) : RH G F' W' e H w :=
  ⟨h.N, fun i o ho => let ⟨a, ob, b, c, _⟩ := h.obj i o ho; ⟨a, ob, b, c, hw i o ho⟩, h.inj, h.glob, hF, os, tape, output, size, h.gsz⟩

theorem cellAt_some {i off : Nat} {v : AV} (h : cellAt H i off = some v) : ∃ c lo hi el fl, H.h.get i = some (.cells c lo hi el fl) ∧ lo ≤ off ∧ off < hi ∧ c.get off = some v := by
  unfold cellAt at h
  split at h
  · rename_i c lo hi el fl hg
    cases hb : (Nat.ble lo off && Nat.blt off hi) with
    | false => rw [hb] at h; cases h
    | true =>
      rw [hb] at h
      simp only [Bool.and_eq_true, Nat.ble_eq, Nat.blt_eq] at hb
      exact ⟨c, lo, hi, el, fl, hg, hb.1, hb.2, h⟩
  · cases h

theorem RH.load (h : RH G F W e H w) {i off : Nat} {v : AV} (hc : cellAt H i off = some v) : i < e.N ∧ ∃ o : Nat, (o : Int) = off + e.d i ∧ ∃ v', w.cell? ⟨e.b i, o, none⟩ = some v' ∧ VR e v v' := by
  obtain ⟨c, lo, hi, el, fl, hg, hlo, hhi, hv⟩ := cellAt_some hc
  obtain ⟨hN, ob, hob, hor, _⟩ := h.obj i _ hg
  cases hor with
  | cells _ _ _ _ _ C fz hn hcc h0 h1 hd =>
    obtain ⟨k', hk', v', hv', hr⟩ := hcc off v hlo hhi hv
    exact ⟨hN, k', hk', v', by simp [World.cell?, hob, hv'], hr⟩

theorem RH.load_lt (h : RH G F W e H w) {i off o : Nat} {v : AV} (hc : cellAt H i off = some v) (ho : (o : Int) = off + e.d i) : o < e.n i := by
  obtain ⟨c, lo, hi, el, fl, hg, hlo, hhi, hv⟩ := cellAt_some hc
  obtain ⟨hN, ob, hob, hor, _⟩ := h.obj i _ hg
  cases hor with
  | cells _ _ _ _ _ C fz hn hcc h0 h1 hd =>
    obtain ⟨k', hk', v', hv', hr⟩ := hcc off v hlo hhi hv
    have := (Array.getElem?_eq_some_iff.1 hv').1
    omega

theorem VR.oneCell {v : AV} {v' : Value} (h : VR e v v') (ho : oneC v = true) : v'.oneCell' = true := by
  cases h <;> first | rfl | (simp [oneC] at ho)

theorem setCell_some {i off : Nat} {v : AV} {H' : Hp} (h : setCell H i off v = some H') : ∃ c lo hi el fl, H.h.get i = some (.cells c lo hi el fl) ∧ lo ≤ off ∧ off < hi ∧ fl ≤ 1 ∧ (c.get off).isSome = true ∧ oneC v = true ∧
    H' = { H with h := H.h.upd i (.cells (c.upd off v) lo hi el fl) } := by
  unfold setCell at h
  split at h
  · rename_i c lo hi el fl hg
    cases hb : (Nat.ble lo off && Nat.blt off hi && Nat.ble fl 1 && (c.get off).isSome && oneC v) with
    | false => rw [hb] at h; cases h
    | true =>
      rw [hb] at h
      simp only [Bool.and_eq_true, Nat.ble_eq, Nat.blt_eq] at hb
      exact ⟨c, lo, hi, el, fl, hg, hb.1.1.1.1, hb.1.1.1.2, hb.1.1.2, hb.1.2, hb.2, by simpa using h.symm⟩
  · cases h

theorem get_modify_same {α : Type} (a : Array α) (k : Nat) (f : α → α) {x : α} (h : a[k]? = some x) : (a.modify k f)[k]? = some (f x) := by
  rw [Array.getElem?_modify, if_pos rfl, h]; rfl
theorem get_modify_ne {α : Type} (a : Array α) (k j : Nat) (f : α → α) (h : k ≠ j) : (a.modify k f)[j]? = a[j]? := by
  rw [Array.getElem?_modify, if_neg h]

/-- one live object is written anew in place -/
theorem RH.put (h : RH G F W e H w) {i : Nat} {o o' : AO} (hg : H.h.get i = some o) (hw : wr o = true) {ob' : Obj} {w' : World}
    (hsz : w'.heap.size = w.heap.size) (hb : w'.heap[e.b i]? = some ob') (hne : ∀ k, k ≠ e.b i → w'.heap[k]? = w.heap[k]?)
    (hor : OR e i o' ob') (os : w'.os = w.os) (tape : w'.tape = w.tape) (output : w'.output = w.output) : RH G F W e { H with h := H.h.upd i o' } w' := by
  obtain ⟨hN, ob, hob, _, hF⟩ := h.obj i o hg
  have hget : ∀ j, (H.h.upd i o').get j = if j = i then some o' else H.h.get j := fun j => Tr.get_upd _ _ _ _ (by rw [hg]; rfl)
  have hlive : ∀ j oj, (H.h.upd i o').get j = some oj → ∃ oj', H.h.get j = some oj' := by
    intro j oj hj
    rw [hget] at hj
    by_cases e : j = i
    · exact ⟨o, by rw [e]; exact hg⟩
    · rw [if_neg e] at hj; exact ⟨oj, hj⟩
  refine ⟨h.N, ?_, ?_, h.glob, ?_, os.trans h.os, tape.trans h.tape, output.trans h.output, by rw [hsz]; exact h.size, by rw [hsz]; exact h.gsz⟩
  · intro j oj hj
    have hj0 := hj
    rw [hget] at hj
    by_cases ej : j = i
    · subst ej
      rw [if_pos rfl] at hj
      cases hj
      exact ⟨hN, ob', hb, hor, fun _ => hF (.inl hw)⟩
    · rw [if_neg ej] at hj
      obtain ⟨a, ob2, b2, c2, d2⟩ := h.obj j oj hj
      refine ⟨a, ob2, ?_, c2, d2⟩
      rw [hne _ (fun e2 => ej (h.inj i j o oj hg hj (.inl hw) e2.symm).symm)]
      exact b2
  · intro j k oj ok hj hk hq he
    obtain ⟨ok', hk'⟩ := hlive k ok hk
    by_cases ej : j = i
    · subst ej
      exact h.inj j k o ok' hg hk' (.inl hw) he
    · rw [hget, if_neg ej] at hj
      exact h.inj j k oj ok' hj hk' hq he
  · intro k hk
    obtain ⟨a, b⟩ := h.frame k hk
    refine ⟨by rw [hsz]; exact a, ?_⟩
    rw [hne k (fun e2 => hF (.inl hw) (e2 ▸ hk))]
    exact b

theorem RH.store (h : RH G F W e H w) {i off : Nat} {v : AV} {v' : Value} {H' : Hp} (hs : setCell H i off v = some H') (hv : VR e v v') :
    i < e.N ∧ ∃ o : Nat, (o : Int) = off + e.d i ∧ (w.cell? ⟨e.b i, o, none⟩).isSome = true ∧ w.frozen? ⟨e.b i, o, none⟩ = false ∧ v'.oneCell' = true ∧ RH G F W e H' (w.setCell ⟨e.b i, o, none⟩ v') := by
  obtain ⟨c, lo, hi, el, fl, hg, hlo, hhi, hfl, hsome, h1c, rfl⟩ := setCell_some hs
  obtain ⟨hN, ob, hob, hor, hF⟩ := h.obj i _ hg
  obtain ⟨v0, hv0⟩ := Option.isSome_iff_exists.1 hsome
  cases hor with
  | cells _ _ _ _ _ C fz hn hcc h0 h1 hd =>
    obtain ⟨k', hk', v0', hv0', hr⟩ := hcc off v0 hlo hhi hv0
    have hk2 : k' < C.size := (Array.getElem?_eq_some_iff.1 hv0').1
    refine ⟨hN, k', hk', by simp [World.cell?, hob, hv0'], ?_, hv.oneCell h1c, ?_⟩
    · have := h1 hfl k' hk2
      simp only [World.frozen?, hob]
      exact this
    · refine h.put hg (by simp [wr, hfl]) (ob' := .cells (C.setIfInBounds k' v') el fz) ?_ ?_ ?_ ?_ rfl rfl rfl
      · simp [World.setCell]
      · simp only [World.setCell]
        rw [get_modify_same _ _ _ hob]
        rfl
      · intro k hk
        simp only [World.setCell]
        rw [get_modify_ne _ _ _ _ (fun e => hk e.symm)]
      · refine .cells _ lo hi el fl _ fz (by simpa using hn) ?_ h0 (by simpa using h1) hd
        intro k u a b hk
        rw [Tr.get_upd _ _ _ _ hsome] at hk
        by_cases ek : k = off
        · subst ek
          rw [if_pos rfl] at hk
          cases hk
          exact ⟨k', hk', v', by simp [hk2], hv⟩
        · rw [if_neg ek] at hk
          obtain ⟨k2, hk2', u', hu', hr'⟩ := hcc k u a b hk
          refine ⟨k2, hk2', u', ?_, hr'⟩
          rw [Array.getElem?_setIfInBounds_ne (by omega)]
          exact hu'

/-- a new object -/
def Em.ext (e : Em) (b : Nat) (d : Int) (n : Nat) : Em :=
  { b := fun i => if i = e.N then b else e.b i, d := fun i => if i = e.N then d else e.d i, n := fun i => if i = e.N then n else e.n i, N := e.N + 1 }
theorem Em.le_ext (e : Em) (b : Nat) (d : Int) (n : Nat) : e.le (e.ext b d n) :=
  ⟨Nat.le_succ _, fun i hi => by
    have : ¬ i = e.N := by omega
    simp [Em.ext, this]⟩
theorem Em.ext_b (e : Em) (b : Nat) (d : Int) (n : Nat) : (e.ext b d n).b e.N = b := by simp [Em.ext]
theorem Em.ext_d (e : Em) (b : Nat) (d : Int) (n : Nat) : (e.ext b d n).d e.N = d := by simp [Em.ext]
theorem Em.ext_n (e : Em) (b : Nat) (d : Int) (n : Nat) : (e.ext b d n).n e.N = n := by simp [Em.ext]

theorem alloc_some {o : AO} {i : Nat} {H' : Hp} (h : alloc H o = some (i, H')) : i = H.next ∧ True ∧ H' = ⟨H.h.put 34 H.next o, H.next + 1⟩ := by
  unfold alloc at h
  simp only [Option.some.injEq, Prod.mk.injEq] at h
  exact ⟨h.1.symm, trivial, h.2.symm⟩

theorem RH.alloc (h : RH G F W e H w) {o : AO} {i : Nat} {H' : Hp} (ha : Am.alloc H o = some (i, H')) {ob : Obj} {d : Int} {n : Nat}
    (hor : OR (e.ext w.heap.size d n) i o ob) : i = e.N ∧ RH G F W (e.ext w.heap.size d n) H' { w with heap := w.heap.push ob } := by
  obtain ⟨rfl, hlt, rfl⟩ := alloc_some ha
  have hN := h.N
  have hget : ∀ j, (H.h.put 34 H.next o).get j = if j = H.next then some o else H.h.get j := fun j => Tr.get_putP _ _ _ _
  have hle := Em.le_ext e w.heap.size d n
  have old : ∀ j oj, H.h.get j = some oj → (e.ext w.heap.size d n).b j = e.b j ∧ e.b j < w.heap.size := by
    intro j oj hj
    obtain ⟨a, ob2, b2, _, _⟩ := h.obj j oj hj
    exact ⟨(hle.2 j a).1, (Array.getElem?_eq_some_iff.1 b2).1⟩
  refine ⟨hN.symm, ?_, ?_, ?_, ?_, ?_, h.os, h.tape, h.output, by simp; have := h.size; omega, by obtain ⟨g1, g2, g3⟩ := h.gsz; rw [(hle.2 G g2).2.2]; simp [Em.ext]; omega⟩
  · simp [Em.ext, hN]
  · intro j oj hj
    simp only at hj
    rw [hget] at hj
    by_cases ej : j = H.next
    · subst ej
      rw [if_pos rfl] at hj
      cases hj
      refine ⟨by simp [Em.ext, hN], ob, ?_, hor, ?_⟩
      · rw [← hN, Em.ext_b]; simp
      · intro _ hF
        rw [← hN, Em.ext_b] at hF
        have := (h.frame _ hF).1
        omega
    · rw [if_neg ej] at hj
      obtain ⟨a, ob2, b2, c2, d2⟩ := h.obj j oj hj
      obtain ⟨q, r⟩ := old j oj hj
      refine ⟨by simp [Em.ext]; omega, ob2, ?_, c2.mono hle a, ?_⟩
      · rw [q, Array.getElem?_push, if_neg (by omega)]; exact b2
      · intro hw; rw [q, (hle.2 G h.gsz.2.1).2.2] at hw; rw [q]; exact d2 hw
  · intro j k oj ok hj hk hq he
    simp only at hj hk
    rw [hget] at hj hk
    by_cases ej : j = H.next <;> by_cases ek : k = H.next
    · omega
    · rw [if_neg ek] at hk
      obtain ⟨q, r⟩ := old k ok hk
      rw [q, ej, ← hN, Em.ext_b] at he
      omega
    · rw [if_neg ej] at hj
      obtain ⟨q, r⟩ := old j oj hj
      rw [q, ek, ← hN, Em.ext_b] at he
      omega
    · rw [if_neg ej] at hj
      rw [if_neg ek] at hk
      rw [(old j oj hj).1, (hle.2 G h.gsz.2.1).2.2] at hq
      rw [(old j oj hj).1, (old k ok hk).1] at he
      exact h.inj j k oj ok hj hk hq he
  · intro g hg
    obtain ⟨a, b, c⟩ := h.glob g hg
    obtain ⟨x, y, _⟩ := hle.2 g a
    exact ⟨by simp [Em.ext]; omega, x.trans b, y.trans c⟩
  · intro k hk
    obtain ⟨a, b⟩ := h.frame k hk
    refine ⟨by simp; omega, ?_⟩
    simp only
    rw [Array.getElem?_push, if_neg (by omega)]
    exact b
end
end Go.Proofs.YtehhgkgeldinkaaGreatDoor.Am
namespace Go.Proofs.YtehhgkgeldinkaaGreatDoor.Am
set_option linter.unusedVariables false
set_option linter.unusedSimpArgs false
section
variable {P : Program} {G : Nat} {F : Nat → Prop} {W : World} {e : Em} {H : Hp} {w : World}

theorem run_und {t : TypeId} {d : TypeDesc} (h : P.underlying t = some d) (w : World) : (underlying t).run P w = .ok d w := by
  simp [underlying, h]
theorem run_inf {t : TypeId} {i : TypeInfo} (h : P.info? t = some i) (w : World) : (typeInfo t).run P w = .ok i w := by
  simp [typeInfo, h]
theorem run_sz {t : TypeId} {n : Nat} (h : sz P t = some n) (w : World) : (sizeOf t).run P w = .ok n w := by
  unfold sz at h
  cases hi : P.info? t with
  | none => simp [hi] at h
  | some i =>
    simp only [hi, Option.map_some, Option.some.injEq] at h
    simp [sizeOf, typeInfo, hi, h]
theorem run_agg {t : TypeId} {b : Bool} (h : aggT P t = some b) (w : World) : (isAgg t).run P w = .ok b w := by
  unfold aggT at h
  cases hu : P.underlying t with
  | none => simp [hu] at h
  | some d =>
    simp only [hu, Option.map_some, Option.some.injEq] at h
    simp only [isAgg, Sem.run_bind, run_und hu, Result.andThen_ok]
    subst h
    cases d <;> rfl

theorem RH.loads (h : RH G F W e H w) {i : Nat} : ∀ {n off : Nat} {l : List AV} {o : Nat}, cellsAt H i off n = some l → (o : Int) = off + e.d i →
    ∃ cs : List Value, VRL e l cs ∧ cs.length = n ∧ ∀ j v, cs[j]? = some v → w.cell? ⟨e.b i, o + j, none⟩ = some v := by
  intro n
  induction n with
  | zero =>
    intro off l o hc ho
    simp only [cellsAt, Option.some.injEq] at hc
    subst hc
    exact ⟨[], .nil e, rfl, by simp⟩
  | succ n ih =>
    intro off l o hc ho
    simp only [cellsAt, Option.bind_eq_bind, Option.pure_def, Option.bind_eq_some_iff, Option.some.injEq] at hc
    obtain ⟨v, hv, r, hr, rfl⟩ := hc
    obtain ⟨_, o', ho', v', hv', hvr⟩ := h.load hv
    have : o' = o := by omega
    subst this
    obtain ⟨cs, h1, h2, h3⟩ := ih (o := o' + 1) hr (by omega)
    refine ⟨v' :: cs, .cons hvr h1, by simp [h2], fun j u hj => ?_⟩
    cases j with
    | zero => simp at hj; subst hj; exact hv'
    | succ j => have := h3 j u (by simpa using hj); rw [show o' + (j + 1) = o' + 1 + j by omega]; exact this

theorem RH.stores : ∀ {l : List AV} {cs : List Value} {H H' : Hp} {w : World} {i off k : Nat} {o : Nat}, RH G F W e H w → setCells H i (off + k) l = some H' → VRL e l cs → (o : Int) = off + e.d i →
    ∃ w', (storeCells ⟨e.b i, o, none⟩ cs k).run P w = .ok () w' ∧ RH G F W e H' w' := by
  intro l
  induction l with
  | nil =>
    intro cs H H' w i off k o h hs hl ho
    simp only [setCells, Option.some.injEq] at hs
    subst hs
    rw [hl.nil_inv]
    exact ⟨w, by simp [storeCells], h⟩
  | cons v l ih =>
    intro cs H H' w i off k o h hs hl ho
    simp only [setCells, Option.bind_eq_bind, Option.bind_eq_some_iff] at hs
    obtain ⟨H1, h1, h2⟩ := hs
    obtain ⟨v', ws, rfl, hv, hl'⟩ := hl.cons_inv
    obtain ⟨_, o', ho', c1, c2, c3, hr⟩ := h.store h1 hv
    have : o' = o + k := by omega
    subst this
    obtain ⟨w', hw', hr'⟩ := ih (off := off) (k := k + 1) hr h2 hl' ho
    refine ⟨w', ?_, hr'⟩
    obtain ⟨u, hu⟩ := Option.isSome_iff_exists.1 c1
    have ha : (Addr.add ⟨e.b i, o, none⟩ k) = ⟨e.b i, o + k, none⟩ := by
      unfold Addr.add; split
      · rename_i h0; subst h0; rfl
      · rfl
    simp only [storeCells, Sem.run_bind, ha, run_store P w _ _ _ c3, hu, c2, Bool.false_eq_true, if_false, Result.andThen_ok]
    exact hw'

theorem VR.cells {v : AV} {v' : Value} {l : List AV} (h : VR e v v') (hc : cellsV v = some l) : VRL e l v'.cells.toList := by
  cases h <;> simp only [cellsV, Option.some.injEq, reduceCtorEq] at hc <;> subst hc <;> first | (exact ⟨by assumption, by assumption⟩) | (simp only [Value.cells]; exact .cons (by constructor <;> assumption) (.nil _))

theorem add_lit (b o k : Nat) : Addr.add ⟨b, o, none⟩ k = ⟨b, o + k, none⟩ := by
  unfold Addr.add; split
  · rename_i h0; subst h0; rfl
  · rfl

theorem VR.ptr_inv {i off : Nat} {v' : Value} (h : VR e (.ptr i off) v') : ∃ o : Nat, i < e.N ∧ (o : Int) = off + e.d i ∧ v' = .pointer (some ⟨e.b i, o, none⟩) := by
  cases h with
  | ptr _ _ o hi ho => exact ⟨o, hi, ho, rfl⟩
theorem VR.int_inv {k : IntKind} {n : Int} {v' : Value} (h : VR e (.int k n) v') : v' = .int k n := by cases h; rfl
theorem VR.bool_inv {b : Bool} {v' : Value} (h : VR e (.bool b) v') : v' = .bool b := by cases h; rfl
theorem VR.str_inv {s : List Nat} {v' : Value} (h : VR e (.str s) v') : ∃ b, s = bytes b ∧ v' = .string b := by
  cases h with
  | str b => exact ⟨b, rfl, rfl⟩
theorem VR.agg_inv {l : List AV} {v' : Value} (h : VR e (.agg l) v') : ∃ vs : Array Value, v' = .agg vs ∧ VRL e l vs.toList := by
  cases h with
  | agg _ vs hl h => exact ⟨vs, rfl, hl, h⟩
theorem VR.tuple_inv {l : List AV} {v' : Value} (h : VR e (.tuple l) v') : ∃ vs : Array Value, v' = .tuple vs ∧ VRL e l vs.toList := by
  cases h with
  | tuple _ vs hl h => exact ⟨vs, rfl, hl, h⟩
theorem VR.map_inv {i : Nat} {v' : Value} (h : VR e (.map i) v') : i < e.N ∧ v' = .map (some (e.b i)) := by
  cases h with
  | map _ hi => exact ⟨hi, rfl⟩
theorem VR.slice_inv {i off len cap : Nat} {ex : Bool} {es : Nat} {v' : Value} (h : VR e (.slice i off len cap ex es) v') :
    (∃ o c : Nat, i < e.N ∧ (o : Int) = off + e.d i ∧ len ≤ c ∧ cap ≤ c ∧ (ex = true → c = cap) ∧ o + c * es ≤ e.n i ∧ v' = .slice (some ⟨e.b i, o, none⟩) len c) ∨
    (len = 0 ∧ cap = 0 ∧ ∃ a, v' = .slice (some a) 0 0) := by
  cases h with
  | slice _ _ _ _ _ _ o c hi ho hl hc hx hn => exact .inl ⟨o, c, hi, ho, hl, hc, hx, hn, rfl⟩
  | sliceE _ _ _ _ a => exact .inr ⟨rfl, rfl, a, rfl⟩

theorem sound_load (h : RH G F W e H w) {t : TypeId} {a v : AV} {a' : Value} (ha : VR e a a') (hl : loadV P H t a = some v) :
    ∃ v', (Instr.loadAt t a').run P w = .ok v' w ∧ VR e v v' := by
  unfold loadV at hl
  split at hl
  · rename_i i off
    simp only [Option.bind_eq_bind, Option.bind_eq_some_iff] at hl
    obtain ⟨b, hb, hl⟩ := hl
    obtain ⟨o, hi, ho, rfl⟩ := ha.ptr_inv
    cases b with
    | true =>
      simp only [if_true, Option.pure_def, Option.bind_eq_some_iff, Option.some.injEq] at hl
      obtain ⟨n, hn, l, hl, rfl⟩ := hl
      obtain ⟨cs, h1, h2, h3⟩ := h.loads hl ho
      refine ⟨.agg cs.toArray, ?_, .agg' h1⟩
      have := run_loadCells_list (P := P) w ⟨e.b i, o, none⟩ cs (fun j v hj => by rw [add_lit]; exact h3 j v hj)
      rw [h2] at this
      simp [Instr.loadAt, Instr.sureAddr, loadVar, run_agg hb, run_sz hn, this]
    | false =>
      simp only [Bool.false_eq_true, if_false] at hl
      obtain ⟨_, o', ho', v', hv', hr⟩ := h.load hl
      have : o' = o := by omega
      subst this
      exact ⟨v', by simp [Instr.loadAt, Instr.sureAddr, loadVar, run_agg hb, hv'], hr⟩
  · cases hl

theorem sound_store (h : RH G F W e H w) {t : TypeId} {a v : AV} {a' v' : Value} {H' : Hp} (ha : VR e a a') (hv : VR e v v') (hs : storeV P H t a v = some H') :
    ∃ w', (Instr.storeAt t a' v').run P w = .ok () w' ∧ RH G F W e H' w' := by
  unfold storeV at hs
  split at hs
  · rename_i i off
    simp only [Option.bind_eq_bind, Option.bind_eq_some_iff] at hs
    obtain ⟨cs, hcs, n, hn, hs⟩ := hs
    obtain ⟨o, hi, ho, rfl⟩ := ha.ptr_inv
    split at hs
    · rename_i hlen
      have hl := hv.cells hcs
      obtain ⟨w', hw', hr⟩ := RH.stores (P := P) (off := off) (k := 0) h hs hl ho
      refine ⟨w', ?_, hr⟩
      have hsz : v'.cells.size = n := by
        have := hl.1
        simp at this hlen
        omega
      simp [Instr.storeAt, Instr.sureAddr, storeVar, run_sz hn, hsz, hw']
    · cases hs
  · cases hs

theorem newCells_some {l : List AV} {el : TypeId} {fl i : Nat} {H' : Hp} (h : newCells H l el fl = some (i, H')) :
    l.length ≤ 16777216 ∧ Am.alloc H (.cells (Tr.puts .nil 0 l) 0 l.length el fl) = some (i, H') := by
  unfold newCells at h
  cases hb : Nat.ble l.length 16777216 with
  | false => rw [hb] at h; cases h
  | true => rw [hb] at h; exact ⟨by simpa using hb, h⟩

/-- a new row of cells, of which the abstract one knows the first -/
theorem RH.newRow (h : RH G F W e H w) {l : List AV} {cs rest : List Value} {el : TypeId} {fl i : Nat} {H' : Hp} {fz : Nat × Nat} (hn : newCells H l el fl = some (i, H')) (hl : VRL e l cs)
    (h0 : fl = 0 → fz = (0, 0)) (h1 : fl ≤ 1 → ∀ k, k < (cs ++ rest).length → (decide (fz.1 ≤ k) && decide (k < fz.2)) = false) :
    ∃ e', e.le e' ∧ i < e'.N ∧ e'.b i = w.heap.size ∧ e'.d i = 0 ∧ e'.n i = (cs ++ rest).length ∧ RH G F W e' H' { w with heap := w.heap.push (.cells (cs ++ rest).toArray el fz) } := by
  obtain ⟨hlen, ha⟩ := newCells_some hn
  have hle := Em.le_ext e w.heap.size 0 (cs ++ rest).length
  have hor : OR (e.ext w.heap.size 0 (cs ++ rest).length) i (.cells (Tr.puts .nil 0 l) 0 l.length el fl) (.cells (cs ++ rest).toArray el fz) := by
    have hi := (alloc_some ha).1
    have hi' : i = e.N := hi.trans h.N.symm
    subst hi'
    refine .cells _ _ _ _ _ _ fz (by simp [Em.ext_n]) ?_ h0 (by simpa using h1) (fun _ => Em.ext_d ..)
    intro k v _ hk hg
    rw [Tr.get_puts .nil _ _ _ _ (by omega)] at hg
    rw [if_pos ⟨by omega, by omega⟩, Nat.sub_zero] at hg
    obtain ⟨v', hv', hr⟩ := hl.get hg
    refine ⟨k, by rw [Em.ext_d]; omega, v', ?_, hr.mono hle⟩
    have : k < cs.length := (List.getElem?_eq_some_iff.1 hv').1
    simp only [List.getElem?_toArray]
    rw [List.getElem?_append_left this]
    exact hv'
  obtain ⟨hi, hr⟩ := h.alloc ha hor
  subst hi
  exact ⟨_, hle, by simp [Em.ext], Em.ext_b .., Em.ext_d .., Em.ext_n .., hr⟩
end
end Go.Proofs.YtehhgkgeldinkaaGreatDoor.Am
