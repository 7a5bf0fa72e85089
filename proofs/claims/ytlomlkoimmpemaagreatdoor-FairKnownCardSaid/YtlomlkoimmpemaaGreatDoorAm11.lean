/- What an operation does, its types resolved, and that it is the evaluator's (of no program). -/
import Derived.Test.YtlomlkoimmpemaaGreatDoorAm10
set_option linter.unusedVariables false
set_option linter.unusedSimpArgs false
namespace Go.Proofs.YtlomlkoimmpemaaGreatDoor.Am
set_option linter.unusedVariables false
set_option linter.unusedSimpArgs false
namespace K

/-! what an operation does, its types resolved -/
def pk (c a b : AV) : Option AV := match c with | .bool q => some (bif q then a else b) | _ => none
def bx (ty : Nat) (x : AV) (H : Hp) : Option (Nat × Hp) := match cellsV x with | some l => newCells H l ty 0 | none => none
/-- the cells of a value that is put together -/
def fl (z : List AV) : List (Nat × Nat × AV) → Option (List AV)
  | [] => some z
  | (off, size, v) :: r => match cellsV v with
    | some cs => if cs.length = size ∧ off + size ≤ z.length then fl (z.take off ++ cs ++ z.drop (off + size)) r else none
    | none => none
def st (n : Nat) (x v : AV) (H : Hp) : Option Hp := match x with
  | .ptr i o => match cellsV v with
    | some cs => bif Nat.beq n cs.length then setCells H i o cs else none
    | none => none
  | _ => none
def fa (off : Nat) (x : AV) : Option AV := match x with | .ptr i o => some (.ptr i (o + off)) | _ => none
def fd (off : Nat) (x : AV) : Option AV := match x with | .agg cs => cs[off]? | _ => none
def fda (n off : Nat) (x : AV) : Option AV := match x with | .agg cs => bif Nat.ble (off + n) cs.length then some (.agg ((cs.drop off).take n)) else none | _ => none
def ia (s : Nat) (x ix : AV) : Option AV := match x, ix with
  | .slice i off len _ _ es, .int _ k => if s = es ∧ 0 ≤ k ∧ k < len then some (.ptr i (off + k.toNat * es)) else none
  | _, _ => none
def iar (n s : Nat) (x ix : AV) : Option AV := match x, ix with
  | .ptr i off, .int _ k => if 0 ≤ k ∧ k < n then some (.ptr i (off + k.toNat * s)) else none
  | _, _ => none
def ixs (x ix : AV) : Option AV := match x, ix with
  | .str s, .int _ k => if 0 ≤ k then (s[k.toNat]?).map fun (b : Nat) => .int .u8 b else none
  | _, _ => none
def ex (i : Nat) (x : AV) : Option AV := match x with | .tuple l => l[i]? | _ => none
def ta (t : Nat) (ok : Bool) (x : AV) : Option AV := match x with | .iface u v => if u = t then some (bif ok then .tuple [v, .bool true] else v) else none | _ => none

/-! numbers, strings, tests -/
def ii (f : IntKind → Int → Int → Option AV) (x y : AV) : Option AV := match x, y with | .int k a, .int k' b => if k = k' then f k a b else none | _, _ => none
def i2 (f : IntKind → Int → Int → Option AV) (x y : AV) : Option AV := match x, y with | .int k a, .int _ b => f k a b | _, _ => none
def iadd := ii fun k a b => some (.int k (k.wrap (a + b)))
def isub := ii fun k a b => some (.int k (k.wrap (a - b)))
def imul := ii fun k a b => some (.int k (k.wrap (a * b)))
def iquo := ii fun k a b => if b = 0 then none else some (.int k (k.wrap (a.tdiv b)))
def irem := ii fun k a b => if b = 0 then none else some (.int k (a.tmod b))
def iand := ii fun k a b => some (.int k (k.wrap (bts k a &&& bts k b : Nat)))
def ior := ii fun k a b => some (.int k (k.wrap (bts k a ||| bts k b : Nat)))
def ixor := ii fun k a b => some (.int k (k.wrap (bts k a ^^^ bts k b : Nat)))
def ieq := ii fun _ a b => some (.bool (a == b))
def ine := ii fun _ a b => some (.bool (a != b))
def ilt := ii fun _ a b => some (.bool (a < b))
def ile := ii fun _ a b => some (.bool (a ≤ b))
def igt := ii fun _ a b => some (.bool (b < a))
def ige := ii fun _ a b => some (.bool (b ≤ a))
def ishl := i2 fun k a b => if b < 0 then none else some (.int k (k.wrap (a * 2 ^ (min b.toNat k.bits))))
def ishr := i2 fun k a b => if b < 0 then none else some (.int k (a.fdiv (2 ^ (min b.toNat k.bits))))
def intB (op : BinOp) (x y : AV) : Option AV := match op with
  | .add => iadd x y | .sub => isub x y | .mul => imul x y | .quo => iquo x y | .rem => irem x y | .and => iand x y | .or => ior x y | .xor => ixor x y | .shl => ishl x y | .shr => ishr x y | .andNot => none
  | .eql => ieq x y | .neq => ine x y | .lss => ilt x y | .leq => ile x y | .gtr => igt x y | .geq => ige x y
def ss (f : List Nat → List Nat → Option AV) (x y : AV) : Option AV := match x, y with | .str a, .str b => f a b | _, _ => none
def scat := ss fun a b => bif Nat.ble (a.length + b.length) 4294967296 then some (.str (a ++ b)) else none
def seq := ss fun a b => some (.bool (a == b))
def sne := ss fun a b => some (.bool (!(a == b)))
def slt := ss fun a b => some (.bool (ltL a b))
def sle := ss fun a b => some (.bool (ltL a b || a == b))
def sgt := ss fun a b => some (.bool (!(ltL a b || a == b)))
def sge := ss fun a b => some (.bool (!(ltL a b)))
def strB (op : BinOp) (x y : AV) : Option AV := match op with
  | .add => scat x y | .eql => seq x y | .neq => sne x y | .lss => slt x y | .leq => sle x y | .gtr => sgt x y | .geq => sge x y | _ => none
/-- pointers are one -/
def pe (x y : AV) (H : Hp) : Option Bool := match x, y with
  | .ptr0, .ptr0 => some true
  | .ptr0, .ptr _ _ => some false
  | .ptr _ _, .ptr0 => some false
  | .ptr i a, .ptr j b => bif Nat.beq i j then some (Nat.beq a b) else bif clean H i && clean H j then some false else none
  | _, _ => none
def eqB (op : BinOp) (o : Option Bool) : Option AV := match op with
  | .eql => o.map .bool
  | .neq => o.map fun b => .bool !b
  | _ => none
/-- a number of another kind -/
def cv (k : IntKind) (x : AV) : Option AV := match x with | .int _ n => some (.int k (k.wrap n)) | _ => none
def cvs (x : AV) : Option AV := match x with | .str s => some (.str s) | _ => none
def un (op : UnOp) (x : AV) : Option AV := unA op x

/-! parts of slices and strings -/
def sls (x : AV) (lo hi : Option AV) : Option AV := match x with
  | .str s => (sliceBnd s.length s.length lo hi none).map fun p => .str ((s.drop p.1).take (p.2.1 - p.1))
  | _ => none
def sll (s : Nat) (x : AV) (lo hi mx : Option AV) : Option AV := match x with
  | .slice0 => (sliceBnd 0 0 lo hi mx).map fun _ => .slice0
  | .slice i off len cap ex es => (sliceBnd len cap lo hi mx).bind fun p => if s = es then some (.slice i (off + p.1 * es) (p.2.1 - p.1) (p.2.2 - p.1) (ex || mx.isSome) es) else none
  | _ => none
def mks (z : List AV) (el s : Nat) (l c : AV) (H : Hp) : Option (AV × Hp) := match l, c with
  | .int _ l, .int _ c => if 0 ≤ l ∧ l ≤ c ∧ c ≤ 1048576 then (newCells H (rep c.toNat z) el 0).map fun r => (.slice r.1 0 l.toNat c.toNat true s, r.2) else none
  | _, _ => none

/-! maps -/
inductive KT where | str | int
def keq (kt : KT) (x y : AV) : Option Bool := match kt with
  | .str => (match x, y with | .str a, .str b => some (a == b) | _, _ => none)
  | .int => (match x, y with | .int k a, .int k' b => if k = k' then some (a == b) else none | _, _ => none)
def fk (kt : KT) (k : AV) : List ME → Nat → Option (Option (Nat × ME))
  | [], _ => some none
  | e :: es, i => match keq kt k e.key with
    | some true => some (some (i, e))
    | some false => fk kt k es (i + 1)
    | none => none
def lkp (kt : KT) (z : AV) (ok : Bool) (x k : AV) (H : Hp) : Option AV := match mapOf H x with
  | some (es, _) => match fk kt k es 0 with
    | some (some (_, m)) => some (bif ok then .tuple [m.val, .bool true] else m.val)
    | some none => some (bif ok then .tuple [z, .bool false] else z)
    | none => none
  | none => none
def mup (kt : KT) (x k v : AV) (H : Hp) : Option Hp := match x with
  | .map i => match H.h.get i with
    | some (.map es c) => match fk kt k es 0 with
      | some (some (j, m)) => bif sameK m.key k then some (setObj H i (.map (es.set j { m with key := k, val := v }) c)) else none
      | some none => some (setObj H i (.map (es ++ [⟨k, v, c⟩]) (c + 1)))
      | none => none
    | _ => none
  | _ => none
def mdel (kt : KT) (m k : AV) (H : Hp) : Option Hp := match m with
  | .map0 => some H
  | .map i => match H.h.get i with
    | some (.map es c) => match fk kt k es 0 with
      | some (some (j, _)) => some (setObj H i (.map (es.eraseIdx j) c))
      | some none => some H
      | none => none
    | _ => none
  | _ => none
def mk0 (H : Hp) : Option (Nat × Hp) := alloc H (.map [] 0)

/-! builtins -/
def lenx (x : AV) : Option AV := match x with | .slice0 => some (.int .i64 0) | .slice _ _ n _ _ _ => some (.int .i64 n) | _ => none
def lens (x : AV) : Option AV := match x with | .str s => some (.int .i64 s.length) | _ => none
def lenm (x : AV) (H : Hp) : Option AV := match x with
  | .map0 => some (.int .i64 0)
  | .map i => match H.h.get i with | some (.map es _) => some (.int .i64 es.length) | _ => none
  | _ => none
/-- what is appended -/
def apn (es : Nat) (z : List AV) (zeros : Bool) (x : AV) (H : Hp) : Option (Nat × List AV) := match zeros, x with
  | true, .int .i64 k => if 0 ≤ k ∧ k < 16777216 then some (k.toNat, rep k.toNat z) else none
  | false, .slice0 => some (0, [])
  | false, .slice i off len _ _ _ => (cellsAt H i off (len * es)).map fun l => (len, l)
  | false, .str s => if es = 1 then some (s.length, s.map fun (b : Nat) => AV.int .u8 b) else none
  | _, _ => none
def ap2 (el es : Nat) (n : Nat) (new : List AV) (s : AV) (H : Hp) : Option (AV × Hp) := match s with
  | .slice0 =>
    bif Nat.beq n 0 then some (.slice0, H) else
    bif Nat.ble n 16777216 then (newCells H new el 0).map fun r => (.slice r.1 0 n n false es, r.2) else none
  | .slice i off len cap ex es' =>
    bif Nat.ble (len + n) 16777216 && Nat.beq es es' && new.all oneC then
    bif Nat.ble (len + n) cap then (setCells H i (off + len * es) new).map fun H => (.slice i off (len + n) cap ex es, H)
    else bif ex then (cellsAt H i off (len * es)).bind fun old => (newCells H (old ++ new) el 0).map fun r => (.slice r.1 0 (len + n) (len + n) false es, r.2)
    else match H.h.get i with
      | some (.cells c lo hi el' fl) =>
        bif Nat.ble fl 1 && Nat.ble lo off && Nat.ble (off + len * es) hi && Nat.beq el el' then
          (alloc { H with h := H.h.del i } (.cells (c.puts (off + len * es) new) off (off + (len + n) * es) el 1)).map fun r => (.slice r.1 off (len + n) (len + n) false es, r.2)
        else none
      | _ => none
    else none
  | _ => none
def app' (el es : Nat) (z : List AV) (zeros : Bool) (s x : AV) (H : Hp) : Option (AV × Hp) := match apn es z zeros x H with
  | some (n, new) => ap2 el es n new s H
  | none => none
def cpy (es : Nat) (d x : AV) (H : Hp) : Option (AV × Hp) := match lenS x with
  | some xl => match d with
    | .slice0 => some (.int .i64 0, H)
    | .slice i off dl _ _ _ =>
      bif Nat.beq (Nat.min xl dl) 0 then some (.int .i64 0, H) else
      match cellsX es (Nat.min xl dl) x H with
      | some cs => (setCells H i off cs).map fun H => (.int .i64 (Nat.min xl dl), H)
      | none => none
    | _ => none
  | none => none
/-- a row of bytes asT a string -/
def b2s (x : AV) (H : Hp) : Option AV := match x with
  | .slice0 => some (.str [])
  | .slice i off len _ _ _ => bif Nat.beq len 0 then some (.str []) else (cellsAt H i off len).bind fun cs => (toBytes cs).map .str
  | _ => none
def s2b (el : Nat) (x : AV) (H : Hp) : Option (AV × Hp) := match x with
  | .str s => (newCells H (s.map fun (b : Nat) => AV.int .u8 b) el 1).map fun r => (.slice r.1 0 s.length s.length false 1, r.2)
  | _ => none
end K
end Go.Proofs.YtlomlkoimmpemaaGreatDoor.Am
namespace Go.Proofs.YtlomlkoimmpemaaGreatDoor.Am
set_option linter.unusedVariables false
set_option linter.unusedSimpArgs false
namespace K
variable (P : Program)

def ktOf (kt : TypeId) : Option KT := match P.underlying kt with | some .string => some .str | some (.int _) => some .int | _ => none
def fOff (ty : TypeId) (f : Nat) : Option Nat := match P.underlying ty with
  | some (.struct fs) => match fs[f]? with
    | some fd => bif posSz P fd.type then some fd.offset else none
    | none => none
  | _ => none
/-- what stands beside a number, a string, a truth in its type -/
inductive CL where | int | str | bool | ptr | other
def clOf (t : TypeId) : CL := match P.underlying t with | some (.int _) => .int | some .string => .str | some .bool => .bool | some (.pointer el) => (match sz P el with | some (_ + 1) => .ptr | _ => .other) | _ => .other
def bb (op : BinOp) (x y : AV) : Option AV := match op, x, y with
  | .eql, .bool a, .bool b => some (.bool (a == b))
  | .neq, .bool a, .bool b => some (.bool (!(a == b)))
  | _, _, _ => none
/-- may two values be held against one another? (c: one of them is a constant) -/
def gA (op : BinOp) (t : TypeId) (c : Bool) (x y : AV) : Bool := match op with
  | .eql | .neq => (match x, y with | .nilIface, .nilIface => c | .agg _, .agg _ => !(P.eqGuardType P.depth t) | _, _ => true)
  | _ => true
def binK (op : BinOp) (t : TypeId) (X Y : Operand) (x y : AV) (H : Hp) (k : AV → R) : R := match clOf P t with
  | .int => B1 (intB op x y) k
  | .str => B1 (strB op x y) k
  | .bool => B1 (bb op x y) k
  | .ptr => B1 (eqB op (pe x y H)) k
  | .other => IFT (gA P op t (isC X || isC Y) x y) (B1 (binA P op t x y H) k)

def convK (a b : TypeId) (x : AV) (H : Hp) (k : AV → Hp → R) : R := match P.underlying a, P.underlying b with
  | some (.int _), some (.int q) => B1 (cv q x) fun v => k v H
  | some .string, some .string => B1 (cvs x) fun v => k v H
  | some (.slice e), some .string => (match P.underlying e with | some (.int .u8) => B1 (b2s x H) fun v => k v H | _ => none)
  | some .string, some (.slice e) => (match P.underlying e with | some (.int .u8) => B2 (s2b e x H) k | _ => none)
  | _, _ => B2 (convA P a b x H) k

def sliceK (t : TypeId) (x : AV) (lo hi mx : Option AV) (H : Hp) (k : AV → R) : R := match P.underlying t with
  | some .string => (match mx with | none => B1 (sls x lo hi) k | some _ => none)
  | some (.slice el) => (match sz P el with | some s => B1 (sll s x lo hi mx) k | none => none)
  | _ => B1 (sliceA P t x lo hi mx H) k

def callB (b : Builtin) (ty : Array TypeId) (args : List AV) (H : Hp) (k : AV → Hp → R) : R := match b, args with
  | .len, [x] => (match (ty[0]?).bind P.underlying with
    | some .string => B1 (lens x) fun v => k v H
    | some (.slice _) => B1 (lenx x) fun v => k v H
    | some (.map _ _) => B1 (lenm x H) fun v => k v H
    | _ => B2 (builtinA P .len ty args H) k)
  | .append, [s, x] => (match (ty[0]?).bind P.underlying, appZeros P ty with
    | some (.slice el), some zeros => (match sz P el, zc P el with
      | some es, some z => bif Nat.ble (P.bytesOf el) 4096 && Nat.beq z.length es then B2 (app' el es z zeros s x H) k else none
      | _, _ => none)
    | _, _ => none)
  | .copy, [d, x] => (match (ty[0]?).bind P.underlying with
    | some (.slice el) => (match sz P el with
      | some es => B2 (cpy es d x H) k
      | none => none)
    | _ => none)
  | .delete, [m, q] => (match (ty[0]?).bind P.underlying with
    | some (.map kt _) => (match ktOf P kt with
      | some kt => B1 (mdel kt m q H) fun H => k undefA H
      | none => B2 (builtinA P .delete ty args H) k)
    | _ => none)
  | b, args => B2 (builtinA P b ty args H) k

def opK (cf : CF) (o : Oper) (t : Tm) (H : Hp) (k : AV → Hp → R) : R :=
  match o.op with
  | .move x => k (ev P.globals.size t x) H
  | .assign x => k (ev P.globals.size t x) H
  | .pick c a b => B1 (pk (ev P.globals.size t c) (ev P.globals.size t a) (ev P.globals.size t b)) fun v => k v H
  | .alloc ty => (match zc P ty with | some l => BN (newCells H l ty 0) fun i H => k (.ptr i 0) H | none => none)
  | .box ty x => BN (bx ty (ev P.globals.size t x) H) fun i H => k (.ptr i 0) H
  | .build ty ps => (match zc P ty, P.underlying ty with
    | some z, some (.struct fs) => (match placesA P fs with
      | some pl => (match mapMO (fun (p : Nat × Operand) => (pl[p.1]?).map fun q => (q.1, q.2, ev P.globals.size t p.2)) ps.toList with
        | some l => B1 (fl z l) fun l => k (.agg l) H
        | none => none)
      | none => none)
    | some z, some (.array _ el) => (match sz P el with
      | some s => B1 (fl z (ps.toList.map fun p => (p.1 * s, s, ev P.globals.size t p.2))) fun l => k (.agg l) H
      | none => none)
    | _, _ => none)
  | .buildSlice ty n ps => (match P.underlying ty with
    | some (.slice el) => (match sz P el with
      | some s => bif Nat.ble (n * s) 65536 then (match rowZ P el s n with
        | some z => B1 (fl z (ps.toList.map fun p => (p.1 * s, s, ev P.globals.size t p.2))) fun l => BN (newCells H l el 0) fun i H => k (.slice i 0 n n true s) H
        | none => none) else none
      | none => none)
    | _ => none)
  | .insert ty m q v => (match P.underlying ty with
    | some (.map kt _) => (match ktOf P kt with
      | some kt => B1 (mup kt (ev P.globals.size t m) (ev P.globals.size t q) (ev P.globals.size t v) H) fun H => k undefA H
      | none => B1 (mapUpd P ty (ev P.globals.size t m) (ev P.globals.size t q) (ev P.globals.size t v) H) fun H => k undefA H)
    | _ => none)
  | .mapUpdate ty m q v => (match P.underlying ty with
    | some (.map kt _) => (match ktOf P kt with
      | some kt => B1 (mup kt (ev P.globals.size t m) (ev P.globals.size t q) (ev P.globals.size t v) H) fun H => k undefA H
      | none => B1 (mapUpd P ty (ev P.globals.size t m) (ev P.globals.size t q) (ev P.globals.size t v) H) fun H => k undefA H)
    | _ => none)
  | .load ty a => (match aggT P ty, sz P ty with
    | some true, some n => B1 (lda n (ev P.globals.size t a) H) fun v => k v H
    | some false, _ => B1 (ld (ev P.globals.size t a) H) fun v => k v H
    | _, _ => none)
  | .store ty a v => (match sz P ty with | some n => B1 (st n (ev P.globals.size t a) (ev P.globals.size t v) H) fun H => k undefA H | none => none)
  | .nilCheck x => B1 (nilA (ev P.globals.size t x)) fun v => k v H
  | .binOp op ty x y _ => binK P op ty x y (ev P.globals.size t x) (ev P.globals.size t y) H fun v => k v H
  | .unOp op _ x => B1 (unA op (ev P.globals.size t x)) fun v => k v H
  | .convert a b x => convK P a b (ev P.globals.size t x) H k
  | .makeInterface ty x => (match ifaceA P ty (ev P.globals.size t x) with | some v => k v H | none => none)
  | .makeFunc fn a b => (match funcA fn (a.toList.map (ev P.globals.size t)) (b.toList.map (ev P.globals.size t)) with | some v => k v H | none => none)
  | .makeMap _ none => BN (mk0 H) fun i H => k (.map i) H
  | .makeSlice ty l c => (match P.underlying ty with
    | some (.slice el) => (match sz P el, zc P el with
      | some s, some z => bif Nat.ble (P.bytesOf el) 4096 && Nat.beq z.length s then B2 (mks z el s (ev P.globals.size t l) (ev P.globals.size t c) H) k else none
      | _, _ => none)
    | _ => none)
  | .slice ty x lo hi mx => sliceK P ty (ev P.globals.size t x) (lo.map (ev P.globals.size t)) (hi.map (ev P.globals.size t)) (mx.map (ev P.globals.size t)) H fun v => k v H
  | .fieldAddr ty x f => (match fOff P ty f with | some off => B1 (fa off (ev P.globals.size t x)) fun v => k v H | none => none)
  | .field ty x f => (match P.underlying ty with
    | some (.struct fs) => (match fs[f]? with
      | some d => (match aggT P d.type, sz P d.type with
        | some true, some n => B1 (fda n d.offset (ev P.globals.size t x)) fun v => k v H
        | some false, _ => B1 (fd d.offset (ev P.globals.size t x)) fun v => k v H
        | _, _ => none)
      | none => none)
    | _ => none)
  | .indexAddr ty x ix => (match P.underlying ty with
    | some (.slice el) => (match sz P el with | some s => B1 (ia s (ev P.globals.size t x) (ev P.globals.size t ix)) fun v => k v H | none => none)
    | some (.array n el) => (match sz P el with | some s => B1 (iar n s (ev P.globals.size t x) (ev P.globals.size t ix)) fun v => k v H | none => none)
    | _ => none)
  | .index ty x ix => (match P.underlying ty with
    | some .string => B1 (ixs (ev P.globals.size t x) (ev P.globals.size t ix)) fun v => k v H
    | _ => B1 (indexA P ty (ev P.globals.size t x) (ev P.globals.size t ix)) fun v => k v H)
  | .lookup ty x q ok => (match P.underlying ty with
    | some (.map kt el) => (match ktOf P kt, ((P.info? el).bind (·.zero)).bind ofC with
      | some kt, some z => B1 (lkp kt z ok (ev P.globals.size t x) (ev P.globals.size t q) H) fun v => k v H
      | _, _ => B1 (lookupA P ty (ev P.globals.size t x) (ev P.globals.size t q) ok H) fun v => k v H)
    | _ => none)
  | .range ty x => B2 (rangeA P ty (ev P.globals.size t x) H) k
  | .next it s => B2 (nextA (ev P.globals.size t it) s H) k
  | .entry it => B1 (entryA (ev P.globals.size t it) H) fun v => k v H
  | .extract tp i => B1 (ex i (ev P.globals.size t tp)) fun v => k v H
  | .typeAssert x _ asT ok => (match P.underlying asT with
    | some (.interface _) => none
    | some _ => B1 (ta asT ok (ev P.globals.size t x)) fun v => k v H
    | none => none)
  | .call { callee := .value f, args, .. } => B2 (cf (ev P.globals.size t f) (args.toList.map (ev P.globals.size t)) H) k
  | .call { callee := .builtin b, args, argTypes } => callB P b argTypes (args.toList.map (ev P.globals.size t)) H k
  | _ => none
end K
end Go.Proofs.YtlomlkoimmpemaaGreatDoor.Am
namespace Go.Proofs.YtlomlkoimmpemaaGreatDoor.Am
set_option linter.unusedVariables false
set_option linter.unusedSimpArgs false
namespace K
variable {P : Program}

/-- what is asked of an operation's reading with a continuation: it is the evaluator's operation, and goes on -/
def Ok1 (o : Option (AV × Hp)) (k : AV → Hp → R) (r : AV × Hp) : Prop := ∃ v H', o = some (v, H') ∧ k v H' = some r

theorem intB_binA {op : BinOp} {x y v : AV} {t : TypeId} {H : Hp} (h : intB op x y = some v) : binA P op t x y H = some v := by
  cases op <;> simp only [intB, iadd, isub, imul, iquo, irem, iand, ior, ixor, ieq, ine, ilt, ile, igt, ige, ishl, ishr, ii, i2, reduceCtorEq] at h <;>
    (split at h <;> first | (cases h; done) | exact h)
theorem strB_binA {op : BinOp} {x y v : AV} {t : TypeId} {H : Hp} (h : strB op x y = some v) : binA P op t x y H = some v := by
  cases op <;> simp only [strB, scat, seq, sne, slt, sle, sgt, sge, ss, reduceCtorEq] at h <;>
    (split at h <;> first | (cases h; done) | exact h)
theorem intB_shape {op : BinOp} {x y v : AV} (h : intB op x y = some v) : ∃ k a k' b, x = .int k a ∧ y = .int k' b := by
  cases op <;> simp only [intB, iadd, isub, imul, iquo, irem, iand, ior, ixor, ieq, ine, ilt, ile, igt, ige, ishl, ishr, ii, i2, reduceCtorEq] at h <;>
    (split at h <;> first | (cases h; done) | exact ⟨_, _, _, _, rfl, rfl⟩)
theorem strB_shape {op : BinOp} {x y v : AV} (h : strB op x y = some v) : ∃ a b, x = .str a ∧ y = .str b := by
  cases op <;> simp only [strB, scat, seq, sne, slt, sle, sgt, sge, ss, reduceCtorEq] at h <;>
    (split at h <;> first | (cases h; done) | exact ⟨_, _, rfl, rfl⟩)

theorem guard_int {op : BinOp} {t : TypeId} {X Y : Operand} {k k' : IntKind} {a b : Int} : guardA P op t X Y (.int k a) (.int k' b) = true := by cases op <;> rfl
theorem guard_str {op : BinOp} {t : TypeId} {X Y : Operand} {a b : List Nat} : guardA P op t X Y (.str a) (.str b) = true := by cases op <;> rfl

theorem binK_ok {op : BinOp} {t : TypeId} {X Y : Operand} {x y : AV} {H : Hp} {k : AV → R} {r : AV × Hp} (h : binK P op t X Y x y H k = some r) :
    ∃ v, (bif guardA P op t X Y x y then (binA P op t x y H).map fun v => (v, H) else none) = some (v, H) ∧ k v = some r := by
  unfold binK at h
  split at h
  · obtain ⟨v, h1, h2⟩ := B1_some h
    obtain ⟨_, _, _, _, rfl, rfl⟩ := intB_shape h1
    exact ⟨v, by rw [guard_int, intB_binA h1]; rfl, h2⟩
  · obtain ⟨v, h1, h2⟩ := B1_some h
    obtain ⟨_, _, rfl, rfl⟩ := strB_shape h1
    exact ⟨v, by rw [guard_str, strB_binA h1]; rfl, h2⟩
  · rename_i hc
    obtain ⟨v, h1, h2⟩ := B1_some h
    have hu : P.underlying t = some .bool := by
      unfold clOf at hc
      split at hc <;> first | (cases hc; done) | assumption | skip
      split at hc <;> cases hc
    unfold bb at h1
    split at h1
    · cases h1
      refine ⟨_, ?_, h2⟩
      have hb : ∀ a b, binA P .eql t (.bool a) (.bool b) H = some (.bool (a == b)) := by intro a b; simp only [binA]; unfold eqA; rw [hu]; rfl
      rw [hb]; rfl
    · cases h1
      refine ⟨_, ?_, h2⟩
      have hb : ∀ a b, binA P .neq t (.bool a) (.bool b) H = some (.bool (!(a == b))) := by intro a b; simp only [binA]; unfold eqA; rw [hu]; rfl
      rw [hb]; rfl
    · cases h1
  · rename_i hc
    obtain ⟨v, h1, h2⟩ := B1_some h
    have hu : ∃ el n, P.underlying t = some (.pointer el) ∧ sz P el = some (n + 1) := by
      unfold clOf at hc
      split at hc <;> first | (cases hc; done) | skip
      rename_i el hu
      split at hc
      · rename_i n hs; exact ⟨el, n, hu, hs⟩
      · cases hc
    obtain ⟨el, n, hu, hs⟩ := hu
    have he : ∀ q, pe x y H = some q → eqA P 50 t x y H = some q := by
      intro q hq
      unfold pe at hq
      unfold eqA
      rw [hu]
      cases x <;> cases y <;> first | (cases hq; done) | (cases hq; rfl) | skip
      simp only [hs]
      exact hq
    have hx : (∃ i j, x = .ptr i j) ∨ x = .ptr0 := by
      unfold eqB at h1
      cases hp : pe x y H with
      | none => rw [hp] at h1; cases op <;> cases h1
      | some q =>
        unfold pe at hp
        cases x <;> first | (cases y <;> cases hp; done) | exact .inl ⟨_, _, rfl⟩ | exact .inr rfl
    have hg : guardA P op t X Y x y = true := by
      rcases hx with ⟨i, j, rfl⟩ | rfl <;> (cases op <;> first | rfl | (cases y <;> rfl))
    refine ⟨v, ?_, h2⟩
    rw [hg]
    cases hp : pe x y H with
    | none => rw [hp] at h1; cases op <;> cases h1
    | some q =>
      rw [hp] at h1
      have := he q hp
      rcases hx with ⟨i, j, rfl⟩ | rfl <;> (cases op <;> first | (cases h1; done) | skip) <;>
        (cases h1; cases y <;> first | (unfold pe at hp; cases hp; done) | (simp only [binA, this]; rfl))
  · have hga : gA P op t (isC X || isC Y) x y = guardA P op t X Y x y := rfl
    rw [hga] at h
    cases hg : guardA P op t X Y x y with
    | false => rw [hg] at h; cases h
    | true =>
      rw [hg] at h
      obtain ⟨v, h1, h2⟩ := B1_some h
      exact ⟨v, by rw [h1]; rfl, h2⟩

theorem fl_fillA (place : Nat → Option (Nat × Nat)) : ∀ (ps : List (Nat × AV)) (qs : List (Nat × Nat × AV)) (z l : List AV), mapMO (fun (p : Nat × AV) => (place p.1).map fun q => (q.1, q.2, p.2)) ps = some qs → fl z qs = some l → fillA place z ps = some l
  | [], qs, z, l, h, hf => by cases h; exact hf
  | (i, v) :: ps, qs, z, l, h, hf => by
    unfold mapMO at h
    cases hp : place i with
    | none => rw [hp] at h; cases h
    | some q =>
      rw [hp] at h
      simp only [Option.map_some] at h
      split at h
      · rename_i r hr
        cases h
        unfold fl at hf
        unfold fillA
        rw [hp]
        simp only
        split at hf
        · rename_i cs hcs
          rw [hcs]
          simp only
          split at hf
          · rename_i hc
            rw [if_pos hc]
            exact fl_fillA place ps r _ l hr hf
          · cases hf
        · cases hf
      · cases h

theorem keq_eqA {kt : TypeId} {K : KT} (hk : ktOf P kt = some K) {x y : AV} {H : Hp} {b : Bool} (h : keq K x y = some b) : eqA P 20 kt x y H = some b := by
  unfold ktOf at hk
  split at hk
  · rename_i hu
    cases hk
    unfold keq at h
    simp only at h
    split at h
    · unfold eqA; rw [hu]; exact h
    · cases h
  · rename_i q hu
    cases hk
    unfold keq at h
    simp only at h
    split at h
    · unfold eqA; rw [hu]; exact h
    · cases h
  · cases hk
theorem fk_findK {kt : TypeId} {K : KT} (hk : ktOf P kt = some K) {H : Hp} {q : AV} : ∀ (es : List ME) (i : Nat) (r : Option (Nat × ME)), fk K q es i = some r → findK P H kt q es i = some r
  | [], i, r, h => h
  | e :: es, i, r, h => by
    unfold fk at h
    unfold findK
    split at h
    · rename_i h1; rw [keq_eqA hk h1]; exact h
    · rename_i h1; rw [keq_eqA hk h1]; exact fk_findK hk es (i + 1) r h
    · cases h
theorem chk_kt {kt : TypeId} {K : KT} (hk : ktOf P kt = some K) (v : AV) : chkK P 20 kt v = true := by
  unfold ktOf at hk
  unfold chkK
  split at hk
  · rename_i hu; rw [hu]
  · rename_i q hu; rw [hu]
  · cases hk

theorem lkp_ok {ty kt el : TypeId} {K : KT} {z : AV} {ok : Bool} {x q v : AV} {H : Hp} (hu : P.underlying ty = some (.map kt el)) (hk : ktOf P kt = some K) (hz : ((P.info? el).bind (·.zero)).bind ofC = some z) (h : lkp K z ok x q H = some v) : lookupA P ty x q ok H = some v := by
  unfold lookupA
  rw [hu]
  simp only [chk_kt hk, cond_true]
  unfold lkp at h
  split at h
  · rename_i es c hm
    rw [hm]
    simp only
    split at h
    · rename_i i m hf
      rw [fk_findK hk es 0 _ hf]
      cases h; rfl
    · rename_i hf
      rw [fk_findK hk es 0 _ hf]
      simp only [hz]
      cases h; cases ok <;> rfl
    · cases h
  · cases h
theorem mup_ok {ty kt el : TypeId} {K : KT} {x q v : AV} {H H' : Hp} (hu : P.underlying ty = some (.map kt el)) (hk : ktOf P kt = some K) (h : mup K x q v H = some H') : mapUpd P ty x q v H = some H' := by
  unfold mapUpd
  rw [hu]
  unfold mup at h
  split at h
  · rename_i i
    simp only [chk_kt hk, cond_true]
    split at h
    · rename_i es c hg
      rw [hg]
      simp only
      split at h
      · rename_i j m hf
        rw [fk_findK hk es 0 _ hf]
        exact h
      · rename_i hf
        rw [fk_findK hk es 0 _ hf]
        exact h
      · cases h
    · cases h
  · cases h
theorem mdel_ok {ty : Array TypeId} {t0 kt el : TypeId} {K : KT} {m q : AV} {H H' : Hp} (ht : (ty[0]?).bind P.underlying = some (.map kt el)) (hk : ktOf P kt = some K) (h : mdel K m q H = some H') : delA P ty m q H = some H' := by
  unfold delA
  rw [ht]
  simp only [chk_kt hk, cond_true]
  unfold mdel at h
  split at h
  · exact h
  · rename_i i
    simp only
    split at h
    · rename_i es c hg
      rw [hg]
      simp only
      split at h
      · rename_i j m hf
        rw [fk_findK hk es 0 _ hf]
        exact h
      · rename_i hf
        rw [fk_findK hk es 0 _ hf]
        exact h
      · cases h
    · cases h
  · cases h
theorem app_ok {ty : Array TypeId} {el es : Nat} {z : List AV} {zeros : Bool} {s x v : AV} {H H' : Hp} (ht : (ty[0]?).bind P.underlying = some (.slice el)) (hz : appZeros P ty = some zeros) (hs : sz P el = some es) (hzc : zc P el = some z)
    (hc : (Nat.ble (P.bytesOf el) 4096 && Nat.beq z.length es) = true) (h : app' el es z zeros s x H = some (v, H')) : appendA P ty s x H = some (v, H') := by
  unfold appendA
  rw [ht, hz]
  simp only [hs, hzc, hc, cond_true]
  unfold app' at h
  have hlen : z.length = es := by
    simp only [Bool.and_eq_true, Nat.beq_eq] at hc
    exact hc.2
  have hn : ∀ r, apn es z zeros x H = some r → appNew P zeros el es x H = some r := by
    intro r hr
    unfold apn at hr
    unfold appNew
    split at hr
    · split at hr
      · rename_i hk
        simp only [if_pos hk, hzc, if_pos hlen]
        exact hr
      · cases hr
    · exact hr
    · exact hr
    · exact hr
    · cases hr
  split at h
  · rename_i n new hnew
    rw [hn _ hnew]
    simp only
    unfold ap2 at h
    split at h
    · cases hb : Nat.beq n 0 with
      | true => rw [hb] at h; exact h
      | false =>
        rw [hb] at h
        simp only [cond_false] at h ⊢
        cases hb2 : Nat.ble n 16777216 with
        | false => rw [hb2] at h; cases h
        | true =>
          rw [hb2] at h
          simp only [cond_true] at h ⊢
          cases hnc : newCells H new el 0 with
          | none => rw [hnc] at h; cases h
          | some r => rw [hnc] at h; exact h
    · rename_i i off len cap ex es'
      cases hb : (Nat.ble (len + n) 16777216 && Nat.beq es es' && new.all oneC) with
      | false => rw [hb] at h; cases h
      | true =>
        rw [hb] at h
        simp only [cond_true] at h ⊢
        cases hb2 : Nat.ble (len + n) cap with
        | true =>
          rw [hb2] at h
          simp only [cond_true] at h ⊢
          cases hsc : setCells H i (off + len * es) new with
          | none => rw [hsc] at h; cases h
          | some H2 => rw [hsc] at h; rw [hb]; exact h
        | false =>
          rw [hb2] at h
          simp only [cond_false] at h ⊢
          cases ex with
          | true =>
            simp only [cond_true] at h ⊢
            cases hca : cellsAt H i off (len * es) with
            | none => rw [hca] at h; cases h
            | some old =>
              rw [hca] at h
              simp only [Option.bind_some] at h ⊢
              cases hnc : newCells H (old ++ new) el 0 with
              | none => rw [hnc] at h; cases h
              | some r => rw [hnc] at h; rw [hb]; exact h
          | false =>
            simp only [cond_false] at h ⊢
            split at h
            · rename_i c lo hi el' fl hg
              rw [hg]
              simp only
              cases hb3 : (Nat.ble fl 1 && Nat.ble lo off && Nat.ble (off + len * es) hi && Nat.beq el el') with
              | false => rw [hb3] at h; cases h
              | true =>
                rw [hb3] at h
                simp only [cond_true] at h ⊢
                cases hal : alloc { H with h := H.h.del i } (.cells (c.puts (off + len * es) new) off (off + (len + n) * es) el 1) with
                | none => rw [hal] at h; cases h
                | some r => rw [hal] at h; rw [hb]; exact h
            · cases h
    · cases h
  · cases h
theorem cpy_ok {ty : Array TypeId} {el es : Nat} {d x v : AV} {H H' : Hp} (ht : (ty[0]?).bind P.underlying = some (.slice el)) (hs : sz P el = some es) (h : cpy es d x H = some (v, H')) : copyA P ty d x H = some (v, H') := by
  unfold copyA
  rw [ht]
  unfold cpy at h
  split at h
  · rename_i xl hl
    simp only [hs, hl]
    split at h
    · exact h
    · rename_i i off dl c e f
      simp only
      cases hb : Nat.beq (Nat.min xl dl) 0 with
      | true => rw [hb] at h; exact h
      | false =>
        rw [hb] at h
        simp only [cond_false] at h ⊢
        split at h
        · rename_i cs hcs; rw [hcs]; exact h
        · cases h
    · cases h
  · cases h

theorem callB_ok {b : Builtin} {ty : Array TypeId} {args : List AV} {H : Hp} {k : AV → Hp → R} {r : AV × Hp} (h : callB P b ty args H k = some r) : ∃ v H', builtinA P b ty args H = some (v, H') ∧ k v H' = some r := by
  unfold callB at h
  split at h
  · rename_i x
    split at h
    · rename_i hu
      obtain ⟨v, h1, h2⟩ := B1_some h
      refine ⟨v, H, ?_, h2⟩
      unfold lens at h1
      split at h1
      · cases h1; simp only [builtinA, lenA, hu]; rfl
      · cases h1
    · rename_i el hu
      obtain ⟨v, h1, h2⟩ := B1_some h
      refine ⟨v, H, ?_, h2⟩
      unfold lenx at h1
      split at h1
      · cases h1; simp only [builtinA, lenA, hu]; rfl
      · cases h1; simp only [builtinA, lenA, hu]; rfl
      · cases h1
    · rename_i a b hu
      obtain ⟨v, h1, h2⟩ := B1_some h
      refine ⟨v, H, ?_, h2⟩
      unfold lenm at h1
      split at h1
      · cases h1; simp only [builtinA, lenA, hu]; rfl
      · simp only [builtinA, lenA, hu]
        exact (congrArg (Option.map fun v => (v, H)) h1)
      · cases h1
    · exact B2_some h
  · rename_i s x
    split at h
    · rename_i el zeros hu hz
      split at h
      · rename_i es z hs hzc
        cases hc : (Nat.ble (P.bytesOf el) 4096 && Nat.beq z.length es) with
        | false => rw [hc] at h; cases h
        | true =>
          rw [hc] at h
          obtain ⟨v, H', h1, h2⟩ := B2_some h
          exact ⟨v, H', app_ok hu hz hs hzc hc h1, h2⟩
      · cases h
    · cases h
  · rename_i d x
    split at h
    · rename_i el hu
      split at h
      · rename_i es hs
        obtain ⟨v, H', h1, h2⟩ := B2_some h
        exact ⟨v, H', cpy_ok hu hs h1, h2⟩
      · cases h
    · cases h
  · rename_i m q
    split at h
    · rename_i kt el hu
      split at h
      · rename_i K hk
        obtain ⟨H', h1, h2⟩ := B1_some h
        refine ⟨undefA, H', ?_, h2⟩
        show (delA P ty m q H).map (fun H => (undefA, H)) = _
        rw [mdel_ok (t0 := 0) hu hk h1]; rfl
      · exact B2_some h
    · cases h
  · exact B2_some h
end K
end Go.Proofs.YtlomlkoimmpemaaGreatDoor.Am
namespace Go.Proofs.YtlomlkoimmpemaaGreatDoor.Am
set_option linter.unusedVariables false
set_option linter.unusedSimpArgs false
namespace K
variable {P : Program}

theorem mapMO_map {α β γ : Type} (f : β → Option γ) (g : α → β) : ∀ l : List α, mapMO f (l.map g) = mapMO (fun a => f (g a)) l
  | [] => rfl
  | a :: l => by
    simp only [List.map_cons, mapMO, mapMO_map f g l]

theorem mapMO_pure {α β : Type} (f : α → β) : ∀ l : List α, mapMO (fun a => some (f a)) l = some (l.map f)
  | [] => rfl
  | a :: l => by
    simp only [List.map_cons, mapMO, mapMO_pure f l]

theorem convK_ok {a b : TypeId} {x : AV} {H : Hp} {k : AV → Hp → R} {r : AV × Hp} (h : convK P a b x H k = some r) : ∃ v H', convA P a b x H = some (v, H') ∧ k v H' = some r := by
  unfold convK at h
  split at h
  · rename_i q q' ha hb
    obtain ⟨v, h1, h2⟩ := B1_some h
    refine ⟨v, H, ?_, h2⟩
    unfold cv at h1
    split at h1
    · cases h1; unfold convA; rw [ha, hb]
    · cases h1
  · rename_i ha hb
    obtain ⟨v, h1, h2⟩ := B1_some h
    refine ⟨v, H, ?_, h2⟩
    unfold cvs at h1
    split at h1
    · cases h1; unfold convA; rw [ha, hb]
    · cases h1
  · rename_i e ha hb
    split at h
    · rename_i he
      obtain ⟨v, h1, h2⟩ := B1_some h
      refine ⟨v, H, ?_, h2⟩
      unfold b2s at h1
      split at h1
      · cases h1; unfold convA; rw [ha, hb]; simp only [he]
      · rename_i i off len c x s
        unfold convA; rw [ha, hb]; simp only [he]
        cases hl : Nat.beq len 0 with
        | true => rw [hl] at h1; cases h1; rfl
        | false =>
          rw [hl] at h1
          simp only [cond_false] at h1 ⊢
          cases hc : cellsAt H i off len with
          | none => rw [hc] at h1; cases h1
          | some cs =>
            rw [hc] at h1
            simp only [Option.bind_some] at h1 ⊢
            cases hb2 : toBytes cs with
            | none => rw [hb2] at h1; cases h1
            | some s => rw [hb2] at h1; cases h1; rfl
      · cases h1
    · cases h
  · rename_i e ha hb
    split at h
    · rename_i he
      obtain ⟨v, H', h1, h2⟩ := B2_some h
      refine ⟨v, H', ?_, h2⟩
      unfold s2b at h1
      split at h1
      · rename_i s
        unfold convA; rw [ha, hb]; simp only [he]
        cases hn : newCells H (s.map fun (b : Nat) => AV.int .u8 b) e 1 with
        | none => rw [hn] at h1; cases h1
        | some r => rw [hn] at h1; exact h1
      · cases h1
    · cases h
  · exact B2_some h

theorem sliceK_ok {t : TypeId} {x : AV} {lo hi mx : Option AV} {H : Hp} {k : AV → R} {r : AV × Hp} (h : sliceK P t x lo hi mx H k = some r) : ∃ v, sliceA P t x lo hi mx H = some v ∧ k v = some r := by
  unfold sliceK at h
  split at h
  · rename_i hu
    split at h
    · obtain ⟨v, h1, h2⟩ := B1_some h
      refine ⟨v, ?_, h2⟩
      unfold sls at h1
      split at h1
      · rename_i s
        unfold sliceA
        simp only [hu, Option.bind_eq_bind, Option.bind_some, Option.isSome_none, Bool.false_eq_true, if_false]
        cases hb : sliceBnd s.length s.length lo hi none with
        | none => rw [hb] at h1; cases h1
        | some p => rw [hb] at h1; exact h1
      · cases h1
    · cases h
  · rename_i el hu
    split at h
    · rename_i s hs
      obtain ⟨v, h1, h2⟩ := B1_some h
      refine ⟨v, ?_, h2⟩
      unfold sll at h1
      split at h1
      · unfold sliceA
        simp only [hu, Option.bind_eq_bind, Option.bind_some, hs, Option.isSome_some, if_true]
        cases hb : sliceBnd 0 0 lo hi mx with
        | none => rw [hb] at h1; cases h1
        | some p => rw [hb] at h1; exact h1
      · rename_i i off len cap ex es
        unfold sliceA
        simp only [hu, Option.bind_eq_bind, Option.bind_some, hs]
        cases hb : sliceBnd len cap lo hi mx with
        | none => rw [hb] at h1; cases h1
        | some p =>
          rw [hb] at h1
          simp only [Option.bind_some] at h1 ⊢
          split at h1
          · rename_i he; subst he; simpa using h1
          · cases h1
      · cases h1
    · cases h
  · exact B1_some h

theorem opK_sound {cf : CF} {o : Oper} {t : Tm} {H : Hp} {k : AV → Hp → R} {r : AV × Hp} (h : opK P cf o t H k = some r) : ∃ v H', opC P cf t o H = some (v, H') ∧ k v H' = some r := by
  obtain ⟨dst, op, ty0, pos, after, guard⟩ := o
  cases op
  case move x => exact ⟨_, _, rfl, h⟩
  case assign x => exact ⟨_, _, rfl, h⟩
  case pick c a b =>
    obtain ⟨v, h1, h2⟩ := B1_some h
    refine ⟨v, H, ?_, h2⟩
    unfold pk at h1
    show (match ev P.globals.size t c with | .bool q => some (bif q then ev P.globals.size t a else ev P.globals.size t b, H) | _ => none) = _
    split at h1
    · rename_i q hq; first | (rw [hq]; cases h1; rfl) | (cases h1; rfl)
    · cases h1
  case alloc ty =>
    have h0 : (match zc P ty with | some l => BN (newCells H l ty 0) fun i H => k (.ptr i 0) H | none => none) = some r := h
    show ∃ v H', (match zc P ty with | some l => (newCells H l ty 0).map fun r => (AV.ptr r.1 0, r.2) | none => none) = some (v, H') ∧ _
    split at h0
    · rename_i l hl
      obtain ⟨i, H2, h1, h2⟩ := BN_some h0
      exact ⟨_, _, by rw [h1]; rfl, h2⟩
    · cases h0
  case box ty x =>
    have h0 : BN (bx ty (ev P.globals.size t x) H) (fun i H => k (.ptr i 0) H) = some r := h
    obtain ⟨i, H2, h1, h2⟩ := BN_some h0
    refine ⟨.ptr i 0, H2, ?_, h2⟩
    show (match cellsV (ev P.globals.size t x) with | some l => (newCells H l ty 0).map fun r : Nat × Hp => (AV.ptr r.1 0, r.2) | none => none) = some (AV.ptr i 0, H2)
    unfold bx at h1
    split at h1
    · rename_i l hl; first | (rw [hl]; simp only [h1]; rfl) | (simp only [h1]; rfl)
    · cases h1
  case build ty ps =>
    show ∃ v H', (buildA P ty (ps.toList.map fun (i, x) => (i, ev P.globals.size t x))).map (fun v => (v, H)) = some (v, H') ∧ _
    unfold opK at h
    simp only at h
    unfold buildA
    split at h
    · rename_i z fs hz hu
      rw [hz, hu]
      simp only
      split at h
      · rename_i pl hpl
        rw [hpl]
        simp only
        split at h
        · rename_i l hl
          obtain ⟨l2, h1, h2⟩ := B1_some h
          refine ⟨.agg l2, H, ?_, h2⟩
          rw [fl_fillA (pl[·]?) (ps.toList.map fun (i, x) => (i, ev P.globals.size t x)) l z l2 (by rw [mapMO_map]; exact hl) h1]
          rfl
        · cases h
      · cases h
    · rename_i z n el hz hu
      rw [hz, hu]
      simp only
      split at h
      · rename_i s hs
        rw [hs]
        simp only
        obtain ⟨l2, h1, h2⟩ := B1_some h
        refine ⟨.agg l2, H, ?_, h2⟩
        have hq : mapMO (fun (p : Nat × AV) => ((fun i => some (i * s, s)) p.1).map fun q => (q.1, q.2, p.2)) (ps.toList.map fun (i, x) => (i, ev P.globals.size t x)) = some (ps.toList.map fun p => (p.1 * s, s, ev P.globals.size t p.2)) := by
          rw [mapMO_map]
          exact mapMO_pure (fun p : Nat × Operand => (p.1 * s, s, ev P.globals.size t p.2)) _
        rw [fl_fillA (fun i => some (i * s, s)) _ _ z l2 hq h1]
        rfl
      · cases h
    · cases h
  case buildSlice ty n ps =>
    show ∃ v H', buildSliceA P ty n (ps.toList.map fun (i, x) => (i, ev P.globals.size t x)) H = some (v, H') ∧ _
    unfold opK at h
    simp only at h
    unfold buildSliceA
    split at h
    · rename_i el hu
      rw [hu]
      simp only
      split at h
      · rename_i s hs
        rw [hs]
        simp only
        cases hb : Nat.ble (n * s) 65536 with
        | false => rw [hb] at h; cases h
        | true =>
          rw [hb] at h
          simp only [cond_true] at h ⊢
          split at h
          · rename_i z hz
            rw [hz]
            simp only
            obtain ⟨l2, h1, h2⟩ := B1_some h
            obtain ⟨i, H2, h3, h4⟩ := BN_some h2
            have hq : mapMO (fun (p : Nat × AV) => ((fun i => some (i * s, s)) p.1).map fun q => (q.1, q.2, p.2)) (ps.toList.map fun (i, x) => (i, ev P.globals.size t x)) = some (ps.toList.map fun p => (p.1 * s, s, ev P.globals.size t p.2)) := by
              rw [mapMO_map]
              exact mapMO_pure (fun p : Nat × Operand => (p.1 * s, s, ev P.globals.size t p.2)) _
            refine ⟨_, _, ?_, h4⟩
            rw [fl_fillA (fun i => some (i * s, s)) _ _ z l2 hq h1]
            simp only [h3]
            rfl
          · cases h
      · cases h
    · cases h
  case insert ty m q v =>
    unfold opK at h
    simp only at h
    show ∃ v' H', (mapUpd P ty (ev P.globals.size t m) (ev P.globals.size t q) (ev P.globals.size t v) H).map (fun H => (undefA, H)) = some (v', H') ∧ _
    split at h
    · rename_i kt el hu
      split at h
      · rename_i K hk
        obtain ⟨H', h1, h2⟩ := B1_some h
        exact ⟨_, H', by rw [mup_ok hu hk h1]; rfl, h2⟩
      · obtain ⟨H', h1, h2⟩ := B1_some h
        exact ⟨_, H', by rw [h1]; rfl, h2⟩
    · cases h
  case mapUpdate ty m q v =>
    unfold opK at h
    simp only at h
    show ∃ v' H', (mapUpd P ty (ev P.globals.size t m) (ev P.globals.size t q) (ev P.globals.size t v) H).map (fun H => (undefA, H)) = some (v', H') ∧ _
    split at h
    · rename_i kt el hu
      split at h
      · rename_i K hk
        obtain ⟨H', h1, h2⟩ := B1_some h
        exact ⟨_, H', by rw [mup_ok hu hk h1]; rfl, h2⟩
      · obtain ⟨H', h1, h2⟩ := B1_some h
        exact ⟨_, H', by rw [h1]; rfl, h2⟩
    · cases h
  case load ty a =>
    unfold opK at h
    simp only at h
    show ∃ v H', (loadV P H ty (ev P.globals.size t a)).map (fun v => (v, H)) = some (v, H') ∧ _
    split at h
    · rename_i n ha hs
      obtain ⟨v, h1, h2⟩ := B1_some h
      refine ⟨v, H, ?_, h2⟩
      unfold lda at h1
      split at h1
      · rename_i i off hx
        rw [hx]
        unfold loadV
        simp only [ha, hs, Option.bind_eq_bind, Option.bind_some, if_true]
        cases hc : cellsAt H i off n with
        | none => rw [hc] at h1; cases h1
        | some l => rw [hc] at h1; cases h1; rfl
      · cases h1
    · rename_i q ha hs
      obtain ⟨v, h1, h2⟩ := B1_some h
      refine ⟨v, H, ?_, h2⟩
      unfold ld at h1
      split at h1
      · rename_i i off hx
        rw [hx]
        unfold loadV
        simp only [hs, Option.bind_eq_bind, Option.bind_some, Bool.false_eq_true, if_false, h1]
        rfl
      · cases h1
    · cases h
  case store ty a v =>
    unfold opK at h
    simp only at h
    show ∃ v' H', (storeV P H ty (ev P.globals.size t a) (ev P.globals.size t v)).map (fun H => (undefA, H)) = some (v', H') ∧ _
    split at h
    · rename_i n hs
      obtain ⟨H', h1, h2⟩ := B1_some h
      refine ⟨_, H', ?_, h2⟩
      unfold st at h1
      split at h1
      · rename_i i off hx
        rw [hx]
        unfold storeV
        split at h1
        · rename_i cs hcs
          simp only [hcs, hs, Option.bind_eq_bind, Option.bind_some]
          cases hb : Nat.beq n cs.length with
          | false => rw [hb] at h1; cases h1
          | true =>
            rw [hb] at h1
            have := Nat.eq_of_beq_eq_true hb
            subst this
            simp only [cond_true] at h1
            simp [h1]
        · cases h1
      · cases h1
    · cases h
  case nilCheck x =>
    obtain ⟨v, h1, h2⟩ := B1_some h
    exact ⟨v, H, by show (nilA _).map _ = _; rw [h1]; rfl, h2⟩
  case binOp op ty x y ty2 =>
    obtain ⟨v, h1, h2⟩ := binK_ok h
    exact ⟨v, H, h1, h2⟩
  case unOp op ty x =>
    obtain ⟨v, h1, h2⟩ := B1_some h
    exact ⟨v, H, by show (unA op _).map _ = _; rw [h1]; rfl, h2⟩
  case convert a b x => exact convK_ok h
  case makeInterface ty x =>
    unfold opK at h
    simp only at h
    split at h
    · rename_i v hv
      exact ⟨v, H, by show (ifaceA P ty _).map _ = _; rw [hv]; rfl, h⟩
    · cases h
  case makeFunc fn a b =>
    unfold opK at h
    simp only at h
    split at h
    · rename_i v hv
      exact ⟨v, H, by show (funcA fn _ _).map _ = _; rw [hv]; rfl, h⟩
    · cases h
  case makeMap ty x =>
    cases x with
    | some y => cases h
    | none =>
      have h0 : BN (mk0 H) (fun i H => k (.map i) H) = some r := h
      obtain ⟨i, H2, h1, h2⟩ := BN_some h0
      refine ⟨_, _, ?_, h2⟩
      show (alloc H (.map [] 0)).map (fun r : Nat × Hp => (AV.map r.1, r.2)) = _
      unfold mk0 at h1
      rw [h1]; rfl
  case makeSlice ty l c =>
    unfold opK at h
    simp only at h
    show ∃ v H', makeSliceA P ty (ev P.globals.size t l) (ev P.globals.size t c) H = some (v, H') ∧ _
    split at h
    · rename_i el hu
      split at h
      · rename_i s z hs hz
        cases hb : (Nat.ble (P.bytesOf el) 4096 && Nat.beq z.length s) with
        | false => rw [hb] at h; cases h
        | true =>
          rw [hb] at h
          simp only [cond_true] at h
          simp only [Bool.and_eq_true, Nat.ble_eq, Nat.beq_eq] at hb
          obtain ⟨v, H', h1, h2⟩ := B2_some h
          refine ⟨v, H', ?_, h2⟩
          unfold mks at h1
          split at h1
          · rename_i k1 n k2 m hl hc
            rw [hl, hc]
            unfold makeSliceA
            rw [hu]
            simp only [hs]
            split at h1
            · rename_i hcond
              rw [if_pos ⟨hcond.1, hcond.2.1, hcond.2.2, hb.1⟩]
              have hr : rowZ P el s m.toNat = some (rep m.toNat z) := by
                unfold rowZ
                cases h0 : Nat.beq (m.toNat * s) 0 with
                | true =>
                  have h0' := Nat.eq_of_beq_eq_true h0
                  have : rep m.toNat z = [] := by
                    unfold rep
                    rcases Nat.mul_eq_zero.1 h0' with q | q
                    · rw [q]; rfl
                    · have : z = [] := List.eq_nil_of_length_eq_zero (by rw [hb.2, q])
                      rw [this]; simp
                  rw [this]; rfl
                | false =>
                  simp only [cond_false, hz]
                  rw [hb.2, Nat.beq_refl]; rfl
              rw [hr]
              simp only
              cases hn : newCells H (rep m.toNat z) el 0 with
              | none => rw [hn] at h1; cases h1
              | some q => rw [hn] at h1; exact h1
            · cases h1
          · cases h1
      · cases h
    · cases h
  case slice ty x lo hi mx =>
    obtain ⟨v, h1, h2⟩ := sliceK_ok h
    exact ⟨v, H, by show (sliceA P ty _ _ _ _ H).map _ = _; rw [h1]; rfl, h2⟩
  case fieldAddr ty x f =>
    unfold opK at h
    simp only at h
    show ∃ v H', (fieldAddrA P ty (ev P.globals.size t x) f).map (fun v => (v, H)) = some (v, H') ∧ _
    split at h
    · rename_i off ho
      obtain ⟨v, h1, h2⟩ := B1_some h
      refine ⟨v, H, ?_, h2⟩
      unfold fa at h1
      split at h1
      · rename_i i o hx
        rw [hx]
        cases h1
        unfold fOff at ho
        unfold fieldAddrA
        split at ho
        · rename_i fs hu
          rw [hu]
          simp only
          split at ho
          · rename_i fd hfd
            rw [hfd]
            simp only
            cases hp : posSz P fd.type with
            | false => rw [hp] at ho; cases ho
            | true => rw [hp] at ho; cases ho; rfl
          · cases ho
        · cases ho
      · cases h1
    · cases h
  case field ty x f =>
    unfold opK at h
    simp only at h
    show ∃ v H', (fieldA P ty (ev P.globals.size t x) f).map (fun v => (v, H)) = some (v, H') ∧ _
    split at h
    · rename_i fs hu
      split at h
      · rename_i d hd
        split at h
        · rename_i n ha hs
          obtain ⟨v, h1, h2⟩ := B1_some h
          refine ⟨v, H, ?_, h2⟩
          unfold fda at h1
          split at h1
          · rename_i cs hx
            rw [hx]
            unfold fieldA
            rw [hu]
            simp only [hd]
            unfold partA
            simp only [ha, hs, Option.bind_eq_bind, Option.bind_some, if_true]
            cases hb : Nat.ble (d.offset + n) cs.length with
            | false => rw [hb] at h1; cases h1
            | true => rw [hb] at h1; cases h1; rfl
          · cases h1
        · rename_i q ha hs
          obtain ⟨v, h1, h2⟩ := B1_some h
          refine ⟨v, H, ?_, h2⟩
          unfold fd at h1
          split at h1
          · rename_i cs hx
            rw [hx]
            unfold fieldA
            rw [hu]
            simp only [hd]
            unfold partA
            simp only [hs, Option.bind_eq_bind, Option.bind_some, Bool.false_eq_true, if_false, h1]
            rfl
          · cases h1
        · cases h
      · cases h
    · cases h
  case indexAddr ty x ix =>
    unfold opK at h
    simp only at h
    show ∃ v H', (indexAddrA P ty (ev P.globals.size t x) (ev P.globals.size t ix)).map (fun v => (v, H)) = some (v, H') ∧ _
    split at h
    · rename_i el hu
      split at h
      · rename_i s hs
        obtain ⟨v, h1, h2⟩ := B1_some h
        refine ⟨v, H, ?_, h2⟩
        unfold ia at h1
        split at h1
        · rename_i i off len c e es q kk hx hix
          rw [hx, hix]
          unfold indexAddrA
          simp only [hu, Option.bind_eq_bind, Option.bind_some, hs]
          split at h1
          · rename_i hc
            obtain ⟨rfl, c1, c2⟩ := hc
            cases h1
            simp [c1, c2]
          · cases h1
        · cases h1
      · cases h
    · rename_i n el hu
      split at h
      · rename_i s hs
        obtain ⟨v, h1, h2⟩ := B1_some h
        refine ⟨v, H, ?_, h2⟩
        unfold iar at h1
        split at h1
        · rename_i i off q kk hx hix
          rw [hx, hix]
          unfold indexAddrA
          simp only [hu, Option.bind_eq_bind, Option.bind_some, hs]
          split at h1
          · rename_i hc
            obtain ⟨c1, c2⟩ := hc
            cases h1
            simp [c1, c2]
          · cases h1
        · cases h1
      · cases h
    · cases h
  case index ty x ix =>
    unfold opK at h
    simp only at h
    show ∃ v H', (indexA P ty (ev P.globals.size t x) (ev P.globals.size t ix)).map (fun v => (v, H)) = some (v, H') ∧ _
    split at h
    · rename_i hu
      obtain ⟨v, h1, h2⟩ := B1_some h
      refine ⟨v, H, ?_, h2⟩
      unfold ixs at h1
      split at h1
      · rename_i s q kk hx hix
        rw [hx, hix]
        unfold indexA
        simp only [hu, Option.bind_eq_bind, Option.bind_some, h1]
        rfl
      · cases h1
    · obtain ⟨v, h1, h2⟩ := B1_some h
      exact ⟨v, H, by rw [h1]; rfl, h2⟩
  case lookup ty x q ok =>
    unfold opK at h
    simp only at h
    show ∃ v H', (lookupA P ty (ev P.globals.size t x) (ev P.globals.size t q) ok H).map (fun v => (v, H)) = some (v, H') ∧ _
    split at h
    · rename_i kt el hu
      split at h
      · rename_i K z hk hz
        obtain ⟨v, h1, h2⟩ := B1_some h
        exact ⟨v, H, by rw [lkp_ok hu hk hz h1]; rfl, h2⟩
      · obtain ⟨v, h1, h2⟩ := B1_some h
        exact ⟨v, H, by rw [h1]; rfl, h2⟩
    · cases h
  case range ty x => exact B2_some h
  case next it s => exact B2_some h
  case entry it =>
    obtain ⟨v, h1, h2⟩ := B1_some h
    exact ⟨v, H, by show (entryA _ H).map _ = _; rw [h1]; rfl, h2⟩
  case extract tp i =>
    obtain ⟨v, h1, h2⟩ := B1_some h
    refine ⟨v, H, ?_, h2⟩
    show (match ev P.globals.size t tp with | .tuple l => (l[i]?).map fun v => (v, H) | _ => none) = _
    unfold ex at h1
    split at h1
    · rename_i l hl; first | (rw [hl]; simp only [h1]; rfl) | (simp only [h1]; rfl)
    · cases h1
  case typeAssert x a asT ok =>
    unfold opK at h
    simp only at h
    show ∃ v H', (assertA P asT (ev P.globals.size t x) ok).map (fun v => (v, H)) = some (v, H') ∧ _
    split at h
    · cases h
    · rename_i d hne hu
      obtain ⟨v, h1, h2⟩ := B1_some h
      refine ⟨v, H, ?_, h2⟩
      unfold ta at h1
      split at h1
      · rename_i u w hx
        rw [hx]
        unfold assertA
        split at h1
        · rename_i he
          cases h1
          cases d <;> first | (exact absurd rfl (hne _)) | (rw [hu]; simp only [he, if_true]; rfl)
        · cases h1
      · cases h1
    · cases h
  case call c =>
    obtain ⟨callee, args, tys⟩ := c
    cases callee with
    | value f => exact B2_some h
    | invoke r m => cases h
    | builtin b => exact callB_ok h
  all_goals cases h
end K
end Go.Proofs.YtlomlkoimmpemaaGreatDoor.Am
