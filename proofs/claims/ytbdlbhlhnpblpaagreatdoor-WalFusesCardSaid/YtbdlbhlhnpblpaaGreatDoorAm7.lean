/- Laws that the proof uses. -/
import Derived.Test.YtbdlbhlhnpblpaaGreatDoorAm6
set_option linter.unusedVariables false
set_option linter.unusedSimpArgs false
namespace Go.Proofs.YtbdlbhlhnpblpaaGreatDoor.Am
section
section
section
namespace F
noncomputable section
abbrev R:=Option (AV × Hp)
def oE {α β:Type}(f:α->Option β)(o:Option α):Option β:=Option.rec none f o
def oP (H:Hp)(o:Option AV):R:=Option.rec none (fun v=>some (v,H)) o
theorem ru {α β:Type}(f:α->Option β)(o:Option α):oE f o=o.bind f:=by cases o<;>rfl
theorem adg (H:Hp)(o:Option AV):oP H o=o.map fun v=>(v,H):=by cases o<;>rfl
section
variable {α:Type}
def Gs (ih:Nat->Pa)(n:Nat):Pa:=Bool.rec (Bool.rec (Bool.rec (.d (ih (Nat.div n 4))) (.c (ih (Nat.div n 4))) (Nat.beq (Nat.mod n 4) 2)) (.b (ih (Nat.div n 4))) (Nat.beq (Nat.mod n 4) 1)) (.a (ih (Nat.div n 4))) (Nat.beq (Nat.mod n 4) 0)
def S6 (ih:Nat->Pa)(n:Nat):Pa:=Bool.rec (Gs ih (Nat.sub n 1)) .e (Nat.beq n 0)
def pM (f:Nat):Nat->Pa:=Nat.rec (motive:=fun _=>Nat->Pa) (fun _ => .e) (fun _ ih=>S6 ih) f
def pathOf (n:Nat):Pa:=pM (Nat.succ n) n
theorem Yc:∀ (f n:Nat),pM f n=Am.pM f n
 | 0,n=>rfl
 | f+1,n=>by
  show S6 (pM f) n=_
  unfold S6 Gs
  rw[Am.pM,Yc f]
  show @Bool.rec (fun _=>Pa) (@Bool.rec (fun _=>Pa) (@Bool.rec (fun _=>Pa) (@Bool.rec (fun _=>Pa) _ _ (Nat.beq ((n-1) % 4) 2)) _ (Nat.beq ((n-1) % 4) 1)) _ (Nat.beq ((n-1) % 4) 0)) _ (Nat.beq n 0)=_
  cases Nat.beq n 0<;>cases Nat.beq ((n-1) % 4) 0<;>cases Nat.beq ((n-1) % 4) 1<;>cases Nat.beq ((n-1) % 4) 2<;>rfl
theorem ZP (n:Nat):pathOf n=Am.pathOf n:=Yc (n+1) n
def val (t:Tr α):Option α:=Tr.rec none (fun v _ _ _ _ _ _ _ _=>v) t
def g0 (ih:Tr α->Option α):Option α:=none
def ga1 (v:Option α)(k0 k1 k2 k3:Tr α)(_ _ _ _:(Tr α->Option α)->Option α)(ih:Tr α->Option α):Option α:=ih k0
def ga (ih:Tr α->Option α)(t:Tr α):Option α:=Tr.rec (motive:=fun _=>(Tr α->Option α)->Option α) g0 ga1 t ih
def gb1 (v:Option α)(k0 k1 k2 k3:Tr α)(_ _ _ _:(Tr α->Option α)->Option α)(ih:Tr α->Option α):Option α:=ih k1
def gb (ih:Tr α->Option α)(t:Tr α):Option α:=Tr.rec (motive:=fun _=>(Tr α->Option α)->Option α) g0 gb1 t ih
def gc1 (v:Option α)(k0 k1 k2 k3:Tr α)(_ _ _ _:(Tr α->Option α)->Option α)(ih:Tr α->Option α):Option α:=ih k2
def gc (ih:Tr α->Option α)(t:Tr α):Option α:=Tr.rec (motive:=fun _=>(Tr α->Option α)->Option α) g0 gc1 t ih
def gd1 (v:Option α)(k0 k1 k2 k3:Tr α)(_ _ _ _:(Tr α->Option α)->Option α)(ih:Tr α->Option α):Option α:=ih k3
def gd (ih:Tr α->Option α)(t:Tr α):Option α:=Tr.rec (motive:=fun _=>(Tr α->Option α)->Option α) g0 gd1 t ih
def jx (p:Pa):Tr α->Option α:=Pa.rec (motive:=fun _=>Tr α->Option α) val (fun _ ih=>ga ih) (fun _ ih=>gb ih) (fun _ ih=>gc ih) (fun _ ih=>gd ih) p
theorem GK:∀ (p:Pa) (t:Tr α),jx p t=Tr.jx p t
 | .e,t=>by cases t<;>rfl
 | .a p,t=>by
  show ga (jx p) t=_
  cases t with
  | nil=>exact (Tr.ql p).symm
  | node v k0 k1 k2 k3=>exact GK p k0
 | .b p,t=>by
  show gb (jx p) t=_
  cases t with
  | nil=>exact (Tr.ql p).symm
  | node v k0 k1 k2 k3=>exact GK p k1
 | .c p,t=>by
  show gc (jx p) t=_
  cases t with
  | nil=>exact (Tr.ql p).symm
  | node v k0 k1 k2 k3=>exact GK p k2
 | .d p,t=>by
  show gd (jx p) t=_
  cases t with
  | nil=>exact (Tr.ql p).symm
  | node v k0 k1 k2 k3=>exact GK p k3
def get (t:Tr α)(n:Nat):Option α:=jx (pathOf n) t
theorem get_eq (t:Tr α):get t=t.get:=by
 funext n
 unfold get
 rw[GK,ZP];rfl
abbrev PK (α:Type):=Option α->Tr α->Tr α
def OW (x:Option α):Tr α := .node x .nil .nil .nil .nil
def pe1 (v:Option α)(k0 k1 k2 k3:Tr α)(_ _ _ _:Option α->Tr α)(x:Option α):Tr α := .node x k0 k1 k2 k3
def pe (x:Option α)(t:Tr α):Tr α:=Tr.rec (motive:=fun _=>Option α->Tr α) OW pe1 t x
def Ly (ih:PK α)(x:Option α):Tr α := .node none (ih x .nil) .nil .nil .nil
def QO (v:Option α)(k0 k1 k2 k3:Tr α)(_ _ _ _:PK α->Option α->Tr α)(ih:PK α)(x:Option α):Tr α := .node v (ih x k0) k1 k2 k3
def pa (ih:PK α)(x:Option α)(t:Tr α):Tr α:=Tr.rec (motive:=fun _=>PK α->Option α->Tr α) Ly QO t ih x
def Lr (ih:PK α)(x:Option α):Tr α := .node none .nil (ih x .nil) .nil .nil
def Rv (v:Option α)(k0 k1 k2 k3:Tr α)(_ _ _ _:PK α->Option α->Tr α)(ih:PK α)(x:Option α):Tr α := .node v k0 (ih x k1) k2 k3
def pb (ih:PK α)(x:Option α)(t:Tr α):Tr α:=Tr.rec (motive:=fun _=>PK α->Option α->Tr α) Lr Rv t ih x
def Nb (ih:PK α)(x:Option α):Tr α := .node none .nil .nil (ih x .nil) .nil
def Sh (v:Option α)(k0 k1 k2 k3:Tr α)(_ _ _ _:PK α->Option α->Tr α)(ih:PK α)(x:Option α):Tr α := .node v k0 k1 (ih x k2) k3
def pc (ih:PK α)(x:Option α)(t:Tr α):Tr α:=Tr.rec (motive:=fun _=>PK α->Option α->Tr α) Nb Sh t ih x
def QF (ih:PK α)(x:Option α):Tr α := .node none .nil .nil .nil (ih x .nil)
def S8 (v:Option α)(k0 k1 k2 k3:Tr α)(_ _ _ _:PK α->Option α->Tr α)(ih:PK α)(x:Option α):Tr α := .node v k0 k1 k2 (ih x k3)
def pd (ih:PK α)(x:Option α)(t:Tr α):Tr α:=Tr.rec (motive:=fun _=>PK α->Option α->Tr α) QF S8 t ih x
def fJ (p:Pa):Option α->Tr α->Tr α:=Pa.rec (motive:=fun _=>Option α->Tr α->Tr α) pe (fun _ ih=>pa ih) (fun _ ih=>pb ih) (fun _ ih=>pc ih) (fun _ ih=>pd ih) p
theorem uZ:∀ (p:Pa) (x:Option α) (t:Tr α),fJ p x t=Tr.fJ p x t
 | .e,x,t=>by cases t<;>rfl
 | .a p,x,t=>by
  show pa (fJ p) x t=_
  cases t with
  | nil=>
   show Ly (fJ p) x=_
   unfold Ly
   rw[uZ p];rfl
  | node v k0 k1 k2 k3=>
   show QO v k0 k1 k2 k3 (fun _ _=>k0) (fun _ _=>k1) (fun _ _=>k2) (fun _ _=>k3) (fJ p) x=_
   unfold QO
   rw[uZ p];rfl
 | .b p,x,t=>by
  show pb (fJ p) x t=_
  cases t with
  | nil=>
   show Lr (fJ p) x=_
   unfold Lr
   rw[uZ p];rfl
  | node v k0 k1 k2 k3=>
   show Rv v k0 k1 k2 k3 (fun _ _=>k0) (fun _ _=>k1) (fun _ _=>k2) (fun _ _=>k3) (fJ p) x=_
   unfold Rv
   rw[uZ p];rfl
 | .c p,x,t=>by
  show pc (fJ p) x t=_
  cases t with
  | nil=>
   show Nb (fJ p) x=_
   unfold Nb
   rw[uZ p];rfl
  | node v k0 k1 k2 k3=>
   show Sh v k0 k1 k2 k3 (fun _ _=>k0) (fun _ _=>k1) (fun _ _=>k2) (fun _ _=>k3) (fJ p) x=_
   unfold Sh
   rw[uZ p];rfl
 | .d p,x,t=>by
  show pd (fJ p) x t=_
  cases t with
  | nil=>
   show QF (fJ p) x=_
   unfold QF
   rw[uZ p];rfl
  | node v k0 k1 k2 k3=>
   show S8 v k0 k1 k2 k3 (fun _ _=>k0) (fun _ _=>k1) (fun _ _=>k2) (fun _ _=>k3) (fJ p) x=_
   unfold S8
   rw[uZ p];rfl
def put (f:Nat)(t:Tr α)(n:Nat)(x:α):Tr α:=fJ (pathOf n) (some x) t
theorem put_eq (f:Nat)(t:Tr α)(n:Nat)(x:α):put f t n x=Tr.put f t n x:=by
 unfold put
 rw[uZ,ZP];rfl
def cR (l:List α):Tr α->Nat->Tr α:=List.rec (motive:=fun _=>Tr α->Nat->Tr α) (fun t _=>t) (fun x _ ih t n=>ih (put 34 t n x) (Nat.add n 1)) l
theorem aas:∀ (l:List α) (t:Tr α) (n:Nat),cR l t n=t.cR n l
 | [],t,n=>rfl
 | x::l,t,n=>by
  show cR l (put 34 t n x) (n+1)=_
  rw[aas l,put_eq];rfl
end
def HQ {α β:Type}(f:α->β)(l:List α):List β:=List.rec [] (fun a _ ih=>f a::ih) l
theorem Uw {α β:Type}(f:α->β)(l:List α):HQ f l=l.map f:=by
 induction l with
 | nil=>rfl
 | cons a l ih=>show f a::HQ f l=_;rw[ih];rfl
def lW (a b:Bool):Bool:=Bool.rec false b a
theorem pA (a b:Bool):lW a b=(a&&b):=by cases a<;>rfl
def BV {β:Type}(f:Nat->Nat->Option β)(a:AV):Option β:=match a with | .ptr i o=>f i o | _=>none
def Yb (off:Nat)(o:AO):Option AV:=match o with | .cells c lo hi _ _=>Bool.rec none (Bool.rec none (get c off) (Nat.blt off hi)) (Nat.ble lo off) | _=>none
def cellAt (H:Hp)(i off:Nat):Option AV:=oE (Yb off) (get H.1 i)
theorem yv (H:Hp)(i off:Nat):cellAt H i off=Am.cellAt H i off:=by
 unfold cellAt Am.cellAt
 rw[get_eq,ru]
 cases H.h.get i with
 | none=>rfl
 | some o=>
  cases o with
  | cells c lo hi el fl=>
   simp only[ach,Yb,get_eq]
   cases Nat.ble lo off<;>cases Nat.blt off hi<;>rfl
  | _=>rfl
def lP {α:Type}(l:List α):Nat:=List.rec 0 (fun _ _ ih=>Nat.succ ih) l
theorem rz {α:Type}(l:List α):lP l=l.length:=by
 induction l with
 | nil=>rfl
 | cons a l ih=>show Nat.succ (lP l)=_;rw[ih];rfl
def small (k:IntKind)(n:Nat):Bool:=IntKind.rec (Nat.blt n 128) (Nat.blt n 32768) (Nat.blt n 2147483648) (Nat.blt n 9223372036854775808) (Nat.blt n 256) (Nat.blt n 65536) (Nat.blt n 4294967296) (Nat.blt n 18446744073709551616) k
theorem wrap_small (k:IntKind)(n:Nat)(h:small k n=true):k.wrap (Int.ofNat n)=Int.ofNat n:=by
 have hn:(Int.ofNat n)=(n:Int):=rfl
 rw[hn]
 cases k<;>simp only[small,acY] at h
 ·exact IntWalk.i8_in _ (by omega)
 ·exact IntWalk.i16_in _ (by omega)
 ·exact IntWalk.i32_in _ (by omega)
 ·exact IntWalk.i64_in _ (by omega)
 ·exact IntWalk.u8_in _ (by omega)
 ·exact IntWalk.u16_in _ (by omega)
 ·exact IntWalk.u32_in _ (by omega)
 ·exact IntWalk.u64_in _ (by omega)
def tu {β:Type}(f:Nat->β)(n:Nat):β:=Nat.rec (f 0) (fun m _=>f (Nat.succ m)) n
theorem Cb {β:Type}(f:Nat->β)(n:Nat):tu f n=f n:=by cases n<;>rfl
def mkInt (k:IntKind)(n:Nat):Option AV:=some (.int k (.ofNat n))
def mkNeg (k:IntKind)(n:Nat):Option AV:=some (.int k (.negSucc n))
def mkI (k:IntKind)(z:Int):Option AV:=Int.rec (tu (mkInt k)) (tu (mkNeg k)) z
theorem ah1 (k:IntKind)(z:Int):mkI k z=some (.int k z):=by
 cases z with
 | ofNat n=>show tu (mkInt k) n=_;rw[Cb];rfl
 | negSucc n=>show tu (mkNeg k) n=_;rw[Cb];rfl
def Cj (k:IntKind)(z:Int):Option AV:=mkI k (k.wrap z)
theorem Jq (k:IntKind)(z:Int):Cj k z=some (.int k (k.wrap z)):=ah1 _ _
def Eo (k:IntKind)(n:Nat):Option AV:=Bool.rec (Cj k (.ofNat n)) (tu (mkInt k) n) (small k n)
theorem al7 (k:IntKind)(n:Nat):Eo k n=some (.int k (k.wrap (.ofNat n))):=by
 unfold Eo
 cases h:small k n with
 | false=>exact Jq _ _
 | true=>show tu (mkInt k) n=_;rw[Cb,wrap_small k n h];rfl
def XE (k:IntKind):Nat:=IntKind.rec 0 1 2 3 4 5 6 7 k
def MN (j k:IntKind):Bool:=Nat.beq (XE j) (XE k)
theorem akn (j k:IntKind):MN j k=decide (j=k):=by cases j<;>cases k<;>rfl
def Yy (k:IntKind)(a b:Int):Option AV:=Int.rec (fun m=>Int.rec (fun n=>Bool.rec (Cj k (Int.sub (.ofNat m) (.ofNat n))) (Eo k (Nat.sub m n)) (Nat.ble n m)) (fun n=>Cj k (Int.sub (.ofNat m) (.negSucc n))) b) (fun m=>Cj k (Int.sub (.negSucc m) b)) a
theorem VE (k:IntKind)(a b:Int):Yy k a b=some (.int k (k.wrap (a-b))):=by
 cases a with
 | ofNat m=>cases b with
  | ofNat n=>
   show @Bool.rec (fun _=>_) (Cj k (Int.sub (.ofNat m) (.ofNat n))) (Eo k (Nat.sub m n)) (Nat.ble n m)=_
   cases h:Nat.ble n m with
   | false=>exact Jq _ _
   | true=>
    show Eo k (m-n)=_
    rw[al7]
    have h':=Nat.le_of_ble_eq_true h
    have:(Int.ofNat (m-n))=Int.ofNat m-Int.ofNat n:=by
     show ((m-n:Nat):Int)=(m:Int)-(n:Int)
     omega
    rw[this]
  | negSucc n=>exact Jq _ _
 | negSucc m=>exact Jq _ _
def J8 (x:List Nat):List Nat->Bool:=List.rec (motive:=fun _=>List Nat->Bool) (fun y=>List.rec true (fun _ _ _=>false) y) (fun a _ ih y=>List.rec false (fun b y' _=>Bool.rec false (ih y') (Nat.beq a b)) y) x
theorem Vh:∀ x y:List Nat,J8 x y=(x==y)
 | [],[]=>rfl
 | [],b::y=>rfl
 | a::x,[]=>rfl
 | a::x,b::y=>by
  show @Bool.rec (fun _=>_) false (J8 x y) (Nat.beq a b)=_
  rw[Vh x y]
  by_cases h:a=b
  ·subst h;rw[qt]
   rw[Bool.eq_iff_iff];simp
  ·rw[lY h]
   rw[eq_comm,Bool.eq_false_iff];simp[h]
end
end F
end
namespace F
noncomputable section
def NZ (h:Tr AO)(l:List AV)(el:TypeId)(fl:Nat)(f:Nat->AV)(n:Nat):R:=some (f n,⟨put 34 h n (.cells (cR l .nil 0) 0 (lP l) el fl),Nat.succ n⟩)
def Gg (H:Hp)(el:TypeId)(fl:Nat)(f:Nat->AV)(l:List AV):R:=Bool.rec none (tu (NZ H.1 l el fl f) H.2) (Nat.ble (lP l) 16777216)
theorem Yu (H:Hp)(el:TypeId)(fl:Nat)(f:Nat->AV)(l:List AV):Gg H el fl f l=(cP H l el fl).map fun r=>(f r.1,r.2):=by
 unfold Gg cP alloc
 rw[rz,Cb]
 cases Nat.ble l.length 16777216 with
 | false=>rfl
 | true=>
  show NZ H.1 l el fl f H.2=_
  unfold NZ
  rw[put_eq,aas,rz]
  rfl
end
end F
end
namespace F
noncomputable section
end
end F
end
namespace F
noncomputable section
end
end F
end Go.Proofs.YtbdlbhlhnpblpaaGreatDoor.Am
