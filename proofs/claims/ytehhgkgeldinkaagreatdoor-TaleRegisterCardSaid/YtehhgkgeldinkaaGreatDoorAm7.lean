/- Laws that the proof uses. -/
import Derived.Test.YtehhgkgeldinkaaGreatDoorAm6
set_option linter.unusedVariables false
set_option linter.unusedSimpArgs false
namespace Go.Proofs.YtehhgkgeldinkaaGreatDoor.Am
section
section
section
namespace F
noncomputable section
abbrev R:=Option (AV × Hp)
def oE {α β:Type}(f:α->Option β)(o:Option α):Option β:=Option.rec none f o
def oP (H:Hp)(o:Option AV):R:=Option.rec none (fun v=>some (v,H)) o
theorem tV {α β:Type}(f:α->Option β)(o:Option α):oE f o=o.bind f:=by cases o<;>rfl
theorem aer (H:Hp)(o:Option AV):oP H o=o.map fun v=>(v,H):=by cases o<;>rfl
section
variable {α:Type}
def G9 (ih:Nat->Pa)(n:Nat):Pa:=Bool.rec (Bool.rec (Bool.rec (.d (ih (Nat.div n 4))) (.c (ih (Nat.div n 4))) (Nat.beq (Nat.mod n 4) 2)) (.b (ih (Nat.div n 4))) (Nat.beq (Nat.mod n 4) 1)) (.a (ih (Nat.div n 4))) (Nat.beq (Nat.mod n 4) 0)
def Td (ih:Nat->Pa)(n:Nat):Pa:=Bool.rec (G9 ih (Nat.sub n 1)) .e (Nat.beq n 0)
def sr (f:Nat):Nat->Pa:=Nat.rec (motive:=fun _=>Nat->Pa) (fun _ => .e) (fun _ ih=>Td ih) f
def pathOf (n:Nat):Pa:=sr (Nat.succ n) n
theorem Yo:∀ (f n:Nat),sr f n=Am.sr f n
 | 0,n=>rfl
 | f+1,n=>by
  show Td (sr f) n=_
  unfold Td G9
  rw[Am.sr,Yo f]
  show @Bool.rec (fun _=>Pa) (@Bool.rec (fun _=>Pa) (@Bool.rec (fun _=>Pa) (@Bool.rec (fun _=>Pa) _ _ (Nat.beq ((n-1) % 4) 2)) _ (Nat.beq ((n-1) % 4) 1)) _ (Nat.beq ((n-1) % 4) 0)) _ (Nat.beq n 0)=_
  cases Nat.beq n 0<;>cases Nat.beq ((n-1) % 4) 0<;>cases Nat.beq ((n-1) % 4) 1<;>cases Nat.beq ((n-1) % 4) 2<;>rfl
theorem aaf (n:Nat):pathOf n=Am.pathOf n:=Yo (n+1) n
def val (t:Tr α):Option α:=Tr.rec none (fun v _ _ _ _ _ _ _ _=>v) t
def g0 (ih:Tr α->Option α):Option α:=none
def ga1 (v:Option α)(k0 k1 k2 k3:Tr α)(_ _ _ _:(Tr α->Option α)->Option α)(ih:Tr α->Option α):Option α:=ih k0
def ga (ih:Tr α->Option α)(t:Tr α):Option α:=Tr.rec (motive:=fun _=>(Tr α->Option α)->Option α) g0 ga1 t ih
def gb1 (v:Option α)(k0 k1 k2 k3:Tr α)(_ _ _ _:(Tr α->Option α)->Option α)(ih:Tr α->Option α):Option α:=ih k1
def gb (ih:Tr α->Option α)(t:Tr α):Option α:=Tr.rec (motive:=fun _=>(Tr α->Option α)->Option α) g0 gb1 t ih
def gc1 (v:Option α)(k0 k1 k2 k3:Tr α)(_ _ _ _:(Tr α->Option α)->Option α)(ih:Tr α->Option α):Option α:=ih k2
def gc (ih:Tr α->Option α)(t:Tr α):Option α:=Tr.rec (motive:=fun _=>(Tr α->Option α)->Option α) g0 gc1 t ih
def gd1 (v:Option α)(k0 k1 k2 k3:Tr α)(_ _ _ _:(Tr α->Option α)->Option α)(ih:Tr α->Option α):Option α:=ih k3
def gd (ih:Tr α->Option α)(t:Tr α):Option α:=Tr.rec (motive:=fun _=>(Tr α->Option α)->Option α) g0 gd1 t ih
def lF (p:Pa):Tr α->Option α:=Pa.rec (motive:=fun _=>Tr α->Option α) val (fun _ ih=>ga ih) (fun _ ih=>gb ih) (fun _ ih=>gc ih) (fun _ ih=>gd ih) p
theorem Hs:∀ (p:Pa) (t:Tr α),lF p t=Tr.lF p t
 | .e,t=>by cases t<;>rfl
 | .a p,t=>by
  show ga (lF p) t=_
  cases t with
  | nil=>exact (Tr.sW p).symm
  | node v k0 k1 k2 k3=>exact Hs p k0
 | .b p,t=>by
  show gb (lF p) t=_
  cases t with
  | nil=>exact (Tr.sW p).symm
  | node v k0 k1 k2 k3=>exact Hs p k1
 | .c p,t=>by
  show gc (lF p) t=_
  cases t with
  | nil=>exact (Tr.sW p).symm
  | node v k0 k1 k2 k3=>exact Hs p k2
 | .d p,t=>by
  show gd (lF p) t=_
  cases t with
  | nil=>exact (Tr.sW p).symm
  | node v k0 k1 k2 k3=>exact Hs p k3
def get (t:Tr α)(n:Nat):Option α:=lF (pathOf n) t
theorem get_eq (t:Tr α):get t=t.get:=by
 funext n
 unfold get
 rw[Hs,aaf];rfl
abbrev PK (α:Type):=Option α->Tr α->Tr α
def Pn (x:Option α):Tr α := .node x .nil .nil .nil .nil
def pe1 (v:Option α)(k0 k1 k2 k3:Tr α)(_ _ _ _:Option α->Tr α)(x:Option α):Tr α := .node x k0 k1 k2 k3
def pe (x:Option α)(t:Tr α):Tr α:=Tr.rec (motive:=fun _=>Option α->Tr α) Pn pe1 t x
def MH (ih:PK α)(x:Option α):Tr α := .node none (ih x .nil) .nil .nil .nil
def Ra (v:Option α)(k0 k1 k2 k3:Tr α)(_ _ _ _:PK α->Option α->Tr α)(ih:PK α)(x:Option α):Tr α := .node v (ih x k0) k1 k2 k3
def pa (ih:PK α)(x:Option α)(t:Tr α):Tr α:=Tr.rec (motive:=fun _=>PK α->Option α->Tr α) MH Ra t ih x
def Mx (ih:PK α)(x:Option α):Tr α := .node none .nil (ih x .nil) .nil .nil
def RZ (v:Option α)(k0 k1 k2 k3:Tr α)(_ _ _ _:PK α->Option α->Tr α)(ih:PK α)(x:Option α):Tr α := .node v k0 (ih x k1) k2 k3
def pb (ih:PK α)(x:Option α)(t:Tr α):Tr α:=Tr.rec (motive:=fun _=>PK α->Option α->Tr α) Mx RZ t ih x
def N9 (ih:PK α)(x:Option α):Tr α := .node none .nil .nil (ih x .nil) .nil
def SE (v:Option α)(k0 k1 k2 k3:Tr α)(_ _ _ _:PK α->Option α->Tr α)(ih:PK α)(x:Option α):Tr α := .node v k0 k1 (ih x k2) k3
def pc (ih:PK α)(x:Option α)(t:Tr α):Tr α:=Tr.rec (motive:=fun _=>PK α->Option α->Tr α) N9 SE t ih x
def Q6 (ih:PK α)(x:Option α):Tr α := .node none .nil .nil .nil (ih x .nil)
def Tf (v:Option α)(k0 k1 k2 k3:Tr α)(_ _ _ _:PK α->Option α->Tr α)(ih:PK α)(x:Option α):Tr α := .node v k0 k1 k2 (ih x k3)
def pd (ih:PK α)(x:Option α)(t:Tr α):Tr α:=Tr.rec (motive:=fun _=>PK α->Option α->Tr α) Q6 Tf t ih x
def iq (p:Pa):Option α->Tr α->Tr α:=Pa.rec (motive:=fun _=>Option α->Tr α->Tr α) pe (fun _ ih=>pa ih) (fun _ ih=>pb ih) (fun _ ih=>pc ih) (fun _ ih=>pd ih) p
theorem xh:∀ (p:Pa) (x:Option α) (t:Tr α),iq p x t=Tr.iq p x t
 | .e,x,t=>by cases t<;>rfl
 | .a p,x,t=>by
  show pa (iq p) x t=_
  cases t with
  | nil=>
   show MH (iq p) x=_
   unfold MH
   rw[xh p];rfl
  | node v k0 k1 k2 k3=>
   show Ra v k0 k1 k2 k3 (fun _ _=>k0) (fun _ _=>k1) (fun _ _=>k2) (fun _ _=>k3) (iq p) x=_
   unfold Ra
   rw[xh p];rfl
 | .b p,x,t=>by
  show pb (iq p) x t=_
  cases t with
  | nil=>
   show Mx (iq p) x=_
   unfold Mx
   rw[xh p];rfl
  | node v k0 k1 k2 k3=>
   show RZ v k0 k1 k2 k3 (fun _ _=>k0) (fun _ _=>k1) (fun _ _=>k2) (fun _ _=>k3) (iq p) x=_
   unfold RZ
   rw[xh p];rfl
 | .c p,x,t=>by
  show pc (iq p) x t=_
  cases t with
  | nil=>
   show N9 (iq p) x=_
   unfold N9
   rw[xh p];rfl
  | node v k0 k1 k2 k3=>
   show SE v k0 k1 k2 k3 (fun _ _=>k0) (fun _ _=>k1) (fun _ _=>k2) (fun _ _=>k3) (iq p) x=_
   unfold SE
   rw[xh p];rfl
 | .d p,x,t=>by
  show pd (iq p) x t=_
  cases t with
  | nil=>
   show Q6 (iq p) x=_
   unfold Q6
   rw[xh p];rfl
  | node v k0 k1 k2 k3=>
   show Tf v k0 k1 k2 k3 (fun _ _=>k0) (fun _ _=>k1) (fun _ _=>k2) (fun _ _=>k3) (iq p) x=_
   unfold Tf
   rw[xh p];rfl
def put (f:Nat)(t:Tr α)(n:Nat)(x:α):Tr α:=iq (pathOf n) (some x) t
theorem put_eq (f:Nat)(t:Tr α)(n:Nat)(x:α):put f t n x=Tr.put f t n x:=by
 unfold put
 rw[xh,aaf];rfl
def dh (l:List α):Tr α->Nat->Tr α:=List.rec (motive:=fun _=>Tr α->Nat->Tr α) (fun t _=>t) (fun x _ ih t n=>ih (put 34 t n x) (Nat.add n 1)) l
theorem SQ:∀ (l:List α) (t:Tr α) (n:Nat),dh l t n=t.dh n l
 | [],t,n=>rfl
 | x::l,t,n=>by
  show dh l (put 34 t n x) (n+1)=_
  rw[SQ l,put_eq];rfl
end
def EV {α β:Type}(f:α->β)(l:List α):List β:=List.rec [] (fun a _ ih=>f a::ih) l
theorem M0 {α β:Type}(f:α->β)(l:List α):EV f l=l.map f:=by
 induction l with
 | nil=>rfl
 | cons a l ih=>show f a::EV f l=_;rw[ih];rfl
def cW (a b:Bool):Bool:=Bool.rec false b a
theorem jq (a b:Bool):cW a b=(a&&b):=by cases a<;>rfl
def C4 {β:Type}(f:Nat->Nat->Option β)(a:AV):Option β:=match a with | .ptr i o=>f i o | _=>none
def Yn (off:Nat)(o:AO):Option AV:=match o with | .cells c lo hi _ _=>Bool.rec none (Bool.rec none (get c off) (Nat.blt off hi)) (Nat.ble lo off) | _=>none
def cellAt (H:Hp)(i off:Nat):Option AV:=oE (Yn off) (get H.1 i)
theorem Al (H:Hp)(i off:Nat):cellAt H i off=Am.cellAt H i off:=by
 unfold cellAt Am.cellAt
 rw[get_eq,tV]
 cases H.h.get i with
 | none=>rfl
 | some o=>
  cases o with
  | cells c lo hi el fl=>
   simp only[ac0,Yn,get_eq]
   cases Nat.ble lo off<;>cases Nat.blt off hi<;>rfl
  | _=>rfl
def iJ {α:Type}(l:List α):Nat:=List.rec 0 (fun _ _ ih=>Nat.succ ih) l
theorem nj {α:Type}(l:List α):iJ l=l.length:=by
 induction l with
 | nil=>rfl
 | cons a l ih=>show Nat.succ (iJ l)=_;rw[ih];rfl
def Q4 (a b:Int):Bool:=Int.rec (fun m=>Int.rec (fun n=>Nat.beq m n) (fun _=>false) b) (fun m=>Int.rec (fun _=>false) (fun n=>Nat.beq m n) b) a
theorem ahj (a b:Int):Q4 a b=decide (a=b):=by
 cases a with
 | ofNat m=>
  cases b with
  | ofNat n=>
   show Nat.beq m n=_
   rw[aiL,afS,decide_eq_true_iff]
   exact Int.ofNat_inj.symm
  | negSucc n=>show false=_;simp
 | negSucc m=>
  cases b with
  | ofNat n=>show false=_;simp
  | negSucc n=>
   show Nat.beq m n=_
   rw[aiL,afS,decide_eq_true_iff]
   simp
def small (k:IntKind)(n:Nat):Bool:=IntKind.rec (Nat.blt n 128) (Nat.blt n 32768) (Nat.blt n 2147483648) (Nat.blt n 9223372036854775808) (Nat.blt n 256) (Nat.blt n 65536) (Nat.blt n 4294967296) (Nat.blt n 18446744073709551616) k
theorem wrap_small (k:IntKind)(n:Nat)(h:small k n=true):k.wrap (Int.ofNat n)=Int.ofNat n:=by
 have hn:(Int.ofNat n)=(n:Int):=rfl
 rw[hn]
 cases k<;>simp only[small,adn] at h
 ·exact IntWalk.i8_in _ (by omega)
 ·exact IntWalk.i16_in _ (by omega)
 ·exact IntWalk.i32_in _ (by omega)
 ·exact IntWalk.i64_in _ (by omega)
 ·exact IntWalk.u8_in _ (by omega)
 ·exact IntWalk.u16_in _ (by omega)
 ·exact IntWalk.u32_in _ (by omega)
 ·exact IntWalk.u64_in _ (by omega)
def vo {β:Type}(f:Nat->β)(n:Nat):β:=Nat.rec (f 0) (fun m _=>f (Nat.succ m)) n
theorem Dl {β:Type}(f:Nat->β)(n:Nat):vo f n=f n:=by cases n<;>rfl
def mkInt (k:IntKind)(n:Nat):Option AV:=some (.int k (.ofNat n))
def mkNeg (k:IntKind)(n:Nat):Option AV:=some (.int k (.negSucc n))
def mkI (k:IntKind)(z:Int):Option AV:=Int.rec (vo (mkInt k)) (vo (mkNeg k)) z
theorem alh (k:IntKind)(z:Int):mkI k z=some (.int k z):=by
 cases z with
 | ofNat n=>show vo (mkInt k) n=_;rw[Dl];rfl
 | negSucc n=>show vo (mkNeg k) n=_;rw[Dl];rfl
def Dz (k:IntKind)(z:Int):Option AV:=mkI k (k.wrap z)
theorem JX (k:IntKind)(z:Int):Dz k z=some (.int k (k.wrap z)):=alh _ _
def Fx (k:IntKind)(n:Nat):Option AV:=Bool.rec (Dz k (.ofNat n)) (vo (mkInt k) n) (small k n)
theorem aqD (k:IntKind)(n:Nat):Fx k n=some (.int k (k.wrap (.ofNat n))):=by
 unfold Fx
 cases h:small k n with
 | false=>exact JX _ _
 | true=>show vo (mkInt k) n=_;rw[Dl,wrap_small k n h];rfl
def XP (k:IntKind):Nat:=IntKind.rec 0 1 2 3 4 5 6 7 k
def Fp (j k:IntKind):Bool:=Nat.beq (XP j) (XP k)
theorem aav (j k:IntKind):Fp j k=decide (j=k):=by cases j<;>cases k<;>rfl
def YM (k:IntKind)(a b:Int):Option AV:=Int.rec (fun m=>Int.rec (fun n=>Bool.rec (Dz k (Int.sub (.ofNat m) (.ofNat n))) (Fx k (Nat.sub m n)) (Nat.ble n m)) (fun n=>Dz k (Int.sub (.ofNat m) (.negSucc n))) b) (fun m=>Dz k (Int.sub (.negSucc m) b)) a
theorem VV (k:IntKind)(a b:Int):YM k a b=some (.int k (k.wrap (a-b))):=by
 cases a with
 | ofNat m=>cases b with
  | ofNat n=>
   show @Bool.rec (fun _=>_) (Dz k (Int.sub (.ofNat m) (.ofNat n))) (Fx k (Nat.sub m n)) (Nat.ble n m)=_
   cases h:Nat.ble n m with
   | false=>exact JX _ _
   | true=>
    show Fx k (m-n)=_
    rw[aqD]
    have h':=Nat.le_of_ble_eq_true h
    have:(Int.ofNat (m-n))=Int.ofNat m-Int.ofNat n:=by
     show ((m-n:Nat):Int)=(m:Int)-(n:Int)
     omega
    rw[this]
  | negSucc n=>exact JX _ _
 | negSucc m=>exact JX _ _
def ak6 (b:Bool):Bool:=Bool.rec true false b
def D1 (x:List Nat):List Nat->Bool:=List.rec (motive:=fun _=>List Nat->Bool) (fun y=>List.rec true (fun _ _ _=>false) y) (fun a _ ih y=>List.rec false (fun b y' _=>Bool.rec false (ih y') (Nat.beq a b)) y) x
theorem NT:∀ x y:List Nat,D1 x y=(x==y)
 | [],[]=>rfl
 | [],b::y=>rfl
 | a::x,[]=>rfl
 | a::x,b::y=>by
  show @Bool.rec (fun _=>_) false (D1 x y) (Nat.beq a b)=_
  rw[NT x y]
  by_cases h:a=b
  ·subst h;rw[sZ]
   rw[aiL];simp
  ·rw[oa h]
   rw[eq_comm,Bool.eq_false_iff];simp[h]
end
end F
end
namespace F
noncomputable section
def OP (h:Tr AO)(l:List AV)(el:TypeId)(fl:Nat)(f:Nat->AV)(n:Nat):R:=some (f n,⟨put 34 h n (.cells (dh l .nil 0) 0 (iJ l) el fl),Nat.succ n⟩)
def GZ (H:Hp)(el:TypeId)(fl:Nat)(f:Nat->AV)(l:List AV):R:=Bool.rec none (vo (OP H.1 l el fl f) H.2) (Nat.ble (iJ l) 16777216)
theorem YK (H:Hp)(el:TypeId)(fl:Nat)(f:Nat->AV)(l:List AV):GZ H el fl f l=(cI H l el fl).map fun r=>(f r.1,r.2):=by
 unfold GZ cI alloc
 rw[nj,Dl]
 cases Nat.ble l.length 16777216 with
 | false=>rfl
 | true=>
  show OP H.1 l el fl f H.2=_
  unfold OP
  rw[put_eq,SQ,nj]
  rfl
end
end F
end
namespace F
noncomputable section
end
end F
end
namespace F
noncomputable section
def po (a b:Bool):Bool:=Bool.rec (ak6 b) b a
theorem abL (a b:Bool):po a b=(a==b):=by cases a<;>cases b<;>rfl
end
end F
end Go.Proofs.YtehhgkgeldinkaaGreatDoor.Am
