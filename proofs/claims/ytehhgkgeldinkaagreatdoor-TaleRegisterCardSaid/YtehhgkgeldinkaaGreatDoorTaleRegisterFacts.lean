/- Laws that the proof uses. -/
import Derived.Test.YtehhgkgeldinkaaGreatDoorFacts
import Derived.JoinedOf
set_option maxRecDepth 100000
namespace Go.Proofs.YtehhgkgeldinkaaGreatDoor.abi
theorem A {a b:Bool}(h:a=true)(k:b=true):(a&&b)=true:=by rw[h,k];rfl
theorem aqU:(Rows.taleRegisterRow.inPlace==Tryz.prog.inPlace 4)=true:=by kernel_rfl
theorem ET:(Rows.taleRegisterRow.unfollowed==Tryz.prog.unfollowed 4)=true:=by kernel_rfl
theorem ajx:(Rows.taleRegisterRow.recurses==Tryz.prog.recurses 4)=true:=by kernel_rfl
theorem named:(Rows.taleRegisterRow.named==Tryz.prog.varsNamed 4)=true:=by kernel_rfl
theorem closed:joinedFacts Tryz.prog 4 Tryz.f4 Rows.taleRegisterSpec Rows.taleRegisterRow=true:=by
 unfold joinedFacts
 exact (A (A (A (A (A (A (A (A (A (A (A (A (A (A (A (A (A (A (A (A (A (A (A (A (A (A (A (A (A (A (A (by kernel_rfl) Cl.laid) Cl.maps) (by kernel_rfl)) (by kernel_rfl)) (by kernel_rfl)) (by kernel_rfl)) (by kernel_rfl)) (by kernel_rfl)) aqU) ET) ajx) named) (by kernel_rfl)) (by kernel_rfl)) (by kernel_rfl)) (by kernel_rfl)) (by kernel_rfl)) (by kernel_rfl)) (by kernel_rfl)) (by kernel_rfl)) (by kernel_rfl)) (by kernel_rfl)) (by kernel_rfl)) Cl.heard) Cl.enter) (by kernel_rfl)) (by kernel_rfl)) (by kernel_rfl)) (by kernel_rfl)) (by kernel_rfl)) (by kernel_rfl))
end Go.Proofs.YtehhgkgeldinkaaGreatDoor.abi
