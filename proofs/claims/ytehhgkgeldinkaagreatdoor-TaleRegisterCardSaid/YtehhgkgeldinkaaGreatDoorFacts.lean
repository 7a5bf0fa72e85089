/- Laws that the proof uses. -/
import Derived.Test.YtehhgkgeldinkaaGreatDoorProg
import Derived.Test.YtehhgkgeldinkaaGreatDoorRows
import Derived.ProofKit
import Derived.KernelRfl
import Derived.JoinedOf
import Derived.SevenTiedAt
namespace Go.Proofs.YtehhgkgeldinkaaGreatDoor.Cl
theorem laid:laidOutB Tryz.prog=true:=by kernel_rfl
theorem maps:mapsRowed Tryz.prog=true:=by kernel_rfl
theorem heard:Tryz.prog.stopsHeard=true:=by kernel_rfl
theorem enter:Tryz.prog.mayEnter=true:=by kernel_rfl
theorem looks:true=Tryz.prog.looks []:=by kernel_rfl
end Go.Proofs.YtehhgkgeldinkaaGreatDoor.Cl
