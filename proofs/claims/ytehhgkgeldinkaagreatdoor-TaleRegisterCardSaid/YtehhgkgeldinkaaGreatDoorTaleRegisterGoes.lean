/- Laws that the proof uses. -/
import Derived.Test.YtehhgkgeldinkaaGreatDoorProg
import Derived.Test.YtehhgkgeldinkaaGreatDoorRows
import Derived.Test.YtehhgkgeldinkaaGreatDoorCards
import Derived.ProofKit
import Derived.KernelRfl
import Derived.SevenTiedAt
set_option maxRecDepth 100000
namespace Go.Proofs.YtehhgkgeldinkaaGreatDoor.DB
theorem wf:Rows.taleRegisterRow.wfByText (OpenSpec.ofChange Rows.taleRegisterSpec)=true:=by kernel_rfl
theorem main : Tryz.prog.mainIs = some (true, "3aa4ccec9cec37d65136838497ae307c83702d6753d061b70183ff04abe8e251".toList) := by kernel_rfl
theorem fnm : Tryz.prog.funcNamed "outrider/outriderlaw28.TaleRegister" = some 4 := by kernel_rfl
theorem goes:false=Rows.taleRegisterRow.goesBy Tryz.prog:=by kernel_rfl
theorem aqV:∀ (j:Nat) t,Tryz.f4.params[j]? = some t->Tryz.prog.wantsStandIn t=false:=by
 intro j t ht
 rw[Tryz.params4] at ht
 cases j with
 | zero=>cases ht;kernel_rfl
 | succ j=>
  simp at ht
end Go.Proofs.YtehhgkgeldinkaaGreatDoor.DB
