/- TaleKnown: what the card asks of the program's text, by the kernel, each fact apart. No conditions. -/
import Derived.Test.YtehhgkgeldinkaaGreatDoorProg
import Derived.Test.YtehhgkgeldinkaaGreatDoorRows
import Derived.Test.YtehhgkgeldinkaaGreatDoorCards
import Derived.ProofKit
import Derived.KernelRfl
import Derived.SevenTiedAt
namespace Go.Proofs.YtehhgkgeldinkaaGreatDoor.TaleKnownGoes
set_option maxRecDepth 100000
theorem wf : Rows.taleKnownRow.wfByText (OpenSpec.ofChange Rows.taleKnownSpec) = true := by kernel_rfl
theorem main : Tryz.prog.mainIs = some (true, "3aa4ccec9cec37d65136838497ae307c83702d6753d061b70183ff04abe8e251".toList) := by kernel_rfl
theorem fnm : Tryz.prog.funcNamed "outrider/outriderlaw28.TaleKnown" = some 3 := by kernel_rfl
theorem goes : false = Rows.taleKnownRow.goesBy Tryz.prog := by kernel_rfl
end Go.Proofs.YtehhgkgeldinkaaGreatDoor.TaleKnownGoes
