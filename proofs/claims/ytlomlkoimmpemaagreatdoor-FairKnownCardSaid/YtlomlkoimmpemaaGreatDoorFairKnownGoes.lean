/- FairKnown: what the card asks of the program's text, by the kernel, each fact apart. No conditions. -/
import Derived.Test.YtlomlkoimmpemaaGreatDoorProg
import Derived.Test.YtlomlkoimmpemaaGreatDoorRows
import Derived.Test.YtlomlkoimmpemaaGreatDoorCards
import Derived.ProofKit
import Derived.KernelRfl
import Derived.SevenTiedAt
namespace Go.Proofs.YtlomlkoimmpemaaGreatDoor.FairKnownGoes
set_option maxRecDepth 100000
theorem wf : Rows.fairKnownRow.wfByText (OpenSpec.ofChange Rows.fairKnownSpec) = true := by kernel_rfl
theorem main : Tryz.prog.mainIs = some (true, "6c6e74be9c8ecf13713f3530d2558b85c70b995ebc6071f75c0444fb90d233a7".toList) := by kernel_rfl
theorem fnm : Tryz.prog.funcNamed "outrider/outriderlaw27.FairKnown" = some 6 := by kernel_rfl
theorem goes : false = Rows.fairKnownRow.goesBy Tryz.prog := by kernel_rfl
end Go.Proofs.YtlomlkoimmpemaaGreatDoor.FairKnownGoes
