/- SnapKnown: what the card asks of the program's text, by the kernel, each fact apart. No conditions. -/
import Derived.Test.YthcmmhjbdggfjaaGreatDoorProg
import Derived.Test.YthcmmhjbdggfjaaGreatDoorRows
import Derived.Test.YthcmmhjbdggfjaaGreatDoorCards
import Derived.ProofKit
import Derived.KernelRfl
import Derived.SevenTiedAt
namespace Go.Proofs.YthcmmhjbdggfjaaGreatDoor.SnapKnownGoes
set_option maxRecDepth 100000
theorem wf : Rows.snapKnownRow.wfByText (OpenSpec.ofChange Rows.snapKnownSpec) = true := by kernel_rfl
theorem main : Tryz.prog.mainIs = some (true, "cdde387c1ac29a44d7d3fa10cadcb139135bb0dfc6233ea846efb5a17d20fbbf".toList) := by kernel_rfl
theorem fnm : Tryz.prog.funcNamed "outrider/outriderlaw19.SnapKnown" = some 5 := by kernel_rfl
theorem goes : false = Rows.snapKnownRow.goesBy Tryz.prog := by kernel_rfl
end Go.Proofs.YthcmmhjbdggfjaaGreatDoor.SnapKnownGoes
