/- strings.Trim at a cutset of ASCII bytes, as a contract of the evaluator (out of the library's own contract). No conditions. -/
import Derived.Test.YtehhgkgeldinkaaGreatDoorAm9
import Derived.Test.YtehhgkgeldinkaaGreatDoorShelf
import Derived.ProofKit
namespace Go.Proofs.YtehhgkgeldinkaaGreatDoor.TrimWalk
open Go Go.Proofs Go.RowKit Go.Shelf
set_option maxRecDepth 100000
theorem trimOne : Am.PrimOne Tryz.prog 60 Am.trimP := by
  refine Am.trim_ok (fun as' w => Am.run_enter (by unfold Am.NamesOK; kernel_rfl) Tryz.func60 rfl as' w) ?_
  intro s c w hs hc ha
  exact Any.strings_Trim_laid Tryz.lays160 (by kernel_rfl) s c w hs hc ha
end Go.Proofs.YtehhgkgeldinkaaGreatDoor.TrimWalk
