/- FairKnown: what the row says of the text of its function, by the kernel, each fact apart. No conditions. -/
import Derived.Test.YtlomlkoimmpemaaGreatDoorFacts
import Derived.JoinedOf
namespace Go.Proofs.YtlomlkoimmpemaaGreatDoor.FairKnownFacts
set_option maxRecDepth 100000
theorem A {a b : Bool} (h : a = true) (k : b = true) : (a && b) = true := by rw [h, k]; rfl
theorem inPl : (Rows.fairKnownRow.inPlace == Tryz.prog.inPlace 6) = true := by kernel_rfl
theorem unf : (Rows.fairKnownRow.unfollowed == Tryz.prog.unfollowed 6) = true := by kernel_rfl
theorem recu : (Rows.fairKnownRow.recurses == Tryz.prog.recurses 6) = true := by kernel_rfl
theorem named : (Rows.fairKnownRow.named == Tryz.prog.varsNamed 6) = true := by kernel_rfl
theorem closed : joinedFacts Tryz.prog 6 Tryz.f6 Rows.fairKnownSpec Rows.fairKnownRow = true := by
  unfold joinedFacts
  exact (A (A (A (A (A (A (A (A (A (A (A (A (A (A (A (A (A (A (A (A (A (A (A (A (A (A (A (A (A (A (A (by kernel_rfl) Facts.laid) Facts.maps) (by kernel_rfl)) (by kernel_rfl)) (by kernel_rfl)) (by kernel_rfl)) (by kernel_rfl)) (by kernel_rfl)) inPl) unf) recu) named) (by kernel_rfl)) (by kernel_rfl)) (by kernel_rfl)) (by kernel_rfl)) (by kernel_rfl)) (by kernel_rfl)) (by kernel_rfl)) (by kernel_rfl)) (by kernel_rfl)) (by kernel_rfl)) (by kernel_rfl)) Facts.heard) Facts.enter) (by kernel_rfl)) (by kernel_rfl)) (by kernel_rfl)) (by kernel_rfl)) (by kernel_rfl)) (by kernel_rfl))
end Go.Proofs.YtlomlkoimmpemaaGreatDoor.FairKnownFacts
