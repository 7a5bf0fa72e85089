/- PairKnown: what the row says of the text of its function, by the kernel, each fact apart. No conditions. -/
import Derived.Test.YtlomlkoimmpemaaGreatDoorFacts
import Derived.JoinedOf
namespace Go.Proofs.YtlomlkoimmpemaaGreatDoor.PairKnownFacts
set_option maxRecDepth 100000
theorem A {a b : Bool} (h : a = true) (k : b = true) : (a && b) = true := by rw [h, k]; rfl
theorem inPl : (Rows.pairKnownRow.inPlace == Tryz.prog.inPlace 5) = true := by kernel_rfl
theorem unf : (Rows.pairKnownRow.unfollowed == Tryz.prog.unfollowed 5) = true := by kernel_rfl
theorem recu : (Rows.pairKnownRow.recurses == Tryz.prog.recurses 5) = true := by kernel_rfl
theorem named : (Rows.pairKnownRow.named == Tryz.prog.varsNamed 5) = true := by kernel_rfl
theorem closed : joinedFacts Tryz.prog 5 Tryz.f5 Rows.pairKnownSpec Rows.pairKnownRow = true := by
  unfold joinedFacts
  exact (A (A (A (A (A (A (A (A (A (A (A (A (A (A (A (A (A (A (A (A (A (A (A (A (A (A (A (A (A (A (A (by kernel_rfl) Facts.laid) Facts.maps) (by kernel_rfl)) (by kernel_rfl)) (by kernel_rfl)) (by kernel_rfl)) (by kernel_rfl)) (by kernel_rfl)) inPl) unf) recu) named) (by kernel_rfl)) (by kernel_rfl)) (by kernel_rfl)) (by kernel_rfl)) (by kernel_rfl)) (by kernel_rfl)) (by kernel_rfl)) (by kernel_rfl)) (by kernel_rfl)) (by kernel_rfl)) (by kernel_rfl)) Facts.heard) Facts.enter) (by kernel_rfl)) (by kernel_rfl)) (by kernel_rfl)) (by kernel_rfl)) (by kernel_rfl)) (by kernel_rfl))
end Go.Proofs.YtlomlkoimmpemaaGreatDoor.PairKnownFacts
