/- SnapKnown: what the row says of the text of its function, by the kernel, each fact apart. No conditions. -/
import Derived.Test.YthcmmhjbdggfjaaGreatDoorFacts
import Derived.JoinedOf
namespace Go.Proofs.YthcmmhjbdggfjaaGreatDoor.SnapKnownFacts
set_option maxRecDepth 100000
theorem A {a b : Bool} (h : a = true) (k : b = true) : (a && b) = true := by rw [h, k]; rfl
theorem inPl : (Rows.snapKnownRow.inPlace == Tryz.prog.inPlace 5) = true := by kernel_rfl
theorem unf : (Rows.snapKnownRow.unfollowed == Tryz.prog.unfollowed 5) = true := by kernel_rfl
theorem recu : (Rows.snapKnownRow.recurses == Tryz.prog.recurses 5) = true := by kernel_rfl
theorem named : (Rows.snapKnownRow.named == Tryz.prog.varsNamed 5) = true := by kernel_rfl
theorem closed : joinedFacts Tryz.prog 5 Tryz.f5 Rows.snapKnownSpec Rows.snapKnownRow = true := by
  unfold joinedFacts
  exact (A (A (A (A (A (A (A (A (A (A (A (A (A (A (A (A (A (A (A (A (A (A (A (A (A (A (A (A (A (A (A (by kernel_rfl) Facts.laid) Facts.maps) (by kernel_rfl)) (by kernel_rfl)) (by kernel_rfl)) (by kernel_rfl)) (by kernel_rfl)) (by kernel_rfl)) inPl) unf) recu) named) (by kernel_rfl)) (by kernel_rfl)) (by kernel_rfl)) (by kernel_rfl)) (by kernel_rfl)) (by kernel_rfl)) (by kernel_rfl)) (by kernel_rfl)) (by kernel_rfl)) (by kernel_rfl)) (by kernel_rfl)) Facts.heard) Facts.enter) (by kernel_rfl)) (by kernel_rfl)) (by kernel_rfl)) (by kernel_rfl)) (by kernel_rfl)) (by kernel_rfl))
end Go.Proofs.YthcmmhjbdggfjaaGreatDoor.SnapKnownFacts
