/- NodeKnown: what the row says of the text of its function, by the kernel, each fact apart. No conditions. -/
import Derived.Test.YthcmmhjbdggfjaaGreatDoorFacts
import Derived.JoinedOf
namespace Go.Proofs.YthcmmhjbdggfjaaGreatDoor.NodeKnownFacts
set_option maxRecDepth 100000
theorem A {a b : Bool} (h : a = true) (k : b = true) : (a && b) = true := by rw [h, k]; rfl
theorem inPl : (Rows.nodeKnownRow.inPlace == Tryz.prog.inPlace 7) = true := by kernel_rfl
theorem unf : (Rows.nodeKnownRow.unfollowed == Tryz.prog.unfollowed 7) = true := by kernel_rfl
theorem recu : (Rows.nodeKnownRow.recurses == Tryz.prog.recurses 7) = true := by kernel_rfl
theorem named : (Rows.nodeKnownRow.named == Tryz.prog.varsNamed 7) = true := by kernel_rfl
theorem closed : joinedFacts Tryz.prog 7 Tryz.f7 Rows.nodeKnownSpec Rows.nodeKnownRow = true := by
  unfold joinedFacts
  exact (A (A (A (A (A (A (A (A (A (A (A (A (A (A (A (A (A (A (A (A (A (A (A (A (A (A (A (A (A (A (A (by kernel_rfl) Facts.laid) Facts.maps) (by kernel_rfl)) (by kernel_rfl)) (by kernel_rfl)) (by kernel_rfl)) (by kernel_rfl)) (by kernel_rfl)) inPl) unf) recu) named) (by kernel_rfl)) (by kernel_rfl)) (by kernel_rfl)) (by kernel_rfl)) (by kernel_rfl)) (by kernel_rfl)) (by kernel_rfl)) (by kernel_rfl)) (by kernel_rfl)) (by kernel_rfl)) (by kernel_rfl)) Facts.heard) Facts.enter) (by kernel_rfl)) (by kernel_rfl)) (by kernel_rfl)) (by kernel_rfl)) (by kernel_rfl)) (by kernel_rfl))
end Go.Proofs.YthcmmhjbdggfjaaGreatDoor.NodeKnownFacts
