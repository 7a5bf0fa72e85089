/- TaleKnown: what the row says of the text of its function, by the kernel, each fact apart. No conditions. -/
import Derived.Test.YtehhgkgeldinkaaGreatDoorFacts
import Derived.JoinedOf
namespace Go.Proofs.YtehhgkgeldinkaaGreatDoor.TaleKnownFacts
set_option maxRecDepth 100000
theorem A {a b : Bool} (h : a = true) (k : b = true) : (a && b) = true := by rw [h, k]; rfl
theorem inPl : (Rows.taleKnownRow.inPlace == Tryz.prog.inPlace 3) = true := by kernel_rfl
theorem unf : (Rows.taleKnownRow.unfollowed == Tryz.prog.unfollowed 3) = true := by kernel_rfl
theorem recu : (Rows.taleKnownRow.recurses == Tryz.prog.recurses 3) = true := by kernel_rfl
theorem named : (Rows.taleKnownRow.named == Tryz.prog.varsNamed 3) = true := by kernel_rfl
theorem closed : joinedFacts Tryz.prog 3 Tryz.f3 Rows.taleKnownSpec Rows.taleKnownRow = true := by
  unfold joinedFacts
  exact (A (A (A (A (A (A (A (A (A (A (A (A (A (A (A (A (A (A (A (A (A (A (A (A (A (A (A (A (A (A (A (by kernel_rfl) Facts.laid) Facts.maps) (by kernel_rfl)) (by kernel_rfl)) (by kernel_rfl)) (by kernel_rfl)) (by kernel_rfl)) (by kernel_rfl)) inPl) unf) recu) named) (by kernel_rfl)) (by kernel_rfl)) (by kernel_rfl)) (by kernel_rfl)) (by kernel_rfl)) (by kernel_rfl)) (by kernel_rfl)) (by kernel_rfl)) (by kernel_rfl)) (by kernel_rfl)) (by kernel_rfl)) Facts.heard) Facts.enter) (by kernel_rfl)) (by kernel_rfl)) (by kernel_rfl)) (by kernel_rfl)) (by kernel_rfl)) (by kernel_rfl))
end Go.Proofs.YtehhgkgeldinkaaGreatDoor.TaleKnownFacts
