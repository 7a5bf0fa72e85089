/- FlowFrom: what the row says of the text of its function, by the kernel, each fact apart. No conditions. -/
import Derived.Test.YtkhhnpkmblldbaaGreatDoorFacts
import Derived.JoinedOf
namespace Go.Proofs.YtkhhnpkmblldbaaGreatDoor.FlowFromFacts
set_option maxRecDepth 100000
theorem A {a b : Bool} (h : a = true) (k : b = true) : (a && b) = true := by rw [h, k]; rfl
theorem inPl : (Rows.flowFromRow.inPlace == Tryz.prog.inPlace 8) = true := by kernel_rfl
theorem unf : (Rows.flowFromRow.unfollowed == Tryz.prog.unfollowed 8) = true := by kernel_rfl
theorem recu : (Rows.flowFromRow.recurses == Tryz.prog.recurses 8) = true := by kernel_rfl
theorem named : (Rows.flowFromRow.named == Tryz.prog.varsNamed 8) = true := by kernel_rfl
theorem closed : joinedFacts Tryz.prog 8 Tryz.f8 Rows.flowFromSpec Rows.flowFromRow = true := by
  unfold joinedFacts
  exact (A (A (A (A (A (A (A (A (A (A (A (A (A (A (A (A (A (A (A (A (A (A (A (A (A (A (A (A (A (A (A (by kernel_rfl) Facts.laid) Facts.maps) (by kernel_rfl)) (by kernel_rfl)) (by kernel_rfl)) (by kernel_rfl)) (by kernel_rfl)) (by kernel_rfl)) inPl) unf) recu) named) (by kernel_rfl)) (by kernel_rfl)) (by kernel_rfl)) (by kernel_rfl)) (by kernel_rfl)) (by kernel_rfl)) (by kernel_rfl)) (by kernel_rfl)) (by kernel_rfl)) (by kernel_rfl)) (by kernel_rfl)) Facts.heard) Facts.enter) (by kernel_rfl)) (by kernel_rfl)) (by kernel_rfl)) (by kernel_rfl)) (by kernel_rfl)) (by kernel_rfl))
end Go.Proofs.YtkhhnpkmblldbaaGreatDoor.FlowFromFacts
