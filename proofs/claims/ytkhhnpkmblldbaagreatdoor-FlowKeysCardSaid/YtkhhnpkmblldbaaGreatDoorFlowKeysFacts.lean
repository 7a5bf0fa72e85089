/- FlowKeys: what the row says of the text of its function, by the kernel, each fact apart. No conditions. -/
import Derived.Test.YtkhhnpkmblldbaaGreatDoorFacts
import Derived.JoinedOf
namespace Go.Proofs.YtkhhnpkmblldbaaGreatDoor.FlowKeysFacts
set_option maxRecDepth 100000
theorem A {a b : Bool} (h : a = true) (k : b = true) : (a && b) = true := by rw [h, k]; rfl
theorem inPl : (Rows.flowKeysRow.inPlace == Tryz.prog.inPlace 4) = true := by kernel_rfl
theorem unf : (Rows.flowKeysRow.unfollowed == Tryz.prog.unfollowed 4) = true := by kernel_rfl
theorem recu : (Rows.flowKeysRow.recurses == Tryz.prog.recurses 4) = true := by kernel_rfl
theorem named : (Rows.flowKeysRow.named == Tryz.prog.varsNamed 4) = true := by kernel_rfl
theorem closed : joinedFacts Tryz.prog 4 Tryz.f4 Rows.flowKeysSpec Rows.flowKeysRow = true := by
  unfold joinedFacts
  exact (A (A (A (A (A (A (A (A (A (A (A (A (A (A (A (A (A (A (A (A (A (A (A (A (A (A (A (A (A (A (A (by kernel_rfl) Facts.laid) Facts.maps) (by kernel_rfl)) (by kernel_rfl)) (by kernel_rfl)) (by kernel_rfl)) (by kernel_rfl)) (by kernel_rfl)) inPl) unf) recu) named) (by kernel_rfl)) (by kernel_rfl)) (by kernel_rfl)) (by kernel_rfl)) (by kernel_rfl)) (by kernel_rfl)) (by kernel_rfl)) (by kernel_rfl)) (by kernel_rfl)) (by kernel_rfl)) (by kernel_rfl)) Facts.heard) Facts.enter) (by kernel_rfl)) (by kernel_rfl)) (by kernel_rfl)) (by kernel_rfl)) (by kernel_rfl)) (by kernel_rfl))
end Go.Proofs.YtkhhnpkmblldbaaGreatDoor.FlowKeysFacts
