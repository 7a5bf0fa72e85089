/- Bits and widths of numbers that are not negative (of no program). -/
import Derived.Test.YthljbjokonglhaaGreatDoorAm14
namespace Go.Proofs.YthljbjokonglhaaGreatDoor.Am
set_option linter.unusedVariables false
set_option linter.unusedSimpArgs false
namespace K
/-! Bits and widths of numbers that are not negative. -/
theorem ishl_n {k j : IntKind} {a b : Nat} : ishl (.int k a) (.int j b) = some (.int k (k.wrap ((a * 2 ^ (min b k.bits) : Nat) : Int))) := by
  unfold ishl i2
  simp only
  rw [if_neg (by omega), Int.toNat_natCast]
  congr 3
end K
end Go.Proofs.YthljbjokonglhaaGreatDoor.Am
