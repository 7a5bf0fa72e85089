/- Bits and widths of numbers that are not negative (of no program). -/
import Derived.Test.YthljbjokonglhaaGreatDoorAm14
set_option linter.unusedVariables false
set_option linter.unusedSimpArgs false
namespace Go.Proofs.YthljbjokonglhaaGreatDoor.Am
set_option linter.unusedVariables false
set_option linter.unusedSimpArgs false
namespace K
/-! Bits and widths of numbers that are not negative. -/
theorem wrap_u {k : IntKind} (hk : k.signed = false) {n : Nat} (h : n < 2 ^ k.bits) : k.wrap (n : Int) = n := by
  unfold IntKind.wrap
  cases k <;> first | (cases hk; done) | (simp [IntKind.signed, IntKind.bits] at h ⊢; omega)
theorem ishr_n {k j : IntKind} {a b : Nat} : ishr (.int k a) (.int j b) = some (.int k ((a / 2 ^ (min b k.bits) : Nat) : Int)) := by
  unfold ishr i2
  simp only
  rw [if_neg (by omega), Int.toNat_natCast]
  congr 2
  rw [Int.fdiv_eq_ediv_of_nonneg _ (by exact Int.pow_nonneg (by omega))]
  norm_cast
theorem ishl_n {k j : IntKind} {a b : Nat} : ishl (.int k a) (.int j b) = some (.int k (k.wrap ((a * 2 ^ (min b k.bits) : Nat) : Int))) := by
  unfold ishl i2
  simp only
  rw [if_neg (by omega), Int.toNat_natCast]
  congr 3
end K
end Go.Proofs.YthljbjokonglhaaGreatDoor.Am
