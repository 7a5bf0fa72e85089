/- More of the library on memory. -/
import Derived.Test.YtgcmklheifjciaaHp
set_option linter.unusedVariables false
namespace Go.Proofs.Ytgcmklheifjciaa.Hp
open Go Go.RowKit
/-- behind an append the slice lies at or above B, if it did -/
theorem own_new {v v' : Value} {B n : Nat} (h : v'.ownBlock = v.ownBlock ∨ v'.ownBlock = some n) (hv : ∀ x, v.ownBlock = some x → B ≤ x) (hn : B ≤ n) : ∀ x, v'.ownBlock = some x → B ≤ x := by
  intro x hx
  rcases h with h | h
  · exact hv x (by rw [← h]; exact hx)
  · rw [hx] at h
    have : x = n := by simpa using h
    omega
end Go.Proofs.Ytgcmklheifjciaa.Hp
