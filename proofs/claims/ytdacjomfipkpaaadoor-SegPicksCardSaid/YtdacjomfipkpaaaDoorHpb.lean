/- More of the library on memory. -/
import Derived.Test.YtdacjomfipkpaaaDoorHp
set_option linter.unusedVariables false
namespace Go.Proofs.YtdacjomfipkpaaaDoor.Hp
open Go Go.RowKit
/-- behind an append the slice lies at or above B, if it did -/
theorem own_new {v v' : Value} {B n : Nat} (h : v'.ownBlock = v.ownBlock ∨ v'.ownBlock = some n) (hv : ∀ x, v.ownBlock = some x → B ≤ x) (hn : B ≤ n) : ∀ x, v'.ownBlock = some x → B ≤ x := by
  intro x hx
  rcases h with h | h
  · exact hv x (by rw [← h]; exact hx)
  · rw [hx] at h
    have : x = n := by simpa using h
    omega
/-- bytes as cells -/
def bys (l : List UInt8) : List Value := l.map fun b => .int .u8 b.toNat
theorem bys_length (l : List UInt8) : (bys l).length = l.length := by simp [bys]
theorem bys_append (a b : List UInt8) : bys (a ++ b) = bys a ++ bys b := by simp [bys]
theorem bys_one (l : List UInt8) : ∀ u ∈ bys l, u.oneCell' = true := by
  intro u hu
  obtain ⟨b, _, rfl⟩ := List.mem_map.1 hu
  rfl
/-- 'string(b)' -/
theorem run_str {P : Program} {w : World} (src dst e : TypeId) (hs : P.underlying src = some (.slice e)) (he : P.underlying e = some (.int .u8)) (hd : P.underlying dst = some .string) {v : Value} {n : Nat} {l : List UInt8} (h : RdS w 1 v n (bys l)) :
    (convert src dst v).run P w = .ok (.string ⟨l.toArray⟩) w := by
  obtain ⟨hl, ad, cap, rfl, h2, h3, h4⟩ := h
  rw [bys_length, Nat.mul_one] at hl
  rcases Nat.eq_zero_or_pos n with h0 | hn
  · subst h0
    have : l = [] := List.eq_nil_of_length_eq_zero hl
    subst this
    cases ad with
    | none => exact run_convert_bytes_nil (P := P) (w := w) src e hs he 0 cap dst hd
    | some a => exact run_convert_bytes_back w src dst e a cap [] hs he hd (fun j hj => by simp at hj)
  · obtain ⟨b, off, rfl, hb, hc⟩ := h4 hn
    rw [← hl]
    refine run_convert_bytes_back w src dst e ⟨b, off, none⟩ cap l hs he hd (fun j hj => ?_)
    rw [addr_add]
    exact hc j _ (by simp [bys, hj])
end Go.Proofs.YtdacjomfipkpaaaDoor.Hp
