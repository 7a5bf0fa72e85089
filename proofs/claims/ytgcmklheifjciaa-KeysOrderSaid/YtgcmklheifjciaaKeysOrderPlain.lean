/- Plain facts for KeysOrder: names of numbers, and what is there after i puts. -/
import Derived.Test.YtgcmklheifjciaaKeysPlain
set_option linter.unusedVariables false
namespace Go.Proofs.Ytgcmklheifjciaa.Ky
def nm (i : Nat) : ByteArray := ⟨#[UInt8.ofNat (97 + i % 20), UInt8.ofNat (97 + i / 20)]⟩
theorem nm_inj {i j : Nat} (hi : i < 300) (hj : j < 300) (h : nm i = nm j) : i = j := by
  unfold nm at h
  have h1 : UInt8.ofNat (97 + i % 20) = UInt8.ofNat (97 + j % 20) := by
    have := congrArg (fun b : ByteArray => b.data[0]?) h
    simpa using this
  have h2 : UInt8.ofNat (97 + i / 20) = UInt8.ofNat (97 + j / 20) := by
    have := congrArg (fun b : ByteArray => b.data[1]?) h
    simpa using this
  have h1' := congrArg UInt8.toNat h1
  have h2' := congrArg UInt8.toNat h2
  simp only [UInt8.toNat_ofNat'] at h1' h2'
  omega
/-- what is there after i puts -/
def LL (most i : Nat) : List (K × Int) := ((List.range i).drop (i - most)).map fun j : Nat => (((⟨#[]⟩ : ByteArray), nm j), (j : Int))
theorem LL_length (most i : Nat) : (LL most i).length = min i most := by
  unfold LL; simp; omega
theorem LL_zero (most : Nat) : LL most 0 = [] := by simp [LL]
theorem LL_get (most i k : Nat) (h : k < (LL most i).length) : (LL most i)[k] = (((⟨#[]⟩ : ByteArray), nm (i - most + k)), ((i - most + k : Nat) : Int)) := by
  simp [LL]
theorem LL_fresh (most i : Nat) (hi : i < 300) : get (LL most i) (⟨#[]⟩, nm i) = none := by
  unfold get
  rw [Option.map_eq_none_iff, List.find?_eq_none]
  intro p hp
  unfold LL at hp
  obtain ⟨j, hj, rfl⟩ := List.mem_map.1 hp
  have hj2 : j < i := List.mem_range.1 (List.mem_of_mem_drop hj)
  have : ¬ nm j = nm i := fun e => by have := nm_inj (by omega) hi e; omega
  simp [this]
theorem LL_put (most i : Nat) (hm : 1 ≤ most) (hi : i < 300) : put most (LL most i) (⟨#[]⟩, nm i) i = ((i : Int), true, LL most (i + 1)) := by
  unfold put
  rw [LL_fresh most i hi]
  simp only [Prod.mk.injEq, true_and]
  rw [LL_length]
  unfold LL
  by_cases h : min i most = most
  · rw [if_pos h, ← List.drop_one, ← List.map_drop, List.drop_drop, List.range_succ, List.drop_append_of_le_length (by simp; omega), List.map_append]
    simp only [List.map_cons, List.map_nil]
    rw [show i - most + 1 = i + 1 - most by omega]
  · rw [if_neg h, List.range_succ, show i + 1 - most = 0 by omega, show i - most = 0 by omega]
    simp
end Go.Proofs.Ytgcmklheifjciaa.Ky
