/- Plain facts for KeysKnown: what is there after i puts of one-letter keys. -/
import Derived.Test.YtgcmklheifjciaaKeysPlain
set_option linter.unusedVariables false
namespace Go.Proofs.Ytgcmklheifjciaa.Ky
def nmb (i : Nat) : ByteArray := ⟨#[UInt8.ofNat i]⟩
theorem nmb_inj {i j : Nat} (hi : i < 256) (hj : j < 256) (h : nmb i = nmb j) : i = j := by
  unfold nmb at h
  have h1 : UInt8.ofNat i = UInt8.ofNat j := by
    have := congrArg (fun b : ByteArray => b.data[0]?) h
    simpa using this
  have h1' := congrArg UInt8.toNat h1
  simp only [UInt8.toNat_ofNat'] at h1'
  omega
/-- what is there after i puts -/
def LM (most i : Nat) : List (K × Int) := ((List.range i).drop (i - most)).map fun j : Nat => (((⟨#[]⟩ : ByteArray), nmb j), (j : Int))
theorem LM_length (most i : Nat) : (LM most i).length = min i most := by
  unfold LM; simp; omega
theorem LM_zero (most : Nat) : LM most 0 = [] := by simp [LM]
theorem LM_get (most i k : Nat) (h : k < (LM most i).length) : (LM most i)[k] = (((⟨#[]⟩ : ByteArray), nmb (i - most + k)), ((i - most + k : Nat) : Int)) := by
  simp [LM]
theorem LM_fresh (most i : Nat) (hi : i < 256) : get (LM most i) (⟨#[]⟩, nmb i) = none := by
  unfold get
  rw [Option.map_eq_none_iff, List.find?_eq_none]
  intro p hp
  unfold LM at hp
  obtain ⟨j, hj, rfl⟩ := List.mem_map.1 hp
  have hj2 : j < i := List.mem_range.1 (List.mem_of_mem_drop hj)
  have : ¬ nmb j = nmb i := fun e => by have := nmb_inj (by omega) hi e; omega
  simp [this]
theorem LM_put (most i : Nat) (hm : 1 ≤ most) (hi : i < 256) : put most (LM most i) (⟨#[]⟩, nmb i) i = ((i : Int), true, LM most (i + 1)) := by
  unfold put
  rw [LM_fresh most i hi]
  simp only [Prod.mk.injEq, true_and]
  rw [LM_length]
  unfold LM
  by_cases h : min i most = most
  · rw [if_pos h, ← List.drop_one, ← List.map_drop, List.drop_drop, List.range_succ, List.drop_append_of_le_length (by simp; omega), List.map_append]
    simp only [List.map_cons, List.map_nil]
    rw [show i - most + 1 = i + 1 - most by omega]
  · rw [if_neg h, List.range_succ, show i + 1 - most = 0 by omega, show i - most = 0 by omega]
    simp
end Go.Proofs.Ytgcmklheifjciaa.Ky
