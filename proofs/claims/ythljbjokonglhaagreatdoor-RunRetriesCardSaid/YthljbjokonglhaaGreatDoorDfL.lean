/- What parts of Go's library do, as contracts over the symbolic heap: strings' Index, Cut, Split, slices' Index and Contains. Conditions: as each states them. -/
import Derived.Test.YthljbjokonglhaaGreatDoorDfM
namespace Go.Proofs.YthljbjokonglhaaGreatDoor.DfK
open Go Am Am.K DfEnv DfM
set_option linter.unusedVariables false
set_option linter.unusedSimpArgs false
set_option maxRecDepth 10000
def ixo : Option Nat → Int
  | some i => i
  | none => -1
/-- a text cut at its first byte c -/
def cut (c : Nat) (s : Str) : Str × Str × Bool := match idxB c s 0 with
  | some i => (s.take i, s.drop (i + 1), true)
  | none => (s, [], false)
/-! strings.Split -/
def strs (l : List Str) : List AV := l.map .str
theorem strs_len (l : List Str) : (strs l).length = l.length := by simp [strs]
theorem strs_get {l : List Str} {j : Nat} {z : Str} (h : l[j]? = some z) : (strs l)[j]? = some (.str z) := by simp [strs, h]
theorem mks_ok {H : Hp} {z : AV} {el n : Nat} (k j : IntKind) (hn : n ≤ 1048576) : mks [z] el 1 (.int k n) (.int j n) H = some (.slice H.next 0 n n true 1, al H (List.replicate n z) el 0) := by
  unfold mks
  have hr : rep n [z] = List.replicate n z := by
    unfold rep
    induction n with
    | zero => rfl
    | succ m ih => rw [List.replicate_succ, List.flatten_cons, ih (by omega), List.replicate_succ]; rfl
  simp only
  rw [if_pos ⟨by omega, by omega, by omega⟩, Int.toNat_natCast, hr, newCells_al (by rw [List.length_replicate]; omega)]
  rfl
end Go.Proofs.YthljbjokonglhaaGreatDoor.DfK
