/- Contracts of functions that walk a map, as the evaluator reads them (of no program). -/
import Derived.Test.YthljbjokonglhaaGreatDoorAm8
import Derived.Sort.KeysCollected
import Derived.WideShapes
set_option linter.unusedVariables false
set_option linter.unusedSimpArgs false
namespace Go.Proofs.YthljbjokonglhaaGreatDoor.Am
open Go.RowKit
set_option linter.unusedVariables false
set_option linter.unusedSimpArgs false

section
variable {P : Program} {G : Nat} {F' : Nat → Prop} {W : World} {e : Em} {H : Hp} {w : World}

end

/-! the room that is left: a store's bytes, in whatever order its files are walked -/
noncomputable section
end

section
variable {P : Program} {G : Nat} {F' : Nat → Prop} {W : World} {e : Em} {H : Hp} {w : World}
end
end Go.Proofs.YthljbjokonglhaaGreatDoor.Am
namespace Go.Proofs.YthljbjokonglhaaGreatDoor.Am
open Go.RowKit Go.Maps Go.Sort Go.Proofs
set_option linter.unusedVariables false
set_option linter.unusedSimpArgs false

/-! the names of a store's files, sorted -/
noncomputable section
/-- before, in the order of bytes -/
def ltN (a : List Nat) : List Nat → Bool := List.rec (motive := fun _ => List Nat → Bool) (fun b => List.rec false (fun _ _ _ => true) b) (fun x _ ih b => List.rec false (fun y r _ => Bool.rec (Bool.rec false (ih r) (Nat.beq x y)) true (Nat.blt x y)) b) a
def insN (x : List Nat) (l : List (List Nat)) : List (List Nat) := List.rec [x] (fun y r ih => Bool.rec (x :: y :: r) (y :: ih) (ltN y x)) l
def sortN (l : List (List Nat)) : List (List Nat) := List.rec [] (fun x _ ih => insN x ih) l
end

def nats (s : List UInt8) : List Nat := s.map (·.toNat)
section
variable {P : Program} {e : Em}
end
end Go.Proofs.YthljbjokonglhaaGreatDoor.Am
