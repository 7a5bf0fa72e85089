/- Plain law: parts of texts. No conditions. -/
import Derived.Test.YthljbjokonglhaaGreatDoorDfKb
import Derived.Test.YthljbjokonglhaaGreatDoorAm16
namespace Go.Proofs.YthljbjokonglhaaGreatDoor.DfM
open Go Am
set_option linter.unusedVariables false
set_option linter.unusedSimpArgs false
abbrev Str := List Nat
/-- the parts of a text -/
def spl (c : Nat) : Str → List Str
  | [] => [[]]
  | b :: s => if b = c then [] :: spl c s else match spl c s with | [] => [[b]] | h :: t => (b :: h) :: t
end Go.Proofs.YthljbjokonglhaaGreatDoor.DfM
