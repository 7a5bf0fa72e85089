/- strings.Join (and the Builder that it uses) as a contract over the symbolic heap. Conditions: as each states them. -/
import Derived.Test.YthljbjokonglhaaGreatDoorDfL3
namespace Go.Proofs.YthljbjokonglhaaGreatDoor.DfK
open Go Am Am.K DfEnv DfM LibP
set_option linter.unusedVariables false
set_option linter.unusedSimpArgs false
set_option maxRecDepth 10000
/-- a builder -/
structure Bu (H : Hp) (p : Nat) (sl : AV) (l : Str) : Prop where
  c : Cs H p [.ptr p 0, sl] 112 0
  o : Ow H 5 1 sl (bs l)
  ne : p ∉ rid sl
end Go.Proofs.YthljbjokonglhaaGreatDoor.DfK
