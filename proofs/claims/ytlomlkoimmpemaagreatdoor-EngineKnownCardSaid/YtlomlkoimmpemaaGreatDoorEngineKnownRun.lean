/- EngineKnown: its run, whole. Conditions: what the row lists. -/
import Derived.Test.YtlomlkoimmpemaaGreatDoorEngineKnownLast
import Derived.Test.YtlomlkoimmpemaaGreatDoorEngineKnownQ1
import Derived.Test.YtlomlkoimmpemaaGreatDoorEngineKnownQ2
namespace Go.Proofs.YtlomlkoimmpemaaGreatDoor.EngineKnownRun
open Go Go.RowKit Am EkEnv
set_option linter.unusedVariables false
set_option maxRecDepth 100000
theorem m1 : MemoOK Tryz.prog begin0 memo1 := q1
theorem m2 : MemoOK Tryz.prog begin0 memo2 := q2 m1
theorem known {W : World} (h : laidMet Tryz.prog laid W) (hsz : 8 ≤ W.heap.size) : Calls Tryz.prog 4 #[] W fun en w' => en = .returned (.bool true) ∧ Below W.heap.size W w' := join m1 m2 h hsz
end Go.Proofs.YtlomlkoimmpemaaGreatDoor.EngineKnownRun
