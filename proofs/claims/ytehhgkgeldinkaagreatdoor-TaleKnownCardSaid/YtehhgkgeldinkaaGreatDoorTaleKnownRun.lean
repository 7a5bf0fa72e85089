/- TaleKnown: its run, whole. Conditions: what the row lists. -/
import Derived.Test.YtehhgkgeldinkaaGreatDoorTaleKnownLast
import Derived.Test.YtehhgkgeldinkaaGreatDoorTaleKnownQ1
import Derived.Test.YtehhgkgeldinkaaGreatDoorTaleKnownQ2
import Derived.Test.YtehhgkgeldinkaaGreatDoorTaleKnownQ6
import Derived.Test.YtehhgkgeldinkaaGreatDoorTaleKnownQ10
import Derived.Test.YtehhgkgeldinkaaGreatDoorTaleKnownQ14
import Derived.Test.YtehhgkgeldinkaaGreatDoorTaleKnownQ17
import Derived.Test.YtehhgkgeldinkaaGreatDoorTaleKnownQ18
import Derived.Test.YtehhgkgeldinkaaGreatDoorTaleKnownQ22
import Derived.Test.YtehhgkgeldinkaaGreatDoorTaleKnownQ26
import Derived.Test.YtehhgkgeldinkaaGreatDoorTaleKnownQ30
import Derived.Test.YtehhgkgeldinkaaGreatDoorTaleKnownQ34
import Derived.Test.YtehhgkgeldinkaaGreatDoorTaleKnownQ38
import Derived.Test.YtehhgkgeldinkaaGreatDoorTaleKnownQ42
namespace Go.Proofs.YtehhgkgeldinkaaGreatDoor.TaleKnownRun
open Go Go.RowKit Am EkEnv
set_option linter.unusedVariables false
set_option maxRecDepth 100000
theorem known {W : World} (h : laidMet Tryz.prog laid W) (hsz : 8 ≤ W.heap.size) : Calls Tryz.prog 3 #[] W fun en w' => en = .returned (.bool true) ∧ Below W.heap.size W w' := join (q1) (q17 q2 q3 q4 q5 q6 q7 q8 q9 q10 q11 q12 q13 q14 q15 q16) (q42 q18 q19 q20 q21 q22 q23 q24 q25 q26 q27 q28 q29 q30 q31 q32 q33 q34 q35 q36 q37 q38 q39 q40 q41) h hsz
end Go.Proofs.YtehhgkgeldinkaaGreatDoor.TaleKnownRun
