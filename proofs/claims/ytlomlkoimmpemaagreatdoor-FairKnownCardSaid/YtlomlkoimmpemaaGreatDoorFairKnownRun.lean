/- FairKnown: its run, whole. Conditions: what the row lists. -/
import Derived.Test.YtlomlkoimmpemaaGreatDoorFairKnownLast
import Derived.Test.YtlomlkoimmpemaaGreatDoorFairKnownQ1
import Derived.Test.YtlomlkoimmpemaaGreatDoorFairKnownQ2
import Derived.Test.YtlomlkoimmpemaaGreatDoorFairKnownQ3
import Derived.Test.YtlomlkoimmpemaaGreatDoorFairKnownQ4
import Derived.Test.YtlomlkoimmpemaaGreatDoorFairKnownQ5
import Derived.Test.YtlomlkoimmpemaaGreatDoorFairKnownQ6
import Derived.Test.YtlomlkoimmpemaaGreatDoorFairKnownQ7
import Derived.Test.YtlomlkoimmpemaaGreatDoorFairKnownQ8
import Derived.Test.YtlomlkoimmpemaaGreatDoorFairKnownQ9
import Derived.Test.YtlomlkoimmpemaaGreatDoorFairKnownQ10
import Derived.Test.YtlomlkoimmpemaaGreatDoorFairKnownQ11
import Derived.Test.YtlomlkoimmpemaaGreatDoorFairKnownQ12
import Derived.Test.YtlomlkoimmpemaaGreatDoorFairKnownQ13
import Derived.Test.YtlomlkoimmpemaaGreatDoorFairKnownQ14
namespace Go.Proofs.YtlomlkoimmpemaaGreatDoor.FairKnownRun
open Go Go.RowKit Am EkEnv
set_option linter.unusedVariables false
set_option maxRecDepth 100000
theorem m1 : MemoOK Tryz.prog begin0 memo1 := q1
theorem m2 : MemoOK Tryz.prog begin0 memo2 := q2 m1
theorem m3 : MemoOK Tryz.prog begin0 memo3 := q3 m1 m2
theorem m4 : MemoOK Tryz.prog begin0 memo4 := q4 m1 m2 m3
theorem m5 : MemoOK Tryz.prog begin0 memo5 := q5 m1 m2 m3 m4
theorem m6 : MemoOK Tryz.prog begin0 memo6 := q6 m1 m2 m3 m4 m5
theorem m7 : MemoOK Tryz.prog begin0 memo7 := q7 m1 m2 m3 m4 m5 m6
theorem m8 : MemoOK Tryz.prog begin0 memo8 := q8 m1 m2 m3 m4 m5 m6 m7
theorem m9 : MemoOK Tryz.prog begin0 memo9 := q9 m1 m2 m3 m4 m5 m6 m7 m8
theorem m10 : MemoOK Tryz.prog begin0 memo10 := q10 m1 m2 m3 m4 m5 m6 m7 m8 m9
theorem m11 : MemoOK Tryz.prog begin0 memo11 := q11 m1 m2 m3 m4 m5 m6 m7 m8 m9 m10
theorem m12 : MemoOK Tryz.prog begin0 memo12 := q12 m1 m2 m3 m4 m5 m6 m7 m8 m9 m10 m11
theorem m13 : MemoOK Tryz.prog begin0 memo13 := q13 m1 m2 m3 m4 m5 m6 m7 m8 m9 m10 m11 m12
theorem m14 : MemoOK Tryz.prog begin0 memo14 := q14 m1 m2 m3 m4 m5 m6 m7 m8 m9 m10 m11 m12 m13
theorem known {W : World} (h : laidMet Tryz.prog laid W) (hsz : 8 ≤ W.heap.size) : Calls Tryz.prog 6 #[] W fun en w' => en = .returned (.bool true) ∧ Below W.heap.size W w' := join m1 m2 m3 m4 m5 m6 m7 m8 m9 m10 m11 m12 m13 m14 h hsz
end Go.Proofs.YtlomlkoimmpemaaGreatDoor.FairKnownRun
