/- EngineEpochs: the law returns true. Conditions: the listed package-level variables hold what the program's text lays there (tied by the card). -/
import Derived.Test.YtlomlkoimmpemaaGreatDoorCards
import Derived.Test.YtlomlkoimmpemaaGreatDoorTie
import Derived.SevenTiedAt
import Derived.Test.YtlomlkoimmpemaaGreatDoorEngineEpochsOver
import Derived.Test.YtlomlkoimmpemaaGreatDoorEngineEpochsGoes
namespace Go.Proofs.YtlomlkoimmpemaaGreatDoor.engineEpochs
open Go.ChangeShapes Go.WideShapes Go.ChangeAt Go.RowKit Am
set_option linter.unusedVariables false
set_option linter.unusedSimpArgs false
theorem stands : ∀ (j : Nat) t, Tryz.f3.params[j]? = some t → Tryz.prog.wantsStandIn t = false := by
  intro j t ht
  rw [Tryz.params3] at ht
  cases j with
  | zero => cases ht; kernel_rfl
  | succ j =>
    simp at ht
theorem proved : Rows.EngineEpochsCardSaid :=
  Claim7.holds_tied_plain_at .later [] [.data, .data, .data, .data, .sentinel, .sentinel, .pinned] true (true, "6c6e74be9c8ecf13713f3530d2558b85c70b995ebc6071f75c0444fb90d233a7") true over (fun _ h => by cases h) EngineEpochsGoes.wf (fun _ h => by cases h) engineEpochs_row_tie rfl ⟨rfl, rfl⟩ EngineEpochsGoes.main rfl
    (fun f fn hf hfn => by
      obtain rfl : f = 3 := Option.some.inj ((show Tryz.prog.funcNamed "outrider/outriderlaw21.EngineEpochs" = some 3 from EngineEpochsGoes.fnm).symm.trans hf) |>.symm
      obtain rfl : fn = Tryz.f3 := (Option.some.inj (Tryz.func3.symm.trans hfn)).symm
      exact ⟨Facts.looks, stands⟩)
    EngineEpochsGoes.goes
#print axioms proved
end Go.Proofs.YtlomlkoimmpemaaGreatDoor.engineEpochs
