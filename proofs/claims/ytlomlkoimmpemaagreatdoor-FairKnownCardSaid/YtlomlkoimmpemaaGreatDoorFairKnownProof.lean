/- FairKnown: the law returns true. Conditions: the listed package-level variables hold what the program's text lays there (tied by the card). -/
import Derived.Test.YtlomlkoimmpemaaGreatDoorCards
import Derived.Test.YtlomlkoimmpemaaGreatDoorTie
import Derived.SevenTiedAt
import Derived.Test.YtlomlkoimmpemaaGreatDoorFairKnownOver
import Derived.Test.YtlomlkoimmpemaaGreatDoorFairKnownGoes
namespace Go.Proofs.YtlomlkoimmpemaaGreatDoor.fairKnown
theorem proved : Rows.FairKnownCardSaid :=
  Claim7.holds_tied_plain_at .later [] [.data, .data, .data, .data, .sentinel, .sentinel, .pinned] true (true, "6c6e74be9c8ecf13713f3530d2558b85c70b995ebc6071f75c0444fb90d233a7") true over (fun _ h => by cases h) FairKnownGoes.wf (fun _ h => by cases h) fairKnown_row_tie rfl ⟨rfl, rfl⟩ FairKnownGoes.main rfl
    (fun f fn hf hfn => by
      obtain rfl : f = 6 := Option.some.inj ((show Tryz.prog.funcNamed "outrider/outriderlaw27.FairKnown" = some 6 from FairKnownGoes.fnm).symm.trans hf) |>.symm
      obtain rfl : fn = Tryz.f6 := (Option.some.inj (Tryz.func6.symm.trans hfn)).symm
      exact ⟨Facts.looks, fun j t ht => by rw [Tryz.params6] at ht; simp at ht⟩)
    FairKnownGoes.goes
#print axioms proved
end Go.Proofs.YtlomlkoimmpemaaGreatDoor.fairKnown
