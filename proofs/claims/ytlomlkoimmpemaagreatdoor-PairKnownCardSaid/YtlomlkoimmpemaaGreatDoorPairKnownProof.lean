/- PairKnown: the law returns true. Conditions: the listed package-level variables hold what the program's text lays there (tied by the card). -/
import Derived.Test.YtlomlkoimmpemaaGreatDoorCards
import Derived.Test.YtlomlkoimmpemaaGreatDoorTie
import Derived.SevenTiedAt
import Derived.Test.YtlomlkoimmpemaaGreatDoorPairKnownOver
import Derived.Test.YtlomlkoimmpemaaGreatDoorPairKnownGoes
namespace Go.Proofs.YtlomlkoimmpemaaGreatDoor.pairKnown
theorem proved : Rows.PairKnownCardSaid :=
  Claim7.holds_tied_plain_at .later [] [.data, .data, .data, .data, .sentinel, .sentinel, .pinned] true (true, "6c6e74be9c8ecf13713f3530d2558b85c70b995ebc6071f75c0444fb90d233a7") true over (fun _ h => by cases h) PairKnownGoes.wf (fun _ h => by cases h) pairKnown_row_tie rfl ⟨rfl, rfl⟩ PairKnownGoes.main rfl
    (fun f fn hf hfn => by
      obtain rfl : f = 5 := Option.some.inj ((show Tryz.prog.funcNamed "outrider/outriderlaw26.PairKnown" = some 5 from PairKnownGoes.fnm).symm.trans hf) |>.symm
      obtain rfl : fn = Tryz.f5 := (Option.some.inj (Tryz.func5.symm.trans hfn)).symm
      exact ⟨Facts.looks, fun j t ht => by rw [Tryz.params5] at ht; simp at ht⟩)
    PairKnownGoes.goes
#print axioms proved
end Go.Proofs.YtlomlkoimmpemaaGreatDoor.pairKnown
