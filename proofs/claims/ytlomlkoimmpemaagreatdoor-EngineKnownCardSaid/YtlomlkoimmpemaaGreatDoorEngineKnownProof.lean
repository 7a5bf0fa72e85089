/- EngineKnown: the law returns true. Conditions: the listed package-level variables hold what the program's text lays there (tied by the card). -/
import Derived.Test.YtlomlkoimmpemaaGreatDoorCards
import Derived.Test.YtlomlkoimmpemaaGreatDoorTie
import Derived.SevenTiedAt
import Derived.Test.YtlomlkoimmpemaaGreatDoorEngineKnownOver
import Derived.Test.YtlomlkoimmpemaaGreatDoorEngineKnownGoes
namespace Go.Proofs.YtlomlkoimmpemaaGreatDoor.engineKnown
theorem proved : Rows.EngineKnownCardSaid :=
  Claim7.holds_tied_plain_at .later [] [.data, .data, .data, .data, .sentinel, .sentinel, .pinned] true (true, "6c6e74be9c8ecf13713f3530d2558b85c70b995ebc6071f75c0444fb90d233a7") true over (fun _ h => by cases h) EngineKnownGoes.wf (fun _ h => by cases h) engineKnown_row_tie rfl ⟨rfl, rfl⟩ EngineKnownGoes.main rfl
    (fun f fn hf hfn => by
      obtain rfl : f = 4 := Option.some.inj ((show Tryz.prog.funcNamed "outrider/outriderlaw21.EngineKnown" = some 4 from EngineKnownGoes.fnm).symm.trans hf) |>.symm
      obtain rfl : fn = Tryz.f4 := (Option.some.inj (Tryz.func4.symm.trans hfn)).symm
      exact ⟨Facts.looks, fun j t ht => by rw [Tryz.params4] at ht; simp at ht⟩)
    EngineKnownGoes.goes
#print axioms proved
end Go.Proofs.YtlomlkoimmpemaaGreatDoor.engineKnown
