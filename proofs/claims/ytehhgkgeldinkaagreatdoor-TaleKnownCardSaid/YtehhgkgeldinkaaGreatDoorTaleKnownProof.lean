/- TaleKnown: the law returns true. Conditions: the listed package-level variables hold what the program's text lays there (tied by the card). -/
import Derived.Test.YtehhgkgeldinkaaGreatDoorCards
import Derived.Test.YtehhgkgeldinkaaGreatDoorTie
import Derived.SevenTiedAt
import Derived.Test.YtehhgkgeldinkaaGreatDoorTaleKnownOver
import Derived.Test.YtehhgkgeldinkaaGreatDoorTaleKnownGoes
namespace Go.Proofs.YtehhgkgeldinkaaGreatDoor.taleKnown
theorem proved : Rows.TaleKnownCardSaid :=
  Claim7.holds_tied_plain_at .later [] [.data, .data, .data, .data, .sentinel, .sentinel, .pinned] true (true, "3aa4ccec9cec37d65136838497ae307c83702d6753d061b70183ff04abe8e251") true over (fun _ h => by cases h) TaleKnownGoes.wf (fun _ h => by cases h) taleKnown_row_tie rfl ⟨rfl, rfl⟩ TaleKnownGoes.main rfl
    (fun f fn hf hfn => by
      obtain rfl : f = 3 := Option.some.inj ((show Tryz.prog.funcNamed "outrider/outriderlaw28.TaleKnown" = some 3 from TaleKnownGoes.fnm).symm.trans hf) |>.symm
      obtain rfl : fn = Tryz.f3 := (Option.some.inj (Tryz.func3.symm.trans hfn)).symm
      exact ⟨Facts.looks, fun j t ht => by rw [Tryz.params3] at ht; simp at ht⟩)
    TaleKnownGoes.goes
#print axioms proved
end Go.Proofs.YtehhgkgeldinkaaGreatDoor.taleKnown
