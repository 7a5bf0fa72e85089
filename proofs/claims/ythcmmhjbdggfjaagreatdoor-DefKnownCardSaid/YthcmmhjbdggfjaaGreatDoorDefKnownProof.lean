/- DefKnown: the law returns true. Conditions: the listed package-level variables hold what the program's text lays there (tied by the card). -/
import Derived.Test.YthcmmhjbdggfjaaGreatDoorCards
import Derived.Test.YthcmmhjbdggfjaaGreatDoorTie
import Derived.SevenTiedAt
import Derived.Test.YthcmmhjbdggfjaaGreatDoorDefKnownOver
import Derived.Test.YthcmmhjbdggfjaaGreatDoorDefKnownGoes
namespace Go.Proofs.YthcmmhjbdggfjaaGreatDoor.defKnown
theorem proved : Rows.DefKnownCardSaid :=
  Claim7.holds_tied_plain_at .later [] [.data, .data, .data, .data, .sentinel, .sentinel, .pinned] true (true, "cdde387c1ac29a44d7d3fa10cadcb139135bb0dfc6233ea846efb5a17d20fbbf") true over (fun _ h => by cases h) DefKnownGoes.wf (fun _ h => by cases h) defKnown_row_tie rfl ⟨rfl, rfl⟩ DefKnownGoes.main rfl
    (fun f fn hf hfn => by
      obtain rfl : f = 4 := Option.some.inj ((show Tryz.prog.funcNamed "outrider/outriderlaw12.DefKnown" = some 4 from DefKnownGoes.fnm).symm.trans hf) |>.symm
      obtain rfl : fn = Tryz.f4 := (Option.some.inj (Tryz.func4.symm.trans hfn)).symm
      exact ⟨Facts.looks, fun j t ht => by rw [Tryz.params4] at ht; simp at ht⟩)
    DefKnownGoes.goes
#print axioms proved
end Go.Proofs.YthcmmhjbdggfjaaGreatDoor.defKnown
