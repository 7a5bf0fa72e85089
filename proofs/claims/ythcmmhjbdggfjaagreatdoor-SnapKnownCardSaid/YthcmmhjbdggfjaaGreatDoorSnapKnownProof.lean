/- SnapKnown: the law returns true. Conditions: the listed package-level variables hold what the program's text lays there (tied by the card). -/
import Derived.Test.YthcmmhjbdggfjaaGreatDoorCards
import Derived.Test.YthcmmhjbdggfjaaGreatDoorTie
import Derived.SevenTiedAt
import Derived.Test.YthcmmhjbdggfjaaGreatDoorSnapKnownOver
import Derived.Test.YthcmmhjbdggfjaaGreatDoorSnapKnownGoes
namespace Go.Proofs.YthcmmhjbdggfjaaGreatDoor.snapKnown
theorem proved : Rows.SnapKnownCardSaid :=
  Claim7.holds_tied_plain_at .later [] [.data, .data, .data, .data, .sentinel, .sentinel, .pinned] true (true, "cdde387c1ac29a44d7d3fa10cadcb139135bb0dfc6233ea846efb5a17d20fbbf") true over (fun _ h => by cases h) SnapKnownGoes.wf (fun _ h => by cases h) snapKnown_row_tie rfl ⟨rfl, rfl⟩ SnapKnownGoes.main rfl
    (fun f fn hf hfn => by
      obtain rfl : f = 5 := Option.some.inj ((show Tryz.prog.funcNamed "outrider/outriderlaw19.SnapKnown" = some 5 from SnapKnownGoes.fnm).symm.trans hf) |>.symm
      obtain rfl : fn = Tryz.f5 := (Option.some.inj (Tryz.func5.symm.trans hfn)).symm
      exact ⟨Facts.looks, fun j t ht => by rw [Tryz.params5] at ht; simp at ht⟩)
    SnapKnownGoes.goes
#print axioms proved
end Go.Proofs.YthcmmhjbdggfjaaGreatDoor.snapKnown
