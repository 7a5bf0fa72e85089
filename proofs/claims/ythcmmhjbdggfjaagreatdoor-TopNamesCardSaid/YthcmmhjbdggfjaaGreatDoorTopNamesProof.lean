/- TopNames: the law returns true. Conditions: the listed package-level variables hold what the program's text lays there (tied by the card). -/
import Derived.Test.YthcmmhjbdggfjaaGreatDoorCards
import Derived.Test.YthcmmhjbdggfjaaGreatDoorTie
import Derived.SevenTiedAt
import Derived.Test.YthcmmhjbdggfjaaGreatDoorTopNamesOver
import Derived.Test.YthcmmhjbdggfjaaGreatDoorTopNamesGoes
namespace Go.Proofs.YthcmmhjbdggfjaaGreatDoor.topNames
theorem proved : Rows.TopNamesCardSaid :=
  Claim7.holds_tied_plain_at .later [] [.data, .data, .data, .data, .sentinel, .sentinel, .pinned] true (true, "cdde387c1ac29a44d7d3fa10cadcb139135bb0dfc6233ea846efb5a17d20fbbf") true over (fun _ h => by cases h) TopNamesGoes.wf (fun _ h => by cases h) topNames_row_tie rfl ⟨rfl, rfl⟩ TopNamesGoes.main rfl
    (fun f fn hf hfn => by
      obtain rfl : f = 3 := Option.some.inj ((show Tryz.prog.funcNamed "outrider/outridertop.TopNames" = some 3 from TopNamesGoes.fnm).symm.trans hf) |>.symm
      obtain rfl : fn = Tryz.f3 := (Option.some.inj (Tryz.func3.symm.trans hfn)).symm
      exact ⟨Facts.looks, fun j t ht => by rw [Tryz.params3] at ht; simp at ht⟩)
    TopNamesGoes.goes
#print axioms proved
end Go.Proofs.YthcmmhjbdggfjaaGreatDoor.topNames
