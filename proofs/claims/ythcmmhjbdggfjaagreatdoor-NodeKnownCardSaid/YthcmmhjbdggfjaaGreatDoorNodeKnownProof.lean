/- NodeKnown: the law returns true. Conditions: the listed package-level variables hold what the program's text lays there (tied by the card). -/
import Derived.Test.YthcmmhjbdggfjaaGreatDoorCards
import Derived.Test.YthcmmhjbdggfjaaGreatDoorTie
import Derived.SevenTiedAt
import Derived.Test.YthcmmhjbdggfjaaGreatDoorNodeKnownOver
import Derived.Test.YthcmmhjbdggfjaaGreatDoorNodeKnownGoes
namespace Go.Proofs.YthcmmhjbdggfjaaGreatDoor.nodeKnown
theorem proved : Rows.NodeKnownCardSaid :=
  Claim7.holds_tied_plain_at .later [] [.data, .data, .data, .data, .sentinel, .sentinel, .pinned] true (true, "cdde387c1ac29a44d7d3fa10cadcb139135bb0dfc6233ea846efb5a17d20fbbf") true over (fun _ h => by cases h) NodeKnownGoes.wf (fun _ h => by cases h) nodeKnown_row_tie rfl ⟨rfl, rfl⟩ NodeKnownGoes.main rfl
    (fun f fn hf hfn => by
      obtain rfl : f = 7 := Option.some.inj ((show Tryz.prog.funcNamed "outrider/outriderlaw25.NodeKnown" = some 7 from NodeKnownGoes.fnm).symm.trans hf) |>.symm
      obtain rfl : fn = Tryz.f7 := (Option.some.inj (Tryz.func7.symm.trans hfn)).symm
      exact ⟨Facts.looks, fun j t ht => by rw [Tryz.params7] at ht; simp at ht⟩)
    NodeKnownGoes.goes
#print axioms proved
end Go.Proofs.YthcmmhjbdggfjaaGreatDoor.nodeKnown
