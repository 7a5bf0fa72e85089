/-
  DERIVED. GIVEN WITH THE SEED: THE CARDS: each row of YthcmmhjbdggfjaaGreatDoorRows.lean that lists a variable, with what it lists TIED to the program's text (the seventh form; the later family's looks); each row that meets fmt, with fmt's text TOLD by the authors' own Lean function (tested against real Go, not proved from fmt's source: count such statements apart). THE CARD IS WHAT COUNTS. Prove the row's statement (the work); the ties are given (YthcmmhjbdggfjaaGreatDoorTie.lean); close each card by the builder's one call (the guide's Derived/Test/ToyasCard.lean, 'card_holds'). Laid BY PROGRAM, IN A SANDBOX (cutbox-door.mjs). By AI agents, Wed Nov 11 2026. No macro, syntax, notation, axiom, sorry.
-/
import Derived.Test.YthcmmhjbdggfjaaGreatDoorRows
import GoSem.ClaimSeven
namespace Go.Proofs.YthcmmhjbdggfjaaGreatDoor
namespace Rows

/-- THE TIED CARD OF 'outridertop.TopNames'. -/
def topNamesCard : Claim7 := { stood := { row := topNamesRow, standIns := [], harness := (true, "cdde387c1ac29a44d7d3fa10cadcb139135bb0dfc6233ea846efb5a17d20fbbf"), looks := true }, kinds := [], alts := [], laidByText := true, laidKinds := [.data, .data, .data, .data, .sentinel, .sentinel, .pinned], laidTests := true, laidLooks := .later }
def TopNamesCardSaid : Prop := Claim7.holds Tryz.pinned (.plain (OpenSpec.ofChange topNamesSpec)) topNamesCard

/-- THE TIED CARD OF 'outriderlaw12.DefKnown'. -/
def defKnownCard : Claim7 := { stood := { row := defKnownRow, standIns := [], harness := (true, "cdde387c1ac29a44d7d3fa10cadcb139135bb0dfc6233ea846efb5a17d20fbbf"), looks := true }, kinds := [], alts := [], laidByText := true, laidKinds := [.data, .data, .data, .data, .sentinel, .sentinel, .pinned], laidTests := true, laidLooks := .later }
def DefKnownCardSaid : Prop := Claim7.holds Tryz.pinned (.plain (OpenSpec.ofChange defKnownSpec)) defKnownCard

/-- THE TIED CARD OF 'outriderlaw19.SnapKnown'. -/
def snapKnownCard : Claim7 := { stood := { row := snapKnownRow, standIns := [], harness := (true, "cdde387c1ac29a44d7d3fa10cadcb139135bb0dfc6233ea846efb5a17d20fbbf"), looks := true }, kinds := [], alts := [], laidByText := true, laidKinds := [.data, .data, .data, .data, .sentinel, .sentinel, .pinned], laidTests := true, laidLooks := .later }
def SnapKnownCardSaid : Prop := Claim7.holds Tryz.pinned (.plain (OpenSpec.ofChange snapKnownSpec)) snapKnownCard

/-- THE TIED CARD OF 'outriderlaw21.EngineKnown'. -/
def engineKnownCard : Claim7 := { stood := { row := engineKnownRow, standIns := [], harness := (true, "cdde387c1ac29a44d7d3fa10cadcb139135bb0dfc6233ea846efb5a17d20fbbf"), looks := true }, kinds := [], alts := [], laidByText := true, laidKinds := [.data, .data, .data, .data, .sentinel, .sentinel, .pinned], laidTests := true, laidLooks := .later }
def EngineKnownCardSaid : Prop := Claim7.holds Tryz.pinned (.plain (OpenSpec.ofChange engineKnownSpec)) engineKnownCard

/-- THE TIED CARD OF 'outriderlaw25.NodeKnown'. -/
def nodeKnownCard : Claim7 := { stood := { row := nodeKnownRow, standIns := [], harness := (true, "cdde387c1ac29a44d7d3fa10cadcb139135bb0dfc6233ea846efb5a17d20fbbf"), looks := true }, kinds := [], alts := [], laidByText := true, laidKinds := [.data, .data, .data, .data, .sentinel, .sentinel, .pinned], laidTests := true, laidLooks := .later }
def NodeKnownCardSaid : Prop := Claim7.holds Tryz.pinned (.plain (OpenSpec.ofChange nodeKnownSpec)) nodeKnownCard

/-- THE SECOND FORM's CARD OF 'outridertop.TopNames'. -/
def topNamesUptoCard : Claim7 := { stood := { row := topNamesUptoRow, standIns := [], harness := (true, "cdde387c1ac29a44d7d3fa10cadcb139135bb0dfc6233ea846efb5a17d20fbbf"), looks := true }, kinds := [], alts := [], laidByText := true, laidKinds := [.data, .data, .data, .data, .sentinel, .sentinel, .pinned], laidTests := true, laidLooks := .later }
def TopNamesUptoCardSaid : Prop := Claim7.holds Tryz.pinned (.plain (OpenSpec.upto topNamesSpec)) topNamesUptoCard

/-- THE SECOND FORM's CARD OF 'outriderlaw12.DefKnown'. -/
def defKnownUptoCard : Claim7 := { stood := { row := defKnownUptoRow, standIns := [], harness := (true, "cdde387c1ac29a44d7d3fa10cadcb139135bb0dfc6233ea846efb5a17d20fbbf"), looks := true }, kinds := [], alts := [], laidByText := true, laidKinds := [.data, .data, .data, .data, .sentinel, .sentinel, .pinned], laidTests := true, laidLooks := .later }
def DefKnownUptoCardSaid : Prop := Claim7.holds Tryz.pinned (.plain (OpenSpec.upto defKnownSpec)) defKnownUptoCard

/-- THE SECOND FORM's CARD OF 'outriderlaw19.SnapKnown'. -/
def snapKnownUptoCard : Claim7 := { stood := { row := snapKnownUptoRow, standIns := [], harness := (true, "cdde387c1ac29a44d7d3fa10cadcb139135bb0dfc6233ea846efb5a17d20fbbf"), looks := true }, kinds := [], alts := [], laidByText := true, laidKinds := [.data, .data, .data, .data, .sentinel, .sentinel, .pinned], laidTests := true, laidLooks := .later }
def SnapKnownUptoCardSaid : Prop := Claim7.holds Tryz.pinned (.plain (OpenSpec.upto snapKnownSpec)) snapKnownUptoCard

/-- THE SECOND FORM's CARD OF 'outriderlaw21.EngineKnown'. -/
def engineKnownUptoCard : Claim7 := { stood := { row := engineKnownUptoRow, standIns := [], harness := (true, "cdde387c1ac29a44d7d3fa10cadcb139135bb0dfc6233ea846efb5a17d20fbbf"), looks := true }, kinds := [], alts := [], laidByText := true, laidKinds := [.data, .data, .data, .data, .sentinel, .sentinel, .pinned], laidTests := true, laidLooks := .later }
def EngineKnownUptoCardSaid : Prop := Claim7.holds Tryz.pinned (.plain (OpenSpec.upto engineKnownSpec)) engineKnownUptoCard

/-- THE SECOND FORM's CARD OF 'outriderlaw25.NodeKnown'. -/
def nodeKnownUptoCard : Claim7 := { stood := { row := nodeKnownUptoRow, standIns := [], harness := (true, "cdde387c1ac29a44d7d3fa10cadcb139135bb0dfc6233ea846efb5a17d20fbbf"), looks := true }, kinds := [], alts := [], laidByText := true, laidKinds := [.data, .data, .data, .data, .sentinel, .sentinel, .pinned], laidTests := true, laidLooks := .later }
def NodeKnownUptoCardSaid : Prop := Claim7.holds Tryz.pinned (.plain (OpenSpec.upto nodeKnownSpec)) nodeKnownUptoCard
end Rows
end Go.Proofs.YthcmmhjbdggfjaaGreatDoor
