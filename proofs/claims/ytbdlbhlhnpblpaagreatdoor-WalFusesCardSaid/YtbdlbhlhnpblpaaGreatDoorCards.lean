/-
  DERIVED. GIVEN WITH THE SEED: THE CARDS: each row of YtbdlbhlhnpblpaaGreatDoorRows.lean that lists a variable, with what it lists TIED to the program's text (the seventh form; the later family's looks); each row that meets fmt, with fmt's text TOLD by the authors' own Lean function (tested against real Go, not proved from fmt's source: count such statements apart). THE CARD IS WHAT COUNTS. Prove the row's statement (the work); the ties are given (YtbdlbhlhnpblpaaGreatDoorTie.lean); close each card by the builder's one call (the guide's Derived/Test/ToyasCard.lean, 'card_holds'). Laid BY PROGRAM, IN A SANDBOX (cutbox-door.mjs). By AI agents, Wed Nov 11 2026. No macro, syntax, notation, axiom, sorry.
-/
import Derived.Test.YtbdlbhlhnpblpaaGreatDoorRows
import GoSem.ClaimSeven
namespace Go.Proofs.YtbdlbhlhnpblpaaGreatDoor
namespace Rows

/-- THE TIED CARD OF 'outriderlaw7.WalSince'. -/
def walSinceCard : Claim7 := { stood := { row := walSinceRow, standIns := [], harness := (true, "a8a1e6c0f368c85d871750e85f77b63a683443800c4c8ed225249fdd65d965f0"), looks := true }, kinds := [], alts := [], laidByText := true, laidKinds := [.data, .data, .data, .data, .sentinel, .sentinel, .pinned], laidTests := true, laidLooks := .later }
def WalSinceCardSaid : Prop := Claim7.holds Tryz.pinned (.plain (OpenSpec.ofChange walSinceSpec)) walSinceCard

/-- THE TIED CARD OF 'outriderlaw7.WalCuts'. -/
def walCutsCard : Claim7 := { stood := { row := walCutsRow, standIns := [], harness := (true, "a8a1e6c0f368c85d871750e85f77b63a683443800c4c8ed225249fdd65d965f0"), looks := true }, kinds := [], alts := [], laidByText := true, laidKinds := [.data, .data, .data, .data, .sentinel, .sentinel, .pinned], laidTests := true, laidLooks := .later }
def WalCutsCardSaid : Prop := Claim7.holds Tryz.pinned (.plain (OpenSpec.ofChange walCutsSpec)) walCutsCard

/-- THE TIED CARD OF 'outriderlaw7.WalFuses'. -/
def walFusesCard : Claim7 := { stood := { row := walFusesRow, standIns := [], harness := (true, "a8a1e6c0f368c85d871750e85f77b63a683443800c4c8ed225249fdd65d965f0"), looks := true }, kinds := [], alts := [], laidByText := true, laidKinds := [.data, .data, .data, .data, .sentinel, .sentinel, .pinned], laidTests := true, laidLooks := .later }
def WalFusesCardSaid : Prop := Claim7.holds Tryz.pinned (.plain (OpenSpec.ofChange walFusesSpec)) walFusesCard

/-- THE SECOND FORM's CARD OF 'outriderlaw7.WalSince'. -/
def walSinceUptoCard : Claim7 := { stood := { row := walSinceUptoRow, standIns := [], harness := (true, "a8a1e6c0f368c85d871750e85f77b63a683443800c4c8ed225249fdd65d965f0"), looks := true }, kinds := [], alts := [], laidByText := true, laidKinds := [.data, .data, .data, .data, .sentinel, .sentinel, .pinned], laidTests := true, laidLooks := .later }
def WalSinceUptoCardSaid : Prop := Claim7.holds Tryz.pinned (.plain (OpenSpec.upto walSinceSpec)) walSinceUptoCard

/-- THE SECOND FORM's CARD OF 'outriderlaw7.WalCuts'. -/
def walCutsUptoCard : Claim7 := { stood := { row := walCutsUptoRow, standIns := [], harness := (true, "a8a1e6c0f368c85d871750e85f77b63a683443800c4c8ed225249fdd65d965f0"), looks := true }, kinds := [], alts := [], laidByText := true, laidKinds := [.data, .data, .data, .data, .sentinel, .sentinel, .pinned], laidTests := true, laidLooks := .later }
def WalCutsUptoCardSaid : Prop := Claim7.holds Tryz.pinned (.plain (OpenSpec.upto walCutsSpec)) walCutsUptoCard

/-- THE SECOND FORM's CARD OF 'outriderlaw7.WalFuses'. -/
def walFusesUptoCard : Claim7 := { stood := { row := walFusesUptoRow, standIns := [], harness := (true, "a8a1e6c0f368c85d871750e85f77b63a683443800c4c8ed225249fdd65d965f0"), looks := true }, kinds := [], alts := [], laidByText := true, laidKinds := [.data, .data, .data, .data, .sentinel, .sentinel, .pinned], laidTests := true, laidLooks := .later }
def WalFusesUptoCardSaid : Prop := Claim7.holds Tryz.pinned (.plain (OpenSpec.upto walFusesSpec)) walFusesUptoCard
end Rows
end Go.Proofs.YtbdlbhlhnpblpaaGreatDoor
