/-
  DERIVED. GIVEN WITH THE SEED: THE CARDS: each row of YtpdbigiobaabkaaGreatDoorRows.lean that lists a variable, with what it lists TIED to the program's text (the seventh form; the later family's looks); each row that meets fmt, with fmt's text TOLD by the authors' own Lean function (tested against real Go, not proved from fmt's source: count such statements apart). THE CARD IS WHAT COUNTS. Prove the row's statement (the work); the ties are given (YtpdbigiobaabkaaGreatDoorTie.lean); close each card by the builder's one call (the guide's Derived/Test/ToyasCard.lean, 'card_holds'). Laid BY PROGRAM, IN A SANDBOX (cutbox-door.mjs). By AI agents, Wed Nov 11 2026. No macro, syntax, notation, axiom, sorry.
-/
import Derived.Test.YtpdbigiobaabkaaGreatDoorRows
import GoSem.ClaimSeven
namespace Go.Proofs.YtpdbigiobaabkaaGreatDoor
namespace Rows

/-- THE TIED CARD OF 'outriderlaw12.DefKnown'. -/
def defKnownCard : Claim7 := { stood := { row := defKnownRow, standIns := [], harness := (true, "026a6cc271b19d9276006492bbe2637c315c068a33652da6aa396b111ce968f5"), looks := true }, kinds := [], alts := [], laidByText := true, laidKinds := [.data, .data, .data, .data, .sentinel, .sentinel, .pinned], laidTests := true, laidLooks := .later }
def DefKnownCardSaid : Prop := Claim7.holds Tryz.pinned (.plain (OpenSpec.ofChange defKnownSpec)) defKnownCard

/-- THE TIED CARD OF 'outriderlaw16.RunKnown'. -/
def runKnownCard : Claim7 := { stood := { row := runKnownRow, standIns := [], harness := (true, "026a6cc271b19d9276006492bbe2637c315c068a33652da6aa396b111ce968f5"), looks := true }, kinds := [], alts := [], laidByText := true, laidKinds := [.data, .data, .data, .data, .sentinel, .sentinel, .pinned], laidTests := true, laidLooks := .later }
def RunKnownCardSaid : Prop := Claim7.holds Tryz.pinned (.plain (OpenSpec.ofChange runKnownSpec)) runKnownCard

/-- THE SECOND FORM's CARD OF 'outriderlaw12.DefKnown'. -/
def defKnownUptoCard : Claim7 := { stood := { row := defKnownUptoRow, standIns := [], harness := (true, "026a6cc271b19d9276006492bbe2637c315c068a33652da6aa396b111ce968f5"), looks := true }, kinds := [], alts := [], laidByText := true, laidKinds := [.data, .data, .data, .data, .sentinel, .sentinel, .pinned], laidTests := true, laidLooks := .later }
def DefKnownUptoCardSaid : Prop := Claim7.holds Tryz.pinned (.plain (OpenSpec.upto defKnownSpec)) defKnownUptoCard

/-- THE SECOND FORM's CARD OF 'outriderlaw16.RunKnown'. -/
def runKnownUptoCard : Claim7 := { stood := { row := runKnownUptoRow, standIns := [], harness := (true, "026a6cc271b19d9276006492bbe2637c315c068a33652da6aa396b111ce968f5"), looks := true }, kinds := [], alts := [], laidByText := true, laidKinds := [.data, .data, .data, .data, .sentinel, .sentinel, .pinned], laidTests := true, laidLooks := .later }
def RunKnownUptoCardSaid : Prop := Claim7.holds Tryz.pinned (.plain (OpenSpec.upto runKnownSpec)) runKnownUptoCard
end Rows
end Go.Proofs.YtpdbigiobaabkaaGreatDoor
