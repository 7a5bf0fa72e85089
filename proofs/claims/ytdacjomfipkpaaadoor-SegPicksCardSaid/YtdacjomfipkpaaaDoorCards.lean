/-
  DERIVED. GIVEN WITH THE SEED: THE CARDS: each row of YtdacjomfipkpaaaDoorRows.lean that lists a variable, with what it lists TIED to the program's text (the seventh form; the later family's looks); each row that meets fmt, with fmt's text TOLD by the authors' own Lean function (tested against real Go, not proved from fmt's source: count such statements apart). THE CARD IS WHAT COUNTS. Prove the row's statement (the work); the ties are given (YtdacjomfipkpaaaDoorTie.lean); close each card by the builder's one call (the guide's Derived/Test/ToyasCard.lean, 'card_holds'). Laid BY PROGRAM, IN A SANDBOX (cutbox-door.mjs). By AI agents, Wed Nov 11 2026. No macro, syntax, notation, axiom, sorry.
-/
import Derived.Test.YtdacjomfipkpaaaDoorRows
import GoSem.ClaimSeven
namespace Go.Proofs.YtdacjomfipkpaaaDoor
namespace Rows

/-- THE TIED CARD OF 'outriderlaw6.SegNames'. -/
def segNamesCard : Claim7 := { stood := { row := segNamesRow, standIns := [], harness := (true, "c4a850e6b6b06c621ff0e234282ebe4dab5bc829a76f555b3d10d2049f5b3f98"), looks := true }, kinds := [], alts := [], laidByText := true, laidKinds := [.data, .data, .data, .sentinel, .sentinel], laidTests := true, laidLooks := .later }
def SegNamesCardSaid : Prop := Claim7.holds Tryd.pinned (.plain (OpenSpec.ofChange segNamesSpec)) segNamesCard

/-- THE TIED CARD OF 'outriderlaw6.SegSays'. -/
def segSaysCard : Claim7 := { stood := { row := segSaysRow, standIns := [], harness := (true, "c4a850e6b6b06c621ff0e234282ebe4dab5bc829a76f555b3d10d2049f5b3f98"), looks := true }, kinds := [], alts := [], laidByText := true, laidKinds := [.data, .data, .data, .sentinel, .sentinel], laidTests := true, laidLooks := .later }
def SegSaysCardSaid : Prop := Claim7.holds Tryd.pinned (.plain (OpenSpec.ofChange segSaysSpec)) segSaysCard

/-- THE TIED CARD OF 'outriderlaw6.SegScans'. -/
def segScansCard : Claim7 := { stood := { row := segScansRow, standIns := [], harness := (true, "c4a850e6b6b06c621ff0e234282ebe4dab5bc829a76f555b3d10d2049f5b3f98"), looks := true }, kinds := [], alts := [], laidByText := true, laidKinds := [.data, .data, .data, .sentinel, .sentinel], laidTests := true, laidLooks := .later }
def SegScansCardSaid : Prop := Claim7.holds Tryd.pinned (.plain (OpenSpec.ofChange segScansSpec)) segScansCard

/-- THE TIED CARD OF 'outriderlaw6.SegBehind'. -/
def segBehindCard : Claim7 := { stood := { row := segBehindRow, standIns := [], harness := (true, "c4a850e6b6b06c621ff0e234282ebe4dab5bc829a76f555b3d10d2049f5b3f98"), looks := true }, kinds := [], alts := [], laidByText := true, laidKinds := [.data, .data, .data, .sentinel, .sentinel], laidTests := true, laidLooks := .later }
def SegBehindCardSaid : Prop := Claim7.holds Tryd.pinned (.plain (OpenSpec.ofChange segBehindSpec)) segBehindCard

/-- THE TIED CARD OF 'outriderlaw6.SegPicks'. -/
def segPicksCard : Claim7 := { stood := { row := segPicksRow, standIns := [], harness := (true, "c4a850e6b6b06c621ff0e234282ebe4dab5bc829a76f555b3d10d2049f5b3f98"), looks := true }, kinds := [], alts := [], laidByText := true, laidKinds := [.data, .data, .data, .sentinel, .sentinel], laidTests := true, laidLooks := .later }
def SegPicksCardSaid : Prop := Claim7.holds Tryd.pinned (.plain (OpenSpec.ofChange segPicksSpec)) segPicksCard

/-- THE TIED CARD OF 'outriderlaw6.SegKnown'. -/
def segKnownCard : Claim7 := { stood := { row := segKnownRow, standIns := [], harness := (true, "c4a850e6b6b06c621ff0e234282ebe4dab5bc829a76f555b3d10d2049f5b3f98"), looks := true }, kinds := [], alts := [], laidByText := true, laidKinds := [.data, .data, .data, .sentinel, .sentinel], laidTests := true, laidLooks := .later }
def SegKnownCardSaid : Prop := Claim7.holds Tryd.pinned (.plain (OpenSpec.ofChange segKnownSpec)) segKnownCard

/-- THE SECOND FORM's CARD OF 'outriderlaw6.SegNames'. -/
def segNamesUptoCard : Claim7 := { stood := { row := segNamesUptoRow, standIns := [], harness := (true, "c4a850e6b6b06c621ff0e234282ebe4dab5bc829a76f555b3d10d2049f5b3f98"), looks := true }, kinds := [], alts := [], laidByText := true, laidKinds := [.data, .data, .data, .sentinel, .sentinel], laidTests := true, laidLooks := .later }
def SegNamesUptoCardSaid : Prop := Claim7.holds Tryd.pinned (.plain (OpenSpec.upto segNamesSpec)) segNamesUptoCard

/-- THE SECOND FORM's CARD OF 'outriderlaw6.SegSays'. -/
def segSaysUptoCard : Claim7 := { stood := { row := segSaysUptoRow, standIns := [], harness := (true, "c4a850e6b6b06c621ff0e234282ebe4dab5bc829a76f555b3d10d2049f5b3f98"), looks := true }, kinds := [], alts := [], laidByText := true, laidKinds := [.data, .data, .data, .sentinel, .sentinel], laidTests := true, laidLooks := .later }
def SegSaysUptoCardSaid : Prop := Claim7.holds Tryd.pinned (.plain (OpenSpec.upto segSaysSpec)) segSaysUptoCard

/-- THE SECOND FORM's CARD OF 'outriderlaw6.SegScans'. -/
def segScansUptoCard : Claim7 := { stood := { row := segScansUptoRow, standIns := [], harness := (true, "c4a850e6b6b06c621ff0e234282ebe4dab5bc829a76f555b3d10d2049f5b3f98"), looks := true }, kinds := [], alts := [], laidByText := true, laidKinds := [.data, .data, .data, .sentinel, .sentinel], laidTests := true, laidLooks := .later }
def SegScansUptoCardSaid : Prop := Claim7.holds Tryd.pinned (.plain (OpenSpec.upto segScansSpec)) segScansUptoCard

/-- THE SECOND FORM's CARD OF 'outriderlaw6.SegBehind'. -/
def segBehindUptoCard : Claim7 := { stood := { row := segBehindUptoRow, standIns := [], harness := (true, "c4a850e6b6b06c621ff0e234282ebe4dab5bc829a76f555b3d10d2049f5b3f98"), looks := true }, kinds := [], alts := [], laidByText := true, laidKinds := [.data, .data, .data, .sentinel, .sentinel], laidTests := true, laidLooks := .later }
def SegBehindUptoCardSaid : Prop := Claim7.holds Tryd.pinned (.plain (OpenSpec.upto segBehindSpec)) segBehindUptoCard

/-- THE SECOND FORM's CARD OF 'outriderlaw6.SegPicks'. -/
def segPicksUptoCard : Claim7 := { stood := { row := segPicksUptoRow, standIns := [], harness := (true, "c4a850e6b6b06c621ff0e234282ebe4dab5bc829a76f555b3d10d2049f5b3f98"), looks := true }, kinds := [], alts := [], laidByText := true, laidKinds := [.data, .data, .data, .sentinel, .sentinel], laidTests := true, laidLooks := .later }
def SegPicksUptoCardSaid : Prop := Claim7.holds Tryd.pinned (.plain (OpenSpec.upto segPicksSpec)) segPicksUptoCard

/-- THE SECOND FORM's CARD OF 'outriderlaw6.SegKnown'. -/
def segKnownUptoCard : Claim7 := { stood := { row := segKnownUptoRow, standIns := [], harness := (true, "c4a850e6b6b06c621ff0e234282ebe4dab5bc829a76f555b3d10d2049f5b3f98"), looks := true }, kinds := [], alts := [], laidByText := true, laidKinds := [.data, .data, .data, .sentinel, .sentinel], laidTests := true, laidLooks := .later }
def SegKnownUptoCardSaid : Prop := Claim7.holds Tryd.pinned (.plain (OpenSpec.upto segKnownSpec)) segKnownUptoCard
end Rows
end Go.Proofs.YtdacjomfipkpaaaDoor
