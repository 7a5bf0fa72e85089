/-
  DERIVED. GIVEN WITH THE SEED: THE CARDS: each row of YtmjndjpkfgmfoaaGreatDoorRows.lean that lists a variable, with what it lists TIED to the program's text (the seventh form; the later family's looks); each row that meets fmt, with fmt's text TOLD by the authors' own Lean function (tested against real Go, not proved from fmt's source: count such statements apart). THE CARD IS WHAT COUNTS. Prove the row's statement (the work); the ties are given (YtmjndjpkfgmfoaaGreatDoorTie.lean); close each card by the builder's one call (the guide's Derived/Test/ToyasCard.lean, 'card_holds'). Laid BY PROGRAM, IN A SANDBOX (cutbox-door.mjs). By AI agents, Wed Nov 11 2026. No macro, syntax, notation, axiom, sorry.
-/
import Derived.Test.YtmjndjpkfgmfoaaGreatDoorRows
import GoSem.ClaimSeven
namespace Go.Proofs.YtmjndjpkfgmfoaaGreatDoor
namespace Rows

/-- THE TIED CARD OF 'outriderlaw20.AdmitKnown'. -/
def admitKnownCard : Claim7 := { stood := { row := admitKnownRow, standIns := [], harness := (true, "691e9e7c5613b81d21ee1af90ba47bf0b4cc8f13711de0ca8c25679139b19b1f"), looks := true }, kinds := [], alts := [], laidByText := true, laidKinds := [.data, .data, .data, .data, .sentinel, .sentinel, .pinned], laidTests := true, laidLooks := .later }
def AdmitKnownCardSaid : Prop := Claim7.holds Tryz.pinned (.plain (OpenSpec.ofChange admitKnownSpec)) admitKnownCard

/-- THE TIED CARD OF 'outriderlaw20.AdmitTakes'. -/
def admitTakesCard : Claim7 := { stood := { row := admitTakesRow, standIns := [], harness := (true, "691e9e7c5613b81d21ee1af90ba47bf0b4cc8f13711de0ca8c25679139b19b1f"), looks := true }, kinds := [], alts := [], laidByText := true, laidKinds := [.data, .data, .data, .data, .sentinel, .sentinel, .pinned], laidTests := true, laidLooks := .later }
def AdmitTakesCardSaid : Prop := Claim7.holds Tryz.pinned (.plain (OpenSpec.ofChange admitTakesSpec)) admitTakesCard

/-- THE TIED CARD OF 'outriderlaw20.AdmitKeys'. -/
def admitKeysCard : Claim7 := { stood := { row := admitKeysRow, standIns := [], harness := (true, "691e9e7c5613b81d21ee1af90ba47bf0b4cc8f13711de0ca8c25679139b19b1f"), looks := true }, kinds := [], alts := [], laidByText := true, laidKinds := [.data, .data, .data, .data, .sentinel, .sentinel, .pinned], laidTests := true, laidLooks := .later }
def AdmitKeysCardSaid : Prop := Claim7.holds Tryz.pinned (.plain (OpenSpec.ofChange admitKeysSpec)) admitKeysCard

/-- THE SECOND FORM's CARD OF 'outriderlaw20.AdmitKnown'. -/
def admitKnownUptoCard : Claim7 := { stood := { row := admitKnownUptoRow, standIns := [], harness := (true, "691e9e7c5613b81d21ee1af90ba47bf0b4cc8f13711de0ca8c25679139b19b1f"), looks := true }, kinds := [], alts := [], laidByText := true, laidKinds := [.data, .data, .data, .data, .sentinel, .sentinel, .pinned], laidTests := true, laidLooks := .later }
def AdmitKnownUptoCardSaid : Prop := Claim7.holds Tryz.pinned (.plain (OpenSpec.upto admitKnownSpec)) admitKnownUptoCard

/-- THE SECOND FORM's CARD OF 'outriderlaw20.AdmitTakes'. -/
def admitTakesUptoCard : Claim7 := { stood := { row := admitTakesUptoRow, standIns := [], harness := (true, "691e9e7c5613b81d21ee1af90ba47bf0b4cc8f13711de0ca8c25679139b19b1f"), looks := true }, kinds := [], alts := [], laidByText := true, laidKinds := [.data, .data, .data, .data, .sentinel, .sentinel, .pinned], laidTests := true, laidLooks := .later }
def AdmitTakesUptoCardSaid : Prop := Claim7.holds Tryz.pinned (.plain (OpenSpec.upto admitTakesSpec)) admitTakesUptoCard

/-- THE SECOND FORM's CARD OF 'outriderlaw20.AdmitKeys'. -/
def admitKeysUptoCard : Claim7 := { stood := { row := admitKeysUptoRow, standIns := [], harness := (true, "691e9e7c5613b81d21ee1af90ba47bf0b4cc8f13711de0ca8c25679139b19b1f"), looks := true }, kinds := [], alts := [], laidByText := true, laidKinds := [.data, .data, .data, .data, .sentinel, .sentinel, .pinned], laidTests := true, laidLooks := .later }
def AdmitKeysUptoCardSaid : Prop := Claim7.holds Tryz.pinned (.plain (OpenSpec.upto admitKeysSpec)) admitKeysUptoCard
end Rows
end Go.Proofs.YtmjndjpkfgmfoaaGreatDoor
