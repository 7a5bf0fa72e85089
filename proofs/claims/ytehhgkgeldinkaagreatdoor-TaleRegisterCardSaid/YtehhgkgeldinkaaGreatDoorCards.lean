/-
  DERIVED. GIVEN WITH THE SEED: THE CARDS: each row of YtehhgkgeldinkaaGreatDoorRows.lean that lists a variable, with what it lists TIED to the program's text (the seventh form; the later family's looks); each row that meets fmt, with fmt's text TOLD by the authors' own Lean function (tested against real Go, not proved from fmt's source: count such statements apart). THE CARD IS WHAT COUNTS. Prove the row's statement (the work); the ties are given (YtehhgkgeldinkaaGreatDoorTie.lean); close each card by the builder's one call (the guide's Derived/Test/ToyasCard.lean, 'card_holds'). Laid BY PROGRAM, IN A SANDBOX (cutbox-door.mjs). By AI agents, Wed Nov 11 2026. No macro, syntax, notation, axiom, sorry.
-/
import Derived.Test.YtehhgkgeldinkaaGreatDoorRows
import GoSem.ClaimSeven
namespace Go.Proofs.YtehhgkgeldinkaaGreatDoor
namespace Rows

/-- THE TIED CARD OF 'outriderlaw28.TaleKnown'. -/
def taleKnownCard : Claim7 := { stood := { row := taleKnownRow, standIns := [], harness := (true, "3aa4ccec9cec37d65136838497ae307c83702d6753d061b70183ff04abe8e251"), looks := true }, kinds := [], alts := [], laidByText := true, laidKinds := [.data, .data, .data, .data, .sentinel, .sentinel, .pinned], laidTests := true, laidLooks := .later }
def TaleKnownCardSaid : Prop := Claim7.holds Tryz.pinned (.plain (OpenSpec.ofChange taleKnownSpec)) taleKnownCard

/-- THE TIED CARD OF 'outriderlaw28.TaleRegister'. -/
def taleRegisterCard : Claim7 := { stood := { row := taleRegisterRow, standIns := [], harness := (true, "3aa4ccec9cec37d65136838497ae307c83702d6753d061b70183ff04abe8e251"), looks := true }, kinds := [], alts := [], laidByText := true, laidKinds := [.data, .data, .data, .data, .sentinel, .sentinel, .pinned], laidTests := true, laidLooks := .later }
def TaleRegisterCardSaid : Prop := Claim7.holds Tryz.pinned (.plain (OpenSpec.ofChange taleRegisterSpec)) taleRegisterCard

/-- THE SECOND FORM's CARD OF 'outriderlaw28.TaleKnown'. -/
def taleKnownUptoCard : Claim7 := { stood := { row := taleKnownUptoRow, standIns := [], harness := (true, "3aa4ccec9cec37d65136838497ae307c83702d6753d061b70183ff04abe8e251"), looks := true }, kinds := [], alts := [], laidByText := true, laidKinds := [.data, .data, .data, .data, .sentinel, .sentinel, .pinned], laidTests := true, laidLooks := .later }
def TaleKnownUptoCardSaid : Prop := Claim7.holds Tryz.pinned (.plain (OpenSpec.upto taleKnownSpec)) taleKnownUptoCard

/-- THE SECOND FORM's CARD OF 'outriderlaw28.TaleRegister'. -/
def taleRegisterUptoCard : Claim7 := { stood := { row := taleRegisterUptoRow, standIns := [], harness := (true, "3aa4ccec9cec37d65136838497ae307c83702d6753d061b70183ff04abe8e251"), looks := true }, kinds := [], alts := [], laidByText := true, laidKinds := [.data, .data, .data, .data, .sentinel, .sentinel, .pinned], laidTests := true, laidLooks := .later }
def TaleRegisterUptoCardSaid : Prop := Claim7.holds Tryz.pinned (.plain (OpenSpec.upto taleRegisterSpec)) taleRegisterUptoCard
end Rows
end Go.Proofs.YtehhgkgeldinkaaGreatDoor
