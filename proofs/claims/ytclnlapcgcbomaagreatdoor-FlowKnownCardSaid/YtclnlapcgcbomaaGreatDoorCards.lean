/-
  DERIVED. GIVEN WITH THE SEED: THE CARDS: each row of YtclnlapcgcbomaaGreatDoorRows.lean that lists a variable, with what it lists TIED to the program's text (the seventh form; the later family's looks); each row that meets fmt, with fmt's text TOLD by the authors' own Lean function (tested against real Go, not proved from fmt's source: count such statements apart). THE CARD IS WHAT COUNTS. Prove the row's statement (the work); the ties are given (YtclnlapcgcbomaaGreatDoorTie.lean); close each card by the builder's one call (the guide's Derived/Test/ToyasCard.lean, 'card_holds'). Laid BY PROGRAM, IN A SANDBOX (cutbox-door.mjs). By AI agents, Wed Nov 11 2026. No macro, syntax, notation, axiom, sorry.
-/
import Derived.Test.YtclnlapcgcbomaaGreatDoorRows
import GoSem.ClaimSeven
namespace Go.Proofs.YtclnlapcgcbomaaGreatDoor
namespace Rows

/-- THE TIED CARD OF 'outriderlaw18.FlowClock'. -/
def flowClockCard : Claim7 := { stood := { row := flowClockRow, standIns := [], harness := (true, "7fbc97797f81819932b7d6ce46f3177a9eedd24737019ffbc5f46da2bb3460c2"), looks := true }, kinds := [], alts := [], laidByText := true, laidKinds := [.data, .data, .data, .data, .sentinel, .sentinel, .pinned], laidTests := true, laidLooks := .later }
def FlowClockCardSaid : Prop := Claim7.holds Tryz.pinned (.plain (OpenSpec.ofChange flowClockSpec)) flowClockCard

/-- THE TIED CARD OF 'outriderlaw18.FlowKeys'. -/
def flowKeysCard : Claim7 := { stood := { row := flowKeysRow, standIns := [], harness := (true, "7fbc97797f81819932b7d6ce46f3177a9eedd24737019ffbc5f46da2bb3460c2"), looks := true }, kinds := [], alts := [], laidByText := true, laidKinds := [.data, .data, .data, .data, .sentinel, .sentinel, .pinned], laidTests := true, laidLooks := .later }
def FlowKeysCardSaid : Prop := Claim7.holds Tryz.pinned (.plain (OpenSpec.ofChange flowKeysSpec)) flowKeysCard

/-- THE TIED CARD OF 'outriderlaw18.FlowApart'. -/
def flowApartCard : Claim7 := { stood := { row := flowApartRow, standIns := [], harness := (true, "7fbc97797f81819932b7d6ce46f3177a9eedd24737019ffbc5f46da2bb3460c2"), looks := true }, kinds := [], alts := [], laidByText := true, laidKinds := [.data, .data, .data, .data, .sentinel, .sentinel, .pinned], laidTests := true, laidLooks := .later }
def FlowApartCardSaid : Prop := Claim7.holds Tryz.pinned (.plain (OpenSpec.ofChange flowApartSpec)) flowApartCard

/-- THE TIED CARD OF 'outriderlaw18.FlowKnown'. -/
def flowKnownCard : Claim7 := { stood := { row := flowKnownRow, standIns := [], harness := (true, "7fbc97797f81819932b7d6ce46f3177a9eedd24737019ffbc5f46da2bb3460c2"), looks := true }, kinds := [], alts := [], laidByText := true, laidKinds := [.data, .data, .data, .data, .sentinel, .sentinel, .pinned], laidTests := true, laidLooks := .later }
def FlowKnownCardSaid : Prop := Claim7.holds Tryz.pinned (.plain (OpenSpec.ofChange flowKnownSpec)) flowKnownCard

/-- THE TIED CARD OF 'outriderlaw18.FlowFrom'. -/
def flowFromCard : Claim7 := { stood := { row := flowFromRow, standIns := [], harness := (true, "7fbc97797f81819932b7d6ce46f3177a9eedd24737019ffbc5f46da2bb3460c2"), looks := true }, kinds := [], alts := [], laidByText := true, laidKinds := [.data, .data, .data, .data, .sentinel, .sentinel, .pinned], laidTests := true, laidLooks := .later }
def FlowFromCardSaid : Prop := Claim7.holds Tryz.pinned (.plain (OpenSpec.ofChange flowFromSpec)) flowFromCard

/-- THE TIED CARD OF 'outriderlaw18.FlowStates'. -/
def flowStatesCard : Claim7 := { stood := { row := flowStatesRow, standIns := [], harness := (true, "7fbc97797f81819932b7d6ce46f3177a9eedd24737019ffbc5f46da2bb3460c2"), looks := true }, kinds := [], alts := [], laidByText := true, laidKinds := [.data, .data, .data, .data, .sentinel, .sentinel, .pinned], laidTests := true, laidLooks := .later }
def FlowStatesCardSaid : Prop := Claim7.holds Tryz.pinned (.plain (OpenSpec.ofChange flowStatesSpec)) flowStatesCard

/-- THE SECOND FORM's CARD OF 'outriderlaw18.FlowClock'. -/
def flowClockUptoCard : Claim7 := { stood := { row := flowClockUptoRow, standIns := [], harness := (true, "7fbc97797f81819932b7d6ce46f3177a9eedd24737019ffbc5f46da2bb3460c2"), looks := true }, kinds := [], alts := [], laidByText := true, laidKinds := [.data, .data, .data, .data, .sentinel, .sentinel, .pinned], laidTests := true, laidLooks := .later }
def FlowClockUptoCardSaid : Prop := Claim7.holds Tryz.pinned (.plain (OpenSpec.upto flowClockSpec)) flowClockUptoCard

/-- THE SECOND FORM's CARD OF 'outriderlaw18.FlowKeys'. -/
def flowKeysUptoCard : Claim7 := { stood := { row := flowKeysUptoRow, standIns := [], harness := (true, "7fbc97797f81819932b7d6ce46f3177a9eedd24737019ffbc5f46da2bb3460c2"), looks := true }, kinds := [], alts := [], laidByText := true, laidKinds := [.data, .data, .data, .data, .sentinel, .sentinel, .pinned], laidTests := true, laidLooks := .later }
def FlowKeysUptoCardSaid : Prop := Claim7.holds Tryz.pinned (.plain (OpenSpec.upto flowKeysSpec)) flowKeysUptoCard

/-- THE SECOND FORM's CARD OF 'outriderlaw18.FlowApart'. -/
def flowApartUptoCard : Claim7 := { stood := { row := flowApartUptoRow, standIns := [], harness := (true, "7fbc97797f81819932b7d6ce46f3177a9eedd24737019ffbc5f46da2bb3460c2"), looks := true }, kinds := [], alts := [], laidByText := true, laidKinds := [.data, .data, .data, .data, .sentinel, .sentinel, .pinned], laidTests := true, laidLooks := .later }
def FlowApartUptoCardSaid : Prop := Claim7.holds Tryz.pinned (.plain (OpenSpec.upto flowApartSpec)) flowApartUptoCard

/-- THE SECOND FORM's CARD OF 'outriderlaw18.FlowKnown'. -/
def flowKnownUptoCard : Claim7 := { stood := { row := flowKnownUptoRow, standIns := [], harness := (true, "7fbc97797f81819932b7d6ce46f3177a9eedd24737019ffbc5f46da2bb3460c2"), looks := true }, kinds := [], alts := [], laidByText := true, laidKinds := [.data, .data, .data, .data, .sentinel, .sentinel, .pinned], laidTests := true, laidLooks := .later }
def FlowKnownUptoCardSaid : Prop := Claim7.holds Tryz.pinned (.plain (OpenSpec.upto flowKnownSpec)) flowKnownUptoCard

/-- THE SECOND FORM's CARD OF 'outriderlaw18.FlowFrom'. -/
def flowFromUptoCard : Claim7 := { stood := { row := flowFromUptoRow, standIns := [], harness := (true, "7fbc97797f81819932b7d6ce46f3177a9eedd24737019ffbc5f46da2bb3460c2"), looks := true }, kinds := [], alts := [], laidByText := true, laidKinds := [.data, .data, .data, .data, .sentinel, .sentinel, .pinned], laidTests := true, laidLooks := .later }
def FlowFromUptoCardSaid : Prop := Claim7.holds Tryz.pinned (.plain (OpenSpec.upto flowFromSpec)) flowFromUptoCard

/-- THE SECOND FORM's CARD OF 'outriderlaw18.FlowStates'. -/
def flowStatesUptoCard : Claim7 := { stood := { row := flowStatesUptoRow, standIns := [], harness := (true, "7fbc97797f81819932b7d6ce46f3177a9eedd24737019ffbc5f46da2bb3460c2"), looks := true }, kinds := [], alts := [], laidByText := true, laidKinds := [.data, .data, .data, .data, .sentinel, .sentinel, .pinned], laidTests := true, laidLooks := .later }
def FlowStatesUptoCardSaid : Prop := Claim7.holds Tryz.pinned (.plain (OpenSpec.upto flowStatesSpec)) flowStatesUptoCard
end Rows
end Go.Proofs.YtclnlapcgcbomaaGreatDoor
