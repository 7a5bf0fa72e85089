/-
  DERIVED. GIVEN WITH THE SEED: THE CARDS: each row of YtlomlkoimmpemaaGreatDoorRows.lean that lists a variable, with what it lists TIED to the program's text (the seventh form; the later family's looks); each row that meets fmt, with fmt's text TOLD by the authors' own Lean function (tested against real Go, not proved from fmt's source: count such statements apart). THE CARD IS WHAT COUNTS. Prove the row's statement (the work); the ties are given (YtlomlkoimmpemaaGreatDoorTie.lean); close each card by the builder's one call (the guide's Derived/Test/ToyasCard.lean, 'card_holds'). Laid BY PROGRAM, IN A SANDBOX (cutbox-door.mjs). By AI agents, Wed Nov 11 2026. No macro, syntax, notation, axiom, sorry.
-/
import Derived.Test.YtlomlkoimmpemaaGreatDoorRows
import GoSem.ClaimSeven
namespace Go.Proofs.YtlomlkoimmpemaaGreatDoor
namespace Rows

/-- THE TIED CARD OF 'outriderlaw21.EngineEpochs'. -/
def engineEpochsCard : Claim7 := { stood := { row := engineEpochsRow, standIns := [], harness := (true, "6c6e74be9c8ecf13713f3530d2558b85c70b995ebc6071f75c0444fb90d233a7"), looks := true }, kinds := [], alts := [], laidByText := true, laidKinds := [.data, .data, .data, .data, .sentinel, .sentinel, .pinned], laidTests := true, laidLooks := .later }
def EngineEpochsCardSaid : Prop := Claim7.holds Tryz.pinned (.plain (OpenSpec.ofChange engineEpochsSpec)) engineEpochsCard

/-- THE TIED CARD OF 'outriderlaw21.EngineKnown'. -/
def engineKnownCard : Claim7 := { stood := { row := engineKnownRow, standIns := [], harness := (true, "6c6e74be9c8ecf13713f3530d2558b85c70b995ebc6071f75c0444fb90d233a7"), looks := true }, kinds := [], alts := [], laidByText := true, laidKinds := [.data, .data, .data, .data, .sentinel, .sentinel, .pinned], laidTests := true, laidLooks := .later }
def EngineKnownCardSaid : Prop := Claim7.holds Tryz.pinned (.plain (OpenSpec.ofChange engineKnownSpec)) engineKnownCard

/-- THE TIED CARD OF 'outriderlaw26.PairKnown'. -/
def pairKnownCard : Claim7 := { stood := { row := pairKnownRow, standIns := [], harness := (true, "6c6e74be9c8ecf13713f3530d2558b85c70b995ebc6071f75c0444fb90d233a7"), looks := true }, kinds := [], alts := [], laidByText := true, laidKinds := [.data, .data, .data, .data, .sentinel, .sentinel, .pinned], laidTests := true, laidLooks := .later }
def PairKnownCardSaid : Prop := Claim7.holds Tryz.pinned (.plain (OpenSpec.ofChange pairKnownSpec)) pairKnownCard

/-- THE TIED CARD OF 'outriderlaw27.FairKnown'. -/
def fairKnownCard : Claim7 := { stood := { row := fairKnownRow, standIns := [], harness := (true, "6c6e74be9c8ecf13713f3530d2558b85c70b995ebc6071f75c0444fb90d233a7"), looks := true }, kinds := [], alts := [], laidByText := true, laidKinds := [.data, .data, .data, .data, .sentinel, .sentinel, .pinned], laidTests := true, laidLooks := .later }
def FairKnownCardSaid : Prop := Claim7.holds Tryz.pinned (.plain (OpenSpec.ofChange fairKnownSpec)) fairKnownCard

/-- THE SECOND FORM's CARD OF 'outriderlaw21.EngineEpochs'. -/
def engineEpochsUptoCard : Claim7 := { stood := { row := engineEpochsUptoRow, standIns := [], harness := (true, "6c6e74be9c8ecf13713f3530d2558b85c70b995ebc6071f75c0444fb90d233a7"), looks := true }, kinds := [], alts := [], laidByText := true, laidKinds := [.data, .data, .data, .data, .sentinel, .sentinel, .pinned], laidTests := true, laidLooks := .later }
def EngineEpochsUptoCardSaid : Prop := Claim7.holds Tryz.pinned (.plain (OpenSpec.upto engineEpochsSpec)) engineEpochsUptoCard

/-- THE SECOND FORM's CARD OF 'outriderlaw21.EngineKnown'. -/
def engineKnownUptoCard : Claim7 := { stood := { row := engineKnownUptoRow, standIns := [], harness := (true, "6c6e74be9c8ecf13713f3530d2558b85c70b995ebc6071f75c0444fb90d233a7"), looks := true }, kinds := [], alts := [], laidByText := true, laidKinds := [.data, .data, .data, .data, .sentinel, .sentinel, .pinned], laidTests := true, laidLooks := .later }
def EngineKnownUptoCardSaid : Prop := Claim7.holds Tryz.pinned (.plain (OpenSpec.upto engineKnownSpec)) engineKnownUptoCard

/-- THE SECOND FORM's CARD OF 'outriderlaw26.PairKnown'. -/
def pairKnownUptoCard : Claim7 := { stood := { row := pairKnownUptoRow, standIns := [], harness := (true, "6c6e74be9c8ecf13713f3530d2558b85c70b995ebc6071f75c0444fb90d233a7"), looks := true }, kinds := [], alts := [], laidByText := true, laidKinds := [.data, .data, .data, .data, .sentinel, .sentinel, .pinned], laidTests := true, laidLooks := .later }
def PairKnownUptoCardSaid : Prop := Claim7.holds Tryz.pinned (.plain (OpenSpec.upto pairKnownSpec)) pairKnownUptoCard

/-- THE SECOND FORM's CARD OF 'outriderlaw27.FairKnown'. -/
def fairKnownUptoCard : Claim7 := { stood := { row := fairKnownUptoRow, standIns := [], harness := (true, "6c6e74be9c8ecf13713f3530d2558b85c70b995ebc6071f75c0444fb90d233a7"), looks := true }, kinds := [], alts := [], laidByText := true, laidKinds := [.data, .data, .data, .data, .sentinel, .sentinel, .pinned], laidTests := true, laidLooks := .later }
def FairKnownUptoCardSaid : Prop := Claim7.holds Tryz.pinned (.plain (OpenSpec.upto fairKnownSpec)) fairKnownUptoCard
end Rows
end Go.Proofs.YtlomlkoimmpemaaGreatDoor
