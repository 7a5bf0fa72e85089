/-
  DERIVED. GIVEN WITH THE SEED: THE CARDS: each row of YtodfajmihkagnaaGreatDoorRows.lean that lists a variable, with what it lists TIED to the program's text (the seventh form; the later family's looks); each row that meets fmt, with fmt's text TOLD by the authors' own Lean function (tested against real Go, not proved from fmt's source: count such statements apart). THE CARD IS WHAT COUNTS. Prove the row's statement (the work); the ties are given (YtodfajmihkagnaaGreatDoorTie.lean); close each card by the builder's one call (the guide's Derived/Test/ToyasCard.lean, 'card_holds'). Laid BY PROGRAM, IN A SANDBOX (cutbox-door.mjs). By AI agents, Wed Nov 11 2026. No macro, syntax, notation, axiom, sorry.
-/
import Derived.Test.YtodfajmihkagnaaGreatDoorRows
import GoSem.ClaimSeven
namespace Go.Proofs.YtodfajmihkagnaaGreatDoor
namespace Rows

/-- THE TIED CARD OF 'outriderlaw18.FlowApart'. -/
def flowApartCard : Claim7 := { stood := { row := flowApartRow, standIns := [], harness := (true, "3823f31e3f89b1fae9cd26b98caba47efd1dd045aa008ac3ea43e2c3d45e2763"), looks := true }, kinds := [], alts := [], laidByText := true, laidKinds := [.data, .data, .data, .data, .sentinel, .sentinel, .pinned], laidTests := true, laidLooks := .later }
def FlowApartCardSaid : Prop := Claim7.holds Tryz.pinned (.plain (OpenSpec.ofChange flowApartSpec)) flowApartCard

/-- THE TIED CARD OF 'outriderlaw20.AdmitTakes'. -/
def admitTakesCard : Claim7 := { stood := { row := admitTakesRow, standIns := [], harness := (true, "3823f31e3f89b1fae9cd26b98caba47efd1dd045aa008ac3ea43e2c3d45e2763"), looks := true }, kinds := [], alts := [], laidByText := true, laidKinds := [.data, .data, .data, .data, .sentinel, .sentinel, .pinned], laidTests := true, laidLooks := .later }
def AdmitTakesCardSaid : Prop := Claim7.holds Tryz.pinned (.plain (OpenSpec.ofChange admitTakesSpec)) admitTakesCard

/-- THE TIED CARD OF 'outriderlaw20.AdmitKeys'. -/
def admitKeysCard : Claim7 := { stood := { row := admitKeysRow, standIns := [], harness := (true, "3823f31e3f89b1fae9cd26b98caba47efd1dd045aa008ac3ea43e2c3d45e2763"), looks := true }, kinds := [], alts := [], laidByText := true, laidKinds := [.data, .data, .data, .data, .sentinel, .sentinel, .pinned], laidTests := true, laidLooks := .later }
def AdmitKeysCardSaid : Prop := Claim7.holds Tryz.pinned (.plain (OpenSpec.ofChange admitKeysSpec)) admitKeysCard

/-- THE TIED CARD OF 'outriderlaw18.FlowStates'. -/
def flowStatesCard : Claim7 := { stood := { row := flowStatesRow, standIns := [], harness := (true, "3823f31e3f89b1fae9cd26b98caba47efd1dd045aa008ac3ea43e2c3d45e2763"), looks := true }, kinds := [], alts := [], laidByText := true, laidKinds := [.data, .data, .data, .data, .sentinel, .sentinel, .pinned], laidTests := true, laidLooks := .later }
def FlowStatesCardSaid : Prop := Claim7.holds Tryz.pinned (.plain (OpenSpec.ofChange flowStatesSpec)) flowStatesCard

/-- THE TIED CARD OF 'outriderlaw19.SnapBack'. -/
def snapBackCard : Claim7 := { stood := { row := snapBackRow, standIns := [], harness := (true, "3823f31e3f89b1fae9cd26b98caba47efd1dd045aa008ac3ea43e2c3d45e2763"), looks := true }, kinds := [], alts := [], laidByText := true, laidKinds := [.data, .data, .data, .data, .sentinel, .sentinel, .pinned], laidTests := true, laidLooks := .later }
def SnapBackCardSaid : Prop := Claim7.holds Tryz.pinned (.plain (OpenSpec.ofChange snapBackSpec)) snapBackCard

/-- THE TIED CARD OF 'outriderlaw19.SnapForm'. -/
def snapFormCard : Claim7 := { stood := { row := snapFormRow, standIns := [], harness := (true, "3823f31e3f89b1fae9cd26b98caba47efd1dd045aa008ac3ea43e2c3d45e2763"), looks := true }, kinds := [], alts := [], laidByText := true, laidKinds := [.data, .data, .data, .data, .sentinel, .sentinel, .pinned], laidTests := true, laidLooks := .later }
def SnapFormCardSaid : Prop := Claim7.holds Tryz.pinned (.plain (OpenSpec.ofChange snapFormSpec)) snapFormCard

/-- THE TIED CARD OF 'outriderlaw19.SnapGoes'. -/
def snapGoesCard : Claim7 := { stood := { row := snapGoesRow, standIns := [], harness := (true, "3823f31e3f89b1fae9cd26b98caba47efd1dd045aa008ac3ea43e2c3d45e2763"), looks := true }, kinds := [], alts := [], laidByText := true, laidKinds := [.data, .data, .data, .data, .sentinel, .sentinel, .pinned], laidTests := true, laidLooks := .later }
def SnapGoesCardSaid : Prop := Claim7.holds Tryz.pinned (.plain (OpenSpec.ofChange snapGoesSpec)) snapGoesCard

/-- THE TIED CARD OF 'outriderlaw19.SnapSame'. -/
def snapSameCard : Claim7 := { stood := { row := snapSameRow, standIns := [], harness := (true, "3823f31e3f89b1fae9cd26b98caba47efd1dd045aa008ac3ea43e2c3d45e2763"), looks := true }, kinds := [], alts := [], laidByText := true, laidKinds := [.data, .data, .data, .data, .sentinel, .sentinel, .pinned], laidTests := true, laidLooks := .later }
def SnapSameCardSaid : Prop := Claim7.holds Tryz.pinned (.plain (OpenSpec.ofChange snapSameSpec)) snapSameCard

/-- THE SECOND FORM's CARD OF 'outriderlaw18.FlowApart'. -/
def flowApartUptoCard : Claim7 := { stood := { row := flowApartUptoRow, standIns := [], harness := (true, "3823f31e3f89b1fae9cd26b98caba47efd1dd045aa008ac3ea43e2c3d45e2763"), looks := true }, kinds := [], alts := [], laidByText := true, laidKinds := [.data, .data, .data, .data, .sentinel, .sentinel, .pinned], laidTests := true, laidLooks := .later }
def FlowApartUptoCardSaid : Prop := Claim7.holds Tryz.pinned (.plain (OpenSpec.upto flowApartSpec)) flowApartUptoCard

/-- THE SECOND FORM's CARD OF 'outriderlaw20.AdmitTakes'. -/
def admitTakesUptoCard : Claim7 := { stood := { row := admitTakesUptoRow, standIns := [], harness := (true, "3823f31e3f89b1fae9cd26b98caba47efd1dd045aa008ac3ea43e2c3d45e2763"), looks := true }, kinds := [], alts := [], laidByText := true, laidKinds := [.data, .data, .data, .data, .sentinel, .sentinel, .pinned], laidTests := true, laidLooks := .later }
def AdmitTakesUptoCardSaid : Prop := Claim7.holds Tryz.pinned (.plain (OpenSpec.upto admitTakesSpec)) admitTakesUptoCard

/-- THE SECOND FORM's CARD OF 'outriderlaw20.AdmitKeys'. -/
def admitKeysUptoCard : Claim7 := { stood := { row := admitKeysUptoRow, standIns := [], harness := (true, "3823f31e3f89b1fae9cd26b98caba47efd1dd045aa008ac3ea43e2c3d45e2763"), looks := true }, kinds := [], alts := [], laidByText := true, laidKinds := [.data, .data, .data, .data, .sentinel, .sentinel, .pinned], laidTests := true, laidLooks := .later }
def AdmitKeysUptoCardSaid : Prop := Claim7.holds Tryz.pinned (.plain (OpenSpec.upto admitKeysSpec)) admitKeysUptoCard

/-- THE SECOND FORM's CARD OF 'outriderlaw18.FlowStates'. -/
def flowStatesUptoCard : Claim7 := { stood := { row := flowStatesUptoRow, standIns := [], harness := (true, "3823f31e3f89b1fae9cd26b98caba47efd1dd045aa008ac3ea43e2c3d45e2763"), looks := true }, kinds := [], alts := [], laidByText := true, laidKinds := [.data, .data, .data, .data, .sentinel, .sentinel, .pinned], laidTests := true, laidLooks := .later }
def FlowStatesUptoCardSaid : Prop := Claim7.holds Tryz.pinned (.plain (OpenSpec.upto flowStatesSpec)) flowStatesUptoCard

/-- THE SECOND FORM's CARD OF 'outriderlaw19.SnapBack'. -/
def snapBackUptoCard : Claim7 := { stood := { row := snapBackUptoRow, standIns := [], harness := (true, "3823f31e3f89b1fae9cd26b98caba47efd1dd045aa008ac3ea43e2c3d45e2763"), looks := true }, kinds := [], alts := [], laidByText := true, laidKinds := [.data, .data, .data, .data, .sentinel, .sentinel, .pinned], laidTests := true, laidLooks := .later }
def SnapBackUptoCardSaid : Prop := Claim7.holds Tryz.pinned (.plain (OpenSpec.upto snapBackSpec)) snapBackUptoCard

/-- THE SECOND FORM's CARD OF 'outriderlaw19.SnapForm'. -/
def snapFormUptoCard : Claim7 := { stood := { row := snapFormUptoRow, standIns := [], harness := (true, "3823f31e3f89b1fae9cd26b98caba47efd1dd045aa008ac3ea43e2c3d45e2763"), looks := true }, kinds := [], alts := [], laidByText := true, laidKinds := [.data, .data, .data, .data, .sentinel, .sentinel, .pinned], laidTests := true, laidLooks := .later }
def SnapFormUptoCardSaid : Prop := Claim7.holds Tryz.pinned (.plain (OpenSpec.upto snapFormSpec)) snapFormUptoCard

/-- THE SECOND FORM's CARD OF 'outriderlaw19.SnapGoes'. -/
def snapGoesUptoCard : Claim7 := { stood := { row := snapGoesUptoRow, standIns := [], harness := (true, "3823f31e3f89b1fae9cd26b98caba47efd1dd045aa008ac3ea43e2c3d45e2763"), looks := true }, kinds := [], alts := [], laidByText := true, laidKinds := [.data, .data, .data, .data, .sentinel, .sentinel, .pinned], laidTests := true, laidLooks := .later }
def SnapGoesUptoCardSaid : Prop := Claim7.holds Tryz.pinned (.plain (OpenSpec.upto snapGoesSpec)) snapGoesUptoCard

/-- THE SECOND FORM's CARD OF 'outriderlaw19.SnapSame'. -/
def snapSameUptoCard : Claim7 := { stood := { row := snapSameUptoRow, standIns := [], harness := (true, "3823f31e3f89b1fae9cd26b98caba47efd1dd045aa008ac3ea43e2c3d45e2763"), looks := true }, kinds := [], alts := [], laidByText := true, laidKinds := [.data, .data, .data, .data, .sentinel, .sentinel, .pinned], laidTests := true, laidLooks := .later }
def SnapSameUptoCardSaid : Prop := Claim7.holds Tryz.pinned (.plain (OpenSpec.upto snapSameSpec)) snapSameUptoCard
end Rows
end Go.Proofs.YtodfajmihkagnaaGreatDoor
