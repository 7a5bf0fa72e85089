/-
  DERIVED. GIVEN WITH THE SEED: THE CARDS: each row of YthljbjokonglhaaGreatDoorRows.lean that lists a variable, with what it lists TIED to the program's text (the seventh form; the later family's looks); each row that meets fmt, with fmt's text TOLD by the authors' own Lean function (tested against real Go, not proved from fmt's source: count such statements apart). THE CARD IS WHAT COUNTS. Prove the row's statement (the work); the ties are given (YthljbjokonglhaaGreatDoorTie.lean); close each card by the builder's one call (the guide's Derived/Test/ToyasCard.lean, 'card_holds'). Laid BY PROGRAM, IN A SANDBOX (cutbox-door.mjs). By AI agents, Wed Nov 11 2026. No macro, syntax, notation, axiom, sorry.
-/
import Derived.Test.YthljbjokonglhaaGreatDoorRows
import GoSem.ClaimSeven
namespace Go.Proofs.YthljbjokonglhaaGreatDoor
namespace Rows

/-- THE TIED CARD OF 'outriderlaw12.DefBack'. -/
def defBackCard : Claim7 := { stood := { row := defBackRow, standIns := [], harness := (true, "76ebb420f7f06e5f76081fbcb68200ce91638fd21457167f77fcdf8c4fa7d5ef"), looks := true }, kinds := [], alts := [], laidByText := true, laidKinds := [.data, .data, .data, .data, .sentinel, .sentinel, .pinned], laidTests := true, laidLooks := .later }
def DefBackCardSaid : Prop := Claim7.holds Tryz.pinned (.plain (OpenSpec.ofChange defBackSpec)) defBackCard

/-- THE TIED CARD OF 'outriderlaw16.RunEnds'. -/
def runEndsCard : Claim7 := { stood := { row := runEndsRow, standIns := [], harness := (true, "76ebb420f7f06e5f76081fbcb68200ce91638fd21457167f77fcdf8c4fa7d5ef"), looks := true }, kinds := [], alts := [], laidByText := true, laidKinds := [.data, .data, .data, .data, .sentinel, .sentinel, .pinned], laidTests := true, laidLooks := .later }
def RunEndsCardSaid : Prop := Claim7.holds Tryz.pinned (.plain (OpenSpec.ofChange runEndsSpec)) runEndsCard

/-- THE TIED CARD OF 'outriderlaw12.DefOrder'. -/
def defOrderCard : Claim7 := { stood := { row := defOrderRow, standIns := [], harness := (true, "76ebb420f7f06e5f76081fbcb68200ce91638fd21457167f77fcdf8c4fa7d5ef"), looks := true }, kinds := [], alts := [], laidByText := true, laidKinds := [.data, .data, .data, .data, .sentinel, .sentinel, .pinned], laidTests := true, laidLooks := .later }
def DefOrderCardSaid : Prop := Claim7.holds Tryz.pinned (.plain (OpenSpec.ofChange defOrderSpec)) defOrderCard

/-- THE TIED CARD OF 'outriderlaw16.RunRetries'. -/
def runRetriesCard : Claim7 := { stood := { row := runRetriesRow, standIns := [], harness := (true, "76ebb420f7f06e5f76081fbcb68200ce91638fd21457167f77fcdf8c4fa7d5ef"), looks := true }, kinds := [], alts := [], laidByText := true, laidKinds := [.data, .data, .data, .data, .sentinel, .sentinel, .pinned], laidTests := true, laidLooks := .later }
def RunRetriesCardSaid : Prop := Claim7.holds Tryz.pinned (.plain (OpenSpec.ofChange runRetriesSpec)) runRetriesCard

/-- THE TIED CARD OF 'outriderlaw16.RunOrder'. -/
def runOrderCard : Claim7 := { stood := { row := runOrderRow, standIns := [], harness := (true, "76ebb420f7f06e5f76081fbcb68200ce91638fd21457167f77fcdf8c4fa7d5ef"), looks := true }, kinds := [], alts := [], laidByText := true, laidKinds := [.data, .data, .data, .data, .sentinel, .sentinel, .pinned], laidTests := true, laidLooks := .later }
def RunOrderCardSaid : Prop := Claim7.holds Tryz.pinned (.plain (OpenSpec.ofChange runOrderSpec)) runOrderCard

/-- THE SECOND FORM's CARD OF 'outriderlaw12.DefBack'. -/
def defBackUptoCard : Claim7 := { stood := { row := defBackUptoRow, standIns := [], harness := (true, "76ebb420f7f06e5f76081fbcb68200ce91638fd21457167f77fcdf8c4fa7d5ef"), looks := true }, kinds := [], alts := [], laidByText := true, laidKinds := [.data, .data, .data, .data, .sentinel, .sentinel, .pinned], laidTests := true, laidLooks := .later }
def DefBackUptoCardSaid : Prop := Claim7.holds Tryz.pinned (.plain (OpenSpec.upto defBackSpec)) defBackUptoCard

/-- THE SECOND FORM's CARD OF 'outriderlaw16.RunEnds'. -/
def runEndsUptoCard : Claim7 := { stood := { row := runEndsUptoRow, standIns := [], harness := (true, "76ebb420f7f06e5f76081fbcb68200ce91638fd21457167f77fcdf8c4fa7d5ef"), looks := true }, kinds := [], alts := [], laidByText := true, laidKinds := [.data, .data, .data, .data, .sentinel, .sentinel, .pinned], laidTests := true, laidLooks := .later }
def RunEndsUptoCardSaid : Prop := Claim7.holds Tryz.pinned (.plain (OpenSpec.upto runEndsSpec)) runEndsUptoCard

/-- THE SECOND FORM's CARD OF 'outriderlaw12.DefOrder'. -/
def defOrderUptoCard : Claim7 := { stood := { row := defOrderUptoRow, standIns := [], harness := (true, "76ebb420f7f06e5f76081fbcb68200ce91638fd21457167f77fcdf8c4fa7d5ef"), looks := true }, kinds := [], alts := [], laidByText := true, laidKinds := [.data, .data, .data, .data, .sentinel, .sentinel, .pinned], laidTests := true, laidLooks := .later }
def DefOrderUptoCardSaid : Prop := Claim7.holds Tryz.pinned (.plain (OpenSpec.upto defOrderSpec)) defOrderUptoCard

/-- THE SECOND FORM's CARD OF 'outriderlaw16.RunRetries'. -/
def runRetriesUptoCard : Claim7 := { stood := { row := runRetriesUptoRow, standIns := [], harness := (true, "76ebb420f7f06e5f76081fbcb68200ce91638fd21457167f77fcdf8c4fa7d5ef"), looks := true }, kinds := [], alts := [], laidByText := true, laidKinds := [.data, .data, .data, .data, .sentinel, .sentinel, .pinned], laidTests := true, laidLooks := .later }
def RunRetriesUptoCardSaid : Prop := Claim7.holds Tryz.pinned (.plain (OpenSpec.upto runRetriesSpec)) runRetriesUptoCard

/-- THE SECOND FORM's CARD OF 'outriderlaw16.RunOrder'. -/
def runOrderUptoCard : Claim7 := { stood := { row := runOrderUptoRow, standIns := [], harness := (true, "76ebb420f7f06e5f76081fbcb68200ce91638fd21457167f77fcdf8c4fa7d5ef"), looks := true }, kinds := [], alts := [], laidByText := true, laidKinds := [.data, .data, .data, .data, .sentinel, .sentinel, .pinned], laidTests := true, laidLooks := .later }
def RunOrderUptoCardSaid : Prop := Claim7.holds Tryz.pinned (.plain (OpenSpec.upto runOrderSpec)) runOrderUptoCard
end Rows
end Go.Proofs.YthljbjokonglhaaGreatDoor
