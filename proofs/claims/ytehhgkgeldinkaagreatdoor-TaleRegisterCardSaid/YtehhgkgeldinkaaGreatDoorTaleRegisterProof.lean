/- TaleRegister: the law returns true for every input, and each argument reads afterwards as it read before. Conditions: the listed package-level variables hold what the program's text lays there (tied by the card). -/
import Derived.Test.YtehhgkgeldinkaaGreatDoorCards
import Derived.Test.YtehhgkgeldinkaaGreatDoorTie
import Derived.SevenTiedAt
import Derived.Test.YtehhgkgeldinkaaGreatDoorTaleRegisterOver
import Derived.Test.YtehhgkgeldinkaaGreatDoorTaleRegisterGoes
namespace Go.Proofs.YtehhgkgeldinkaaGreatDoor.taleRegister
theorem proved : Rows.TaleRegisterCardSaid :=
  Claim7.holds_tied_plain_at .later [] [.data, .data, .data, .data, .sentinel, .sentinel, .pinned] true (true, "3aa4ccec9cec37d65136838497ae307c83702d6753d061b70183ff04abe8e251") true over (fun _ h => by cases h) DB.wf (fun _ h => by cases h) taleRegister_row_tie rfl ⟨rfl, rfl⟩ DB.main rfl
    (fun f fn hf HU => by
      obtain rfl : f = 4 := adz ((show Tryz.prog.funcNamed "outrider/outriderlaw28.TaleRegister" = some 4 from DB.fnm).symm.trans hf) |>.symm
      obtain rfl : fn = Tryz.f4 := (adz (Tryz.func4.symm.trans HU)).symm
      exact⟨Cl.looks, DB.aqV⟩)
    DB.goes
#print axioms proved
end Go.Proofs.YtehhgkgeldinkaaGreatDoor.taleRegister
