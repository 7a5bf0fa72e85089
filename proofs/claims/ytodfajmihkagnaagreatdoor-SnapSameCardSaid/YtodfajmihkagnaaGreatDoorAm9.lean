/- Laws that the proof uses. -/
import Derived.Test.YtodfajmihkagnaaGreatDoorAm8
import Derived.Sort.KeysCollected
import Derived.WideShapes
set_option linter.unusedVariables false
set_option linter.unusedSimpArgs false
namespace Go.Proofs.YtodfajmihkagnaaGreatDoor.Am
open Go.RowKit
section
section
variable {P:Program}{G:Nat}{F':Nat->Prop}{W:World}{e:Em}{H:Hp}{w:World}
end
noncomputable section
end
section
variable {P:Program}{G:Nat}{F':Nat->Prop}{W:World}{e:Em}{H:Hp}{w:World}
end
end
open Go.Maps Go.Sort Go.Proofs
noncomputable section
end
section
variable {P:Program}{e:Em}
end
end Go.Proofs.YtodfajmihkagnaaGreatDoor.Am
