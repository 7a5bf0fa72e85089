/- Contracts of functions that walk a map, as the evaluator reads them (of no program). -/
import Derived.Test.YtodfajmihkagnaaGreatDoorAm8
import Derived.Sort.KeysCollected
import Derived.WideShapes
set_option linter.unusedVariables false
set_option linter.unusedSimpArgs false
namespace Go.Proofs.YtodfajmihkagnaaGreatDoor.Am
open Go.RowKit
section
set_option linter.unusedVariables false
set_option linter.unusedSimpArgs false
section
variable {P:Program}{G:Nat}{F':Nat->Prop}{W:World}{e:Em}{H:Hp}{w:World}
end
noncomputable section
end
section
variable {P:Program}{G:Nat}{F':Nat->Prop}{W:World}{e:Em}{H:Hp}{w:World}
end
end
open Go.Maps Go.Sort Go.Proofs
set_option linter.unusedVariables false
set_option linter.unusedSimpArgs false
noncomputable section
end
section
variable {P:Program}{e:Em}
end
end Go.Proofs.YtodfajmihkagnaaGreatDoor.Am
