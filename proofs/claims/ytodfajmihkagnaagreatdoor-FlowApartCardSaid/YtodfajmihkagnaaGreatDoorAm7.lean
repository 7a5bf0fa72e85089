/- The same evaluator written so that the kernel copies little, and that it is the same (of no program). -/
import Derived.Test.YtodfajmihkagnaaGreatDoorAm6
set_option linter.unusedVariables false
set_option linter.unusedSimpArgs false
namespace Go.Proofs.YtodfajmihkagnaaGreatDoor.Am
namespace F
noncomputable section
section
variable {α:Type}
end
def Fh (a b:Bool):Bool:=Bool.rec false b a
theorem Iu (a b:Bool):Fh a b=(a&&b):=by cases a<;>rfl
def BU {α:Type} (l:List α):Nat:=List.rec 0 (fun _ _ ih=>Nat.succ ih) l
theorem Jl {α:Type} (l:List α):BU l=l.length:=by
 induction l with
 | nil=>rfl
 | cons a l ih=>show Nat.succ (BU l)=_;rw[ih];rfl
end
end F
end Go.Proofs.YtodfajmihkagnaaGreatDoor.Am
namespace Go.Proofs.YtodfajmihkagnaaGreatDoor.Am
namespace F
noncomputable section
end
end F
namespace F
noncomputable section
end
end F
namespace F
noncomputable section
end
end F
end Go.Proofs.YtodfajmihkagnaaGreatDoor.Am
