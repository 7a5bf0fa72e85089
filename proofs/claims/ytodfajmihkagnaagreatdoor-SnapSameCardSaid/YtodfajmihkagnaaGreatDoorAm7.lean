/- Laws that the proof uses. -/
import Derived.Test.YtodfajmihkagnaaGreatDoorAm6
set_option linter.unusedVariables false
set_option linter.unusedSimpArgs false
namespace Go.Proofs.YtodfajmihkagnaaGreatDoor.Am
section
section
section
namespace F
noncomputable section
section
variable {α:Type}
end
def LQ (a b:Bool):Bool:=Bool.rec false b a
theorem St (a b:Bool):LQ a b=(a&&b):=by cases a<;>rfl
def HU {α:Type}(l:List α):Nat:=List.rec 0 (λ_ _ ih=>Nat.succ ih) l
theorem RY {α:Type}(l:List α):HU l=l.length:=by
 induction l with
 |nil=>rfl|cons a l ih=>show Nat.succ (HU l)=_;rw[ih];rfl
end
end F
end
namespace F
noncomputable section
end
end F
end
namespace F
noncomputable section
end
end F
end
namespace F
noncomputable section
end
end F
end Go.Proofs.YtodfajmihkagnaaGreatDoor.Am
