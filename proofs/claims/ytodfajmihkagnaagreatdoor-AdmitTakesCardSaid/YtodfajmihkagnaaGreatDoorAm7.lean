/- Laws that the proof uses. -/
import Derived.Test.YtodfajmihkagnaaGreatDoorAm6
set_option linter.unusedVariables false
set_option linter.unusedSimpArgs false
namespace Go.Proofs.YtodfajmihkagnaaGreatDoor.Am
section
section
section
namespace F
noncomputable section
section
variable {α:Type}
end
def GW (a b:Bool):Bool:=Bool.rec false b a
theorem Im (a b:Bool):GW a b=(a&&b):=by cases a<;>rfl
def Cd {α:Type}(l:List α):Nat:=List.rec 0 (fun _ _ ih=>Nat.succ ih) l
theorem Ji {α:Type}(l:List α):Cd l=l.length:=by
 induction l with
 | nil=>rfl
 | cons a l ih=>show Nat.succ (Cd l)=_;rw[ih];rfl
end
end F
end
namespace F
noncomputable section
end
end F
end
namespace F
noncomputable section
end
end F
end
namespace F
noncomputable section
end
end F
end Go.Proofs.YtodfajmihkagnaaGreatDoor.Am
