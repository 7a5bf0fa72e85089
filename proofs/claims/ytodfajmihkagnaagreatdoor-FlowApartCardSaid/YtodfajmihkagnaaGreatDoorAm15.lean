/- Bits and widths of numbers that are not negative (of no program). -/
import Derived.Test.YtodfajmihkagnaaGreatDoorAm14
set_option linter.unusedVariables false
set_option linter.unusedSimpArgs false
namespace Go.Proofs.YtodfajmihkagnaaGreatDoor.Am
set_option linter.unusedVariables false
set_option linter.unusedSimpArgs false
namespace K
theorem am2 {k:IntKind} (hk:k.signed=false) {n:Nat} (h:n<2 ^ k.bits):k.wrap (n:Int)=n:=by
 unfold IntKind.wrap
 cases k<;>first | (cases hk;done) | (simp[IntKind.signed,IntKind.bits] at h ⊢;omega)
theorem ai5 {k j:IntKind} {a b:Nat}:z6 (.int k a) (.int j b)=some (.int k ((a / 2 ^ (min b k.bits):Nat):Int)):=by
 unfold z6 i2
 simp only
 rw[if_neg (by omega),ab9]
 congr 2
 rw[Int.fdiv_eq_ediv_of_nonneg _ (by exact Int.pow_nonneg (by omega))]
 norm_cast
theorem aj5 {k j:IntKind} {a b:Nat}:A7 (.int k a) (.int j b)=some (.int k (k.wrap ((a*2 ^ (min b k.bits):Nat):Int))):=by
 unfold A7 i2
 simp only
 rw[if_neg (by omega),ab9]
 congr 3
end K
end Go.Proofs.YtodfajmihkagnaaGreatDoor.Am
