/- Bits and widths of numbers that are not negative (of no program). -/
import Derived.Test.YtodfajmihkagnaaGreatDoorAm14
set_option linter.unusedVariables false
set_option linter.unusedSimpArgs false
namespace Go.Proofs.YtodfajmihkagnaaGreatDoor.Am
set_option linter.unusedVariables false
set_option linter.unusedSimpArgs false
namespace K
theorem aui {k:IntKind}(hk:k.signed=false){n:Nat}(h:n<2 ^ k.bits):k.wrap (n:Int)=n:=by
 unfold IntKind.wrap
 cases k<;>first | (cases hk;done) | (simp[IntKind.signed,IntKind.bits] at h ⊢;omega)
theorem aqi {k j:IntKind}{a b:Nat}:B6 (.int k a) (.int j b)=some (.int k ((a / 2 ^ (min b k.bits):Nat):Int)):=by
 unfold B6 i2
 simp only
 rw[if_neg (by omega),acB]
 congr 2
 rw[Int.fdiv_eq_ediv_of_nonneg _ (by exact Int.pow_nonneg (by omega))]
 norm_cast
theorem atj {k j:IntKind}{a b:Nat}:Cl (.int k a) (.int j b)=some (.int k (k.wrap ((a*2 ^ (min b k.bits):Nat):Int))):=by
 unfold Cl i2
 simp only
 rw[if_neg (by omega),acB]
 congr 3
end K
end Go.Proofs.YtodfajmihkagnaaGreatDoor.Am
