/- Bits and widths of numbers that are not negative (of no program). -/
import Derived.Test.YtbdlbhlhnpblpaaGreatDoorAm14
set_option linter.unusedVariables false
set_option linter.unusedSimpArgs false
namespace Go.Proofs.YtbdlbhlhnpblpaaGreatDoor.Am
set_option linter.unusedVariables false
set_option linter.unusedSimpArgs false
namespace K
theorem wrap_u {k:IntKind} (hk:k.signed=false) {n:Nat} (h:n < 2 ^ k.bits):k.wrap (n:Int)=n:=by
 unfold IntKind.wrap
 cases k <;> first | (cases hk; done) | (simp [IntKind.signed,IntKind.bits] at h ⊢; omega)
theorem wrap_mod {k:IntKind} (hk:k.signed=false) (n:Nat):k.wrap (n:Int)=((n % 2 ^ k.bits:Nat):Int):=by
 unfold IntKind.wrap
 cases k <;> first | (cases hk; done) | (simp [IntKind.signed,IntKind.bits])
theorem bts_nat {k:IntKind} {n:Nat} (h:n < 2 ^ k.bits):bts k (n:Int)=n:=by
 unfold bts
 rw [← Int.natCast_emod,Nat.mod_eq_of_lt h,Int.toNat_natCast]
theorem iand_n {k:IntKind} {a b:Nat} (ha:a < 2 ^ k.bits) (hb:b < 2 ^ k.bits) (hw:k.wrap ((a &&& b:Nat):Int)=((a &&& b:Nat):Int)):iand (.int k a) (.int k b)=some (.int k ((a &&& b:Nat):Int)):=by
 unfold iand ii
 simp only [if_true,bts_nat ha,bts_nat hb,hw]
theorem ior_n {k:IntKind} {a b:Nat} (ha:a < 2 ^ k.bits) (hb:b < 2 ^ k.bits) (hw:k.wrap ((a ||| b:Nat):Int)=((a ||| b:Nat):Int)):ior (.int k a) (.int k b)=some (.int k ((a ||| b:Nat):Int)):=by
 unfold ior ii
 simp only [if_true,bts_nat ha,bts_nat hb,hw]
theorem ishr_n {k j:IntKind} {a b:Nat}:ishr (.int k a) (.int j b)=some (.int k ((a / 2 ^ (min b k.bits):Nat):Int)):=by
 unfold ishr i2
 simp only
 rw [if_neg (by omega),Int.toNat_natCast]
 congr 2
 rw [Int.fdiv_eq_ediv_of_nonneg _ (by exact Int.pow_nonneg (by omega))]
 norm_cast
theorem ishl_n {k j:IntKind} {a b:Nat}:ishl (.int k a) (.int j b)=some (.int k (k.wrap ((a * 2 ^ (min b k.bits):Nat):Int))):=by
 unfold ishl i2
 simp only
 rw [if_neg (by omega),Int.toNat_natCast]
 congr 3
theorem mask_n {k:IntKind} {a m:Nat} (ha:a < 2 ^ k.bits) (hm:2 ^ m - 1 < 2 ^ k.bits) (hw:k.wrap ((a % 2 ^ m:Nat):Int)=((a % 2 ^ m:Nat):Int)):iand (.int k a) (.int k ((2 ^ m - 1:Nat):Int))=some (.int k ((a % 2 ^ m:Nat):Int)):=by
 rw [iand_n ha hm (by rw [Nat.and_two_pow_sub_one_eq_mod]; exact hw),Nat.and_two_pow_sub_one_eq_mod]
theorem or_add {a b i:Nat} (h:b < 2 ^ i):b ||| (a * 2 ^ i)=a * 2 ^ i + b:=by
 rw [Nat.mul_comm,Nat.two_pow_add_eq_or_of_lt h,Nat.or_comm]
end K
end Go.Proofs.YtbdlbhlhnpblpaaGreatDoor.Am
