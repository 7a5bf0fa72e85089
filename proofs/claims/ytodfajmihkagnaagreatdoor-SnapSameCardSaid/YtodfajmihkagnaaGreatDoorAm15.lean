/- Laws that the proof uses. -/
import Derived.Test.YtodfajmihkagnaaGreatDoorAm14
set_option linter.unusedVariables false
set_option linter.unusedSimpArgs false
namespace Go.Proofs.YtodfajmihkagnaaGreatDoor.Am
namespace K
section
variable {a:Nat}{j k:IntKind}
theorem axy (hk:k.signed=false){n:Nat}(h:n<2^k.bits):k.wrap (n:Int)=n:=by unfold IntKind.wrap;cases k<;>first|(cases hk;done)|(simp[IntKind.signed,IntKind.bits] at h⊢;omega)
theorem Gz {n:Nat}(h:n<2^k.bits):mh k (n:Int)=n:=by unfold mh;rw[<-Int.natCast_emod,ahT h,abO]
theorem aCU {b:Nat}(ha:a<2^k.bits)(hb:b<2^k.bits)(hw:k.wrap ((a&&&b:Nat):Int)=((a&&&b:Nat):Int)):zn (.int k a) (.int k b)=some (.int k ((a&&&b:Nat):Int)):=by unfold zn ii;simp only[if_true,Gz ha,Gz hb,hw]
theorem UY {b:Nat}(ha:a<2^k.bits)(hb:b<2^k.bits)(hw:k.wrap ((a|||b:Nat):Int)=((a|||b:Nat):Int)):zv (.int k a) (.int k b)=some (.int k ((a|||b:Nat):Int)):=by unfold zv ii;simp only[if_true,Gz ha,Gz hb,hw]
theorem aFH {b:Nat}(ha:a<2^k.bits)(hb:b<2^k.bits)(hw:k.wrap ((a ^^^ b:Nat):Int)=((a ^^^ b:Nat):Int)):Br (.int k a) (.int k b)=some (.int k ((a ^^^ b:Nat):Int)):=by unfold Br ii;simp only[if_true,Gz ha,Gz hb,hw]
theorem OK {b:Nat}:sP (.int k a) (.int j b)=some (.int k ((a / 2^(min b k.bits):Nat):Int)):=by
 unfold sP i2;simp only;rw[zz1 zzz,abO];congr 2;rw[Int.fdiv_eq_ediv_of_nonneg _ (by exact Int.pow_nonneg zzz)]
 norm_cast
theorem P9 {b:Nat}:wD (.int k a) (.int j b)=some (.int k (k.wrap ((a*2^(min b k.bits):Nat):Int))):=by unfold wD i2;simp only;rw[zz1 zzz,abO];congr 3
theorem amV {m:Nat}(ha:a<2^k.bits)(hm:2^m-1<2^k.bits)(hw:k.wrap ((a%2^m:Nat):Int)=((a%2^m:Nat):Int)):zn (.int k a) (.int k ((2^m-1:Nat):Int))=some (.int k ((a%2^m:Nat):Int)):=by rw[aCU ha hm (by rw[Nat.and_two_pow_sub_one_eq_mod];exact hw),Nat.and_two_pow_sub_one_eq_mod]
theorem akw {b i:Nat}(h:b<2^i):b|||(a*2^i)=a*2^i+b:=by rw[anH,Nat.two_pow_add_eq_or_of_lt h,Nat.or_comm]
end
end K
end Go.Proofs.YtodfajmihkagnaaGreatDoor.Am
