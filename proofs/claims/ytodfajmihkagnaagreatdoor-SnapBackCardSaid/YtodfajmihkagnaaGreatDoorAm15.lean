/- Laws that the proof uses. -/
import Derived.Test.YtodfajmihkagnaaGreatDoorAm14
set_option linter.unusedVariables false
set_option linter.unusedSimpArgs false
namespace Go.Proofs.YtodfajmihkagnaaGreatDoor.Am
namespace K
section
variable {a:Nat}{j k:IntKind}
theorem ayj (hk:k.signed=false){n:Nat}(h:n<2^k.bits):k.wrap (n:Int)=n:=by unfold IntKind.wrap;cases k<;>first|(cases hk;done)|(simp[IntKind.signed,IntKind.bits] at h⊢;omega)
theorem GH {n:Nat}(h:n<2^k.bits):mj k (n:Int)=n:=by unfold mj;rw[<-Int.natCast_emod,ahr h,abI]
theorem aDF {b:Nat}(ha:a<2^k.bits)(hb:b<2^k.bits)(hw:k.wrap ((a&&&b:Nat):Int)=((a&&&b:Nat):Int)):zn (.int k a) (.int k b)=some (.int k ((a&&&b:Nat):Int)):=by unfold zn ii;simp only[if_true,GH ha,GH hb,hw]
theorem Vu {b:Nat}(ha:a<2^k.bits)(hb:b<2^k.bits)(hw:k.wrap ((a|||b:Nat):Int)=((a|||b:Nat):Int)):zx (.int k a) (.int k b)=some (.int k ((a|||b:Nat):Int)):=by unfold zx ii;simp only[if_true,GH ha,GH hb,hw]
theorem aGj {b:Nat}(ha:a<2^k.bits)(hb:b<2^k.bits)(hw:k.wrap ((a ^^^ b:Nat):Int)=((a ^^^ b:Nat):Int)):By (.int k a) (.int k b)=some (.int k ((a ^^^ b:Nat):Int)):=by unfold By ii;simp only[if_true,GH ha,GH hb,hw]
theorem Pd {b:Nat}:sN (.int k a) (.int j b)=some (.int k ((a / 2^(min b k.bits):Nat):Int)):=by
 unfold sN i2;simp only;rw[zz1 zzz,abI];congr 2;rw[Int.fdiv_eq_ediv_of_nonneg _ (by exact Int.pow_nonneg zzz)]
 norm_cast
theorem Qp {b:Nat}:wu (.int k a) (.int j b)=some (.int k (k.wrap ((a*2^(min b k.bits):Nat):Int))):=by unfold wu i2;simp only;rw[zz1 zzz,abI];congr 3
theorem anK {m:Nat}(ha:a<2^k.bits)(hm:2^m-1<2^k.bits)(hw:k.wrap ((a%2^m:Nat):Int)=((a%2^m:Nat):Int)):zn (.int k a) (.int k ((2^m-1:Nat):Int))=some (.int k ((a%2^m:Nat):Int)):=by rw[aDF ha hm (by rw[Nat.and_two_pow_sub_one_eq_mod];exact hw),Nat.and_two_pow_sub_one_eq_mod]
theorem alm {b i:Nat}(h:b<2^i):b|||(a*2^i)=a*2^i+b:=by rw[anP,Nat.two_pow_add_eq_or_of_lt h,Nat.or_comm]
end
end K
end Go.Proofs.YtodfajmihkagnaaGreatDoor.Am
