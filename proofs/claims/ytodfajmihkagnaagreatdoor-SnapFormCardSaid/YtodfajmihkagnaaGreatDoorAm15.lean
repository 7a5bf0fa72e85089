/- Laws that the proof uses. -/
import Derived.Test.YtodfajmihkagnaaGreatDoorAm14
set_option linter.unusedVariables false
set_option linter.unusedSimpArgs false
namespace Go.Proofs.YtodfajmihkagnaaGreatDoor.Am
namespace K
section
variable {a:Nat}{j k:IntKind}
theorem au9 (hk:k.signed=false){n:Nat}(h:n<2^k.bits):k.wrap (n:Int)=n:=by unfold IntKind.wrap;cases k<;>first|(cases hk;done)|(simp[IntKind.signed,IntKind.bits] at h⊢;omega)
theorem FH {n:Nat}(h:n<2^k.bits):lL k (n:Int)=n:=by unfold lL;rw[<-Int.natCast_emod,ajg h,acv]
theorem aAf {b:Nat}(ha:a<2^k.bits)(hb:b<2^k.bits)(hw:k.wrap ((a&&&b:Nat):Int)=((a&&&b:Nat):Int)):yG (.int k a) (.int k b)=some (.int k ((a&&&b:Nat):Int)):=by unfold yG ii;simp only[if_true,FH ha,FH hb,hw]
theorem Tg {b:Nat}(ha:a<2^k.bits)(hb:b<2^k.bits)(hw:k.wrap ((a|||b:Nat):Int)=((a|||b:Nat):Int)):yO (.int k a) (.int k b)=some (.int k ((a|||b:Nat):Int)):=by unfold yO ii;simp only[if_true,FH ha,FH hb,hw]
theorem aCU {b:Nat}(ha:a<2^k.bits)(hb:b<2^k.bits)(hw:k.wrap ((a ^^^ b:Nat):Int)=((a ^^^ b:Nat):Int)):AN (.int k a) (.int k b)=some (.int k ((a ^^^ b:Nat):Int)):=by unfold AN ii;simp only[if_true,FH ha,FH hb,hw]
theorem Nu {b:Nat}:rG (.int k a) (.int j b)=some (.int k ((a / 2^(min b k.bits):Nat):Int)):=by
 unfold rG i2;simp only;rw[zz1 zzz,acv];congr 2;rw[Int.fdiv_eq_ediv_of_nonneg _ (by exact Int.pow_nonneg zzz)]
 norm_cast
theorem OG {b:Nat}:vD (.int k a) (.int j b)=some (.int k (k.wrap ((a*2^(min b k.bits):Nat):Int))):=by unfold vD i2;simp only;rw[zz1 zzz,acv];congr 3
theorem akU {m:Nat}(ha:a<2^k.bits)(hm:2^m-1<2^k.bits)(hw:k.wrap ((a%2^m:Nat):Int)=((a%2^m:Nat):Int)):yG (.int k a) (.int k ((2^m-1:Nat):Int))=some (.int k ((a%2^m:Nat):Int)):=by rw[aAf ha hm (by rw[Nat.and_two_pow_sub_one_eq_mod];exact hw),Nat.and_two_pow_sub_one_eq_mod]
theorem aiC {b i:Nat}(h:b<2^i):b|||(a*2^i)=a*2^i+b:=by rw[aok,Nat.two_pow_add_eq_or_of_lt h,Nat.or_comm]
end
end K
end Go.Proofs.YtodfajmihkagnaaGreatDoor.Am
