/- Laws that the proof uses. -/
import Derived.Test.YtehhgkgeldinkaaGreatDoorAm14
set_option linter.unusedVariables false
set_option linter.unusedSimpArgs false
namespace Go.Proofs.YtehhgkgeldinkaaGreatDoor.Am
namespace K
theorem qw {k:IntKind}(hk:k.signed=false){n:Nat}(h:n<2 ^ k.bits):k.wrap (n:Int)=n:=by
 unfold IntKind.wrap
 cases k<;>first | (cases hk;done) | (simp[IntKind.signed,IntKind.bits] at h ⊢;omega)
theorem acu {k:IntKind}(hk:k.signed=false)(n:Nat):k.wrap (n:Int)=((n % 2 ^ k.bits:Nat):Int):=by
 unfold IntKind.wrap
 cases k<;>first | (cases hk;done) | (simp[IntKind.signed,IntKind.bits])
theorem GJ {k:IntKind}{n:Nat}(h:n<2 ^ k.bits):lr k (n:Int)=n:=by
 unfold lr
 rw[<-Int.natCast_emod,aeE h,aeq]
theorem anA {k:IntKind}{a b:Nat}(ha:a<2 ^ k.bits)(hb:b<2 ^ k.bits)(hw:k.wrap ((a &&& b:Nat):Int)=((a &&& b:Nat):Int)):tR (.int k a) (.int k b)=some (.int k ((a &&& b:Nat):Int)):=by
 unfold tR ii
 simp only[if_true,GJ ha,GJ hb,hw]
theorem Nx {k:IntKind}{a b:Nat}(ha:a<2 ^ k.bits)(hb:b<2 ^ k.bits)(hw:k.wrap ((a ||| b:Nat):Int)=((a ||| b:Nat):Int)):qF (.int k a) (.int k b)=some (.int k ((a ||| b:Nat):Int)):=by
 unfold qF ii
 simp only[if_true,GJ ha,GJ hb,hw]
theorem TV {k j:IntKind}{a b:Nat}:ue (.int k a) (.int j b)=some (.int k ((a / 2 ^ (min b k.bits):Nat):Int)):=by
 unfold ue i2
 simp only
 rw[if_neg (by omega),aeq]
 congr 2
 rw[Int.fdiv_eq_ediv_of_nonneg _ (by exact Int.pow_nonneg (by omega))]
 norm_cast
theorem Jb {k j:IntKind}{a b:Nat}:sN (.int k a) (.int j b)=some (.int k (k.wrap ((a*2 ^ (min b k.bits):Nat):Int))):=by
 unfold sN i2
 simp only
 rw[if_neg (by omega),aeq]
 congr 3
theorem S2 {k:IntKind}{a m:Nat}(ha:a<2 ^ k.bits)(hm:2 ^ m-1<2 ^ k.bits)(hw:k.wrap ((a % 2 ^ m:Nat):Int)=((a % 2 ^ m:Nat):Int)):tR (.int k a) (.int k ((2 ^ m-1:Nat):Int))=some (.int k ((a % 2 ^ m:Nat):Int)):=by
 rw[anA ha hm (by rw[Nat.and_two_pow_sub_one_eq_mod];exact hw),Nat.and_two_pow_sub_one_eq_mod]
theorem Ri {a b i:Nat}(h:b<2 ^ i):b ||| (a*2 ^ i)=a*2 ^ i+b:=by
 rw[ajD,Nat.two_pow_add_eq_or_of_lt h,Nat.or_comm]
end K
end Go.Proofs.YtehhgkgeldinkaaGreatDoor.Am
