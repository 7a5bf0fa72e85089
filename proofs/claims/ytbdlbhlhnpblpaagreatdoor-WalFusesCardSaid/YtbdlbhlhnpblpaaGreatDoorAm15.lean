/- Laws that the proof uses. -/
import Derived.Test.YtbdlbhlhnpblpaaGreatDoorAm14
set_option linter.unusedVariables false
set_option linter.unusedSimpArgs false
namespace Go.Proofs.YtbdlbhlhnpblpaaGreatDoor.Am
namespace K
theorem p6 {k:IntKind}(hk:k.signed=false){n:Nat}(h:n<2 ^ k.bits):k.wrap (n:Int)=n:=by
 unfold IntKind.wrap
 cases k<;>first | (cases hk;done) | (simp[IntKind.signed,IntKind.bits] at h ⊢;omega)
theorem abE {k:IntKind}(hk:k.signed=false)(n:Nat):k.wrap (n:Int)=((n % 2 ^ k.bits:Nat):Int):=by
 unfold IntKind.wrap
 cases k<;>first | (cases hk;done) | (simp[IntKind.signed,IntKind.bits])
theorem FW {k:IntKind}{n:Nat}(h:n<2 ^ k.bits):ji k (n:Int)=n:=by
 unfold ji
 rw[<-Int.natCast_emod,afA h,aeV]
theorem ajJ {k:IntKind}{a b:Nat}(ha:a<2 ^ k.bits)(hb:b<2 ^ k.bits)(hw:k.wrap ((a &&& b:Nat):Int)=((a &&& b:Nat):Int)):uj (.int k a) (.int k b)=some (.int k ((a &&& b:Nat):Int)):=by
 unfold uj ii
 simp only[if_true,FW ha,FW hb,hw]
theorem U6 {k:IntKind}{a b:Nat}(ha:a<2 ^ k.bits)(hb:b<2 ^ k.bits)(hw:k.wrap ((a ||| b:Nat):Int)=((a ||| b:Nat):Int)):rp (.int k a) (.int k b)=some (.int k ((a ||| b:Nat):Int)):=by
 unfold rp ii
 simp only[if_true,FW ha,FW hb,hw]
theorem TY {k j:IntKind}{a b:Nat}:td (.int k a) (.int j b)=some (.int k ((a / 2 ^ (min b k.bits):Nat):Int)):=by
 unfold td i2
 simp only
 rw[if_neg (by omega),aeV]
 congr 2
 rw[Int.fdiv_eq_ediv_of_nonneg _ (by exact Int.pow_nonneg (by omega))]
 norm_cast
theorem Nk {k j:IntKind}{a b:Nat}:sV (.int k a) (.int j b)=some (.int k (k.wrap ((a*2 ^ (min b k.bits):Nat):Int))):=by
 unfold sV i2
 simp only
 rw[if_neg (by omega),aeV]
 congr 3
theorem aaB {k:IntKind}{a m:Nat}(ha:a<2 ^ k.bits)(hm:2 ^ m-1<2 ^ k.bits)(hw:k.wrap ((a % 2 ^ m:Nat):Int)=((a % 2 ^ m:Nat):Int)):uj (.int k a) (.int k ((2 ^ m-1:Nat):Int))=some (.int k ((a % 2 ^ m:Nat):Int)):=by
 rw[ajJ ha hm (by rw[Nat.and_two_pow_sub_one_eq_mod];exact hw),Nat.and_two_pow_sub_one_eq_mod]
theorem QV {a b i:Nat}(h:b<2 ^ i):b ||| (a*2 ^ i)=a*2 ^ i+b:=by
 rw[ahs,Nat.two_pow_add_eq_or_of_lt h,Nat.or_comm]
end K
end Go.Proofs.YtbdlbhlhnpblpaaGreatDoor.Am
