/- Plain forms of functions, printed by a program of our own, and that the evaluator's reading of each is its plain form (of no conditions). -/
import Derived.Test.YtbdlbhlhnpblpaaGreatDoorHp
import Derived.Test.YtbdlbhlhnpblpaaGreatDoorAm13
namespace Go.Proofs.YtbdlbhlhnpblpaaGreatDoor.WlK
open Go Am Am.K WlEnv
set_option linter.unusedVariables false
set_option maxRecDepth 100000
noncomputable section
noncomputable abbrev P : Program := Tryz.prog
noncomputable def an (g : Nat) : An :=
  bif Nat.beq g 23 then (.sq none .nl (.sq (some [0]) (.sq (some [0, 9]) .nl (.cd (.sq none .nl .nl) .nl)) (.sq none .nl .nl))) else
  bif Nat.beq g 60 then (.sq none .nl (.sq none .nl .nl)) else
  bif Nat.beq g 43 then (.sq none .nl (.sq (some [0, 1, 6]) .nl (.sq (some [6]) (.bl none (.sq (some [1, 6, 13]) .nl (.cd (.sq none .nl .nl) (.sq none .nl (.cd (.sq none .nl .nl) (.sq none .nl (.cd (.sq none .nl .nl) .nl))))))) (.sq none .nl .nl)))) else
  bif Nat.beq g 45 then (.sq none .nl (.sq (some [0]) (.sq (some [0, 7]) .nl (.cd (.sq none .nl .nl) .nl)) (.sq (some [0]) .nl (.sq (some [0]) (.sq (some [0, 19]) .nl (.cd (.sq none .nl .nl) .nl)) (.sq (some []) .nl (.sq none .nl .nl)))))) else
  bif Nat.beq g 27 then (.sq none .nl (.sq (some [0, 1, 2, 7, 8]) .nl (.sq (some [0, 1, 2, 7]) (.bl none (.sq (some [0, 1, 2, 7, 8, 15]) .nl (.cd (.sq none .nl .nl) (.sq (some [0, 1, 2, 7, 23]) .nl (.cd (.sq none .nl .nl) (.sq none .nl (.cd (.sq none .nl .nl) .nl))))))) (.sq (some [2, 7]) (.sq none .nl (.cd (.sq none .nl .nl) .nl)) (.sq (some []) .nl (.sq none .nl .nl)))))) else
  bif Nat.beq g 34 then (.sq none .nl (.sq (some [0, 5, 6]) .nl (.sq (some [5]) (.bl none (.sq none .nl (.cd (.sq none .nl .nl) (.sq none .nl (.cd (.sq none .nl .nl) .nl))))) (.sq (some []) .nl (.sq none .nl .nl))))) else
  bif Nat.beq g 31 then (.sq none .nl (.sq (some [0, 2, 7, 8]) .nl (.sq (some [2, 7]) (.bl none (.sq none .nl (.cd (.sq none .nl .nl) (.sq (some [0, 2, 7, 19]) .nl (.cd (.sq none .nl .nl) (.sq none .nl (.cd (.sq none .nl .nl) .nl))))))) (.sq (some [2, 7]) .nl (.sq (some []) .nl (.sq none .nl .nl)))))) else
  bif Nat.beq g 32 then (.sq none .nl (.sq (some [0, 1, 6]) .nl (.sq (some [0, 1]) (.bl none (.sq none .nl (.cd (.sq none .nl .nl) (.sq none .nl (.cd (.sq none .nl .nl) .nl))))) (.sq (some []) .nl (.sq none .nl .nl))))) else
  bif Nat.beq g 51 then (.sq none .nl (.sq (some [6, 7]) .nl (.sq (some [6]) (.sq none .nl (.cd (.sq none .nl .nl) .nl)) (.sq none .nl .nl)))) else
  bif Nat.beq g 33 then (.sq none .nl (.sq (some []) (.sq (some [5]) .nl (.sq none .nl (.cd (.sq none .nl .nl) .nl))) (.sq none .nl .nl))) else
  bif Nat.beq g 13 then (.sq none (.sq none .nl (.cd .nl .nl)) (.sq (some [0]) (.sq none .nl (.bl (some [0]) (.lp [0, 1, 14, 15, 16] (.sq none .nl (.sq none (.cd .nl .nl) (.sq (some [0, 1, 14, 15, 16]) (.bl (some [0, 1, 14, 15, 16]) (.sq none .nl (.sq (some [0, 1, 6, 14, 15, 16]) .nl (.sq (some [0, 1, 6, 7, 14, 15, 16]) .nl (.sq none (.sq none .nl (.cd .nl .nl)) (.sq none .nl (.sq (some [0, 1, 6, 8, 14, 15, 16]) (.sq none .nl (.cd (.sq (some [0, 1, 6, 8, 14, 15, 16]) .nl .nl) .nl)) (.sq (some [0, 1, 6, 14, 15, 16]) .nl .nl)))))))) .nl)))))) (.sq none .nl .nl))) else
  bif Nat.beq g 14 then .nl else
  bif Nat.beq g 19 then (.sq none .nl (.sq none .nl .nl)) else
  bif Nat.beq g 18 then (.sq none (.sq none .nl (.cd .nl .nl)) (.sq (some [0, 2]) .nl .nl)) else
  bif Nat.beq g 25 then (.sq none .nl (.sq none (.sq none .nl (.cd (.sq none .nl .nl) .nl)) (.sq none .nl .nl))) else
  bif Nat.beq g 38 then (.sq none .nl (.sq none (.sq none .nl (.cd (.sq none .nl .nl) .nl)) (.sq none .nl .nl))) else
  bif Nat.beq g 57 then (.sq none .nl (.sq none .nl .nl)) else
  bif Nat.beq g 58 then (.sq none .nl (.sq none .nl .nl)) else
  bif Nat.beq g 56 then (.sq none .nl (.sq (some [3, 4]) .nl (.sq none .nl .nl))) else
  bif Nat.beq g 40 then (.sq none .nl (.sq (some [0, 1]) (.sq none .nl (.cd (.sq none .nl .nl) .nl)) (.sq (some [1, 6, 7]) .nl (.sq (some [6, 7]) (.sq none .nl (.bl (some [6, 7]) (.lp [6, 7, 18, 19, 20] (.sq none .nl (.sq none (.cd .nl .nl) (.sq (some [6, 7, 18, 19, 20]) (.bl none (.sq none .nl (.sq (some [6, 7, 18, 19, 20]) .nl .nl))) .nl)))))) (.sq none .nl .nl))))) else
  bif Nat.beq g 41 then (.sq none .nl (.sq (some [3]) .nl (.sq none .nl .nl))) else
  bif Nat.beq g 24 then (.sq none .nl (.sq (some [0, 1]) (.sq (some [0, 1, 19]) .nl (.cd (.sq none .nl .nl) .nl)) (.sq none .nl .nl))) else
  bif Nat.beq g 68 then (.sq none .nl (.sq none .nl .nl)) else
  bif Nat.beq g 17 then (.sq none .nl (.sq none .nl .nl)) else
  bif Nat.beq g 39 then (.sq none .nl (.sq (some [0]) (.sq none .nl (.bl (some [0]) (.lp [0, 1, 8, 9] (.sq none .nl (.sq none (.cd .nl .nl) (.sq (some [0, 1, 8, 9]) (.bl none (.sq none .nl .nl)) .nl)))))) (.sq none .nl .nl))) else
  bif Nat.beq g 84 then (.sq none .nl (.sq none .nl (.sq (some [3]) (.sq none .nl (.bl (some [3]) (.lp [3, 6, 7, 8] (.sq none .nl (.sq none (.cd .nl .nl) (.sq (some [3, 6, 7, 8]) (.bl none (.sq (some [3, 4, 5, 6, 7, 8]) .nl .nl)) .nl)))))) (.sq none .nl .nl)))) else
  bif Nat.beq g 26 then (.sq none .nl (.sq (some [0, 3]) (.sq none .nl (.cd (.sq none .nl .nl) .nl)) (.sq (some [0, 3, 6]) .nl (.sq (some [0, 3, 6, 7]) .nl (.sq none .nl .nl))))) else
  bif Nat.beq g 67 then (.sq none .nl (.sq (some [0, 2]) (.sq none .nl (.cd (.sq none .nl .nl) .nl)) (.sq (some [0, 2, 3]) .nl (.sq (some [0, 2, 3]) (.bl none (.sq none .nl (.cd (.sq none .nl .nl) (.sq (some [0, 2, 3, 19]) .nl (.cd (.sq none .nl .nl) .nl))))) (.sq (some [0, 2, 3, 5]) .nl (.sq (some [0, 2, 3]) (.sq (some [0, 2, 3, 42]) .nl (.cd (.sq none .nl .nl) .nl)) (.sq none .nl .nl))))))) else
  bif Nat.beq g 59 then (.sq none .nl (.sq (some [0, 1]) (.sq none .nl (.cd .nl .nl)) (.sq (some [0]) (.sq (some [0, 1]) .nl (.sq none .nl (.cd .nl .nl))) (.sq none .nl .nl)))) else
  bif Nat.beq g 42 then (.sq none .nl (.sq none .nl (.sq (some [0, 3]) (.sq none .nl (.bl (some [0, 3]) (.lp [0, 3, 9, 10, 11] (.sq none .nl (.sq none (.cd .nl .nl) (.sq (some [0, 3, 9, 10, 11]) (.bl (some [0, 3, 9, 10, 11]) (.sq none .nl (.sq (some [0, 3, 9, 10, 11]) .nl (.sq none .nl (.cd .nl .nl))))) .nl)))))) (.sq none .nl (.sq (some [6]) (.sq none .nl (.bl (some [6]) (.lp [6, 25, 26, 27] (.sq none .nl (.sq none (.cd .nl .nl) (.sq (some [6, 25, 26, 27]) (.bl none (.sq none .nl .nl)) .nl)))))) (.sq none .nl .nl)))))) else
  bif Nat.beq g 52 then (.sq none .nl (.sq (some [6, 7]) (.bl (some [6, 7]) (.lp [0, 1, 2, 6, 7] (.sq none (.sq none .nl (.cd .nl .nl)) (.bl none (.sq (some [0, 1, 2, 6, 7, 8, 9, 10]) .nl (.sq (some [0, 1, 6, 7, 8, 9]) (.sq (some [0, 1, 6, 7, 8, 9, 38]) .nl (.cd .nl .nl)) (.sq (some [0, 1, 6, 7, 8, 9]) .nl (.sq none .nl .nl)))))))) (.sq none .nl .nl))) else
  bif Nat.beq g 37 then (.sq none .nl (.sq none .nl (.sq (some [3]) (.sq none .nl (.bl (some [3]) (.lp [3, 8, 9, 10] (.sq none .nl (.sq none (.cd .nl .nl) (.sq (some [3, 8, 9, 10]) (.bl (some [3, 8, 9, 10]) (.sq none .nl (.sq (some [3, 6, 7, 8, 9, 10]) .nl (.sq none .nl (.cd .nl .nl))))) .nl)))))) (.sq none .nl (.sq none .nl .nl))))) else
  bif Nat.beq g 55 then (.sq none .nl (.sq (some [0]) (.sq none .nl (.cd (.sq none .nl .nl) .nl)) (.sq (some [0]) (.sq none .nl (.bl (some [0]) (.lp [0, 3] (.sq none (.sq none .nl (.cd .nl .nl)) (.sq (some [0, 3]) (.bl (some [0, 3]) (.sq (some [0, 3, 25]) .nl (.cd (.sq none .nl (.sq (some [0, 3]) (.sq none .nl (.bl (some [0, 3]) (.lp [0, 3, 4, 5] (.sq none (.sq none .nl (.cd .nl .nl)) (.sq (some [0, 3, 4, 5]) (.bl (some [0, 3, 4, 5]) (.sq (some [0, 3, 4, 5, 44]) .nl (.cd (.sq (some [0, 3, 4, 5]) .nl .nl) .nl))) .nl))))) (.sq none .nl (.sq none .nl .nl)))) .nl))) .nl))))) (.sq none .nl .nl)))) else
  bif Nat.beq g 8 then (.sq none .nl (.sq (some [0, 1, 2]) (.sq (some [0, 1, 2, 24]) .nl (.cd (.sq none .nl .nl) .nl)) (.sq (some [0, 2, 8, 9]) .nl (.sq (some [0, 8, 9, 10]) .nl (.sq (some [0, 8, 9, 10, 11, 12]) .nl (.sq (some [0, 8, 10, 11]) (.bl none (.sq none .nl (.cd (.sq none .nl .nl) (.sq none .nl (.cd (.sq none .nl .nl) .nl))))) (.sq (some [0, 8, 10, 11, 13]) .nl (.sq (some [0, 8, 10, 11, 13]) (.sq (some [0, 8, 10, 11, 13, 70]) .nl (.cd (.sq (some [0, 8, 10, 11, 13, 14]) .nl (.sq (some [0, 8, 10, 11, 13, 14]) (.sq (some [0, 8, 10, 11, 13, 14, 15]) .nl (.sq none .nl (.cd (.sq none .nl .nl) .nl))) (.sq (some [0, 8, 10, 11, 13]) .nl .nl))) (.sq (some [0, 8, 10, 11, 13, 16]) .nl (.sq none .nl (.cd (.sq none .nl .nl) .nl))))) (.sq (some [0, 8, 10]) .nl (.sq (some [8]) .nl (.sq none .nl .nl))))))))))) else
  bif Nat.beq g 11 then (.sq none .nl (.sq (some [0, 1]) (.bl none (.sq (some [0, 1, 10]) .nl (.cd (.sq none .nl .nl) (.sq (some [0, 1, 15]) .nl (.cd (.sq none .nl .nl) (.sq (some [0, 1, 22]) .nl (.cd (.sq none .nl .nl) .nl))))))) (.sq (some []) (.sq (some [0, 1, 5]) .nl (.bl (some []) (.lp [0, 1, 5] (.sq (some [0, 1, 5]) (.sq (some [0, 1, 5, 41]) .nl (.cd .nl .nl)) (.sq (some [0, 1, 5]) (.bl none (.sq (some [0, 1, 5, 6]) .nl (.sq (some [0, 1, 5, 6, 7]) .nl (.sq (some [0, 1, 5, 6, 7, 8]) .nl (.sq none .nl (.sq (some [0, 1, 5, 6, 7, 8, 9]) (.sq (some [0, 1, 5, 6, 7, 8, 65]) .nl (.cd .nl .nl)) (.sq none (.sq none .nl (.cd (.sq none .nl .nl) .nl)) (.sq (some [0, 1, 5, 7, 8]) .nl (.sq (some [0, 1, 5, 7]) .nl (.sq (some [0, 1, 5]) (.sq (some [0, 1, 5, 114]) .nl (.cd .nl .nl)) .nl)))))))))) .nl))))) (.sq none .nl .nl)))) else
  bif Nat.beq g 16 then (.sq none .nl (.sq none .nl .nl)) else
  bif Nat.beq g 22 then (.sq none .nl (.sq (some [0]) (.sq (some [0, 8]) .nl (.cd (.sq none .nl .nl) .nl)) (.sq none .nl .nl))) else
  bif Nat.beq g 20 then (.sq none .nl (.sq none .nl .nl)) else
  bif Nat.beq g 10 then (.sq none .nl (.sq (some [0, 1, 4]) (.bl none (.sq (some [0, 1, 4, 6]) .nl (.cd (.sq none .nl .nl) (.sq (some [0, 1, 4, 14]) .nl (.cd (.sq none .nl .nl) .nl))))) (.sq none .nl .nl))) else
  bif Nat.beq g 9 then (.sq none .nl (.sq none .nl (.sq (some [7]) (.sq (some [0, 1, 2, 7]) .nl (.bl (some [7]) (.lp [0, 1, 2, 7] (.sq (some [0, 1, 2, 7]) (.sq (some [0, 1, 2, 7, 23]) .nl (.cd .nl .nl)) (.sq (some [0, 1, 2, 7]) (.bl none .nl) .nl))))) (.sq none .nl .nl)))) else
  bif Nat.beq g 12 then (.sq none .nl (.sq (some [0]) (.sq (some [0, 10]) .nl (.cd (.sq none .nl .nl) .nl)) (.sq (some [0]) (.sq (some [0, 14, 15, 16]) .nl (.bl (some [0]) (.lp [0, 14, 15, 16] (.sq none .nl (.sq none (.cd .nl .nl) (.sq (some [0, 14, 15, 16]) (.bl (some [0, 14, 15, 16]) (.sq none .nl (.sq (some [0, 4, 14, 15, 16]) (.sq (some [0, 4, 14, 15, 16, 29]) .nl (.cd .nl .nl)) (.sq (some [0, 5, 14, 15, 16]) .nl (.sq none .nl (.cd (.sq none .nl .nl) .nl)))))) .nl)))))) (.sq (some []) .nl (.sq none .nl .nl))))) else
  bif Nat.beq g 36 then (.sq none .nl (.sq (some [0, 1]) (.sq none .nl (.cd .nl .nl)) (.sq (some []) (.sq none .nl (.bl (some []) (.lp [0, 1, 22, 23, 24] (.sq none .nl (.sq none (.cd .nl .nl) (.sq (some [0, 1, 22, 23, 24]) (.bl none (.sq (some [0, 1, 5, 6, 22, 23, 24]) .nl (.sq (some [0, 1, 5, 6, 22, 23, 24]) (.sq none .nl (.cd (.sq none .nl .nl) .nl)) (.sq none .nl (.sq (some [0, 1, 5, 6, 7, 8, 9, 22, 23, 24]) .nl (.sq none (.sq none .nl (.cd (.sq none .nl .nl) .nl)) (.sq (some [0, 1, 5, 7, 8, 10, 11, 22, 23, 24]) .nl (.sq none .nl (.sq (some [0, 1, 5, 7, 8, 10, 11, 22, 23, 24]) .nl (.sq (some [0, 1, 5, 7, 8, 11, 22, 23, 24]) .nl (.sq none .nl (.cd (.sq (some [0, 7, 11]) (.sq (some [0, 7, 11, 12]) .nl (.sq none .nl (.cd (.sq none .nl .nl) .nl))) (.sq none .nl .nl)) .nl)))))))))))) .nl)))))) (.sq none .nl .nl)))) else
  bif Nat.beq g 30 then (.sq none .nl (.sq none .nl (.sq (some [7]) (.sq (some [7, 23, 24, 25]) .nl (.bl (some [7]) (.lp [7, 23, 24, 25] (.sq none .nl (.sq none (.cd .nl .nl) (.sq (some [7, 23, 24, 25]) (.bl none (.sq none .nl .nl)) .nl)))))) (.sq none .nl .nl)))) else
  bif Nat.beq g 28 then (.sq none .nl (.sq (some [3]) .nl (.sq none .nl .nl))) else
  bif Nat.beq g 47 then (.sq none .nl (.sq none .nl .nl)) else
  bif Nat.beq g 4 then (.sq none .nl (.sq none (.sq none .nl (.cd (.sq none .nl .nl) .nl)) (.sq (some [0, 1, 2]) (.sq (some [0, 1, 2, 39]) .nl (.cd (.sq none .nl .nl) .nl)) (.sq (some [0, 1, 2, 7, 8]) .nl (.sq none (.sq none .nl (.cd (.sq none .nl .nl) .nl)) (.sq (some [0, 1, 2, 7, 8]) (.sq none .nl (.bl (some [0, 1, 2, 7, 8]) (.lp [0, 1, 2, 7, 8, 9] (.sq none (.sq none .nl (.cd .nl .nl)) (.sq (some [0, 1, 2, 7, 8, 9]) (.bl none (.sq (some [0, 1, 2, 7, 8, 9, 11]) .nl (.sq none .nl (.cd (.sq none .nl .nl) .nl)))) .nl))))) (.sq (some [0, 1, 2, 7, 8]) (.sq none .nl (.cd (.sq none .nl .nl) .nl)) (.sq (some [0, 1, 2, 7, 8]) (.sq none .nl (.bl (some [0, 1, 2, 7, 8]) (.lp [0, 1, 2, 7, 8, 12] (.sq none (.sq none .nl (.cd .nl .nl)) (.sq (some [0, 1, 2, 7, 8, 12]) (.bl none (.sq (some [0, 1, 2, 7, 8, 12, 14]) .nl (.sq none .nl (.cd (.sq none .nl .nl) .nl)))) .nl))))) (.sq none (.sq none .nl (.cd (.sq none .nl .nl) .nl)) (.sq none .nl (.sq none .nl (.sq (some [0, 1, 2, 15, 16]) .nl (.sq (some [0, 1, 2, 15]) (.sq (some [0, 1, 2, 15, 122]) .nl (.cd (.sq none .nl .nl) .nl)) (.sq (some []) (.sq none .nl (.bl (some []) (.lp [0, 1, 2, 15, 17] (.sq none (.sq none .nl (.cd .nl .nl)) (.sq (some [0, 1, 2, 15, 17]) (.bl none (.sq (some [0, 1, 2, 15, 17, 18, 19]) .nl (.sq (some [0, 1, 2, 15, 17, 182]) .nl (.cd (.sq none .nl .nl) .nl)))) .nl))))) (.sq none .nl .nl))))))))))))))) else
  bif Nat.beq g 5 then (.sq none .nl (.sq none (.sq none .nl (.cd (.sq none .nl .nl) .nl)) (.sq (some [0, 1, 2, 3]) (.sq (some [0, 1, 2, 3, 35]) .nl (.cd (.sq none .nl .nl) .nl)) (.sq (some [0, 1, 2, 3, 9, 10]) .nl (.sq none (.sq none .nl (.cd (.sq none .nl .nl) .nl)) (.sq none .nl (.sq none .nl (.sq none .nl (.sq (some [2, 3, 9, 10, 11, 12]) (.sq none .nl (.bl (some [2, 3, 9, 10, 11, 12]) (.lp [0, 2, 3, 9, 10, 11, 12, 13] (.sq none (.sq none .nl (.cd .nl .nl)) (.sq (some [0, 2, 3, 9, 10, 11, 12, 13]) (.bl (some [0, 2, 3, 9, 10, 11, 12, 13]) (.sq (some [0, 2, 3, 9, 10, 11, 12, 13]) (.sq (some [0, 2, 3, 9, 10, 11, 12, 13, 58]) .nl (.cd (.sq none .nl .nl) .nl)) (.sq (some [0, 2, 3, 9, 10, 11, 12, 13, 14, 15]) .nl (.sq (some [0, 2, 3, 9, 10, 11, 12, 13, 14, 15]) .nl (.sq none (.sq none .nl (.cd .nl .nl)) (.sq (some [0, 2, 3, 9, 10, 11, 12, 13]) (.sq (some [0, 2, 3, 9, 10, 11, 12, 13, 89]) .nl (.cd (.sq none .nl .nl) .nl)) (.sq (some [0, 2, 3, 9, 10, 11, 12, 13, 95]) .nl (.cd (.sq none (.sq none .nl (.cd .nl .nl)) .nl) .nl)))))))) .nl))))) (.sq (some [2, 10, 11, 12]) (.sq (some [2, 3, 9, 10, 11, 12, 113]) .nl (.cd (.sq none .nl (.sq none .nl (.cd .nl .nl))) .nl)) (.sq none .nl (.sq none .nl (.sq (some [11, 12, 16, 17]) .nl (.sq (some [11, 16]) (.sq (some [11, 16, 154]) .nl (.cd (.sq none .nl .nl) .nl)) (.sq none .nl .nl))))))))))))))) else
  bif Nat.beq g 3 then (.sq none .nl (.sq none (.sq none .nl (.cd (.sq none .nl .nl) .nl)) (.sq (some [0, 1, 2]) (.sq (some [0, 1, 2, 30]) .nl (.cd (.sq none .nl .nl) .nl)) (.sq (some [0, 1, 2, 7]) .nl (.sq none (.sq none .nl (.cd (.sq none .nl .nl) .nl)) (.sq (some [0, 1, 2, 7]) (.sq none .nl (.bl (some [0, 1, 2, 7]) (.lp [0, 1, 2, 7, 9] (.sq none (.sq none .nl (.cd .nl .nl)) (.sq (some [0, 1, 2, 7, 9]) (.bl none (.sq (some [0, 1, 2, 7, 9]) (.sq (some [0, 1, 2, 7, 9, 48]) .nl (.cd (.sq none .nl .nl) .nl)) (.sq (some [0, 1, 2, 7, 9, 11]) .nl (.sq none .nl (.cd (.sq none .nl .nl) .nl))))) .nl))))) (.sq (some [0, 1, 2, 7, 12]) .nl (.sq none .nl (.sq (some [0, 2, 7, 12, 13]) (.sq none .nl (.cd .nl .nl)) (.sq (some [0, 2, 7, 12, 13, 14]) .nl (.sq (some [0, 2, 7, 12, 13, 14]) (.sq none .nl (.cd .nl .nl)) (.sq (some [0, 7, 12, 13, 14]) (.sq none .nl (.cd .nl .nl)) (.sq (some [0, 7, 12, 13]) (.sq none .nl (.cd (.sq none .nl .nl) .nl)) (.sq (some []) (.sq none .nl (.bl (some []) (.lp [0, 7, 12, 13, 15] (.sq none (.sq none .nl (.cd .nl .nl)) (.sq (some [0, 7, 12, 13, 15]) (.bl none (.sq (some [0, 7, 12, 13, 15, 16, 17]) .nl (.sq (some [0, 7, 12, 13, 15, 131]) .nl (.cd (.sq none .nl .nl) .nl)))) .nl))))) (.sq none .nl .nl))))))))))))))) else
  bif Nat.beq g 21 then (.sq none .nl (.sq (some [0, 1, 2]) (.sq (some [0, 1, 2, 23]) .nl (.cd (.sq none .nl .nl) .nl)) (.sq none .nl (.sq (some [0, 1, 2, 7]) (.sq (some [0, 1, 2, 7, 30]) .nl (.cd (.sq none .nl .nl) .nl)) (.sq (some []) (.sq none .nl (.bl (some []) (.lp [0, 1, 2, 7, 8] (.sq none (.sq none .nl (.cd .nl .nl)) (.sq (some [0, 1, 2, 7, 8]) (.bl none (.sq (some [0, 1, 2, 7, 8, 9, 10]) .nl (.sq (some [0, 1, 2, 7, 8, 90]) .nl (.cd (.sq none .nl .nl) .nl)))) .nl))))) (.sq none .nl .nl)))))) else
  bif Nat.beq g 7 then (.sq none .nl (.sq (some [0, 4, 5]) .nl (.sq (some [0, 4]) (.sq (some [0, 4, 17]) .nl (.cd (.sq none .nl .nl) .nl)) (.sq (some [4, 6, 7]) .nl (.sq none (.sq none .nl (.cd (.sq none .nl .nl) .nl)) (.sq none .nl .nl)))))) else
  bif Nat.beq g 15 then (.sq none .nl (.sq (some [0, 1]) (.sq (some [0, 1, 20]) .nl (.cd (.sq none .nl .nl) .nl)) (.sq none (.sq none .nl (.cd (.sq none .nl .nl) .nl)) (.sq (some [0, 6]) .nl (.sq (some [0, 6]) (.sq (some [0, 6, 7]) .nl (.sq none .nl (.cd (.sq none .nl .nl) .nl))) (.sq (some [6]) (.sq (some [0, 6, 38, 39, 40]) .nl (.bl (some [6]) (.lp [0, 6, 38, 39, 40] (.sq none .nl (.sq none (.cd .nl .nl) (.sq (some [0, 6, 38, 39, 40]) (.bl none (.sq none .nl (.sq (some [0, 6, 10, 38, 39, 40]) .nl (.sq none .nl (.cd (.sq none .nl .nl) .nl))))) .nl)))))) (.sq (some [6]) .nl (.sq none .nl .nl)))))))) else
  bif Nat.beq g 29 then (.sq none .nl (.sq none .nl .nl)) else
  .nl
noncomputable abbrev cK : CF := CK P (regK P) ext prim an

noncomputable def s_store_New (J : JT) (G : GT) (cf : CF) (a0 : AV) (H : Hp) : R :=
 J 1 (fun j0 =>
 J 2 (fun j1 =>
 B1 (ilt a0 (.int .i64 1)) fun v2 =>
 G v2 false (fun k3 =>
 k3 a0 H) (fun v4 h5 =>
 G v2 false (fun k6 =>
 B1 (igt v4 (.int .i64 16777216)) fun v7 =>
 k6 v7 h5) (fun v8 h9 =>
 B1 (pk v2 (.bool true) v8) fun v10 =>
 j1 a0 v10 h9) h5) H) (fun x11 x12 h13 =>
 CD x12 (
 some (.tuple [.ptr0, (.int .i64 1)], h13)) (
 j0 x11 h13))) (fun x14 h15 =>
 BN (mk0 h15) fun i16 h17 =>
 B1 (fl [(.int .i64 0), .map0, (.bool false), (.int .i64 0), .slice0] [(0, 1, x14), (1, 1, (.map i16))]) fun l18 =>
 BN (bx 76 (.agg l18) h17) fun i19 h20 =>
 some (.tuple [(.ptr i19 0), (.int .i64 0)], h20))

theorem e_store_New (J : JT) (G : GT) (cf : CF) (a0 : AV) (H : Hp) : callF P J G prim an cf 23 [a0] H = s_store_New J G cf a0 H := by kernel_rfl

theorem c_store_New {a0 : AV} {H : Hp} {r : AV × Hp} (h : s_store_New JN GO cK a0 H = some r) : cK (.func (.func 23) [] []) [a0] H = some r := callF_fix (first := []) (cap := []) ((e_store_New JN GO _ a0 H).trans h)

noncomputable def s_store_name (J : JT) (G : GT) (cf : CF) (a0 : AV) (H : Hp) : R :=
 B1 (sne a0 (.str [])) fun v0 =>
 G v0 true (fun k1 =>
 k1 a0 H) (fun v2 h3 =>
 G v0 true (fun k4 =>
 B1 (lens v2) fun v5 =>
 k4 v5 h3) (fun v6 h7 =>
 G v0 true (fun k8 =>
 B1 (ile v6 (.int .i64 16)) fun v9 =>
 k8 v9 h7) (fun v10 h11 =>
 B1 (pk v0 v10 (.bool false)) fun v12 =>
 G v12 true (fun k13 =>
 k13 a0 h11) (fun v14 h15 =>
 G v12 true (fun k16 =>
 B2 (cf (.func (.func 73) [] []) [v14, (.str [97, 98, 99, 100, 101, 102, 103, 104, 105, 106, 107, 108, 109, 110, 111, 112, 113, 114, 115, 116, 117, 118, 119, 120, 121, 122, 48, 49, 50, 51, 52, 53, 54, 55, 56, 57, 45])] h15) fun v17 h18 =>
 k16 v17 h18) (fun v19 h20 =>
 G v12 true (fun k21 =>
 B1 (seq v19 (.str [])) fun v22 =>
 k21 v22 h20) (fun v23 h24 =>
 B1 (pk v12 v23 (.bool false)) fun v25 =>
 some (v25, h24)) h20) h15) h11) h7) h3) H

theorem e_store_name (J : JT) (G : GT) (cf : CF) (a0 : AV) (H : Hp) : callF P J G prim an cf 60 [a0] H = s_store_name J G cf a0 H := by kernel_rfl

theorem c_store_name {a0 : AV} {H : Hp} {r : AV × Hp} (h : s_store_name JN GO cK a0 H = some r) : cK (.func (.func 60) [] []) [a0] H = some r := callF_fix (first := []) (cap := []) ((e_store_name JN GO _ a0 H).trans h)

noncomputable def s_store_Store_of (J : JT) (G : GT) (cf : CF) (a0 a1 : AV) (H : Hp) : R :=
 J 3 (fun j0 =>
 B1 (nilA a0) fun v1 =>
 B1 (fa 1 v1) fun v2 =>
 B1 (ld v2 H) fun v3 =>
 B1 (lkp .str .ptr0 false v3 a1 H) fun v4 =>
 j0 a0 a1 v4 H) (fun x5 x6 x7 h8 =>
 J 1 (fun j9 =>
 J 3 (fun j10 =>
 B1 (nilA x5) fun v11 =>
 B1 (fa 2 v11) fun v12 =>
 B1 (ld v12 h8) fun v13 =>
 j10 x6 x7 v13 h8) (fun x14 x15 x16 h17 =>
 CD x16 (
 some (.tuple [.ptr0, (.int .i64 11)], h17)) (
 B2 (cf (.func (.func 60) [] []) [x14] h17) fun v18 h19 =>
 B1 (unA .not v18) fun v20 =>
 CD v20 (
 some (.tuple [.ptr0, (.int .i64 1)], h19)) (
 B1 (eqB .eql (pe x15 .ptr0 h19)) fun v21 =>
 CD v21 (
 some (.tuple [.ptr0, (.int .i64 4)], h19)) (
 j9 x15 h19))))) (fun x22 h23 =>
 some (.tuple [x22, (.int .i64 0)], h23)))

theorem e_store_Store_of (J : JT) (G : GT) (cf : CF) (a0 a1 : AV) (H : Hp) : callF P J G prim an cf 43 [a0, a1] H = s_store_Store_of J G cf a0 a1 H := by kernel_rfl

theorem c_store_Store_of {a0 a1 : AV} {H : Hp} {r : AV × Hp} (h : s_store_Store_of JN GO cK a0 a1 H = some r) : cK (.func (.func 43) [] []) [a0, a1] H = some r := callF_fix (first := []) (cap := []) ((e_store_Store_of JN GO _ a0 a1 H).trans h)

noncomputable def s_store_Store_burn (J : JT) (G : GT) (cf : CF) (a0 : AV) (H : Hp) : R :=
 J 1 (fun j0 =>
 J 2 (fun j1 =>
 B1 (nilA a0) fun v2 =>
 B1 (fa 3 v2) fun v3 =>
 B1 (ld v3 H) fun v4 =>
 B1 (ieq v4 (.int .i64 0)) fun v5 =>
 j1 a0 v5 H) (fun x6 x7 h8 =>
 CD x7 (
 some ((.bool true), h8)) (
 j0 x6 h8))) (fun x9 h10 =>
 J 1 (fun j11 =>
 B1 (nilA x9) fun v12 =>
 B1 (fa 3 v12) fun v13 =>
 B1 (ld v13 h10) fun v14 =>
 B1 (isub v14 (.int .i64 1)) fun v15 =>
 B1 (nilA x9) fun v16 =>
 B1 (fa 3 v16) fun v17 =>
 B1 (st 1 v17 v15 h10) fun h18 =>
 j11 x9 h18) (fun x19 h20 =>
 J 1 (fun j21 =>
 J 2 (fun j22 =>
 B1 (nilA x19) fun v23 =>
 B1 (fa 3 v23) fun v24 =>
 B1 (ld v24 h20) fun v25 =>
 B1 (igt v25 (.int .i64 0)) fun v26 =>
 j22 x19 v26 h20) (fun x27 x28 h29 =>
 CD x28 (
 some ((.bool true), h29)) (
 j21 x27 h29))) (fun x30 h31 =>
 J 0 (fun j32 =>
 B1 (nilA x30) fun v33 =>
 B1 (fa 4 v33) fun v34 =>
 B1 (ld v34 h31) fun v35 =>
 B2 (cf (.func (.func 13) [] []) [x30, v35] h31) fun v36 h37 =>
 j32  h37) (fun  h38 =>
 some ((.bool false), h38)))))

theorem e_store_Store_burn (J : JT) (G : GT) (cf : CF) (a0 : AV) (H : Hp) : callF P J G prim an cf 45 [a0] H = s_store_Store_burn J G cf a0 H := by kernel_rfl

theorem c_store_Store_burn {a0 : AV} {H : Hp} {r : AV × Hp} (h : s_store_Store_burn JN GO cK a0 H = some r) : cK (.func (.func 45) [] []) [a0] H = some r := callF_fix (first := []) (cap := []) ((e_store_Store_burn JN GO _ a0 H).trans h)

noncomputable def s_store_Store_Append (J : JT) (G : GT) (cf : CF) (a0 a1 a2 : AV) (H : Hp) : R :=
 J 5 (fun j0 =>
 B2 (cf (.func (.func 43) [] []) [a0, a1] H) fun v1 h2 =>
 B1 (ex 0 v1) fun v3 =>
 B1 (ex 1 v1) fun v4 =>
 j0 a0 a1 a2 v3 v4 h2) (fun x5 x6 x7 x8 x9 h10 =>
 J 4 (fun j11 =>
 J 6 (fun j12 =>
 B1 (ine x9 (.int .i64 0)) fun v13 =>
 G v13 true (fun k14 =>
 k14 x9 h10) (fun v15 h16 =>
 G v13 true (fun k17 =>
 B1 (ine v15 (.int .i64 4)) fun v18 =>
 k17 v18 h16) (fun v19 h20 =>
 B1 (pk v13 v19 (.bool false)) fun v21 =>
 j12 x5 x6 x7 x8 x9 v21 h20) h16) h10) (fun x22 x23 x24 x25 x26 x27 h28 =>
 CD x27 (
 some (x26, h28)) (
 J 5 (fun j29 =>
 B1 (lenx x24) fun v30 =>
 B2 (cf (.func (.func 44) [] []) [x22] h28) fun v31 h32 =>
 B1 (igt v30 v31) fun v33 =>
 G v33 false (fun k34 =>
 k34 x25 h32) (fun v35 h36 =>
 G v33 false (fun k37 =>
 B1 (eqB .eql (pe v35 .ptr0 h36)) fun v38 =>
 k37 v38 h36) (fun v39 h40 =>
 G v33 false (fun k41 =>
 k41 v39 h40) (fun v42 h43 =>
 G v42 true (fun k44 =>
 k44 x22 h43) (fun v45 h46 =>
 G v42 true (fun k47 =>
 B1 (nilA v45) fun v48 =>
 k47 v48 h46) (fun v49 h50 =>
 G v42 true (fun k51 =>
 B1 (fa 1 v49) fun v52 =>
 k51 v52 h50) (fun v53 h54 =>
 G v42 true (fun k55 =>
 B1 (ld v53 h54) fun v56 =>
 k55 v56 h54) (fun v57 h58 =>
 G v42 true (fun k59 =>
 B1 (lenm v57 h58) fun v60 =>
 k59 v60 h58) (fun v61 h62 =>
 G v42 true (fun k63 =>
 B1 (ige v61 (.int .i64 64)) fun v64 =>
 k63 v64 h62) (fun v65 h66 =>
 G v33 false (fun k67 =>
 B1 (pk v42 v65 (.bool false)) fun v68 =>
 k67 v68 h66) (fun v69 h70 =>
 B1 (pk v33 (.bool true) v69) fun v71 =>
 j29 x22 x23 x24 x25 v71 h70) h66) h62) h58) h54) h50) h46) h43) h40) h36) h32) (fun x72 x73 x74 x75 x76 h77 =>
 CD x76 (
 some ((.int .i64 6), h77)) (
 B2 (cf (.func (.func 45) [] []) [x72] h77) fun v78 h79 =>
 B1 (unA .not v78) fun v80 =>
 CD v80 (
 some ((.int .i64 11), h79)) (
 j11 x72 x73 x74 x75 h79)))))) (fun x81 x82 x83 x84 h85 =>
 J 2 (fun j86 =>
 B1 (eqB .eql (pe x84 .ptr0 h85)) fun v87 =>
 CD v87 (
 B1 (fl [.slice0, (.int .i64 0)] []) fun l88 =>
 BN (bx 81 (.agg l88) h85) fun i89 h90 =>
 B1 (nilA x81) fun v91 =>
 B1 (fa 1 v91) fun v92 =>
 B1 (ld v92 h90) fun v93 =>
 B1 (mup .str v93 x82 (.ptr i89 0) h90) fun h94 =>
 j86 x83 (.ptr i89 0) h94) (
 j86 x83 x84 h85)) (fun x95 x96 h97 =>
 J 0 (fun j98 =>
 B1 (nilA x96) fun v99 =>
 B1 (fa 0 v99) fun v100 =>
 B1 (ld v100 h97) fun v101 =>
 B2 (app' 5 1 [(.int .u8 0)] false v101 x95 h97) fun v102 h103 =>
 B1 (nilA x96) fun v104 =>
 B1 (fa 0 v104) fun v105 =>
 B1 (st 1 v105 v102 h103) fun h106 =>
 j98  h106) (fun  h107 =>
 some ((.int .i64 0), h107)))))

theorem e_store_Store_Append (J : JT) (G : GT) (cf : CF) (a0 a1 a2 : AV) (H : Hp) : callF P J G prim an cf 27 [a0, a1, a2] H = s_store_Store_Append J G cf a0 a1 a2 H := by kernel_rfl

theorem c_store_Store_Append {a0 a1 a2 : AV} {H : Hp} {r : AV × Hp} (h : s_store_Store_Append JN GO cK a0 a1 a2 H = some r) : cK (.func (.func 27) [] []) [a0, a1, a2] H = some r := callF_fix (first := []) (cap := []) ((e_store_Store_Append JN GO _ a0 a1 a2 H).trans h)

noncomputable def l_store_Store_Crash (J : JT) (G : GT) (cf : CF) (j7 : K.Fn 1) : K.Fn 5 := LP 5 fun j8 => fun x9 x10 x11 x12 x13 h14 =>
 B1 (ilt x13 x12) fun v15 =>
 CD v15 (
 J 5 (fun j16 =>
 J 5 (fun j17 =>
 B1 (ia 1 x11 x13) fun v18 =>
 B1 (ld v18 h14) fun v19 =>
 J 6 (fun j20 =>
 B1 (nilA x9) fun v21 =>
 B1 (fa 1 v21) fun v22 =>
 B1 (ld v22 h14) fun v23 =>
 B1 (lkp .str .ptr0 false v23 v19 h14) fun v24 =>
 j20 x9 x10 v24 x11 x12 x13 h14) (fun x25 x26 x27 x28 x29 x30 h31 =>
 J 7 (fun j32 =>
 B1 (nilA x27) fun v33 =>
 B1 (fa 0 v33) fun v34 =>
 B1 (ld v34 h31) fun v35 =>
 B1 (lenx v35) fun v36 =>
 B1 (nilA x27) fun v37 =>
 B1 (fa 1 v37) fun v38 =>
 B1 (ld v38 h31) fun v39 =>
 B1 (isub v36 v39) fun v40 =>
 j32 x25 x26 x27 v40 x28 x29 x30 h31) (fun x41 x42 x43 x44 x45 x46 x47 h48 =>
 B1 (ieq x44 (.int .i64 0)) fun v49 =>
 CD v49 (
 j17 x41 x42 x45 x46 x47 h48) (
 J 7 (fun j50 =>
 B1 (lenx x42) fun v51 =>
 B1 (igt v51 (.int .i64 0)) fun v52 =>
 CD v52 (
 J 7 (fun j53 =>
 B1 (ia 1 x42 (.int .i64 0)) fun v54 =>
 B1 (ld v54 h48) fun v55 =>
 B2 (builtinA P .max #[3, 3] [v55, (.int .i64 0)] h48) fun v56 h57 =>
 B2 (builtinA P .min #[3, 3] [v56, x44] h57) fun v58 h59 =>
 j53 x41 x42 x43 v58 x45 x46 x47 h59) (fun x60 x61 x62 x63 x64 x65 x66 h67 =>
 B1 (sll 1 x61 (some (.int .i64 1)) none none) fun v68 =>
 j50 x60 v68 x62 x63 x64 x65 x66 h67)) (
 j50 x41 x42 x43 (.int .i64 0) x45 x46 x47 h48)) (fun x69 x70 x71 x72 x73 x74 x75 h76 =>
 J 6 (fun j77 =>
 B1 (nilA x71) fun v78 =>
 B1 (fa 0 v78) fun v79 =>
 B1 (ld v79 h76) fun v80 =>
 B1 (nilA x71) fun v81 =>
 B1 (fa 1 v81) fun v82 =>
 B1 (ld v82 h76) fun v83 =>
 B1 (iadd v83 x72) fun v84 =>
 B1 (sll 1 v80 none (some v84) none) fun v85 =>
 B1 (nilA x71) fun v86 =>
 B1 (fa 0 v86) fun v87 =>
 B1 (st 1 v87 v85 h76) fun h88 =>
 j77 x69 x70 x71 x73 x74 x75 h88) (fun x89 x90 x91 x92 x93 x94 h95 =>
 B1 (nilA x91) fun v96 =>
 B1 (fa 0 v96) fun v97 =>
 B1 (ld v97 h95) fun v98 =>
 B1 (lenx v98) fun v99 =>
 B1 (nilA x91) fun v100 =>
 B1 (fa 1 v100) fun v101 =>
 B1 (st 1 v101 v99 h95) fun h102 =>
 j17 x89 x90 x92 x93 x94 h102)))))) (fun x103 x104 x105 x106 x107 h108 =>
 j16 x103 x104 x105 x106 x107 h108)) (fun x109 x110 x111 x112 x113 h114 =>
 B1 (iadd x113 (.int .i64 1)) fun v115 =>
 j8 x109 x110 x111 x112 v115 h114)) (
 j7 x9 h14)

theorem rl_store_Store_Crash (J : JT) (G : GT) (cf : CF) (j7 : K.Fn 1) (j8 : K.Fn 5) (x9 x10 x11 x12 x13 : AV) (h14 : Hp) : codeF P J G cf (nT P 13) (atC P 13 [1, 0, 1, 0, 0]) (.sq none .nl (.sq none (.cd .nl .nl) (.sq (some [0, 1, 14, 15, 16]) (.bl (some [0, 1, 14, 15, 16]) (.sq none .nl (.sq (some [0, 1, 6, 14, 15, 16]) .nl (.sq (some [0, 1, 6, 7, 14, 15, 16]) .nl (.sq none (.sq none .nl (.cd .nl .nl)) (.sq none .nl (.sq (some [0, 1, 6, 8, 14, 15, 16]) (.sq none .nl (.cd (.sq (some [0, 1, 6, 8, 14, 15, 16]) .nl .nl) .nl)) (.sq (some [0, 1, 6, 14, 15, 16]) .nl .nl)))))))) .nl))) (fun t H => app 5 j8 (vals [0, 1, 14, 15, 16] t) H) (fun q t H => match Nat.beq q 0 with | true => app 1 j7 (vals [0] t) H | false => (fun _ _ _ => none) q t H) (retK P 13) (mkT (nT P 13) [0, 1, 14, 15, 16] [x9, x10, x11, x12, x13]) h14 =
(B1 (ilt x13 x12) fun v15 =>
 CD v15 (
 J 5 (fun j16 =>
 J 5 (fun j17 =>
 B1 (ia 1 x11 x13) fun v18 =>
 B1 (ld v18 h14) fun v19 =>
 J 6 (fun j20 =>
 B1 (nilA x9) fun v21 =>
 B1 (fa 1 v21) fun v22 =>
 B1 (ld v22 h14) fun v23 =>
 B1 (lkp .str .ptr0 false v23 v19 h14) fun v24 =>
 j20 x9 x10 v24 x11 x12 x13 h14) (fun x25 x26 x27 x28 x29 x30 h31 =>
 J 7 (fun j32 =>
 B1 (nilA x27) fun v33 =>
 B1 (fa 0 v33) fun v34 =>
 B1 (ld v34 h31) fun v35 =>
 B1 (lenx v35) fun v36 =>
 B1 (nilA x27) fun v37 =>
 B1 (fa 1 v37) fun v38 =>
 B1 (ld v38 h31) fun v39 =>
 B1 (isub v36 v39) fun v40 =>
 j32 x25 x26 x27 v40 x28 x29 x30 h31) (fun x41 x42 x43 x44 x45 x46 x47 h48 =>
 B1 (ieq x44 (.int .i64 0)) fun v49 =>
 CD v49 (
 j17 x41 x42 x45 x46 x47 h48) (
 J 7 (fun j50 =>
 B1 (lenx x42) fun v51 =>
 B1 (igt v51 (.int .i64 0)) fun v52 =>
 CD v52 (
 J 7 (fun j53 =>
 B1 (ia 1 x42 (.int .i64 0)) fun v54 =>
 B1 (ld v54 h48) fun v55 =>
 B2 (builtinA P .max #[3, 3] [v55, (.int .i64 0)] h48) fun v56 h57 =>
 B2 (builtinA P .min #[3, 3] [v56, x44] h57) fun v58 h59 =>
 j53 x41 x42 x43 v58 x45 x46 x47 h59) (fun x60 x61 x62 x63 x64 x65 x66 h67 =>
 B1 (sll 1 x61 (some (.int .i64 1)) none none) fun v68 =>
 j50 x60 v68 x62 x63 x64 x65 x66 h67)) (
 j50 x41 x42 x43 (.int .i64 0) x45 x46 x47 h48)) (fun x69 x70 x71 x72 x73 x74 x75 h76 =>
 J 6 (fun j77 =>
 B1 (nilA x71) fun v78 =>
 B1 (fa 0 v78) fun v79 =>
 B1 (ld v79 h76) fun v80 =>
 B1 (nilA x71) fun v81 =>
 B1 (fa 1 v81) fun v82 =>
 B1 (ld v82 h76) fun v83 =>
 B1 (iadd v83 x72) fun v84 =>
 B1 (sll 1 v80 none (some v84) none) fun v85 =>
 B1 (nilA x71) fun v86 =>
 B1 (fa 0 v86) fun v87 =>
 B1 (st 1 v87 v85 h76) fun h88 =>
 j77 x69 x70 x71 x73 x74 x75 h88) (fun x89 x90 x91 x92 x93 x94 h95 =>
 B1 (nilA x91) fun v96 =>
 B1 (fa 0 v96) fun v97 =>
 B1 (ld v97 h95) fun v98 =>
 B1 (lenx v98) fun v99 =>
 B1 (nilA x91) fun v100 =>
 B1 (fa 1 v100) fun v101 =>
 B1 (st 1 v101 v99 h95) fun h102 =>
 j17 x89 x90 x92 x93 x94 h102)))))) (fun x103 x104 x105 x106 x107 h108 =>
 j16 x103 x104 x105 x106 x107 h108)) (fun x109 x110 x111 x112 x113 h114 =>
 B1 (iadd x113 (.int .i64 1)) fun v115 =>
 j8 x109 x110 x111 x112 v115 h114)) (
 j7 x9 h14)) := by kernel_rfl

theorem dl_store_Store_Crash (J : JT) (G : GT) (cf : CF) (j7 : K.Fn 1) : l_store_Store_Crash J G cf j7 = loopF P J G cf (nT P 13) (atC P 13 [1, 0, 1, 0, 0]) (.sq none .nl (.sq none (.cd .nl .nl) (.sq (some [0, 1, 14, 15, 16]) (.bl (some [0, 1, 14, 15, 16]) (.sq none .nl (.sq (some [0, 1, 6, 14, 15, 16]) .nl (.sq (some [0, 1, 6, 7, 14, 15, 16]) .nl (.sq none (.sq none .nl (.cd .nl .nl)) (.sq none .nl (.sq (some [0, 1, 6, 8, 14, 15, 16]) (.sq none .nl (.cd (.sq (some [0, 1, 6, 8, 14, 15, 16]) .nl .nl) .nl)) (.sq (some [0, 1, 6, 14, 15, 16]) .nl .nl)))))))) .nl))) [0, 1, 14, 15, 16] (fun q t H => match Nat.beq q 0 with | true => app 1 j7 (vals [0] t) H | false => (fun _ _ _ => none) q t H) (retK P 13) := by
  unfold l_store_Store_Crash loopF
  refine congrArg (LP 5) ?_
  funext j8 x9 x10 x11 x12 x13 h14
  exact (rl_store_Store_Crash J G cf j7 j8 x9 x10 x11 x12 x13 h14).symm

theorem ql_store_Store_Crash (cf : CF) (j7 : K.Fn 1) (x9 x10 x11 x12 x13 : AV) (h14 : Hp) : l_store_Store_Crash JN GO cf j7 x9 x10 x11 x12 x13 h14 =

 B1 (ilt x13 x12) fun v15 =>
 CD v15 (
 JN 5 (fun j16 =>
 JN 5 (fun j17 =>
 B1 (ia 1 x11 x13) fun v18 =>
 B1 (ld v18 h14) fun v19 =>
 JN 6 (fun j20 =>
 B1 (nilA x9) fun v21 =>
 B1 (fa 1 v21) fun v22 =>
 B1 (ld v22 h14) fun v23 =>
 B1 (lkp .str .ptr0 false v23 v19 h14) fun v24 =>
 j20 x9 x10 v24 x11 x12 x13 h14) (fun x25 x26 x27 x28 x29 x30 h31 =>
 JN 7 (fun j32 =>
 B1 (nilA x27) fun v33 =>
 B1 (fa 0 v33) fun v34 =>
 B1 (ld v34 h31) fun v35 =>
 B1 (lenx v35) fun v36 =>
 B1 (nilA x27) fun v37 =>
 B1 (fa 1 v37) fun v38 =>
 B1 (ld v38 h31) fun v39 =>
 B1 (isub v36 v39) fun v40 =>
 j32 x25 x26 x27 v40 x28 x29 x30 h31) (fun x41 x42 x43 x44 x45 x46 x47 h48 =>
 B1 (ieq x44 (.int .i64 0)) fun v49 =>
 CD v49 (
 j17 x41 x42 x45 x46 x47 h48) (
 JN 7 (fun j50 =>
 B1 (lenx x42) fun v51 =>
 B1 (igt v51 (.int .i64 0)) fun v52 =>
 CD v52 (
 JN 7 (fun j53 =>
 B1 (ia 1 x42 (.int .i64 0)) fun v54 =>
 B1 (ld v54 h48) fun v55 =>
 B2 (builtinA P .max #[3, 3] [v55, (.int .i64 0)] h48) fun v56 h57 =>
 B2 (builtinA P .min #[3, 3] [v56, x44] h57) fun v58 h59 =>
 j53 x41 x42 x43 v58 x45 x46 x47 h59) (fun x60 x61 x62 x63 x64 x65 x66 h67 =>
 B1 (sll 1 x61 (some (.int .i64 1)) none none) fun v68 =>
 j50 x60 v68 x62 x63 x64 x65 x66 h67)) (
 j50 x41 x42 x43 (.int .i64 0) x45 x46 x47 h48)) (fun x69 x70 x71 x72 x73 x74 x75 h76 =>
 JN 6 (fun j77 =>
 B1 (nilA x71) fun v78 =>
 B1 (fa 0 v78) fun v79 =>
 B1 (ld v79 h76) fun v80 =>
 B1 (nilA x71) fun v81 =>
 B1 (fa 1 v81) fun v82 =>
 B1 (ld v82 h76) fun v83 =>
 B1 (iadd v83 x72) fun v84 =>
 B1 (sll 1 v80 none (some v84) none) fun v85 =>
 B1 (nilA x71) fun v86 =>
 B1 (fa 0 v86) fun v87 =>
 B1 (st 1 v87 v85 h76) fun h88 =>
 j77 x69 x70 x71 x73 x74 x75 h88) (fun x89 x90 x91 x92 x93 x94 h95 =>
 B1 (nilA x91) fun v96 =>
 B1 (fa 0 v96) fun v97 =>
 B1 (ld v97 h95) fun v98 =>
 B1 (lenx v98) fun v99 =>
 B1 (nilA x91) fun v100 =>
 B1 (fa 1 v100) fun v101 =>
 B1 (st 1 v101 v99 h95) fun h102 =>
 j17 x89 x90 x92 x93 x94 h102)))))) (fun x103 x104 x105 x106 x107 h108 =>
 j16 x103 x104 x105 x106 x107 h108)) (fun x109 x110 x111 x112 x113 h114 =>
 B1 (iadd x113 (.int .i64 1)) fun v115 =>
 l_store_Store_Crash JN GO cf j7 x109 x110 x111 x112 v115 h114)) (
 j7 x9 h14) := by
  have h1 : l_store_Store_Crash JN GO cf j7 x9 x10 x11 x12 x13 h14 = app 5 (loopF P JN GO cf (nT P 13) (atC P 13 [1, 0, 1, 0, 0]) (.sq none .nl (.sq none (.cd .nl .nl) (.sq (some [0, 1, 14, 15, 16]) (.bl (some [0, 1, 14, 15, 16]) (.sq none .nl (.sq (some [0, 1, 6, 14, 15, 16]) .nl (.sq (some [0, 1, 6, 7, 14, 15, 16]) .nl (.sq none (.sq none .nl (.cd .nl .nl)) (.sq none .nl (.sq (some [0, 1, 6, 8, 14, 15, 16]) (.sq none .nl (.cd (.sq (some [0, 1, 6, 8, 14, 15, 16]) .nl .nl) .nl)) (.sq (some [0, 1, 6, 14, 15, 16]) .nl .nl)))))))) .nl))) [0, 1, 14, 15, 16] (fun q t H => match Nat.beq q 0 with | true => app 1 j7 (vals [0] t) H | false => (fun _ _ _ => none) q t H) (retK P 13)) [x9, x10, x11, x12, x13] h14 := by rw [dl_store_Store_Crash]; kernel_rfl
  refine h1.trans ((loopF_eq (P := P) cf (nT P 13) (atC P 13 [1, 0, 1, 0, 0]) (.sq none .nl (.sq none (.cd .nl .nl) (.sq (some [0, 1, 14, 15, 16]) (.bl (some [0, 1, 14, 15, 16]) (.sq none .nl (.sq (some [0, 1, 6, 14, 15, 16]) .nl (.sq (some [0, 1, 6, 7, 14, 15, 16]) .nl (.sq none (.sq none .nl (.cd .nl .nl)) (.sq none .nl (.sq (some [0, 1, 6, 8, 14, 15, 16]) (.sq none .nl (.cd (.sq (some [0, 1, 6, 8, 14, 15, 16]) .nl .nl) .nl)) (.sq (some [0, 1, 6, 14, 15, 16]) .nl .nl)))))))) .nl))) [0, 1, 14, 15, 16] (fun q t H => match Nat.beq q 0 with | true => app 1 j7 (vals [0] t) H | false => (fun _ _ _ => none) q t H) (retK P 13) [x9, x10, x11, x12, x13] rfl h14).trans ((rl_store_Store_Crash JN GO cf j7 _ x9 x10 x11 x12 x13 h14).trans ?_))
  rw [dl_store_Store_Crash]

noncomputable def s_store_Store_Crash (J : JT) (G : GT) (cf : CF) (a0 a1 : AV) (H : Hp) : R :=
 B1 (nilA a0) fun v0 =>
 B1 (fa 2 v0) fun v1 =>
 B1 (ld v1 H) fun v2 =>
 CD v2 (
 some (.tuple [], H)) (
 J 1 (fun j3 =>
 B2 (cf (.func (.func 35) [] []) [a0] H) fun v4 h5 =>
 B1 (lenx v4) fun v6 =>
 J 1 (fun j7 =>
 l_store_Store_Crash J G cf j7 a0 a1 v4 v6 (.int .i64 0) h5) (fun x116 h117 =>
 j3 x116 h117)) (fun x118 h119 =>
 B1 (nilA x118) fun v120 =>
 B1 (fa 2 v120) fun v121 =>
 B1 (st 1 v121 (.bool true) h119) fun h122 =>
 B1 (nilA x118) fun v123 =>
 B1 (fa 3 v123) fun v124 =>
 B1 (st 1 v124 (.int .i64 0) h122) fun h125 =>
 some (.tuple [], h125)))

theorem e_store_Store_Crash (J : JT) (G : GT) (cf : CF) (a0 a1 : AV) (H : Hp) : callF P J G prim an cf 13 [a0, a1] H = s_store_Store_Crash J G cf a0 a1 H := by kernel_rfl

theorem c_store_Store_Crash {a0 a1 : AV} {H : Hp} {r : AV × Hp} (h : s_store_Store_Crash JN GO cK a0 a1 H = some r) : cK (.func (.func 13) [] []) [a0, a1] H = some r := callF_fix (first := []) (cap := []) ((e_store_Store_Crash JN GO _ a0 a1 H).trans h)

noncomputable def s_store_Store_On (J : JT) (G : GT) (cf : CF) (a0 : AV) (H : Hp) : R :=
 B1 (nilA a0) fun v0 =>
 B1 (fa 2 v0) fun v1 =>
 B1 (st 1 v1 (.bool false) H) fun h2 =>
 some (.tuple [], h2)

theorem e_store_Store_On (J : JT) (G : GT) (cf : CF) (a0 : AV) (H : Hp) : callF P J G prim an cf 14 [a0] H = s_store_Store_On J G cf a0 H := by kernel_rfl

theorem c_store_Store_On {a0 : AV} {H : Hp} {r : AV × Hp} (h : s_store_Store_On JN GO cK a0 H = some r) : cK (.func (.func 14) [] []) [a0] H = some r := callF_fix (first := []) (cap := []) ((e_store_Store_On JN GO _ a0 H).trans h)

noncomputable def s_store_Store_Off (J : JT) (G : GT) (cf : CF) (a0 : AV) (H : Hp) : R :=
 B1 (nilA a0) fun v0 =>
 B1 (fa 2 v0) fun v1 =>
 B1 (ld v1 H) fun v2 =>
 some (v2, H)

theorem e_store_Store_Off (J : JT) (G : GT) (cf : CF) (a0 : AV) (H : Hp) : callF P J G prim an cf 19 [a0] H = s_store_Store_Off J G cf a0 H := by kernel_rfl

theorem c_store_Store_Off {a0 : AV} {H : Hp} {r : AV × Hp} (h : s_store_Store_Off JN GO cK a0 H = some r) : cK (.func (.func 19) [] []) [a0] H = some r := callF_fix (first := []) (cap := []) ((e_store_Store_Off JN GO _ a0 H).trans h)

noncomputable def s_slices_Clone___byte_byte_ (J : JT) (G : GT) (cf : CF) (a0 : AV) (H : Hp) : R :=
 IFT (gA P .eql 28 true a0 .slice0) <| B1 (binA P .eql 28 a0 .slice0 H) fun v0 =>
 CD v0 (
 some (.slice0, H)) (
 B1 (fl [] []) fun l1 =>
 BN (newCells H l1 5 0) fun i2 h3 =>
 B2 (app' 5 1 [(.int .u8 0)] false (.slice i2 0 0 0 true 1) a0 h3) fun v4 h5 =>
 some (v4, h5))

theorem e_slices_Clone___byte_byte_ (J : JT) (G : GT) (cf : CF) (a0 : AV) (H : Hp) : callF P J G prim an cf 25 [a0] H = s_slices_Clone___byte_byte_ J G cf a0 H := by kernel_rfl

theorem c_slices_Clone___byte_byte_ {a0 : AV} {H : Hp} {r : AV × Hp} (h : s_slices_Clone___byte_byte_ JN GO cK a0 H = some r) : cK (.func (.func 25) [] []) [a0] H = some r := callF_fix (first := []) (cap := []) ((e_slices_Clone___byte_byte_ JN GO _ a0 H).trans h)

noncomputable def s_sum_parts (J : JT) (G : GT) (cf : CF) (a0 : AV) (H : Hp) : R :=
 B1 (iand a0 (.int .u32 65535)) fun v0 =>
 B1 (cv .i64 v0) fun v1 =>
 B1 (ishr a0 (.int .u64 16)) fun v2 =>
 B1 (cv .i64 v2) fun v3 =>
 some (.tuple [v1, v3], H)

theorem e_sum_parts (J : JT) (G : GT) (cf : CF) (a0 : AV) (H : Hp) : callF P J G prim an cf 57 [a0] H = s_sum_parts J G cf a0 H := by kernel_rfl

theorem c_sum_parts {a0 : AV} {H : Hp} {r : AV × Hp} (h : s_sum_parts JN GO cK a0 H = some r) : cK (.func (.func 57) [] []) [a0] H = some r := callF_fix (first := []) (cap := []) ((e_sum_parts JN GO _ a0 H).trans h)

noncomputable def s_sum_made (J : JT) (G : GT) (cf : CF) (a0 a1 : AV) (H : Hp) : R :=
 B1 (irem a1 (.int .i64 65521)) fun v0 =>
 B1 (iadd v0 (.int .i64 65521)) fun v1 =>
 B1 (irem v1 (.int .i64 65521)) fun v2 =>
 B1 (cv .u32 v2) fun v3 =>
 B1 (ishl v3 (.int .u64 16)) fun v4 =>
 B1 (irem a0 (.int .i64 65521)) fun v5 =>
 B1 (iadd v5 (.int .i64 65521)) fun v6 =>
 B1 (irem v6 (.int .i64 65521)) fun v7 =>
 B1 (cv .u32 v7) fun v8 =>
 B1 (ior v4 v8) fun v9 =>
 some (v9, H)

theorem e_sum_made (J : JT) (G : GT) (cf : CF) (a0 a1 : AV) (H : Hp) : callF P J G prim an cf 58 [a0, a1] H = s_sum_made J G cf a0 a1 H := by kernel_rfl

theorem c_sum_made {a0 a1 : AV} {H : Hp} {r : AV × Hp} (h : s_sum_made JN GO cK a0 a1 H = some r) : cK (.func (.func 58) [] []) [a0, a1] H = some r := callF_fix (first := []) (cap := []) ((e_sum_made JN GO _ a0 a1 H).trans h)

noncomputable def s_sum_Good (J : JT) (G : GT) (cf : CF) (a0 : AV) (H : Hp) : R :=
 J 2 (fun j0 =>
 B2 (cf (.func (.func 57) [] []) [a0] H) fun v1 h2 =>
 B1 (ex 0 v1) fun v3 =>
 B1 (ex 1 v1) fun v4 =>
 j0 v3 v4 h2) (fun x5 x6 h7 =>
 B1 (ilt x5 (.int .i64 65521)) fun v8 =>
 G v8 true (fun k9 =>
 k9 x6 h7) (fun v10 h11 =>
 G v8 true (fun k12 =>
 B1 (ilt v10 (.int .i64 65521)) fun v13 =>
 k12 v13 h11) (fun v14 h15 =>
 B1 (pk v8 v14 (.bool false)) fun v16 =>
 some (v16, h15)) h11) h7)

theorem e_sum_Good (J : JT) (G : GT) (cf : CF) (a0 : AV) (H : Hp) : callF P J G prim an cf 56 [a0] H = s_sum_Good J G cf a0 H := by kernel_rfl

theorem c_sum_Good {a0 : AV} {H : Hp} {r : AV × Hp} (h : s_sum_Good JN GO cK a0 H = some r) : cK (.func (.func 56) [] []) [a0] H = some r := callF_fix (first := []) (cap := []) ((e_sum_Good JN GO _ a0 H).trans h)

noncomputable def l_sum_On (J : JT) (G : GT) (cf : CF) (j18 : K.Fn 2) : K.Fn 5 := LP 5 fun j19 => fun x20 x21 x22 x23 x24 h25 =>
 B1 (ilt x24 x23) fun v26 =>
 CD v26 (
 J 5 (fun j27 =>
 B1 (ia 1 x22 x24) fun v28 =>
 B1 (ld v28 h25) fun v29 =>
 J 5 (fun j30 =>
 B1 (cv .i64 v29) fun v31 =>
 B1 (iadd x20 v31) fun v32 =>
 B1 (irem v32 (.int .i64 65521)) fun v33 =>
 j30 v33 x21 x22 x23 x24 h25) (fun x34 x35 x36 x37 x38 h39 =>
 B1 (iadd x35 x34) fun v40 =>
 B1 (irem v40 (.int .i64 65521)) fun v41 =>
 j27 x34 v41 x36 x37 x38 h39)) (fun x42 x43 x44 x45 x46 h47 =>
 B1 (iadd x46 (.int .i64 1)) fun v48 =>
 j19 x42 x43 x44 x45 v48 h47)) (
 j18 x20 x21 h25)

theorem rl_sum_On (J : JT) (G : GT) (cf : CF) (j18 : K.Fn 2) (j19 : K.Fn 5) (x20 x21 x22 x23 x24 : AV) (h25 : Hp) : codeF P J G cf (nT P 40) (atC P 40 [1, 1, 1, 0, 1, 0, 0]) (.sq none .nl (.sq none (.cd .nl .nl) (.sq (some [6, 7, 18, 19, 20]) (.bl none (.sq none .nl (.sq (some [6, 7, 18, 19, 20]) .nl .nl))) .nl))) (fun t H => app 5 j19 (vals [6, 7, 18, 19, 20] t) H) (fun q t H => match Nat.beq q 0 with | true => app 2 j18 (vals [6, 7] t) H | false => (fun _ _ _ => none) q t H) (retK P 40) (mkT (nT P 40) [6, 7, 18, 19, 20] [x20, x21, x22, x23, x24]) h25 =
(B1 (ilt x24 x23) fun v26 =>
 CD v26 (
 J 5 (fun j27 =>
 B1 (ia 1 x22 x24) fun v28 =>
 B1 (ld v28 h25) fun v29 =>
 J 5 (fun j30 =>
 B1 (cv .i64 v29) fun v31 =>
 B1 (iadd x20 v31) fun v32 =>
 B1 (irem v32 (.int .i64 65521)) fun v33 =>
 j30 v33 x21 x22 x23 x24 h25) (fun x34 x35 x36 x37 x38 h39 =>
 B1 (iadd x35 x34) fun v40 =>
 B1 (irem v40 (.int .i64 65521)) fun v41 =>
 j27 x34 v41 x36 x37 x38 h39)) (fun x42 x43 x44 x45 x46 h47 =>
 B1 (iadd x46 (.int .i64 1)) fun v48 =>
 j19 x42 x43 x44 x45 v48 h47)) (
 j18 x20 x21 h25)) := by kernel_rfl

theorem dl_sum_On (J : JT) (G : GT) (cf : CF) (j18 : K.Fn 2) : l_sum_On J G cf j18 = loopF P J G cf (nT P 40) (atC P 40 [1, 1, 1, 0, 1, 0, 0]) (.sq none .nl (.sq none (.cd .nl .nl) (.sq (some [6, 7, 18, 19, 20]) (.bl none (.sq none .nl (.sq (some [6, 7, 18, 19, 20]) .nl .nl))) .nl))) [6, 7, 18, 19, 20] (fun q t H => match Nat.beq q 0 with | true => app 2 j18 (vals [6, 7] t) H | false => (fun _ _ _ => none) q t H) (retK P 40) := by
  unfold l_sum_On loopF
  refine congrArg (LP 5) ?_
  funext j19 x20 x21 x22 x23 x24 h25
  exact (rl_sum_On J G cf j18 j19 x20 x21 x22 x23 x24 h25).symm

theorem ql_sum_On (cf : CF) (j18 : K.Fn 2) (x20 x21 x22 x23 x24 : AV) (h25 : Hp) : l_sum_On JN GO cf j18 x20 x21 x22 x23 x24 h25 =

 B1 (ilt x24 x23) fun v26 =>
 CD v26 (
 JN 5 (fun j27 =>
 B1 (ia 1 x22 x24) fun v28 =>
 B1 (ld v28 h25) fun v29 =>
 JN 5 (fun j30 =>
 B1 (cv .i64 v29) fun v31 =>
 B1 (iadd x20 v31) fun v32 =>
 B1 (irem v32 (.int .i64 65521)) fun v33 =>
 j30 v33 x21 x22 x23 x24 h25) (fun x34 x35 x36 x37 x38 h39 =>
 B1 (iadd x35 x34) fun v40 =>
 B1 (irem v40 (.int .i64 65521)) fun v41 =>
 j27 x34 v41 x36 x37 x38 h39)) (fun x42 x43 x44 x45 x46 h47 =>
 B1 (iadd x46 (.int .i64 1)) fun v48 =>
 l_sum_On JN GO cf j18 x42 x43 x44 x45 v48 h47)) (
 j18 x20 x21 h25) := by
  have h1 : l_sum_On JN GO cf j18 x20 x21 x22 x23 x24 h25 = app 5 (loopF P JN GO cf (nT P 40) (atC P 40 [1, 1, 1, 0, 1, 0, 0]) (.sq none .nl (.sq none (.cd .nl .nl) (.sq (some [6, 7, 18, 19, 20]) (.bl none (.sq none .nl (.sq (some [6, 7, 18, 19, 20]) .nl .nl))) .nl))) [6, 7, 18, 19, 20] (fun q t H => match Nat.beq q 0 with | true => app 2 j18 (vals [6, 7] t) H | false => (fun _ _ _ => none) q t H) (retK P 40)) [x20, x21, x22, x23, x24] h25 := by rw [dl_sum_On]; kernel_rfl
  refine h1.trans ((loopF_eq (P := P) cf (nT P 40) (atC P 40 [1, 1, 1, 0, 1, 0, 0]) (.sq none .nl (.sq none (.cd .nl .nl) (.sq (some [6, 7, 18, 19, 20]) (.bl none (.sq none .nl (.sq (some [6, 7, 18, 19, 20]) .nl .nl))) .nl))) [6, 7, 18, 19, 20] (fun q t H => match Nat.beq q 0 with | true => app 2 j18 (vals [6, 7] t) H | false => (fun _ _ _ => none) q t H) (retK P 40) [x20, x21, x22, x23, x24] rfl h25).trans ((rl_sum_On JN GO cf j18 _ x20 x21 x22 x23 x24 h25).trans ?_))
  rw [dl_sum_On]

noncomputable def s_sum_On (J : JT) (G : GT) (cf : CF) (a0 a1 : AV) (H : Hp) : R :=
 J 2 (fun j0 =>
 B2 (cf (.func (.func 56) [] []) [a0] H) fun v1 h2 =>
 B1 (unA .not v1) fun v3 =>
 CD v3 (
 some (.tuple [(.int .u32 0), (.bool false)], h2)) (
 j0 a0 a1 h2)) (fun x4 x5 h6 =>
 J 3 (fun j7 =>
 B2 (cf (.func (.func 57) [] []) [x4] h6) fun v8 h9 =>
 B1 (ex 0 v8) fun v10 =>
 B1 (ex 1 v8) fun v11 =>
 j7 x5 v10 v11 h9) (fun x12 x13 x14 h15 =>
 J 2 (fun j16 =>
 B1 (lenx x12) fun v17 =>
 J 2 (fun j18 =>
 l_sum_On J G cf j18 x13 x14 x12 v17 (.int .i64 0) h15) (fun x49 x50 h51 =>
 j16 x49 x50 h51)) (fun x52 x53 h54 =>
 B2 (cf (.func (.func 58) [] []) [x52, x53] h54) fun v55 h56 =>
 some (.tuple [v55, (.bool true)], h56))))

theorem e_sum_On (J : JT) (G : GT) (cf : CF) (a0 a1 : AV) (H : Hp) : callF P J G prim an cf 40 [a0, a1] H = s_sum_On J G cf a0 a1 H := by kernel_rfl

theorem c_sum_On {a0 a1 : AV} {H : Hp} {r : AV × Hp} (h : s_sum_On JN GO cK a0 a1 H = some r) : cK (.func (.func 40) [] []) [a0, a1] H = some r := callF_fix (first := []) (cap := []) ((e_sum_On JN GO _ a0 a1 H).trans h)

noncomputable def s_sum_Of (J : JT) (G : GT) (cf : CF) (a0 : AV) (H : Hp) : R :=
 J 1 (fun j0 =>
 B2 (cf (.func (.func 40) [] []) [(.int .u32 1), a0] H) fun v1 h2 =>
 B1 (ex 0 v1) fun v3 =>
 B1 (ex 1 v1) fun v4 =>
 j0 v3 h2) (fun x5 h6 =>
 some (x5, h6))

theorem e_sum_Of (J : JT) (G : GT) (cf : CF) (a0 : AV) (H : Hp) : callF P J G prim an cf 41 [a0] H = s_sum_Of J G cf a0 H := by kernel_rfl

theorem c_sum_Of {a0 : AV} {H : Hp} {r : AV × Hp} (h : s_sum_Of JN GO cK a0 H = some r) : cK (.func (.func 41) [] []) [a0] H = some r := callF_fix (first := []) (cap := []) ((e_sum_Of JN GO _ a0 H).trans h)

noncomputable def s_stamp_Pack (J : JT) (G : GT) (cf : CF) (a0 a1 : AV) (H : Hp) : R :=
 J 2 (fun j0 =>
 J 3 (fun j1 =>
 B1 (ilt a0 (.int .i64 0)) fun v2 =>
 G v2 false (fun k3 =>
 k3 a0 H) (fun v4 h5 =>
 G v2 false (fun k6 =>
 B1 (igt v4 (.int .i64 1048575)) fun v7 =>
 k6 v7 h5) (fun v8 h9 =>
 B1 (pk v2 (.bool true) v8) fun v10 =>
 G v10 false (fun k11 =>
 k11 a1 h9) (fun v12 h13 =>
 G v10 false (fun k14 =>
 B1 (ilt v12 (.int .i64 0)) fun v15 =>
 k14 v15 h13) (fun v16 h17 =>
 B1 (pk v10 (.bool true) v16) fun v18 =>
 G v18 false (fun k19 =>
 k19 a1 h17) (fun v20 h21 =>
 G v18 false (fun k22 =>
 B1 (igt v20 (.int .i64 17592186044415)) fun v23 =>
 k22 v23 h21) (fun v24 h25 =>
 B1 (pk v18 (.bool true) v24) fun v26 =>
 j1 a0 a1 v26 h25) h21) h17) h13) h9) h5) H) (fun x27 x28 x29 h30 =>
 CD x29 (
 some (.tuple [(.int .u64 0), (.bool false)], h30)) (
 j0 x27 x28 h30))) (fun x31 x32 h33 =>
 B1 (ishl x31 (.int .u64 44)) fun v34 =>
 B1 (ior v34 x32) fun v35 =>
 B1 (cv .u64 v35) fun v36 =>
 some (.tuple [v36, (.bool true)], h33))

theorem e_stamp_Pack (J : JT) (G : GT) (cf : CF) (a0 a1 : AV) (H : Hp) : callF P J G prim an cf 24 [a0, a1] H = s_stamp_Pack J G cf a0 a1 H := by kernel_rfl

theorem c_stamp_Pack {a0 a1 : AV} {H : Hp} {r : AV × Hp} (h : s_stamp_Pack JN GO cK a0 a1 H = some r) : cK (.func (.func 24) [] []) [a0, a1] H = some r := callF_fix (first := []) (cap := []) ((e_stamp_Pack JN GO _ a0 a1 H).trans h)

noncomputable def s__stamp_Stamp_Off (J : JT) (G : GT) (cf : CF) (a0 : AV) (H : Hp) : R :=
 B1 (iand a0 (.int .u64 17592186044415)) fun v0 =>
 B1 (cv .i64 v0) fun v1 =>
 some (v1, H)

theorem e__stamp_Stamp_Off (J : JT) (G : GT) (cf : CF) (a0 : AV) (H : Hp) : callF P J G prim an cf 68 [a0] H = s__stamp_Stamp_Off J G cf a0 H := by kernel_rfl

theorem c__stamp_Stamp_Off {a0 : AV} {H : Hp} {r : AV × Hp} (h : s__stamp_Stamp_Off JN GO cK a0 H = some r) : cK (.func (.func 68) [] []) [a0] H = some r := callF_fix (first := []) (cap := []) ((e__stamp_Stamp_Off JN GO _ a0 H).trans h)

noncomputable def s__stamp_Stamp_Epoch (J : JT) (G : GT) (cf : CF) (a0 : AV) (H : Hp) : R :=
 B1 (ishr a0 (.int .u64 44)) fun v0 =>
 B1 (cv .i64 v0) fun v1 =>
 some (v1, H)

theorem e__stamp_Stamp_Epoch (J : JT) (G : GT) (cf : CF) (a0 : AV) (H : Hp) : callF P J G prim an cf 17 [a0] H = s__stamp_Stamp_Epoch J G cf a0 H := by kernel_rfl

theorem c__stamp_Stamp_Epoch {a0 : AV} {H : Hp} {r : AV × Hp} (h : s__stamp_Stamp_Epoch JN GO cK a0 H = some r) : cK (.func (.func 17) [] []) [a0] H = some r := callF_fix (first := []) (cap := []) ((e__stamp_Stamp_Epoch JN GO _ a0 H).trans h)

noncomputable def l_frame_number (J : JT) (G : GT) (cf : CF) (j1 : K.Fn 1) : K.Fn 4 := LP 4 fun j2 => fun x3 x4 x5 x6 h7 =>
 B1 (ilt x6 x5) fun v8 =>
 CD v8 (
 J 4 (fun j9 =>
 B1 (imul (.int .i64 8) x6) fun v10 =>
 B1 (ishr x4 v10) fun v11 =>
 B1 (cv .u8 v11) fun v12 =>
 B1 (fl [(.int .u8 0)] [(0, 1, v12)]) fun l13 =>
 BN (newCells h7 l13 5 0) fun i14 h15 =>
 B2 (app' 5 1 [(.int .u8 0)] false x3 (.slice i14 0 1 1 true 1) h15) fun v16 h17 =>
 j9 v16 x4 x5 x6 h17) (fun x18 x19 x20 x21 h22 =>
 B1 (iadd x21 (.int .i64 1)) fun v23 =>
 j2 x18 x19 x20 v23 h22)) (
 j1 x3 h7)

theorem rl_frame_number (J : JT) (G : GT) (cf : CF) (j1 : K.Fn 1) (j2 : K.Fn 4) (x3 x4 x5 x6 : AV) (h7 : Hp) : codeF P J G cf (nT P 39) (atC P 39 [1, 0, 1, 0, 0]) (.sq none .nl (.sq none (.cd .nl .nl) (.sq (some [0, 1, 8, 9]) (.bl none (.sq none .nl .nl)) .nl))) (fun t H => app 4 j2 (vals [0, 1, 8, 9] t) H) (fun q t H => match Nat.beq q 0 with | true => app 1 j1 (vals [0] t) H | false => (fun _ _ _ => none) q t H) (retK P 39) (mkT (nT P 39) [0, 1, 8, 9] [x3, x4, x5, x6]) h7 =
(B1 (ilt x6 x5) fun v8 =>
 CD v8 (
 J 4 (fun j9 =>
 B1 (imul (.int .i64 8) x6) fun v10 =>
 B1 (ishr x4 v10) fun v11 =>
 B1 (cv .u8 v11) fun v12 =>
 B1 (fl [(.int .u8 0)] [(0, 1, v12)]) fun l13 =>
 BN (newCells h7 l13 5 0) fun i14 h15 =>
 B2 (app' 5 1 [(.int .u8 0)] false x3 (.slice i14 0 1 1 true 1) h15) fun v16 h17 =>
 j9 v16 x4 x5 x6 h17) (fun x18 x19 x20 x21 h22 =>
 B1 (iadd x21 (.int .i64 1)) fun v23 =>
 j2 x18 x19 x20 v23 h22)) (
 j1 x3 h7)) := by kernel_rfl

theorem dl_frame_number (J : JT) (G : GT) (cf : CF) (j1 : K.Fn 1) : l_frame_number J G cf j1 = loopF P J G cf (nT P 39) (atC P 39 [1, 0, 1, 0, 0]) (.sq none .nl (.sq none (.cd .nl .nl) (.sq (some [0, 1, 8, 9]) (.bl none (.sq none .nl .nl)) .nl))) [0, 1, 8, 9] (fun q t H => match Nat.beq q 0 with | true => app 1 j1 (vals [0] t) H | false => (fun _ _ _ => none) q t H) (retK P 39) := by
  unfold l_frame_number loopF
  refine congrArg (LP 4) ?_
  funext j2 x3 x4 x5 x6 h7
  exact (rl_frame_number J G cf j1 j2 x3 x4 x5 x6 h7).symm

theorem ql_frame_number (cf : CF) (j1 : K.Fn 1) (x3 x4 x5 x6 : AV) (h7 : Hp) : l_frame_number JN GO cf j1 x3 x4 x5 x6 h7 =

 B1 (ilt x6 x5) fun v8 =>
 CD v8 (
 JN 4 (fun j9 =>
 B1 (imul (.int .i64 8) x6) fun v10 =>
 B1 (ishr x4 v10) fun v11 =>
 B1 (cv .u8 v11) fun v12 =>
 B1 (fl [(.int .u8 0)] [(0, 1, v12)]) fun l13 =>
 BN (newCells h7 l13 5 0) fun i14 h15 =>
 B2 (app' 5 1 [(.int .u8 0)] false x3 (.slice i14 0 1 1 true 1) h15) fun v16 h17 =>
 j9 v16 x4 x5 x6 h17) (fun x18 x19 x20 x21 h22 =>
 B1 (iadd x21 (.int .i64 1)) fun v23 =>
 l_frame_number JN GO cf j1 x18 x19 x20 v23 h22)) (
 j1 x3 h7) := by
  have h1 : l_frame_number JN GO cf j1 x3 x4 x5 x6 h7 = app 4 (loopF P JN GO cf (nT P 39) (atC P 39 [1, 0, 1, 0, 0]) (.sq none .nl (.sq none (.cd .nl .nl) (.sq (some [0, 1, 8, 9]) (.bl none (.sq none .nl .nl)) .nl))) [0, 1, 8, 9] (fun q t H => match Nat.beq q 0 with | true => app 1 j1 (vals [0] t) H | false => (fun _ _ _ => none) q t H) (retK P 39)) [x3, x4, x5, x6] h7 := by rw [dl_frame_number]; kernel_rfl
  refine h1.trans ((loopF_eq (P := P) cf (nT P 39) (atC P 39 [1, 0, 1, 0, 0]) (.sq none .nl (.sq none (.cd .nl .nl) (.sq (some [0, 1, 8, 9]) (.bl none (.sq none .nl .nl)) .nl))) [0, 1, 8, 9] (fun q t H => match Nat.beq q 0 with | true => app 1 j1 (vals [0] t) H | false => (fun _ _ _ => none) q t H) (retK P 39) [x3, x4, x5, x6] rfl h7).trans ((rl_frame_number JN GO cf j1 _ x3 x4 x5 x6 h7).trans ?_))
  rw [dl_frame_number]

noncomputable def s_frame_number (J : JT) (G : GT) (cf : CF) (a0 a1 a2 : AV) (H : Hp) : R :=
 J 1 (fun j0 =>
 J 1 (fun j1 =>
 l_frame_number J G cf j1 a0 a1 a2 (.int .i64 0) H) (fun x24 h25 =>
 j0 x24 h25)) (fun x26 h27 =>
 some (x26, h27))

theorem e_frame_number (J : JT) (G : GT) (cf : CF) (a0 a1 a2 : AV) (H : Hp) : callF P J G prim an cf 39 [a0, a1, a2] H = s_frame_number J G cf a0 a1 a2 H := by kernel_rfl

theorem c_frame_number {a0 a1 a2 : AV} {H : Hp} {r : AV × Hp} (h : s_frame_number JN GO cK a0 a1 a2 H = some r) : cK (.func (.func 39) [] []) [a0, a1, a2] H = some r := callF_fix (first := []) (cap := []) ((e_frame_number JN GO _ a0 a1 a2 H).trans h)

noncomputable def s_frame_Put (J : JT) (G : GT) (cf : CF) (a0 a1 : AV) (H : Hp) : R :=
 BN (bx 37 a1 H) fun i0 h1 =>
 J 2 (fun j2 =>
 B1 (fa 1 (.ptr i0 0)) fun v3 =>
 B1 (ld v3 h1) fun v4 =>
 B1 (lenx v4) fun v5 =>
 B1 (igt v5 (.int .i64 1024)) fun v6 =>
 CD v6 (
 some (.tuple [.slice0, (.int .i64 14)], h1)) (
 j2 a0 (.ptr i0 0) h1)) (fun x7 x8 h9 =>
 J 3 (fun j10 =>
 B1 (fa 1 x8) fun v11 =>
 B1 (ld v11 h9) fun v12 =>
 B1 (lenx v12) fun v13 =>
 B1 (cv .u64 v13) fun v14 =>
 B2 (cf (.func (.func 39) [] []) [.slice0, v14, (.int .i64 4)] h9) fun v15 h16 =>
 B1 (fa 0 x8) fun v17 =>
 B1 (ld v17 h16) fun v18 =>
 B2 (cf (.func (.func 39) [] []) [v15, v18, (.int .i64 8)] h16) fun v19 h20 =>
 B1 (ld v17 h9) fun v21 =>
 SM v18 v21 <|
 j10 x7 x8 v19 h20) (fun x22 x23 x24 h25 =>
 J 4 (fun j26 =>
 B2 (cf (.func (.func 41) [] []) [x24] h25) fun v27 h28 =>
 B1 (fa 1 x23) fun v29 =>
 B1 (ld v29 h28) fun v30 =>
 B2 (cf (.func (.func 40) [] []) [v27, v30] h28) fun v31 h32 =>
 B1 (ex 0 v31) fun v33 =>
 B1 (ex 1 v31) fun v34 =>
 B1 (ld v29 h25) fun v35 =>
 SM v30 v35 <|
 j26 x22 x23 x24 v33 h32) (fun x36 x37 x38 x39 h40 =>
 B1 (cv .u64 x39) fun v41 =>
 B2 (cf (.func (.func 39) [] []) [x38, v41, (.int .i64 4)] h40) fun v42 h43 =>
 B1 (fa 1 x37) fun v44 =>
 B1 (ld v44 h43) fun v45 =>
 B1 (fl [.slice0, .slice0, .slice0] [(0, 1, x36), (1, 1, v42), (2, 1, v45)]) fun l46 =>
 BN (newCells h43 l46 28 0) fun i47 h48 =>
 B2 (cf (.func (.func 42) [] []) [(.slice i47 0 3 3 true 1)] h48) fun v49 h50 =>
 B1 (ld v44 h40) fun v51 =>
 SM v45 v51 <|
 some (.tuple [v49, (.int .i64 0)], h50))))

theorem e_frame_Put (J : JT) (G : GT) (cf : CF) (a0 a1 : AV) (H : Hp) : callF P J G prim an cf 26 [a0, a1] H = s_frame_Put J G cf a0 a1 H := by kernel_rfl

theorem c_frame_Put {a0 a1 : AV} {H : Hp} {r : AV × Hp} (h : s_frame_Put JN GO cK a0 a1 H = some r) : cK (.func (.func 26) [] []) [a0, a1] H = some r := callF_fix (first := []) (cap := []) ((e_frame_Put JN GO _ a0 a1 H).trans h)

noncomputable def s_slices_Grow___byte_byte_ (J : JT) (G : GT) (cf : CF) (a0 a1 : AV) (H : Hp) : R :=
 J 2 (fun j0 =>
 B1 (ilt a1 (.int .i64 0)) fun v1 =>
 CD v1 (
 none) (
 j0 a0 a1 H)) (fun x2 x3 h4 =>
 J 1 (fun j5 =>
 J 2 (fun j6 =>
 B2 (builtinA P .cap #[28] [x2] h4) fun v7 h8 =>
 B1 (lenx x2) fun v9 =>
 B1 (isub v7 v9) fun v10 =>
 B1 (isub x3 v10) fun v11 =>
 j6 x2 v11 h8) (fun x12 x13 h14 =>
 B1 (igt x13 (.int .i64 0)) fun v15 =>
 CD v15 (
 B2 (builtinA P .cap #[28] [x12] h14) fun v16 h17 =>
 B1 (sll 1 x12 none (some v16) none) fun v18 =>
 B2 (app' 5 1 [(.int .u8 0)] true v18 x13 h17) fun v19 h20 =>
 B1 (lenx x12) fun v21 =>
 B1 (sll 1 v19 none (some v21) none) fun v22 =>
 j5 v22 h20) (
 j5 x12 h14))) (fun x23 h24 =>
 some (x23, h24)))

theorem e_slices_Grow___byte_byte_ (J : JT) (G : GT) (cf : CF) (a0 a1 : AV) (H : Hp) : callF P J G prim an cf 59 [a0, a1] H = s_slices_Grow___byte_byte_ J G cf a0 a1 H := by kernel_rfl

theorem c_slices_Grow___byte_byte_ {a0 a1 : AV} {H : Hp} {r : AV × Hp} (h : s_slices_Grow___byte_byte_ JN GO cK a0 a1 H = some r) : cK (.func (.func 59) [] []) [a0, a1] H = some r := callF_fix (first := []) (cap := []) ((e_slices_Grow___byte_byte_ JN GO _ a0 a1 H).trans h)

noncomputable def l_slices_Concat___byte_byte_ (J : JT) (G : GT) (cf : CF) (j2 : K.Fn 2) : K.Fn 5 := LP 5 fun j3 => fun x4 x5 x6 x7 x8 h9 =>
 B1 (ilt x8 x7) fun v10 =>
 CD v10 (
 J 5 (fun j11 =>
 J 5 (fun j12 =>
 B1 (ia 1 x6 x8) fun v13 =>
 B1 (ld v13 h9) fun v14 =>
 J 5 (fun j15 =>
 B1 (lenx v14) fun v16 =>
 B1 (iadd x5 v16) fun v17 =>
 j15 x4 v17 x6 x7 x8 h9) (fun x18 x19 x20 x21 x22 h23 =>
 B1 (ilt x19 (.int .i64 0)) fun v24 =>
 CD v24 (
 none) (
 j12 x18 x19 x20 x21 x22 h23))) (fun x25 x26 x27 x28 x29 h30 =>
 j11 x25 x26 x27 x28 x29 h30)) (fun x31 x32 x33 x34 x35 h36 =>
 B1 (iadd x35 (.int .i64 1)) fun v37 =>
 j3 x31 x32 x33 x34 v37 h36)) (
 j2 x4 x5 h9)

theorem rl_slices_Concat___byte_byte_ (J : JT) (G : GT) (cf : CF) (j2 : K.Fn 2) (j3 : K.Fn 5) (x4 x5 x6 x7 x8 : AV) (h9 : Hp) : codeF P J G cf (nT P 42) (atC P 42 [1, 1, 0, 1, 0, 0]) (.sq none .nl (.sq none (.cd .nl .nl) (.sq (some [0, 3, 9, 10, 11]) (.bl (some [0, 3, 9, 10, 11]) (.sq none .nl (.sq (some [0, 3, 9, 10, 11]) .nl (.sq none .nl (.cd .nl .nl))))) .nl))) (fun t H => app 5 j3 (vals [0, 3, 9, 10, 11] t) H) (fun q t H => match Nat.beq q 0 with | true => app 2 j2 (vals [0, 3] t) H | false => (fun _ _ _ => none) q t H) (retK P 42) (mkT (nT P 42) [0, 3, 9, 10, 11] [x4, x5, x6, x7, x8]) h9 =
(B1 (ilt x8 x7) fun v10 =>
 CD v10 (
 J 5 (fun j11 =>
 J 5 (fun j12 =>
 B1 (ia 1 x6 x8) fun v13 =>
 B1 (ld v13 h9) fun v14 =>
 J 5 (fun j15 =>
 B1 (lenx v14) fun v16 =>
 B1 (iadd x5 v16) fun v17 =>
 j15 x4 v17 x6 x7 x8 h9) (fun x18 x19 x20 x21 x22 h23 =>
 B1 (ilt x19 (.int .i64 0)) fun v24 =>
 CD v24 (
 none) (
 j12 x18 x19 x20 x21 x22 h23))) (fun x25 x26 x27 x28 x29 h30 =>
 j11 x25 x26 x27 x28 x29 h30)) (fun x31 x32 x33 x34 x35 h36 =>
 B1 (iadd x35 (.int .i64 1)) fun v37 =>
 j3 x31 x32 x33 x34 v37 h36)) (
 j2 x4 x5 h9)) := by kernel_rfl

theorem dl_slices_Concat___byte_byte_ (J : JT) (G : GT) (cf : CF) (j2 : K.Fn 2) : l_slices_Concat___byte_byte_ J G cf j2 = loopF P J G cf (nT P 42) (atC P 42 [1, 1, 0, 1, 0, 0]) (.sq none .nl (.sq none (.cd .nl .nl) (.sq (some [0, 3, 9, 10, 11]) (.bl (some [0, 3, 9, 10, 11]) (.sq none .nl (.sq (some [0, 3, 9, 10, 11]) .nl (.sq none .nl (.cd .nl .nl))))) .nl))) [0, 3, 9, 10, 11] (fun q t H => match Nat.beq q 0 with | true => app 2 j2 (vals [0, 3] t) H | false => (fun _ _ _ => none) q t H) (retK P 42) := by
  unfold l_slices_Concat___byte_byte_ loopF
  refine congrArg (LP 5) ?_
  funext j3 x4 x5 x6 x7 x8 h9
  exact (rl_slices_Concat___byte_byte_ J G cf j2 j3 x4 x5 x6 x7 x8 h9).symm

theorem ql_slices_Concat___byte_byte_ (cf : CF) (j2 : K.Fn 2) (x4 x5 x6 x7 x8 : AV) (h9 : Hp) : l_slices_Concat___byte_byte_ JN GO cf j2 x4 x5 x6 x7 x8 h9 =

 B1 (ilt x8 x7) fun v10 =>
 CD v10 (
 JN 5 (fun j11 =>
 JN 5 (fun j12 =>
 B1 (ia 1 x6 x8) fun v13 =>
 B1 (ld v13 h9) fun v14 =>
 JN 5 (fun j15 =>
 B1 (lenx v14) fun v16 =>
 B1 (iadd x5 v16) fun v17 =>
 j15 x4 v17 x6 x7 x8 h9) (fun x18 x19 x20 x21 x22 h23 =>
 B1 (ilt x19 (.int .i64 0)) fun v24 =>
 CD v24 (
 none) (
 j12 x18 x19 x20 x21 x22 h23))) (fun x25 x26 x27 x28 x29 h30 =>
 j11 x25 x26 x27 x28 x29 h30)) (fun x31 x32 x33 x34 x35 h36 =>
 B1 (iadd x35 (.int .i64 1)) fun v37 =>
 l_slices_Concat___byte_byte_ JN GO cf j2 x31 x32 x33 x34 v37 h36)) (
 j2 x4 x5 h9) := by
  have h1 : l_slices_Concat___byte_byte_ JN GO cf j2 x4 x5 x6 x7 x8 h9 = app 5 (loopF P JN GO cf (nT P 42) (atC P 42 [1, 1, 0, 1, 0, 0]) (.sq none .nl (.sq none (.cd .nl .nl) (.sq (some [0, 3, 9, 10, 11]) (.bl (some [0, 3, 9, 10, 11]) (.sq none .nl (.sq (some [0, 3, 9, 10, 11]) .nl (.sq none .nl (.cd .nl .nl))))) .nl))) [0, 3, 9, 10, 11] (fun q t H => match Nat.beq q 0 with | true => app 2 j2 (vals [0, 3] t) H | false => (fun _ _ _ => none) q t H) (retK P 42)) [x4, x5, x6, x7, x8] h9 := by rw [dl_slices_Concat___byte_byte_]; kernel_rfl
  refine h1.trans ((loopF_eq (P := P) cf (nT P 42) (atC P 42 [1, 1, 0, 1, 0, 0]) (.sq none .nl (.sq none (.cd .nl .nl) (.sq (some [0, 3, 9, 10, 11]) (.bl (some [0, 3, 9, 10, 11]) (.sq none .nl (.sq (some [0, 3, 9, 10, 11]) .nl (.sq none .nl (.cd .nl .nl))))) .nl))) [0, 3, 9, 10, 11] (fun q t H => match Nat.beq q 0 with | true => app 2 j2 (vals [0, 3] t) H | false => (fun _ _ _ => none) q t H) (retK P 42) [x4, x5, x6, x7, x8] rfl h9).trans ((rl_slices_Concat___byte_byte_ JN GO cf j2 _ x4 x5 x6 x7 x8 h9).trans ?_))
  rw [dl_slices_Concat___byte_byte_]

noncomputable def l_slices_Concat___byte_byte_1 (J : JT) (G : GT) (cf : CF) (j48 : K.Fn 1) : K.Fn 4 := LP 4 fun j49 => fun x50 x51 x52 x53 h54 =>
 B1 (ilt x53 x52) fun v55 =>
 CD v55 (
 J 4 (fun j56 =>
 B1 (ia 1 x51 x53) fun v57 =>
 B1 (ld v57 h54) fun v58 =>
 B2 (app' 5 1 [(.int .u8 0)] false x50 v58 h54) fun v59 h60 =>
 j56 v59 x51 x52 x53 h60) (fun x61 x62 x63 x64 h65 =>
 B1 (iadd x64 (.int .i64 1)) fun v66 =>
 j49 x61 x62 x63 v66 h65)) (
 j48 x50 h54)

theorem rl_slices_Concat___byte_byte_1 (J : JT) (G : GT) (cf : CF) (j48 : K.Fn 1) (j49 : K.Fn 4) (x50 x51 x52 x53 : AV) (h54 : Hp) : codeF P J G cf (nT P 42) (atC P 42 [1, 1, 1, 1, 0, 1, 0, 0]) (.sq none .nl (.sq none (.cd .nl .nl) (.sq (some [6, 25, 26, 27]) (.bl none (.sq none .nl .nl)) .nl))) (fun t H => app 4 j49 (vals [6, 25, 26, 27] t) H) (fun q t H => match Nat.beq q 2 with | true => app 1 j48 (vals [6] t) H | false => (fun _ _ _ => none) q t H) (retK P 42) (mkT (nT P 42) [6, 25, 26, 27] [x50, x51, x52, x53]) h54 =
(B1 (ilt x53 x52) fun v55 =>
 CD v55 (
 J 4 (fun j56 =>
 B1 (ia 1 x51 x53) fun v57 =>
 B1 (ld v57 h54) fun v58 =>
 B2 (app' 5 1 [(.int .u8 0)] false x50 v58 h54) fun v59 h60 =>
 j56 v59 x51 x52 x53 h60) (fun x61 x62 x63 x64 h65 =>
 B1 (iadd x64 (.int .i64 1)) fun v66 =>
 j49 x61 x62 x63 v66 h65)) (
 j48 x50 h54)) := by kernel_rfl

theorem dl_slices_Concat___byte_byte_1 (J : JT) (G : GT) (cf : CF) (j48 : K.Fn 1) : l_slices_Concat___byte_byte_1 J G cf j48 = loopF P J G cf (nT P 42) (atC P 42 [1, 1, 1, 1, 0, 1, 0, 0]) (.sq none .nl (.sq none (.cd .nl .nl) (.sq (some [6, 25, 26, 27]) (.bl none (.sq none .nl .nl)) .nl))) [6, 25, 26, 27] (fun q t H => match Nat.beq q 2 with | true => app 1 j48 (vals [6] t) H | false => (fun _ _ _ => none) q t H) (retK P 42) := by
  unfold l_slices_Concat___byte_byte_1 loopF
  refine congrArg (LP 4) ?_
  funext j49 x50 x51 x52 x53 h54
  exact (rl_slices_Concat___byte_byte_1 J G cf j48 j49 x50 x51 x52 x53 h54).symm

theorem ql_slices_Concat___byte_byte_1 (cf : CF) (j48 : K.Fn 1) (x50 x51 x52 x53 : AV) (h54 : Hp) : l_slices_Concat___byte_byte_1 JN GO cf j48 x50 x51 x52 x53 h54 =

 B1 (ilt x53 x52) fun v55 =>
 CD v55 (
 JN 4 (fun j56 =>
 B1 (ia 1 x51 x53) fun v57 =>
 B1 (ld v57 h54) fun v58 =>
 B2 (app' 5 1 [(.int .u8 0)] false x50 v58 h54) fun v59 h60 =>
 j56 v59 x51 x52 x53 h60) (fun x61 x62 x63 x64 h65 =>
 B1 (iadd x64 (.int .i64 1)) fun v66 =>
 l_slices_Concat___byte_byte_1 JN GO cf j48 x61 x62 x63 v66 h65)) (
 j48 x50 h54) := by
  have h1 : l_slices_Concat___byte_byte_1 JN GO cf j48 x50 x51 x52 x53 h54 = app 4 (loopF P JN GO cf (nT P 42) (atC P 42 [1, 1, 1, 1, 0, 1, 0, 0]) (.sq none .nl (.sq none (.cd .nl .nl) (.sq (some [6, 25, 26, 27]) (.bl none (.sq none .nl .nl)) .nl))) [6, 25, 26, 27] (fun q t H => match Nat.beq q 2 with | true => app 1 j48 (vals [6] t) H | false => (fun _ _ _ => none) q t H) (retK P 42)) [x50, x51, x52, x53] h54 := by rw [dl_slices_Concat___byte_byte_1]; kernel_rfl
  refine h1.trans ((loopF_eq (P := P) cf (nT P 42) (atC P 42 [1, 1, 1, 1, 0, 1, 0, 0]) (.sq none .nl (.sq none (.cd .nl .nl) (.sq (some [6, 25, 26, 27]) (.bl none (.sq none .nl .nl)) .nl))) [6, 25, 26, 27] (fun q t H => match Nat.beq q 2 with | true => app 1 j48 (vals [6] t) H | false => (fun _ _ _ => none) q t H) (retK P 42) [x50, x51, x52, x53] rfl h54).trans ((rl_slices_Concat___byte_byte_1 JN GO cf j48 _ x50 x51 x52 x53 h54).trans ?_))
  rw [dl_slices_Concat___byte_byte_1]

noncomputable def s_slices_Concat___byte_byte_ (J : JT) (G : GT) (cf : CF) (a0 : AV) (H : Hp) : R :=
 J 2 (fun j0 =>
 B1 (lenx a0) fun v1 =>
 J 2 (fun j2 =>
 l_slices_Concat___byte_byte_ J G cf j2 a0 (.int .i64 0) a0 v1 (.int .i64 0) H) (fun x38 x39 h40 =>
 j0 x38 x39 h40)) (fun x41 x42 h43 =>
 B2 (cf (.func (.func 59) [] []) [.slice0, x42] h43) fun v44 h45 =>
 J 1 (fun j46 =>
 B1 (lenx x41) fun v47 =>
 J 1 (fun j48 =>
 l_slices_Concat___byte_byte_1 J G cf j48 v44 x41 v47 (.int .i64 0) h45) (fun x67 h68 =>
 j46 x67 h68)) (fun x69 h70 =>
 some (x69, h70)))

theorem e_slices_Concat___byte_byte_ (J : JT) (G : GT) (cf : CF) (a0 : AV) (H : Hp) : callF P J G prim an cf 42 [a0] H = s_slices_Concat___byte_byte_ J G cf a0 H := by kernel_rfl

theorem c_slices_Concat___byte_byte_ {a0 : AV} {H : Hp} {r : AV × Hp} (h : s_slices_Concat___byte_byte_ JN GO cK a0 H = some r) : cK (.func (.func 42) [] []) [a0] H = some r := callF_fix (first := []) (cap := []) ((e_slices_Concat___byte_byte_ JN GO _ a0 H).trans h)

noncomputable def l_seg_Pick (J : JT) (G : GT) (cf : CF) (j2 : K.Fn 1) : K.Fn 4 := LP 4 fun j3 => fun x4 x5 x6 x7 h8 =>
 B1 (ilt x7 x6) fun v9 =>
 CD v9 (
 J 4 (fun j10 =>
 J 4 (fun j11 =>
 B1 (ia 1 x5 x7) fun v12 =>
 B1 (ld v12 h8) fun v13 =>
 J 6 (fun j14 =>
 B2 (cf (.func (.func 53) [] []) [v13] h8) fun v15 h16 =>
 B1 (ex 0 v15) fun v17 =>
 B1 (ex 1 v15) fun v18 =>
 j14 x4 v17 v18 x5 x6 x7 h16) (fun x19 x20 x21 x22 x23 x24 h25 =>
 CD x21 (
 B1 (fl [(.int .i64 0)] [(0, 1, x20)]) fun l26 =>
 BN (newCells h25 l26 2 0) fun i27 h28 =>
 B2 (app' 2 1 [(.int .i64 0)] false x19 (.slice i27 0 1 1 true 1) h28) fun v29 h30 =>
 j11 v29 x22 x23 x24 h30) (
 j11 x19 x22 x23 x24 h25))) (fun x31 x32 x33 x34 h35 =>
 j10 x31 x32 x33 x34 h35)) (fun x36 x37 x38 x39 h40 =>
 B1 (iadd x39 (.int .i64 1)) fun v41 =>
 j3 x36 x37 x38 v41 h40)) (
 j2 x4 h8)

theorem rl_seg_Pick (J : JT) (G : GT) (cf : CF) (j2 : K.Fn 1) (j3 : K.Fn 4) (x4 x5 x6 x7 : AV) (h8 : Hp) : codeF P J G cf (nT P 37) (atC P 37 [1, 1, 0, 1, 0, 0]) (.sq none .nl (.sq none (.cd .nl .nl) (.sq (some [3, 8, 9, 10]) (.bl (some [3, 8, 9, 10]) (.sq none .nl (.sq (some [3, 6, 7, 8, 9, 10]) .nl (.sq none .nl (.cd .nl .nl))))) .nl))) (fun t H => app 4 j3 (vals [3, 8, 9, 10] t) H) (fun q t H => match Nat.beq q 0 with | true => app 1 j2 (vals [3] t) H | false => (fun _ _ _ => none) q t H) (retK P 37) (mkT (nT P 37) [3, 8, 9, 10] [x4, x5, x6, x7]) h8 =
(B1 (ilt x7 x6) fun v9 =>
 CD v9 (
 J 4 (fun j10 =>
 J 4 (fun j11 =>
 B1 (ia 1 x5 x7) fun v12 =>
 B1 (ld v12 h8) fun v13 =>
 J 6 (fun j14 =>
 B2 (cf (.func (.func 53) [] []) [v13] h8) fun v15 h16 =>
 B1 (ex 0 v15) fun v17 =>
 B1 (ex 1 v15) fun v18 =>
 j14 x4 v17 v18 x5 x6 x7 h16) (fun x19 x20 x21 x22 x23 x24 h25 =>
 CD x21 (
 B1 (fl [(.int .i64 0)] [(0, 1, x20)]) fun l26 =>
 BN (newCells h25 l26 2 0) fun i27 h28 =>
 B2 (app' 2 1 [(.int .i64 0)] false x19 (.slice i27 0 1 1 true 1) h28) fun v29 h30 =>
 j11 v29 x22 x23 x24 h30) (
 j11 x19 x22 x23 x24 h25))) (fun x31 x32 x33 x34 h35 =>
 j10 x31 x32 x33 x34 h35)) (fun x36 x37 x38 x39 h40 =>
 B1 (iadd x39 (.int .i64 1)) fun v41 =>
 j3 x36 x37 x38 v41 h40)) (
 j2 x4 h8)) := by kernel_rfl

theorem dl_seg_Pick (J : JT) (G : GT) (cf : CF) (j2 : K.Fn 1) : l_seg_Pick J G cf j2 = loopF P J G cf (nT P 37) (atC P 37 [1, 1, 0, 1, 0, 0]) (.sq none .nl (.sq none (.cd .nl .nl) (.sq (some [3, 8, 9, 10]) (.bl (some [3, 8, 9, 10]) (.sq none .nl (.sq (some [3, 6, 7, 8, 9, 10]) .nl (.sq none .nl (.cd .nl .nl))))) .nl))) [3, 8, 9, 10] (fun q t H => match Nat.beq q 0 with | true => app 1 j2 (vals [3] t) H | false => (fun _ _ _ => none) q t H) (retK P 37) := by
  unfold l_seg_Pick loopF
  refine congrArg (LP 4) ?_
  funext j3 x4 x5 x6 x7 h8
  exact (rl_seg_Pick J G cf j2 j3 x4 x5 x6 x7 h8).symm

theorem ql_seg_Pick (cf : CF) (j2 : K.Fn 1) (x4 x5 x6 x7 : AV) (h8 : Hp) : l_seg_Pick JN GO cf j2 x4 x5 x6 x7 h8 =

 B1 (ilt x7 x6) fun v9 =>
 CD v9 (
 JN 4 (fun j10 =>
 JN 4 (fun j11 =>
 B1 (ia 1 x5 x7) fun v12 =>
 B1 (ld v12 h8) fun v13 =>
 JN 6 (fun j14 =>
 B2 (cf (.func (.func 53) [] []) [v13] h8) fun v15 h16 =>
 B1 (ex 0 v15) fun v17 =>
 B1 (ex 1 v15) fun v18 =>
 j14 x4 v17 v18 x5 x6 x7 h16) (fun x19 x20 x21 x22 x23 x24 h25 =>
 CD x21 (
 B1 (fl [(.int .i64 0)] [(0, 1, x20)]) fun l26 =>
 BN (newCells h25 l26 2 0) fun i27 h28 =>
 B2 (app' 2 1 [(.int .i64 0)] false x19 (.slice i27 0 1 1 true 1) h28) fun v29 h30 =>
 j11 v29 x22 x23 x24 h30) (
 j11 x19 x22 x23 x24 h25))) (fun x31 x32 x33 x34 h35 =>
 j10 x31 x32 x33 x34 h35)) (fun x36 x37 x38 x39 h40 =>
 B1 (iadd x39 (.int .i64 1)) fun v41 =>
 l_seg_Pick JN GO cf j2 x36 x37 x38 v41 h40)) (
 j2 x4 h8) := by
  have h1 : l_seg_Pick JN GO cf j2 x4 x5 x6 x7 h8 = app 4 (loopF P JN GO cf (nT P 37) (atC P 37 [1, 1, 0, 1, 0, 0]) (.sq none .nl (.sq none (.cd .nl .nl) (.sq (some [3, 8, 9, 10]) (.bl (some [3, 8, 9, 10]) (.sq none .nl (.sq (some [3, 6, 7, 8, 9, 10]) .nl (.sq none .nl (.cd .nl .nl))))) .nl))) [3, 8, 9, 10] (fun q t H => match Nat.beq q 0 with | true => app 1 j2 (vals [3] t) H | false => (fun _ _ _ => none) q t H) (retK P 37)) [x4, x5, x6, x7] h8 := by rw [dl_seg_Pick]; kernel_rfl
  refine h1.trans ((loopF_eq (P := P) cf (nT P 37) (atC P 37 [1, 1, 0, 1, 0, 0]) (.sq none .nl (.sq none (.cd .nl .nl) (.sq (some [3, 8, 9, 10]) (.bl (some [3, 8, 9, 10]) (.sq none .nl (.sq (some [3, 6, 7, 8, 9, 10]) .nl (.sq none .nl (.cd .nl .nl))))) .nl))) [3, 8, 9, 10] (fun q t H => match Nat.beq q 0 with | true => app 1 j2 (vals [3] t) H | false => (fun _ _ _ => none) q t H) (retK P 37) [x4, x5, x6, x7] rfl h8).trans ((rl_seg_Pick JN GO cf j2 _ x4 x5 x6 x7 h8).trans ?_))
  rw [dl_seg_Pick]

noncomputable def s_seg_Pick (J : JT) (G : GT) (cf : CF) (a0 : AV) (H : Hp) : R :=
 J 1 (fun j0 =>
 B1 (lenx a0) fun v1 =>
 J 1 (fun j2 =>
 l_seg_Pick J G cf j2 .slice0 a0 v1 (.int .i64 0) H) (fun x42 h43 =>
 j0 x42 h43)) (fun x44 h45 =>
 B2 (cf (.func (.func 54) [] []) [x44] h45) fun v46 h47 =>
 B2 (cf (.func (.func 55) [] []) [x44] h47) fun v48 h49 =>
 some (v48, h49))

theorem e_seg_Pick (J : JT) (G : GT) (cf : CF) (a0 : AV) (H : Hp) : callF P J G prim an cf 37 [a0] H = s_seg_Pick J G cf a0 H := by kernel_rfl

theorem c_seg_Pick {a0 : AV} {H : Hp} {r : AV × Hp} (h : s_seg_Pick JN GO cK a0 H = some r) : cK (.func (.func 37) [] []) [a0] H = some r := callF_fix (first := []) (cap := []) ((e_seg_Pick JN GO _ a0 H).trans h)

noncomputable def l_slices_Compact___int64_int64_1 (J : JT) (G : GT) (cf : CF) (j6 : K.Fn 1) (j14 : K.Fn 2) (j28 : K.Fn 2) : K.Fn 4 := LP 4 fun j29 => fun x30 x31 x32 x33 h34 =>
 B1 (lenx x32) fun v35 =>
 B1 (ilt x33 v35) fun v36 =>
 CD v36 (
 J 4 (fun j37 =>
 J 4 (fun j38 =>
 J 5 (fun j39 =>
 B1 (ia 1 x32 x33) fun v40 =>
 B1 (ld v40 h34) fun v41 =>
 B1 (isub x33 (.int .i64 1)) fun v42 =>
 B1 (ia 1 x32 v42) fun v43 =>
 B1 (ld v43 h34) fun v44 =>
 B1 (ine v41 v44) fun v45 =>
 j39 x30 x31 x32 x33 v45 h34) (fun x46 x47 x48 x49 x50 h51 =>
 CD x50 (
 J 4 (fun j52 =>
 B1 (ia 1 x48 x49) fun v53 =>
 B1 (ld v53 h51) fun v54 =>
 B1 (ia 1 x46 x47) fun v55 =>
 B1 (st 1 v55 v54 h51) fun h56 =>
 j52 x46 x47 x48 x49 h56) (fun x57 x58 x59 x60 h61 =>
 B1 (iadd x58 (.int .i64 1)) fun v62 =>
 j38 x57 v62 x59 x60 h61)) (
 j38 x46 x47 x48 x49 h51))) (fun x63 x64 x65 x66 h67 =>
 j37 x63 x64 x65 x66 h67)) (fun x68 x69 x70 x71 h72 =>
 B1 (iadd x71 (.int .i64 1)) fun v73 =>
 j29 x68 x69 x70 v73 h72)) (
 j28 x30 x31 h34)

theorem rl_slices_Compact___int64_int64_1 (J : JT) (G : GT) (cf : CF) (j6 : K.Fn 1) (j14 : K.Fn 2) (j28 : K.Fn 2) (j29 : K.Fn 4) (x30 x31 x32 x33 : AV) (h34 : Hp) : codeF P J G cf (nT P 55) (atC P 55 [1, 1, 0, 1, 0, 0, 1, 0, 0, 1, 0, 1, 0, 1, 0, 0]) (.sq none (.sq none .nl (.cd .nl .nl)) (.sq (some [0, 3, 4, 5]) (.bl (some [0, 3, 4, 5]) (.sq (some [0, 3, 4, 5, 44]) .nl (.cd (.sq (some [0, 3, 4, 5]) .nl .nl) .nl))) .nl)) (fun t H => app 4 j29 (vals [0, 3, 4, 5] t) H) (fun q t H => match Nat.beq q 2 with | true => app 2 j28 (vals [0, 3] t) H | false => (fun q t H => match Nat.beq q 1 with | true => app 2 j14 (vals [0, 3] t) H | false => (fun q t H => match Nat.beq q 0 with | true => app 1 j6 (vals [0] t) H | false => (fun _ _ _ => none) q t H) q t H) q t H) (retK P 55) (mkT (nT P 55) [0, 3, 4, 5] [x30, x31, x32, x33]) h34 =
(B1 (lenx x32) fun v35 =>
 B1 (ilt x33 v35) fun v36 =>
 CD v36 (
 J 4 (fun j37 =>
 J 4 (fun j38 =>
 J 5 (fun j39 =>
 B1 (ia 1 x32 x33) fun v40 =>
 B1 (ld v40 h34) fun v41 =>
 B1 (isub x33 (.int .i64 1)) fun v42 =>
 B1 (ia 1 x32 v42) fun v43 =>
 B1 (ld v43 h34) fun v44 =>
 B1 (ine v41 v44) fun v45 =>
 j39 x30 x31 x32 x33 v45 h34) (fun x46 x47 x48 x49 x50 h51 =>
 CD x50 (
 J 4 (fun j52 =>
 B1 (ia 1 x48 x49) fun v53 =>
 B1 (ld v53 h51) fun v54 =>
 B1 (ia 1 x46 x47) fun v55 =>
 B1 (st 1 v55 v54 h51) fun h56 =>
 j52 x46 x47 x48 x49 h56) (fun x57 x58 x59 x60 h61 =>
 B1 (iadd x58 (.int .i64 1)) fun v62 =>
 j38 x57 v62 x59 x60 h61)) (
 j38 x46 x47 x48 x49 h51))) (fun x63 x64 x65 x66 h67 =>
 j37 x63 x64 x65 x66 h67)) (fun x68 x69 x70 x71 h72 =>
 B1 (iadd x71 (.int .i64 1)) fun v73 =>
 j29 x68 x69 x70 v73 h72)) (
 j28 x30 x31 h34)) := by kernel_rfl

theorem dl_slices_Compact___int64_int64_1 (J : JT) (G : GT) (cf : CF) (j6 : K.Fn 1) (j14 : K.Fn 2) (j28 : K.Fn 2) : l_slices_Compact___int64_int64_1 J G cf j6 j14 j28 = loopF P J G cf (nT P 55) (atC P 55 [1, 1, 0, 1, 0, 0, 1, 0, 0, 1, 0, 1, 0, 1, 0, 0]) (.sq none (.sq none .nl (.cd .nl .nl)) (.sq (some [0, 3, 4, 5]) (.bl (some [0, 3, 4, 5]) (.sq (some [0, 3, 4, 5, 44]) .nl (.cd (.sq (some [0, 3, 4, 5]) .nl .nl) .nl))) .nl)) [0, 3, 4, 5] (fun q t H => match Nat.beq q 2 with | true => app 2 j28 (vals [0, 3] t) H | false => (fun q t H => match Nat.beq q 1 with | true => app 2 j14 (vals [0, 3] t) H | false => (fun q t H => match Nat.beq q 0 with | true => app 1 j6 (vals [0] t) H | false => (fun _ _ _ => none) q t H) q t H) q t H) (retK P 55) := by
  unfold l_slices_Compact___int64_int64_1 loopF
  refine congrArg (LP 4) ?_
  funext j29 x30 x31 x32 x33 h34
  exact (rl_slices_Compact___int64_int64_1 J G cf j6 j14 j28 j29 x30 x31 x32 x33 h34).symm

theorem ql_slices_Compact___int64_int64_1 (cf : CF) (j6 : K.Fn 1) (j14 : K.Fn 2) (j28 : K.Fn 2) (x30 x31 x32 x33 : AV) (h34 : Hp) : l_slices_Compact___int64_int64_1 JN GO cf j6 j14 j28 x30 x31 x32 x33 h34 =

 B1 (lenx x32) fun v35 =>
 B1 (ilt x33 v35) fun v36 =>
 CD v36 (
 JN 4 (fun j37 =>
 JN 4 (fun j38 =>
 JN 5 (fun j39 =>
 B1 (ia 1 x32 x33) fun v40 =>
 B1 (ld v40 h34) fun v41 =>
 B1 (isub x33 (.int .i64 1)) fun v42 =>
 B1 (ia 1 x32 v42) fun v43 =>
 B1 (ld v43 h34) fun v44 =>
 B1 (ine v41 v44) fun v45 =>
 j39 x30 x31 x32 x33 v45 h34) (fun x46 x47 x48 x49 x50 h51 =>
 CD x50 (
 JN 4 (fun j52 =>
 B1 (ia 1 x48 x49) fun v53 =>
 B1 (ld v53 h51) fun v54 =>
 B1 (ia 1 x46 x47) fun v55 =>
 B1 (st 1 v55 v54 h51) fun h56 =>
 j52 x46 x47 x48 x49 h56) (fun x57 x58 x59 x60 h61 =>
 B1 (iadd x58 (.int .i64 1)) fun v62 =>
 j38 x57 v62 x59 x60 h61)) (
 j38 x46 x47 x48 x49 h51))) (fun x63 x64 x65 x66 h67 =>
 j37 x63 x64 x65 x66 h67)) (fun x68 x69 x70 x71 h72 =>
 B1 (iadd x71 (.int .i64 1)) fun v73 =>
 l_slices_Compact___int64_int64_1 JN GO cf j6 j14 j28 x68 x69 x70 v73 h72)) (
 j28 x30 x31 h34) := by
  have h1 : l_slices_Compact___int64_int64_1 JN GO cf j6 j14 j28 x30 x31 x32 x33 h34 = app 4 (loopF P JN GO cf (nT P 55) (atC P 55 [1, 1, 0, 1, 0, 0, 1, 0, 0, 1, 0, 1, 0, 1, 0, 0]) (.sq none (.sq none .nl (.cd .nl .nl)) (.sq (some [0, 3, 4, 5]) (.bl (some [0, 3, 4, 5]) (.sq (some [0, 3, 4, 5, 44]) .nl (.cd (.sq (some [0, 3, 4, 5]) .nl .nl) .nl))) .nl)) [0, 3, 4, 5] (fun q t H => match Nat.beq q 2 with | true => app 2 j28 (vals [0, 3] t) H | false => (fun q t H => match Nat.beq q 1 with | true => app 2 j14 (vals [0, 3] t) H | false => (fun q t H => match Nat.beq q 0 with | true => app 1 j6 (vals [0] t) H | false => (fun _ _ _ => none) q t H) q t H) q t H) (retK P 55)) [x30, x31, x32, x33] h34 := by rw [dl_slices_Compact___int64_int64_1]; kernel_rfl
  refine h1.trans ((loopF_eq (P := P) cf (nT P 55) (atC P 55 [1, 1, 0, 1, 0, 0, 1, 0, 0, 1, 0, 1, 0, 1, 0, 0]) (.sq none (.sq none .nl (.cd .nl .nl)) (.sq (some [0, 3, 4, 5]) (.bl (some [0, 3, 4, 5]) (.sq (some [0, 3, 4, 5, 44]) .nl (.cd (.sq (some [0, 3, 4, 5]) .nl .nl) .nl))) .nl)) [0, 3, 4, 5] (fun q t H => match Nat.beq q 2 with | true => app 2 j28 (vals [0, 3] t) H | false => (fun q t H => match Nat.beq q 1 with | true => app 2 j14 (vals [0, 3] t) H | false => (fun q t H => match Nat.beq q 0 with | true => app 1 j6 (vals [0] t) H | false => (fun _ _ _ => none) q t H) q t H) q t H) (retK P 55) [x30, x31, x32, x33] rfl h34).trans ((rl_slices_Compact___int64_int64_1 JN GO cf j6 j14 j28 _ x30 x31 x32 x33 h34).trans ?_))
  rw [dl_slices_Compact___int64_int64_1]

noncomputable def l_slices_Compact___int64_int64_ (J : JT) (G : GT) (cf : CF) (j6 : K.Fn 1) : K.Fn 2 := LP 2 fun j7 => fun x8 x9 h10 =>
 B1 (lenx x8) fun v11 =>
 B1 (ilt x9 v11) fun v12 =>
 CD v12 (
 J 2 (fun j13 =>
 J 2 (fun j14 =>
 J 3 (fun j15 =>
 B1 (ia 1 x8 x9) fun v16 =>
 B1 (ld v16 h10) fun v17 =>
 B1 (isub x9 (.int .i64 1)) fun v18 =>
 B1 (ia 1 x8 v18) fun v19 =>
 B1 (ld v19 h10) fun v20 =>
 B1 (ieq v17 v20) fun v21 =>
 j15 x8 x9 v21 h10) (fun x22 x23 x24 h25 =>
 CD x24 (
 B1 (sll 1 x22 (some x23) none none) fun v26 =>
 J 2 (fun j27 =>
 J 2 (fun j28 =>
 l_slices_Compact___int64_int64_1 J G cf j6 j14 j28 x22 x23 v26 (.int .i64 1) h25) (fun x74 x75 h76 =>
 j27 x74 x75 h76)) (fun x77 x78 h79 =>
 B1 (sll 1 x77 (some x78) none none) fun v80 =>
 B2 (builtinA P .clear #[83] [v80] h79) fun v81 h82 =>
 B1 (sll 1 x77 none (some x78) none) fun v83 =>
 some (v83, h82))) (
 j14 x22 x23 h25))) (fun x84 x85 h86 =>
 j13 x84 x85 h86)) (fun x87 x88 h89 =>
 B1 (iadd x88 (.int .i64 1)) fun v90 =>
 j7 x87 v90 h89)) (
 j6 x8 h10)

theorem rl_slices_Compact___int64_int64_ (J : JT) (G : GT) (cf : CF) (j6 : K.Fn 1) (j7 : K.Fn 2) (x8 x9 : AV) (h10 : Hp) : codeF P J G cf (nT P 55) (atC P 55 [1, 1, 0, 1, 0, 0]) (.sq none (.sq none .nl (.cd .nl .nl)) (.sq (some [0, 3]) (.bl (some [0, 3]) (.sq (some [0, 3, 25]) .nl (.cd (.sq none .nl (.sq (some [0, 3]) (.sq none .nl (.bl (some [0, 3]) (.lp [0, 3, 4, 5] (.sq none (.sq none .nl (.cd .nl .nl)) (.sq (some [0, 3, 4, 5]) (.bl (some [0, 3, 4, 5]) (.sq (some [0, 3, 4, 5, 44]) .nl (.cd (.sq (some [0, 3, 4, 5]) .nl .nl) .nl))) .nl))))) (.sq none .nl (.sq none .nl .nl)))) .nl))) .nl)) (fun t H => app 2 j7 (vals [0, 3] t) H) (fun q t H => match Nat.beq q 0 with | true => app 1 j6 (vals [0] t) H | false => (fun _ _ _ => none) q t H) (retK P 55) (mkT (nT P 55) [0, 3] [x8, x9]) h10 =
(B1 (lenx x8) fun v11 =>
 B1 (ilt x9 v11) fun v12 =>
 CD v12 (
 J 2 (fun j13 =>
 J 2 (fun j14 =>
 J 3 (fun j15 =>
 B1 (ia 1 x8 x9) fun v16 =>
 B1 (ld v16 h10) fun v17 =>
 B1 (isub x9 (.int .i64 1)) fun v18 =>
 B1 (ia 1 x8 v18) fun v19 =>
 B1 (ld v19 h10) fun v20 =>
 B1 (ieq v17 v20) fun v21 =>
 j15 x8 x9 v21 h10) (fun x22 x23 x24 h25 =>
 CD x24 (
 B1 (sll 1 x22 (some x23) none none) fun v26 =>
 J 2 (fun j27 =>
 J 2 (fun j28 =>
 l_slices_Compact___int64_int64_1 J G cf j6 j14 j28 x22 x23 v26 (.int .i64 1) h25) (fun x74 x75 h76 =>
 j27 x74 x75 h76)) (fun x77 x78 h79 =>
 B1 (sll 1 x77 (some x78) none none) fun v80 =>
 B2 (builtinA P .clear #[83] [v80] h79) fun v81 h82 =>
 B1 (sll 1 x77 none (some x78) none) fun v83 =>
 some (v83, h82))) (
 j14 x22 x23 h25))) (fun x84 x85 h86 =>
 j13 x84 x85 h86)) (fun x87 x88 h89 =>
 B1 (iadd x88 (.int .i64 1)) fun v90 =>
 j7 x87 v90 h89)) (
 j6 x8 h10)) := by kernel_rfl

theorem dl_slices_Compact___int64_int64_ (J : JT) (G : GT) (cf : CF) (j6 : K.Fn 1) : l_slices_Compact___int64_int64_ J G cf j6 = loopF P J G cf (nT P 55) (atC P 55 [1, 1, 0, 1, 0, 0]) (.sq none (.sq none .nl (.cd .nl .nl)) (.sq (some [0, 3]) (.bl (some [0, 3]) (.sq (some [0, 3, 25]) .nl (.cd (.sq none .nl (.sq (some [0, 3]) (.sq none .nl (.bl (some [0, 3]) (.lp [0, 3, 4, 5] (.sq none (.sq none .nl (.cd .nl .nl)) (.sq (some [0, 3, 4, 5]) (.bl (some [0, 3, 4, 5]) (.sq (some [0, 3, 4, 5, 44]) .nl (.cd (.sq (some [0, 3, 4, 5]) .nl .nl) .nl))) .nl))))) (.sq none .nl (.sq none .nl .nl)))) .nl))) .nl)) [0, 3] (fun q t H => match Nat.beq q 0 with | true => app 1 j6 (vals [0] t) H | false => (fun _ _ _ => none) q t H) (retK P 55) := by
  unfold l_slices_Compact___int64_int64_ loopF
  refine congrArg (LP 2) ?_
  funext j7 x8 x9 h10
  exact (rl_slices_Compact___int64_int64_ J G cf j6 j7 x8 x9 h10).symm

theorem ql_slices_Compact___int64_int64_ (cf : CF) (j6 : K.Fn 1) (x8 x9 : AV) (h10 : Hp) : l_slices_Compact___int64_int64_ JN GO cf j6 x8 x9 h10 =

 B1 (lenx x8) fun v11 =>
 B1 (ilt x9 v11) fun v12 =>
 CD v12 (
 JN 2 (fun j13 =>
 JN 2 (fun j14 =>
 JN 3 (fun j15 =>
 B1 (ia 1 x8 x9) fun v16 =>
 B1 (ld v16 h10) fun v17 =>
 B1 (isub x9 (.int .i64 1)) fun v18 =>
 B1 (ia 1 x8 v18) fun v19 =>
 B1 (ld v19 h10) fun v20 =>
 B1 (ieq v17 v20) fun v21 =>
 j15 x8 x9 v21 h10) (fun x22 x23 x24 h25 =>
 CD x24 (
 B1 (sll 1 x22 (some x23) none none) fun v26 =>
 JN 2 (fun j27 =>
 JN 2 (fun j28 =>
 l_slices_Compact___int64_int64_1 JN GO cf j6 j14 j28 x22 x23 v26 (.int .i64 1) h25) (fun x74 x75 h76 =>
 j27 x74 x75 h76)) (fun x77 x78 h79 =>
 B1 (sll 1 x77 (some x78) none none) fun v80 =>
 B2 (builtinA P .clear #[83] [v80] h79) fun v81 h82 =>
 B1 (sll 1 x77 none (some x78) none) fun v83 =>
 some (v83, h82))) (
 j14 x22 x23 h25))) (fun x84 x85 h86 =>
 j13 x84 x85 h86)) (fun x87 x88 h89 =>
 B1 (iadd x88 (.int .i64 1)) fun v90 =>
 l_slices_Compact___int64_int64_ JN GO cf j6 x87 v90 h89)) (
 j6 x8 h10) := by
  have h1 : l_slices_Compact___int64_int64_ JN GO cf j6 x8 x9 h10 = app 2 (loopF P JN GO cf (nT P 55) (atC P 55 [1, 1, 0, 1, 0, 0]) (.sq none (.sq none .nl (.cd .nl .nl)) (.sq (some [0, 3]) (.bl (some [0, 3]) (.sq (some [0, 3, 25]) .nl (.cd (.sq none .nl (.sq (some [0, 3]) (.sq none .nl (.bl (some [0, 3]) (.lp [0, 3, 4, 5] (.sq none (.sq none .nl (.cd .nl .nl)) (.sq (some [0, 3, 4, 5]) (.bl (some [0, 3, 4, 5]) (.sq (some [0, 3, 4, 5, 44]) .nl (.cd (.sq (some [0, 3, 4, 5]) .nl .nl) .nl))) .nl))))) (.sq none .nl (.sq none .nl .nl)))) .nl))) .nl)) [0, 3] (fun q t H => match Nat.beq q 0 with | true => app 1 j6 (vals [0] t) H | false => (fun _ _ _ => none) q t H) (retK P 55)) [x8, x9] h10 := by rw [dl_slices_Compact___int64_int64_]; kernel_rfl
  refine h1.trans ((loopF_eq (P := P) cf (nT P 55) (atC P 55 [1, 1, 0, 1, 0, 0]) (.sq none (.sq none .nl (.cd .nl .nl)) (.sq (some [0, 3]) (.bl (some [0, 3]) (.sq (some [0, 3, 25]) .nl (.cd (.sq none .nl (.sq (some [0, 3]) (.sq none .nl (.bl (some [0, 3]) (.lp [0, 3, 4, 5] (.sq none (.sq none .nl (.cd .nl .nl)) (.sq (some [0, 3, 4, 5]) (.bl (some [0, 3, 4, 5]) (.sq (some [0, 3, 4, 5, 44]) .nl (.cd (.sq (some [0, 3, 4, 5]) .nl .nl) .nl))) .nl))))) (.sq none .nl (.sq none .nl .nl)))) .nl))) .nl)) [0, 3] (fun q t H => match Nat.beq q 0 with | true => app 1 j6 (vals [0] t) H | false => (fun _ _ _ => none) q t H) (retK P 55) [x8, x9] rfl h10).trans ((rl_slices_Compact___int64_int64_ JN GO cf j6 _ x8 x9 h10).trans ?_))
  rw [dl_slices_Compact___int64_int64_]

noncomputable def s_slices_Compact___int64_int64_ (J : JT) (G : GT) (cf : CF) (a0 : AV) (H : Hp) : R :=
 J 1 (fun j0 =>
 B1 (lenx a0) fun v1 =>
 B1 (ilt v1 (.int .i64 2)) fun v2 =>
 CD v2 (
 some (a0, H)) (
 j0 a0 H)) (fun x3 h4 =>
 J 1 (fun j5 =>
 J 1 (fun j6 =>
 l_slices_Compact___int64_int64_ J G cf j6 x3 (.int .i64 1) h4) (fun x91 h92 =>
 j5 x91 h92)) (fun x93 h94 =>
 some (x93, h94)))

theorem e_slices_Compact___int64_int64_ (J : JT) (G : GT) (cf : CF) (a0 : AV) (H : Hp) : callF P J G prim an cf 55 [a0] H = s_slices_Compact___int64_int64_ J G cf a0 H := by kernel_rfl

theorem c_slices_Compact___int64_int64_ {a0 : AV} {H : Hp} {r : AV × Hp} (h : s_slices_Compact___int64_int64_ JN GO cK a0 H = some r) : cK (.func (.func 55) [] []) [a0] H = some r := callF_fix (first := []) (cap := []) ((e_slices_Compact___int64_int64_ JN GO _ a0 H).trans h)

noncomputable def s_wal_Log_Append (J : JT) (G : GT) (cf : CF) (a0 a1 a2 : AV) (H : Hp) : R :=
 J 3 (fun j0 =>
 J 4 (fun j1 =>
 B2 (cf (.func (.func 22) [] []) [a0] H) fun v2 h3 =>
 B1 (ilt a1 v2) fun v4 =>
 G v4 false (fun k5 =>
 k5 a1 h3) (fun v6 h7 =>
 G v4 false (fun k8 =>
 B1 (igt v6 (.int .i64 1048575)) fun v9 =>
 k8 v9 h7) (fun v10 h11 =>
 B1 (pk v4 (.bool true) v10) fun v12 =>
 j1 a0 a1 a2 v12 h11) h7) h3) (fun x13 x14 x15 x16 h17 =>
 CD x16 (
 some (.tuple [(.int .u64 0), (.int .i64 1)], h17)) (
 j0 x13 x14 x15 h17))) (fun x18 x19 x20 h21 =>
 J 4 (fun j22 =>
 B2 (cf (.func (.func 16) [] []) [x18] h21) fun v23 h24 =>
 B2 (cf (.func (.func 24) [] []) [x19, v23] h24) fun v25 h26 =>
 B1 (ex 0 v25) fun v27 =>
 B1 (ex 1 v25) fun v28 =>
 j22 x18 x20 v27 v28 h26) (fun x29 x30 x31 x32 h33 =>
 J 4 (fun j34 =>
 B2 (cf (.func (.func 25) [] []) [x30] h33) fun v35 h36 =>
 B1 (fl [(.int .u64 0), .slice0] [(0, 1, x31), (1, 1, v35)]) fun l37 =>
 BN (newCells h36 [(.int .u64 0), .slice0] 37 0) fun i38 h39 =>
 B1 (st 2 (.ptr i38 0) (.agg l37) h39) fun h40 =>
 j34 x29 x31 x32 (.ptr i38 0) h40) (fun x41 x42 x43 x44 h45 =>
 J 6 (fun j46 =>
 B1 (lda 2 x44 h45) fun v47 =>
 B2 (cf (.func (.func 26) [] []) [.slice0, v47] h45) fun v48 h49 =>
 B1 (ex 0 v48) fun v50 =>
 B1 (ex 1 v48) fun v51 =>
 j46 x41 x42 x43 x44 v50 v51 h49) (fun x52 x53 x54 x55 x56 x57 h58 =>
 J 4 (fun j59 =>
 B1 (ine x57 (.int .i64 0)) fun v60 =>
 CD v60 (
 some (.tuple [(.int .u64 0), x57], h58)) (
 B1 (unA .not x54) fun v61 =>
 CD v61 (
 some (.tuple [(.int .u64 0), (.int .i64 6)], h58)) (
 j59 x52 x53 x55 x56 h58))) (fun x62 x63 x64 x65 h66 =>
 J 5 (fun j67 =>
 B1 (nilA x62) fun v68 =>
 B1 (fa 2 v68) fun v69 =>
 B1 (ld v69 h66) fun v70 =>
 B1 (lenx v70) fun v71 =>
 B1 (isub v71 (.int .i64 1)) fun v72 =>
 j67 x62 x63 x64 x65 v72 h66) (fun x73 x74 x75 x76 x77 h78 =>
 J 5 (fun j79 =>
 J 6 (fun j80 =>
 B1 (ilt x77 (.int .i64 0)) fun v81 =>
 GD2 v81 false (
 B1 (nilA x73) fun v82 =>
 B1 (fa 2 v82) fun v83 =>
 B1 (ld v83 h78) fun v84 =>
 B1 (ia 2 v84 x77) fun v85 =>
 B1 (fa 1 v85) fun v86 =>
 B1 (ld v86 h78) fun v87 =>
 B1 (nilA x73) fun v88 =>
 B1 (fa 1 v88) fun v89 =>
 B1 (ld v89 h78) fun v90 =>
 B1 (ige v87 v90) fun v91 =>
 j80 x73 x74 x75 x76 x77 v91 h78) (
 j80 x73 x74 x75 x76 x77 (.bool true) h78)) (fun x92 x93 x94 x95 x96 x97 h98 =>
 CD x97 (
 J 6 (fun j99 =>
 B2 (cf (.func (.func 16) [] []) [x92] h98) fun v100 h101 =>
 B1 (fl [(.int .i64 0), (.int .i64 0)] [(0, 1, v100)]) fun l102 =>
 BN (newCells h101 [(.int .i64 0), (.int .i64 0)] 66 0) fun i103 h104 =>
 B1 (st 2 (.ptr i103 0) (.agg l102) h104) fun h105 =>
 j99 x92 x93 x94 x95 x96 (.ptr i103 0) h105) (fun x106 x107 x108 x109 x110 x111 h112 =>
 J 6 (fun j113 =>
 J 7 (fun j114 =>
 B1 (nilA x106) fun v115 =>
 B1 (fa 0 v115) fun v116 =>
 B1 (ld v116 h112) fun v117 =>
 B1 (lda 2 x111 h112) fun v118 =>
 B2 (cf (.func (.func 28) [] []) [v118] h112) fun v119 h120 =>
 B2 (cf (.func (.func 27) [] []) [v117, v119, x109] h120) fun v121 h122 =>
 B1 (ld v116 h120) fun v123 =>
 SM v117 v123 <|
 j114 x106 x107 x108 x109 x110 x111 v121 h122) (fun x124 x125 x126 x127 x128 x129 x130 h131 =>
 B1 (ine x130 (.int .i64 0)) fun v132 =>
 CD v132 (
 some (.tuple [(.int .u64 0), x130], h131)) (
 j113 x124 x125 x126 x127 x128 x129 h131))) (fun x133 x134 x135 x136 x137 x138 h139 =>
 J 5 (fun j140 =>
 B1 (nilA x133) fun v141 =>
 B1 (fa 2 v141) fun v142 =>
 B1 (ld v142 h139) fun v143 =>
 B1 (lda 2 x138 h139) fun v144 =>
 B1 (fl [(.int .i64 0), (.int .i64 0)] [(0, 2, v144)]) fun l145 =>
 BN (newCells h139 l145 66 0) fun i146 h147 =>
 B2 (app' 66 2 [(.int .i64 0), (.int .i64 0)] false v143 (.slice i146 0 1 1 true 2) h147) fun v148 h149 =>
 B1 (nilA x133) fun v150 =>
 B1 (fa 2 v150) fun v151 =>
 B1 (st 1 v151 v148 h149) fun h152 =>
 B1 (ld v142 h147) fun v153 =>
 SM v143 v153 <|
 j140 x133 x134 x135 x136 x137 h152) (fun x154 x155 x156 x157 x158 h159 =>
 B1 (iadd x158 (.int .i64 1)) fun v160 =>
 j79 x154 x155 x156 x157 v160 h159)))) (
 J 6 (fun j161 =>
 B1 (nilA x92) fun v162 =>
 B1 (fa 0 v162) fun v163 =>
 B1 (ld v163 h98) fun v164 =>
 B1 (nilA x92) fun v165 =>
 B1 (fa 2 v165) fun v166 =>
 B1 (ld v166 h98) fun v167 =>
 B1 (ia 2 v167 x96) fun v168 =>
 B1 (lda 2 v168 h98) fun v169 =>
 B2 (cf (.func (.func 28) [] []) [v169] h98) fun v170 h171 =>
 B2 (cf (.func (.func 27) [] []) [v164, v170, x95] h171) fun v172 h173 =>
 B1 (ld v163 h171) fun v174 =>
 SM v164 v174 <|
 j161 x92 x93 x94 x95 x96 v172 h173) (fun x175 x176 x177 x178 x179 x180 h181 =>
 B1 (ine x180 (.int .i64 0)) fun v182 =>
 CD v182 (
 some (.tuple [(.int .u64 0), x180], h181)) (
 j79 x175 x176 x177 x178 x179 h181))))) (fun x183 x184 x185 x186 x187 h188 =>
 J 3 (fun j189 =>
 B1 (nilA x183) fun v190 =>
 B1 (fa 2 v190) fun v191 =>
 B1 (ld v191 h188) fun v192 =>
 B1 (ia 2 v192 x187) fun v193 =>
 B1 (fa 1 v193) fun v194 =>
 B1 (ld v194 h188) fun v195 =>
 B1 (lenx x186) fun v196 =>
 B1 (iadd v195 v196) fun v197 =>
 B1 (ia 2 v192 x187) fun v198 =>
 B1 (fa 1 v198) fun v199 =>
 B1 (st 1 v199 v197 h188) fun h200 =>
 j189 x183 x184 x185 h200) (fun x201 x202 x203 h204 =>
 J 1 (fun j205 =>
 B1 (nilA x201) fun v206 =>
 B1 (fa 3 v206) fun v207 =>
 B1 (ld v207 h204) fun v208 =>
 B1 (lda 2 x203 h204) fun v209 =>
 B1 (fl [(.int .u64 0), .slice0] [(0, 2, v209)]) fun l210 =>
 BN (newCells h204 l210 37 0) fun i211 h212 =>
 B2 (app' 37 2 [(.int .u64 0), .slice0] false v208 (.slice i211 0 1 1 true 2) h212) fun v213 h214 =>
 B1 (nilA x201) fun v215 =>
 B1 (fa 3 v215) fun v216 =>
 B1 (st 1 v216 v213 h214) fun h217 =>
 B1 (ld v207 h212) fun v218 =>
 SM v208 v218 <|
 j205 x202 h217) (fun x219 h220 =>
 some (.tuple [x219, (.int .i64 0)], h220))))))))))

theorem e_wal_Log_Append (J : JT) (G : GT) (cf : CF) (a0 a1 a2 : AV) (H : Hp) : callF P J G prim an cf 8 [a0, a1, a2] H = s_wal_Log_Append J G cf a0 a1 a2 H := by kernel_rfl

theorem c_wal_Log_Append {a0 a1 a2 : AV} {H : Hp} {r : AV × Hp} (h : s_wal_Log_Append JN GO cK a0 a1 a2 H = some r) : cK (.func (.func 8) [] []) [a0, a1, a2] H = some r := callF_fix (first := []) (cap := []) ((e_wal_Log_Append JN GO _ a0 a1 a2 H).trans h)

noncomputable def s_wal_Log_End (J : JT) (G : GT) (cf : CF) (a0 : AV) (H : Hp) : R :=
 B1 (nilA a0) fun v0 =>
 B1 (fa 4 v0) fun v1 =>
 B1 (ld v1 H) fun v2 =>
 B1 (nilA a0) fun v3 =>
 B1 (fa 3 v3) fun v4 =>
 B1 (ld v4 H) fun v5 =>
 B1 (lenx v5) fun v6 =>
 B1 (iadd v2 v6) fun v7 =>
 some (v7, H)

theorem e_wal_Log_End (J : JT) (G : GT) (cf : CF) (a0 : AV) (H : Hp) : callF P J G prim an cf 16 [a0] H = s_wal_Log_End J G cf a0 H := by kernel_rfl

theorem c_wal_Log_End {a0 : AV} {H : Hp} {r : AV × Hp} (h : s_wal_Log_End JN GO cK a0 H = some r) : cK (.func (.func 16) [] []) [a0] H = some r := callF_fix (first := []) (cap := []) ((e_wal_Log_End JN GO _ a0 H).trans h)

noncomputable def s_wal_Log_Epoch (J : JT) (G : GT) (cf : CF) (a0 : AV) (H : Hp) : R :=
 J 1 (fun j0 =>
 J 2 (fun j1 =>
 B1 (nilA a0) fun v2 =>
 B1 (fa 3 v2) fun v3 =>
 B1 (ld v3 H) fun v4 =>
 B1 (lenx v4) fun v5 =>
 B1 (ieq v5 (.int .i64 0)) fun v6 =>
 j1 a0 v6 H) (fun x7 x8 h9 =>
 CD x8 (
 some ((.int .i64 0), h9)) (
 j0 x7 h9))) (fun x10 h11 =>
 B1 (nilA x10) fun v12 =>
 B1 (fa 3 v12) fun v13 =>
 B1 (ld v13 h11) fun v14 =>
 B1 (nilA x10) fun v15 =>
 B1 (fa 3 v15) fun v16 =>
 B1 (ld v16 h11) fun v17 =>
 B1 (lenx v17) fun v18 =>
 B1 (isub v18 (.int .i64 1)) fun v19 =>
 B1 (ia 2 v14 v19) fun v20 =>
 B1 (fa 0 v20) fun v21 =>
 B1 (ld v21 h11) fun v22 =>
 B2 (cf (.func (.func 17) [] []) [v22] h11) fun v23 h24 =>
 some (v23, h24))

theorem e_wal_Log_Epoch (J : JT) (G : GT) (cf : CF) (a0 : AV) (H : Hp) : callF P J G prim an cf 22 [a0] H = s_wal_Log_Epoch J G cf a0 H := by kernel_rfl

theorem c_wal_Log_Epoch {a0 : AV} {H : Hp} {r : AV × Hp} (h : s_wal_Log_Epoch JN GO cK a0 H = some r) : cK (.func (.func 22) [] []) [a0] H = some r := callF_fix (first := []) (cap := []) ((e_wal_Log_Epoch JN GO _ a0 H).trans h)

noncomputable def s_wal_Log_Get (J : JT) (G : GT) (cf : CF) (a0 a1 : AV) (H : Hp) : R :=
 BN (newCells H [(.int .u64 0), .slice0] 37 0) fun i0 h1 =>
 J 3 (fun j2 =>
 J 4 (fun j3 =>
 B1 (nilA a0) fun v4 =>
 B1 (fa 4 v4) fun v5 =>
 B1 (ld v5 h1) fun v6 =>
 B1 (ilt a1 v6) fun v7 =>
 j3 a0 a1 (.ptr i0 0) v7 h1) (fun x8 x9 x10 x11 h12 =>
 CD x11 (
 B1 (fl [(.int .u64 0), .slice0] []) fun l13 =>
 B1 (st 2 x10 (.agg l13) h12) fun h14 =>
 B1 (lda 2 x10 h14) fun v15 =>
 some (.tuple [v15, (.int .i64 13)], h14)) (
 J 4 (fun j16 =>
 B2 (cf (.func (.func 16) [] []) [x8] h12) fun v17 h18 =>
 B1 (ige x9 v17) fun v19 =>
 j16 x8 x9 x10 v19 h18) (fun x20 x21 x22 x23 h24 =>
 CD x23 (
 B1 (fl [(.int .u64 0), .slice0] []) fun l25 =>
 B1 (st 2 x22 (.agg l25) h24) fun h26 =>
 B1 (lda 2 x22 h26) fun v27 =>
 some (.tuple [v27, (.int .i64 4)], h26)) (
 j2 x20 x21 x22 h24))))) (fun x28 x29 x30 h31 =>
 B1 (nilA x28) fun v32 =>
 B1 (fa 3 v32) fun v33 =>
 B1 (ld v33 h31) fun v34 =>
 B1 (nilA x28) fun v35 =>
 B1 (fa 4 v35) fun v36 =>
 B1 (ld v36 h31) fun v37 =>
 B1 (isub x29 v37) fun v38 =>
 B1 (ia 2 v34 v38) fun v39 =>
 B1 (lda 2 v39 h31) fun v40 =>
 B2 (cf (.func (.func 29) [] []) [v40] h31) fun v41 h42 =>
 B1 (st 2 x30 v41 h42) fun h43 =>
 B1 (lda 2 x30 h43) fun v44 =>
 some (.tuple [v44, (.int .i64 0)], h43))

theorem e_wal_Log_Get (J : JT) (G : GT) (cf : CF) (a0 a1 : AV) (H : Hp) : callF P J G prim an cf 10 [a0, a1] H = s_wal_Log_Get J G cf a0 a1 H := by kernel_rfl

theorem c_wal_Log_Get {a0 a1 : AV} {H : Hp} {r : AV × Hp} (h : s_wal_Log_Get JN GO cK a0 a1 H = some r) : cK (.func (.func 10) [] []) [a0, a1] H = some r := callF_fix (first := []) (cap := []) ((e_wal_Log_Get JN GO _ a0 a1 H).trans h)

noncomputable def l_wal_Log_Since (J : JT) (G : GT) (cf : CF) (j12 : K.Fn 1) : K.Fn 4 := LP 4 fun j13 => fun x14 x15 x16 x17 h18 =>
 J 4 (fun j19 =>
 J 5 (fun j20 =>
 B2 (cf (.func (.func 16) [] []) [x14] h18) fun v21 h22 =>
 B1 (ilt x15 v21) fun v23 =>
 G v23 true (fun k24 =>
 k24 x17 h22) (fun v25 h26 =>
 G v23 true (fun k27 =>
 B1 (lenx v25) fun v28 =>
 k27 v28 h26) (fun v29 h30 =>
 G v23 true (fun k31 =>
 k31 x16 h30) (fun v32 h33 =>
 G v23 true (fun k34 =>
 B1 (ilt v29 v32) fun v35 =>
 k34 v35 h33) (fun v36 h37 =>
 B1 (pk v23 v36 (.bool false)) fun v38 =>
 j20 x14 x15 x16 x17 v38 h37) h33) h30) h26) h22) (fun x39 x40 x41 x42 x43 h44 =>
 CD x43 (
 j19 x39 x40 x41 x42 h44) (
 j12 x42 h44))) (fun x45 x46 x47 x48 h49 =>
 J 4 (fun j50 =>
 B1 (nilA x45) fun v51 =>
 B1 (fa 3 v51) fun v52 =>
 B1 (ld v52 h49) fun v53 =>
 B1 (nilA x45) fun v54 =>
 B1 (fa 4 v54) fun v55 =>
 B1 (ld v55 h49) fun v56 =>
 B1 (isub x46 v56) fun v57 =>
 B1 (ia 2 v53 v57) fun v58 =>
 B1 (lda 2 v58 h49) fun v59 =>
 B2 (cf (.func (.func 29) [] []) [v59] h49) fun v60 h61 =>
 B1 (fl [(.int .u64 0), .slice0] [(0, 2, v60)]) fun l62 =>
 BN (newCells h61 l62 37 0) fun i63 h64 =>
 B2 (app' 37 2 [(.int .u64 0), .slice0] false x48 (.slice i63 0 1 1 true 2) h64) fun v65 h66 =>
 j50 x45 x46 x47 v65 h66) (fun x67 x68 x69 x70 h71 =>
 B1 (iadd x68 (.int .i64 1)) fun v72 =>
 j13 x67 v72 x69 x70 h71))

theorem rl_wal_Log_Since (J : JT) (G : GT) (cf : CF) (j12 : K.Fn 1) (j13 : K.Fn 4) (x14 x15 x16 x17 : AV) (h18 : Hp) : codeF P J G cf (nT P 9) (atC P 9 [1, 1, 0, 1, 0, 0]) (.sq (some [0, 1, 2, 7]) (.sq (some [0, 1, 2, 7, 23]) .nl (.cd .nl .nl)) (.sq (some [0, 1, 2, 7]) (.bl none .nl) .nl)) (fun t H => app 4 j13 (vals [0, 1, 2, 7] t) H) (fun q t H => match Nat.beq q 0 with | true => app 1 j12 (vals [7] t) H | false => (fun _ _ _ => none) q t H) (retK P 9) (mkT (nT P 9) [0, 1, 2, 7] [x14, x15, x16, x17]) h18 =
(J 4 (fun j19 =>
 J 5 (fun j20 =>
 B2 (cf (.func (.func 16) [] []) [x14] h18) fun v21 h22 =>
 B1 (ilt x15 v21) fun v23 =>
 G v23 true (fun k24 =>
 k24 x17 h22) (fun v25 h26 =>
 G v23 true (fun k27 =>
 B1 (lenx v25) fun v28 =>
 k27 v28 h26) (fun v29 h30 =>
 G v23 true (fun k31 =>
 k31 x16 h30) (fun v32 h33 =>
 G v23 true (fun k34 =>
 B1 (ilt v29 v32) fun v35 =>
 k34 v35 h33) (fun v36 h37 =>
 B1 (pk v23 v36 (.bool false)) fun v38 =>
 j20 x14 x15 x16 x17 v38 h37) h33) h30) h26) h22) (fun x39 x40 x41 x42 x43 h44 =>
 CD x43 (
 j19 x39 x40 x41 x42 h44) (
 j12 x42 h44))) (fun x45 x46 x47 x48 h49 =>
 J 4 (fun j50 =>
 B1 (nilA x45) fun v51 =>
 B1 (fa 3 v51) fun v52 =>
 B1 (ld v52 h49) fun v53 =>
 B1 (nilA x45) fun v54 =>
 B1 (fa 4 v54) fun v55 =>
 B1 (ld v55 h49) fun v56 =>
 B1 (isub x46 v56) fun v57 =>
 B1 (ia 2 v53 v57) fun v58 =>
 B1 (lda 2 v58 h49) fun v59 =>
 B2 (cf (.func (.func 29) [] []) [v59] h49) fun v60 h61 =>
 B1 (fl [(.int .u64 0), .slice0] [(0, 2, v60)]) fun l62 =>
 BN (newCells h61 l62 37 0) fun i63 h64 =>
 B2 (app' 37 2 [(.int .u64 0), .slice0] false x48 (.slice i63 0 1 1 true 2) h64) fun v65 h66 =>
 j50 x45 x46 x47 v65 h66) (fun x67 x68 x69 x70 h71 =>
 B1 (iadd x68 (.int .i64 1)) fun v72 =>
 j13 x67 v72 x69 x70 h71))) := by kernel_rfl

theorem dl_wal_Log_Since (J : JT) (G : GT) (cf : CF) (j12 : K.Fn 1) : l_wal_Log_Since J G cf j12 = loopF P J G cf (nT P 9) (atC P 9 [1, 1, 0, 1, 0, 0]) (.sq (some [0, 1, 2, 7]) (.sq (some [0, 1, 2, 7, 23]) .nl (.cd .nl .nl)) (.sq (some [0, 1, 2, 7]) (.bl none .nl) .nl)) [0, 1, 2, 7] (fun q t H => match Nat.beq q 0 with | true => app 1 j12 (vals [7] t) H | false => (fun _ _ _ => none) q t H) (retK P 9) := by
  unfold l_wal_Log_Since loopF
  refine congrArg (LP 4) ?_
  funext j13 x14 x15 x16 x17 h18
  exact (rl_wal_Log_Since J G cf j12 j13 x14 x15 x16 x17 h18).symm

theorem ql_wal_Log_Since (cf : CF) (j12 : K.Fn 1) (x14 x15 x16 x17 : AV) (h18 : Hp) : l_wal_Log_Since JN GO cf j12 x14 x15 x16 x17 h18 =

 JN 4 (fun j19 =>
 JN 5 (fun j20 =>
 B2 (cf (.func (.func 16) [] []) [x14] h18) fun v21 h22 =>
 B1 (ilt x15 v21) fun v23 =>
 GO v23 true (fun k24 =>
 k24 x17 h22) (fun v25 h26 =>
 GO v23 true (fun k27 =>
 B1 (lenx v25) fun v28 =>
 k27 v28 h26) (fun v29 h30 =>
 GO v23 true (fun k31 =>
 k31 x16 h30) (fun v32 h33 =>
 GO v23 true (fun k34 =>
 B1 (ilt v29 v32) fun v35 =>
 k34 v35 h33) (fun v36 h37 =>
 B1 (pk v23 v36 (.bool false)) fun v38 =>
 j20 x14 x15 x16 x17 v38 h37) h33) h30) h26) h22) (fun x39 x40 x41 x42 x43 h44 =>
 CD x43 (
 j19 x39 x40 x41 x42 h44) (
 j12 x42 h44))) (fun x45 x46 x47 x48 h49 =>
 JN 4 (fun j50 =>
 B1 (nilA x45) fun v51 =>
 B1 (fa 3 v51) fun v52 =>
 B1 (ld v52 h49) fun v53 =>
 B1 (nilA x45) fun v54 =>
 B1 (fa 4 v54) fun v55 =>
 B1 (ld v55 h49) fun v56 =>
 B1 (isub x46 v56) fun v57 =>
 B1 (ia 2 v53 v57) fun v58 =>
 B1 (lda 2 v58 h49) fun v59 =>
 B2 (cf (.func (.func 29) [] []) [v59] h49) fun v60 h61 =>
 B1 (fl [(.int .u64 0), .slice0] [(0, 2, v60)]) fun l62 =>
 BN (newCells h61 l62 37 0) fun i63 h64 =>
 B2 (app' 37 2 [(.int .u64 0), .slice0] false x48 (.slice i63 0 1 1 true 2) h64) fun v65 h66 =>
 j50 x45 x46 x47 v65 h66) (fun x67 x68 x69 x70 h71 =>
 B1 (iadd x68 (.int .i64 1)) fun v72 =>
 l_wal_Log_Since JN GO cf j12 x67 v72 x69 x70 h71)) := by
  have h1 : l_wal_Log_Since JN GO cf j12 x14 x15 x16 x17 h18 = app 4 (loopF P JN GO cf (nT P 9) (atC P 9 [1, 1, 0, 1, 0, 0]) (.sq (some [0, 1, 2, 7]) (.sq (some [0, 1, 2, 7, 23]) .nl (.cd .nl .nl)) (.sq (some [0, 1, 2, 7]) (.bl none .nl) .nl)) [0, 1, 2, 7] (fun q t H => match Nat.beq q 0 with | true => app 1 j12 (vals [7] t) H | false => (fun _ _ _ => none) q t H) (retK P 9)) [x14, x15, x16, x17] h18 := by rw [dl_wal_Log_Since]; kernel_rfl
  refine h1.trans ((loopF_eq (P := P) cf (nT P 9) (atC P 9 [1, 1, 0, 1, 0, 0]) (.sq (some [0, 1, 2, 7]) (.sq (some [0, 1, 2, 7, 23]) .nl (.cd .nl .nl)) (.sq (some [0, 1, 2, 7]) (.bl none .nl) .nl)) [0, 1, 2, 7] (fun q t H => match Nat.beq q 0 with | true => app 1 j12 (vals [7] t) H | false => (fun _ _ _ => none) q t H) (retK P 9) [x14, x15, x16, x17] rfl h18).trans ((rl_wal_Log_Since JN GO cf j12 _ x14 x15 x16 x17 h18).trans ?_))
  rw [dl_wal_Log_Since]

noncomputable def s_wal_Log_Since (J : JT) (G : GT) (cf : CF) (a0 a1 a2 : AV) (H : Hp) : R :=
 J 1 (fun j0 =>
 J 4 (fun j1 =>
 B1 (nilA a0) fun v2 =>
 B1 (fa 4 v2) fun v3 =>
 B1 (ld v3 H) fun v4 =>
 B2 (builtinA P .max #[2, 2] [a1, v4] H) fun v5 h6 =>
 j1 a0 v5 a2 .slice0 h6) (fun x7 x8 x9 x10 h11 =>
 J 1 (fun j12 =>
 l_wal_Log_Since J G cf j12 x7 x8 x9 x10 h11) (fun x73 h74 =>
 j0 x73 h74))) (fun x75 h76 =>
 some (x75, h76))

theorem e_wal_Log_Since (J : JT) (G : GT) (cf : CF) (a0 a1 a2 : AV) (H : Hp) : callF P J G prim an cf 9 [a0, a1, a2] H = s_wal_Log_Since J G cf a0 a1 a2 H := by kernel_rfl

theorem c_wal_Log_Since {a0 a1 a2 : AV} {H : Hp} {r : AV × Hp} (h : s_wal_Log_Since JN GO cK a0 a1 a2 H = some r) : cK (.func (.func 9) [] []) [a0, a1, a2] H = some r := callF_fix (first := []) (cap := []) ((e_wal_Log_Since JN GO _ a0 a1 a2 H).trans h)

noncomputable def l_wal_Log_read (J : JT) (G : GT) (cf : CF) (j13 : K.Fn 0) : K.Fn 5 := LP 5 fun j14 => fun x15 x16 x17 x18 x19 h20 =>
 B1 (ilt x19 x18) fun v21 =>
 CD v21 (
 J 5 (fun j22 =>
 J 7 (fun j23 =>
 B1 (ia 1 x17 x19) fun v24 =>
 B1 (ld v24 h20) fun v25 =>
 j23 x15 x16 x19 v25 x17 x18 x19 h20) (fun x26 x27 x28 x29 x30 x31 x32 h33 =>
 J 7 (fun j34 =>
 B2 (cf (.func (.func 16) [] []) [x26] h33) fun v35 h36 =>
 B1 (ine x29 v35) fun v37 =>
 CD v37 (
 B1 (sll 1 x27 (some x28) none none) fun v38 =>
 B2 (cf (.func (.func 50) [] []) [x26, v38] h36) fun v39 h40 =>
 some (v39, h40)) (
 j34 x26 x27 x28 x29 x30 x31 x32 h36)) (fun x41 x42 x43 x44 x45 x46 x47 h48 =>
 B1 (fl [(.int .i64 0), (.int .i64 0)] [(0, 1, x44)]) fun l49 =>
 BN (newCells h48 [(.int .i64 0), (.int .i64 0)] 66 0) fun i50 h51 =>
 B1 (st 2 (.ptr i50 0) (.agg l49) h51) fun h52 =>
 J 10 (fun j53 =>
 B1 (nilA x41) fun v54 =>
 B1 (fa 0 v54) fun v55 =>
 B1 (ld v55 h52) fun v56 =>
 B1 (lda 2 (.ptr i50 0) h52) fun v57 =>
 B2 (cf (.func (.func 28) [] []) [v57] h52) fun v58 h59 =>
 B2 (cf (.func (.func 51) [] []) [v56, v58] h59) fun v60 h61 =>
 B1 (ex 0 v60) fun v62 =>
 B1 (ex 1 v60) fun v63 =>
 B1 (ld v55 h59) fun v64 =>
 SM v56 v64 <|
 j53 x41 x42 x43 x44 (.ptr i50 0) v62 v63 x45 x46 x47 h61) (fun x65 x66 x67 x68 x69 x70 x71 x72 x73 x74 h75 =>
 B1 (ine x71 (.int .i64 0)) fun v76 =>
 CD v76 (
 some (x71, h75)) (
 J 10 (fun j77 =>
 B2 (cf (.func (.func 22) [] []) [x65] h75) fun v78 h79 =>
 B2 (cf (.func (.func 52) [] []) [x70, x68, v78] h79) fun v80 h81 =>
 B1 (ex 0 v80) fun v82 =>
 B1 (ex 1 v80) fun v83 =>
 j77 x65 x66 x67 x69 x70 v82 v83 x72 x73 x74 h81) (fun x84 x85 x86 x87 x88 x89 x90 x91 x92 x93 h94 =>
 B1 (fa 1 x87) fun v95 =>
 B1 (st 1 v95 x90 h94) fun h96 =>
 J 10 (fun j97 =>
 B1 (nilA x84) fun v98 =>
 B1 (fa 2 v98) fun v99 =>
 B1 (ld v99 h96) fun v100 =>
 B1 (lda 2 x87 h96) fun v101 =>
 B1 (fl [(.int .i64 0), (.int .i64 0)] [(0, 2, v101)]) fun l102 =>
 BN (newCells h96 l102 66 0) fun i103 h104 =>
 B2 (app' 66 2 [(.int .i64 0), (.int .i64 0)] false v100 (.slice i103 0 1 1 true 2) h104) fun v105 h106 =>
 B1 (nilA x84) fun v107 =>
 B1 (fa 2 v107) fun v108 =>
 B1 (st 1 v108 v105 h106) fun h109 =>
 B1 (ld v99 h104) fun v110 =>
 SM v100 v110 <|
 j97 x84 x85 x86 x87 x88 x89 x90 x91 x92 x93 h109) (fun x111 x112 x113 x114 x115 x116 x117 x118 x119 x120 h121 =>
 J 9 (fun j122 =>
 B1 (nilA x111) fun v123 =>
 B1 (fa 3 v123) fun v124 =>
 B1 (ld v124 h121) fun v125 =>
 B2 (app' 37 2 [(.int .u64 0), .slice0] false v125 x116 h121) fun v126 h127 =>
 B1 (nilA x111) fun v128 =>
 B1 (fa 3 v128) fun v129 =>
 B1 (st 1 v129 v126 h127) fun h130 =>
 j122 x111 x112 x113 x114 x115 x117 x118 x119 x120 h130) (fun x131 x132 x133 x134 x135 x136 x137 x138 x139 h140 =>
 B1 (lenx x135) fun v141 =>
 B1 (ilt x136 v141) fun v142 =>
 CD v142 (
 J 3 (fun j143 =>
 J 4 (fun j144 =>
 B1 (iadd x133 (.int .i64 1)) fun v145 =>
 B1 (sll 1 x132 (some v145) none none) fun v146 =>
 B2 (cf (.func (.func 50) [] []) [x131, v146] h140) fun v147 h148 =>
 j144 x131 x134 x136 v147 h148) (fun x149 x150 x151 x152 h153 =>
 B1 (ine x152 (.int .i64 0)) fun v154 =>
 CD v154 (
 some (x152, h153)) (
 j143 x149 x150 x151 h153))) (fun x155 x156 x157 h158 =>
 B1 (nilA x155) fun v159 =>
 B1 (fa 0 v159) fun v160 =>
 B1 (ld v160 h158) fun v161 =>
 B1 (lda 2 x156 h158) fun v162 =>
 B2 (cf (.func (.func 28) [] []) [v162] h158) fun v163 h164 =>
 B2 (cf (.func (.func 31) [] []) [v161, v163, x157] h164) fun v165 h166 =>
 B1 (ld v160 h164) fun v167 =>
 SM v161 v167 <|
 some (v165, h166))) (
 j22 x131 x132 x137 x138 x139 h140))))))))) (fun x168 x169 x170 x171 x172 h173 =>
 B1 (iadd x172 (.int .i64 1)) fun v174 =>
 j14 x168 x169 x170 x171 v174 h173)) (
 j13  h20)

theorem rl_wal_Log_read (J : JT) (G : GT) (cf : CF) (j13 : K.Fn 0) (j14 : K.Fn 5) (x15 x16 x17 x18 x19 : AV) (h20 : Hp) : codeF P J G cf (nT P 36) (atC P 36 [1, 1, 0, 1, 0, 0]) (.sq none .nl (.sq none (.cd .nl .nl) (.sq (some [0, 1, 22, 23, 24]) (.bl none (.sq (some [0, 1, 5, 6, 22, 23, 24]) .nl (.sq (some [0, 1, 5, 6, 22, 23, 24]) (.sq none .nl (.cd (.sq none .nl .nl) .nl)) (.sq none .nl (.sq (some [0, 1, 5, 6, 7, 8, 9, 22, 23, 24]) .nl (.sq none (.sq none .nl (.cd (.sq none .nl .nl) .nl)) (.sq (some [0, 1, 5, 7, 8, 10, 11, 22, 23, 24]) .nl (.sq none .nl (.sq (some [0, 1, 5, 7, 8, 10, 11, 22, 23, 24]) .nl (.sq (some [0, 1, 5, 7, 8, 11, 22, 23, 24]) .nl (.sq none .nl (.cd (.sq (some [0, 7, 11]) (.sq (some [0, 7, 11, 12]) .nl (.sq none .nl (.cd (.sq none .nl .nl) .nl))) (.sq none .nl .nl)) .nl)))))))))))) .nl))) (fun t H => app 5 j14 (vals [0, 1, 22, 23, 24] t) H) (fun q t H => match Nat.beq q 0 with | true => app 0 j13 (vals [] t) H | false => (fun _ _ _ => none) q t H) (retK P 36) (mkT (nT P 36) [0, 1, 22, 23, 24] [x15, x16, x17, x18, x19]) h20 =
(B1 (ilt x19 x18) fun v21 =>
 CD v21 (
 J 5 (fun j22 =>
 J 7 (fun j23 =>
 B1 (ia 1 x17 x19) fun v24 =>
 B1 (ld v24 h20) fun v25 =>
 j23 x15 x16 x19 v25 x17 x18 x19 h20) (fun x26 x27 x28 x29 x30 x31 x32 h33 =>
 J 7 (fun j34 =>
 B2 (cf (.func (.func 16) [] []) [x26] h33) fun v35 h36 =>
 B1 (ine x29 v35) fun v37 =>
 CD v37 (
 B1 (sll 1 x27 (some x28) none none) fun v38 =>
 B2 (cf (.func (.func 50) [] []) [x26, v38] h36) fun v39 h40 =>
 some (v39, h40)) (
 j34 x26 x27 x28 x29 x30 x31 x32 h36)) (fun x41 x42 x43 x44 x45 x46 x47 h48 =>
 B1 (fl [(.int .i64 0), (.int .i64 0)] [(0, 1, x44)]) fun l49 =>
 BN (newCells h48 [(.int .i64 0), (.int .i64 0)] 66 0) fun i50 h51 =>
 B1 (st 2 (.ptr i50 0) (.agg l49) h51) fun h52 =>
 J 10 (fun j53 =>
 B1 (nilA x41) fun v54 =>
 B1 (fa 0 v54) fun v55 =>
 B1 (ld v55 h52) fun v56 =>
 B1 (lda 2 (.ptr i50 0) h52) fun v57 =>
 B2 (cf (.func (.func 28) [] []) [v57] h52) fun v58 h59 =>
 B2 (cf (.func (.func 51) [] []) [v56, v58] h59) fun v60 h61 =>
 B1 (ex 0 v60) fun v62 =>
 B1 (ex 1 v60) fun v63 =>
 B1 (ld v55 h59) fun v64 =>
 SM v56 v64 <|
 j53 x41 x42 x43 x44 (.ptr i50 0) v62 v63 x45 x46 x47 h61) (fun x65 x66 x67 x68 x69 x70 x71 x72 x73 x74 h75 =>
 B1 (ine x71 (.int .i64 0)) fun v76 =>
 CD v76 (
 some (x71, h75)) (
 J 10 (fun j77 =>
 B2 (cf (.func (.func 22) [] []) [x65] h75) fun v78 h79 =>
 B2 (cf (.func (.func 52) [] []) [x70, x68, v78] h79) fun v80 h81 =>
 B1 (ex 0 v80) fun v82 =>
 B1 (ex 1 v80) fun v83 =>
 j77 x65 x66 x67 x69 x70 v82 v83 x72 x73 x74 h81) (fun x84 x85 x86 x87 x88 x89 x90 x91 x92 x93 h94 =>
 B1 (fa 1 x87) fun v95 =>
 B1 (st 1 v95 x90 h94) fun h96 =>
 J 10 (fun j97 =>
 B1 (nilA x84) fun v98 =>
 B1 (fa 2 v98) fun v99 =>
 B1 (ld v99 h96) fun v100 =>
 B1 (lda 2 x87 h96) fun v101 =>
 B1 (fl [(.int .i64 0), (.int .i64 0)] [(0, 2, v101)]) fun l102 =>
 BN (newCells h96 l102 66 0) fun i103 h104 =>
 B2 (app' 66 2 [(.int .i64 0), (.int .i64 0)] false v100 (.slice i103 0 1 1 true 2) h104) fun v105 h106 =>
 B1 (nilA x84) fun v107 =>
 B1 (fa 2 v107) fun v108 =>
 B1 (st 1 v108 v105 h106) fun h109 =>
 B1 (ld v99 h104) fun v110 =>
 SM v100 v110 <|
 j97 x84 x85 x86 x87 x88 x89 x90 x91 x92 x93 h109) (fun x111 x112 x113 x114 x115 x116 x117 x118 x119 x120 h121 =>
 J 9 (fun j122 =>
 B1 (nilA x111) fun v123 =>
 B1 (fa 3 v123) fun v124 =>
 B1 (ld v124 h121) fun v125 =>
 B2 (app' 37 2 [(.int .u64 0), .slice0] false v125 x116 h121) fun v126 h127 =>
 B1 (nilA x111) fun v128 =>
 B1 (fa 3 v128) fun v129 =>
 B1 (st 1 v129 v126 h127) fun h130 =>
 j122 x111 x112 x113 x114 x115 x117 x118 x119 x120 h130) (fun x131 x132 x133 x134 x135 x136 x137 x138 x139 h140 =>
 B1 (lenx x135) fun v141 =>
 B1 (ilt x136 v141) fun v142 =>
 CD v142 (
 J 3 (fun j143 =>
 J 4 (fun j144 =>
 B1 (iadd x133 (.int .i64 1)) fun v145 =>
 B1 (sll 1 x132 (some v145) none none) fun v146 =>
 B2 (cf (.func (.func 50) [] []) [x131, v146] h140) fun v147 h148 =>
 j144 x131 x134 x136 v147 h148) (fun x149 x150 x151 x152 h153 =>
 B1 (ine x152 (.int .i64 0)) fun v154 =>
 CD v154 (
 some (x152, h153)) (
 j143 x149 x150 x151 h153))) (fun x155 x156 x157 h158 =>
 B1 (nilA x155) fun v159 =>
 B1 (fa 0 v159) fun v160 =>
 B1 (ld v160 h158) fun v161 =>
 B1 (lda 2 x156 h158) fun v162 =>
 B2 (cf (.func (.func 28) [] []) [v162] h158) fun v163 h164 =>
 B2 (cf (.func (.func 31) [] []) [v161, v163, x157] h164) fun v165 h166 =>
 B1 (ld v160 h164) fun v167 =>
 SM v161 v167 <|
 some (v165, h166))) (
 j22 x131 x132 x137 x138 x139 h140))))))))) (fun x168 x169 x170 x171 x172 h173 =>
 B1 (iadd x172 (.int .i64 1)) fun v174 =>
 j14 x168 x169 x170 x171 v174 h173)) (
 j13  h20)) := by kernel_rfl

theorem dl_wal_Log_read (J : JT) (G : GT) (cf : CF) (j13 : K.Fn 0) : l_wal_Log_read J G cf j13 = loopF P J G cf (nT P 36) (atC P 36 [1, 1, 0, 1, 0, 0]) (.sq none .nl (.sq none (.cd .nl .nl) (.sq (some [0, 1, 22, 23, 24]) (.bl none (.sq (some [0, 1, 5, 6, 22, 23, 24]) .nl (.sq (some [0, 1, 5, 6, 22, 23, 24]) (.sq none .nl (.cd (.sq none .nl .nl) .nl)) (.sq none .nl (.sq (some [0, 1, 5, 6, 7, 8, 9, 22, 23, 24]) .nl (.sq none (.sq none .nl (.cd (.sq none .nl .nl) .nl)) (.sq (some [0, 1, 5, 7, 8, 10, 11, 22, 23, 24]) .nl (.sq none .nl (.sq (some [0, 1, 5, 7, 8, 10, 11, 22, 23, 24]) .nl (.sq (some [0, 1, 5, 7, 8, 11, 22, 23, 24]) .nl (.sq none .nl (.cd (.sq (some [0, 7, 11]) (.sq (some [0, 7, 11, 12]) .nl (.sq none .nl (.cd (.sq none .nl .nl) .nl))) (.sq none .nl .nl)) .nl)))))))))))) .nl))) [0, 1, 22, 23, 24] (fun q t H => match Nat.beq q 0 with | true => app 0 j13 (vals [] t) H | false => (fun _ _ _ => none) q t H) (retK P 36) := by
  unfold l_wal_Log_read loopF
  refine congrArg (LP 5) ?_
  funext j14 x15 x16 x17 x18 x19 h20
  exact (rl_wal_Log_read J G cf j13 j14 x15 x16 x17 x18 x19 h20).symm

theorem ql_wal_Log_read (cf : CF) (j13 : K.Fn 0) (x15 x16 x17 x18 x19 : AV) (h20 : Hp) : l_wal_Log_read JN GO cf j13 x15 x16 x17 x18 x19 h20 =

 B1 (ilt x19 x18) fun v21 =>
 CD v21 (
 JN 5 (fun j22 =>
 JN 7 (fun j23 =>
 B1 (ia 1 x17 x19) fun v24 =>
 B1 (ld v24 h20) fun v25 =>
 j23 x15 x16 x19 v25 x17 x18 x19 h20) (fun x26 x27 x28 x29 x30 x31 x32 h33 =>
 JN 7 (fun j34 =>
 B2 (cf (.func (.func 16) [] []) [x26] h33) fun v35 h36 =>
 B1 (ine x29 v35) fun v37 =>
 CD v37 (
 B1 (sll 1 x27 (some x28) none none) fun v38 =>
 B2 (cf (.func (.func 50) [] []) [x26, v38] h36) fun v39 h40 =>
 some (v39, h40)) (
 j34 x26 x27 x28 x29 x30 x31 x32 h36)) (fun x41 x42 x43 x44 x45 x46 x47 h48 =>
 B1 (fl [(.int .i64 0), (.int .i64 0)] [(0, 1, x44)]) fun l49 =>
 BN (newCells h48 [(.int .i64 0), (.int .i64 0)] 66 0) fun i50 h51 =>
 B1 (st 2 (.ptr i50 0) (.agg l49) h51) fun h52 =>
 JN 10 (fun j53 =>
 B1 (nilA x41) fun v54 =>
 B1 (fa 0 v54) fun v55 =>
 B1 (ld v55 h52) fun v56 =>
 B1 (lda 2 (.ptr i50 0) h52) fun v57 =>
 B2 (cf (.func (.func 28) [] []) [v57] h52) fun v58 h59 =>
 B2 (cf (.func (.func 51) [] []) [v56, v58] h59) fun v60 h61 =>
 B1 (ex 0 v60) fun v62 =>
 B1 (ex 1 v60) fun v63 =>
 B1 (ld v55 h59) fun v64 =>
 SM v56 v64 <|
 j53 x41 x42 x43 x44 (.ptr i50 0) v62 v63 x45 x46 x47 h61) (fun x65 x66 x67 x68 x69 x70 x71 x72 x73 x74 h75 =>
 B1 (ine x71 (.int .i64 0)) fun v76 =>
 CD v76 (
 some (x71, h75)) (
 JN 10 (fun j77 =>
 B2 (cf (.func (.func 22) [] []) [x65] h75) fun v78 h79 =>
 B2 (cf (.func (.func 52) [] []) [x70, x68, v78] h79) fun v80 h81 =>
 B1 (ex 0 v80) fun v82 =>
 B1 (ex 1 v80) fun v83 =>
 j77 x65 x66 x67 x69 x70 v82 v83 x72 x73 x74 h81) (fun x84 x85 x86 x87 x88 x89 x90 x91 x92 x93 h94 =>
 B1 (fa 1 x87) fun v95 =>
 B1 (st 1 v95 x90 h94) fun h96 =>
 JN 10 (fun j97 =>
 B1 (nilA x84) fun v98 =>
 B1 (fa 2 v98) fun v99 =>
 B1 (ld v99 h96) fun v100 =>
 B1 (lda 2 x87 h96) fun v101 =>
 B1 (fl [(.int .i64 0), (.int .i64 0)] [(0, 2, v101)]) fun l102 =>
 BN (newCells h96 l102 66 0) fun i103 h104 =>
 B2 (app' 66 2 [(.int .i64 0), (.int .i64 0)] false v100 (.slice i103 0 1 1 true 2) h104) fun v105 h106 =>
 B1 (nilA x84) fun v107 =>
 B1 (fa 2 v107) fun v108 =>
 B1 (st 1 v108 v105 h106) fun h109 =>
 B1 (ld v99 h104) fun v110 =>
 SM v100 v110 <|
 j97 x84 x85 x86 x87 x88 x89 x90 x91 x92 x93 h109) (fun x111 x112 x113 x114 x115 x116 x117 x118 x119 x120 h121 =>
 JN 9 (fun j122 =>
 B1 (nilA x111) fun v123 =>
 B1 (fa 3 v123) fun v124 =>
 B1 (ld v124 h121) fun v125 =>
 B2 (app' 37 2 [(.int .u64 0), .slice0] false v125 x116 h121) fun v126 h127 =>
 B1 (nilA x111) fun v128 =>
 B1 (fa 3 v128) fun v129 =>
 B1 (st 1 v129 v126 h127) fun h130 =>
 j122 x111 x112 x113 x114 x115 x117 x118 x119 x120 h130) (fun x131 x132 x133 x134 x135 x136 x137 x138 x139 h140 =>
 B1 (lenx x135) fun v141 =>
 B1 (ilt x136 v141) fun v142 =>
 CD v142 (
 JN 3 (fun j143 =>
 JN 4 (fun j144 =>
 B1 (iadd x133 (.int .i64 1)) fun v145 =>
 B1 (sll 1 x132 (some v145) none none) fun v146 =>
 B2 (cf (.func (.func 50) [] []) [x131, v146] h140) fun v147 h148 =>
 j144 x131 x134 x136 v147 h148) (fun x149 x150 x151 x152 h153 =>
 B1 (ine x152 (.int .i64 0)) fun v154 =>
 CD v154 (
 some (x152, h153)) (
 j143 x149 x150 x151 h153))) (fun x155 x156 x157 h158 =>
 B1 (nilA x155) fun v159 =>
 B1 (fa 0 v159) fun v160 =>
 B1 (ld v160 h158) fun v161 =>
 B1 (lda 2 x156 h158) fun v162 =>
 B2 (cf (.func (.func 28) [] []) [v162] h158) fun v163 h164 =>
 B2 (cf (.func (.func 31) [] []) [v161, v163, x157] h164) fun v165 h166 =>
 B1 (ld v160 h164) fun v167 =>
 SM v161 v167 <|
 some (v165, h166))) (
 j22 x131 x132 x137 x138 x139 h140))))))))) (fun x168 x169 x170 x171 x172 h173 =>
 B1 (iadd x172 (.int .i64 1)) fun v174 =>
 l_wal_Log_read JN GO cf j13 x168 x169 x170 x171 v174 h173)) (
 j13  h20) := by
  have h1 : l_wal_Log_read JN GO cf j13 x15 x16 x17 x18 x19 h20 = app 5 (loopF P JN GO cf (nT P 36) (atC P 36 [1, 1, 0, 1, 0, 0]) (.sq none .nl (.sq none (.cd .nl .nl) (.sq (some [0, 1, 22, 23, 24]) (.bl none (.sq (some [0, 1, 5, 6, 22, 23, 24]) .nl (.sq (some [0, 1, 5, 6, 22, 23, 24]) (.sq none .nl (.cd (.sq none .nl .nl) .nl)) (.sq none .nl (.sq (some [0, 1, 5, 6, 7, 8, 9, 22, 23, 24]) .nl (.sq none (.sq none .nl (.cd (.sq none .nl .nl) .nl)) (.sq (some [0, 1, 5, 7, 8, 10, 11, 22, 23, 24]) .nl (.sq none .nl (.sq (some [0, 1, 5, 7, 8, 10, 11, 22, 23, 24]) .nl (.sq (some [0, 1, 5, 7, 8, 11, 22, 23, 24]) .nl (.sq none .nl (.cd (.sq (some [0, 7, 11]) (.sq (some [0, 7, 11, 12]) .nl (.sq none .nl (.cd (.sq none .nl .nl) .nl))) (.sq none .nl .nl)) .nl)))))))))))) .nl))) [0, 1, 22, 23, 24] (fun q t H => match Nat.beq q 0 with | true => app 0 j13 (vals [] t) H | false => (fun _ _ _ => none) q t H) (retK P 36)) [x15, x16, x17, x18, x19] h20 := by rw [dl_wal_Log_read]; kernel_rfl
  refine h1.trans ((loopF_eq (P := P) cf (nT P 36) (atC P 36 [1, 1, 0, 1, 0, 0]) (.sq none .nl (.sq none (.cd .nl .nl) (.sq (some [0, 1, 22, 23, 24]) (.bl none (.sq (some [0, 1, 5, 6, 22, 23, 24]) .nl (.sq (some [0, 1, 5, 6, 22, 23, 24]) (.sq none .nl (.cd (.sq none .nl .nl) .nl)) (.sq none .nl (.sq (some [0, 1, 5, 6, 7, 8, 9, 22, 23, 24]) .nl (.sq none (.sq none .nl (.cd (.sq none .nl .nl) .nl)) (.sq (some [0, 1, 5, 7, 8, 10, 11, 22, 23, 24]) .nl (.sq none .nl (.sq (some [0, 1, 5, 7, 8, 10, 11, 22, 23, 24]) .nl (.sq (some [0, 1, 5, 7, 8, 11, 22, 23, 24]) .nl (.sq none .nl (.cd (.sq (some [0, 7, 11]) (.sq (some [0, 7, 11, 12]) .nl (.sq none .nl (.cd (.sq none .nl .nl) .nl))) (.sq none .nl .nl)) .nl)))))))))))) .nl))) [0, 1, 22, 23, 24] (fun q t H => match Nat.beq q 0 with | true => app 0 j13 (vals [] t) H | false => (fun _ _ _ => none) q t H) (retK P 36) [x15, x16, x17, x18, x19] rfl h20).trans ((rl_wal_Log_read JN GO cf j13 _ x15 x16 x17 x18 x19 h20).trans ?_))
  rw [dl_wal_Log_read]

noncomputable def s_wal_Log_read (J : JT) (G : GT) (cf : CF) (a0 a1 : AV) (H : Hp) : R :=
 J 2 (fun j0 =>
 B1 (lenx a1) fun v1 =>
 B1 (igt v1 (.int .i64 0)) fun v2 =>
 CD v2 (
 B1 (ia 1 a1 (.int .i64 0)) fun v3 =>
 B1 (ld v3 H) fun v4 =>
 B1 (nilA a0) fun v5 =>
 B1 (fa 4 v5) fun v6 =>
 B1 (st 1 v6 v4 H) fun h7 =>
 j0 a0 a1 h7) (
 j0 a0 a1 H)) (fun x8 x9 h10 =>
 J 0 (fun j11 =>
 B1 (lenx x9) fun v12 =>
 J 0 (fun j13 =>
 l_wal_Log_read J G cf j13 x8 x9 x9 v12 (.int .i64 0) h10) (fun  h175 =>
 j11  h175)) (fun  h176 =>
 some ((.int .i64 0), h176)))

theorem e_wal_Log_read (J : JT) (G : GT) (cf : CF) (a0 a1 : AV) (H : Hp) : callF P J G prim an cf 36 [a0, a1] H = s_wal_Log_read J G cf a0 a1 H := by kernel_rfl

theorem c_wal_Log_read {a0 a1 : AV} {H : Hp} {r : AV × Hp} (h : s_wal_Log_read JN GO cK a0 a1 H = some r) : cK (.func (.func 36) [] []) [a0, a1] H = some r := callF_fix (first := []) (cap := []) ((e_wal_Log_read JN GO _ a0 a1 H).trans h)

noncomputable def s__wal_part_name (J : JT) (G : GT) (cf : CF) (a0 : AV) (H : Hp) : R :=
 BN (bx 66 a0 H) fun i0 h1 =>
 J 1 (fun j2 =>
 B1 (fa 0 (.ptr i0 0)) fun v3 =>
 B1 (ld v3 h1) fun v4 =>
 B2 (cf (.func (.func 46) [] []) [v4] h1) fun v5 h6 =>
 B1 (ex 0 v5) fun v7 =>
 B1 (ex 1 v5) fun v8 =>
 j2 v7 h6) (fun x9 h10 =>
 some (x9, h10))

theorem e__wal_part_name (J : JT) (G : GT) (cf : CF) (a0 : AV) (H : Hp) : callF P J G prim an cf 28 [a0] H = s__wal_part_name J G cf a0 H := by kernel_rfl

theorem c__wal_part_name {a0 : AV} {H : Hp} {r : AV × Hp} (h : s__wal_part_name JN GO cK a0 H = some r) : cK (.func (.func 28) [] []) [a0] H = some r := callF_fix (first := []) (cap := []) ((e__wal_part_name JN GO _ a0 H).trans h)

noncomputable def l_outriderlaw7_WalSince (J : JT) (G : GT) (cf : CF) (j44 : K.Fn 4) : K.Fn 5 := LP 5 fun j45 => fun x46 x47 x48 x49 x50 h51 =>
 B1 (lenx x46) fun v52 =>
 B1 (ilt x50 v52) fun v53 =>
 CD v53 (
 J 5 (fun j54 =>
 J 5 (fun j55 =>
 J 6 (fun j56 =>
 B1 (ia 1 x46 x50) fun v57 =>
 B1 (ld v57 h51) fun v58 =>
 B1 (lenx v58) fun v59 =>
 B1 (igt v59 (.int .i64 100)) fun v60 =>
 j56 x46 x47 x48 x49 x50 v60 h51) (fun x61 x62 x63 x64 x65 x66 h67 =>
 CD x66 (
 some ((.bool true), h67)) (
 j55 x61 x62 x63 x64 x65 h67))) (fun x68 x69 x70 x71 x72 h73 =>
 J 6 (fun j74 =>
 B1 (ia 1 x68 x72) fun v75 =>
 B1 (ld v75 h73) fun v76 =>
 B2 (cf (.func (.func 8) [] []) [x71, (.int .i64 1), v76] h73) fun v77 h78 =>
 B1 (ex 0 v77) fun v79 =>
 B1 (ex 1 v77) fun v80 =>
 j74 x68 x69 x70 x71 x72 v80 h78) (fun x81 x82 x83 x84 x85 x86 h87 =>
 B1 (ine x86 (.int .i64 0)) fun v88 =>
 CD v88 (
 some ((.bool false), h87)) (
 j54 x81 x82 x83 x84 x85 h87)))) (fun x89 x90 x91 x92 x93 h94 =>
 B1 (iadd x93 (.int .i64 1)) fun v95 =>
 j45 x89 x90 x91 x92 v95 h94)) (
 j44 x46 x47 x48 x49 h51)

theorem rl_outriderlaw7_WalSince (J : JT) (G : GT) (cf : CF) (j44 : K.Fn 4) (j45 : K.Fn 5) (x46 x47 x48 x49 x50 : AV) (h51 : Hp) : codeF P J G cf (nT P 3) (atC P 3 [1, 1, 1, 1, 1, 0, 1, 0, 0]) (.sq none (.sq none .nl (.cd .nl .nl)) (.sq (some [0, 1, 2, 7, 9]) (.bl none (.sq (some [0, 1, 2, 7, 9]) (.sq (some [0, 1, 2, 7, 9, 48]) .nl (.cd (.sq none .nl .nl) .nl)) (.sq (some [0, 1, 2, 7, 9, 11]) .nl (.sq none .nl (.cd (.sq none .nl .nl) .nl))))) .nl)) (fun t H => app 5 j45 (vals [0, 1, 2, 7, 9] t) H) (fun q t H => match Nat.beq q 0 with | true => app 4 j44 (vals [0, 1, 2, 7] t) H | false => (fun _ _ _ => none) q t H) (retK P 3) (mkT (nT P 3) [0, 1, 2, 7, 9] [x46, x47, x48, x49, x50]) h51 =
(B1 (lenx x46) fun v52 =>
 B1 (ilt x50 v52) fun v53 =>
 CD v53 (
 J 5 (fun j54 =>
 J 5 (fun j55 =>
 J 6 (fun j56 =>
 B1 (ia 1 x46 x50) fun v57 =>
 B1 (ld v57 h51) fun v58 =>
 B1 (lenx v58) fun v59 =>
 B1 (igt v59 (.int .i64 100)) fun v60 =>
 j56 x46 x47 x48 x49 x50 v60 h51) (fun x61 x62 x63 x64 x65 x66 h67 =>
 CD x66 (
 some ((.bool true), h67)) (
 j55 x61 x62 x63 x64 x65 h67))) (fun x68 x69 x70 x71 x72 h73 =>
 J 6 (fun j74 =>
 B1 (ia 1 x68 x72) fun v75 =>
 B1 (ld v75 h73) fun v76 =>
 B2 (cf (.func (.func 8) [] []) [x71, (.int .i64 1), v76] h73) fun v77 h78 =>
 B1 (ex 0 v77) fun v79 =>
 B1 (ex 1 v77) fun v80 =>
 j74 x68 x69 x70 x71 x72 v80 h78) (fun x81 x82 x83 x84 x85 x86 h87 =>
 B1 (ine x86 (.int .i64 0)) fun v88 =>
 CD v88 (
 some ((.bool false), h87)) (
 j54 x81 x82 x83 x84 x85 h87)))) (fun x89 x90 x91 x92 x93 h94 =>
 B1 (iadd x93 (.int .i64 1)) fun v95 =>
 j45 x89 x90 x91 x92 v95 h94)) (
 j44 x46 x47 x48 x49 h51)) := by kernel_rfl

theorem dl_outriderlaw7_WalSince (J : JT) (G : GT) (cf : CF) (j44 : K.Fn 4) : l_outriderlaw7_WalSince J G cf j44 = loopF P J G cf (nT P 3) (atC P 3 [1, 1, 1, 1, 1, 0, 1, 0, 0]) (.sq none (.sq none .nl (.cd .nl .nl)) (.sq (some [0, 1, 2, 7, 9]) (.bl none (.sq (some [0, 1, 2, 7, 9]) (.sq (some [0, 1, 2, 7, 9, 48]) .nl (.cd (.sq none .nl .nl) .nl)) (.sq (some [0, 1, 2, 7, 9, 11]) .nl (.sq none .nl (.cd (.sq none .nl .nl) .nl))))) .nl)) [0, 1, 2, 7, 9] (fun q t H => match Nat.beq q 0 with | true => app 4 j44 (vals [0, 1, 2, 7] t) H | false => (fun _ _ _ => none) q t H) (retK P 3) := by
  unfold l_outriderlaw7_WalSince loopF
  refine congrArg (LP 5) ?_
  funext j45 x46 x47 x48 x49 x50 h51
  exact (rl_outriderlaw7_WalSince J G cf j44 j45 x46 x47 x48 x49 x50 h51).symm

theorem ql_outriderlaw7_WalSince (cf : CF) (j44 : K.Fn 4) (x46 x47 x48 x49 x50 : AV) (h51 : Hp) : l_outriderlaw7_WalSince JN GO cf j44 x46 x47 x48 x49 x50 h51 =

 B1 (lenx x46) fun v52 =>
 B1 (ilt x50 v52) fun v53 =>
 CD v53 (
 JN 5 (fun j54 =>
 JN 5 (fun j55 =>
 JN 6 (fun j56 =>
 B1 (ia 1 x46 x50) fun v57 =>
 B1 (ld v57 h51) fun v58 =>
 B1 (lenx v58) fun v59 =>
 B1 (igt v59 (.int .i64 100)) fun v60 =>
 j56 x46 x47 x48 x49 x50 v60 h51) (fun x61 x62 x63 x64 x65 x66 h67 =>
 CD x66 (
 some ((.bool true), h67)) (
 j55 x61 x62 x63 x64 x65 h67))) (fun x68 x69 x70 x71 x72 h73 =>
 JN 6 (fun j74 =>
 B1 (ia 1 x68 x72) fun v75 =>
 B1 (ld v75 h73) fun v76 =>
 B2 (cf (.func (.func 8) [] []) [x71, (.int .i64 1), v76] h73) fun v77 h78 =>
 B1 (ex 0 v77) fun v79 =>
 B1 (ex 1 v77) fun v80 =>
 j74 x68 x69 x70 x71 x72 v80 h78) (fun x81 x82 x83 x84 x85 x86 h87 =>
 B1 (ine x86 (.int .i64 0)) fun v88 =>
 CD v88 (
 some ((.bool false), h87)) (
 j54 x81 x82 x83 x84 x85 h87)))) (fun x89 x90 x91 x92 x93 h94 =>
 B1 (iadd x93 (.int .i64 1)) fun v95 =>
 l_outriderlaw7_WalSince JN GO cf j44 x89 x90 x91 x92 v95 h94)) (
 j44 x46 x47 x48 x49 h51) := by
  have h1 : l_outriderlaw7_WalSince JN GO cf j44 x46 x47 x48 x49 x50 h51 = app 5 (loopF P JN GO cf (nT P 3) (atC P 3 [1, 1, 1, 1, 1, 0, 1, 0, 0]) (.sq none (.sq none .nl (.cd .nl .nl)) (.sq (some [0, 1, 2, 7, 9]) (.bl none (.sq (some [0, 1, 2, 7, 9]) (.sq (some [0, 1, 2, 7, 9, 48]) .nl (.cd (.sq none .nl .nl) .nl)) (.sq (some [0, 1, 2, 7, 9, 11]) .nl (.sq none .nl (.cd (.sq none .nl .nl) .nl))))) .nl)) [0, 1, 2, 7, 9] (fun q t H => match Nat.beq q 0 with | true => app 4 j44 (vals [0, 1, 2, 7] t) H | false => (fun _ _ _ => none) q t H) (retK P 3)) [x46, x47, x48, x49, x50] h51 := by rw [dl_outriderlaw7_WalSince]; kernel_rfl
  refine h1.trans ((loopF_eq (P := P) cf (nT P 3) (atC P 3 [1, 1, 1, 1, 1, 0, 1, 0, 0]) (.sq none (.sq none .nl (.cd .nl .nl)) (.sq (some [0, 1, 2, 7, 9]) (.bl none (.sq (some [0, 1, 2, 7, 9]) (.sq (some [0, 1, 2, 7, 9, 48]) .nl (.cd (.sq none .nl .nl) .nl)) (.sq (some [0, 1, 2, 7, 9, 11]) .nl (.sq none .nl (.cd (.sq none .nl .nl) .nl))))) .nl)) [0, 1, 2, 7, 9] (fun q t H => match Nat.beq q 0 with | true => app 4 j44 (vals [0, 1, 2, 7] t) H | false => (fun _ _ _ => none) q t H) (retK P 3) [x46, x47, x48, x49, x50] rfl h51).trans ((rl_outriderlaw7_WalSince JN GO cf j44 _ x46 x47 x48 x49 x50 h51).trans ?_))
  rw [dl_outriderlaw7_WalSince]

noncomputable def l_outriderlaw7_WalSince1 (J : JT) (G : GT) (cf : CF) (j159 : K.Fn 0) : K.Fn 5 := LP 5 fun j160 => fun x161 x162 x163 x164 x165 h166 =>
 B1 (lenx x163) fun v167 =>
 B1 (ilt x165 v167) fun v168 =>
 CD v168 (
 J 5 (fun j169 =>
 J 7 (fun j170 =>
 B1 (iadd x164 x165) fun v171 =>
 B2 (cf (.func (.func 10) [] []) [x162, v171] h166) fun v172 h173 =>
 B1 (ex 0 v172) fun v174 =>
 B1 (ex 1 v172) fun v175 =>
 BN (newCells h173 [(.int .u64 0), .slice0] 37 0) fun i176 h177 =>
 B1 (st 2 (.ptr i176 0) v174 h177) fun h178 =>
 j170 x161 x162 x163 x164 x165 (.ptr i176 0) v175 h178) (fun x179 x180 x181 x182 x183 x184 x185 h186 =>
 J 6 (fun j187 =>
 B1 (ine x185 (.int .i64 0)) fun v188 =>
 GD2 v188 false (
 B1 (fa 0 x184) fun v189 =>
 B1 (ld v189 h186) fun v190 =>
 B1 (ia 2 x181 x183) fun v191 =>
 B1 (fa 0 v191) fun v192 =>
 B1 (ld v192 h186) fun v193 =>
 B1 (ine v190 v193) fun v194 =>
 GD2 v194 false (
 B1 (fa 1 x184) fun v195 =>
 B1 (ld v195 h186) fun v196 =>
 B1 (b2s v196 h186) fun v197 =>
 B1 (ia 2 x181 x183) fun v198 =>
 B1 (fa 1 v198) fun v199 =>
 B1 (ld v199 h186) fun v200 =>
 B1 (b2s v200 h186) fun v201 =>
 B1 (sne v197 v201) fun v202 =>
 GD2 v202 false (
 B1 (fa 1 x184) fun v203 =>
 B1 (ld v203 h186) fun v204 =>
 B1 (b2s v204 h186) fun v205 =>
 B1 (iadd x182 x183) fun v206 =>
 B1 (ia 1 x179 v206) fun v207 =>
 B1 (ld v207 h186) fun v208 =>
 B1 (b2s v208 h186) fun v209 =>
 B1 (sne v205 v209) fun v210 =>
 j187 x179 x180 x181 x182 x183 v210 h186) (
 j187 x179 x180 x181 x182 x183 (.bool true) h186)) (
 j187 x179 x180 x181 x182 x183 (.bool true) h186)) (
 j187 x179 x180 x181 x182 x183 (.bool true) h186)) (fun x211 x212 x213 x214 x215 x216 h217 =>
 CD x216 (
 some ((.bool false), h217)) (
 j169 x211 x212 x213 x214 x215 h217)))) (fun x218 x219 x220 x221 x222 h223 =>
 B1 (iadd x222 (.int .i64 1)) fun v224 =>
 j160 x218 x219 x220 x221 v224 h223)) (
 j159  h166)

theorem rl_outriderlaw7_WalSince1 (J : JT) (G : GT) (cf : CF) (j159 : K.Fn 0) (j160 : K.Fn 5) (x161 x162 x163 x164 x165 : AV) (h166 : Hp) : codeF P J G cf (nT P 3) (atC P 3 [1, 1, 1, 1, 1, 1, 1, 1, 1, 1, 1, 1, 1, 0, 1, 0, 0]) (.sq none (.sq none .nl (.cd .nl .nl)) (.sq (some [0, 7, 12, 13, 15]) (.bl none (.sq (some [0, 7, 12, 13, 15, 16, 17]) .nl (.sq (some [0, 7, 12, 13, 15, 131]) .nl (.cd (.sq none .nl .nl) .nl)))) .nl)) (fun t H => app 5 j160 (vals [0, 7, 12, 13, 15] t) H) (fun q t H => match Nat.beq q 2 with | true => app 0 j159 (vals [] t) H | false => (fun _ _ _ => none) q t H) (retK P 3) (mkT (nT P 3) [0, 7, 12, 13, 15] [x161, x162, x163, x164, x165]) h166 =
(B1 (lenx x163) fun v167 =>
 B1 (ilt x165 v167) fun v168 =>
 CD v168 (
 J 5 (fun j169 =>
 J 7 (fun j170 =>
 B1 (iadd x164 x165) fun v171 =>
 B2 (cf (.func (.func 10) [] []) [x162, v171] h166) fun v172 h173 =>
 B1 (ex 0 v172) fun v174 =>
 B1 (ex 1 v172) fun v175 =>
 BN (newCells h173 [(.int .u64 0), .slice0] 37 0) fun i176 h177 =>
 B1 (st 2 (.ptr i176 0) v174 h177) fun h178 =>
 j170 x161 x162 x163 x164 x165 (.ptr i176 0) v175 h178) (fun x179 x180 x181 x182 x183 x184 x185 h186 =>
 J 6 (fun j187 =>
 B1 (ine x185 (.int .i64 0)) fun v188 =>
 GD2 v188 false (
 B1 (fa 0 x184) fun v189 =>
 B1 (ld v189 h186) fun v190 =>
 B1 (ia 2 x181 x183) fun v191 =>
 B1 (fa 0 v191) fun v192 =>
 B1 (ld v192 h186) fun v193 =>
 B1 (ine v190 v193) fun v194 =>
 GD2 v194 false (
 B1 (fa 1 x184) fun v195 =>
 B1 (ld v195 h186) fun v196 =>
 B1 (b2s v196 h186) fun v197 =>
 B1 (ia 2 x181 x183) fun v198 =>
 B1 (fa 1 v198) fun v199 =>
 B1 (ld v199 h186) fun v200 =>
 B1 (b2s v200 h186) fun v201 =>
 B1 (sne v197 v201) fun v202 =>
 GD2 v202 false (
 B1 (fa 1 x184) fun v203 =>
 B1 (ld v203 h186) fun v204 =>
 B1 (b2s v204 h186) fun v205 =>
 B1 (iadd x182 x183) fun v206 =>
 B1 (ia 1 x179 v206) fun v207 =>
 B1 (ld v207 h186) fun v208 =>
 B1 (b2s v208 h186) fun v209 =>
 B1 (sne v205 v209) fun v210 =>
 j187 x179 x180 x181 x182 x183 v210 h186) (
 j187 x179 x180 x181 x182 x183 (.bool true) h186)) (
 j187 x179 x180 x181 x182 x183 (.bool true) h186)) (
 j187 x179 x180 x181 x182 x183 (.bool true) h186)) (fun x211 x212 x213 x214 x215 x216 h217 =>
 CD x216 (
 some ((.bool false), h217)) (
 j169 x211 x212 x213 x214 x215 h217)))) (fun x218 x219 x220 x221 x222 h223 =>
 B1 (iadd x222 (.int .i64 1)) fun v224 =>
 j160 x218 x219 x220 x221 v224 h223)) (
 j159  h166)) := by kernel_rfl

theorem dl_outriderlaw7_WalSince1 (J : JT) (G : GT) (cf : CF) (j159 : K.Fn 0) : l_outriderlaw7_WalSince1 J G cf j159 = loopF P J G cf (nT P 3) (atC P 3 [1, 1, 1, 1, 1, 1, 1, 1, 1, 1, 1, 1, 1, 0, 1, 0, 0]) (.sq none (.sq none .nl (.cd .nl .nl)) (.sq (some [0, 7, 12, 13, 15]) (.bl none (.sq (some [0, 7, 12, 13, 15, 16, 17]) .nl (.sq (some [0, 7, 12, 13, 15, 131]) .nl (.cd (.sq none .nl .nl) .nl)))) .nl)) [0, 7, 12, 13, 15] (fun q t H => match Nat.beq q 2 with | true => app 0 j159 (vals [] t) H | false => (fun _ _ _ => none) q t H) (retK P 3) := by
  unfold l_outriderlaw7_WalSince1 loopF
  refine congrArg (LP 5) ?_
  funext j160 x161 x162 x163 x164 x165 h166
  exact (rl_outriderlaw7_WalSince1 J G cf j159 j160 x161 x162 x163 x164 x165 h166).symm

theorem ql_outriderlaw7_WalSince1 (cf : CF) (j159 : K.Fn 0) (x161 x162 x163 x164 x165 : AV) (h166 : Hp) : l_outriderlaw7_WalSince1 JN GO cf j159 x161 x162 x163 x164 x165 h166 =

 B1 (lenx x163) fun v167 =>
 B1 (ilt x165 v167) fun v168 =>
 CD v168 (
 JN 5 (fun j169 =>
 JN 7 (fun j170 =>
 B1 (iadd x164 x165) fun v171 =>
 B2 (cf (.func (.func 10) [] []) [x162, v171] h166) fun v172 h173 =>
 B1 (ex 0 v172) fun v174 =>
 B1 (ex 1 v172) fun v175 =>
 BN (newCells h173 [(.int .u64 0), .slice0] 37 0) fun i176 h177 =>
 B1 (st 2 (.ptr i176 0) v174 h177) fun h178 =>
 j170 x161 x162 x163 x164 x165 (.ptr i176 0) v175 h178) (fun x179 x180 x181 x182 x183 x184 x185 h186 =>
 JN 6 (fun j187 =>
 B1 (ine x185 (.int .i64 0)) fun v188 =>
 GD2 v188 false (
 B1 (fa 0 x184) fun v189 =>
 B1 (ld v189 h186) fun v190 =>
 B1 (ia 2 x181 x183) fun v191 =>
 B1 (fa 0 v191) fun v192 =>
 B1 (ld v192 h186) fun v193 =>
 B1 (ine v190 v193) fun v194 =>
 GD2 v194 false (
 B1 (fa 1 x184) fun v195 =>
 B1 (ld v195 h186) fun v196 =>
 B1 (b2s v196 h186) fun v197 =>
 B1 (ia 2 x181 x183) fun v198 =>
 B1 (fa 1 v198) fun v199 =>
 B1 (ld v199 h186) fun v200 =>
 B1 (b2s v200 h186) fun v201 =>
 B1 (sne v197 v201) fun v202 =>
 GD2 v202 false (
 B1 (fa 1 x184) fun v203 =>
 B1 (ld v203 h186) fun v204 =>
 B1 (b2s v204 h186) fun v205 =>
 B1 (iadd x182 x183) fun v206 =>
 B1 (ia 1 x179 v206) fun v207 =>
 B1 (ld v207 h186) fun v208 =>
 B1 (b2s v208 h186) fun v209 =>
 B1 (sne v205 v209) fun v210 =>
 j187 x179 x180 x181 x182 x183 v210 h186) (
 j187 x179 x180 x181 x182 x183 (.bool true) h186)) (
 j187 x179 x180 x181 x182 x183 (.bool true) h186)) (
 j187 x179 x180 x181 x182 x183 (.bool true) h186)) (fun x211 x212 x213 x214 x215 x216 h217 =>
 CD x216 (
 some ((.bool false), h217)) (
 j169 x211 x212 x213 x214 x215 h217)))) (fun x218 x219 x220 x221 x222 h223 =>
 B1 (iadd x222 (.int .i64 1)) fun v224 =>
 l_outriderlaw7_WalSince1 JN GO cf j159 x218 x219 x220 x221 v224 h223)) (
 j159  h166) := by
  have h1 : l_outriderlaw7_WalSince1 JN GO cf j159 x161 x162 x163 x164 x165 h166 = app 5 (loopF P JN GO cf (nT P 3) (atC P 3 [1, 1, 1, 1, 1, 1, 1, 1, 1, 1, 1, 1, 1, 0, 1, 0, 0]) (.sq none (.sq none .nl (.cd .nl .nl)) (.sq (some [0, 7, 12, 13, 15]) (.bl none (.sq (some [0, 7, 12, 13, 15, 16, 17]) .nl (.sq (some [0, 7, 12, 13, 15, 131]) .nl (.cd (.sq none .nl .nl) .nl)))) .nl)) [0, 7, 12, 13, 15] (fun q t H => match Nat.beq q 2 with | true => app 0 j159 (vals [] t) H | false => (fun _ _ _ => none) q t H) (retK P 3)) [x161, x162, x163, x164, x165] h166 := by rw [dl_outriderlaw7_WalSince1]; kernel_rfl
  refine h1.trans ((loopF_eq (P := P) cf (nT P 3) (atC P 3 [1, 1, 1, 1, 1, 1, 1, 1, 1, 1, 1, 1, 1, 0, 1, 0, 0]) (.sq none (.sq none .nl (.cd .nl .nl)) (.sq (some [0, 7, 12, 13, 15]) (.bl none (.sq (some [0, 7, 12, 13, 15, 16, 17]) .nl (.sq (some [0, 7, 12, 13, 15, 131]) .nl (.cd (.sq none .nl .nl) .nl)))) .nl)) [0, 7, 12, 13, 15] (fun q t H => match Nat.beq q 2 with | true => app 0 j159 (vals [] t) H | false => (fun _ _ _ => none) q t H) (retK P 3) [x161, x162, x163, x164, x165] rfl h166).trans ((rl_outriderlaw7_WalSince1 JN GO cf j159 _ x161 x162 x163 x164 x165 h166).trans ?_))
  rw [dl_outriderlaw7_WalSince1]

noncomputable def s_outriderlaw7_WalSince (J : JT) (G : GT) (cf : CF) (a0 a1 a2 : AV) (H : Hp) : R :=
 B2 (cf (.func (.func 6) [] []) [] H) fun v0 h1 =>
 B1 (unA .not v0) fun v2 =>
 CD v2 (
 some ((.bool false), h1)) (
 J 3 (fun j3 =>
 J 4 (fun j4 =>
 B1 (lenx a0) fun v5 =>
 B1 (igt v5 (.int .i64 20)) fun v6 =>
 G v6 false (fun k7 =>
 k7 a2 h1) (fun v8 h9 =>
 G v6 false (fun k10 =>
 B1 (ilt v8 (.int .i64 0)) fun v11 =>
 k10 v11 h9) (fun v12 h13 =>
 B1 (pk v6 (.bool true) v12) fun v14 =>
 G v14 false (fun k15 =>
 k15 a2 h13) (fun v16 h17 =>
 G v14 false (fun k18 =>
 B1 (igt v16 (.int .i64 30)) fun v19 =>
 k18 v19 h17) (fun v20 h21 =>
 B1 (pk v14 (.bool true) v20) fun v22 =>
 j4 a0 a1 a2 v22 h21) h17) h13) h9) h1) (fun x23 x24 x25 x26 h27 =>
 CD x26 (
 some ((.bool true), h27)) (
 j3 x23 x24 x25 h27))) (fun x28 x29 x30 h31 =>
 J 4 (fun j32 =>
 B2 (cf (.func (.func 7) [] []) [(.int .i64 100)] h31) fun v33 h34 =>
 B1 (ex 0 v33) fun v35 =>
 B1 (ex 1 v33) fun v36 =>
 j32 x28 x29 x30 v35 h34) (fun x37 x38 x39 x40 h41 =>
 B1 (eqB .eql (pe x40 .ptr0 h41)) fun v42 =>
 CD v42 (
 some ((.bool false), h41)) (
 J 4 (fun j43 =>
 J 4 (fun j44 =>
 l_outriderlaw7_WalSince J G cf j44 x37 x38 x39 x40 (.int .i64 0) h41) (fun x96 x97 x98 x99 h100 =>
 j43 x96 x97 x98 x99 h100)) (fun x101 x102 x103 x104 h105 =>
 J 5 (fun j106 =>
 B2 (cf (.func (.func 9) [] []) [x104, x102, x103] h105) fun v107 h108 =>
 j106 x101 x102 x103 x104 v107 h108) (fun x109 x110 x111 x112 x113 h114 =>
 J 5 (fun j115 =>
 B1 (ilt x110 (.int .i64 0)) fun v116 =>
 CD v116 (
 j115 x109 x111 x112 x113 (.int .i64 0) h114) (
 j115 x109 x111 x112 x113 x110 h114)) (fun x117 x118 x119 x120 x121 h122 =>
 J 6 (fun j123 =>
 B1 (lenx x117) fun v124 =>
 B1 (isub v124 x121) fun v125 =>
 j123 x117 x118 x119 x120 x121 v125 h122) (fun x126 x127 x128 x129 x130 x131 h132 =>
 J 6 (fun j133 =>
 B1 (ilt x131 (.int .i64 0)) fun v134 =>
 CD v134 (
 j133 x126 x127 x128 x129 x130 (.int .i64 0) h132) (
 j133 x126 x127 x128 x129 x130 x131 h132)) (fun x135 x136 x137 x138 x139 x140 h141 =>
 J 5 (fun j142 =>
 B1 (igt x140 x136) fun v143 =>
 CD v143 (
 j142 x135 x137 x138 x139 x136 h141) (
 j142 x135 x137 x138 x139 x140 h141)) (fun x144 x145 x146 x147 x148 h149 =>
 J 4 (fun j150 =>
 B1 (lenx x146) fun v151 =>
 B1 (ine v151 x148) fun v152 =>
 CD v152 (
 some ((.bool false), h149)) (
 j150 x144 x145 x146 x147 h149)) (fun x153 x154 x155 x156 h157 =>
 J 0 (fun j158 =>
 J 0 (fun j159 =>
 l_outriderlaw7_WalSince1 J G cf j159 x153 x154 x155 x156 (.int .i64 0) h157) (fun  h225 =>
 j158  h225)) (fun  h226 =>
 some ((.bool true), h226)))))))))))))

theorem e_outriderlaw7_WalSince (J : JT) (G : GT) (cf : CF) (a0 a1 a2 : AV) (H : Hp) : callF P J G prim an cf 3 [a0, a1, a2] H = s_outriderlaw7_WalSince J G cf a0 a1 a2 H := by kernel_rfl

theorem c_outriderlaw7_WalSince {a0 a1 a2 : AV} {H : Hp} {r : AV × Hp} (h : s_outriderlaw7_WalSince JN GO cK a0 a1 a2 H = some r) : cK (.func (.func 3) [] []) [a0, a1, a2] H = some r := callF_fix (first := []) (cap := []) ((e_outriderlaw7_WalSince JN GO _ a0 a1 a2 H).trans h)

noncomputable def s_outriderlaw7_begun (J : JT) (G : GT) (cf : CF) (a0 : AV) (H : Hp) : R :=
 J 3 (fun j0 =>
 B2 (cf (.func (.func 23) [] []) [(.int .i64 65536)] H) fun v1 h2 =>
 B1 (ex 0 v1) fun v3 =>
 B1 (ex 1 v1) fun v4 =>
 j0 a0 v3 v4 h2) (fun x5 x6 x7 h8 =>
 J 2 (fun j9 =>
 J 3 (fun j10 =>
 B1 (ine x7 (.int .i64 0)) fun v11 =>
 G v11 false (fun k12 =>
 k12 x6 h8) (fun v13 h14 =>
 G v11 false (fun k15 =>
 B1 (eqB .eql (pe v13 .ptr0 h14)) fun v16 =>
 k15 v16 h14) (fun v17 h18 =>
 B1 (pk v11 (.bool true) v17) fun v19 =>
 j10 x5 x6 v19 h18) h14) h8) (fun x20 x21 x22 h23 =>
 CD x22 (
 some (.tuple [.ptr0, .ptr0], h23)) (
 j9 x20 x21 h23))) (fun x24 x25 h26 =>
 J 3 (fun j27 =>
 B2 (cf (.func (.func 15) [] []) [x25, x24] h26) fun v28 h29 =>
 B1 (ex 0 v28) fun v30 =>
 B1 (ex 1 v28) fun v31 =>
 j27 x25 v30 v31 h29) (fun x32 x33 x34 h35 =>
 B1 (ine x34 (.int .i64 0)) fun v36 =>
 CD v36 (
 some (.tuple [.ptr0, .ptr0], h35)) (
 some (.tuple [x33, x32], h35)))))

theorem e_outriderlaw7_begun (J : JT) (G : GT) (cf : CF) (a0 : AV) (H : Hp) : callF P J G prim an cf 7 [a0] H = s_outriderlaw7_begun J G cf a0 H := by kernel_rfl

theorem c_outriderlaw7_begun {a0 : AV} {H : Hp} {r : AV × Hp} (h : s_outriderlaw7_begun JN GO cK a0 H = some r) : cK (.func (.func 7) [] []) [a0] H = some r := callF_fix (first := []) (cap := []) ((e_outriderlaw7_begun JN GO _ a0 H).trans h)

noncomputable def l_wal_Open (J : JT) (G : GT) (cf : CF) (j63 : K.Fn 1) : K.Fn 5 := LP 5 fun j64 => fun x65 x66 x67 x68 x69 h70 =>
 B1 (ilt x69 x68) fun v71 =>
 CD v71 (
 J 5 (fun j72 =>
 B1 (ia 2 x67 x69) fun v73 =>
 B1 (lda 2 v73 h70) fun v74 =>
 BN (newCells h70 [(.int .i64 0), (.int .i64 0)] 66 0) fun i75 h76 =>
 B1 (st 2 (.ptr i75 0) v74 h76) fun h77 =>
 J 6 (fun j78 =>
 B1 (lda 2 (.ptr i75 0) h77) fun v79 =>
 B2 (cf (.func (.func 28) [] []) [v79] h77) fun v80 h81 =>
 B2 (cf (.func (.func 34) [] []) [x65, v80] h81) fun v82 h83 =>
 j78 x65 x66 v82 x67 x68 x69 h83) (fun x84 x85 x86 x87 x88 x89 h90 =>
 B1 (ine x86 (.int .i64 0)) fun v91 =>
 CD v91 (
 some (.tuple [.ptr0, x86], h90)) (
 j72 x84 x85 x87 x88 x89 h90))) (fun x92 x93 x94 x95 x96 h97 =>
 B1 (iadd x96 (.int .i64 1)) fun v98 =>
 j64 x92 x93 x94 x95 v98 h97)) (
 j63 x66 h70)

theorem rl_wal_Open (J : JT) (G : GT) (cf : CF) (j63 : K.Fn 1) (j64 : K.Fn 5) (x65 x66 x67 x68 x69 : AV) (h70 : Hp) : codeF P J G cf (nT P 15) (atC P 15 [1, 1, 1, 1, 1, 0, 1, 0, 0]) (.sq none .nl (.sq none (.cd .nl .nl) (.sq (some [0, 6, 38, 39, 40]) (.bl none (.sq none .nl (.sq (some [0, 6, 10, 38, 39, 40]) .nl (.sq none .nl (.cd (.sq none .nl .nl) .nl))))) .nl))) (fun t H => app 5 j64 (vals [0, 6, 38, 39, 40] t) H) (fun q t H => match Nat.beq q 0 with | true => app 1 j63 (vals [6] t) H | false => (fun _ _ _ => none) q t H) (retK P 15) (mkT (nT P 15) [0, 6, 38, 39, 40] [x65, x66, x67, x68, x69]) h70 =
(B1 (ilt x69 x68) fun v71 =>
 CD v71 (
 J 5 (fun j72 =>
 B1 (ia 2 x67 x69) fun v73 =>
 B1 (lda 2 v73 h70) fun v74 =>
 BN (newCells h70 [(.int .i64 0), (.int .i64 0)] 66 0) fun i75 h76 =>
 B1 (st 2 (.ptr i75 0) v74 h76) fun h77 =>
 J 6 (fun j78 =>
 B1 (lda 2 (.ptr i75 0) h77) fun v79 =>
 B2 (cf (.func (.func 28) [] []) [v79] h77) fun v80 h81 =>
 B2 (cf (.func (.func 34) [] []) [x65, v80] h81) fun v82 h83 =>
 j78 x65 x66 v82 x67 x68 x69 h83) (fun x84 x85 x86 x87 x88 x89 h90 =>
 B1 (ine x86 (.int .i64 0)) fun v91 =>
 CD v91 (
 some (.tuple [.ptr0, x86], h90)) (
 j72 x84 x85 x87 x88 x89 h90))) (fun x92 x93 x94 x95 x96 h97 =>
 B1 (iadd x96 (.int .i64 1)) fun v98 =>
 j64 x92 x93 x94 x95 v98 h97)) (
 j63 x66 h70)) := by kernel_rfl

theorem dl_wal_Open (J : JT) (G : GT) (cf : CF) (j63 : K.Fn 1) : l_wal_Open J G cf j63 = loopF P J G cf (nT P 15) (atC P 15 [1, 1, 1, 1, 1, 0, 1, 0, 0]) (.sq none .nl (.sq none (.cd .nl .nl) (.sq (some [0, 6, 38, 39, 40]) (.bl none (.sq none .nl (.sq (some [0, 6, 10, 38, 39, 40]) .nl (.sq none .nl (.cd (.sq none .nl .nl) .nl))))) .nl))) [0, 6, 38, 39, 40] (fun q t H => match Nat.beq q 0 with | true => app 1 j63 (vals [6] t) H | false => (fun _ _ _ => none) q t H) (retK P 15) := by
  unfold l_wal_Open loopF
  refine congrArg (LP 5) ?_
  funext j64 x65 x66 x67 x68 x69 h70
  exact (rl_wal_Open J G cf j63 j64 x65 x66 x67 x68 x69 h70).symm

theorem ql_wal_Open (cf : CF) (j63 : K.Fn 1) (x65 x66 x67 x68 x69 : AV) (h70 : Hp) : l_wal_Open JN GO cf j63 x65 x66 x67 x68 x69 h70 =

 B1 (ilt x69 x68) fun v71 =>
 CD v71 (
 JN 5 (fun j72 =>
 B1 (ia 2 x67 x69) fun v73 =>
 B1 (lda 2 v73 h70) fun v74 =>
 BN (newCells h70 [(.int .i64 0), (.int .i64 0)] 66 0) fun i75 h76 =>
 B1 (st 2 (.ptr i75 0) v74 h76) fun h77 =>
 JN 6 (fun j78 =>
 B1 (lda 2 (.ptr i75 0) h77) fun v79 =>
 B2 (cf (.func (.func 28) [] []) [v79] h77) fun v80 h81 =>
 B2 (cf (.func (.func 34) [] []) [x65, v80] h81) fun v82 h83 =>
 j78 x65 x66 v82 x67 x68 x69 h83) (fun x84 x85 x86 x87 x88 x89 h90 =>
 B1 (ine x86 (.int .i64 0)) fun v91 =>
 CD v91 (
 some (.tuple [.ptr0, x86], h90)) (
 j72 x84 x85 x87 x88 x89 h90))) (fun x92 x93 x94 x95 x96 h97 =>
 B1 (iadd x96 (.int .i64 1)) fun v98 =>
 l_wal_Open JN GO cf j63 x92 x93 x94 x95 v98 h97)) (
 j63 x66 h70) := by
  have h1 : l_wal_Open JN GO cf j63 x65 x66 x67 x68 x69 h70 = app 5 (loopF P JN GO cf (nT P 15) (atC P 15 [1, 1, 1, 1, 1, 0, 1, 0, 0]) (.sq none .nl (.sq none (.cd .nl .nl) (.sq (some [0, 6, 38, 39, 40]) (.bl none (.sq none .nl (.sq (some [0, 6, 10, 38, 39, 40]) .nl (.sq none .nl (.cd (.sq none .nl .nl) .nl))))) .nl))) [0, 6, 38, 39, 40] (fun q t H => match Nat.beq q 0 with | true => app 1 j63 (vals [6] t) H | false => (fun _ _ _ => none) q t H) (retK P 15)) [x65, x66, x67, x68, x69] h70 := by rw [dl_wal_Open]; kernel_rfl
  refine h1.trans ((loopF_eq (P := P) cf (nT P 15) (atC P 15 [1, 1, 1, 1, 1, 0, 1, 0, 0]) (.sq none .nl (.sq none (.cd .nl .nl) (.sq (some [0, 6, 38, 39, 40]) (.bl none (.sq none .nl (.sq (some [0, 6, 10, 38, 39, 40]) .nl (.sq none .nl (.cd (.sq none .nl .nl) .nl))))) .nl))) [0, 6, 38, 39, 40] (fun q t H => match Nat.beq q 0 with | true => app 1 j63 (vals [6] t) H | false => (fun _ _ _ => none) q t H) (retK P 15) [x65, x66, x67, x68, x69] rfl h70).trans ((rl_wal_Open JN GO cf j63 _ x65 x66 x67 x68 x69 h70).trans ?_))
  rw [dl_wal_Open]

noncomputable def s_wal_Open (J : JT) (G : GT) (cf : CF) (a0 a1 : AV) (H : Hp) : R :=
 J 2 (fun j0 =>
 J 3 (fun j1 =>
 B1 (eqB .eql (pe a0 .ptr0 H)) fun v2 =>
 G v2 false (fun k3 =>
 k3 a1 H) (fun v4 h5 =>
 G v2 false (fun k6 =>
 B1 (ilt v4 (.int .i64 64)) fun v7 =>
 k6 v7 h5) (fun v8 h9 =>
 B1 (pk v2 (.bool true) v8) fun v10 =>
 G v10 false (fun k11 =>
 k11 a1 h9) (fun v12 h13 =>
 G v10 false (fun k14 =>
 B1 (igt v12 (.int .i64 1048576)) fun v15 =>
 k14 v15 h13) (fun v16 h17 =>
 B1 (pk v10 (.bool true) v16) fun v18 =>
 j1 a0 a1 v18 h17) h13) h9) h5) H) (fun x19 x20 x21 h22 =>
 CD x21 (
 some (.tuple [.ptr0, (.int .i64 1)], h22)) (
 j0 x19 x20 h22))) (fun x23 x24 h25 =>
 B2 (cf (.func (.func 19) [] []) [x23] h25) fun v26 h27 =>
 CD v26 (
 some (.tuple [.ptr0, (.int .i64 11)], h27)) (
 J 2 (fun j28 =>
 B1 (fl [.ptr0, (.int .i64 0), .slice0, .slice0, (.int .i64 0), (.int .i64 0)] [(0, 1, x23), (1, 1, x24)]) fun l29 =>
 BN (bx 57 (.agg l29) h27) fun i30 h31 =>
 j28 x23 (.ptr i30 0) h31) (fun x32 x33 h34 =>
 J 2 (fun j35 =>
 J 3 (fun j36 =>
 B2 (cf (.func (.func 35) [] []) [x32] h34) fun v37 h38 =>
 B2 (cf (.func (.func 37) [] []) [v37] h38) fun v39 h40 =>
 B2 (cf (.func (.func 36) [] []) [x33, v39] h40) fun v41 h42 =>
 j36 x32 x33 v41 h42) (fun x43 x44 x45 h46 =>
 B1 (ine x45 (.int .i64 0)) fun v47 =>
 CD v47 (
 some (.tuple [.ptr0, x45], h46)) (
 j35 x43 x44 h46))) (fun x48 x49 h50 =>
 J 1 (fun j51 =>
 J 5 (fun j52 =>
 B1 (nilA x49) fun v53 =>
 B1 (fa 2 v53) fun v54 =>
 B1 (ld v54 h50) fun v55 =>
 B1 (lenx v55) fun v56 =>
 j52 x48 x49 v55 v56 (.int .i64 0) h50) (fun x57 x58 x59 x60 x61 h62 =>
 J 1 (fun j63 =>
 l_wal_Open J G cf j63 x57 x58 x59 x60 x61 h62) (fun x99 h100 =>
 j51 x99 h100))) (fun x101 h102 =>
 J 1 (fun j103 =>
 B2 (cf (.func (.func 16) [] []) [x101] h102) fun v104 h105 =>
 B1 (nilA x101) fun v106 =>
 B1 (fa 5 v106) fun v107 =>
 B1 (st 1 v107 v104 h105) fun h108 =>
 j103 x101 h108) (fun x109 h110 =>
 some (.tuple [x109, (.int .i64 0)], h110)))))))

theorem e_wal_Open (J : JT) (G : GT) (cf : CF) (a0 a1 : AV) (H : Hp) : callF P J G prim an cf 15 [a0, a1] H = s_wal_Open J G cf a0 a1 H := by kernel_rfl

theorem c_wal_Open {a0 a1 : AV} {H : Hp} {r : AV × Hp} (h : s_wal_Open JN GO cK a0 a1 H = some r) : cK (.func (.func 15) [] []) [a0, a1] H = some r := callF_fix (first := []) (cap := []) ((e_wal_Open JN GO _ a0 a1 H).trans h)

noncomputable def s_wal_clone (J : JT) (G : GT) (cf : CF) (a0 : AV) (H : Hp) : R :=
 BN (bx 37 a0 H) fun i0 h1 =>
 BN (newCells h1 [(.int .u64 0), .slice0] 37 0) fun i2 h3 =>
 B1 (fa 0 (.ptr i0 0)) fun v4 =>
 B1 (ld v4 h3) fun v5 =>
 B1 (fa 1 (.ptr i0 0)) fun v6 =>
 B1 (ld v6 h3) fun v7 =>
 B2 (cf (.func (.func 25) [] []) [v7] h3) fun v8 h9 =>
 B1 (fl [(.int .u64 0), .slice0] [(0, 1, v5), (1, 1, v8)]) fun l10 =>
 B1 (st 2 (.ptr i2 0) (.agg l10) h9) fun h11 =>
 B1 (ld v4 h9) fun v12 =>
 SM v5 v12 <|
 B1 (lda 2 (.ptr i2 0) h11) fun v13 =>
 some (v13, h11)

theorem e_wal_clone (J : JT) (G : GT) (cf : CF) (a0 : AV) (H : Hp) : callF P J G prim an cf 29 [a0] H = s_wal_clone J G cf a0 H := by kernel_rfl

theorem c_wal_clone {a0 : AV} {H : Hp} {r : AV × Hp} (h : s_wal_clone JN GO cK a0 H = some r) : cK (.func (.func 29) [] []) [a0] H = some r := callF_fix (first := []) (cap := []) ((e_wal_clone JN GO _ a0 H).trans h)

end
end Go.Proofs.YtbdlbhlhnpblpaaGreatDoor.WlK
namespace Go.Proofs.YtbdlbhlhnpblpaaGreatDoor.StC
open Go Am Am.K WlEnv WlK
set_option linter.unusedVariables false
set_option linter.unusedSimpArgs false
set_option maxRecDepth 10000

theorem prim_trim : prim 73 = some trimP := by kernel_rfl
theorem prim_free : prim 44 = some freeP := by kernel_rfl
theorem prim_names : prim 35 = some (namesP 9) := by kernel_rfl
abbrev cutN : List Nat := [97, 98, 99, 100, 101, 102, 103, 104, 105, 106, 107, 108, 109, 110, 111, 112, 113, 114, 115, 116, 117, 118, 119, 120, 121, 122, 48, 49, 50, 51, 52, 53, 54, 55, 56, 57, 45]
theorem trim_c (s : List Nat) (H : Hp) (hs : s.length ≤ 4294967296) : cK (.func (.func 73) [] []) [.str s, .str cutN] H = some (.str (trimN s cutN), H) := by
  refine ck_prim prim_trim ?_
  have h1 : lowC cutN = true := by decide
  have h2 : F.bothB (lowC cutN) (F.bothB (Nat.ble (F.lenL s) 4294967296) (Nat.ble (F.lenL cutN) 4294967280)) = true := by
    rw [F.bothB_eq, F.bothB_eq, F.lenL_eq, F.lenL_eq, h1]
    simp only [Bool.true_and, Bool.and_eq_true, Nat.ble_eq]
    exact ⟨hs, by decide⟩
  show trim2 H s cutN = _
  unfold trim2
  rw [h2]
/-- a name may be so -/
noncomputable def okName (s : List Nat) : Bool := !(s == []) && (decide ((s.length : Int) ≤ 16) && (trimN s cutN == []))
theorem name_c (s : List Nat) (H : Hp) : cK (.func (.func 60) [] []) [.str s] H = some (.bool (okName s), H) := by
  refine c_store_name ?_
  unfold s_store_name okName
  cases h0 : (s == []) with
  | true => simp only [JN_0, JN_1, JN_2, JN_3, JN_4, JN_5, JN_6, JN_7, JN_8, JN_9, JN_10, JN_11, JN_12, JN_13, JN_14, JN_15, JN_16, JN_17, JN_18, JN_19, JN_20, JN_21, JN_22, JN_23, JN_24, B1_s, B2_s, BN_s, CD_t, CD_f, GO_tt, GO_ft, GO_tf, GO_ff, GO_ut, GO_uf, GD2_tt, GD2_ft, GD2_tf, GD2_ff, pk_t, pk_f, nilA_p, nilA_i, fa_p, fd_a, ex_t, iadd_i, isub_i, imul_i, ieq_i, ine_i, ilt_i, ile_i, igt_i, ige_i, seq_s, sne_s, slt_s, lens_s, lenx_0, lenx_s, not_b, bb_e, bb_n, cv_i, pe_00, pe_0p, pe_p0, eqB_e, eqB_n, List.getElem?_cons_zero, List.getElem?_cons_succ, Nat.zero_add, Bool.not_true, Bool.not_false, decide_true, decide_false, Int.reduceBEq, Int.reduceBNe, Int.reduceLT, Int.reduceLE, Int.reduceGT, Int.reduceGE, Int.reduceNeg, BEq.rfl, bne_self_eq_false, ge_iff_le, gt_iff_lt, h0, Bool.false_and]
  | false =>
    by_cases h1 : (s.length : Int) ≤ 16
    · have ht := trim_c s H (by omega)
      simp only [JN_0, JN_1, JN_2, JN_3, JN_4, JN_5, JN_6, JN_7, JN_8, JN_9, JN_10, JN_11, JN_12, JN_13, JN_14, JN_15, JN_16, JN_17, JN_18, JN_19, JN_20, JN_21, JN_22, JN_23, JN_24, B1_s, B2_s, BN_s, CD_t, CD_f, GO_tt, GO_ft, GO_tf, GO_ff, GO_ut, GO_uf, GD2_tt, GD2_ft, GD2_tf, GD2_ff, pk_t, pk_f, nilA_p, nilA_i, fa_p, fd_a, ex_t, iadd_i, isub_i, imul_i, ieq_i, ine_i, ilt_i, ile_i, igt_i, ige_i, seq_s, sne_s, slt_s, lens_s, lenx_0, lenx_s, not_b, bb_e, bb_n, cv_i, pe_00, pe_0p, pe_p0, eqB_e, eqB_n, List.getElem?_cons_zero, List.getElem?_cons_succ, Nat.zero_add, Bool.not_true, Bool.not_false, decide_true, decide_false, Int.reduceBEq, Int.reduceBNe, Int.reduceLT, Int.reduceLE, Int.reduceGT, Int.reduceGE, Int.reduceNeg, BEq.rfl, bne_self_eq_false, ge_iff_le, gt_iff_lt, h0, h1, ht, Bool.true_and]
    · simp only [JN_0, JN_1, JN_2, JN_3, JN_4, JN_5, JN_6, JN_7, JN_8, JN_9, JN_10, JN_11, JN_12, JN_13, JN_14, JN_15, JN_16, JN_17, JN_18, JN_19, JN_20, JN_21, JN_22, JN_23, JN_24, B1_s, B2_s, BN_s, CD_t, CD_f, GO_tt, GO_ft, GO_tf, GO_ff, GO_ut, GO_uf, GD2_tt, GD2_ft, GD2_tf, GD2_ff, pk_t, pk_f, nilA_p, nilA_i, fa_p, fd_a, ex_t, iadd_i, isub_i, imul_i, ieq_i, ine_i, ilt_i, ile_i, igt_i, ige_i, seq_s, sne_s, slt_s, lens_s, lenx_0, lenx_s, not_b, bb_e, bb_n, cv_i, pe_00, pe_0p, pe_p0, eqB_e, eqB_n, List.getElem?_cons_zero, List.getElem?_cons_succ, Nat.zero_add, Bool.not_true, Bool.not_false, decide_true, decide_false, Int.reduceBEq, Int.reduceBNe, Int.reduceLT, Int.reduceLE, Int.reduceGT, Int.reduceGE, Int.reduceNeg, BEq.rfl, bne_self_eq_false, ge_iff_le, gt_iff_lt, h0, h1, Bool.true_and, Bool.false_and]

/-! what a store is -/
structure Fl where
  nm : List Nat
  b : List Nat
  sure : Nat
structure SM where
  room : Nat
  off : Bool
  fuse : Nat
  keep : List Int
  fs : List Fl
/-- a file asV it lies in the heap -/
structure FC where
  id : Nat
  sl : AV
  born : Nat
  f : Fl
def FC.me (x : FC) : ME := ⟨.str x.f.nm, .ptr x.id 0, x.born⟩
def FC.ids (x : FC) : List Nat := x.id :: rid x.sl
structure Lay where
  mid : Nat
  clk : Nat
  keep : AV
  cs : List FC
def foot (p : Nat) (L : Lay) : List Nat := p :: L.mid :: (rid L.keep ++ L.cs.flatMap FC.ids)
def ints (l : List Int) : List AV := l.map fun z => .int .i64 z
def sumB (fs : List Fl) : Nat := (fs.map (·.b.length)).sum
def C0 (H : Hp) (i : Nat) (l : List AV) : Prop := ∃ el, Cs H i l el 0
theorem C0.out {H H' : Hp} {i : Nat} {l : List AV} {S : List Nat} (h : C0 H i l) (k : Out S H H') (hi : i ∉ S) : C0 H' i l := by
  obtain ⟨el, h⟩ := h; exact ⟨el, h.out k hi⟩
theorem C0.ld {H : Hp} {i : Nat} {l : List AV} (h : C0 H i l) {o : Nat} {v : AV} (hv : l[o]? = some v) : ld (.ptr i o) H = some v := by
  obtain ⟨el, h⟩ := h; exact h.ld hv
theorem C0.st {H : Hp} {i : Nat} {l : List AV} (h : C0 H i l) {o : Nat} (ho : o < l.length) {v : AV} (hv : oneC v = true) :
    ∃ H', st 1 (.ptr i o) v H = some H' ∧ C0 H' i (l.set o v) ∧ Out [i] H H' ∧ H'.next = H.next := by
  obtain ⟨el, h⟩ := h
  obtain ⟨H', h1, h2, h3, h4⟩ := st1 h (by omega) ho hv
  exact ⟨H', h1, ⟨el, h2⟩, h3, h4⟩
theorem C0.lt {H : Hp} {i : Nat} {l : List AV} (h : C0 H i l) : i < H.next := by obtain ⟨el, h⟩ := h; exact h.1
/-- what holds of each store -/
structure Okm (m : SM) : Prop where
  room : m.room ≤ 16777216
  sum : sumB m.fs ≤ m.room
  sure : ∀ f ∈ m.fs, f.sure ≤ f.b.length
  byte : ∀ f ∈ m.fs, ∀ c ∈ f.b, c < 256
  fuse : (m.fuse : Int) ≤ 9223372036854775807
  names : (m.fs.map (·.nm)).Nodup
  good : ∀ f ∈ m.fs, okName f.nm = true
  many : m.fs.length ≤ 64
structure St (H : Hp) (p : Nat) (m : SM) (L : Lay) : Prop where
  head : C0 H p [.int .i64 m.room, .map L.mid, .bool m.off, .int .i64 m.fuse, L.keep]
  map : Mp H L.mid (L.cs.map FC.me) L.clk
  file : ∀ x ∈ L.cs, C0 H x.id [x.sl, .int .i64 x.f.sure] ∧ Ow H 5 1 x.sl (bs x.f.b)
  keep : Rw H 1 L.keep (ints m.keep)
  nd : (foot p L).Nodup
  born : incr L.clk (L.cs.map FC.me) 0 = true
  fs : m.fs = L.cs.map (·.f)
  ok : Okm m
/-- what a call may touch -/
def Go' (p : Nat) (H : Hp) (L : Lay) (H' : Hp) (L' : Lay) : Prop := Out (foot p L) H H' ∧ ∀ j ∈ foot p L', j ∈ foot p L ∨ H.next ≤ j
theorem Go'.refl (p : Nat) (H : Hp) (L : Lay) : Go' p H L H L := ⟨Out.refl _ _, fun _ h => .inl h⟩
theorem Go'.trans {p : Nat} {H H' H'' : Hp} {L L' L'' : Lay} (h : Go' p H L H' L') (k : Go' p H' L' H'' L'') : Go' p H L H'' L'' :=
  ⟨h.1.then k.1 h.2, fun j hj => (k.2 j hj).elim (fun q => h.2 j q) (fun q => .inr (Nat.le_trans h.1.1 q))⟩
section
variable {H : Hp} {p : Nat} {m : SM} {L : Lay}
theorem St.mem_p : p ∈ foot p L := .head _
theorem St.mem_mid : L.mid ∈ foot p L := .tail _ (.head _)
theorem St.mem_keep {j : Nat} (h : j ∈ rid L.keep) : j ∈ foot p L := .tail _ (.tail _ (List.mem_append_left _ h))
theorem St.mem_file {x : FC} (hx : x ∈ L.cs) {j : Nat} (h : j ∈ x.ids) : j ∈ foot p L := .tail _ (.tail _ (List.mem_append_right _ (List.mem_flatMap.2 ⟨x, hx, h⟩)))
theorem St.lt (h : St H p m L) : ∀ j ∈ foot p L, j < H.next := by
  intro j hj
  unfold foot at hj
  rcases List.mem_cons.1 hj with rfl | hj
  · exact h.head.lt
  rcases List.mem_cons.1 hj with rfl | hj
  · exact h.map.1
  rcases List.mem_append.1 hj with hj | hj
  · exact h.keep.lt j hj
  · obtain ⟨x, hx, hj⟩ := List.mem_flatMap.1 hj
    rcases List.mem_cons.1 hj with rfl | hj
    · exact (h.file x hx).1.lt
    · exact (h.file x hx).2.rw.lt j hj
/-- what is touched outside changes nothing of a store -/
theorem St.out {H' : Hp} {S : List Nat} (h : St H p m L) (k : Out S H H') (hs : ∀ j ∈ foot p L, j ∉ S) : St H' p m L :=
  ⟨h.head.out k (hs _ St.mem_p), h.map.out k (hs _ St.mem_mid), fun x hx => ⟨(h.file x hx).1.out k (hs _ (St.mem_file hx (.head _))), (h.file x hx).2.out k fun j hj => hs _ (St.mem_file hx (.tail _ hj))⟩,
   h.keep.out k fun j hj => hs _ (St.mem_keep hj), h.nd, h.born, h.fs, h.ok⟩
/-- a file's place in the heap -/
def fp (L : Lay) (at' : List Nat) : AV := match L.cs.find? (fun x => x.f.nm == at') with | none => .ptr0 | some x => .ptr x.id 0
def hasF (fs : List Fl) (at' : List Nat) : Bool := fs.any (fun f => f.nm == at')
theorem St.find (h : St H p m L) (at' : List Nat) : (fp L at' = .ptr0 ∧ hasF m.fs at' = false ∧ ∀ x ∈ L.cs, x.f.nm ≠ at') ∨
    ∃ a x b, L.cs = a ++ x :: b ∧ x.f.nm = at' ∧ (∀ y ∈ a, y.f.nm ≠ at') ∧ (∀ y ∈ b, y.f.nm ≠ at') ∧ fp L at' = .ptr x.id 0 ∧ hasF m.fs at' = true := by
  have hn := h.ok.names
  rw [h.fs, List.map_map] at hn
  unfold fp hasF
  rw [h.fs]
  cases hf : L.cs.find? (fun x => x.f.nm == at') with
  | none =>
    rw [List.find?_eq_none] at hf
    have hf' : ∀ x ∈ L.cs, x.f.nm ≠ at' := fun x hx => by simpa using hf x hx
    refine .inl ⟨rfl, ?_, hf'⟩
    rw [List.any_eq_false]
    intro f hfm
    obtain ⟨x, hx, rfl⟩ := List.mem_map.1 hfm
    simpa using hf' x hx
  | some x =>
    obtain ⟨h1, a, b, h2, h3⟩ := List.find?_eq_some_iff_append.1 hf
    have h1 : x.f.nm = at' := by simpa using h1
    have h3 : ∀ y ∈ a, y.f.nm ≠ at' := fun y hy => by simpa using h3 y hy
    refine .inr ⟨a, x, b, h2, h1, h3, ?_, rfl, ?_⟩
    · intro y hy he
      rw [h2, List.map_append, List.map_cons, List.nodup_append, List.nodup_cons] at hn
      exact hn.2.1.1 (List.mem_map.2 ⟨y, hy, he.trans h1.symm⟩)
    · rw [List.any_eq_true]
      exact ⟨x.f, List.mem_map.2 ⟨x, by rw [h2]; simp, rfl⟩, by simpa using h1⟩
theorem keys_ne {a : List FC} {at' : List Nat} (h : ∀ y ∈ a, y.f.nm ≠ at') : ∀ e ∈ a.map FC.me, ∃ q, e.key = .str q ∧ q ≠ at' := by
  intro e he
  obtain ⟨y, hy, rfl⟩ := List.mem_map.1 he
  exact ⟨_, rfl, h y hy⟩
theorem St.lkp (h : St H p m L) (at' : List Nat) : lkp .str .ptr0 false (.map L.mid) (.str at') H = some (fp L at') := by
  rcases h.find at' with ⟨h1, h2, h3⟩ | ⟨a, x, b, h1, h2, h3, h4, h5, h6⟩
  · rw [lkp_none h.map (keys_ne h3), h1]; rfl
  · have hm := h.map
    rw [h1, List.map_append, List.map_cons] at hm
    rw [lkp_some hm (by rw [FC.me, h2]) (keys_ne h3), h5]; rfl
theorem St.pe0 (h : St H p m L) (at' : List Nat) (H' : Hp) : pe (fp L at') .ptr0 H' = some (!hasF m.fs at') := by
  rcases h.find at' with ⟨h1, h2, h3⟩ | ⟨a, x, b, h1, h2, h3, h4, h5, h6⟩
  · rw [h1, h2]; rfl
  · rw [h5, h6]; rfl
/-- the store's own cells turn -/
theorem St.setHead {H' : Hp} {off : Bool} {fuse : Nat} {keep : AV} {kl : List Int} (h : St H p m L) (hc : C0 H' p [.int .i64 m.room, .map L.mid, .bool off, .int .i64 fuse, keep]) (hf : (fuse : Int) ≤ 9223372036854775807)
    {S : List Nat} (ho : Out S H H') (hS : ∀ j ∈ S, j = p ∨ j ∈ rid L.keep) (hk : Rw H' 1 keep (ints kl)) (hkn : ∀ j ∈ rid keep, j ∈ rid L.keep ∨ H.next ≤ j) (hkd : (rid keep).Nodup) :
    St H' p { m with off := off, fuse := fuse, keep := kl } { L with keep := keep } ∧ Go' p H L H' { L with keep := keep } := by
  have hnd := h.nd
  unfold foot at hnd
  rw [List.nodup_cons, List.nodup_cons, List.nodup_append] at hnd
  obtain ⟨n1, n2, n3, n4, n5⟩ := hnd
  have nS : ∀ j, j ≠ p → j ∉ rid L.keep → j ∉ S := fun j h1 h2 hj => (hS j hj).elim h1 h2
  have hmid : L.mid ∉ S := nS _ (fun q => n1 (by rw [← q]; exact .head _)) (fun q => n2 (List.mem_append_left _ q))
  have hfile : ∀ x ∈ L.cs, ∀ j ∈ x.ids, j ∉ S := fun x hx j hj => by
    have hm : j ∈ L.cs.flatMap FC.ids := List.mem_flatMap.2 ⟨x, hx, hj⟩
    exact nS _ (fun q => n1 (by rw [← q]; exact .tail _ (List.mem_append_right _ hm))) (fun q => n5 _ q _ hm rfl)
  refine ⟨⟨hc, h.map.out ho hmid, fun x hx => ⟨(h.file x hx).1.out ho (hfile x hx _ (.head _)), (h.file x hx).2.out ho fun j hj => hfile x hx j (.tail _ hj)⟩, hk, ?_, h.born, h.fs,
    ⟨h.ok.room, h.ok.sum, h.ok.sure, h.ok.byte, hf, h.ok.names, h.ok.good, h.ok.many⟩⟩, ho.mono (fun j hj => (hS j hj).elim (fun q => by rw [q]; exact St.mem_p) St.mem_keep), fun j hj => ?_⟩
  · have hlt := h.lt
    unfold foot
    rw [List.nodup_cons, List.nodup_cons, List.nodup_append]
    have key : ∀ j ∈ rid keep, j ≠ p ∧ j ≠ L.mid ∧ j ∉ L.cs.flatMap FC.ids := by
      intro j hj
      rcases hkn j hj with q | q
      · exact ⟨fun e => n1 (by rw [← e]; exact .tail _ (List.mem_append_left _ q)), fun e => n2 (by rw [← e]; exact List.mem_append_left _ q), fun e => n5 _ q _ e rfl⟩
      · refine ⟨fun e => ?_, fun e => ?_, fun e => ?_⟩
        · have := hlt p St.mem_p; omega
        · have := hlt L.mid St.mem_mid; omega
        · obtain ⟨x, hx, hj'⟩ := List.mem_flatMap.1 e
          have := hlt j (St.mem_file hx hj'); omega
    refine ⟨fun e => ?_, fun e => ?_, hkd, n4, fun a ha b hb e => (key a ha).2.2 (e ▸ hb)⟩
    · rcases List.mem_cons.1 e with e | e
      · exact n1 (by rw [e]; exact .head _)
      · rcases List.mem_append.1 e with e | e
        · exact (key _ e).1 rfl
        · exact n1 (.tail _ (List.mem_append_right _ e))
    · rcases List.mem_append.1 e with e | e
      · exact (key _ e).2.1 rfl
      · exact n2 (List.mem_append_right _ e)
  · unfold foot at hj
    rcases List.mem_cons.1 hj with rfl | hj
    · exact .inl St.mem_p
    rcases List.mem_cons.1 hj with rfl | hj
    · exact .inl St.mem_mid
    rcases List.mem_append.1 hj with hj | hj
    · exact (hkn j hj).imp St.mem_keep id
    · obtain ⟨x, hx, hj'⟩ := List.mem_flatMap.1 hj
      exact .inl (St.mem_file (L := L) hx hj')
end

section
variable {H : Hp} {p : Nat} {m : SM} {L : Lay}
/-- one file anew -/
def setF (at' : List Nat) (f : Fl) (fs : List Fl) : List Fl := fs.map fun g => if g.nm = at' then f else g
theorem setF_split {a b : List FC} {x : FC} {at' : List Nat} {f : Fl} (hx : x.f.nm = at') (ha : ∀ y ∈ a, y.f.nm ≠ at') (hb : ∀ y ∈ b, y.f.nm ≠ at') : setF at' f ((a ++ x :: b).map (·.f)) = a.map (·.f) ++ f :: b.map (·.f) := by
  unfold setF
  rw [List.map_append, List.map_cons, List.map_append, List.map_cons, if_pos hx]
  congr 1
  · rw [List.map_map]; exact List.map_congr_left fun y hy => if_neg (ha y hy)
  · congr 1
    rw [List.map_map]; exact List.map_congr_left fun y hy => if_neg (hb y hy)
theorem St.setFile {H' : Hp} {a b : List FC} {x : FC} {f : Fl} {sl : AV} (h : St H p m L) (hL : L.cs = a ++ x :: b) (ha : ∀ y ∈ a, y.f.nm ≠ x.f.nm) (hb : ∀ y ∈ b, y.f.nm ≠ x.f.nm) (hnm : f.nm = x.f.nm)
    {S : List Nat} (ho : Out S H H') (hS : ∀ j ∈ S, j ∈ x.ids) (hc : C0 H' x.id [sl, .int .i64 f.sure]) (hw : Ow H' 5 1 sl (bs f.b)) (hr : ∀ j ∈ rid sl, j ∈ rid x.sl ∨ H.next ≤ j) (hrd : (rid sl).Nodup)
    (hsure : f.sure ≤ f.b.length) (hbyte : ∀ c ∈ f.b, c < 256) (hsum : sumB (setF x.f.nm f m.fs) ≤ m.room) :
    St H' p { m with fs := setF x.f.nm f m.fs } { L with cs := a ++ ⟨x.id, sl, x.born, f⟩ :: b } ∧ Go' p H L H' { L with cs := a ++ ⟨x.id, sl, x.born, f⟩ :: b } := by
  have hxL : x ∈ L.cs := by rw [hL]; simp
  have hfs : setF x.f.nm f m.fs = (a ++ ⟨x.id, sl, x.born, f⟩ :: b).map (·.f) := by
    rw [h.fs, hL, setF_split rfl ha hb, List.map_append, List.map_cons]
  have hnd := h.nd
  unfold foot at hnd
  rw [hL, List.flatMap_append, List.flatMap_cons, List.nodup_cons, List.nodup_cons, List.nodup_append, List.nodup_append, List.nodup_append] at hnd
  obtain ⟨n1, n2, n3, ⟨n4, ⟨n5, n6, n7⟩, n8⟩, n9⟩ := hnd
  have hlt := h.lt
  have sub : ∀ j ∈ S, j ∈ x.ids := hS
  have nx : ∀ j, j ∉ x.ids → j ∉ S := fun j hj q => hj (sub j q)
  have hp : p ∉ S := nx _ fun q => n1 (.tail _ (List.mem_append_right _ (List.mem_append_right _ (List.mem_append_left _ q))))
  have hmid : L.mid ∉ S := nx _ fun q => n2 (List.mem_append_right _ (List.mem_append_right _ (List.mem_append_left _ q)))
  have hkeep : ∀ j ∈ rid L.keep, j ∉ S := fun j hj => nx _ fun q => n9 _ hj _ (List.mem_append_right _ (List.mem_append_left _ q)) rfl
  have hA : ∀ y ∈ a, ∀ j ∈ y.ids, j ∉ S := fun y hy j hj => nx _ fun q => n8 _ (List.mem_flatMap.2 ⟨y, hy, hj⟩) _ (List.mem_append_left _ q) rfl
  have hB : ∀ y ∈ b, ∀ j ∈ y.ids, j ∉ S := fun y hy j hj => nx _ fun q => n7 _ q _ (List.mem_flatMap.2 ⟨y, hy, hj⟩) rfl
  -- the new object of the row is nobody else's
  have key : ∀ j ∈ FC.ids ⟨x.id, sl, x.born, f⟩, j ∈ x.ids ∨ H.next ≤ j := by
    intro j hj
    rcases List.mem_cons.1 hj with rfl | hj
    · exact .inl (.head _)
    · exact (hr j hj).imp (List.mem_cons_of_mem _) id
  have away : ∀ j ∈ FC.ids ⟨x.id, sl, x.born, f⟩, ∀ k ∈ foot p L, k ∉ x.ids → j ≠ k := by
    intro j hj k hk hkx e
    rcases key j hj with q | q
    · exact hkx (e ▸ q)
    · have := hlt k hk; omega
  have mA : ∀ y ∈ a, y ∈ L.cs := fun y hy => by rw [hL]; exact List.mem_append_left _ hy
  have mB : ∀ y ∈ b, y ∈ L.cs := fun y hy => by rw [hL]; exact List.mem_append_right _ (.tail _ hy)
  refine ⟨⟨h.head.out ho hp, ?_, ?_, h.keep.out ho hkeep, ?_, ?_, hfs, ⟨h.ok.room, hsum, ?_, ?_, h.ok.fuse, ?_, ?_, ?_⟩⟩, ho.mono fun j hj => St.mem_file hxL (sub j hj), ?_⟩
  · have hm := h.map.out ho hmid
    rw [hL] at hm
    rw [List.map_append, List.map_cons] at hm ⊢
    have : FC.me ⟨x.id, sl, x.born, f⟩ = x.me := by unfold FC.me; rw [hnm]
    rw [this]; exact hm
  · intro y hy
    rcases List.mem_append.1 hy with hy | hy
    · exact ⟨(h.file y (mA y hy)).1.out ho (hA y hy _ (.head _)), (h.file y (mA y hy)).2.out ho fun j hj => hA y hy j (.tail _ hj)⟩
    · rcases List.mem_cons.1 hy with rfl | hy
      · exact ⟨hc, hw⟩
      · exact ⟨(h.file y (mB y hy)).1.out ho (hB y hy _ (.head _)), (h.file y (mB y hy)).2.out ho fun j hj => hB y hy j (.tail _ hj)⟩
  · unfold foot
    rw [List.flatMap_append, List.flatMap_cons, List.nodup_cons, List.nodup_cons, List.nodup_append, List.nodup_append, List.nodup_append]
    have pX : p ∉ x.ids := fun q => n1 (.tail _ (List.mem_append_right _ (List.mem_append_right _ (List.mem_append_left _ q))))
    have mX : L.mid ∉ x.ids := fun q => n2 (List.mem_append_right _ (List.mem_append_right _ (List.mem_append_left _ q)))
    have aX : ∀ k ∈ a.flatMap FC.ids, k ∉ x.ids := fun k hk q => n8 _ hk _ (List.mem_append_left _ q) rfl
    have bX : ∀ k ∈ b.flatMap FC.ids, k ∉ x.ids := fun k hk q => n7 _ q _ hk rfl
    have kX : ∀ k ∈ rid L.keep, k ∉ x.ids := fun k hk q => n9 _ hk _ (List.mem_append_right _ (List.mem_append_left _ q)) rfl
    have fA : ∀ k ∈ a.flatMap FC.ids, k ∈ foot p L := fun k hk => by
      obtain ⟨y, hy, hk⟩ := List.mem_flatMap.1 hk
      exact St.mem_file (mA y hy) hk
    have fB : ∀ k ∈ b.flatMap FC.ids, k ∈ foot p L := fun k hk => by
      obtain ⟨y, hy, hk⟩ := List.mem_flatMap.1 hk
      exact St.mem_file (mB y hy) hk
    refine ⟨fun e => ?_, fun e => ?_, n3, ⟨n4, ⟨?_, n6, fun j hj k hk => away j hj k (fB k hk) (bX k hk)⟩, fun j hj k hk e => ?_⟩, fun j hj k hk e => ?_⟩
    · rcases List.mem_cons.1 e with e | e
      · exact n1 (by rw [e]; exact .head _)
      rcases List.mem_append.1 e with e | e
      · exact n1 (.tail _ (List.mem_append_left _ e))
      rcases List.mem_append.1 e with e | e
      · exact n1 (.tail _ (List.mem_append_right _ (List.mem_append_left _ e)))
      rcases List.mem_append.1 e with e | e
      · exact away _ e p St.mem_p pX rfl
      · exact n1 (.tail _ (List.mem_append_right _ (List.mem_append_right _ (List.mem_append_right _ e))))
    · rcases List.mem_append.1 e with e | e
      · exact n2 (List.mem_append_left _ e)
      rcases List.mem_append.1 e with e | e
      · exact n2 (List.mem_append_right _ (List.mem_append_left _ e))
      rcases List.mem_append.1 e with e | e
      · exact away _ e L.mid St.mem_mid mX rfl
      · exact n2 (List.mem_append_right _ (List.mem_append_right _ (List.mem_append_right _ e)))
    · show (x.id :: rid sl).Nodup
      rw [List.nodup_cons]
      refine ⟨fun q => ?_, hrd⟩
      rcases hr _ q with q | q
      · have : (x.id :: rid x.sl).Nodup := n5
        rw [List.nodup_cons] at this
        exact this.1 q
      · have := hlt x.id (St.mem_file hxL (.head _)); omega
    · rcases List.mem_append.1 hk with hk | hk
      · exact away k hk j (fA j hj) (aX j hj) e.symm
      · exact n8 _ hj _ (List.mem_append_right _ hk) e
    · rcases List.mem_append.1 hk with hk | hk
      · exact n9 _ hj _ (List.mem_append_left _ hk) e
      rcases List.mem_append.1 hk with hk | hk
      · exact away k hk j (St.mem_keep hj) (kX j hj) e.symm
      · exact n9 _ hj _ (List.mem_append_right _ (List.mem_append_right _ hk)) e
  · have hbn := h.born
    rw [hL] at hbn
    rw [List.map_append, List.map_cons] at hbn ⊢
    have : FC.me ⟨x.id, sl, x.born, f⟩ = x.me := by unfold FC.me; rw [hnm]
    rw [this]; exact hbn
  · intro g hg
    unfold setF at hg
    obtain ⟨g', hg', rfl⟩ := List.mem_map.1 hg
    split
    · exact hsure
    · exact h.ok.sure g' hg'
  · intro g hg
    unfold setF at hg
    obtain ⟨g', hg', rfl⟩ := List.mem_map.1 hg
    split
    · exact hbyte
    · exact h.ok.byte g' hg'
  · have : (setF x.f.nm f m.fs).map (·.nm) = m.fs.map (·.nm) := by
      unfold setF
      rw [List.map_map]
      refine List.map_congr_left fun g hg => ?_
      simp only [Function.comp]
      split
      · rename_i q; rw [q, hnm]
      · rfl
    rw [this]; exact h.ok.names
  · intro g hg
    unfold setF at hg
    obtain ⟨g', hg', rfl⟩ := List.mem_map.1 hg
    split
    · rename_i q; rw [hnm, ← q]; exact h.ok.good g' hg'
    · exact h.ok.good g' hg'
  · simp only [setF, List.length_map]; exact h.ok.many
  · intro j hj
    unfold foot at hj
    rcases List.mem_cons.1 hj with rfl | hj
    · exact .inl St.mem_p
    rcases List.mem_cons.1 hj with rfl | hj
    · exact .inl St.mem_mid
    rcases List.mem_append.1 hj with hj | hj
    · exact .inl (St.mem_keep hj)
    · obtain ⟨y, hy, hj'⟩ := List.mem_flatMap.1 hj
      rcases List.mem_append.1 hy with hy | hy
      · exact .inl (St.mem_file (mA y hy) hj')
      · rcases List.mem_cons.1 hy with rfl | hy
        · exact (key j hj').imp (St.mem_file hxL) id
        · exact .inl (St.mem_file (mB y hy) hj')
end

/-! the room that is left, the names -/
theorem sumF_files {H : Hp} : ∀ cs : List FC, (∀ x ∈ cs, C0 H x.id [x.sl, .int .i64 x.f.sure] ∧ Ow H 5 1 x.sl (bs x.f.b)) → sumF H (cs.map FC.me) = some (sumB (cs.map (·.f)))
  | [], _ => rfl
  | x :: cs, h => by
    obtain ⟨h1, h2⟩ := h x (.head _)
    have ih := sumF_files cs fun y hy => h y (.tail _ hy)
    have hl : lenAt H x.me.val = some x.f.b.length := by
      show F.oE lenC (F.cellAt H x.id 0) = _
      rw [F.oE_eq, F.cellAt_eq]
      have h1' : cellAt H x.id 0 = some x.sl := h1.ld (o := 0) rfl
      rw [h1']
      have h3 := h2.rw.len1
      rw [bs_len] at h3
      show lenC x.sl = _
      cases hsl : x.sl <;> rw [hsl] at h3 <;> first | (cases h3; done) | skip
      · simp only [lenx, Option.some.injEq, AV.int.injEq, true_and] at h3
        simp only [lenC, Option.some.injEq]; omega
      · simp only [lenx, Option.some.injEq, AV.int.injEq, true_and] at h3
        simp only [lenC, Option.some.injEq]; omega
    show F.oE (sum2 (sumF H (cs.map FC.me))) (lenAt H x.me.val) = _
    rw [hl, ih]
    show F.forceN some (Nat.add x.f.b.length (sumB (cs.map (·.f)))) = _
    rw [F.forceN_eq]
    rfl
section
variable {H : Hp} {p : Nat} {m : SM} {L : Lay}
theorem free_c (h : St H p m L) : cK (.func (.func 44) [] []) [.ptr p 0] H = some (.int .i64 ((m.room : Int) - sumB m.fs), H) := by
  refine ck_prim prim_free ?_
  have h0 : cellAt H p 0 = some (.int .i64 m.room) := h.head.ld (o := 0) rfl
  have h1 : cellAt H p 1 = some (.map L.mid) := h.head.ld (o := 1) rfl
  have hroom := h.ok.room
  have hsum := h.ok.sum
  have hr : okRoom (m.room : Int) = true := by
    show Nat.ble m.room 9223372036854775807 = true
    rw [Nat.ble_eq]; omega
  show free1 H p 0 = _
  unfold free1
  rw [F.cellAt_eq, F.cellAt_eq, h0, h1]
  show free2 H (.int .i64 m.room) (.map L.mid) = _
  unfold free2
  simp only
  rw [F.bothB_eq, hr, F.get_eq]
  show F.oE (free3 H (m.room : Int)) (H.h.get L.mid) = _
  rw [h.map.2, F.oE_eq]
  show free3 H (m.room : Int) (.map (L.cs.map FC.me) L.clk) = _
  unfold free3
  simp only [h.born]
  show F.oE (free4 H (m.room : Int)) (sumF H (L.cs.map FC.me)) = _
  rw [sumF_files L.cs h.file, F.oE_eq, ← h.fs]
  show free4 H (m.room : Int) (sumB m.fs) = _
  unfold free4
  rw [F.subI_eq, F.oP_eq]
  have : IntKind.wrap .i64 ((m.room : Int) - Int.ofNat (sumB m.fs)) = (m.room : Int) - sumB m.fs := wrap_i64 (by simp only [Int.ofNat_eq_natCast]; omega) (by simp only [Int.ofNat_eq_natCast]; omega)
  rw [this]; rfl
theorem keysN_files : ∀ cs : List FC, keysN (cs.map FC.me) = some (cs.map (·.f.nm))
  | [] => rfl
  | x :: cs => by
    show key1 (keysN (cs.map FC.me)) (.str x.f.nm) = _
    rw [keysN_files cs]; rfl
theorem nodupN_of : ∀ l : List (List Nat), l.Nodup → nodupN l = true
  | [], _ => rfl
  | x :: l, h => by
    rw [List.nodup_cons] at h
    have h1 : memL x l = false := by rw [← Bool.not_eq_true]; exact fun q => h.1 ((memL_iff x l).1 q)
    show @Bool.rec (fun _ => Bool) (nodupN l) false (memL x l) = true
    rw [h1]; exact nodupN_of l h.2
theorem shortN_of : ∀ l : List (List Nat), (∀ x ∈ l, x.length ≤ 16777216) → shortN l = true
  | [], _ => rfl
  | x :: l, h => by
    show F.bothB (Nat.ble (F.lenL x) 16777216) (shortN l) = true
    rw [F.bothB_eq, F.lenL_eq, shortN_of l fun y hy => h y (.tail _ hy), Bool.and_true, Nat.ble_eq]
    exact h x (.head _)
theorem okName_len {s : List Nat} (h : okName s = true) : s.length ≤ 16 := by
  unfold okName at h
  simp only [Bool.and_eq_true, decide_eq_true_eq] at h
  omega
noncomputable def names (m : SM) : List (List Nat) := sortN (m.fs.map (·.nm))
theorem insN_len (x : List Nat) : ∀ l : List (List Nat), (insN x l).length = l.length + 1
  | [] => rfl
  | y :: l => by
    show (@Bool.rec (fun _ => List (List Nat)) (x :: y :: l) (y :: insN x l) (ltN y x)).length = _
    cases ltN y x
    · rfl
    · show (insN x l).length + 1 = _
      rw [insN_len x l]; rfl
theorem sortN_len : ∀ l : List (List Nat), (sortN l).length = l.length
  | [] => rfl
  | x :: l => by
    show (insN x (sortN l)).length = _
    rw [insN_len, sortN_len l]; rfl
theorem insN_mem (x y : List Nat) : ∀ l : List (List Nat), y ∈ insN x l ↔ y = x ∨ y ∈ l
  | [] => by show y ∈ [x] ↔ _; simp
  | z :: l => by
    show y ∈ @Bool.rec (fun _ => List (List Nat)) (x :: z :: l) (z :: insN x l) (ltN z x) ↔ _
    cases ltN z x
    · show y ∈ x :: z :: l ↔ _
      simp
    · show y ∈ z :: insN x l ↔ _
      rw [List.mem_cons, insN_mem x y l, List.mem_cons]
      constructor
      · rintro (h | h | h)
        · exact .inr (.inl h)
        · exact .inl h
        · exact .inr (.inr h)
      · rintro (h | h | h)
        · exact .inr (.inl h)
        · exact .inl h
        · exact .inr (.inr h)
theorem sortN_mem (y : List Nat) : ∀ l : List (List Nat), y ∈ sortN l ↔ y ∈ l
  | [] => Iff.rfl
  | x :: l => by
    show y ∈ insN x (sortN l) ↔ _
    rw [insN_mem, sortN_mem y l, List.mem_cons]
def strs (l : List (List Nat)) : List AV := l.map AV.str
theorem names_c (h : St H p m L) : ∃ x H', cK (.func (.func 35) [] []) [.ptr p 0] H = some (x, H') ∧ Rw H' 1 x (strs (names m)) ∧ Out [] H H' ∧ (∀ j ∈ rid x, H.next ≤ j) ∧ lenx x = some (.int .i64 (names m).length) := by
  have h1 : cellAt H p 1 = some (.map L.mid) := h.head.ld (o := 1) rfl
  have hgood : ∀ x ∈ L.cs.map (·.f.nm), x.length ≤ 16777216 := by
    intro x hx
    obtain ⟨y, hy, rfl⟩ := List.mem_map.1 hx
    have := okName_len (h.ok.good y.f (by rw [h.fs]; exact List.mem_map.2 ⟨y, hy, rfl⟩))
    omega
  have hnd : (L.cs.map (·.f.nm)).Nodup := by
    have := h.ok.names
    rw [h.fs, List.map_map] at this
    exact this
  have hmany := h.ok.many
  rw [h.fs, List.length_map] at hmany
  have hN : names m = sortN (L.cs.map (·.f.nm)) := by unfold names; rw [h.fs, List.map_map]; rfl
  have hp : namesP 9 [.ptr p 0] H = names4 9 H (names m) := by
    show names1 9 H p 0 = _
    unfold names1
    rw [F.cellAt_eq, h1]
    show F.oE (names2 9 H) (F.get H.1 L.mid) = _
    rw [F.get_eq, F.oE_eq]
    show (H.h.get L.mid).bind _ = _
    rw [h.map.2]
    show names2 9 H (.map (L.cs.map FC.me) L.clk) = _
    show F.oE (names3 9 H L.clk (L.cs.map FC.me)) (keysN (L.cs.map FC.me)) = _
    rw [keysN_files, F.oE_eq]
    show names3 9 H L.clk (L.cs.map FC.me) (L.cs.map (·.f.nm)) = _
    unfold names3
    rw [F.bothB_eq, F.bothB_eq, F.bothB_eq, h.born, nodupN_of _ hnd, shortN_of _ hgood, F.lenL_eq]
    have : Nat.ble (L.cs.map FC.me).length 16777216 = true := by rw [Nat.ble_eq, List.length_map]; omega
    rw [this, hN]; rfl
  have hlen : (names m).length = L.cs.length := by rw [hN, sortN_len, List.length_map]
  cases hn : names m with
  | nil =>
    refine ⟨.slice0, H, ck_prim prim_names ?_, .nil, Out.refl _ _, (fun j hj => by cases hj), rfl⟩
    rw [hp, hn]; rfl
  | cons y ys =>
    obtain ⟨H', q1, q2, q3, q4⟩ := newCells_ok H (strs (y :: ys)) 9 0 (by unfold strs; rw [List.length_map, ← hn, hlen]; omega)
    refine ⟨.slice H.next 0 (y :: ys).length (y :: ys).length false 1, H', ck_prim prim_names ?_, .mk q2.ro (by unfold strs; rw [List.length_map, Nat.mul_one]) (Nat.le_refl _) rfl, q3, fun j hj => ?_, rfl⟩
    · rw [hp, hn]
      show F.newC H 9 0 (sl1 (F.lenL (y :: ys))) (F.mapL AV.str (y :: ys)) = _
      rw [F.newC_eq, F.mapL_eq, F.lenL_eq]
      have : newCells H (List.map AV.str (y :: ys)) 9 0 = some (H.next, H') := q1
      rw [this]; rfl
    · simp only [rid, Bool.false_and, cond_false, List.mem_singleton] at hj
      omega
end

/-! the calls -/
theorem rw_one {H : Hp} {es : Nat} {x : AV} {l : List AV} (h : Rw H es x l) : oneC x = true := by cases h <;> rfl
def look (m : SM) (at' : List Nat) : Option Fl := m.fs.find? (fun f => f.nm == at')
noncomputable def ofE (m : SM) (at' : List Nat) : Int := if m.off = true then 11 else if okName at' = false then 1 else if (look m at').isNone = true then 4 else 0
section
variable {H : Hp} {p : Nat} {m : SM} {L : Lay}
theorem St.lookC (h : St H p m L) (at' : List Nat) : (fp L at' = .ptr0 ∧ look m at' = none ∧ ∀ x ∈ L.cs, x.f.nm ≠ at') ∨
    ∃ a x b, L.cs = a ++ x :: b ∧ x.f.nm = at' ∧ (∀ y ∈ a, y.f.nm ≠ at') ∧ (∀ y ∈ b, y.f.nm ≠ at') ∧ fp L at' = .ptr x.id 0 ∧ look m at' = some x.f := by
  rcases h.find at' with ⟨h1, h2, h3⟩ | ⟨a, x, b, h1, h2, h3, h4, h5, h6⟩
  · refine .inl ⟨h1, ?_, h3⟩
    unfold look
    rw [h.fs, List.find?_eq_none]
    intro f hf
    obtain ⟨x, hx, rfl⟩ := List.mem_map.1 hf
    simpa using h3 x hx
  · refine .inr ⟨a, x, b, h1, h2, h3, h4, h5, ?_⟩
    unfold look
    rw [h.fs, List.find?_eq_some_iff_append]
    exact ⟨by simpa using h2, a.map (·.f), b.map (·.f), by rw [h1, List.map_append, List.map_cons], fun f hf => by
      obtain ⟨y, hy, rfl⟩ := List.mem_map.1 hf
      simpa using h3 y hy⟩
theorem St.ld_map (h : St H p m L) : ld (.ptr p 1) H = some (.map L.mid) := h.head.ld (o := 1) rfl
theorem St.ld_off (h : St H p m L) : ld (.ptr p 2) H = some (.bool m.off) := h.head.ld (o := 2) rfl
theorem St.ld_fuse (h : St H p m L) : ld (.ptr p 3) H = some (.int .i64 m.fuse) := h.head.ld (o := 3) rfl
theorem of_c (h : St H p m L) (at' : List Nat) : cK (.func (.func 43) [] []) [.ptr p 0, .str at'] H =
    some (.tuple [if m.off = true ∨ okName at' = false then .ptr0 else fp L at', .int .i64 (ofE m at')], H) := by
  refine c_store_Store_of ?_
  unfold s_store_Store_of
  have h1 := h.ld_map
  have h2 := h.ld_off
  have h3 := h.lkp at'
  have h4 := name_c at' H
  have h5 := h.pe0 at' H
  simp only [h1, h2, h3, h4, h5, JN_0, JN_1, JN_2, JN_3, JN_4, JN_5, JN_6, JN_7, JN_8, JN_9, JN_10, JN_11, JN_12, JN_13, JN_14, JN_15, JN_16, JN_17, JN_18, JN_19, JN_20, JN_21, JN_22, JN_23, JN_24, B1_s, B2_s, BN_s, CD_t, CD_f, GO_tt, GO_ft, GO_tf, GO_ff, GO_ut, GO_uf, GD2_tt, GD2_ft, GD2_tf, GD2_ff, pk_t, pk_f, nilA_p, nilA_i, fa_p, fd_a, ex_t, iadd_i, isub_i, imul_i, ieq_i, ine_i, ilt_i, ile_i, igt_i, ige_i, seq_s, sne_s, slt_s, lens_s, lenx_0, lenx_s, not_b, bb_e, bb_n, cv_i, pe_00, pe_0p, pe_p0, eqB_e, eqB_n, List.getElem?_cons_zero, List.getElem?_cons_succ, Nat.zero_add, Bool.not_true, Bool.not_false, decide_true, decide_false, Int.reduceBEq, Int.reduceBNe, Int.reduceLT, Int.reduceLE, Int.reduceGT, Int.reduceGE, Int.reduceNeg, BEq.rfl, bne_self_eq_false, ge_iff_le, gt_iff_lt]
  cases ho : m.off with
  | true => simp only [JN_0, JN_1, JN_2, JN_3, JN_4, JN_5, JN_6, JN_7, JN_8, JN_9, JN_10, JN_11, JN_12, JN_13, JN_14, JN_15, JN_16, JN_17, JN_18, JN_19, JN_20, JN_21, JN_22, JN_23, JN_24, B1_s, B2_s, BN_s, CD_t, CD_f, GO_tt, GO_ft, GO_tf, GO_ff, GO_ut, GO_uf, GD2_tt, GD2_ft, GD2_tf, GD2_ff, pk_t, pk_f, nilA_p, nilA_i, fa_p, fd_a, ex_t, iadd_i, isub_i, imul_i, ieq_i, ine_i, ilt_i, ile_i, igt_i, ige_i, seq_s, sne_s, slt_s, lens_s, lenx_0, lenx_s, not_b, bb_e, bb_n, cv_i, pe_00, pe_0p, pe_p0, eqB_e, eqB_n, List.getElem?_cons_zero, List.getElem?_cons_succ, Nat.zero_add, Bool.not_true, Bool.not_false, decide_true, decide_false, Int.reduceBEq, Int.reduceBNe, Int.reduceLT, Int.reduceLE, Int.reduceGT, Int.reduceGE, Int.reduceNeg, BEq.rfl, bne_self_eq_false, ge_iff_le, gt_iff_lt, true_or, if_true, ofE, ho]
  | false =>
    cases hk : okName at' with
    | false => simp only [JN_0, JN_1, JN_2, JN_3, JN_4, JN_5, JN_6, JN_7, JN_8, JN_9, JN_10, JN_11, JN_12, JN_13, JN_14, JN_15, JN_16, JN_17, JN_18, JN_19, JN_20, JN_21, JN_22, JN_23, JN_24, B1_s, B2_s, BN_s, CD_t, CD_f, GO_tt, GO_ft, GO_tf, GO_ff, GO_ut, GO_uf, GD2_tt, GD2_ft, GD2_tf, GD2_ff, pk_t, pk_f, nilA_p, nilA_i, fa_p, fd_a, ex_t, iadd_i, isub_i, imul_i, ieq_i, ine_i, ilt_i, ile_i, igt_i, ige_i, seq_s, sne_s, slt_s, lens_s, lenx_0, lenx_s, not_b, bb_e, bb_n, cv_i, pe_00, pe_0p, pe_p0, eqB_e, eqB_n, List.getElem?_cons_zero, List.getElem?_cons_succ, Nat.zero_add, Bool.not_true, Bool.not_false, decide_true, decide_false, Int.reduceBEq, Int.reduceBNe, Int.reduceLT, Int.reduceLE, Int.reduceGT, Int.reduceGE, Int.reduceNeg, BEq.rfl, bne_self_eq_false, ge_iff_le, gt_iff_lt, or_true, if_true, ofE, ho, hk, Bool.false_eq_true, if_false]
    | true =>
      simp only [JN_0, JN_1, JN_2, JN_3, JN_4, JN_5, JN_6, JN_7, JN_8, JN_9, JN_10, JN_11, JN_12, JN_13, JN_14, JN_15, JN_16, JN_17, JN_18, JN_19, JN_20, JN_21, JN_22, JN_23, JN_24, B1_s, B2_s, BN_s, CD_t, CD_f, GO_tt, GO_ft, GO_tf, GO_ff, GO_ut, GO_uf, GD2_tt, GD2_ft, GD2_tf, GD2_ff, pk_t, pk_f, nilA_p, nilA_i, fa_p, fd_a, ex_t, iadd_i, isub_i, imul_i, ieq_i, ine_i, ilt_i, ile_i, igt_i, ige_i, seq_s, sne_s, slt_s, lens_s, lenx_0, lenx_s, not_b, bb_e, bb_n, cv_i, pe_00, pe_0p, pe_p0, eqB_e, eqB_n, List.getElem?_cons_zero, List.getElem?_cons_succ, Nat.zero_add, Bool.not_true, Bool.not_false, decide_true, decide_false, Int.reduceBEq, Int.reduceBNe, Int.reduceLT, Int.reduceLE, Int.reduceGT, Int.reduceGE, Int.reduceNeg, BEq.rfl, bne_self_eq_false, ge_iff_le, gt_iff_lt, or_self, if_false, ofE, ho, hk, Bool.false_eq_true, Bool.true_eq_false]
      rcases h.find at' with ⟨q1, q2, q3⟩ | ⟨a, x, b, q1, q2, q3, q4, q5, q6⟩ <;> rcases h.lookC at' with ⟨r1, r2, r3⟩ | ⟨a', x', b', r1, r2, r3, r4, r5, r6⟩
      · simp only [q1, q2, r2, JN_0, JN_1, JN_2, JN_3, JN_4, JN_5, JN_6, JN_7, JN_8, JN_9, JN_10, JN_11, JN_12, JN_13, JN_14, JN_15, JN_16, JN_17, JN_18, JN_19, JN_20, JN_21, JN_22, JN_23, JN_24, B1_s, B2_s, BN_s, CD_t, CD_f, GO_tt, GO_ft, GO_tf, GO_ff, GO_ut, GO_uf, GD2_tt, GD2_ft, GD2_tf, GD2_ff, pk_t, pk_f, nilA_p, nilA_i, fa_p, fd_a, ex_t, iadd_i, isub_i, imul_i, ieq_i, ine_i, ilt_i, ile_i, igt_i, ige_i, seq_s, sne_s, slt_s, lens_s, lenx_0, lenx_s, not_b, bb_e, bb_n, cv_i, pe_00, pe_0p, pe_p0, eqB_e, eqB_n, List.getElem?_cons_zero, List.getElem?_cons_succ, Nat.zero_add, Bool.not_true, Bool.not_false, decide_true, decide_false, Int.reduceBEq, Int.reduceBNe, Int.reduceLT, Int.reduceLE, Int.reduceGT, Int.reduceGE, Int.reduceNeg, BEq.rfl, bne_self_eq_false, ge_iff_le, gt_iff_lt, Option.isNone_none, if_true]
      · exact absurd r2 (q3 x' (by rw [r1]; simp))
      · exact absurd q2 (r3 x (by rw [q1]; simp))
      · simp only [q5, q6, r6, JN_0, JN_1, JN_2, JN_3, JN_4, JN_5, JN_6, JN_7, JN_8, JN_9, JN_10, JN_11, JN_12, JN_13, JN_14, JN_15, JN_16, JN_17, JN_18, JN_19, JN_20, JN_21, JN_22, JN_23, JN_24, B1_s, B2_s, BN_s, CD_t, CD_f, GO_tt, GO_ft, GO_tf, GO_ff, GO_ut, GO_uf, GD2_tt, GD2_ft, GD2_tf, GD2_ff, pk_t, pk_f, nilA_p, nilA_i, fa_p, fd_a, ex_t, iadd_i, isub_i, imul_i, ieq_i, ine_i, ilt_i, ile_i, igt_i, ige_i, seq_s, sne_s, slt_s, lens_s, lenx_0, lenx_s, not_b, bb_e, bb_n, cv_i, pe_00, pe_0p, pe_p0, eqB_e, eqB_n, List.getElem?_cons_zero, List.getElem?_cons_succ, Nat.zero_add, Bool.not_true, Bool.not_false, decide_true, decide_false, Int.reduceBEq, Int.reduceBNe, Int.reduceLT, Int.reduceLE, Int.reduceGT, Int.reduceGE, Int.reduceNeg, BEq.rfl, bne_self_eq_false, ge_iff_le, gt_iff_lt, Option.isNone_some, if_false, Bool.false_eq_true]
end
section
variable {H : Hp} {p : Nat} {m : SM} {L : Lay}
theorem on_c (h : St H p m L) : ∃ H', cK (.func (.func 14) [] []) [.ptr p 0] H = some (.tuple [], H') ∧ St H' p { m with off := false } L ∧ Go' p H L H' L := by
  obtain ⟨H', h1, h2, h3, h4⟩ := h.head.st (o := 2) (v := .bool false) (by simp) rfl
  have hk := h.keep.out h3 fun j hj q => by
    have hnd := h.nd
    unfold foot at hnd
    rw [List.nodup_cons] at hnd
    simp only [List.mem_singleton] at q
    exact hnd.1 (q ▸ .tail _ (List.mem_append_left _ hj))
  obtain ⟨q1, q2⟩ := h.setHead (off := false) (fuse := m.fuse) (keep := L.keep) (kl := m.keep) h2 h.ok.fuse h3 (fun j hj => .inl (by simpa using hj)) hk (fun j hj => .inl hj) (rid_nd _)
  refine ⟨H', c_store_Store_On ?_, q1, q2⟩
  unfold s_store_Store_On
  simp only [h1, JN_0, JN_1, JN_2, JN_3, JN_4, JN_5, JN_6, JN_7, JN_8, JN_9, JN_10, JN_11, JN_12, JN_13, JN_14, JN_15, JN_16, JN_17, JN_18, JN_19, JN_20, JN_21, JN_22, JN_23, JN_24, B1_s, B2_s, BN_s, CD_t, CD_f, GO_tt, GO_ft, GO_tf, GO_ff, GO_ut, GO_uf, GD2_tt, GD2_ft, GD2_tf, GD2_ff, pk_t, pk_f, nilA_p, nilA_i, fa_p, fd_a, ex_t, iadd_i, isub_i, imul_i, ieq_i, ine_i, ilt_i, ile_i, igt_i, ige_i, seq_s, sne_s, slt_s, lens_s, lenx_0, lenx_s, not_b, bb_e, bb_n, cv_i, pe_00, pe_0p, pe_p0, eqB_e, eqB_n, List.getElem?_cons_zero, List.getElem?_cons_succ, Nat.zero_add, Bool.not_true, Bool.not_false, decide_true, decide_false, Int.reduceBEq, Int.reduceBNe, Int.reduceLT, Int.reduceLE, Int.reduceGT, Int.reduceGE, Int.reduceNeg, BEq.rfl, bne_self_eq_false, ge_iff_le, gt_iff_lt]
theorem off_c (h : St H p m L) : cK (.func (.func 19) [] []) [.ptr p 0] H = some (.bool m.off, H) := by
  refine c_store_Store_Off ?_
  unfold s_store_Store_Off
  simp only [h.ld_off, JN_0, JN_1, JN_2, JN_3, JN_4, JN_5, JN_6, JN_7, JN_8, JN_9, JN_10, JN_11, JN_12, JN_13, JN_14, JN_15, JN_16, JN_17, JN_18, JN_19, JN_20, JN_21, JN_22, JN_23, JN_24, B1_s, B2_s, BN_s, CD_t, CD_f, GO_tt, GO_ft, GO_tf, GO_ff, GO_ut, GO_uf, GD2_tt, GD2_ft, GD2_tf, GD2_ff, pk_t, pk_f, nilA_p, nilA_i, fa_p, fd_a, ex_t, iadd_i, isub_i, imul_i, ieq_i, ine_i, ilt_i, ile_i, igt_i, ige_i, seq_s, sne_s, slt_s, lens_s, lenx_0, lenx_s, not_b, bb_e, bb_n, cv_i, pe_00, pe_0p, pe_p0, eqB_e, eqB_n, List.getElem?_cons_zero, List.getElem?_cons_succ, Nat.zero_add, Bool.not_true, Bool.not_false, decide_true, decide_false, Int.reduceBEq, Int.reduceBNe, Int.reduceLT, Int.reduceLE, Int.reduceGT, Int.reduceGE, Int.reduceNeg, BEq.rfl, bne_self_eq_false, ge_iff_le, gt_iff_lt]
theorem ofE_cases (m : SM) (at' : List Nat) : (ofE m at' = 11 ∧ m.off = true) ∨ (ofE m at' = 1 ∧ m.off = false ∧ okName at' = false) ∨ (ofE m at' = 4 ∧ m.off = false ∧ okName at' = true ∧ look m at' = none) ∨
    (ofE m at' = 0 ∧ m.off = false ∧ okName at' = true ∧ ∃ f, look m at' = some f) := by
  unfold ofE
  cases ho : m.off with
  | true => exact .inl ⟨by simp, rfl⟩
  | false =>
    cases hk : okName at' with
    | false => exact .inr (.inl ⟨by simp, rfl, rfl⟩)
    | true =>
      cases hl : look m at' with
      | none => exact .inr (.inr (.inl ⟨by simp, rfl, rfl, rfl⟩))
      | some f => exact .inr (.inr (.inr ⟨by simp, rfl, rfl, f, rfl⟩))
/-- the file that is told, where there is one -/
theorem St.ofP (h : St H p m L) {at' : List Nat} (he : ofE m at' = 0) : m.off = false ∧ okName at' = true ∧ ∃ a x b, L.cs = a ++ x :: b ∧ x.f.nm = at' ∧ (∀ y ∈ a, y.f.nm ≠ at') ∧ (∀ y ∈ b, y.f.nm ≠ at') ∧ fp L at' = .ptr x.id 0 ∧ look m at' = some x.f ∧ x ∈ L.cs ∧ x.f ∈ m.fs := by
  rcases ofE_cases m at' with ⟨q, _⟩ | ⟨q, _⟩ | ⟨q, _⟩ | ⟨_, q1, q2, f, q3⟩
  · rw [he] at q; cases q
  · rw [he] at q; cases q
  · rw [he] at q; cases q
  · rcases h.lookC at' with ⟨r1, r2, r3⟩ | ⟨a, x, b, r1, r2, r3, r4, r5, r6⟩
    · rw [r2] at q3; cases q3
    · have hx : x ∈ L.cs := by rw [r1]; simp
      exact ⟨q1, q2, a, x, b, r1, r2, r3, r4, r5, r6, hx, by rw [h.fs]; exact List.mem_map.2 ⟨x, hx, rfl⟩⟩
theorem len_le {f : Fl} {fs : List Fl} (hf : f ∈ fs) : f.b.length ≤ sumB fs := by
  induction fs with
  | nil => cases hf
  | cons g fs ih =>
    have e : sumB (g :: fs) = g.b.length + sumB fs := by unfold sumB; rw [List.map_cons, List.sum_cons]
    rw [e]
    rcases List.mem_cons.1 hf with rfl | hf
    · omega
    · have := ih hf; omega
end
section
variable {H : Hp} {p : Nat} {m : SM} {L : Lay}
theorem St.id_nd (h : St H p m L) {x : FC} (hx : x ∈ L.cs) : x.id ∉ rid x.sl := by
  have hnd := h.nd
  unfold foot at hnd
  rw [List.nodup_cons, List.nodup_cons, List.nodup_append] at hnd
  obtain ⟨a, b, hL⟩ := List.append_of_mem hx
  have h1 := hnd.2.2.2.1
  rw [hL, List.flatMap_append, List.flatMap_cons, List.nodup_append, List.nodup_append] at h1
  have h2 : (x.id :: rid x.sl).Nodup := h1.2.1.1
  exact (List.nodup_cons.1 h2).1
/-- a file's row anew -/
theorem St.put0 (h : St H p m L) {x : FC} (hx : x ∈ L.cs) {H0 : Hp} {sl : AV} {b : List Nat} (ho : Out (rid x.sl) H H0) (hw : Ow H0 5 1 sl (bs b)) (hr : ∀ j ∈ rid sl, j ∈ rid x.sl ∨ H.next ≤ j) :
    ∃ H1, st 1 (.ptr x.id 0) sl H0 = some H1 ∧ C0 H1 x.id [sl, .int .i64 x.f.sure] ∧ Out x.ids H H1 ∧ Ow H1 5 1 sl (bs b) := by
  have hid := h.id_nd hx
  have hc := (h.file x hx).1.out ho hid
  obtain ⟨H1, h1, h2, h3, h4⟩ := hc.st (o := 0) (v := sl) (by simp) (rw_one hw.rw)
  have hlt := (h.file x hx).1.lt
  refine ⟨H1, h1, h2, (ho.mono fun j hj => List.mem_cons_of_mem _ hj).trans (h3.mono fun j hj => by rw [List.mem_singleton.1 hj]; exact .head _), hw.out h3 fun j hj q => ?_⟩
  rw [List.mem_singleton.1 q] at hj
  rcases hr _ hj with q | q
  · exact hid q
  · omega
/-- how far a file is sure, anew -/
theorem put1 {i : Nat} {sl : AV} {s t : Int} {b : List Nat} {H1 : Hp} (hc : C0 H1 i [sl, .int .i64 s]) (hw : Ow H1 5 1 sl (bs b)) (hi : i ∉ rid sl) :
    ∃ H2, st 1 (.ptr i 1) (.int .i64 t) H1 = some H2 ∧ C0 H2 i [sl, .int .i64 t] ∧ Out [i] H1 H2 ∧ Ow H2 5 1 sl (bs b) := by
  obtain ⟨H2, h1, h2, h3, h4⟩ := hc.st (o := 1) (v := .int .i64 t) (by simp) rfl
  exact ⟨H2, h1, h2, h3, hw.out h3 fun j hj q => hi (by rw [List.mem_singleton.1 q] at hj; exact hj)⟩
theorem sumB_app (a b : List Fl) : sumB (a ++ b) = sumB a + sumB b := by unfold sumB; rw [List.map_append, List.sum_append]
theorem sumB_cons (f : Fl) (b : List Fl) : sumB (f :: b) = f.b.length + sumB b := by unfold sumB; rw [List.map_cons, List.sum_cons]
theorem St.sum_set (h : St H p m L) {a b : List FC} {x : FC} (hL : L.cs = a ++ x :: b) (ha : ∀ y ∈ a, y.f.nm ≠ x.f.nm) (hb : ∀ y ∈ b, y.f.nm ≠ x.f.nm) (f : Fl) : sumB (setF x.f.nm f m.fs) + x.f.b.length = sumB m.fs + f.b.length := by
  rw [h.fs, hL, setF_split rfl ha hb, List.map_append, List.map_cons, sumB_app, sumB_app, sumB_cons, sumB_cons]
  omega
/-- nothing but files' objects -/
def inF (L : Lay) (j : Nat) : Prop := ∃ y ∈ L.cs, j ∈ y.ids
/-- a file is cut -/
def cutTo (f : Fl) (n : Nat) : Fl := ⟨f.nm, f.b.take n, n⟩
theorem bs_take (l : List Nat) (n : Nat) : bs (l.take n) = (bs l).take n := by unfold bs; rw [List.map_take]
theorem St.cut (h : St H p m L) {a b : List FC} {x : FC} (hL : L.cs = a ++ x :: b) (ha : ∀ y ∈ a, y.f.nm ≠ x.f.nm) (hb : ∀ y ∈ b, y.f.nm ≠ x.f.nm) {n s : Nat} (hn : n ≤ x.f.b.length) (hs : s ≤ n) :
    ∃ sl H1 H2 L', sll 1 x.sl none (some (.int .i64 n)) none = some sl ∧ st 1 (.ptr x.id 0) sl H = some H1 ∧ ld (.ptr x.id 0) H1 = some sl ∧ ld (.ptr x.id 1) H1 = some (.int .i64 x.f.sure) ∧ lenx sl = some (.int .i64 n) ∧ st 1 (.ptr x.id 1) (.int .i64 s) H1 = some H2 ∧
      St H2 p { m with fs := setF x.f.nm ⟨x.f.nm, x.f.b.take n, s⟩ m.fs } L' ∧ Go' p H L H2 L' ∧ L'.keep = L.keep ∧ L'.mid = L.mid ∧ (∀ j, inF L' j → inF L j ∨ H.next ≤ j) ∧ Out x.ids H H2 := by
  have hx : x ∈ L.cs := by rw [hL]; simp
  obtain ⟨hf1, hf2⟩ := h.file x hx
  have hlen : (bs x.f.b).length = x.f.b.length * 1 := by rw [bs_len, Nat.mul_one]
  obtain ⟨sl, s1, s2, s3⟩ := sll_ow hf2 hlen (by omega) (a := 0) (b := n) (lo := none) (hi := some (.int .i64 n)) (Nat.zero_le _) hn (Bd.no 0) (Bd.yes _ _ _)
  rw [Nat.zero_mul, List.drop_zero, Nat.sub_zero, Nat.mul_one, ← bs_take] at s2
  obtain ⟨H1, p1, p2, p3, p4⟩ := h.put0 hx (Out.refl _ _) s2 fun j hj => .inl (s3 j hj)
  have hid : x.id ∉ rid sl := fun q => h.id_nd hx (s3 _ q)
  obtain ⟨H2, r1, r2, r3, r4⟩ := put1 (t := (s : Int)) p2 p4 hid
  have hout : Out x.ids H H2 := p3.trans (r3.mono fun j hj => by rw [List.mem_singleton.1 hj]; exact .head _)
  have hlen2 : (x.f.b.take n).length = n := by rw [List.length_take]; omega
  have hsum := h.sum_set hL ha hb ⟨x.f.nm, x.f.b.take n, s⟩
  have hfm : x.f ∈ m.fs := by rw [h.fs]; exact List.mem_map.2 ⟨x, hx, rfl⟩
  have hs0 := h.ok.sum
  obtain ⟨q1, q2⟩ := h.setFile (f := ⟨x.f.nm, x.f.b.take n, s⟩) hL ha hb rfl hout (fun j hj => hj) r2 r4 (fun j hj => .inl (s3 j hj)) (rid_nd _) (by simp only; omega) (fun c hc => h.ok.byte x.f hfm c (List.mem_of_mem_take hc))
    (by simp only at hsum ⊢; omega)
  refine ⟨sl, H1, H2, _, s1, p1, p2.ld rfl, p2.ld (o := 1) rfl, ?_, r1, q1, q2, rfl, rfl, fun j hj => ?_, hout⟩
  · have := s2.rw.len1
    rw [bs_len, hlen2] at this
    exact this
  · obtain ⟨y, hy, hj⟩ := hj
    rcases List.mem_append.1 hy with hy | hy
    · exact .inl ⟨y, by rw [hL]; exact List.mem_append_left _ hy, hj⟩
    · rcases List.mem_cons.1 hy with rfl | hy
      · refine .inl ⟨x, hx, ?_⟩
        rcases List.mem_cons.1 hj with rfl | hj
        · exact .head _
        · exact .tail _ (s3 j hj)
      · exact .inl ⟨y, by rw [hL]; exact List.mem_append_right _ (.tail _ hy), hj⟩
end

/-! a fall -/
def kn : List Int → Int
  | [] => 0
  | k :: _ => k
def crashF : List (List Nat) → List Int → List Fl → List Fl
  | [], _, fs => fs
  | n :: ns, keep, fs => match fs.find? (fun f => f.nm == n) with
    | none => fs
    | some f => if f.b.length = f.sure then crashF ns keep fs else crashF ns keep.tail (setF n (cutTo f (f.sure + min (kn keep).toNat (f.b.length - f.sure))) fs)
noncomputable def crashM (m : SM) (keep : List Int) : SM := if m.off = true then m else { m with off := true, fuse := 0, fs := crashF (names m) keep m.fs }
theorem find_setF {fs : List Fl} {n k : List Nat} {g : Fl} (hg : g.nm = n) (h : (fs.find? (fun f => f.nm == k)).isSome = true) : ((setF n g fs).find? (fun f => f.nm == k)).isSome = true := by
  rw [List.find?_isSome] at h ⊢
  obtain ⟨f, hf, he⟩ := h
  unfold setF
  refine ⟨if f.nm = n then g else f, List.mem_map.2 ⟨f, hf, rfl⟩, ?_⟩
  split
  · rename_i q; rw [hg, ← q]; exact he
  · exact he
theorem crash_loop (j7 : Am.K.Fn 1) (p : Nat) (x : AV) (all : List (List Nat)) (hall : all.length ≤ 1000000) : ∀ (rest : List (List Nat)) (i : Nat) (H : Hp) (m : SM) (L : Lay) (kv : AV) (kl : List Int), St H p m L → Rw H 1 x (strs all) → (∀ j ∈ rid x, ¬ inF L j) →
    i + rest.length = all.length → all.drop i = rest → Rw H 1 kv (ints kl) → (∀ j ∈ rid kv, ¬ inF L j) → (∀ n ∈ rest, (look m n).isSome = true) →
    ∃ H' L', l_store_Store_Crash JN GO cK j7 (.ptr p 0) kv x (.int .i64 all.length) (.int .i64 i) H = j7 (.ptr p 0) H' ∧ St H' p { m with fs := crashF rest kl m.fs } L' ∧ Go' p H L H' L' ∧ L'.keep = L.keep
  | [], i, H, m, L, kv, kl, h, hx, hxd, hi, hd, hk, hkd, hl => by
    refine ⟨H, L, ?_, h, Go'.refl _ _ _, rfl⟩
    rw [ql_store_Store_Crash]
    have : decide ((i : Int) < (all.length : Int)) = false := by simp only [List.length_nil] at hi; simp; omega
    simp only [this, JN_0, JN_1, JN_2, JN_3, JN_4, JN_5, JN_6, JN_7, JN_8, JN_9, JN_10, JN_11, JN_12, JN_13, JN_14, JN_15, JN_16, JN_17, JN_18, JN_19, JN_20, JN_21, JN_22, JN_23, JN_24, B1_s, B2_s, BN_s, CD_t, CD_f, GO_tt, GO_ft, GO_tf, GO_ff, GO_ut, GO_uf, GD2_tt, GD2_ft, GD2_tf, GD2_ff, pk_t, pk_f, nilA_p, nilA_i, fa_p, fd_a, ex_t, iadd_i, isub_i, imul_i, ieq_i, ine_i, ilt_i, ile_i, igt_i, ige_i, seq_s, sne_s, slt_s, lens_s, lenx_0, lenx_s, not_b, bb_e, bb_n, cv_i, pe_00, pe_0p, pe_p0, eqB_e, eqB_n, List.getElem?_cons_zero, List.getElem?_cons_succ, Nat.zero_add, Bool.not_true, Bool.not_false, decide_true, decide_false, Int.reduceBEq, Int.reduceBNe, Int.reduceLT, Int.reduceLE, Int.reduceGT, Int.reduceGE, Int.reduceNeg, BEq.rfl, bne_self_eq_false, ge_iff_le, gt_iff_lt]
  | n :: ns, i, H, m, L, kv, kl, h, hx, hxd, hi, hd, hk, hkd, hl => by
    simp only [List.length_cons] at hi
    have hlt : decide ((i : Int) < (all.length : Int)) = true := by simp; omega
    have hn : all[i]? = some n := by
      have := congrArg (fun l => l[0]?) hd
      simpa using this
    obtain ⟨q, hq1, hq2⟩ := hx.ia1 (i := i) (v := .str n) (by unfold strs; rw [List.getElem?_map, hn]; rfl) .i64
    have hd' : all.drop (i + 1) = ns := by
      have := congrArg (List.drop 1) hd
      rw [List.drop_drop] at this
      simpa using this
    have hw : IntKind.wrap .i64 ((i : Int) + 1) = ((i + 1 : Nat) : Int) := by rw [wrap_i64 (by omega) (by omega)]; omega
    have h1 := h.ld_map
    have h2 := h.lkp n
    have hln := hl n (.head _)
    rcases h.lookC n with ⟨r1, r2, r3⟩ | ⟨a, fc, b, r1, r2, r3, r4, r5, r6⟩
    · rw [r2] at hln; cases hln
    have hfx : fc ∈ L.cs := by rw [r1]; simp
    have hfm : fc.f ∈ m.fs := by rw [h.fs]; exact List.mem_map.2 ⟨fc, hfx, rfl⟩
    obtain ⟨hf1, hf2⟩ := h.file fc hfx
    have hld0 := hf1.ld (o := 0) rfl
    have hld1 := hf1.ld (o := 1) rfl
    have hlen := hf2.rw.len1
    rw [bs_len] at hlen
    have hsure := h.ok.sure _ hfm
    have hbig : fc.f.b.length ≤ 16777216 := by
      have := len_le hfm; have := h.ok.sum; have := h.ok.room; omega
    have hwr : IntKind.wrap .i64 ((fc.f.b.length : Int) - (fc.f.sure : Int)) = ((fc.f.b.length - fc.f.sure : Nat) : Int) := by rw [wrap_i64 (by omega) (by omega)]; omega
    rw [ql_store_Store_Crash]
    by_cases heq : fc.f.b.length = fc.f.sure
    · have hz : (((fc.f.b.length - fc.f.sure : Nat) : Int) == 0) = true := by rw [heq]; simp
      obtain ⟨H', L', e1, e2, e3, e4⟩ := crash_loop j7 p x all hall ns (i + 1) H m L kv kl h hx hxd (by omega) hd' hk hkd fun k hk => hl k (.tail _ hk)
      refine ⟨H', L', ?_, ?_, e3, e4⟩
      · simp only [hlt, hq1, hq2, h1, h2, r5, hld0, hld1, hlen, hwr, hz, hw, e1, JN_0, JN_1, JN_2, JN_3, JN_4, JN_5, JN_6, JN_7, JN_8, JN_9, JN_10, JN_11, JN_12, JN_13, JN_14, JN_15, JN_16, JN_17, JN_18, JN_19, JN_20, JN_21, JN_22, JN_23, JN_24, B1_s, B2_s, BN_s, CD_t, CD_f, GO_tt, GO_ft, GO_tf, GO_ff, GO_ut, GO_uf, GD2_tt, GD2_ft, GD2_tf, GD2_ff, pk_t, pk_f, nilA_p, nilA_i, fa_p, fd_a, ex_t, iadd_i, isub_i, imul_i, ieq_i, ine_i, ilt_i, ile_i, igt_i, ige_i, seq_s, sne_s, slt_s, lens_s, lenx_0, lenx_s, not_b, bb_e, bb_n, cv_i, pe_00, pe_0p, pe_p0, eqB_e, eqB_n, List.getElem?_cons_zero, List.getElem?_cons_succ, Nat.zero_add, Bool.not_true, Bool.not_false, decide_true, decide_false, Int.reduceBEq, Int.reduceBNe, Int.reduceLT, Int.reduceLE, Int.reduceGT, Int.reduceGE, Int.reduceNeg, BEq.rfl, bne_self_eq_false, ge_iff_le, gt_iff_lt]
      · have : crashF (n :: ns) kl m.fs = crashF ns kl m.fs := by
          show (match look m n with | none => m.fs | some f => _) = _
          rw [r6]; simp only; rw [if_pos heq]
        rw [this]; exact e2
    · have hz : (((fc.f.b.length - fc.f.sure : Nat) : Int) == 0) = false := by simp; omega
      obtain ⟨sl, H1, H2, L2, c1, c2, c3, c3', c4, c5, c6, c7, c8, c9, c10, c11⟩ := h.cut r1 (by rw [r2]; exact r3) (by rw [r2]; exact r4) (n := fc.f.sure + min (kn kl).toNat (fc.f.b.length - fc.f.sure)) (s := fc.f.sure + min (kn kl).toNat (fc.f.b.length - fc.f.sure)) (by omega) (Nat.le_refl _)
      have hwa : IntKind.wrap .i64 ((fc.f.sure : Int) + ((min (kn kl).toNat (fc.f.b.length - fc.f.sure) : Nat) : Int)) = ((fc.f.sure + min (kn kl).toNat (fc.f.b.length - fc.f.sure) : Nat) : Int) := by rw [wrap_i64 (by omega) (by omega)]; omega
      have hout : ∀ y : AV, (∀ j ∈ rid y, ¬ inF L j) → ∀ j ∈ rid y, j ∉ fc.ids := fun y hy j hj q => hy j hj ⟨fc, hfx, q⟩
      have hx2 := hx.out c11 (hout x hxd)
      have away : ∀ (y : AV) (l : List AV), Rw H 1 y l → (∀ j ∈ rid y, ¬ inF L j) → ∀ j ∈ rid y, ¬ inF L2 j := fun y l hy hyd j hj q => by
        rcases c10 j q with q | q
        · exact hyd j hj q
        · have := hy.lt j hj; omega
      have hl2 : ∀ k ∈ ns, (look { m with fs := setF fc.f.nm ⟨fc.f.nm, fc.f.b.take (fc.f.sure + min (kn kl).toNat (fc.f.b.length - fc.f.sure)), fc.f.sure + min (kn kl).toNat (fc.f.b.length - fc.f.sure)⟩ m.fs } k).isSome = true :=
        fun k hk => find_setF rfl (hl k (.tail _ hk))
      have hcf : crashF (n :: ns) kl m.fs = crashF ns kl.tail (setF fc.f.nm ⟨fc.f.nm, fc.f.b.take (fc.f.sure + min (kn kl).toNat (fc.f.b.length - fc.f.sure)), fc.f.sure + min (kn kl).toNat (fc.f.b.length - fc.f.sure)⟩ m.fs) := by
        show (match look m n with | none => m.fs | some f => _) = _
        rw [r6]; simp only; rw [if_neg heq, ← r2]; rfl
      cases kl with
      | nil =>
        have hk0 : lenx kv = some (.int .i64 0) := by
          have := hk.len1
          exact this
        obtain ⟨H', L', e1, e2, e3, e4⟩ := crash_loop j7 p x all hall ns (i + 1) H2 _ L2 kv [] c6 hx2 (away x _ hx hxd) (by omega) hd' (hk.out c11 (hout kv hkd)) (away kv _ hk hkd) hl2
        refine ⟨H', L', ?_, by rw [hcf]; exact e2, c7.trans e3, e4.trans c8⟩
        have hwa0 : IntKind.wrap .i64 ((fc.f.sure : Int) + 0) = ((fc.f.sure + min (kn []).toNat (fc.f.b.length - fc.f.sure) : Nat) : Int) := by rw [wrap_i64 (by omega) (by omega)]; simp [kn]
        have hf0 : decide ((0 : Int) < 0) = false := rfl
        simp only [hlt, hq1, hq2, h1, h2, r5, hld0, hld1, hlen, hwr, hz, hw, hk0, hf0, hwa0, c1, c2, c3, c4, c5, e1, JN_0, JN_1, JN_2, JN_3, JN_4, JN_5, JN_6, JN_7, JN_8, JN_9, JN_10, JN_11, JN_12, JN_13, JN_14, JN_15, JN_16, JN_17, JN_18, JN_19, JN_20, JN_21, JN_22, JN_23, JN_24, B1_s, B2_s, BN_s, CD_t, CD_f, GO_tt, GO_ft, GO_tf, GO_ff, GO_ut, GO_uf, GD2_tt, GD2_ft, GD2_tf, GD2_ff, pk_t, pk_f, nilA_p, nilA_i, fa_p, fd_a, ex_t, iadd_i, isub_i, imul_i, ieq_i, ine_i, ilt_i, ile_i, igt_i, ige_i, seq_s, sne_s, slt_s, lens_s, lenx_0, lenx_s, not_b, bb_e, bb_n, cv_i, pe_00, pe_0p, pe_p0, eqB_e, eqB_n, List.getElem?_cons_zero, List.getElem?_cons_succ, Nat.zero_add, Bool.not_true, Bool.not_false, decide_true, decide_false, Int.reduceBEq, Int.reduceBNe, Int.reduceLT, Int.reduceLE, Int.reduceGT, Int.reduceGE, Int.reduceNeg, BEq.rfl, bne_self_eq_false, ge_iff_le, gt_iff_lt]
      | cons k ks =>
        have hk1 : lenx kv = some (.int .i64 ((ks.length + 1 : Nat) : Int)) := by
          have := hk.len1
          unfold ints at this
          rw [List.length_map] at this
          exact this
        have hpos : decide ((0 : Int) < ((ks.length + 1 : Nat) : Int)) = true := decide_eq_true (by omega)
        obtain ⟨qk, hk2, hk3⟩ := hk.ia1 (i := 0) (v := .int .i64 k) rfl .i64
        have hkl : (ints (k :: ks)).length = (ks.length + 1) * 1 := by unfold ints; simp
        obtain ⟨kv', k1, k2, k3⟩ := sll_rw hk hkl (by omega) (a := 1) (b := ks.length + 1) (lo := some (.int .i64 1)) (hi := none) (by omega) (Nat.le_refl _) (Bd.yes .i64 1 0) (Bd.no _)
        have hkv' : Rw H 1 kv' (ints ks) := by
          have : ((ints (k :: ks)).drop (1 * 1)).take ((ks.length + 1 - 1) * 1) = ints ks := by
            unfold ints
            simp only [List.map_cons, Nat.mul_one, List.drop_succ_cons, List.drop_zero, Nat.add_sub_cancel]
            rw [List.take_of_length_le (by simp)]
          rw [this] at k2; exact k2
        have hkd' : ∀ j ∈ rid kv', ¬ inF L j := fun j hj => hkd j (k3 j hj)
        obtain ⟨H', L', e1, e2, e3, e4⟩ := crash_loop j7 p x all hall ns (i + 1) H2 _ L2 kv' ks c6 hx2 (away x _ hx hxd) (by omega) hd' (hkv'.out c11 (hout kv' hkd')) (away kv' _ hkv' hkd') hl2
        refine ⟨H', L', ?_, by rw [hcf]; exact e2, c7.trans e3, e4.trans c8⟩
        have hmx : (if ((if k < 0 then (0 : Int) else k)) > ((fc.f.b.length - fc.f.sure : Nat) : Int) then ((fc.f.b.length - fc.f.sure : Nat) : Int) else (if k < 0 then (0 : Int) else k)) = ((min (kn (k :: ks)).toNat (fc.f.b.length - fc.f.sure) : Nat) : Int) := by
          simp only [kn]
          split <;> split <;> omega
        simp only [gt_iff_lt] at hmx
        have hk2' : ia 1 kv (.int .i64 0) = some qk := hk2
        simp only [hlt, hq1, hq2, h1, h2, r5, hld0, hld1, hlen, hwr, hz, hw, hk1, hpos, hk2', hk3, max_i, min_i, hmx, k1, hwa, c1, c2, c3, c4, c5, e1, JN_0, JN_1, JN_2, JN_3, JN_4, JN_5, JN_6, JN_7, JN_8, JN_9, JN_10, JN_11, JN_12, JN_13, JN_14, JN_15, JN_16, JN_17, JN_18, JN_19, JN_20, JN_21, JN_22, JN_23, JN_24, B1_s, B2_s, BN_s, CD_t, CD_f, GO_tt, GO_ft, GO_tf, GO_ff, GO_ut, GO_uf, GD2_tt, GD2_ft, GD2_tf, GD2_ff, pk_t, pk_f, nilA_p, nilA_i, fa_p, fd_a, ex_t, iadd_i, isub_i, imul_i, ieq_i, ine_i, ilt_i, ile_i, igt_i, ige_i, seq_s, sne_s, slt_s, lens_s, lenx_0, lenx_s, not_b, bb_e, bb_n, cv_i, pe_00, pe_0p, pe_p0, eqB_e, eqB_n, List.getElem?_cons_zero, List.getElem?_cons_succ, Nat.zero_add, Bool.not_true, Bool.not_false, decide_true, decide_false, Int.reduceBEq, Int.reduceBNe, Int.reduceLT, Int.reduceLE, Int.reduceGT, Int.reduceGE, Int.reduceNeg, BEq.rfl, bne_self_eq_false, ge_iff_le, gt_iff_lt]
section
variable {H : Hp} {p : Nat} {m : SM} {L : Lay}
theorem St.notF (h : St H p m L) : ¬ inF L p ∧ ¬ inF L L.mid ∧ ∀ j ∈ rid L.keep, ¬ inF L j := by
  have hnd := h.nd
  unfold foot at hnd
  rw [List.nodup_cons, List.nodup_cons, List.nodup_append] at hnd
  obtain ⟨n1, n2, n3, n4, n5⟩ := hnd
  refine ⟨fun ⟨y, hy, hj⟩ => n1 (.tail _ (List.mem_append_right _ (List.mem_flatMap.2 ⟨y, hy, hj⟩))), fun ⟨y, hy, hj⟩ => n2 (List.mem_append_right _ (List.mem_flatMap.2 ⟨y, hy, hj⟩)), fun j hj ⟨y, hy, hk⟩ => n5 _ hj _ (List.mem_flatMap.2 ⟨y, hy, hk⟩) rfl⟩
theorem St.keep_p (h : St H p m L) : p ∉ rid L.keep := by
  have hnd := h.nd
  unfold foot at hnd
  rw [List.nodup_cons] at hnd
  exact fun q => hnd.1 (.tail _ (List.mem_append_left _ q))
theorem names_mem (h : St H p m L) : ∀ n ∈ names m, (look m n).isSome = true := by
  intro n hn
  unfold names at hn
  rw [sortN_mem] at hn
  obtain ⟨f, hf, rfl⟩ := List.mem_map.1 hn
  unfold look
  rw [List.find?_isSome]
  exact ⟨f, hf, by simp⟩
theorem crash_c (h : St H p m L) {kv : AV} {kl : List Int} (hk : Rw H 1 kv (ints kl)) (hkd : ∀ j ∈ rid kv, ¬ inF L j) :
    ∃ H' L', cK (.func (.func 13) [] []) [.ptr p 0, kv] H = some (.tuple [], H') ∧ St H' p (crashM m kl) L' ∧ Go' p H L H' L' := by
  have h2 := h.ld_off
  cases ho : m.off with
  | true =>
    rw [ho] at h2
    refine ⟨H, L, c_store_Store_Crash ?_, by unfold crashM; rw [if_pos ho]; exact h, Go'.refl _ _ _⟩
    unfold s_store_Store_Crash
    simp only [h2, JN_0, JN_1, JN_2, JN_3, JN_4, JN_5, JN_6, JN_7, JN_8, JN_9, JN_10, JN_11, JN_12, JN_13, JN_14, JN_15, JN_16, JN_17, JN_18, JN_19, JN_20, JN_21, JN_22, JN_23, JN_24, B1_s, B2_s, BN_s, CD_t, CD_f, GO_tt, GO_ft, GO_tf, GO_ff, GO_ut, GO_uf, GD2_tt, GD2_ft, GD2_tf, GD2_ff, pk_t, pk_f, nilA_p, nilA_i, fa_p, fd_a, ex_t, iadd_i, isub_i, imul_i, ieq_i, ine_i, ilt_i, ile_i, igt_i, ige_i, seq_s, sne_s, slt_s, lens_s, lenx_0, lenx_s, not_b, bb_e, bb_n, cv_i, pe_00, pe_0p, pe_p0, eqB_e, eqB_n, List.getElem?_cons_zero, List.getElem?_cons_succ, Nat.zero_add, Bool.not_true, Bool.not_false, decide_true, decide_false, Int.reduceBEq, Int.reduceBNe, Int.reduceLT, Int.reduceLE, Int.reduceGT, Int.reduceGE, Int.reduceNeg, BEq.rfl, bne_self_eq_false, ge_iff_le, gt_iff_lt]
  | false =>
    rw [ho] at h2
    obtain ⟨x, H1, n1, n2, n3, n4, n5⟩ := names_c h
    have h1 := h.out n3 fun j _ q => by cases q
    have hlt := h.lt
    have hnl : (names m).length ≤ 1000000 := by
      unfold names
      rw [sortN_len, List.length_map]
      have := h.ok.many; omega
    obtain ⟨H2, L2, e1, e2, e3, e4⟩ := crash_loop (fun x118 h119 =>
        B1 (nilA x118) fun v120 =>
        B1 (fa 2 v120) fun v121 =>
        B1 (st 1 v121 (.bool true) h119) fun h122 =>
        B1 (nilA x118) fun v123 =>
        B1 (fa 3 v123) fun v124 =>
        B1 (st 1 v124 (.int .i64 0) h122) fun h125 =>
        some (.tuple [], h125)) p x (names m) hnl (names m) 0 H1 m L kv kl h1 n2 (fun j hj ⟨y, hy, q⟩ => by
          have := n4 j hj
          have := hlt j (St.mem_file hy q); omega) (by simp) rfl (hk.out n3 fun j _ q => by cases q) hkd (names_mem h)
    obtain ⟨H3, a1, a2, a3, a4⟩ := e2.head.st (o := 2) (v := .bool true) (by simp) rfl
    obtain ⟨H4, b1, b2, b3, b4⟩ := a2.st (o := 3) (v := .int .i64 ((0 : Nat) : Int)) (by simp) rfl
    have ho2 : Out [p] H2 H4 := a3.trans b3
    have hk2 := e2.keep.out ho2 fun j hj q => e2.keep_p (by rw [List.mem_singleton.1 q] at hj; exact hj)
    obtain ⟨q1, q2⟩ := e2.setHead (off := true) (fuse := 0) (keep := L2.keep) (kl := m.keep) b2 (by omega) ho2 (fun j hj => .inl (by simpa using hj)) hk2 (fun j hj => .inl hj) (rid_nd _)
    have hgo : Go' p H L H1 L := ⟨n3.mono (fun j hj => by cases hj), fun j hj => .inl hj⟩
    refine ⟨H4, L2, c_store_Store_Crash ?_, ?_, (hgo.trans e3).trans q2⟩
    · unfold s_store_Store_Crash
      have b1' : st 1 (.ptr p 3) (.int .i64 0) H3 = some H4 := b1
      have e1' : l_store_Store_Crash JN GO cK (fun x118 h119 =>
        B1 (nilA x118) fun v120 =>
        B1 (fa 2 v120) fun v121 =>
        B1 (st 1 v121 (.bool true) h119) fun h122 =>
        B1 (nilA x118) fun v123 =>
        B1 (fa 3 v123) fun v124 =>
        B1 (st 1 v124 (.int .i64 0) h122) fun h125 =>
        some (.tuple [], h125)) (.ptr p 0) kv x (.int .i64 (names m).length) (.int .i64 0) H1 = some (.tuple [], H4) := by
        refine e1.trans ?_
        simp only [a1, b1', JN_0, JN_1, JN_2, JN_3, JN_4, JN_5, JN_6, JN_7, JN_8, JN_9, JN_10, JN_11, JN_12, JN_13, JN_14, JN_15, JN_16, JN_17, JN_18, JN_19, JN_20, JN_21, JN_22, JN_23, JN_24, B1_s, B2_s, BN_s, CD_t, CD_f, GO_tt, GO_ft, GO_tf, GO_ff, GO_ut, GO_uf, GD2_tt, GD2_ft, GD2_tf, GD2_ff, pk_t, pk_f, nilA_p, nilA_i, fa_p, fd_a, ex_t, iadd_i, isub_i, imul_i, ieq_i, ine_i, ilt_i, ile_i, igt_i, ige_i, seq_s, sne_s, slt_s, lens_s, lenx_0, lenx_s, not_b, bb_e, bb_n, cv_i, pe_00, pe_0p, pe_p0, eqB_e, eqB_n, List.getElem?_cons_zero, List.getElem?_cons_succ, Nat.zero_add, Bool.not_true, Bool.not_false, decide_true, decide_false, Int.reduceBEq, Int.reduceBNe, Int.reduceLT, Int.reduceLE, Int.reduceGT, Int.reduceGE, Int.reduceNeg, BEq.rfl, bne_self_eq_false, ge_iff_le, gt_iff_lt]
      simp only [h2, n1, n5, JN_0, JN_1, JN_2, JN_3, JN_4, JN_5, JN_6, JN_7, JN_8, JN_9, JN_10, JN_11, JN_12, JN_13, JN_14, JN_15, JN_16, JN_17, JN_18, JN_19, JN_20, JN_21, JN_22, JN_23, JN_24, B1_s, B2_s, BN_s, CD_t, CD_f, GO_tt, GO_ft, GO_tf, GO_ff, GO_ut, GO_uf, GD2_tt, GD2_ft, GD2_tf, GD2_ff, pk_t, pk_f, nilA_p, nilA_i, fa_p, fd_a, ex_t, iadd_i, isub_i, imul_i, ieq_i, ine_i, ilt_i, ile_i, igt_i, ige_i, seq_s, sne_s, slt_s, lens_s, lenx_0, lenx_s, not_b, bb_e, bb_n, cv_i, pe_00, pe_0p, pe_p0, eqB_e, eqB_n, List.getElem?_cons_zero, List.getElem?_cons_succ, Nat.zero_add, Bool.not_true, Bool.not_false, decide_true, decide_false, Int.reduceBEq, Int.reduceBNe, Int.reduceLT, Int.reduceLE, Int.reduceGT, Int.reduceGE, Int.reduceNeg, BEq.rfl, bne_self_eq_false, ge_iff_le, gt_iff_lt]
      exact e1'
    · unfold crashM
      rw [if_neg (by rw [ho]; simp)]
      exact q1
/-- a call that would be done, counted -/
def burnB (m : SM) : Bool := m.fuse != 1
noncomputable def burnM (m : SM) : SM := if m.fuse = 0 then m else if m.fuse = 1 then crashM { m with fuse := 0 } m.keep else { m with fuse := m.fuse - 1 }
theorem burn_c (h : St H p m L) : ∃ H' L', cK (.func (.func 45) [] []) [.ptr p 0] H = some (.bool (burnB m), H') ∧ St H' p (burnM m) L' ∧ Go' p H L H' L' ∧ (burnB m = true → L' = L ∧ Out [p] H H' ∧ (burnM m).fs = m.fs ∧ (burnM m).room = m.room ∧ (burnM m).off = m.off ∧ (burnM m).keep = m.keep) := by
  have h3 := h.ld_fuse
  by_cases h0 : m.fuse = 0
  · have hB : burnB m = true := by simp [burnB, h0]
    refine ⟨H, L, c_store_Store_burn ?_, by unfold burnM; rw [if_pos h0]; exact h, Go'.refl _ _ _, fun _ => ⟨rfl, Out.refl _ _, by unfold burnM; rw [if_pos h0], by unfold burnM; rw [if_pos h0], by unfold burnM; rw [if_pos h0], by unfold burnM; rw [if_pos h0]⟩⟩
    unfold s_store_Store_burn
    have : ((m.fuse : Int) == 0) = true := by rw [h0]; rfl
    simp only [h3, this, hB, JN_0, JN_1, JN_2, JN_3, JN_4, JN_5, JN_6, JN_7, JN_8, JN_9, JN_10, JN_11, JN_12, JN_13, JN_14, JN_15, JN_16, JN_17, JN_18, JN_19, JN_20, JN_21, JN_22, JN_23, JN_24, B1_s, B2_s, BN_s, CD_t, CD_f, GO_tt, GO_ft, GO_tf, GO_ff, GO_ut, GO_uf, GD2_tt, GD2_ft, GD2_tf, GD2_ff, pk_t, pk_f, nilA_p, nilA_i, fa_p, fd_a, ex_t, iadd_i, isub_i, imul_i, ieq_i, ine_i, ilt_i, ile_i, igt_i, ige_i, seq_s, sne_s, slt_s, lens_s, lenx_0, lenx_s, not_b, bb_e, bb_n, cv_i, pe_00, pe_0p, pe_p0, eqB_e, eqB_n, List.getElem?_cons_zero, List.getElem?_cons_succ, Nat.zero_add, Bool.not_true, Bool.not_false, decide_true, decide_false, Int.reduceBEq, Int.reduceBNe, Int.reduceLT, Int.reduceLE, Int.reduceGT, Int.reduceGE, Int.reduceNeg, BEq.rfl, bne_self_eq_false, ge_iff_le, gt_iff_lt]
  · have hz : ((m.fuse : Int) == 0) = false := by simp; omega
    have hf := h.ok.fuse
    have hw : IntKind.wrap .i64 ((m.fuse : Int) - 1) = ((m.fuse - 1 : Nat) : Int) := by rw [wrap_i64 (by omega) (by omega)]; omega
    obtain ⟨H1, a1, a2, a3, a4⟩ := h.head.st (o := 3) (v := .int .i64 ((m.fuse - 1 : Nat) : Int)) (by simp) rfl
    have hk1 := h.keep.out a3 fun j hj q => h.keep_p (by rw [List.mem_singleton.1 q] at hj; exact hj)
    obtain ⟨q1, q2⟩ := h.setHead (off := m.off) (fuse := m.fuse - 1) (keep := L.keep) (kl := m.keep) a2 (by omega) a3 (fun j hj => .inl (by simpa using hj)) hk1 (fun j hj => .inl hj) (rid_nd _)
    have hld : ld (.ptr p 3) H1 = some (.int .i64 ((m.fuse - 1 : Nat) : Int)) := a2.ld (o := 3) rfl
    have hld4 : ld (.ptr p 4) H1 = some L.keep := a2.ld (o := 4) rfl
    by_cases h1 : m.fuse = 1
    · have hB : burnB m = false := by simp [burnB, h1]
      have hn : decide ((0 : Int) < ((m.fuse - 1 : Nat) : Int)) = false := decide_eq_false (by omega)
      obtain ⟨H2, L2, c1, c2, c3⟩ := crash_c q1 (kv := L.keep) (kl := m.keep) hk1 q1.notF.2.2
      refine ⟨H2, L2, c_store_Store_burn ?_, ?_, q2.trans c3, fun q => by rw [hB] at q; cases q⟩
      · unfold s_store_Store_burn
        simp only [h3, hz, hw, a1, hld, hn, hld4, c1, hB, JN_0, JN_1, JN_2, JN_3, JN_4, JN_5, JN_6, JN_7, JN_8, JN_9, JN_10, JN_11, JN_12, JN_13, JN_14, JN_15, JN_16, JN_17, JN_18, JN_19, JN_20, JN_21, JN_22, JN_23, JN_24, B1_s, B2_s, BN_s, CD_t, CD_f, GO_tt, GO_ft, GO_tf, GO_ff, GO_ut, GO_uf, GD2_tt, GD2_ft, GD2_tf, GD2_ff, pk_t, pk_f, nilA_p, nilA_i, fa_p, fd_a, ex_t, iadd_i, isub_i, imul_i, ieq_i, ine_i, ilt_i, ile_i, igt_i, ige_i, seq_s, sne_s, slt_s, lens_s, lenx_0, lenx_s, not_b, bb_e, bb_n, cv_i, pe_00, pe_0p, pe_p0, eqB_e, eqB_n, List.getElem?_cons_zero, List.getElem?_cons_succ, Nat.zero_add, Bool.not_true, Bool.not_false, decide_true, decide_false, Int.reduceBEq, Int.reduceBNe, Int.reduceLT, Int.reduceLE, Int.reduceGT, Int.reduceGE, Int.reduceNeg, BEq.rfl, bne_self_eq_false, ge_iff_le, gt_iff_lt]
      · unfold burnM
        rw [if_neg h0, if_pos h1]
        have : m.fuse - 1 = 0 := by omega
        rw [this] at c2; exact c2
    · have hB : burnB m = true := by simp [burnB, h1]
      have hn : decide ((0 : Int) < ((m.fuse - 1 : Nat) : Int)) = true := decide_eq_true (by omega)
      have hbm : burnM m = { m with fuse := m.fuse - 1 } := by unfold burnM; rw [if_neg h0, if_neg h1]
      refine ⟨H1, L, c_store_Store_burn ?_, by rw [hbm]; exact q1, q2, fun _ => ⟨rfl, a3, by rw [hbm], by rw [hbm], by rw [hbm], by rw [hbm]⟩⟩
      unfold s_store_Store_burn
      simp only [h3, hz, hw, a1, hld, hn, hB, JN_0, JN_1, JN_2, JN_3, JN_4, JN_5, JN_6, JN_7, JN_8, JN_9, JN_10, JN_11, JN_12, JN_13, JN_14, JN_15, JN_16, JN_17, JN_18, JN_19, JN_20, JN_21, JN_22, JN_23, JN_24, B1_s, B2_s, BN_s, CD_t, CD_f, GO_tt, GO_ft, GO_tf, GO_ff, GO_ut, GO_uf, GD2_tt, GD2_ft, GD2_tf, GD2_ff, pk_t, pk_f, nilA_p, nilA_i, fa_p, fd_a, ex_t, iadd_i, isub_i, imul_i, ieq_i, ine_i, ilt_i, ile_i, igt_i, ige_i, seq_s, sne_s, slt_s, lens_s, lenx_0, lenx_s, not_b, bb_e, bb_n, cv_i, pe_00, pe_0p, pe_p0, eqB_e, eqB_n, List.getElem?_cons_zero, List.getElem?_cons_succ, Nat.zero_add, Bool.not_true, Bool.not_false, decide_true, decide_false, Int.reduceBEq, Int.reduceBNe, Int.reduceLT, Int.reduceLE, Int.reduceGT, Int.reduceGE, Int.reduceNeg, BEq.rfl, bne_self_eq_false, ge_iff_le, gt_iff_lt]
end
end Go.Proofs.YtbdlbhlhnpblpaaGreatDoor.StC
