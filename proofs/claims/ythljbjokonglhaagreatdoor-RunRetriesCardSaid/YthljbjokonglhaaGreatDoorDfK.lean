/- Plain forms of functions, printed by a program of our own, and that the evaluator's reading of each is its plain form (of no conditions). -/
import Derived.Test.YthljbjokonglhaaGreatDoorDfEnv
namespace Go.Proofs.YthljbjokonglhaaGreatDoor.DfK
open Go Am Am.K DfEnv
set_option linter.unusedVariables false
set_option maxRecDepth 100000
noncomputable section
noncomputable abbrev P : Program := Tryz.prog
noncomputable def an (g : Nat) : An :=
  bif Nat.beq g 28 then (.sq none .nl (.sq none .nl .nl)) else
  bif Nat.beq g 62 then (.sq none .nl (.sq none (.sq none .nl (.cd (.sq none .nl .nl) .nl)) (.sq (some [0, 1, 2, 3]) (.sq none .nl (.cd (.sq none .nl .nl) .nl)) (.sq (some [0, 1, 2, 3]) (.sq none .nl (.cd .nl .nl)) (.sq (some [0, 1, 2, 3]) .nl (.sq none .nl (.sq none .nl (.sq none .nl (.sq (some [0, 9, 10]) (.bl (some [0, 9, 10]) (.lp [0, 1, 2, 3, 9, 10] (.sq none (.sq none .nl (.cd .nl .nl)) (.bl none (.sq none .nl (.sq none (.sq none .nl (.cd .nl .nl)) (.sq (some [0, 1, 2, 3, 9, 10, 11]) .nl (.sq (some [0, 1, 2, 3, 9, 10]) .nl .nl)))))))) (.sq (some [9, 10]) .nl (.sq none .nl .nl))))))))))) else
  bif Nat.beq g 91 then (.sq none .nl (.sq (some [0, 1]) (.sq none .nl (.cd (.sq none .nl .nl) .nl)) (.sq (some [0, 1]) (.sq none .nl (.cd (.sq none .nl .nl) .nl)) (.sq none .nl (.bl (some [4]) (.lp [0, 1, 5] (.bl none (.sq none .nl (.sq none (.sq none .nl (.cd (.sq none .nl .nl) .nl)) (.sq none .nl .nl)))))))))) else
  bif Nat.beq g 92 then (.sq none .nl (.sq none .nl .nl)) else
  bif Nat.beq g 63 then (.sq none .nl (.sq none .nl .nl)) else
  bif Nat.beq g 31 then (.sq none .nl (.sq (some [0, 1]) (.sq none .nl (.bl none (.sq none .nl (.cd (.sq none .nl .nl) (.sq none .nl (.cd (.sq none .nl .nl) .nl)))))) (.sq none .nl (.sq (some [0, 1, 5]) (.sq none .nl (.cd (.sq (some [0, 1, 5]) (.sq (some [0, 1, 5, 29]) .nl (.cd .nl .nl)) .nl) .nl)) (.sq (some [0, 1, 5]) (.sq none .nl (.bl (some [0, 1, 5]) (.lp [0, 1, 5, 39, 40, 41] (.sq none .nl (.sq none (.cd .nl .nl) (.sq (some [0, 1, 5, 39, 40, 41]) (.bl none (.sq none .nl (.sq (some [0, 1, 5, 7, 39, 40, 41]) (.sq (some [0, 1, 5, 7, 39, 40, 41, 49]) .nl (.cd .nl .nl)) .nl))) .nl)))))) (.sq none .nl (.sq none .nl (.sq none .nl (.sq (some [8]) (.sq none .nl (.bl (some [8]) (.lp [1, 8, 63, 64, 65] (.sq none .nl (.sq none (.cd .nl .nl) (.sq (some [1, 8, 63, 64, 65]) (.bl none (.sq none .nl (.sq none .nl .nl))) .nl)))))) (.sq none .nl .nl)))))))))) else
  bif Nat.beq g 105 then (.sq none .nl (.sq none .nl (.sq (some [0, 1, 5]) (.bl none (.sq (some [0, 1, 5, 16]) .nl (.cd (.sq none .nl .nl) (.sq none .nl (.cd (.sq none .nl .nl) (.sq (some [0, 1, 5, 31]) .nl (.cd (.sq none .nl .nl) (.sq (some [0, 1, 5, 36]) .nl (.cd (.sq none .nl .nl) .nl))))))))) (.sq none .nl (.sq none .nl (.sq none .nl (.sq (some [0, 1, 5, 6, 7, 8, 9]) .nl (.sq none .nl (.sq (some []) (.bl (some []) (.lp [0, 1, 5, 6, 7, 8, 9, 10] (.sq none (.sq none .nl (.cd .nl .nl)) (.bl none (.sq (some [0, 1, 5, 6, 7, 8, 9, 10]) (.sq (some [0, 1, 5, 6, 7, 8, 9, 10, 64]) .nl (.cd (.sq (some [0, 1, 5, 6, 7, 8, 9, 10, 11]) .nl (.sq none (.sq none .nl (.cd (.sq none .nl .nl) .nl)) .nl)) .nl)) (.sq (some [0, 1, 5, 6, 7, 8, 9, 10]) (.sq (some [0, 1, 5, 6, 7, 8, 9, 10, 93]) .nl (.cd (.sq none .nl .nl) .nl)) (.sq none .nl (.sq none .nl (.sq (some [0, 1, 5, 6, 7, 8, 9, 10, 107]) .nl (.cd (.sq (some [8, 12]) .nl (.sq (some []) (.sq none .nl (.cd (.sq none .nl .nl) .nl)) (.sq none .nl .nl))) (.sq (some [0, 1, 5, 6, 7, 8, 9, 10, 132]) .nl (.cd (.sq (some [8, 13]) .nl (.sq none (.sq none .nl (.cd (.sq none .nl .nl) .nl)) (.sq none .nl .nl))) .nl)))))))))))) (.sq none .nl .nl)))))))))) else
  bif Nat.beq g 115 then (.sq none .nl (.sq none .nl .nl)) else
  bif Nat.beq g 93 then (.sq none .nl (.sq (some [0]) (.sq none .nl (.sq none .nl (.cd (.sq none .nl .nl) .nl))) (.sq none .nl .nl))) else
  bif Nat.beq g 67 then (.sq none .nl (.sq (some [0, 1]) (.sq none .nl (.cd .nl .nl)) (.sq (some [0, 1, 21]) .nl (.cd .nl .nl)))) else
  bif Nat.beq g 68 then (.sq none .nl (.sq none .nl (.sq (some [1]) .nl (.sq none .nl .nl)))) else
  bif Nat.beq g 69 then (.sq none .nl (.sq none .nl .nl)) else
  bif Nat.beq g 96 then (.sq (some [0, 6]) .nl (.cd .nl (.sq (some [19]) .nl (.cd .nl .nl)))) else
  bif Nat.beq g 97 then (.sq (some [0, 4]) .nl (.sq (some [0, 4]) .nl .nl)) else
  bif Nat.beq g 66 then (.sq none .nl (.sq none .nl .nl)) else
  bif Nat.beq g 95 then (.sq none .nl (.sq none .nl .nl)) else
  bif Nat.beq g 107 then (.sq none .nl (.sq (some [0, 1]) (.sq none .nl (.cd (.sq (some [0]) (.sq (some [0, 17]) .nl (.cd (.sq none .nl .nl) .nl)) (.sq none .nl (.sq none .nl (.sq (some [0, 5, 6]) (.sq none .nl (.cd .nl .nl)) (.sq none .nl (.sq (some [0, 5, 7]) .nl (.sq (some [5, 7]) (.sq none .nl (.cd (.sq none .nl (.sq none .nl .nl)) .nl)) (.sq none .nl .nl)))))))) .nl)) (.sq (some [9]) .nl (.sq none .nl .nl)))) else
  bif Nat.beq g 121 then (.sq none .nl (.sq (some [0]) (.sq none .nl (.cd (.sq none .nl .nl) .nl)) (.sq none .nl .nl))) else
  bif Nat.beq g 122 then (.sq none .nl (.sq none .nl (.sq none .nl .nl))) else
  bif Nat.beq g 145 then (.sq none .nl (.sq none .nl .nl)) else
  bif Nat.beq g 146 then (.sq none .nl (.sq none (.sq none .nl (.cd (.sq none .nl .nl) .nl)) (.sq none .nl .nl))) else
  bif Nat.beq g 64 then (.sq none .nl (.sq (some []) (.sq none .nl (.bl (some []) (.lp [0, 1, 7, 8] (.sq none .nl (.sq none (.cd .nl .nl) (.sq (some [0, 1, 7, 8]) (.bl none (.sq none .nl (.sq (some [0, 1, 5, 7, 8, 16]) .nl (.cd (.sq none .nl .nl) .nl)))) .nl)))))) (.sq none .nl .nl))) else
  bif Nat.beq g 58 then (.sq none .nl (.sq none .nl .nl)) else
  bif Nat.beq g 72 then (.sq none .nl (.sq (some []) (.sq none .nl (.bl (some []) (.lp [0, 3, 7, 8] (.sq none .nl (.sq none (.cd .nl .nl) (.sq (some [0, 3, 7, 8]) (.bl none (.sq none .nl (.sq (some [0, 3, 5, 7, 8, 16]) .nl (.cd (.sq none .nl .nl) .nl)))) .nl)))))) (.sq none .nl .nl))) else
  bif Nat.beq g 42 then (.sq none .nl (.sq none .nl .nl)) else
  bif Nat.beq g 48 then (.sq none .nl (.sq none .nl .nl)) else
  bif Nat.beq g 79 then (.sq none .nl (.sq (some []) (.sq none .nl (.bl (some []) (.lp [0, 1, 7, 8] (.sq none .nl (.sq none (.cd .nl .nl) (.sq (some [0, 1, 7, 8]) (.bl none (.sq none .nl (.sq (some [0, 1, 5, 7, 8, 16]) .nl (.cd (.sq none .nl .nl) .nl)))) .nl)))))) (.sq none .nl .nl))) else
  bif Nat.beq g 80 then (.sq none .nl (.sq (some []) (.sq none .nl (.bl (some []) (.lp [0, 1, 7, 8] (.sq none .nl (.sq none (.cd .nl .nl) (.sq (some [0, 1, 7, 8]) (.bl none (.sq none .nl (.sq (some [0, 1, 5, 7, 8, 16]) .nl (.cd (.sq none .nl .nl) .nl)))) .nl)))))) (.sq none .nl .nl))) else
  bif Nat.beq g 51 then (.sq none .nl (.sq none .nl .nl)) else
  bif Nat.beq g 59 then (.sq none .nl (.sq none .nl .nl)) else
  bif Nat.beq g 82 then (.sq none .nl (.sq (some []) (.sq none .nl (.bl (some []) (.lp [0, 1, 7, 8] (.sq none .nl (.sq none (.cd .nl .nl) (.sq (some [0, 1, 7, 8]) (.bl none (.sq none .nl (.sq (some [0, 1, 5, 7, 8, 16]) .nl (.cd (.sq none .nl .nl) .nl)))) .nl)))))) (.sq none .nl .nl))) else
  bif Nat.beq g 74 then (.sq none .nl (.sq none (.sq none .nl (.cd (.sq none .nl .nl) .nl)) (.sq none .nl .nl))) else
  bif Nat.beq g 75 then (.sq none .nl (.sq none (.sq none .nl (.cd (.sq none .nl .nl) .nl)) (.sq none .nl .nl))) else
  bif Nat.beq g 76 then (.sq none .nl (.sq none (.sq none .nl (.cd (.sq none .nl .nl) .nl)) (.sq none .nl .nl))) else
  bif Nat.beq g 77 then (.sq none .nl (.sq none (.sq none .nl (.cd (.sq none .nl .nl) .nl)) (.sq none .nl .nl))) else
  bif Nat.beq g 54 then (.sq none .nl (.sq (some [0, 1]) (.sq (some [0, 1, 10]) .nl (.cd (.sq none .nl .nl) .nl)) (.sq (some []) (.sq none .nl (.bl (some []) (.lp [0, 1, 12, 13] (.sq none .nl (.sq none (.cd .nl .nl) (.sq (some [0, 1, 12, 13]) (.bl none (.sq none .nl (.sq (some [0, 1, 12, 13, 24]) .nl (.cd (.sq none .nl .nl) .nl)))) .nl)))))) (.sq none .nl .nl)))) else
  bif Nat.beq g 55 then (.sq none .nl (.sq (some [0, 1]) (.sq (some [0, 1, 10]) .nl (.cd (.sq none .nl .nl) .nl)) (.sq (some []) (.sq none .nl (.bl (some []) (.lp [0, 1, 12, 13] (.sq none .nl (.sq none (.cd .nl .nl) (.sq (some [0, 1, 12, 13]) (.bl none (.sq none .nl (.sq (some [0, 1, 12, 13, 24]) .nl (.cd (.sq none .nl .nl) .nl)))) .nl)))))) (.sq none .nl .nl)))) else
  bif Nat.beq g 56 then (.sq none .nl (.sq (some [0, 1]) (.sq (some [0, 1, 10]) .nl (.cd (.sq none .nl .nl) .nl)) (.sq (some []) (.sq none .nl (.bl (some []) (.lp [0, 1, 12, 13] (.sq none .nl (.sq none (.cd .nl .nl) (.sq (some [0, 1, 12, 13]) (.bl none (.sq none .nl (.sq (some [0, 1, 12, 13, 24]) .nl (.cd (.sq none .nl .nl) .nl)))) .nl)))))) (.sq none .nl .nl)))) else
  bif Nat.beq g 57 then (.sq none .nl (.sq (some [0, 1, 2]) (.sq (some [0, 1, 2, 14]) .nl (.cd (.sq none .nl .nl) .nl)) (.sq (some []) (.sq none .nl (.bl (some []) (.lp [1, 2, 15, 16, 17] (.sq none .nl (.sq none (.cd .nl .nl) (.sq (some [1, 2, 15, 16, 17]) (.bl none (.sq (some [1, 2, 7, 8, 15, 16, 17]) .nl (.sq (some [1, 2, 8, 9, 15, 16, 17]) .nl (.sq (some [1, 2, 15, 16, 17, 30]) .nl (.cd (.sq none .nl .nl) .nl))))) .nl)))))) (.sq none .nl .nl)))) else
  bif Nat.beq g 39 then (.sq none .nl (.sq (some [1]) (.sq (some [1, 13]) .nl (.cd (.sq none .nl .nl) .nl)) (.sq none .nl (.sq (some []) (.sq none .nl (.bl (some []) (.lp [1, 3, 16, 17, 18] (.sq none .nl (.sq none (.cd .nl .nl) (.sq (some [1, 3, 16, 17, 18]) (.bl none (.sq none .nl (.sq (some [1, 3, 5, 16, 17, 18]) (.sq (some [1, 3, 5, 16, 17, 18, 45]) .nl (.cd (.sq none .nl .nl) .nl)) .nl))) .nl)))))) (.sq none .nl .nl))))) else
  bif Nat.beq g 70 then (.sq none .nl (.sq none .nl .nl)) else
  bif Nat.beq g 71 then (.sq none .nl (.sq none (.sq none .nl (.cd (.sq none .nl .nl) .nl)) (.sq none .nl (.sq (some [7]) (.sq none .nl (.bl (some [7]) (.lp [1, 2, 7, 14, 15, 16] (.sq none .nl (.sq none (.cd .nl .nl) (.sq (some [1, 2, 7, 14, 15, 16]) (.bl (some [1, 2, 7, 14, 15, 16]) (.sq none .nl (.sq (some [1, 2, 7, 9, 14, 15, 16, 24]) .nl (.cd .nl .nl)))) .nl)))))) (.sq none .nl (.sq none .nl .nl)))))) else
  bif Nat.beq g 49 then (.sq none .nl (.sq none .nl .nl)) else
  bif Nat.beq g 41 then (.sq none .nl (.sq none .nl .nl)) else
  bif Nat.beq g 40 then (.sq none .nl (.sq none .nl (.sq none .nl (.sq (some [5]) (.sq none .nl (.bl (some [5]) (.lp [2, 5, 6, 7] (.sq none (.sq none .nl (.cd .nl .nl)) (.sq (some [2, 5, 6, 7]) (.bl (some [2, 5, 6, 7]) (.sq none .nl (.sq (some [2, 5, 7, 8]) (.sq none .nl (.bl (some [2, 5, 7, 8]) (.lp [2, 5, 7, 8, 23, 24, 25] (.sq none .nl (.sq none (.cd .nl .nl) (.sq (some [2, 5, 7, 8, 23, 24, 25]) (.bl (some [2, 5, 7, 8, 23, 24, 25]) (.sq none .nl (.sq (some [2, 5, 7, 8, 23, 24, 25, 31, 32, 33]) .nl (.bl (some [2, 5, 7, 8, 23, 24, 25]) (.lp [2, 5, 7, 8, 23, 24, 25, 31, 32, 33] (.sq none .nl (.sq none (.cd .nl .nl) (.sq (some [2, 5, 7, 8, 23, 24, 25, 31, 32, 33]) (.bl (some [2, 5, 7, 8, 23, 24, 25, 31, 32, 33]) (.sq none .nl (.sq (some [2, 5, 7, 8, 12, 23, 24, 25, 31, 32, 33, 41]) .nl (.cd (.sq (some [2, 5, 7, 8, 12, 23, 24, 25, 31, 32, 33]) .nl .nl) .nl)))) .nl)))))))) .nl)))))) .nl))) .nl))))) (.sq none .nl .nl))))) else
  bif Nat.beq g 14 then (.sq none .nl (.sq none (.sq none .nl (.cd (.sq none .nl .nl) .nl)) (.sq none .nl (.sq (some [1, 3, 4]) (.sq none .nl (.bl (some [1, 3, 4]) (.lp [1, 3, 4, 15, 16] (.sq none .nl (.sq none (.cd .nl .nl) (.sq (some [1, 3, 4, 15, 16]) (.bl (some [1, 3, 4, 15, 16]) (.sq none .nl (.sq (some [1, 3, 4, 5, 6, 15, 16]) .nl (.sq (some [1, 3, 4, 5, 6, 15, 16, 35]) .nl (.cd .nl .nl))))) .nl)))))) (.sq none (.sq none .nl (.cd (.sq none .nl .nl) .nl)) (.sq none .nl (.sq (some [7]) (.sq none .nl (.bl (some [7]) (.lp [1, 3, 7, 8] (.sq none (.sq none .nl (.cd .nl .nl)) (.sq (some [1, 3, 7, 8]) (.bl (some [1, 3, 7, 8]) (.sq (some [1, 3, 7, 8, 56, 57, 58]) .nl (.bl (some [1, 3, 7, 8]) (.lp [1, 3, 7, 8, 56, 57, 58] (.sq none .nl (.sq none (.cd .nl .nl) (.sq (some [1, 3, 7, 8, 56, 57, 58]) (.bl none (.sq none .nl (.sq (some [1, 3, 7, 8, 10, 56, 57, 58, 74]) .nl (.cd (.sq none .nl .nl) .nl)))) .nl))))))) .nl))))) (.sq none .nl .nl)))))))) else
  bif Nat.beq g 20 then (.sq none .nl (.sq (some [1]) (.sq none .nl (.cd (.sq none .nl .nl) .nl)) (.sq (some [1, 4]) .nl (.sq (some [4]) (.sq none .nl (.bl (some [4]) (.lp [1, 4, 15, 16] (.sq none .nl (.sq none (.cd .nl .nl) (.sq (some [1, 4, 15, 16]) (.bl (some [1, 4, 15, 16]) (.sq none .nl (.sq (some [1, 4, 5, 15, 16]) (.sq none .nl (.bl (some [1, 4, 5, 15, 16]) (.lp [1, 4, 5, 6, 15, 16] (.sq none (.sq none .nl (.cd .nl .nl)) (.sq (some [1, 4, 5, 6, 15, 16]) (.bl (some [1, 4, 5, 6, 15, 16]) (.sq (some [1, 4, 5, 6, 7, 15, 16]) .nl (.sq (some [1, 4, 5, 6, 15, 16, 37]) .nl (.cd .nl .nl)))) .nl))))) (.sq none (.sq none .nl (.cd (.sq none .nl .nl) .nl)) .nl)))) .nl)))))) (.sq none .nl .nl))))) else
  bif Nat.beq g 50 then (.sq none .nl (.sq none .nl .nl)) else
  bif Nat.beq g 27 then (.sq none .nl (.sq none .nl .nl)) else
  bif Nat.beq g 94 then (.sq none .nl (.sq (some [0]) (.sq none .nl (.cd (.sq none .nl .nl) .nl)) (.sq (some [0, 4, 5]) .nl (.sq none .nl .nl)))) else
  bif Nat.beq g 65 then (.sq none .nl (.sq (some [0, 1, 2, 3, 9, 10]) .nl (.sq (some [10]) (.sq none .nl (.bl (some [10]) (.sq none .nl (.cd (.sq (some []) (.sq none .nl (.bl (some []) (.lp [0, 3, 23, 24, 25] (.sq none .nl (.sq none (.cd .nl .nl) (.sq (some [0, 3, 23, 24, 25]) (.bl none (.sq none .nl (.sq none .nl (.sq none (.sq none .nl (.cd (.sq none .nl .nl) .nl)) .nl)))) .nl)))))) (.sq none .nl .nl)) (.sq none .nl (.cd .nl (.sq none .nl (.cd .nl (.sq none .nl (.cd .nl (.sq none .nl (.cd (.sq (some [2]) .nl (.sq none .nl .nl)) .nl)))))))))))) (.sq none .nl .nl)))) else
  bif Nat.beq g 29 then (.sq none .nl (.sq (some [0, 1, 4, 6]) .nl (.sq none .nl (.sq (some [4, 6]) (.sq none .nl (.bl (some [4, 6]) (.lp [1, 4, 6, 7, 20, 21, 22] (.sq none .nl (.sq none (.cd .nl .nl) (.sq (some [1, 4, 6, 7, 20, 21, 22]) (.bl none (.sq none .nl (.sq (some [1, 4, 6, 7, 9, 10, 11, 20, 21, 22]) .nl (.sq none .nl (.sq (some [1, 4, 6, 7, 13, 20, 21, 22]) (.sq (some [1, 4, 6, 7, 13, 20, 21, 22, 50]) .nl (.cd (.sq none .nl .nl) .nl)) .nl))))) .nl)))))) (.sq none .nl .nl))))) else
  bif Nat.beq g 9 then (.sq none .nl (.sq (some [0, 2]) (.sq none .nl (.cd (.sq none .nl .nl) .nl)) (.sq none .nl (.sq none .nl (.sq (some [2, 4, 5]) (.sq none .nl (.bl (some [2, 4, 5]) (.lp [2, 4, 5, 20, 21, 22] (.sq none .nl (.sq none (.cd .nl .nl) (.sq (some [2, 4, 5, 20, 21, 22]) (.bl none (.sq none .nl (.sq none .nl (.sq (some [2, 4, 5, 8, 20, 21, 22]) .nl .nl)))) .nl)))))) (.sq none .nl (.sq (some [2, 9]) (.sq none .nl (.bl (some [2, 9]) (.lp [2, 5, 9, 39, 40, 41] (.sq none .nl (.sq none (.cd .nl .nl) (.sq (some [2, 5, 9, 39, 40, 41]) (.bl none (.sq none .nl (.sq (some [2, 5, 9, 12, 13, 39, 40, 41]) .nl (.sq (some [2, 5, 9, 12, 39, 40, 41]) (.sq none .nl (.cd (.sq none .nl .nl) .nl)) .nl)))) .nl)))))) (.sq (some [2, 9]) (.sq none .nl (.sq none .nl (.cd (.sq none .nl .nl) .nl))) (.sq none .nl .nl))))))))) else
  bif Nat.beq g 32 then (.sq none .nl (.sq none .nl .nl)) else
  bif Nat.beq g 38 then (.sq none .nl (.sq (some []) (.sq none .nl (.bl (some []) (.lp [1, 8, 9, 10] (.sq none .nl (.sq none (.cd .nl .nl) (.sq (some [1, 8, 9, 10]) (.bl none (.sq (some [1, 5, 6, 8, 9, 10]) .nl (.sq none .nl (.cd (.sq none .nl .nl) .nl)))) .nl)))))) (.sq none .nl .nl))) else
  bif Nat.beq g 11 then (.sq none .nl (.sq (some [1]) (.sq (some [1, 10]) .nl (.cd (.sq none .nl .nl) .nl)) (.sq none .nl (.sq (some [1]) (.sq (some [1, 18, 19, 20]) .nl (.bl (some [1]) (.lp [1, 18, 19, 20] (.sq none .nl (.sq none (.cd .nl .nl) (.sq (some [1, 18, 19, 20]) (.bl none (.sq none .nl (.sq none .nl (.cd (.sq none .nl .nl) .nl)))) .nl)))))) (.sq (some []) (.sq (some [35]) .nl (.cd (.sq none .nl .nl) .nl)) (.sq none .nl .nl)))))) else
  bif Nat.beq g 33 then (.sq none .nl (.sq none .nl .nl)) else
  bif Nat.beq g 34 then (.sq none .nl (.sq (some [2, 4, 6]) .nl (.sq none .nl (.sq none .nl .nl)))) else
  bif Nat.beq g 35 then (.sq none .nl (.sq none .nl .nl)) else
  bif Nat.beq g 36 then (.sq none .nl (.sq none .nl .nl)) else
  bif Nat.beq g 37 then (.sq none .nl (.sq (some []) (.sq none .nl (.bl (some []) (.lp [1, 2, 3, 9, 10, 11] (.sq none .nl (.sq none (.cd .nl .nl) (.sq (some [1, 2, 3, 9, 10, 11]) (.bl none (.sq (some [1, 2, 3, 7, 8, 9, 10, 11]) .nl (.sq (some [1, 2, 3, 9, 10, 11, 34]) .nl (.cd (.sq none .nl .nl) .nl)))) .nl)))))) (.sq none .nl .nl))) else
  bif Nat.beq g 10 then (.sq none .nl (.sq none (.sq none .nl (.cd (.sq none .nl .nl) .nl)) (.sq none .nl (.sq (some [3]) (.sq none .nl (.bl (some [3]) (.lp [1, 3, 13, 14, 15] (.sq none .nl (.sq none (.cd .nl .nl) (.sq (some [1, 3, 13, 14, 15]) (.bl (some [1, 3, 13, 14, 15]) (.sq none .nl (.sq none .nl (.sq (some [1, 3, 5, 6, 13, 14, 15]) (.sq none .nl (.bl (some [1, 3, 5, 6, 13, 14, 15]) (.lp [1, 3, 5, 6, 13, 14, 15, 22, 23, 24] (.sq none .nl (.sq none (.cd .nl .nl) (.sq (some [1, 3, 5, 6, 13, 14, 15, 22, 23, 24]) (.bl none (.sq (some [1, 3, 5, 6, 7, 8, 13, 14, 15, 22, 23, 24]) .nl (.sq (some [1, 3, 5, 6, 8, 13, 14, 15, 22, 23, 24]) (.sq none .nl (.cd .nl .nl)) .nl))) .nl)))))) (.sq (some [1, 3, 5, 6, 13, 14, 15]) .nl (.sq (some [1, 3, 6, 13, 14, 15]) (.sq none .nl (.cd .nl .nl)) .nl)))))) .nl)))))) (.sq none .nl .nl))))) else
  bif Nat.beq g 30 then (.sq none .nl (.sq none (.sq none .nl (.cd (.sq none .nl .nl) .nl)) (.sq none .nl .nl))) else
  bif Nat.beq g 15 then (.sq none .nl (.sq (some [1, 2, 3]) .nl (.sq (some [2, 3]) (.sq none .nl (.bl (some [2, 3]) (.lp [1, 2, 3, 14, 15, 16] (.sq none .nl (.sq none (.cd .nl .nl) (.sq (some [1, 2, 3, 14, 15, 16]) (.bl (some [1, 2, 3, 14, 15, 16]) (.sq (some [1, 2, 3, 4, 5, 14, 15, 16]) .nl (.sq none .nl (.bl (some [1, 2, 3, 14, 15, 16]) (.lp [1, 2, 3, 4, 14, 15, 16, 22, 23, 24] (.sq none .nl (.sq none (.cd .nl .nl) (.sq (some [1, 2, 3, 4, 14, 15, 16, 22, 23, 24]) (.bl (some [1, 2, 3, 4, 14, 15, 16, 22, 23, 24]) (.sq none .nl (.sq (some [1, 2, 3, 4, 7, 8, 14, 15, 16, 22, 23, 24]) .nl (.sq (some [1, 2, 3, 4, 8, 14, 15, 16, 22, 23, 24, 48]) .nl (.cd .nl .nl))))) .nl)))))))) .nl)))))) (.sq none .nl .nl)))) else
  bif Nat.beq g 17 then (.sq none .nl (.sq (some [1, 2]) (.sq none .nl (.sq none .nl (.cd (.sq none .nl .nl) .nl))) (.sq (some [2, 5]) .nl (.sq none .nl (.sq none .nl .nl))))) else
  bif Nat.beq g 44 then (.sq none .nl (.sq (some [1, 2]) .nl (.sq (some [1, 2]) (.sq (some [1, 2, 13, 14, 15]) .nl (.bl (some [1, 2]) (.lp [1, 2, 13, 14, 15] (.sq none .nl (.sq none (.cd .nl .nl) (.sq (some [1, 2, 13, 14, 15]) (.bl none (.sq (some [1, 2, 3, 4, 13, 14, 15]) .nl .nl)) .nl)))))) (.sq (some [1, 2]) .nl (.sq (some [1, 2]) .nl (.sq none .nl .nl)))))) else
  bif Nat.beq g 45 then (.sq none .nl (.sq none .nl (.sq (some [1, 2]) (.sq (some [1, 2, 10, 11, 12]) .nl (.bl (some [1, 2]) (.lp [1, 2, 10, 11, 12] (.sq none .nl (.sq none (.cd .nl .nl) (.sq (some [1, 2, 10, 11, 12]) (.bl none (.sq (some [1, 2, 3, 4, 10, 11, 12]) .nl (.sq (some [1, 2, 3, 4, 5, 10, 11, 12]) .nl (.sq (some [1, 2, 3, 10, 11, 12]) (.sq (some [1, 2, 3, 10, 11, 12, 47]) .nl (.cd .nl .nl)) .nl)))) .nl)))))) (.sq none .nl (.cd .nl .nl))))) else
  bif Nat.beq g 78 then (.sq none .nl (.sq none .nl .nl)) else
  bif Nat.beq g 46 then (.sq none .nl (.sq (some []) (.bl none (.sq (some [2, 5]) .nl (.cd (.sq none .nl .nl) (.sq none .nl (.cd (.sq none .nl .nl) .nl))))) (.sq none .nl .nl))) else
  bif Nat.beq g 47 then (.sq none .nl (.sq (some [1, 2, 3]) (.sq none .nl (.sq none .nl (.cd (.sq none .nl .nl) .nl))) (.sq (some []) (.sq (some [2, 8]) .nl (.sq (some [28]) .nl (.cd (.sq none .nl .nl) .nl))) (.sq none .nl .nl)))) else
  bif Nat.beq g 18 then (.sq none .nl (.sq (some [1, 2, 3, 4, 8]) (.sq none .nl (.sq none .nl (.cd (.sq none .nl .nl) .nl))) (.sq (some [1, 2, 3, 4, 8, 11]) .nl (.sq (some [1, 2, 3, 4, 8, 11]) (.bl none (.sq none .nl (.cd (.sq none .nl .nl) (.sq (some [1, 2, 3, 4, 8, 11, 29]) .nl (.cd (.sq none .nl .nl) .nl))))) (.sq none .nl (.sq (some [1, 4, 8, 11]) .nl (.sq (some [4, 8]) .nl (.sq none .nl .nl)))))))) else
  bif Nat.beq g 19 then (.sq none .nl (.sq (some [1, 2, 3, 4, 8]) (.sq (some [1, 2, 3, 4, 8, 10]) .nl (.sq none .nl (.cd (.sq none .nl .nl) .nl))) (.sq none .nl (.sq (some [4, 8]) .nl (.sq none .nl (.sq none .nl .nl)))))) else
  bif Nat.beq g 52 then (.sq (some [0, 2, 6, 7]) .nl (.sq (some [0, 6]) (.sq (some [0, 2, 6, 7, 28]) .nl (.cd (.sq none .nl .nl) .nl)) (.sq (some [0]) .nl .nl))) else
  bif Nat.beq g 21 then (.sq none .nl (.sq (some [1, 3, 4, 8]) (.sq (some [1, 3, 4, 8, 10]) .nl (.sq none .nl (.cd (.sq none .nl .nl) .nl))) (.sq none .nl (.sq none .nl (.sq none .nl .nl))))) else
  bif Nat.beq g 23 then (.sq none .nl (.sq none .nl (.sq (some [2, 4]) (.sq none .nl (.bl (some [2, 4]) (.lp [1, 2, 4, 11, 12] (.sq none .nl (.sq none (.cd .nl .nl) (.sq (some [1, 2, 4, 11, 12]) (.bl (some [1, 2, 4, 11, 12]) (.sq none .nl (.sq (some [1, 2, 4, 5, 6, 11, 12]) .nl (.bl (some [1, 2, 4, 11, 12]) (.sq (some [1, 2, 4, 5, 6, 11, 12, 19]) .nl (.cd .nl (.sq (some [1, 2, 4, 5, 6, 11, 12, 31]) .nl (.cd .nl (.sq (some [1, 2, 4, 6, 11, 12, 40]) .nl (.cd .nl .nl)))))))))) .nl)))))) (.sq none .nl .nl)))) else
  bif Nat.beq g 26 then (.sq none .nl (.sq (some [2, 3, 4]) (.bl none (.sq none .nl (.cd (.sq none .nl .nl) (.sq (some [2, 3, 4, 11]) .nl (.cd (.sq none .nl .nl) (.sq (some [2, 3, 4, 17]) .nl (.cd (.sq none .nl .nl) .nl))))))) (.sq none .nl (.sq (some [2, 4]) .nl (.sq none .nl (.sq none .nl .nl)))))) else
  bif Nat.beq g 60 then (.sq none .nl (.sq none .nl .nl)) else
  bif Nat.beq g 22 then (.sq none .nl (.sq none .nl (.sq (some [4, 5]) (.sq none .nl (.bl (some [4, 5]) (.lp [1, 4, 5, 9, 10, 11] (.sq none .nl (.sq none (.cd .nl .nl) (.sq (some [1, 4, 5, 9, 10, 11]) (.bl (some [1, 4, 5, 9, 10, 11]) (.sq none .nl (.sq (some [1, 4, 5, 7, 9, 10, 11, 37]) .nl (.cd .nl .nl)))) .nl)))))) (.sq none .nl .nl)))) else
  bif Nat.beq g 24 then (.sq none .nl (.sq none .nl (.sq none .nl .nl))) else
  bif Nat.beq g 53 then (.sq none .nl (.sq none .nl .nl)) else
  bif Nat.beq g 81 then (.sq none .nl (.sq (some [0, 1]) (.sq (some [0, 1, 12]) .nl (.cd (.sq none .nl .nl) .nl)) (.sq none .nl (.sq (some [5]) (.sq none .nl (.bl (some [5]) (.lp [1, 5, 6] (.sq (some [1, 5, 6]) (.sq (some [1, 5, 6, 21]) .nl (.cd .nl .nl)) (.sq none (.bl none .nl) .nl))))) (.sq none .nl .nl))))) else
  bif Nat.beq g 3 then (.sq none .nl (.sq none (.sq none .nl (.cd (.sq none .nl .nl) .nl)) (.sq none (.sq none .nl (.cd (.sq none .nl .nl) .nl)) (.sq (some [0, 3, 4]) .nl (.sq (some [0, 3]) (.sq none .nl (.cd (.sq none .nl .nl) .nl)) (.sq none .nl (.sq (some [0, 3, 5, 6, 7]) .nl (.sq none .nl .nl)))))))) else
  bif Nat.beq g 5 then (.sq none .nl (.sq none (.sq none .nl (.cd (.sq none .nl .nl) .nl)) (.sq none (.sq none .nl (.cd (.sq none .nl .nl) .nl)) (.sq (some [3, 4]) .nl (.sq none (.sq none .nl (.cd (.sq none .nl .nl) .nl)) (.sq (some [3, 5, 6]) .nl (.sq (some [3, 5]) (.sq (some [3, 5, 39]) .nl (.cd (.sq none .nl .nl) .nl)) (.sq none .nl (.sq (some [3, 7]) (.sq none .nl (.bl (some [3, 7]) (.lp [3, 5, 7, 8] (.sq none (.sq none .nl (.cd .nl .nl)) (.sq (some [3, 5, 7, 8]) (.bl none (.sq (some [3, 5, 7, 8]) (.sq (some [3, 5, 7, 8, 62]) .nl (.cd (.sq none .nl .nl) .nl)) .nl)) .nl))))) (.sq (some []) (.sq none .nl (.bl (some []) (.lp [3, 7, 9] (.sq (some [3, 7, 9]) (.sq (some [3, 7, 9, 74]) .nl (.cd .nl .nl)) (.sq (some [3, 7, 9]) (.bl (some [3, 7, 9]) (.sq none .nl (.bl (some [3, 7, 9]) (.lp [3, 7, 9, 10] (.sq (some [3, 7, 9, 10]) (.sq (some [3, 7, 9, 10, 85]) .nl (.cd .nl .nl)) (.sq (some [3, 7, 9, 10]) (.bl none (.sq (some [3, 7, 9, 10, 11]) .nl (.sq (some [3, 7, 9, 10, 115]) .nl (.cd (.sq none .nl .nl) .nl)))) .nl)))))) .nl))))) (.sq none .nl .nl))))))))))) else
  bif Nat.beq g 12 then (.sq none .nl (.sq (some [0, 1]) (.sq (some [0, 1, 13]) .nl (.cd (.sq none .nl .nl) .nl)) (.sq (some []) (.sq none .nl (.bl (some []) (.lp [0, 1, 5] (.sq none (.sq none .nl (.cd .nl .nl)) (.sq (some [0, 1, 5]) (.bl (some [0, 1, 5]) (.sq (some [0, 1, 5, 6, 7]) .nl (.sq (some [0, 1, 5, 6, 7]) (.sq (some [0, 1, 5, 6, 7, 69]) .nl (.cd (.sq none .nl .nl) .nl)) (.sq none .nl (.bl (some [0, 1, 5]) (.lp [0, 1, 5, 6, 7, 8] (.sq (some [0, 1, 5, 6, 7, 8]) (.sq (some [0, 1, 5, 6, 7, 8, 74]) .nl (.cd .nl .nl)) (.sq (some [0, 1, 5, 6, 7, 8]) (.bl none (.sq (some [0, 1, 5, 6, 7, 8, 87]) .nl (.cd (.sq none .nl .nl) .nl))) .nl)))))))) .nl))))) (.sq none .nl .nl)))) else
  bif Nat.beq g 13 then (.sq none .nl (.sq none .nl (.sq (some [3]) (.sq none .nl (.bl (some [3]) (.lp [1, 3, 4] (.sq (some [1, 3, 4]) (.sq (some [1, 3, 4, 10]) .nl (.cd .nl .nl)) (.sq (some [1, 3, 4]) (.bl none (.sq (some [1, 3, 4, 5]) .nl .nl)) .nl))))) (.sq none .nl .nl)))) else
  bif Nat.beq g 4 then (.sq none .nl (.sq none (.sq none .nl (.cd (.sq none .nl .nl) .nl)) (.sq (some [0, 3, 4]) .nl (.sq (some [3]) (.sq (some [3, 28]) .nl (.cd (.sq none .nl .nl) .nl)) (.sq (some [3]) (.sq none .nl (.bl (some [3]) (.lp [3, 5] (.sq (some [3, 5]) (.sq (some [3, 5, 33]) .nl (.cd .nl .nl)) (.sq (some [3, 5]) (.bl none (.sq (some [3, 5, 42]) .nl (.cd (.sq none .nl .nl) .nl))) .nl))))) (.sq (some [3, 6, 7]) .nl (.sq none (.sq none .nl (.cd (.sq none .nl .nl) .nl)) (.sq (some [6]) (.sq none .nl (.bl (some [6]) (.lp [3, 6, 8] (.sq (some [3, 6, 8]) (.sq (some [3, 6, 8, 54]) .nl (.cd .nl .nl)) (.sq (some [3, 6, 8]) (.bl (some [3, 6, 8]) (.sq (some [3, 6, 8]) (.sq (some [3, 6, 8, 68]) .nl (.cd (.sq none .nl .nl) .nl)) (.sq none .nl (.sq (some [3, 6, 8, 9]) (.sq none .nl (.bl (some [3, 6, 8, 9]) (.lp [3, 6, 8, 9, 10] (.sq (some [3, 6, 8, 9, 10]) (.sq (some [3, 6, 8, 9, 10, 73]) .nl (.cd .nl .nl)) (.sq (some [3, 6, 8, 9, 10]) (.bl (some [3, 6, 8, 9, 10]) (.sq (some [3, 6, 8, 9, 10, 82]) .nl (.cd .nl .nl))) .nl))))) (.sq (some [3, 6, 8, 9, 11, 12]) .nl (.sq (some [3, 6, 8, 9, 12, 13, 14]) .nl (.sq (some [3, 6, 8, 13]) (.sq (some [3, 6, 8, 13, 105]) .nl (.cd (.sq none .nl .nl) .nl)) .nl))))))) .nl))))) (.sq none .nl .nl))))))))) else
  bif Nat.beq g 6 then (.sq none .nl (.sq none (.sq none .nl (.cd (.sq none .nl .nl) .nl)) (.sq (some [0, 1]) (.sq (some [0, 1, 31]) .nl (.cd (.sq none .nl .nl) .nl)) (.sq (some [0, 5, 6]) .nl (.sq none .nl (.sq (some []) (.sq none .nl (.bl (some []) (.lp [0, 5, 6, 7, 8] (.sq none (.sq none .nl (.cd .nl .nl)) (.sq (some [0, 5, 6, 7, 8]) (.bl none (.sq (some [0, 5, 6, 7, 8, 9, 10]) .nl (.sq (some [0, 5, 6, 7, 8, 10, 11, 12]) .nl (.sq (some [0, 5, 6, 7, 8, 11]) (.sq (some [0, 5, 6, 7, 8, 11, 76]) .nl (.cd (.sq none .nl .nl) .nl)) (.sq (some [0, 5, 6, 7, 8, 11]) (.sq none .nl (.cd (.sq none .nl .nl) .nl)) (.sq (some [0, 5, 6, 7, 8, 11, 13, 14]) .nl (.sq (some [0, 5, 6, 7, 8, 11, 13, 14, 15]) .nl (.sq (some [0, 5, 6, 8, 11, 13]) (.sq (some [0, 5, 6, 8, 11, 13, 113]) .nl (.cd (.sq none .nl .nl) .nl)) .nl)))))))) .nl))))) (.sq none .nl .nl))))))) else
  bif Nat.beq g 7 then (.sq none .nl (.sq none (.sq none .nl (.cd (.sq none .nl .nl) .nl)) (.sq (some [0, 1]) (.sq (some [0, 1, 26]) .nl (.cd (.sq none .nl .nl) .nl)) (.sq (some [1, 5, 6]) .nl (.sq none (.sq none .nl (.cd (.sq none .nl .nl) .nl)) (.sq none .nl (.sq (some []) (.sq none .nl (.bl (some []) (.lp [1, 5, 7, 8] (.sq none (.sq none .nl (.cd .nl .nl)) (.sq (some [1, 5, 7, 8]) (.bl (some [1, 5, 7, 8]) (.sq none .nl (.sq (some [1, 5, 7, 8, 9]) .nl (.sq none .nl (.sq none .nl (.sq (some [1, 5, 7, 8, 9, 10, 11]) (.sq (some [1, 5, 7, 8, 9, 10, 11, 63]) .nl (.cd (.sq none .nl .nl) .nl)) (.sq (some [1, 5, 7, 8, 9, 10, 11, 12]) .nl (.sq (some [1, 5, 7, 8, 9, 10, 11]) (.sq (some [1, 5, 7, 8, 9, 10, 11, 12, 78]) .nl (.bl (some [1, 5, 7, 8, 9, 10, 11]) (.sq none .nl (.cd .nl (.sq none .nl (.cd .nl (.sq none .nl (.cd .nl (.sq none .nl (.cd .nl .nl)))))))))) (.sq (some [1, 5, 7, 8, 9]) (.sq none .nl (.cd .nl .nl)) (.sq (some [1, 5, 7, 8, 9]) (.sq (some [1, 5, 7, 8, 9, 160]) .nl (.cd (.sq none .nl .nl) .nl)) (.sq none .nl (.sq (some [1, 5, 7, 8, 13]) (.sq none .nl (.bl (some [1, 5, 7, 8, 13]) (.lp [1, 5, 7, 8, 9, 13, 14] (.sq (some [1, 5, 7, 8, 9, 13, 14]) (.sq (some [1, 5, 7, 8, 9, 13, 14, 165]) .nl (.cd .nl .nl)) (.sq (some [1, 5, 7, 8, 9, 13, 14]) (.bl (some [1, 5, 7, 8, 9, 13, 14]) (.sq (some [1, 5, 7, 8, 9, 13, 14, 15]) .nl (.sq (some [1, 5, 7, 8, 9, 13, 14, 15]) (.sq (some [1, 5, 7, 8, 9, 13, 14, 15, 220]) .nl (.cd (.sq none .nl .nl) .nl)) (.sq (some [1, 5, 7, 8, 9, 13, 14, 15]) (.sq (some [1, 5, 7, 8, 9, 13, 14, 15, 227]) .nl (.cd .nl .nl)) (.sq none .nl (.bl (some [1, 5, 7, 8, 9, 13, 14]) (.lp [1, 5, 7, 8, 9, 13, 14, 15, 16] (.sq (some [1, 5, 7, 8, 9, 13, 14, 15, 16]) (.sq (some [1, 5, 7, 8, 9, 13, 14, 15, 16, 234]) .nl (.cd .nl .nl)) (.sq (some [1, 5, 7, 8, 9, 13, 14, 15, 16]) (.bl none (.sq (some [1, 5, 7, 8, 9, 13, 14, 15, 16, 275]) .nl (.cd (.sq none .nl .nl) .nl))) .nl))))))))) .nl))))) (.sq (some [1, 5, 7, 8, 284]) .nl (.cd (.sq none .nl .nl) .nl)))))))))))))) .nl))))) (.sq none .nl .nl)))))))) else
  bif Nat.beq g 25 then (.sq none .nl (.sq (some [2, 4, 5]) .nl (.sq (some [2, 4]) (.sq none .nl (.cd (.sq none .nl .nl) .nl)) (.sq none .nl .nl)))) else
  .nl
noncomputable abbrev cK : CF := CK P (regK P) ext prim an

def al_slices_Index___string_string_ : An := (.sq none .nl (.sq none (.cd .nl .nl) (.sq (some [0, 1, 7, 8]) (.bl none (.sq none .nl (.sq (some [0, 1, 5, 7, 8, 16]) .nl (.cd (.sq none .nl .nl) .nl)))) .nl)))

noncomputable def bl_slices_Index___string_string_ (J : JT) (G : GT) (cf : CF) (j2 : K.Fn 0) (j3 : K.Fn 4) (x4 x5 x6 x7 : AV) (h8 : Hp) : R :=
 B1 (ilt x7 x6) fun v9 =>
 CD v9 (
 J 4 (fun j10 =>
 J 6 (fun j11 =>
 B1 (ia 1 x4 x7) fun v12 =>
 B1 (ld v12 h8) fun v13 =>
 B1 (seq x5 v13) fun v14 =>
 j11 x4 x5 x7 x6 x7 v14 h8) (fun x15 x16 x17 x18 x19 x20 h21 =>
 CD x20 (
 some (x17, h21)) (
 j10 x15 x16 x18 x19 h21))) (fun x22 x23 x24 x25 h26 =>
 B1 (iadd x25 (.int .i64 1)) fun v27 =>
 j3 x22 x23 x24 v27 h26)) (
 j2  h8)

noncomputable def l_slices_Index___string_string_ (J : JT) (G : GT) (cf : CF) (j2 : K.Fn 0) : K.Fn 4 := LP 4 fun j3 => fun x4 x5 x6 x7 h8 => bl_slices_Index___string_string_ J G cf j2 j3 x4 x5 x6 x7 h8

theorem rl_slices_Index___string_string_ (J : JT) (G : GT) (cf : CF) (j2 : K.Fn 0) (j3 : K.Fn 4) (x4 x5 x6 x7 : AV) (h8 : Hp) : codeF P J G cf (nT P 64) (atC P 64 [1, 0, 1, 0, 0]) al_slices_Index___string_string_ (fun t H => app 4 j3 (vals [0, 1, 7, 8] t) H) (fun q t H => match Nat.beq q 0 with | true => app 0 j2 (vals [] t) H | false => (fun _ _ _ => none) q t H) (retK P 64) (mkT (nT P 64) [0, 1, 7, 8] [x4, x5, x6, x7]) h8 = bl_slices_Index___string_string_ J G cf j2 j3 x4 x5 x6 x7 h8 := by kernel_rfl

theorem dl_slices_Index___string_string_ (J : JT) (G : GT) (cf : CF) (j2 : K.Fn 0) : l_slices_Index___string_string_ J G cf j2 = loopF P J G cf (nT P 64) (atC P 64 [1, 0, 1, 0, 0]) al_slices_Index___string_string_ [0, 1, 7, 8] (fun q t H => match Nat.beq q 0 with | true => app 0 j2 (vals [] t) H | false => (fun _ _ _ => none) q t H) (retK P 64) := by
  unfold l_slices_Index___string_string_ loopF
  refine congrArg (LP 4) ?_
  funext j3 x4 x5 x6 x7 h8
  exact (rl_slices_Index___string_string_ J G cf j2 j3 x4 x5 x6 x7 h8).symm

theorem ql_slices_Index___string_string_ (cf : CF) (j2 : K.Fn 0) (x4 x5 x6 x7 : AV) (h8 : Hp) : l_slices_Index___string_string_ JN GO cf j2 x4 x5 x6 x7 h8 = bl_slices_Index___string_string_ JN GO cf j2 (l_slices_Index___string_string_ JN GO cf j2) x4 x5 x6 x7 h8 := by
  have h1 : l_slices_Index___string_string_ JN GO cf j2 x4 x5 x6 x7 h8 = app 4 (loopF P JN GO cf (nT P 64) (atC P 64 [1, 0, 1, 0, 0]) al_slices_Index___string_string_ [0, 1, 7, 8] (fun q t H => match Nat.beq q 0 with | true => app 0 j2 (vals [] t) H | false => (fun _ _ _ => none) q t H) (retK P 64)) [x4, x5, x6, x7] h8 := by rw [dl_slices_Index___string_string_]; kernel_rfl
  refine h1.trans ((loopF_eq (P := P) cf (nT P 64) (atC P 64 [1, 0, 1, 0, 0]) al_slices_Index___string_string_ [0, 1, 7, 8] (fun q t H => match Nat.beq q 0 with | true => app 0 j2 (vals [] t) H | false => (fun _ _ _ => none) q t H) (retK P 64) [x4, x5, x6, x7] rfl h8).trans ((rl_slices_Index___string_string_ JN GO cf j2 _ x4 x5 x6 x7 h8).trans ?_))
  rw [dl_slices_Index___string_string_]

noncomputable def s_slices_Index___string_string_ (J : JT) (G : GT) (cf : CF) (a0 a1 : AV) (H : Hp) : R :=
 J 0 (fun j0 =>
 B1 (lenx a0) fun v1 =>
 J 0 (fun j2 =>
 l_slices_Index___string_string_ J G cf j2 a0 a1 v1 (.int .i64 0) H) (fun  h28 =>
 j0  h28)) (fun  h29 =>
 some ((.int .i64 (-1)), h29))

theorem e_slices_Index___string_string_ (J : JT) (G : GT) (cf : CF) (a0 a1 : AV) (H : Hp) : callF P J G prim an cf 64 [a0, a1] H = s_slices_Index___string_string_ J G cf a0 a1 H := by kernel_rfl

theorem c_slices_Index___string_string_ {a0 a1 : AV} {H : Hp} {r : AV × Hp} (h : s_slices_Index___string_string_ JN GO cK a0 a1 H = some r) : cK (.func (.func 64) [] []) [a0, a1] H = some r := callF_fix (first := []) (cap := []) ((e_slices_Index___string_string_ JN GO _ a0 a1 H).trans h)

noncomputable def s_slices_Contains___string_string_ (J : JT) (G : GT) (cf : CF) (a0 a1 : AV) (H : Hp) : R :=
 B2 (cf (.func (.func 64) [] []) [a0, a1] H) fun v0 h1 =>
 B1 (ige v0 (.int .i64 0)) fun v2 =>
 some (v2, h1)

theorem e_slices_Contains___string_string_ (J : JT) (G : GT) (cf : CF) (a0 a1 : AV) (H : Hp) : callF P J G prim an cf 58 [a0, a1] H = s_slices_Contains___string_string_ J G cf a0 a1 H := by kernel_rfl

theorem c_slices_Contains___string_string_ {a0 a1 : AV} {H : Hp} {r : AV × Hp} (h : s_slices_Contains___string_string_ JN GO cK a0 a1 H = some r) : cK (.func (.func 58) [] []) [a0, a1] H = some r := callF_fix (first := []) (cap := []) ((e_slices_Contains___string_string_ JN GO _ a0 a1 H).trans h)

def al_slices_Index___graph_Edge_graph_Edge_ : An := (.sq none .nl (.sq none (.cd .nl .nl) (.sq (some [0, 3, 7, 8]) (.bl none (.sq none .nl (.sq (some [0, 3, 5, 7, 8, 16]) .nl (.cd (.sq none .nl .nl) .nl)))) .nl)))

noncomputable def bl_slices_Index___graph_Edge_graph_Edge_ (J : JT) (G : GT) (cf : CF) (j4 : K.Fn 0) (j5 : K.Fn 4) (x6 x7 x8 x9 : AV) (h10 : Hp) : R :=
 B1 (ilt x9 x8) fun v11 =>
 CD v11 (
 J 4 (fun j12 =>
 J 6 (fun j13 =>
 B1 (lda 2 x7 h10) fun v14 =>
 B1 (ia 2 x6 x9) fun v15 =>
 B1 (lda 2 v15 h10) fun v16 =>
 IFT (gA P .eql 83 false v14 v16) <| B1 (binA P .eql 83 v14 v16 h10) fun v17 =>
 j13 x6 x7 x9 x8 x9 v17 h10) (fun x18 x19 x20 x21 x22 x23 h24 =>
 CD x23 (
 some (x20, h24)) (
 j12 x18 x19 x21 x22 h24))) (fun x25 x26 x27 x28 h29 =>
 B1 (iadd x28 (.int .i64 1)) fun v30 =>
 j5 x25 x26 x27 v30 h29)) (
 j4  h10)

noncomputable def l_slices_Index___graph_Edge_graph_Edge_ (J : JT) (G : GT) (cf : CF) (j4 : K.Fn 0) : K.Fn 4 := LP 4 fun j5 => fun x6 x7 x8 x9 h10 => bl_slices_Index___graph_Edge_graph_Edge_ J G cf j4 j5 x6 x7 x8 x9 h10

theorem rl_slices_Index___graph_Edge_graph_Edge_ (J : JT) (G : GT) (cf : CF) (j4 : K.Fn 0) (j5 : K.Fn 4) (x6 x7 x8 x9 : AV) (h10 : Hp) : codeF P J G cf (nT P 72) (atC P 72 [1, 0, 1, 0, 0]) al_slices_Index___graph_Edge_graph_Edge_ (fun t H => app 4 j5 (vals [0, 3, 7, 8] t) H) (fun q t H => match Nat.beq q 0 with | true => app 0 j4 (vals [] t) H | false => (fun _ _ _ => none) q t H) (retK P 72) (mkT (nT P 72) [0, 3, 7, 8] [x6, x7, x8, x9]) h10 = bl_slices_Index___graph_Edge_graph_Edge_ J G cf j4 j5 x6 x7 x8 x9 h10 := by kernel_rfl

theorem dl_slices_Index___graph_Edge_graph_Edge_ (J : JT) (G : GT) (cf : CF) (j4 : K.Fn 0) : l_slices_Index___graph_Edge_graph_Edge_ J G cf j4 = loopF P J G cf (nT P 72) (atC P 72 [1, 0, 1, 0, 0]) al_slices_Index___graph_Edge_graph_Edge_ [0, 3, 7, 8] (fun q t H => match Nat.beq q 0 with | true => app 0 j4 (vals [] t) H | false => (fun _ _ _ => none) q t H) (retK P 72) := by
  unfold l_slices_Index___graph_Edge_graph_Edge_ loopF
  refine congrArg (LP 4) ?_
  funext j5 x6 x7 x8 x9 h10
  exact (rl_slices_Index___graph_Edge_graph_Edge_ J G cf j4 j5 x6 x7 x8 x9 h10).symm

theorem ql_slices_Index___graph_Edge_graph_Edge_ (cf : CF) (j4 : K.Fn 0) (x6 x7 x8 x9 : AV) (h10 : Hp) : l_slices_Index___graph_Edge_graph_Edge_ JN GO cf j4 x6 x7 x8 x9 h10 = bl_slices_Index___graph_Edge_graph_Edge_ JN GO cf j4 (l_slices_Index___graph_Edge_graph_Edge_ JN GO cf j4) x6 x7 x8 x9 h10 := by
  have h1 : l_slices_Index___graph_Edge_graph_Edge_ JN GO cf j4 x6 x7 x8 x9 h10 = app 4 (loopF P JN GO cf (nT P 72) (atC P 72 [1, 0, 1, 0, 0]) al_slices_Index___graph_Edge_graph_Edge_ [0, 3, 7, 8] (fun q t H => match Nat.beq q 0 with | true => app 0 j4 (vals [] t) H | false => (fun _ _ _ => none) q t H) (retK P 72)) [x6, x7, x8, x9] h10 := by rw [dl_slices_Index___graph_Edge_graph_Edge_]; kernel_rfl
  refine h1.trans ((loopF_eq (P := P) cf (nT P 72) (atC P 72 [1, 0, 1, 0, 0]) al_slices_Index___graph_Edge_graph_Edge_ [0, 3, 7, 8] (fun q t H => match Nat.beq q 0 with | true => app 0 j4 (vals [] t) H | false => (fun _ _ _ => none) q t H) (retK P 72) [x6, x7, x8, x9] rfl h10).trans ((rl_slices_Index___graph_Edge_graph_Edge_ JN GO cf j4 _ x6 x7 x8 x9 h10).trans ?_))
  rw [dl_slices_Index___graph_Edge_graph_Edge_]

noncomputable def s_slices_Index___graph_Edge_graph_Edge_ (J : JT) (G : GT) (cf : CF) (a0 a1 : AV) (H : Hp) : R :=
 BN (bx 83 a1 H) fun i0 h1 =>
 J 0 (fun j2 =>
 B1 (lenx a0) fun v3 =>
 J 0 (fun j4 =>
 l_slices_Index___graph_Edge_graph_Edge_ J G cf j4 a0 (.ptr i0 0) v3 (.int .i64 0) h1) (fun  h31 =>
 j2  h31)) (fun  h32 =>
 some ((.int .i64 (-1)), h32))

theorem e_slices_Index___graph_Edge_graph_Edge_ (J : JT) (G : GT) (cf : CF) (a0 a1 : AV) (H : Hp) : callF P J G prim an cf 72 [a0, a1] H = s_slices_Index___graph_Edge_graph_Edge_ J G cf a0 a1 H := by kernel_rfl

theorem c_slices_Index___graph_Edge_graph_Edge_ {a0 a1 : AV} {H : Hp} {r : AV × Hp} (h : s_slices_Index___graph_Edge_graph_Edge_ JN GO cK a0 a1 H = some r) : cK (.func (.func 72) [] []) [a0, a1] H = some r := callF_fix (first := []) (cap := []) ((e_slices_Index___graph_Edge_graph_Edge_ JN GO _ a0 a1 H).trans h)

noncomputable def s_slices_Contains___graph_Edge_graph_Edge_ (J : JT) (G : GT) (cf : CF) (a0 a1 : AV) (H : Hp) : R :=
 BN (bx 83 a1 H) fun i0 h1 =>
 B1 (lda 2 (.ptr i0 0) h1) fun v2 =>
 B2 (cf (.func (.func 72) [] []) [a0, v2] h1) fun v3 h4 =>
 B1 (ige v3 (.int .i64 0)) fun v5 =>
 some (v5, h4)

theorem e_slices_Contains___graph_Edge_graph_Edge_ (J : JT) (G : GT) (cf : CF) (a0 a1 : AV) (H : Hp) : callF P J G prim an cf 42 [a0, a1] H = s_slices_Contains___graph_Edge_graph_Edge_ J G cf a0 a1 H := by kernel_rfl

theorem c_slices_Contains___graph_Edge_graph_Edge_ {a0 a1 : AV} {H : Hp} {r : AV × Hp} (h : s_slices_Contains___graph_Edge_graph_Edge_ JN GO cK a0 a1 H = some r) : cK (.func (.func 42) [] []) [a0, a1] H = some r := callF_fix (first := []) (cap := []) ((e_slices_Contains___graph_Edge_graph_Edge_ JN GO _ a0 a1 H).trans h)

noncomputable def s_slices_ContainsFunc___int_int_ (J : JT) (G : GT) (cf : CF) (a0 a1 : AV) (H : Hp) : R :=
 B2 (cf (.func (.func 79) [] []) [a0, a1] H) fun v0 h1 =>
 B1 (ige v0 (.int .i64 0)) fun v2 =>
 some (v2, h1)

theorem e_slices_ContainsFunc___int_int_ (J : JT) (G : GT) (cf : CF) (a0 a1 : AV) (H : Hp) : callF P J G prim an cf 48 [a0, a1] H = s_slices_ContainsFunc___int_int_ J G cf a0 a1 H := by kernel_rfl

theorem c_slices_ContainsFunc___int_int_ {a0 a1 : AV} {H : Hp} {r : AV × Hp} (h : s_slices_ContainsFunc___int_int_ JN GO cK a0 a1 H = some r) : cK (.func (.func 48) [] []) [a0, a1] H = some r := callF_fix (first := []) (cap := []) ((e_slices_ContainsFunc___int_int_ JN GO _ a0 a1 H).trans h)

def al_slices_IndexFunc___int_int_ : An := (.sq none .nl (.sq none (.cd .nl .nl) (.sq (some [0, 1, 7, 8]) (.bl none (.sq none .nl (.sq (some [0, 1, 5, 7, 8, 16]) .nl (.cd (.sq none .nl .nl) .nl)))) .nl)))

noncomputable def bl_slices_IndexFunc___int_int_ (J : JT) (G : GT) (cf : CF) (j2 : K.Fn 0) (j3 : K.Fn 4) (x4 x5 x6 x7 : AV) (h8 : Hp) : R :=
 B1 (ilt x7 x6) fun v9 =>
 CD v9 (
 J 4 (fun j10 =>
 J 6 (fun j11 =>
 B1 (ia 1 x4 x7) fun v12 =>
 B1 (ld v12 h8) fun v13 =>
 B2 (cf x5 [v13] h8) fun v14 h15 =>
 j11 x4 x5 x7 x6 x7 v14 h15) (fun x16 x17 x18 x19 x20 x21 h22 =>
 CD x21 (
 some (x18, h22)) (
 j10 x16 x17 x19 x20 h22))) (fun x23 x24 x25 x26 h27 =>
 B1 (iadd x26 (.int .i64 1)) fun v28 =>
 j3 x23 x24 x25 v28 h27)) (
 j2  h8)

noncomputable def l_slices_IndexFunc___int_int_ (J : JT) (G : GT) (cf : CF) (j2 : K.Fn 0) : K.Fn 4 := LP 4 fun j3 => fun x4 x5 x6 x7 h8 => bl_slices_IndexFunc___int_int_ J G cf j2 j3 x4 x5 x6 x7 h8

theorem rl_slices_IndexFunc___int_int_ (J : JT) (G : GT) (cf : CF) (j2 : K.Fn 0) (j3 : K.Fn 4) (x4 x5 x6 x7 : AV) (h8 : Hp) : codeF P J G cf (nT P 79) (atC P 79 [1, 0, 1, 0, 0]) al_slices_IndexFunc___int_int_ (fun t H => app 4 j3 (vals [0, 1, 7, 8] t) H) (fun q t H => match Nat.beq q 0 with | true => app 0 j2 (vals [] t) H | false => (fun _ _ _ => none) q t H) (retK P 79) (mkT (nT P 79) [0, 1, 7, 8] [x4, x5, x6, x7]) h8 = bl_slices_IndexFunc___int_int_ J G cf j2 j3 x4 x5 x6 x7 h8 := by kernel_rfl

theorem dl_slices_IndexFunc___int_int_ (J : JT) (G : GT) (cf : CF) (j2 : K.Fn 0) : l_slices_IndexFunc___int_int_ J G cf j2 = loopF P J G cf (nT P 79) (atC P 79 [1, 0, 1, 0, 0]) al_slices_IndexFunc___int_int_ [0, 1, 7, 8] (fun q t H => match Nat.beq q 0 with | true => app 0 j2 (vals [] t) H | false => (fun _ _ _ => none) q t H) (retK P 79) := by
  unfold l_slices_IndexFunc___int_int_ loopF
  refine congrArg (LP 4) ?_
  funext j3 x4 x5 x6 x7 h8
  exact (rl_slices_IndexFunc___int_int_ J G cf j2 j3 x4 x5 x6 x7 h8).symm

theorem ql_slices_IndexFunc___int_int_ (cf : CF) (j2 : K.Fn 0) (x4 x5 x6 x7 : AV) (h8 : Hp) : l_slices_IndexFunc___int_int_ JN GO cf j2 x4 x5 x6 x7 h8 = bl_slices_IndexFunc___int_int_ JN GO cf j2 (l_slices_IndexFunc___int_int_ JN GO cf j2) x4 x5 x6 x7 h8 := by
  have h1 : l_slices_IndexFunc___int_int_ JN GO cf j2 x4 x5 x6 x7 h8 = app 4 (loopF P JN GO cf (nT P 79) (atC P 79 [1, 0, 1, 0, 0]) al_slices_IndexFunc___int_int_ [0, 1, 7, 8] (fun q t H => match Nat.beq q 0 with | true => app 0 j2 (vals [] t) H | false => (fun _ _ _ => none) q t H) (retK P 79)) [x4, x5, x6, x7] h8 := by rw [dl_slices_IndexFunc___int_int_]; kernel_rfl
  refine h1.trans ((loopF_eq (P := P) cf (nT P 79) (atC P 79 [1, 0, 1, 0, 0]) al_slices_IndexFunc___int_int_ [0, 1, 7, 8] (fun q t H => match Nat.beq q 0 with | true => app 0 j2 (vals [] t) H | false => (fun _ _ _ => none) q t H) (retK P 79) [x4, x5, x6, x7] rfl h8).trans ((rl_slices_IndexFunc___int_int_ JN GO cf j2 _ x4 x5 x6 x7 h8).trans ?_))
  rw [dl_slices_IndexFunc___int_int_]

noncomputable def s_slices_IndexFunc___int_int_ (J : JT) (G : GT) (cf : CF) (a0 a1 : AV) (H : Hp) : R :=
 J 0 (fun j0 =>
 B1 (lenx a0) fun v1 =>
 J 0 (fun j2 =>
 l_slices_IndexFunc___int_int_ J G cf j2 a0 a1 v1 (.int .i64 0) H) (fun  h29 =>
 j0  h29)) (fun  h30 =>
 some ((.int .i64 (-1)), h30))

theorem e_slices_IndexFunc___int_int_ (J : JT) (G : GT) (cf : CF) (a0 a1 : AV) (H : Hp) : callF P J G prim an cf 79 [a0, a1] H = s_slices_IndexFunc___int_int_ J G cf a0 a1 H := by kernel_rfl

theorem c_slices_IndexFunc___int_int_ {a0 a1 : AV} {H : Hp} {r : AV × Hp} (h : s_slices_IndexFunc___int_int_ JN GO cK a0 a1 H = some r) : cK (.func (.func 79) [] []) [a0, a1] H = some r := callF_fix (first := []) (cap := []) ((e_slices_IndexFunc___int_int_ JN GO _ a0 a1 H).trans h)

def al_slices_Index___int_int_ : An := (.sq none .nl (.sq none (.cd .nl .nl) (.sq (some [0, 1, 7, 8]) (.bl none (.sq none .nl (.sq (some [0, 1, 5, 7, 8, 16]) .nl (.cd (.sq none .nl .nl) .nl)))) .nl)))

noncomputable def bl_slices_Index___int_int_ (J : JT) (G : GT) (cf : CF) (j2 : K.Fn 0) (j3 : K.Fn 4) (x4 x5 x6 x7 : AV) (h8 : Hp) : R :=
 B1 (ilt x7 x6) fun v9 =>
 CD v9 (
 J 4 (fun j10 =>
 J 6 (fun j11 =>
 B1 (ia 1 x4 x7) fun v12 =>
 B1 (ld v12 h8) fun v13 =>
 B1 (ieq x5 v13) fun v14 =>
 j11 x4 x5 x7 x6 x7 v14 h8) (fun x15 x16 x17 x18 x19 x20 h21 =>
 CD x20 (
 some (x17, h21)) (
 j10 x15 x16 x18 x19 h21))) (fun x22 x23 x24 x25 h26 =>
 B1 (iadd x25 (.int .i64 1)) fun v27 =>
 j3 x22 x23 x24 v27 h26)) (
 j2  h8)

noncomputable def l_slices_Index___int_int_ (J : JT) (G : GT) (cf : CF) (j2 : K.Fn 0) : K.Fn 4 := LP 4 fun j3 => fun x4 x5 x6 x7 h8 => bl_slices_Index___int_int_ J G cf j2 j3 x4 x5 x6 x7 h8

theorem rl_slices_Index___int_int_ (J : JT) (G : GT) (cf : CF) (j2 : K.Fn 0) (j3 : K.Fn 4) (x4 x5 x6 x7 : AV) (h8 : Hp) : codeF P J G cf (nT P 80) (atC P 80 [1, 0, 1, 0, 0]) al_slices_Index___int_int_ (fun t H => app 4 j3 (vals [0, 1, 7, 8] t) H) (fun q t H => match Nat.beq q 0 with | true => app 0 j2 (vals [] t) H | false => (fun _ _ _ => none) q t H) (retK P 80) (mkT (nT P 80) [0, 1, 7, 8] [x4, x5, x6, x7]) h8 = bl_slices_Index___int_int_ J G cf j2 j3 x4 x5 x6 x7 h8 := by kernel_rfl

theorem dl_slices_Index___int_int_ (J : JT) (G : GT) (cf : CF) (j2 : K.Fn 0) : l_slices_Index___int_int_ J G cf j2 = loopF P J G cf (nT P 80) (atC P 80 [1, 0, 1, 0, 0]) al_slices_Index___int_int_ [0, 1, 7, 8] (fun q t H => match Nat.beq q 0 with | true => app 0 j2 (vals [] t) H | false => (fun _ _ _ => none) q t H) (retK P 80) := by
  unfold l_slices_Index___int_int_ loopF
  refine congrArg (LP 4) ?_
  funext j3 x4 x5 x6 x7 h8
  exact (rl_slices_Index___int_int_ J G cf j2 j3 x4 x5 x6 x7 h8).symm

theorem ql_slices_Index___int_int_ (cf : CF) (j2 : K.Fn 0) (x4 x5 x6 x7 : AV) (h8 : Hp) : l_slices_Index___int_int_ JN GO cf j2 x4 x5 x6 x7 h8 = bl_slices_Index___int_int_ JN GO cf j2 (l_slices_Index___int_int_ JN GO cf j2) x4 x5 x6 x7 h8 := by
  have h1 : l_slices_Index___int_int_ JN GO cf j2 x4 x5 x6 x7 h8 = app 4 (loopF P JN GO cf (nT P 80) (atC P 80 [1, 0, 1, 0, 0]) al_slices_Index___int_int_ [0, 1, 7, 8] (fun q t H => match Nat.beq q 0 with | true => app 0 j2 (vals [] t) H | false => (fun _ _ _ => none) q t H) (retK P 80)) [x4, x5, x6, x7] h8 := by rw [dl_slices_Index___int_int_]; kernel_rfl
  refine h1.trans ((loopF_eq (P := P) cf (nT P 80) (atC P 80 [1, 0, 1, 0, 0]) al_slices_Index___int_int_ [0, 1, 7, 8] (fun q t H => match Nat.beq q 0 with | true => app 0 j2 (vals [] t) H | false => (fun _ _ _ => none) q t H) (retK P 80) [x4, x5, x6, x7] rfl h8).trans ((rl_slices_Index___int_int_ JN GO cf j2 _ x4 x5 x6 x7 h8).trans ?_))
  rw [dl_slices_Index___int_int_]

noncomputable def s_slices_Index___int_int_ (J : JT) (G : GT) (cf : CF) (a0 a1 : AV) (H : Hp) : R :=
 J 0 (fun j0 =>
 B1 (lenx a0) fun v1 =>
 J 0 (fun j2 =>
 l_slices_Index___int_int_ J G cf j2 a0 a1 v1 (.int .i64 0) H) (fun  h28 =>
 j0  h28)) (fun  h29 =>
 some ((.int .i64 (-1)), h29))

theorem e_slices_Index___int_int_ (J : JT) (G : GT) (cf : CF) (a0 a1 : AV) (H : Hp) : callF P J G prim an cf 80 [a0, a1] H = s_slices_Index___int_int_ J G cf a0 a1 H := by kernel_rfl

theorem c_slices_Index___int_int_ {a0 a1 : AV} {H : Hp} {r : AV × Hp} (h : s_slices_Index___int_int_ JN GO cK a0 a1 H = some r) : cK (.func (.func 80) [] []) [a0, a1] H = some r := callF_fix (first := []) (cap := []) ((e_slices_Index___int_int_ JN GO _ a0 a1 H).trans h)

noncomputable def s_slices_Contains___int_int_ (J : JT) (G : GT) (cf : CF) (a0 a1 : AV) (H : Hp) : R :=
 B2 (cf (.func (.func 80) [] []) [a0, a1] H) fun v0 h1 =>
 B1 (ige v0 (.int .i64 0)) fun v2 =>
 some (v2, h1)

theorem e_slices_Contains___int_int_ (J : JT) (G : GT) (cf : CF) (a0 a1 : AV) (H : Hp) : callF P J G prim an cf 51 [a0, a1] H = s_slices_Contains___int_int_ J G cf a0 a1 H := by kernel_rfl

theorem c_slices_Contains___int_int_ {a0 a1 : AV} {H : Hp} {r : AV × Hp} (h : s_slices_Contains___int_int_ JN GO cK a0 a1 H = some r) : cK (.func (.func 51) [] []) [a0, a1] H = some r := callF_fix (first := []) (cap := []) ((e_slices_Contains___int_int_ JN GO _ a0 a1 H).trans h)

noncomputable def s_slices_Clone___def_Task_def_Task_ (J : JT) (G : GT) (cf : CF) (a0 : AV) (H : Hp) : R :=
 IFT (gA P .eql 23 true a0 .slice0) <| B1 (binA P .eql 23 a0 .slice0 H) fun v0 =>
 CD v0 (
 some (.slice0, H)) (
 B1 (fl [] []) fun l1 =>
 BN (newCells H l1 43 0) fun i2 h3 =>
 B2 (app' 43 6 [(.str []), .slice0, (.int .i64 0), (.int .i64 0), (.int .i64 0), (.str [])] false (.slice i2 0 0 0 true 6) a0 h3) fun v4 h5 =>
 some (v4, h5))

theorem e_slices_Clone___def_Task_def_Task_ (J : JT) (G : GT) (cf : CF) (a0 : AV) (H : Hp) : callF P J G prim an cf 74 [a0] H = s_slices_Clone___def_Task_def_Task_ J G cf a0 H := by kernel_rfl

theorem c_slices_Clone___def_Task_def_Task_ {a0 : AV} {H : Hp} {r : AV × Hp} (h : s_slices_Clone___def_Task_def_Task_ JN GO cK a0 H = some r) : cK (.func (.func 74) [] []) [a0] H = some r := callF_fix (first := []) (cap := []) ((e_slices_Clone___def_Task_def_Task_ JN GO _ a0 H).trans h)

noncomputable def s_slices_Clone___int_int_ (J : JT) (G : GT) (cf : CF) (a0 : AV) (H : Hp) : R :=
 IFT (gA P .eql 35 true a0 .slice0) <| B1 (binA P .eql 35 a0 .slice0 H) fun v0 =>
 CD v0 (
 some (.slice0, H)) (
 B1 (fl [] []) fun l1 =>
 BN (newCells H l1 3 0) fun i2 h3 =>
 B2 (app' 3 1 [(.int .i64 0)] false (.slice i2 0 0 0 true 1) a0 h3) fun v4 h5 =>
 some (v4, h5))

theorem e_slices_Clone___int_int_ (J : JT) (G : GT) (cf : CF) (a0 : AV) (H : Hp) : callF P J G prim an cf 75 [a0] H = s_slices_Clone___int_int_ J G cf a0 H := by kernel_rfl

theorem c_slices_Clone___int_int_ {a0 : AV} {H : Hp} {r : AV × Hp} (h : s_slices_Clone___int_int_ JN GO cK a0 H = some r) : cK (.func (.func 75) [] []) [a0] H = some r := callF_fix (first := []) (cap := []) ((e_slices_Clone___int_int_ JN GO _ a0 H).trans h)

noncomputable def s_slices_Clone___run_Task_run_Task_ (J : JT) (G : GT) (cf : CF) (a0 : AV) (H : Hp) : R :=
 IFT (gA P .eql 44 true a0 .slice0) <| B1 (binA P .eql 44 a0 .slice0 H) fun v0 =>
 CD v0 (
 some (.slice0, H)) (
 B1 (fl [] []) fun l1 =>
 BN (newCells H l1 51 0) fun i2 h3 =>
 B2 (app' 51 4 [(.int .i64 0), (.int .i64 0), (.int .i64 0), (.str [])] false (.slice i2 0 0 0 true 4) a0 h3) fun v4 h5 =>
 some (v4, h5))

theorem e_slices_Clone___run_Task_run_Task_ (J : JT) (G : GT) (cf : CF) (a0 : AV) (H : Hp) : callF P J G prim an cf 76 [a0] H = s_slices_Clone___run_Task_run_Task_ J G cf a0 H := by kernel_rfl

theorem c_slices_Clone___run_Task_run_Task_ {a0 : AV} {H : Hp} {r : AV × Hp} (h : s_slices_Clone___run_Task_run_Task_ JN GO cK a0 H = some r) : cK (.func (.func 76) [] []) [a0] H = some r := callF_fix (first := []) (cap := []) ((e_slices_Clone___run_Task_run_Task_ JN GO _ a0 H).trans h)

noncomputable def s_slices_Clone___string_string_ (J : JT) (G : GT) (cf : CF) (a0 : AV) (H : Hp) : R :=
 IFT (gA P .eql 45 true a0 .slice0) <| B1 (binA P .eql 45 a0 .slice0 H) fun v0 =>
 CD v0 (
 some (.slice0, H)) (
 B1 (fl [] []) fun l1 =>
 BN (newCells H l1 9 0) fun i2 h3 =>
 B2 (app' 9 1 [(.str [])] false (.slice i2 0 0 0 true 1) a0 h3) fun v4 h5 =>
 some (v4, h5))

theorem e_slices_Clone___string_string_ (J : JT) (G : GT) (cf : CF) (a0 : AV) (H : Hp) : callF P J G prim an cf 77 [a0] H = s_slices_Clone___string_string_ J G cf a0 H := by kernel_rfl

theorem c_slices_Clone___string_string_ {a0 : AV} {H : Hp} {r : AV × Hp} (h : s_slices_Clone___string_string_ JN GO cK a0 H = some r) : cK (.func (.func 77) [] []) [a0] H = some r := callF_fix (first := []) (cap := []) ((e_slices_Clone___string_string_ JN GO _ a0 H).trans h)

def al_slices_Equal___int_int_ : An := (.sq none .nl (.sq none (.cd .nl .nl) (.sq (some [0, 1, 12, 13]) (.bl none (.sq none .nl (.sq (some [0, 1, 12, 13, 24]) .nl (.cd (.sq none .nl .nl) .nl)))) .nl)))

noncomputable def bl_slices_Equal___int_int_ (J : JT) (G : GT) (cf : CF) (j14 : K.Fn 0) (j15 : K.Fn 4) (x16 x17 x18 x19 : AV) (h20 : Hp) : R :=
 B1 (ilt x19 x18) fun v21 =>
 CD v21 (
 J 4 (fun j22 =>
 J 5 (fun j23 =>
 B1 (ia 1 x16 x19) fun v24 =>
 B1 (ld v24 h20) fun v25 =>
 B1 (ia 1 x17 x19) fun v26 =>
 B1 (ld v26 h20) fun v27 =>
 B1 (ine v25 v27) fun v28 =>
 j23 x16 x17 x18 x19 v28 h20) (fun x29 x30 x31 x32 x33 h34 =>
 CD x33 (
 some ((.bool false), h34)) (
 j22 x29 x30 x31 x32 h34))) (fun x35 x36 x37 x38 h39 =>
 B1 (iadd x38 (.int .i64 1)) fun v40 =>
 j15 x35 x36 x37 v40 h39)) (
 j14  h20)

noncomputable def l_slices_Equal___int_int_ (J : JT) (G : GT) (cf : CF) (j14 : K.Fn 0) : K.Fn 4 := LP 4 fun j15 => fun x16 x17 x18 x19 h20 => bl_slices_Equal___int_int_ J G cf j14 j15 x16 x17 x18 x19 h20

theorem rl_slices_Equal___int_int_ (J : JT) (G : GT) (cf : CF) (j14 : K.Fn 0) (j15 : K.Fn 4) (x16 x17 x18 x19 : AV) (h20 : Hp) : codeF P J G cf (nT P 54) (atC P 54 [1, 1, 0, 1, 0, 0]) al_slices_Equal___int_int_ (fun t H => app 4 j15 (vals [0, 1, 12, 13] t) H) (fun q t H => match Nat.beq q 0 with | true => app 0 j14 (vals [] t) H | false => (fun _ _ _ => none) q t H) (retK P 54) (mkT (nT P 54) [0, 1, 12, 13] [x16, x17, x18, x19]) h20 = bl_slices_Equal___int_int_ J G cf j14 j15 x16 x17 x18 x19 h20 := by kernel_rfl

theorem dl_slices_Equal___int_int_ (J : JT) (G : GT) (cf : CF) (j14 : K.Fn 0) : l_slices_Equal___int_int_ J G cf j14 = loopF P J G cf (nT P 54) (atC P 54 [1, 1, 0, 1, 0, 0]) al_slices_Equal___int_int_ [0, 1, 12, 13] (fun q t H => match Nat.beq q 0 with | true => app 0 j14 (vals [] t) H | false => (fun _ _ _ => none) q t H) (retK P 54) := by
  unfold l_slices_Equal___int_int_ loopF
  refine congrArg (LP 4) ?_
  funext j15 x16 x17 x18 x19 h20
  exact (rl_slices_Equal___int_int_ J G cf j14 j15 x16 x17 x18 x19 h20).symm

theorem ql_slices_Equal___int_int_ (cf : CF) (j14 : K.Fn 0) (x16 x17 x18 x19 : AV) (h20 : Hp) : l_slices_Equal___int_int_ JN GO cf j14 x16 x17 x18 x19 h20 = bl_slices_Equal___int_int_ JN GO cf j14 (l_slices_Equal___int_int_ JN GO cf j14) x16 x17 x18 x19 h20 := by
  have h1 : l_slices_Equal___int_int_ JN GO cf j14 x16 x17 x18 x19 h20 = app 4 (loopF P JN GO cf (nT P 54) (atC P 54 [1, 1, 0, 1, 0, 0]) al_slices_Equal___int_int_ [0, 1, 12, 13] (fun q t H => match Nat.beq q 0 with | true => app 0 j14 (vals [] t) H | false => (fun _ _ _ => none) q t H) (retK P 54)) [x16, x17, x18, x19] h20 := by rw [dl_slices_Equal___int_int_]; kernel_rfl
  refine h1.trans ((loopF_eq (P := P) cf (nT P 54) (atC P 54 [1, 1, 0, 1, 0, 0]) al_slices_Equal___int_int_ [0, 1, 12, 13] (fun q t H => match Nat.beq q 0 with | true => app 0 j14 (vals [] t) H | false => (fun _ _ _ => none) q t H) (retK P 54) [x16, x17, x18, x19] rfl h20).trans ((rl_slices_Equal___int_int_ JN GO cf j14 _ x16 x17 x18 x19 h20).trans ?_))
  rw [dl_slices_Equal___int_int_]

noncomputable def s_slices_Equal___int_int_ (J : JT) (G : GT) (cf : CF) (a0 a1 : AV) (H : Hp) : R :=
 J 2 (fun j0 =>
 J 3 (fun j1 =>
 B1 (lenx a0) fun v2 =>
 B1 (lenx a1) fun v3 =>
 B1 (ine v2 v3) fun v4 =>
 j1 a0 a1 v4 H) (fun x5 x6 x7 h8 =>
 CD x7 (
 some ((.bool false), h8)) (
 j0 x5 x6 h8))) (fun x9 x10 h11 =>
 J 0 (fun j12 =>
 B1 (lenx x9) fun v13 =>
 J 0 (fun j14 =>
 l_slices_Equal___int_int_ J G cf j14 x9 x10 v13 (.int .i64 0) h11) (fun  h41 =>
 j12  h41)) (fun  h42 =>
 some ((.bool true), h42)))

theorem e_slices_Equal___int_int_ (J : JT) (G : GT) (cf : CF) (a0 a1 : AV) (H : Hp) : callF P J G prim an cf 54 [a0, a1] H = s_slices_Equal___int_int_ J G cf a0 a1 H := by kernel_rfl

theorem c_slices_Equal___int_int_ {a0 a1 : AV} {H : Hp} {r : AV × Hp} (h : s_slices_Equal___int_int_ JN GO cK a0 a1 H = some r) : cK (.func (.func 54) [] []) [a0, a1] H = some r := callF_fix (first := []) (cap := []) ((e_slices_Equal___int_int_ JN GO _ a0 a1 H).trans h)

def al_slices_Equal___run_Task_run_Task_ : An := (.sq none .nl (.sq none (.cd .nl .nl) (.sq (some [0, 1, 12, 13]) (.bl none (.sq none .nl (.sq (some [0, 1, 12, 13, 24]) .nl (.cd (.sq none .nl .nl) .nl)))) .nl)))

noncomputable def bl_slices_Equal___run_Task_run_Task_ (J : JT) (G : GT) (cf : CF) (j14 : K.Fn 0) (j15 : K.Fn 4) (x16 x17 x18 x19 : AV) (h20 : Hp) : R :=
 B1 (ilt x19 x18) fun v21 =>
 CD v21 (
 J 4 (fun j22 =>
 J 5 (fun j23 =>
 B1 (ia 4 x16 x19) fun v24 =>
 B1 (lda 4 v24 h20) fun v25 =>
 B1 (ia 4 x17 x19) fun v26 =>
 B1 (lda 4 v26 h20) fun v27 =>
 IFT (gA P .neq 51 false v25 v27) <| B1 (binA P .neq 51 v25 v27 h20) fun v28 =>
 j23 x16 x17 x18 x19 v28 h20) (fun x29 x30 x31 x32 x33 h34 =>
 CD x33 (
 some ((.bool false), h34)) (
 j22 x29 x30 x31 x32 h34))) (fun x35 x36 x37 x38 h39 =>
 B1 (iadd x38 (.int .i64 1)) fun v40 =>
 j15 x35 x36 x37 v40 h39)) (
 j14  h20)

noncomputable def l_slices_Equal___run_Task_run_Task_ (J : JT) (G : GT) (cf : CF) (j14 : K.Fn 0) : K.Fn 4 := LP 4 fun j15 => fun x16 x17 x18 x19 h20 => bl_slices_Equal___run_Task_run_Task_ J G cf j14 j15 x16 x17 x18 x19 h20

theorem rl_slices_Equal___run_Task_run_Task_ (J : JT) (G : GT) (cf : CF) (j14 : K.Fn 0) (j15 : K.Fn 4) (x16 x17 x18 x19 : AV) (h20 : Hp) : codeF P J G cf (nT P 55) (atC P 55 [1, 1, 0, 1, 0, 0]) al_slices_Equal___run_Task_run_Task_ (fun t H => app 4 j15 (vals [0, 1, 12, 13] t) H) (fun q t H => match Nat.beq q 0 with | true => app 0 j14 (vals [] t) H | false => (fun _ _ _ => none) q t H) (retK P 55) (mkT (nT P 55) [0, 1, 12, 13] [x16, x17, x18, x19]) h20 = bl_slices_Equal___run_Task_run_Task_ J G cf j14 j15 x16 x17 x18 x19 h20 := by kernel_rfl

theorem dl_slices_Equal___run_Task_run_Task_ (J : JT) (G : GT) (cf : CF) (j14 : K.Fn 0) : l_slices_Equal___run_Task_run_Task_ J G cf j14 = loopF P J G cf (nT P 55) (atC P 55 [1, 1, 0, 1, 0, 0]) al_slices_Equal___run_Task_run_Task_ [0, 1, 12, 13] (fun q t H => match Nat.beq q 0 with | true => app 0 j14 (vals [] t) H | false => (fun _ _ _ => none) q t H) (retK P 55) := by
  unfold l_slices_Equal___run_Task_run_Task_ loopF
  refine congrArg (LP 4) ?_
  funext j15 x16 x17 x18 x19 h20
  exact (rl_slices_Equal___run_Task_run_Task_ J G cf j14 j15 x16 x17 x18 x19 h20).symm

theorem ql_slices_Equal___run_Task_run_Task_ (cf : CF) (j14 : K.Fn 0) (x16 x17 x18 x19 : AV) (h20 : Hp) : l_slices_Equal___run_Task_run_Task_ JN GO cf j14 x16 x17 x18 x19 h20 = bl_slices_Equal___run_Task_run_Task_ JN GO cf j14 (l_slices_Equal___run_Task_run_Task_ JN GO cf j14) x16 x17 x18 x19 h20 := by
  have h1 : l_slices_Equal___run_Task_run_Task_ JN GO cf j14 x16 x17 x18 x19 h20 = app 4 (loopF P JN GO cf (nT P 55) (atC P 55 [1, 1, 0, 1, 0, 0]) al_slices_Equal___run_Task_run_Task_ [0, 1, 12, 13] (fun q t H => match Nat.beq q 0 with | true => app 0 j14 (vals [] t) H | false => (fun _ _ _ => none) q t H) (retK P 55)) [x16, x17, x18, x19] h20 := by rw [dl_slices_Equal___run_Task_run_Task_]; kernel_rfl
  refine h1.trans ((loopF_eq (P := P) cf (nT P 55) (atC P 55 [1, 1, 0, 1, 0, 0]) al_slices_Equal___run_Task_run_Task_ [0, 1, 12, 13] (fun q t H => match Nat.beq q 0 with | true => app 0 j14 (vals [] t) H | false => (fun _ _ _ => none) q t H) (retK P 55) [x16, x17, x18, x19] rfl h20).trans ((rl_slices_Equal___run_Task_run_Task_ JN GO cf j14 _ x16 x17 x18 x19 h20).trans ?_))
  rw [dl_slices_Equal___run_Task_run_Task_]

noncomputable def s_slices_Equal___run_Task_run_Task_ (J : JT) (G : GT) (cf : CF) (a0 a1 : AV) (H : Hp) : R :=
 J 2 (fun j0 =>
 J 3 (fun j1 =>
 B1 (lenx a0) fun v2 =>
 B1 (lenx a1) fun v3 =>
 B1 (ine v2 v3) fun v4 =>
 j1 a0 a1 v4 H) (fun x5 x6 x7 h8 =>
 CD x7 (
 some ((.bool false), h8)) (
 j0 x5 x6 h8))) (fun x9 x10 h11 =>
 J 0 (fun j12 =>
 B1 (lenx x9) fun v13 =>
 J 0 (fun j14 =>
 l_slices_Equal___run_Task_run_Task_ J G cf j14 x9 x10 v13 (.int .i64 0) h11) (fun  h41 =>
 j12  h41)) (fun  h42 =>
 some ((.bool true), h42)))

theorem e_slices_Equal___run_Task_run_Task_ (J : JT) (G : GT) (cf : CF) (a0 a1 : AV) (H : Hp) : callF P J G prim an cf 55 [a0, a1] H = s_slices_Equal___run_Task_run_Task_ J G cf a0 a1 H := by kernel_rfl

theorem c_slices_Equal___run_Task_run_Task_ {a0 a1 : AV} {H : Hp} {r : AV × Hp} (h : s_slices_Equal___run_Task_run_Task_ JN GO cK a0 a1 H = some r) : cK (.func (.func 55) [] []) [a0, a1] H = some r := callF_fix (first := []) (cap := []) ((e_slices_Equal___run_Task_run_Task_ JN GO _ a0 a1 H).trans h)

def al_slices_Equal___string_string_ : An := (.sq none .nl (.sq none (.cd .nl .nl) (.sq (some [0, 1, 12, 13]) (.bl none (.sq none .nl (.sq (some [0, 1, 12, 13, 24]) .nl (.cd (.sq none .nl .nl) .nl)))) .nl)))

noncomputable def bl_slices_Equal___string_string_ (J : JT) (G : GT) (cf : CF) (j14 : K.Fn 0) (j15 : K.Fn 4) (x16 x17 x18 x19 : AV) (h20 : Hp) : R :=
 B1 (ilt x19 x18) fun v21 =>
 CD v21 (
 J 4 (fun j22 =>
 J 5 (fun j23 =>
 B1 (ia 1 x16 x19) fun v24 =>
 B1 (ld v24 h20) fun v25 =>
 B1 (ia 1 x17 x19) fun v26 =>
 B1 (ld v26 h20) fun v27 =>
 B1 (sne v25 v27) fun v28 =>
 j23 x16 x17 x18 x19 v28 h20) (fun x29 x30 x31 x32 x33 h34 =>
 CD x33 (
 some ((.bool false), h34)) (
 j22 x29 x30 x31 x32 h34))) (fun x35 x36 x37 x38 h39 =>
 B1 (iadd x38 (.int .i64 1)) fun v40 =>
 j15 x35 x36 x37 v40 h39)) (
 j14  h20)

noncomputable def l_slices_Equal___string_string_ (J : JT) (G : GT) (cf : CF) (j14 : K.Fn 0) : K.Fn 4 := LP 4 fun j15 => fun x16 x17 x18 x19 h20 => bl_slices_Equal___string_string_ J G cf j14 j15 x16 x17 x18 x19 h20

theorem rl_slices_Equal___string_string_ (J : JT) (G : GT) (cf : CF) (j14 : K.Fn 0) (j15 : K.Fn 4) (x16 x17 x18 x19 : AV) (h20 : Hp) : codeF P J G cf (nT P 56) (atC P 56 [1, 1, 0, 1, 0, 0]) al_slices_Equal___string_string_ (fun t H => app 4 j15 (vals [0, 1, 12, 13] t) H) (fun q t H => match Nat.beq q 0 with | true => app 0 j14 (vals [] t) H | false => (fun _ _ _ => none) q t H) (retK P 56) (mkT (nT P 56) [0, 1, 12, 13] [x16, x17, x18, x19]) h20 = bl_slices_Equal___string_string_ J G cf j14 j15 x16 x17 x18 x19 h20 := by kernel_rfl

theorem dl_slices_Equal___string_string_ (J : JT) (G : GT) (cf : CF) (j14 : K.Fn 0) : l_slices_Equal___string_string_ J G cf j14 = loopF P J G cf (nT P 56) (atC P 56 [1, 1, 0, 1, 0, 0]) al_slices_Equal___string_string_ [0, 1, 12, 13] (fun q t H => match Nat.beq q 0 with | true => app 0 j14 (vals [] t) H | false => (fun _ _ _ => none) q t H) (retK P 56) := by
  unfold l_slices_Equal___string_string_ loopF
  refine congrArg (LP 4) ?_
  funext j15 x16 x17 x18 x19 h20
  exact (rl_slices_Equal___string_string_ J G cf j14 j15 x16 x17 x18 x19 h20).symm

theorem ql_slices_Equal___string_string_ (cf : CF) (j14 : K.Fn 0) (x16 x17 x18 x19 : AV) (h20 : Hp) : l_slices_Equal___string_string_ JN GO cf j14 x16 x17 x18 x19 h20 = bl_slices_Equal___string_string_ JN GO cf j14 (l_slices_Equal___string_string_ JN GO cf j14) x16 x17 x18 x19 h20 := by
  have h1 : l_slices_Equal___string_string_ JN GO cf j14 x16 x17 x18 x19 h20 = app 4 (loopF P JN GO cf (nT P 56) (atC P 56 [1, 1, 0, 1, 0, 0]) al_slices_Equal___string_string_ [0, 1, 12, 13] (fun q t H => match Nat.beq q 0 with | true => app 0 j14 (vals [] t) H | false => (fun _ _ _ => none) q t H) (retK P 56)) [x16, x17, x18, x19] h20 := by rw [dl_slices_Equal___string_string_]; kernel_rfl
  refine h1.trans ((loopF_eq (P := P) cf (nT P 56) (atC P 56 [1, 1, 0, 1, 0, 0]) al_slices_Equal___string_string_ [0, 1, 12, 13] (fun q t H => match Nat.beq q 0 with | true => app 0 j14 (vals [] t) H | false => (fun _ _ _ => none) q t H) (retK P 56) [x16, x17, x18, x19] rfl h20).trans ((rl_slices_Equal___string_string_ JN GO cf j14 _ x16 x17 x18 x19 h20).trans ?_))
  rw [dl_slices_Equal___string_string_]

noncomputable def s_slices_Equal___string_string_ (J : JT) (G : GT) (cf : CF) (a0 a1 : AV) (H : Hp) : R :=
 J 2 (fun j0 =>
 J 3 (fun j1 =>
 B1 (lenx a0) fun v2 =>
 B1 (lenx a1) fun v3 =>
 B1 (ine v2 v3) fun v4 =>
 j1 a0 a1 v4 H) (fun x5 x6 x7 h8 =>
 CD x7 (
 some ((.bool false), h8)) (
 j0 x5 x6 h8))) (fun x9 x10 h11 =>
 J 0 (fun j12 =>
 B1 (lenx x9) fun v13 =>
 J 0 (fun j14 =>
 l_slices_Equal___string_string_ J G cf j14 x9 x10 v13 (.int .i64 0) h11) (fun  h41 =>
 j12  h41)) (fun  h42 =>
 some ((.bool true), h42)))

theorem e_slices_Equal___string_string_ (J : JT) (G : GT) (cf : CF) (a0 a1 : AV) (H : Hp) : callF P J G prim an cf 56 [a0, a1] H = s_slices_Equal___string_string_ J G cf a0 a1 H := by kernel_rfl

theorem c_slices_Equal___string_string_ {a0 a1 : AV} {H : Hp} {r : AV × Hp} (h : s_slices_Equal___string_string_ JN GO cK a0 a1 H = some r) : cK (.func (.func 56) [] []) [a0, a1] H = some r := callF_fix (first := []) (cap := []) ((e_slices_Equal___string_string_ JN GO _ a0 a1 H).trans h)

def al_slices_EqualFunc___def_Task___def_Task_def_Task_def_Task_ : An := (.sq none .nl (.sq none (.cd .nl .nl) (.sq (some [1, 2, 15, 16, 17]) (.bl none (.sq (some [1, 2, 7, 8, 15, 16, 17]) .nl (.sq (some [1, 2, 8, 9, 15, 16, 17]) .nl (.sq (some [1, 2, 15, 16, 17, 30]) .nl (.cd (.sq none .nl .nl) .nl))))) .nl)))

noncomputable def bl_slices_EqualFunc___def_Task___def_Task_def_Task_def_Task_ (J : JT) (G : GT) (cf : CF) (j16 : K.Fn 0) (j17 : K.Fn 5) (x18 x19 x20 x21 x22 : AV) (h23 : Hp) : R :=
 B1 (ilt x22 x21) fun v24 =>
 CD v24 (
 J 5 (fun j25 =>
 J 7 (fun j26 =>
 B1 (ia 6 x20 x22) fun v27 =>
 B1 (lda 6 v27 h23) fun v28 =>
 BN (newCells h23 [(.str []), .slice0, (.int .i64 0), (.int .i64 0), (.int .i64 0), (.str [])] 43 0) fun i29 h30 =>
 B1 (st 6 (.ptr i29 0) v28 h30) fun h31 =>
 j26 x18 x19 x22 (.ptr i29 0) x20 x21 x22 h31) (fun x32 x33 x34 x35 x36 x37 x38 h39 =>
 J 7 (fun j40 =>
 B1 (ia 6 x32 x34) fun v41 =>
 B1 (lda 6 v41 h39) fun v42 =>
 BN (newCells h39 [(.str []), .slice0, (.int .i64 0), (.int .i64 0), (.int .i64 0), (.str [])] 43 0) fun i43 h44 =>
 B1 (st 6 (.ptr i43 0) v42 h44) fun h45 =>
 j40 x32 x33 x35 (.ptr i43 0) x36 x37 x38 h45) (fun x46 x47 x48 x49 x50 x51 x52 h53 =>
 J 6 (fun j54 =>
 B1 (lda 6 x48 h53) fun v55 =>
 B1 (lda 6 x49 h53) fun v56 =>
 B2 (cf x47 [v55, v56] h53) fun v57 h58 =>
 B1 (unA .not v57) fun v59 =>
 j54 x46 x47 x50 x51 x52 v59 h58) (fun x60 x61 x62 x63 x64 x65 h66 =>
 CD x65 (
 some ((.bool false), h66)) (
 j25 x60 x61 x62 x63 x64 h66))))) (fun x67 x68 x69 x70 x71 h72 =>
 B1 (iadd x71 (.int .i64 1)) fun v73 =>
 j17 x67 x68 x69 x70 v73 h72)) (
 j16  h23)

noncomputable def l_slices_EqualFunc___def_Task___def_Task_def_Task_def_Task_ (J : JT) (G : GT) (cf : CF) (j16 : K.Fn 0) : K.Fn 5 := LP 5 fun j17 => fun x18 x19 x20 x21 x22 h23 => bl_slices_EqualFunc___def_Task___def_Task_def_Task_def_Task_ J G cf j16 j17 x18 x19 x20 x21 x22 h23

theorem rl_slices_EqualFunc___def_Task___def_Task_def_Task_def_Task_ (J : JT) (G : GT) (cf : CF) (j16 : K.Fn 0) (j17 : K.Fn 5) (x18 x19 x20 x21 x22 : AV) (h23 : Hp) : codeF P J G cf (nT P 57) (atC P 57 [1, 1, 0, 1, 0, 0]) al_slices_EqualFunc___def_Task___def_Task_def_Task_def_Task_ (fun t H => app 5 j17 (vals [1, 2, 15, 16, 17] t) H) (fun q t H => match Nat.beq q 0 with | true => app 0 j16 (vals [] t) H | false => (fun _ _ _ => none) q t H) (retK P 57) (mkT (nT P 57) [1, 2, 15, 16, 17] [x18, x19, x20, x21, x22]) h23 = bl_slices_EqualFunc___def_Task___def_Task_def_Task_def_Task_ J G cf j16 j17 x18 x19 x20 x21 x22 h23 := by kernel_rfl

theorem dl_slices_EqualFunc___def_Task___def_Task_def_Task_def_Task_ (J : JT) (G : GT) (cf : CF) (j16 : K.Fn 0) : l_slices_EqualFunc___def_Task___def_Task_def_Task_def_Task_ J G cf j16 = loopF P J G cf (nT P 57) (atC P 57 [1, 1, 0, 1, 0, 0]) al_slices_EqualFunc___def_Task___def_Task_def_Task_def_Task_ [1, 2, 15, 16, 17] (fun q t H => match Nat.beq q 0 with | true => app 0 j16 (vals [] t) H | false => (fun _ _ _ => none) q t H) (retK P 57) := by
  unfold l_slices_EqualFunc___def_Task___def_Task_def_Task_def_Task_ loopF
  refine congrArg (LP 5) ?_
  funext j17 x18 x19 x20 x21 x22 h23
  exact (rl_slices_EqualFunc___def_Task___def_Task_def_Task_def_Task_ J G cf j16 j17 x18 x19 x20 x21 x22 h23).symm

theorem ql_slices_EqualFunc___def_Task___def_Task_def_Task_def_Task_ (cf : CF) (j16 : K.Fn 0) (x18 x19 x20 x21 x22 : AV) (h23 : Hp) : l_slices_EqualFunc___def_Task___def_Task_def_Task_def_Task_ JN GO cf j16 x18 x19 x20 x21 x22 h23 = bl_slices_EqualFunc___def_Task___def_Task_def_Task_def_Task_ JN GO cf j16 (l_slices_EqualFunc___def_Task___def_Task_def_Task_def_Task_ JN GO cf j16) x18 x19 x20 x21 x22 h23 := by
  have h1 : l_slices_EqualFunc___def_Task___def_Task_def_Task_def_Task_ JN GO cf j16 x18 x19 x20 x21 x22 h23 = app 5 (loopF P JN GO cf (nT P 57) (atC P 57 [1, 1, 0, 1, 0, 0]) al_slices_EqualFunc___def_Task___def_Task_def_Task_def_Task_ [1, 2, 15, 16, 17] (fun q t H => match Nat.beq q 0 with | true => app 0 j16 (vals [] t) H | false => (fun _ _ _ => none) q t H) (retK P 57)) [x18, x19, x20, x21, x22] h23 := by rw [dl_slices_EqualFunc___def_Task___def_Task_def_Task_def_Task_]; kernel_rfl
  refine h1.trans ((loopF_eq (P := P) cf (nT P 57) (atC P 57 [1, 1, 0, 1, 0, 0]) al_slices_EqualFunc___def_Task___def_Task_def_Task_def_Task_ [1, 2, 15, 16, 17] (fun q t H => match Nat.beq q 0 with | true => app 0 j16 (vals [] t) H | false => (fun _ _ _ => none) q t H) (retK P 57) [x18, x19, x20, x21, x22] rfl h23).trans ((rl_slices_EqualFunc___def_Task___def_Task_def_Task_def_Task_ JN GO cf j16 _ x18 x19 x20 x21 x22 h23).trans ?_))
  rw [dl_slices_EqualFunc___def_Task___def_Task_def_Task_def_Task_]

noncomputable def s_slices_EqualFunc___def_Task___def_Task_def_Task_def_Task_ (J : JT) (G : GT) (cf : CF) (a0 a1 a2 : AV) (H : Hp) : R :=
 J 3 (fun j0 =>
 J 4 (fun j1 =>
 B1 (lenx a0) fun v2 =>
 B1 (lenx a1) fun v3 =>
 B1 (ine v2 v3) fun v4 =>
 j1 a0 a1 a2 v4 H) (fun x5 x6 x7 x8 h9 =>
 CD x8 (
 some ((.bool false), h9)) (
 j0 x5 x6 x7 h9))) (fun x10 x11 x12 h13 =>
 J 0 (fun j14 =>
 B1 (lenx x10) fun v15 =>
 J 0 (fun j16 =>
 l_slices_EqualFunc___def_Task___def_Task_def_Task_def_Task_ J G cf j16 x11 x12 x10 v15 (.int .i64 0) h13) (fun  h74 =>
 j14  h74)) (fun  h75 =>
 some ((.bool true), h75)))

theorem e_slices_EqualFunc___def_Task___def_Task_def_Task_def_Task_ (J : JT) (G : GT) (cf : CF) (a0 a1 a2 : AV) (H : Hp) : callF P J G prim an cf 57 [a0, a1, a2] H = s_slices_EqualFunc___def_Task___def_Task_def_Task_def_Task_ J G cf a0 a1 a2 H := by kernel_rfl

theorem c_slices_EqualFunc___def_Task___def_Task_def_Task_def_Task_ {a0 a1 a2 : AV} {H : Hp} {r : AV × Hp} (h : s_slices_EqualFunc___def_Task___def_Task_def_Task_def_Task_ JN GO cK a0 a1 a2 H = some r) : cK (.func (.func 57) [] []) [a0, a1, a2] H = some r := callF_fix (first := []) (cap := []) ((e_slices_EqualFunc___def_Task___def_Task_def_Task_def_Task_ JN GO _ a0 a1 a2 H).trans h)

def al_graph_Good : An := (.sq none .nl (.sq none (.cd .nl .nl) (.sq (some [1, 3, 16, 17, 18]) (.bl none (.sq none .nl (.sq (some [1, 3, 5, 16, 17, 18]) (.sq (some [1, 3, 5, 16, 17, 18, 45]) .nl (.cd (.sq none .nl .nl) .nl)) .nl))) .nl)))

noncomputable def bl_graph_Good (J : JT) (G : GT) (cf : CF) (j31 : K.Fn 0) (j32 : K.Fn 5) (x33 x34 x35 x36 x37 : AV) (h38 : Hp) : R :=
 B1 (ilt x37 x36) fun v39 =>
 CD v39 (
 J 5 (fun j40 =>
 B1 (ia 2 x35 x37) fun v41 =>
 B1 (lda 2 v41 h38) fun v42 =>
 BN (newCells h38 [(.int .i64 0), (.int .i64 0)] 83 0) fun i43 h44 =>
 B1 (st 2 (.ptr i43 0) v42 h44) fun h45 =>
 J 6 (fun j46 =>
 J 7 (fun j47 =>
 B1 (lda 2 x33 h45) fun v48 =>
 B1 (iar 2 1 (.ptr i43 0) (.int .i64 0)) fun v49 =>
 B1 (ld v49 h45) fun v50 =>
 B2 (cf (.func (.func 70) [] []) [v48, v50] h45) fun v51 h52 =>
 B1 (unA .not v51) fun v53 =>
 G v53 false (fun k54 =>
 B1 (lda 2 x33 h52) fun v55 =>
 k54 v55 h52) (fun v56 h57 =>
 G v53 false (fun k58 =>
 B1 (iar 2 1 (.ptr i43 0) (.int .i64 1)) fun v59 =>
 k58 v59 h57) (fun v60 h61 =>
 G v53 false (fun k62 =>
 B1 (ld v60 h61) fun v63 =>
 k62 v63 h61) (fun v64 h65 =>
 G v53 false (fun k66 =>
 B2 (cf (.func (.func 70) [] []) [v56, v64] h65) fun v67 h68 =>
 k66 v67 h68) (fun v69 h70 =>
 G v53 false (fun k71 =>
 B1 (unA .not v69) fun v72 =>
 k71 v72 h70) (fun v73 h74 =>
 B1 (pk v53 (.bool true) v73) fun v75 =>
 G v75 false (fun k76 =>
 B1 (iar 2 1 (.ptr i43 0) (.int .i64 0)) fun v77 =>
 k76 v77 h74) (fun v78 h79 =>
 G v75 false (fun k80 =>
 B1 (ld v78 h79) fun v81 =>
 k80 v81 h79) (fun v82 h83 =>
 G v75 false (fun k84 =>
 B1 (iar 2 1 (.ptr i43 0) (.int .i64 1)) fun v85 =>
 k84 v85 h83) (fun v86 h87 =>
 G v75 false (fun k88 =>
 B1 (ld v86 h87) fun v89 =>
 k88 v89 h87) (fun v90 h91 =>
 G v75 false (fun k92 =>
 B1 (ieq v82 v90) fun v93 =>
 k92 v93 h91) (fun v94 h95 =>
 B1 (pk v75 (.bool true) v94) fun v96 =>
 G v96 false (fun k97 =>
 k97 x34 h95) (fun v98 h99 =>
 G v96 false (fun k100 =>
 B1 (lda 2 (.ptr i43 0) h99) fun v101 =>
 k100 v101 h99) (fun v102 h103 =>
 G v96 false (fun k104 =>
 B1 (lookupA P 119 v98 v102 false h103) fun v105 =>
 k104 v105 h103) (fun v106 h107 =>
 B1 (pk v96 (.bool true) v106) fun v108 =>
 j47 x33 x34 (.ptr i43 0) x35 x36 x37 v108 h107) h103) h99) h95) h91) h87) h83) h79) h74) h70) h65) h61) h57) h52) (fun x109 x110 x111 x112 x113 x114 x115 h116 =>
 CD x115 (
 some ((.bool false), h116)) (
 j46 x109 x110 x111 x112 x113 x114 h116))) (fun x117 x118 x119 x120 x121 x122 h123 =>
 B1 (lda 2 x119 h123) fun v124 =>
 B1 (mapUpd P 119 x118 v124 (.bool true) h123) fun h125 =>
 j40 x117 x118 x120 x121 x122 h125)) (fun x126 x127 x128 x129 x130 h131 =>
 B1 (iadd x130 (.int .i64 1)) fun v132 =>
 j32 x126 x127 x128 x129 v132 h131)) (
 j31  h38)

noncomputable def l_graph_Good (J : JT) (G : GT) (cf : CF) (j31 : K.Fn 0) : K.Fn 5 := LP 5 fun j32 => fun x33 x34 x35 x36 x37 h38 => bl_graph_Good J G cf j31 j32 x33 x34 x35 x36 x37 h38

theorem rl_graph_Good (J : JT) (G : GT) (cf : CF) (j31 : K.Fn 0) (j32 : K.Fn 5) (x33 x34 x35 x36 x37 : AV) (h38 : Hp) : codeF P J G cf (nT P 39) (atC P 39 [1, 1, 1, 0, 1, 0, 0]) al_graph_Good (fun t H => app 5 j32 (vals [1, 3, 16, 17, 18] t) H) (fun q t H => match Nat.beq q 0 with | true => app 0 j31 (vals [] t) H | false => (fun _ _ _ => none) q t H) (retK P 39) (mkT (nT P 39) [1, 3, 16, 17, 18] [x33, x34, x35, x36, x37]) h38 = bl_graph_Good J G cf j31 j32 x33 x34 x35 x36 x37 h38 := by kernel_rfl

theorem dl_graph_Good (J : JT) (G : GT) (cf : CF) (j31 : K.Fn 0) : l_graph_Good J G cf j31 = loopF P J G cf (nT P 39) (atC P 39 [1, 1, 1, 0, 1, 0, 0]) al_graph_Good [1, 3, 16, 17, 18] (fun q t H => match Nat.beq q 0 with | true => app 0 j31 (vals [] t) H | false => (fun _ _ _ => none) q t H) (retK P 39) := by
  unfold l_graph_Good loopF
  refine congrArg (LP 5) ?_
  funext j32 x33 x34 x35 x36 x37 h38
  exact (rl_graph_Good J G cf j31 j32 x33 x34 x35 x36 x37 h38).symm

theorem ql_graph_Good (cf : CF) (j31 : K.Fn 0) (x33 x34 x35 x36 x37 : AV) (h38 : Hp) : l_graph_Good JN GO cf j31 x33 x34 x35 x36 x37 h38 = bl_graph_Good JN GO cf j31 (l_graph_Good JN GO cf j31) x33 x34 x35 x36 x37 h38 := by
  have h1 : l_graph_Good JN GO cf j31 x33 x34 x35 x36 x37 h38 = app 5 (loopF P JN GO cf (nT P 39) (atC P 39 [1, 1, 1, 0, 1, 0, 0]) al_graph_Good [1, 3, 16, 17, 18] (fun q t H => match Nat.beq q 0 with | true => app 0 j31 (vals [] t) H | false => (fun _ _ _ => none) q t H) (retK P 39)) [x33, x34, x35, x36, x37] h38 := by rw [dl_graph_Good]; kernel_rfl
  refine h1.trans ((loopF_eq (P := P) cf (nT P 39) (atC P 39 [1, 1, 1, 0, 1, 0, 0]) al_graph_Good [1, 3, 16, 17, 18] (fun q t H => match Nat.beq q 0 with | true => app 0 j31 (vals [] t) H | false => (fun _ _ _ => none) q t H) (retK P 39) [x33, x34, x35, x36, x37] rfl h38).trans ((rl_graph_Good JN GO cf j31 _ x33 x34 x35 x36 x37 h38).trans ?_))
  rw [dl_graph_Good]

noncomputable def s_graph_Good (J : JT) (G : GT) (cf : CF) (a0 : AV) (H : Hp) : R :=
 BN (bx 39 a0 H) fun i0 h1 =>
 J 1 (fun j2 =>
 J 2 (fun j3 =>
 B1 (fa 0 (.ptr i0 0)) fun v4 =>
 B1 (ld v4 h1) fun v5 =>
 B1 (ilt v5 (.int .i64 0)) fun v6 =>
 G v6 false (fun k7 =>
 B1 (fa 0 (.ptr i0 0)) fun v8 =>
 k7 v8 h1) (fun v9 h10 =>
 G v6 false (fun k11 =>
 B1 (ld v9 h10) fun v12 =>
 k11 v12 h10) (fun v13 h14 =>
 G v6 false (fun k15 =>
 B1 (igt v13 (.int .i64 16)) fun v16 =>
 k15 v16 h14) (fun v17 h18 =>
 B1 (pk v6 (.bool true) v17) fun v19 =>
 j3 (.ptr i0 0) v19 h18) h14) h10) h1) (fun x20 x21 h22 =>
 CD x21 (
 some ((.bool false), h22)) (
 j2 x20 h22))) (fun x23 h24 =>
 BN (mk0 h24) fun i25 h26 =>
 J 0 (fun j27 =>
 B1 (fa 1 x23) fun v28 =>
 B1 (ld v28 h26) fun v29 =>
 B1 (lenx v29) fun v30 =>
 J 0 (fun j31 =>
 l_graph_Good J G cf j31 x23 (.map i25) v29 v30 (.int .i64 0) h26) (fun  h133 =>
 j27  h133)) (fun  h134 =>
 some ((.bool true), h134)))

theorem e_graph_Good (J : JT) (G : GT) (cf : CF) (a0 : AV) (H : Hp) : callF P J G prim an cf 39 [a0] H = s_graph_Good J G cf a0 H := by kernel_rfl

theorem c_graph_Good {a0 : AV} {H : Hp} {r : AV × Hp} (h : s_graph_Good JN GO cK a0 H = some r) : cK (.func (.func 39) [] []) [a0] H = some r := callF_fix (first := []) (cap := []) ((e_graph_Good JN GO _ a0 H).trans h)

noncomputable def s__graph_Graph_in (J : JT) (G : GT) (cf : CF) (a0 a1 : AV) (H : Hp) : R :=
 BN (bx 39 a0 H) fun i0 h1 =>
 B1 (ige a1 (.int .i64 0)) fun v2 =>
 G v2 true (fun k3 =>
 k3 a1 h1) (fun v4 h5 =>
 G v2 true (fun k6 =>
 B1 (fa 0 (.ptr i0 0)) fun v7 =>
 k6 v7 h5) (fun v8 h9 =>
 G v2 true (fun k10 =>
 B1 (ld v8 h9) fun v11 =>
 k10 v11 h9) (fun v12 h13 =>
 G v2 true (fun k14 =>
 B1 (ilt v4 v12) fun v15 =>
 k14 v15 h13) (fun v16 h17 =>
 B1 (pk v2 v16 (.bool false)) fun v18 =>
 some (v18, h17)) h13) h9) h5) h1

theorem e__graph_Graph_in (J : JT) (G : GT) (cf : CF) (a0 a1 : AV) (H : Hp) : callF P J G prim an cf 70 [a0, a1] H = s__graph_Graph_in J G cf a0 a1 H := by kernel_rfl

theorem c__graph_Graph_in {a0 a1 : AV} {H : Hp} {r : AV × Hp} (h : s__graph_Graph_in JN GO cK a0 a1 H = some r) : cK (.func (.func 70) [] []) [a0, a1] H = some r := callF_fix (first := []) (cap := []) ((e__graph_Graph_in JN GO _ a0 a1 H).trans h)

def al_graph_beside : An := (.sq none .nl (.sq none (.cd .nl .nl) (.sq (some [1, 2, 7, 14, 15, 16]) (.bl (some [1, 2, 7, 14, 15, 16]) (.sq none .nl (.sq (some [1, 2, 7, 9, 14, 15, 16, 24]) .nl (.cd .nl .nl)))) .nl)))

noncomputable def bl_graph_beside (J : JT) (G : GT) (cf : CF) (j10 : K.Fn 1) (j11 : K.Fn 6) (x12 x13 x14 x15 x16 x17 : AV) (h18 : Hp) : R :=
 B1 (ilt x17 x16) fun v19 =>
 CD v19 (
 J 6 (fun j20 =>
 J 6 (fun j21 =>
 B1 (ia 2 x15 x17) fun v22 =>
 B1 (lda 2 v22 h18) fun v23 =>
 BN (newCells h18 [(.int .i64 0), (.int .i64 0)] 83 0) fun i24 h25 =>
 B1 (st 2 (.ptr i24 0) v23 h25) fun h26 =>
 J 8 (fun j27 =>
 B1 (iar 2 1 (.ptr i24 0) x13) fun v28 =>
 B1 (ld v28 h26) fun v29 =>
 B1 (ieq v29 x12) fun v30 =>
 j27 x12 x13 x14 (.ptr i24 0) x15 x16 x17 v30 h26) (fun x31 x32 x33 x34 x35 x36 x37 x38 h39 =>
 CD x38 (
 B1 (isub (.int .i64 1) x32) fun v40 =>
 B1 (iar 2 1 x34 v40) fun v41 =>
 B1 (ld v41 h39) fun v42 =>
 B1 (fl [(.int .i64 0)] [(0, 1, v42)]) fun l43 =>
 BN (newCells h39 l43 3 0) fun i44 h45 =>
 B2 (app' 3 1 [(.int .i64 0)] false x33 (.slice i44 0 1 1 true 1) h45) fun v46 h47 =>
 j21 x31 x32 v46 x35 x36 x37 h47) (
 j21 x31 x32 x33 x35 x36 x37 h39))) (fun x48 x49 x50 x51 x52 x53 h54 =>
 j20 x48 x49 x50 x51 x52 x53 h54)) (fun x55 x56 x57 x58 x59 x60 h61 =>
 B1 (iadd x60 (.int .i64 1)) fun v62 =>
 j11 x55 x56 x57 x58 x59 v62 h61)) (
 j10 x14 h18)

noncomputable def l_graph_beside (J : JT) (G : GT) (cf : CF) (j10 : K.Fn 1) : K.Fn 6 := LP 6 fun j11 => fun x12 x13 x14 x15 x16 x17 h18 => bl_graph_beside J G cf j10 j11 x12 x13 x14 x15 x16 x17 h18

theorem rl_graph_beside (J : JT) (G : GT) (cf : CF) (j10 : K.Fn 1) (j11 : K.Fn 6) (x12 x13 x14 x15 x16 x17 : AV) (h18 : Hp) : codeF P J G cf (nT P 71) (atC P 71 [1, 1, 1, 0, 1, 0, 0]) al_graph_beside (fun t H => app 6 j11 (vals [1, 2, 7, 14, 15, 16] t) H) (fun q t H => match Nat.beq q 0 with | true => app 1 j10 (vals [7] t) H | false => (fun _ _ _ => none) q t H) (retK P 71) (mkT (nT P 71) [1, 2, 7, 14, 15, 16] [x12, x13, x14, x15, x16, x17]) h18 = bl_graph_beside J G cf j10 j11 x12 x13 x14 x15 x16 x17 h18 := by kernel_rfl

theorem dl_graph_beside (J : JT) (G : GT) (cf : CF) (j10 : K.Fn 1) : l_graph_beside J G cf j10 = loopF P J G cf (nT P 71) (atC P 71 [1, 1, 1, 0, 1, 0, 0]) al_graph_beside [1, 2, 7, 14, 15, 16] (fun q t H => match Nat.beq q 0 with | true => app 1 j10 (vals [7] t) H | false => (fun _ _ _ => none) q t H) (retK P 71) := by
  unfold l_graph_beside loopF
  refine congrArg (LP 6) ?_
  funext j11 x12 x13 x14 x15 x16 x17 h18
  exact (rl_graph_beside J G cf j10 j11 x12 x13 x14 x15 x16 x17 h18).symm

theorem ql_graph_beside (cf : CF) (j10 : K.Fn 1) (x12 x13 x14 x15 x16 x17 : AV) (h18 : Hp) : l_graph_beside JN GO cf j10 x12 x13 x14 x15 x16 x17 h18 = bl_graph_beside JN GO cf j10 (l_graph_beside JN GO cf j10) x12 x13 x14 x15 x16 x17 h18 := by
  have h1 : l_graph_beside JN GO cf j10 x12 x13 x14 x15 x16 x17 h18 = app 6 (loopF P JN GO cf (nT P 71) (atC P 71 [1, 1, 1, 0, 1, 0, 0]) al_graph_beside [1, 2, 7, 14, 15, 16] (fun q t H => match Nat.beq q 0 with | true => app 1 j10 (vals [7] t) H | false => (fun _ _ _ => none) q t H) (retK P 71)) [x12, x13, x14, x15, x16, x17] h18 := by rw [dl_graph_beside]; kernel_rfl
  refine h1.trans ((loopF_eq (P := P) cf (nT P 71) (atC P 71 [1, 1, 1, 0, 1, 0, 0]) al_graph_beside [1, 2, 7, 14, 15, 16] (fun q t H => match Nat.beq q 0 with | true => app 1 j10 (vals [7] t) H | false => (fun _ _ _ => none) q t H) (retK P 71) [x12, x13, x14, x15, x16, x17] rfl h18).trans ((rl_graph_beside JN GO cf j10 _ x12 x13 x14 x15 x16 x17 h18).trans ?_))
  rw [dl_graph_beside]

noncomputable def s_graph_beside (J : JT) (G : GT) (cf : CF) (a0 a1 a2 : AV) (H : Hp) : R :=
 BN (bx 39 a0 H) fun i0 h1 =>
 B1 (lda 2 (.ptr i0 0) h1) fun v2 =>
 B2 (cf (.func (.func 39) [] []) [v2] h1) fun v3 h4 =>
 B1 (unA .not v3) fun v5 =>
 CD v5 (
 some (.slice0, h4)) (
 J 1 (fun j6 =>
 B1 (fa 1 (.ptr i0 0)) fun v7 =>
 B1 (ld v7 h4) fun v8 =>
 B1 (lenx v8) fun v9 =>
 J 1 (fun j10 =>
 l_graph_beside J G cf j10 a1 a2 .slice0 v8 v9 (.int .i64 0) h4) (fun x63 h64 =>
 j6 x63 h64)) (fun x65 h66 =>
 B2 (cf (.func (.func 98) [] []) [x65] h66) fun v67 h68 =>
 some (x65, h68)))

theorem e_graph_beside (J : JT) (G : GT) (cf : CF) (a0 a1 a2 : AV) (H : Hp) : callF P J G prim an cf 71 [a0, a1, a2] H = s_graph_beside J G cf a0 a1 a2 H := by kernel_rfl

theorem c_graph_beside {a0 a1 a2 : AV} {H : Hp} {r : AV × Hp} (h : s_graph_beside JN GO cK a0 a1 a2 H = some r) : cK (.func (.func 71) [] []) [a0, a1, a2] H = some r := callF_fix (first := []) (cap := []) ((e_graph_beside JN GO _ a0 a1 a2 H).trans h)

noncomputable def s_graph_Behind (J : JT) (G : GT) (cf : CF) (a0 a1 : AV) (H : Hp) : R :=
 BN (bx 39 a0 H) fun i0 h1 =>
 B1 (lda 2 (.ptr i0 0) h1) fun v2 =>
 B2 (cf (.func (.func 71) [] []) [v2, a1, (.int .i64 0)] h1) fun v3 h4 =>
 some (v3, h4)

theorem e_graph_Behind (J : JT) (G : GT) (cf : CF) (a0 a1 : AV) (H : Hp) : callF P J G prim an cf 41 [a0, a1] H = s_graph_Behind J G cf a0 a1 H := by kernel_rfl

theorem c_graph_Behind {a0 a1 : AV} {H : Hp} {r : AV × Hp} (h : s_graph_Behind JN GO cK a0 a1 H = some r) : cK (.func (.func 41) [] []) [a0, a1] H = some r := callF_fix (first := []) (cap := []) ((e_graph_Behind JN GO _ a0 a1 H).trans h)

def al_graph_far2 : An := (.sq none .nl (.sq none (.cd .nl .nl) (.sq (some [2, 5, 7, 8, 23, 24, 25, 31, 32, 33]) (.bl (some [2, 5, 7, 8, 23, 24, 25, 31, 32, 33]) (.sq none .nl (.sq (some [2, 5, 7, 8, 12, 23, 24, 25, 31, 32, 33, 41]) .nl (.cd (.sq (some [2, 5, 7, 8, 12, 23, 24, 25, 31, 32, 33]) .nl .nl) .nl)))) .nl)))

noncomputable def bl_graph_far2 (J : JT) (G : GT) (cf : CF) (j10 : K.Fn 1) (j20 : K.Fn 4) (j23 : K.Fn 4) (j35 : K.Fn 7) (j54 : K.Fn 7) (j55 : K.Fn 10) (x56 x57 x58 x59 x60 x61 x62 x63 x64 x65 : AV) (h66 : Hp) : R :=
 B1 (ilt x65 x64) fun v67 =>
 CD v67 (
 J 10 (fun j68 =>
 J 10 (fun j69 =>
 B1 (ia 1 x63 x65) fun v70 =>
 B1 (ld v70 h66) fun v71 =>
 J 12 (fun j72 =>
 B1 (ia 1 x57 v71) fun v73 =>
 B1 (ld v73 h66) fun v74 =>
 B1 (ieq v74 (.int .i64 0)) fun v75 =>
 j72 x56 x57 x58 x59 v71 x60 x61 x62 x63 x64 x65 v75 h66) (fun x76 x77 x78 x79 x80 x81 x82 x83 x84 x85 x86 x87 h88 =>
 CD x87 (
 J 11 (fun j89 =>
 B1 (ia 1 x77 x80) fun v90 =>
 B1 (st 1 v90 x78 h88) fun h91 =>
 j89 x76 x77 x78 x79 x80 x81 x82 x83 x84 x85 x86 h91) (fun x92 x93 x94 x95 x96 x97 x98 x99 x100 x101 x102 h103 =>
 B1 (fl [(.int .i64 0)] [(0, 1, x96)]) fun l104 =>
 BN (newCells h103 l104 3 0) fun i105 h106 =>
 B2 (app' 3 1 [(.int .i64 0)] false x95 (.slice i105 0 1 1 true 1) h106) fun v107 h108 =>
 j69 x92 x93 x94 v107 x97 x98 x99 x100 x101 x102 h108)) (
 j69 x76 x77 x78 x79 x81 x82 x83 x84 x85 x86 h88))) (fun x109 x110 x111 x112 x113 x114 x115 x116 x117 x118 h119 =>
 j68 x109 x110 x111 x112 x113 x114 x115 x116 x117 x118 h119)) (fun x120 x121 x122 x123 x124 x125 x126 x127 x128 x129 h130 =>
 B1 (iadd x129 (.int .i64 1)) fun v131 =>
 j55 x120 x121 x122 x123 x124 x125 x126 x127 x128 v131 h130)) (
 j54 x56 x57 x58 x59 x60 x61 x62 h66)

noncomputable def l_graph_far2 (J : JT) (G : GT) (cf : CF) (j10 : K.Fn 1) (j20 : K.Fn 4) (j23 : K.Fn 4) (j35 : K.Fn 7) (j54 : K.Fn 7) : K.Fn 10 := LP 10 fun j55 => fun x56 x57 x58 x59 x60 x61 x62 x63 x64 x65 h66 => bl_graph_far2 J G cf j10 j20 j23 j35 j54 j55 x56 x57 x58 x59 x60 x61 x62 x63 x64 x65 h66

theorem rl_graph_far2 (J : JT) (G : GT) (cf : CF) (j10 : K.Fn 1) (j20 : K.Fn 4) (j23 : K.Fn 4) (j35 : K.Fn 7) (j54 : K.Fn 7) (j55 : K.Fn 10) (x56 x57 x58 x59 x60 x61 x62 x63 x64 x65 : AV) (h66 : Hp) : codeF P J G cf (nT P 40) (atC P 40 [1, 1, 1, 0, 1, 0, 0, 1, 0, 0, 1, 0, 1, 0, 0, 1, 1, 0, 0, 1, 1, 0, 0]) al_graph_far2 (fun t H => app 10 j55 (vals [2, 5, 7, 8, 23, 24, 25, 31, 32, 33] t) H) (fun q t H => match Nat.beq q 4 with | true => app 7 j54 (vals [2, 5, 7, 8, 23, 24, 25] t) H | false => (fun q t H => match Nat.beq q 3 with | true => app 7 j35 (vals [2, 5, 7, 8, 23, 24, 25] t) H | false => (fun q t H => match Nat.beq q 2 with | true => app 4 j23 (vals [2, 5, 7, 8] t) H | false => (fun q t H => match Nat.beq q 1 with | true => app 4 j20 (vals [2, 5, 6, 7] t) H | false => (fun q t H => match Nat.beq q 0 with | true => app 1 j10 (vals [5] t) H | false => (fun _ _ _ => none) q t H) q t H) q t H) q t H) q t H) (retK P 40) (mkT (nT P 40) [2, 5, 7, 8, 23, 24, 25, 31, 32, 33] [x56, x57, x58, x59, x60, x61, x62, x63, x64, x65]) h66 = bl_graph_far2 J G cf j10 j20 j23 j35 j54 j55 x56 x57 x58 x59 x60 x61 x62 x63 x64 x65 h66 := by kernel_rfl

theorem dl_graph_far2 (J : JT) (G : GT) (cf : CF) (j10 : K.Fn 1) (j20 : K.Fn 4) (j23 : K.Fn 4) (j35 : K.Fn 7) (j54 : K.Fn 7) : l_graph_far2 J G cf j10 j20 j23 j35 j54 = loopF P J G cf (nT P 40) (atC P 40 [1, 1, 1, 0, 1, 0, 0, 1, 0, 0, 1, 0, 1, 0, 0, 1, 1, 0, 0, 1, 1, 0, 0]) al_graph_far2 [2, 5, 7, 8, 23, 24, 25, 31, 32, 33] (fun q t H => match Nat.beq q 4 with | true => app 7 j54 (vals [2, 5, 7, 8, 23, 24, 25] t) H | false => (fun q t H => match Nat.beq q 3 with | true => app 7 j35 (vals [2, 5, 7, 8, 23, 24, 25] t) H | false => (fun q t H => match Nat.beq q 2 with | true => app 4 j23 (vals [2, 5, 7, 8] t) H | false => (fun q t H => match Nat.beq q 1 with | true => app 4 j20 (vals [2, 5, 6, 7] t) H | false => (fun q t H => match Nat.beq q 0 with | true => app 1 j10 (vals [5] t) H | false => (fun _ _ _ => none) q t H) q t H) q t H) q t H) q t H) (retK P 40) := by
  unfold l_graph_far2 loopF
  refine congrArg (LP 10) ?_
  funext j55 x56 x57 x58 x59 x60 x61 x62 x63 x64 x65 h66
  exact (rl_graph_far2 J G cf j10 j20 j23 j35 j54 j55 x56 x57 x58 x59 x60 x61 x62 x63 x64 x65 h66).symm

theorem ql_graph_far2 (cf : CF) (j10 : K.Fn 1) (j20 : K.Fn 4) (j23 : K.Fn 4) (j35 : K.Fn 7) (j54 : K.Fn 7) (x56 x57 x58 x59 x60 x61 x62 x63 x64 x65 : AV) (h66 : Hp) : l_graph_far2 JN GO cf j10 j20 j23 j35 j54 x56 x57 x58 x59 x60 x61 x62 x63 x64 x65 h66 = bl_graph_far2 JN GO cf j10 j20 j23 j35 j54 (l_graph_far2 JN GO cf j10 j20 j23 j35 j54) x56 x57 x58 x59 x60 x61 x62 x63 x64 x65 h66 := by
  have h1 : l_graph_far2 JN GO cf j10 j20 j23 j35 j54 x56 x57 x58 x59 x60 x61 x62 x63 x64 x65 h66 = app 10 (loopF P JN GO cf (nT P 40) (atC P 40 [1, 1, 1, 0, 1, 0, 0, 1, 0, 0, 1, 0, 1, 0, 0, 1, 1, 0, 0, 1, 1, 0, 0]) al_graph_far2 [2, 5, 7, 8, 23, 24, 25, 31, 32, 33] (fun q t H => match Nat.beq q 4 with | true => app 7 j54 (vals [2, 5, 7, 8, 23, 24, 25] t) H | false => (fun q t H => match Nat.beq q 3 with | true => app 7 j35 (vals [2, 5, 7, 8, 23, 24, 25] t) H | false => (fun q t H => match Nat.beq q 2 with | true => app 4 j23 (vals [2, 5, 7, 8] t) H | false => (fun q t H => match Nat.beq q 1 with | true => app 4 j20 (vals [2, 5, 6, 7] t) H | false => (fun q t H => match Nat.beq q 0 with | true => app 1 j10 (vals [5] t) H | false => (fun _ _ _ => none) q t H) q t H) q t H) q t H) q t H) (retK P 40)) [x56, x57, x58, x59, x60, x61, x62, x63, x64, x65] h66 := by rw [dl_graph_far2]; kernel_rfl
  refine h1.trans ((loopF_eq (P := P) cf (nT P 40) (atC P 40 [1, 1, 1, 0, 1, 0, 0, 1, 0, 0, 1, 0, 1, 0, 0, 1, 1, 0, 0, 1, 1, 0, 0]) al_graph_far2 [2, 5, 7, 8, 23, 24, 25, 31, 32, 33] (fun q t H => match Nat.beq q 4 with | true => app 7 j54 (vals [2, 5, 7, 8, 23, 24, 25] t) H | false => (fun q t H => match Nat.beq q 3 with | true => app 7 j35 (vals [2, 5, 7, 8, 23, 24, 25] t) H | false => (fun q t H => match Nat.beq q 2 with | true => app 4 j23 (vals [2, 5, 7, 8] t) H | false => (fun q t H => match Nat.beq q 1 with | true => app 4 j20 (vals [2, 5, 6, 7] t) H | false => (fun q t H => match Nat.beq q 0 with | true => app 1 j10 (vals [5] t) H | false => (fun _ _ _ => none) q t H) q t H) q t H) q t H) q t H) (retK P 40) [x56, x57, x58, x59, x60, x61, x62, x63, x64, x65] rfl h66).trans ((rl_graph_far2 JN GO cf j10 j20 j23 j35 j54 _ x56 x57 x58 x59 x60 x61 x62 x63 x64 x65 h66).trans ?_))
  rw [dl_graph_far2]

def al_graph_far1 : An := (.sq none .nl (.sq none (.cd .nl .nl) (.sq (some [2, 5, 7, 8, 23, 24, 25]) (.bl (some [2, 5, 7, 8, 23, 24, 25]) (.sq none .nl (.sq (some [2, 5, 7, 8, 23, 24, 25, 31, 32, 33]) .nl (.bl (some [2, 5, 7, 8, 23, 24, 25]) (.lp [2, 5, 7, 8, 23, 24, 25, 31, 32, 33] (.sq none .nl (.sq none (.cd .nl .nl) (.sq (some [2, 5, 7, 8, 23, 24, 25, 31, 32, 33]) (.bl (some [2, 5, 7, 8, 23, 24, 25, 31, 32, 33]) (.sq none .nl (.sq (some [2, 5, 7, 8, 12, 23, 24, 25, 31, 32, 33, 41]) .nl (.cd (.sq (some [2, 5, 7, 8, 12, 23, 24, 25, 31, 32, 33]) .nl .nl) .nl)))) .nl)))))))) .nl)))

noncomputable def bl_graph_far1 (J : JT) (G : GT) (cf : CF) (j10 : K.Fn 1) (j20 : K.Fn 4) (j23 : K.Fn 4) (j24 : K.Fn 7) (x25 x26 x27 x28 x29 x30 x31 : AV) (h32 : Hp) : R :=
 B1 (ilt x31 x30) fun v33 =>
 CD v33 (
 J 7 (fun j34 =>
 J 7 (fun j35 =>
 B1 (ia 1 x29 x31) fun v36 =>
 B1 (ld v36 h32) fun v37 =>
 J 10 (fun j38 =>
 B1 (lda 2 x25 h32) fun v39 =>
 B2 (cf (.func (.func 41) [] []) [v39, v37] h32) fun v40 h41 =>
 B1 (lenx v40) fun v42 =>
 j38 x25 x26 x27 x28 x29 x30 x31 v40 v42 (.int .i64 0) h41) (fun x43 x44 x45 x46 x47 x48 x49 x50 x51 x52 h53 =>
 J 7 (fun j54 =>
 l_graph_far2 J G cf j10 j20 j23 j35 j54 x43 x44 x45 x46 x47 x48 x49 x50 x51 x52 h53) (fun x132 x133 x134 x135 x136 x137 x138 h139 =>
 j35 x132 x133 x134 x135 x136 x137 x138 h139))) (fun x140 x141 x142 x143 x144 x145 x146 h147 =>
 j34 x140 x141 x142 x143 x144 x145 x146 h147)) (fun x148 x149 x150 x151 x152 x153 x154 h155 =>
 B1 (iadd x154 (.int .i64 1)) fun v156 =>
 j24 x148 x149 x150 x151 x152 x153 v156 h155)) (
 j23 x25 x26 x27 x28 h32)

noncomputable def l_graph_far1 (J : JT) (G : GT) (cf : CF) (j10 : K.Fn 1) (j20 : K.Fn 4) (j23 : K.Fn 4) : K.Fn 7 := LP 7 fun j24 => fun x25 x26 x27 x28 x29 x30 x31 h32 => bl_graph_far1 J G cf j10 j20 j23 j24 x25 x26 x27 x28 x29 x30 x31 h32

theorem rl_graph_far1 (J : JT) (G : GT) (cf : CF) (j10 : K.Fn 1) (j20 : K.Fn 4) (j23 : K.Fn 4) (j24 : K.Fn 7) (x25 x26 x27 x28 x29 x30 x31 : AV) (h32 : Hp) : codeF P J G cf (nT P 40) (atC P 40 [1, 1, 1, 0, 1, 0, 0, 1, 0, 0, 1, 0, 1, 0, 0]) al_graph_far1 (fun t H => app 7 j24 (vals [2, 5, 7, 8, 23, 24, 25] t) H) (fun q t H => match Nat.beq q 2 with | true => app 4 j23 (vals [2, 5, 7, 8] t) H | false => (fun q t H => match Nat.beq q 1 with | true => app 4 j20 (vals [2, 5, 6, 7] t) H | false => (fun q t H => match Nat.beq q 0 with | true => app 1 j10 (vals [5] t) H | false => (fun _ _ _ => none) q t H) q t H) q t H) (retK P 40) (mkT (nT P 40) [2, 5, 7, 8, 23, 24, 25] [x25, x26, x27, x28, x29, x30, x31]) h32 = bl_graph_far1 J G cf j10 j20 j23 j24 x25 x26 x27 x28 x29 x30 x31 h32 := by kernel_rfl

theorem dl_graph_far1 (J : JT) (G : GT) (cf : CF) (j10 : K.Fn 1) (j20 : K.Fn 4) (j23 : K.Fn 4) : l_graph_far1 J G cf j10 j20 j23 = loopF P J G cf (nT P 40) (atC P 40 [1, 1, 1, 0, 1, 0, 0, 1, 0, 0, 1, 0, 1, 0, 0]) al_graph_far1 [2, 5, 7, 8, 23, 24, 25] (fun q t H => match Nat.beq q 2 with | true => app 4 j23 (vals [2, 5, 7, 8] t) H | false => (fun q t H => match Nat.beq q 1 with | true => app 4 j20 (vals [2, 5, 6, 7] t) H | false => (fun q t H => match Nat.beq q 0 with | true => app 1 j10 (vals [5] t) H | false => (fun _ _ _ => none) q t H) q t H) q t H) (retK P 40) := by
  unfold l_graph_far1 loopF
  refine congrArg (LP 7) ?_
  funext j24 x25 x26 x27 x28 x29 x30 x31 h32
  exact (rl_graph_far1 J G cf j10 j20 j23 j24 x25 x26 x27 x28 x29 x30 x31 h32).symm

theorem ql_graph_far1 (cf : CF) (j10 : K.Fn 1) (j20 : K.Fn 4) (j23 : K.Fn 4) (x25 x26 x27 x28 x29 x30 x31 : AV) (h32 : Hp) : l_graph_far1 JN GO cf j10 j20 j23 x25 x26 x27 x28 x29 x30 x31 h32 = bl_graph_far1 JN GO cf j10 j20 j23 (l_graph_far1 JN GO cf j10 j20 j23) x25 x26 x27 x28 x29 x30 x31 h32 := by
  have h1 : l_graph_far1 JN GO cf j10 j20 j23 x25 x26 x27 x28 x29 x30 x31 h32 = app 7 (loopF P JN GO cf (nT P 40) (atC P 40 [1, 1, 1, 0, 1, 0, 0, 1, 0, 0, 1, 0, 1, 0, 0]) al_graph_far1 [2, 5, 7, 8, 23, 24, 25] (fun q t H => match Nat.beq q 2 with | true => app 4 j23 (vals [2, 5, 7, 8] t) H | false => (fun q t H => match Nat.beq q 1 with | true => app 4 j20 (vals [2, 5, 6, 7] t) H | false => (fun q t H => match Nat.beq q 0 with | true => app 1 j10 (vals [5] t) H | false => (fun _ _ _ => none) q t H) q t H) q t H) (retK P 40)) [x25, x26, x27, x28, x29, x30, x31] h32 := by rw [dl_graph_far1]; kernel_rfl
  refine h1.trans ((loopF_eq (P := P) cf (nT P 40) (atC P 40 [1, 1, 1, 0, 1, 0, 0, 1, 0, 0, 1, 0, 1, 0, 0]) al_graph_far1 [2, 5, 7, 8, 23, 24, 25] (fun q t H => match Nat.beq q 2 with | true => app 4 j23 (vals [2, 5, 7, 8] t) H | false => (fun q t H => match Nat.beq q 1 with | true => app 4 j20 (vals [2, 5, 6, 7] t) H | false => (fun q t H => match Nat.beq q 0 with | true => app 1 j10 (vals [5] t) H | false => (fun _ _ _ => none) q t H) q t H) q t H) (retK P 40) [x25, x26, x27, x28, x29, x30, x31] rfl h32).trans ((rl_graph_far1 JN GO cf j10 j20 j23 _ x25 x26 x27 x28 x29 x30 x31 h32).trans ?_))
  rw [dl_graph_far1]

def al_graph_far : An := (.sq none (.sq none .nl (.cd .nl .nl)) (.sq (some [2, 5, 6, 7]) (.bl (some [2, 5, 6, 7]) (.sq none .nl (.sq (some [2, 5, 7, 8]) (.sq none .nl (.bl (some [2, 5, 7, 8]) (.lp [2, 5, 7, 8, 23, 24, 25] (.sq none .nl (.sq none (.cd .nl .nl) (.sq (some [2, 5, 7, 8, 23, 24, 25]) (.bl (some [2, 5, 7, 8, 23, 24, 25]) (.sq none .nl (.sq (some [2, 5, 7, 8, 23, 24, 25, 31, 32, 33]) .nl (.bl (some [2, 5, 7, 8, 23, 24, 25]) (.lp [2, 5, 7, 8, 23, 24, 25, 31, 32, 33] (.sq none .nl (.sq none (.cd .nl .nl) (.sq (some [2, 5, 7, 8, 23, 24, 25, 31, 32, 33]) (.bl (some [2, 5, 7, 8, 23, 24, 25, 31, 32, 33]) (.sq none .nl (.sq (some [2, 5, 7, 8, 12, 23, 24, 25, 31, 32, 33, 41]) .nl (.cd (.sq (some [2, 5, 7, 8, 12, 23, 24, 25, 31, 32, 33]) .nl .nl) .nl)))) .nl)))))))) .nl)))))) .nl))) .nl))

noncomputable def bl_graph_far (J : JT) (G : GT) (cf : CF) (j10 : K.Fn 1) (j11 : K.Fn 4) (x12 x13 x14 x15 : AV) (h16 : Hp) : R :=
 B1 (lenx x14) fun v17 =>
 B1 (igt v17 (.int .i64 0)) fun v18 =>
 CD v18 (
 J 4 (fun j19 =>
 J 4 (fun j20 =>
 J 4 (fun j21 =>
 B1 (lenx x14) fun v22 =>
 J 4 (fun j23 =>
 l_graph_far1 J G cf j10 j20 j23 x12 x13 x15 .slice0 x14 v22 (.int .i64 0) h16) (fun x157 x158 x159 x160 h161 =>
 j21 x157 x158 x159 x160 h161)) (fun x162 x163 x164 x165 h166 =>
 j20 x162 x163 x165 x164 h166)) (fun x167 x168 x169 x170 h171 =>
 j19 x167 x168 x169 x170 h171)) (fun x172 x173 x174 x175 h176 =>
 B1 (iadd x175 (.int .i64 1)) fun v177 =>
 j11 x172 x173 x174 v177 h176)) (
 j10 x13 h16)

noncomputable def l_graph_far (J : JT) (G : GT) (cf : CF) (j10 : K.Fn 1) : K.Fn 4 := LP 4 fun j11 => fun x12 x13 x14 x15 h16 => bl_graph_far J G cf j10 j11 x12 x13 x14 x15 h16

theorem rl_graph_far (J : JT) (G : GT) (cf : CF) (j10 : K.Fn 1) (j11 : K.Fn 4) (x12 x13 x14 x15 : AV) (h16 : Hp) : codeF P J G cf (nT P 40) (atC P 40 [1, 1, 1, 0, 1, 0, 0]) al_graph_far (fun t H => app 4 j11 (vals [2, 5, 6, 7] t) H) (fun q t H => match Nat.beq q 0 with | true => app 1 j10 (vals [5] t) H | false => (fun _ _ _ => none) q t H) (retK P 40) (mkT (nT P 40) [2, 5, 6, 7] [x12, x13, x14, x15]) h16 = bl_graph_far J G cf j10 j11 x12 x13 x14 x15 h16 := by kernel_rfl

theorem dl_graph_far (J : JT) (G : GT) (cf : CF) (j10 : K.Fn 1) : l_graph_far J G cf j10 = loopF P J G cf (nT P 40) (atC P 40 [1, 1, 1, 0, 1, 0, 0]) al_graph_far [2, 5, 6, 7] (fun q t H => match Nat.beq q 0 with | true => app 1 j10 (vals [5] t) H | false => (fun _ _ _ => none) q t H) (retK P 40) := by
  unfold l_graph_far loopF
  refine congrArg (LP 4) ?_
  funext j11 x12 x13 x14 x15 h16
  exact (rl_graph_far J G cf j10 j11 x12 x13 x14 x15 h16).symm

theorem ql_graph_far (cf : CF) (j10 : K.Fn 1) (x12 x13 x14 x15 : AV) (h16 : Hp) : l_graph_far JN GO cf j10 x12 x13 x14 x15 h16 = bl_graph_far JN GO cf j10 (l_graph_far JN GO cf j10) x12 x13 x14 x15 h16 := by
  have h1 : l_graph_far JN GO cf j10 x12 x13 x14 x15 h16 = app 4 (loopF P JN GO cf (nT P 40) (atC P 40 [1, 1, 1, 0, 1, 0, 0]) al_graph_far [2, 5, 6, 7] (fun q t H => match Nat.beq q 0 with | true => app 1 j10 (vals [5] t) H | false => (fun _ _ _ => none) q t H) (retK P 40)) [x12, x13, x14, x15] h16 := by rw [dl_graph_far]; kernel_rfl
  refine h1.trans ((loopF_eq (P := P) cf (nT P 40) (atC P 40 [1, 1, 1, 0, 1, 0, 0]) al_graph_far [2, 5, 6, 7] (fun q t H => match Nat.beq q 0 with | true => app 1 j10 (vals [5] t) H | false => (fun _ _ _ => none) q t H) (retK P 40) [x12, x13, x14, x15] rfl h16).trans ((rl_graph_far JN GO cf j10 _ x12 x13 x14 x15 h16).trans ?_))
  rw [dl_graph_far]

noncomputable def s_graph_far (J : JT) (G : GT) (cf : CF) (a0 a1 : AV) (H : Hp) : R :=
 BN (bx 39 a0 H) fun i0 h1 =>
 B1 (fa 0 (.ptr i0 0)) fun v2 =>
 B1 (ld v2 h1) fun v3 =>
 B2 (mks [(.int .i64 0)] 3 1 v3 v3 h1) fun v4 h5 =>
 B1 (fl [(.int .i64 0)] [(0, 1, a1)]) fun l6 =>
 BN (newCells h5 l6 3 0) fun i7 h8 =>
 J 1 (fun j9 =>
 J 1 (fun j10 =>
 l_graph_far J G cf j10 (.ptr i0 0) v4 (.slice i7 0 1 1 true 1) (.int .i64 1) h8) (fun x178 h179 =>
 j9 x178 h179)) (fun x180 h181 =>
 some (x180, h181))

theorem e_graph_far (J : JT) (G : GT) (cf : CF) (a0 a1 : AV) (H : Hp) : callF P J G prim an cf 40 [a0, a1] H = s_graph_far J G cf a0 a1 H := by kernel_rfl

theorem c_graph_far {a0 a1 : AV} {H : Hp} {r : AV × Hp} (h : s_graph_far JN GO cK a0 a1 H = some r) : cK (.func (.func 40) [] []) [a0, a1] H = some r := callF_fix (first := []) (cap := []) ((e_graph_far JN GO _ a0 a1 H).trans h)

def al_graph_Cycle : An := (.sq none .nl (.sq none (.cd .nl .nl) (.sq (some [1, 3, 4, 15, 16]) (.bl (some [1, 3, 4, 15, 16]) (.sq none .nl (.sq (some [1, 3, 4, 5, 6, 15, 16]) .nl (.sq (some [1, 3, 4, 5, 6, 15, 16, 35]) .nl (.cd .nl .nl))))) .nl)))

noncomputable def bl_graph_Cycle (J : JT) (G : GT) (cf : CF) (j9 : K.Fn 3) (j10 : K.Fn 5) (x11 x12 x13 x14 x15 : AV) (h16 : Hp) : R :=
 B1 (ilt x15 x14) fun v17 =>
 CD v17 (
 J 5 (fun j18 =>
 J 5 (fun j19 =>
 J 7 (fun j20 =>
 B1 (lda 2 x11 h16) fun v21 =>
 B2 (cf (.func (.func 40) [] []) [v21, x15] h16) fun v22 h23 =>
 B1 (ia 1 v22 x15) fun v24 =>
 B1 (ld v24 h23) fun v25 =>
 j20 x11 x12 x13 x15 v25 x14 x15 h23) (fun x26 x27 x28 x29 x30 x31 x32 h33 =>
 J 8 (fun j34 =>
 B1 (igt x30 (.int .i64 0)) fun v35 =>
 G v35 true (fun k36 =>
 k36 x28 h33) (fun v37 h38 =>
 G v35 true (fun k39 =>
 B1 (ieq v37 (.int .i64 0)) fun v40 =>
 k39 v40 h38) (fun v41 h42 =>
 G v35 true (fun k43 =>
 k43 v41 h42) (fun v44 h45 =>
 G v44 false (fun k46 =>
 k46 x30 h45) (fun v47 h48 =>
 G v44 false (fun k49 =>
 k49 x28 h48) (fun v50 h51 =>
 G v44 false (fun k52 =>
 B1 (ilt v47 v50) fun v53 =>
 k52 v53 h51) (fun v54 h55 =>
 G v35 true (fun k56 =>
 B1 (pk v44 (.bool true) v54) fun v57 =>
 k56 v57 h55) (fun v58 h59 =>
 B1 (pk v35 v58 (.bool false)) fun v60 =>
 j34 x26 x27 x28 x29 x30 x31 x32 v60 h59) h55) h51) h48) h45) h42) h38) h33) (fun x61 x62 x63 x64 x65 x66 x67 x68 h69 =>
 CD x68 (
 j19 x61 x64 x65 x66 x67 h69) (
 j19 x61 x62 x63 x66 x67 h69)))) (fun x70 x71 x72 x73 x74 h75 =>
 j18 x70 x71 x72 x73 x74 h75)) (fun x76 x77 x78 x79 x80 h81 =>
 B1 (iadd x80 (.int .i64 1)) fun v82 =>
 j10 x76 x77 x78 x79 v82 h81)) (
 j9 x11 x12 x13 h16)

noncomputable def l_graph_Cycle (J : JT) (G : GT) (cf : CF) (j9 : K.Fn 3) : K.Fn 5 := LP 5 fun j10 => fun x11 x12 x13 x14 x15 h16 => bl_graph_Cycle J G cf j9 j10 x11 x12 x13 x14 x15 h16

theorem rl_graph_Cycle (J : JT) (G : GT) (cf : CF) (j9 : K.Fn 3) (j10 : K.Fn 5) (x11 x12 x13 x14 x15 : AV) (h16 : Hp) : codeF P J G cf (nT P 14) (atC P 14 [1, 1, 1, 0, 1, 0, 0]) al_graph_Cycle (fun t H => app 5 j10 (vals [1, 3, 4, 15, 16] t) H) (fun q t H => match Nat.beq q 0 with | true => app 3 j9 (vals [1, 3, 4] t) H | false => (fun _ _ _ => none) q t H) (retK P 14) (mkT (nT P 14) [1, 3, 4, 15, 16] [x11, x12, x13, x14, x15]) h16 = bl_graph_Cycle J G cf j9 j10 x11 x12 x13 x14 x15 h16 := by kernel_rfl

theorem dl_graph_Cycle (J : JT) (G : GT) (cf : CF) (j9 : K.Fn 3) : l_graph_Cycle J G cf j9 = loopF P J G cf (nT P 14) (atC P 14 [1, 1, 1, 0, 1, 0, 0]) al_graph_Cycle [1, 3, 4, 15, 16] (fun q t H => match Nat.beq q 0 with | true => app 3 j9 (vals [1, 3, 4] t) H | false => (fun _ _ _ => none) q t H) (retK P 14) := by
  unfold l_graph_Cycle loopF
  refine congrArg (LP 5) ?_
  funext j10 x11 x12 x13 x14 x15 h16
  exact (rl_graph_Cycle J G cf j9 j10 x11 x12 x13 x14 x15 h16).symm

theorem ql_graph_Cycle (cf : CF) (j9 : K.Fn 3) (x11 x12 x13 x14 x15 : AV) (h16 : Hp) : l_graph_Cycle JN GO cf j9 x11 x12 x13 x14 x15 h16 = bl_graph_Cycle JN GO cf j9 (l_graph_Cycle JN GO cf j9) x11 x12 x13 x14 x15 h16 := by
  have h1 : l_graph_Cycle JN GO cf j9 x11 x12 x13 x14 x15 h16 = app 5 (loopF P JN GO cf (nT P 14) (atC P 14 [1, 1, 1, 0, 1, 0, 0]) al_graph_Cycle [1, 3, 4, 15, 16] (fun q t H => match Nat.beq q 0 with | true => app 3 j9 (vals [1, 3, 4] t) H | false => (fun _ _ _ => none) q t H) (retK P 14)) [x11, x12, x13, x14, x15] h16 := by rw [dl_graph_Cycle]; kernel_rfl
  refine h1.trans ((loopF_eq (P := P) cf (nT P 14) (atC P 14 [1, 1, 1, 0, 1, 0, 0]) al_graph_Cycle [1, 3, 4, 15, 16] (fun q t H => match Nat.beq q 0 with | true => app 3 j9 (vals [1, 3, 4] t) H | false => (fun _ _ _ => none) q t H) (retK P 14) [x11, x12, x13, x14, x15] rfl h16).trans ((rl_graph_Cycle JN GO cf j9 _ x11 x12 x13 x14 x15 h16).trans ?_))
  rw [dl_graph_Cycle]

def al_graph_Cycle2 : An := (.sq none .nl (.sq none (.cd .nl .nl) (.sq (some [1, 3, 7, 8, 56, 57, 58]) (.bl none (.sq none .nl (.sq (some [1, 3, 7, 8, 10, 56, 57, 58, 74]) .nl (.cd (.sq none .nl .nl) .nl)))) .nl)))

noncomputable def bl_graph_Cycle2 (J : JT) (G : GT) (cf : CF) (j97 : K.Fn 1) (j106 : K.Fn 4) (j124 : K.Fn 4) (j125 : K.Fn 7) (x126 x127 x128 x129 x130 x131 x132 : AV) (h133 : Hp) : R :=
 B1 (ilt x132 x131) fun v134 =>
 CD v134 (
 J 7 (fun j135 =>
 B1 (ia 1 x130 x132) fun v136 =>
 B1 (ld v136 h133) fun v137 =>
 J 9 (fun j138 =>
 B1 (ine v137 x127) fun v139 =>
 G v139 true (fun k140 =>
 B1 (lda 2 x126 h133) fun v141 =>
 k140 v141 h133) (fun v142 h143 =>
 G v139 true (fun k144 =>
 k144 v137 h143) (fun v145 h146 =>
 G v139 true (fun k147 =>
 B2 (cf (.func (.func 40) [] []) [v142, v145] h146) fun v148 h149 =>
 k147 v148 h149) (fun v150 h151 =>
 G v139 true (fun k152 =>
 k152 x127 h151) (fun v153 h154 =>
 G v139 true (fun k155 =>
 B1 (ia 1 v150 v153) fun v156 =>
 k155 v156 h154) (fun v157 h158 =>
 G v139 true (fun k159 =>
 B1 (ld v157 h158) fun v160 =>
 k159 v160 h158) (fun v161 h162 =>
 G v139 true (fun k163 =>
 k163 x129 h162) (fun v164 h165 =>
 G v139 true (fun k166 =>
 B1 (ieq v161 v164) fun v167 =>
 k166 v167 h165) (fun v168 h169 =>
 B1 (pk v139 v168 (.bool false)) fun v170 =>
 j138 x126 x127 x128 x129 v137 x130 x131 x132 v170 h169) h165) h162) h158) h154) h151) h146) h143) h133) (fun x171 x172 x173 x174 x175 x176 x177 x178 x179 h180 =>
 CD x179 (
 B1 (fl [(.int .i64 0)] [(0, 1, x175)]) fun l181 =>
 BN (newCells h180 l181 3 0) fun i182 h183 =>
 B2 (app' 3 1 [(.int .i64 0)] false x173 (.slice i182 0 1 1 true 1) h183) fun v184 h185 =>
 j124 x171 x172 v184 x174 h185) (
 j135 x171 x172 x173 x174 x176 x177 x178 h180))) (fun x186 x187 x188 x189 x190 x191 x192 h193 =>
 B1 (iadd x192 (.int .i64 1)) fun v194 =>
 j125 x186 x187 x188 x189 x190 x191 v194 h193)) (
 j124 x126 x127 x128 x129 h133)

noncomputable def l_graph_Cycle2 (J : JT) (G : GT) (cf : CF) (j97 : K.Fn 1) (j106 : K.Fn 4) (j124 : K.Fn 4) : K.Fn 7 := LP 7 fun j125 => fun x126 x127 x128 x129 x130 x131 x132 h133 => bl_graph_Cycle2 J G cf j97 j106 j124 j125 x126 x127 x128 x129 x130 x131 x132 h133

theorem rl_graph_Cycle2 (J : JT) (G : GT) (cf : CF) (j97 : K.Fn 1) (j106 : K.Fn 4) (j124 : K.Fn 4) (j125 : K.Fn 7) (x126 x127 x128 x129 x130 x131 x132 : AV) (h133 : Hp) : codeF P J G cf (nT P 14) (atC P 14 [1, 1, 1, 1, 1, 1, 0, 1, 0, 0, 1, 0, 0, 1, 0, 0]) al_graph_Cycle2 (fun t H => app 7 j125 (vals [1, 3, 7, 8, 56, 57, 58] t) H) (fun q t H => match Nat.beq q 4 with | true => app 4 j124 (vals [1, 3, 7, 8] t) H | false => (fun q t H => match Nat.beq q 3 with | true => app 4 j106 (vals [1, 3, 7, 8] t) H | false => (fun q t H => match Nat.beq q 2 with | true => app 1 j97 (vals [7] t) H | false => (fun _ _ _ => none) q t H) q t H) q t H) (retK P 14) (mkT (nT P 14) [1, 3, 7, 8, 56, 57, 58] [x126, x127, x128, x129, x130, x131, x132]) h133 = bl_graph_Cycle2 J G cf j97 j106 j124 j125 x126 x127 x128 x129 x130 x131 x132 h133 := by kernel_rfl

theorem dl_graph_Cycle2 (J : JT) (G : GT) (cf : CF) (j97 : K.Fn 1) (j106 : K.Fn 4) (j124 : K.Fn 4) : l_graph_Cycle2 J G cf j97 j106 j124 = loopF P J G cf (nT P 14) (atC P 14 [1, 1, 1, 1, 1, 1, 0, 1, 0, 0, 1, 0, 0, 1, 0, 0]) al_graph_Cycle2 [1, 3, 7, 8, 56, 57, 58] (fun q t H => match Nat.beq q 4 with | true => app 4 j124 (vals [1, 3, 7, 8] t) H | false => (fun q t H => match Nat.beq q 3 with | true => app 4 j106 (vals [1, 3, 7, 8] t) H | false => (fun q t H => match Nat.beq q 2 with | true => app 1 j97 (vals [7] t) H | false => (fun _ _ _ => none) q t H) q t H) q t H) (retK P 14) := by
  unfold l_graph_Cycle2 loopF
  refine congrArg (LP 7) ?_
  funext j125 x126 x127 x128 x129 x130 x131 x132 h133
  exact (rl_graph_Cycle2 J G cf j97 j106 j124 j125 x126 x127 x128 x129 x130 x131 x132 h133).symm

theorem ql_graph_Cycle2 (cf : CF) (j97 : K.Fn 1) (j106 : K.Fn 4) (j124 : K.Fn 4) (x126 x127 x128 x129 x130 x131 x132 : AV) (h133 : Hp) : l_graph_Cycle2 JN GO cf j97 j106 j124 x126 x127 x128 x129 x130 x131 x132 h133 = bl_graph_Cycle2 JN GO cf j97 j106 j124 (l_graph_Cycle2 JN GO cf j97 j106 j124) x126 x127 x128 x129 x130 x131 x132 h133 := by
  have h1 : l_graph_Cycle2 JN GO cf j97 j106 j124 x126 x127 x128 x129 x130 x131 x132 h133 = app 7 (loopF P JN GO cf (nT P 14) (atC P 14 [1, 1, 1, 1, 1, 1, 0, 1, 0, 0, 1, 0, 0, 1, 0, 0]) al_graph_Cycle2 [1, 3, 7, 8, 56, 57, 58] (fun q t H => match Nat.beq q 4 with | true => app 4 j124 (vals [1, 3, 7, 8] t) H | false => (fun q t H => match Nat.beq q 3 with | true => app 4 j106 (vals [1, 3, 7, 8] t) H | false => (fun q t H => match Nat.beq q 2 with | true => app 1 j97 (vals [7] t) H | false => (fun _ _ _ => none) q t H) q t H) q t H) (retK P 14)) [x126, x127, x128, x129, x130, x131, x132] h133 := by rw [dl_graph_Cycle2]; kernel_rfl
  refine h1.trans ((loopF_eq (P := P) cf (nT P 14) (atC P 14 [1, 1, 1, 1, 1, 1, 0, 1, 0, 0, 1, 0, 0, 1, 0, 0]) al_graph_Cycle2 [1, 3, 7, 8, 56, 57, 58] (fun q t H => match Nat.beq q 4 with | true => app 4 j124 (vals [1, 3, 7, 8] t) H | false => (fun q t H => match Nat.beq q 3 with | true => app 4 j106 (vals [1, 3, 7, 8] t) H | false => (fun q t H => match Nat.beq q 2 with | true => app 1 j97 (vals [7] t) H | false => (fun _ _ _ => none) q t H) q t H) q t H) (retK P 14) [x126, x127, x128, x129, x130, x131, x132] rfl h133).trans ((rl_graph_Cycle2 JN GO cf j97 j106 j124 _ x126 x127 x128 x129 x130 x131 x132 h133).trans ?_))
  rw [dl_graph_Cycle2]

def al_graph_Cycle1 : An := (.sq none (.sq none .nl (.cd .nl .nl)) (.sq (some [1, 3, 7, 8]) (.bl (some [1, 3, 7, 8]) (.sq (some [1, 3, 7, 8, 56, 57, 58]) .nl (.bl (some [1, 3, 7, 8]) (.lp [1, 3, 7, 8, 56, 57, 58] (.sq none .nl (.sq none (.cd .nl .nl) (.sq (some [1, 3, 7, 8, 56, 57, 58]) (.bl none (.sq none .nl (.sq (some [1, 3, 7, 8, 10, 56, 57, 58, 74]) .nl (.cd (.sq none .nl .nl) .nl)))) .nl))))))) .nl))

noncomputable def bl_graph_Cycle1 (J : JT) (G : GT) (cf : CF) (j97 : K.Fn 1) (j98 : K.Fn 4) (x99 x100 x101 x102 : AV) (h103 : Hp) : R :=
 B1 (igt x102 (.int .i64 0)) fun v104 =>
 CD v104 (
 J 4 (fun j105 =>
 J 4 (fun j106 =>
 J 7 (fun j107 =>
 B1 (lda 2 x99 h103) fun v108 =>
 B1 (lenx x101) fun v109 =>
 B1 (isub v109 (.int .i64 1)) fun v110 =>
 B1 (ia 1 x101 v110) fun v111 =>
 B1 (ld v111 h103) fun v112 =>
 B2 (cf (.func (.func 41) [] []) [v108, v112] h103) fun v113 h114 =>
 B1 (lenx v113) fun v115 =>
 j107 x99 x100 x101 x102 v113 v115 (.int .i64 0) h114) (fun x116 x117 x118 x119 x120 x121 x122 h123 =>
 J 4 (fun j124 =>
 l_graph_Cycle2 J G cf j97 j106 j124 x116 x117 x118 x119 x120 x121 x122 h123) (fun x195 x196 x197 x198 h199 =>
 j106 x195 x196 x197 x198 h199))) (fun x200 x201 x202 x203 h204 =>
 j105 x200 x201 x202 x203 h204)) (fun x205 x206 x207 x208 h209 =>
 B1 (isub x208 (.int .i64 1)) fun v210 =>
 j98 x205 x206 x207 v210 h209)) (
 j97 x101 h103)

noncomputable def l_graph_Cycle1 (J : JT) (G : GT) (cf : CF) (j97 : K.Fn 1) : K.Fn 4 := LP 4 fun j98 => fun x99 x100 x101 x102 h103 => bl_graph_Cycle1 J G cf j97 j98 x99 x100 x101 x102 h103

theorem rl_graph_Cycle1 (J : JT) (G : GT) (cf : CF) (j97 : K.Fn 1) (j98 : K.Fn 4) (x99 x100 x101 x102 : AV) (h103 : Hp) : codeF P J G cf (nT P 14) (atC P 14 [1, 1, 1, 1, 1, 1, 0, 1, 0, 0]) al_graph_Cycle1 (fun t H => app 4 j98 (vals [1, 3, 7, 8] t) H) (fun q t H => match Nat.beq q 2 with | true => app 1 j97 (vals [7] t) H | false => (fun _ _ _ => none) q t H) (retK P 14) (mkT (nT P 14) [1, 3, 7, 8] [x99, x100, x101, x102]) h103 = bl_graph_Cycle1 J G cf j97 j98 x99 x100 x101 x102 h103 := by kernel_rfl

theorem dl_graph_Cycle1 (J : JT) (G : GT) (cf : CF) (j97 : K.Fn 1) : l_graph_Cycle1 J G cf j97 = loopF P J G cf (nT P 14) (atC P 14 [1, 1, 1, 1, 1, 1, 0, 1, 0, 0]) al_graph_Cycle1 [1, 3, 7, 8] (fun q t H => match Nat.beq q 2 with | true => app 1 j97 (vals [7] t) H | false => (fun _ _ _ => none) q t H) (retK P 14) := by
  unfold l_graph_Cycle1 loopF
  refine congrArg (LP 4) ?_
  funext j98 x99 x100 x101 x102 h103
  exact (rl_graph_Cycle1 J G cf j97 j98 x99 x100 x101 x102 h103).symm

theorem ql_graph_Cycle1 (cf : CF) (j97 : K.Fn 1) (x99 x100 x101 x102 : AV) (h103 : Hp) : l_graph_Cycle1 JN GO cf j97 x99 x100 x101 x102 h103 = bl_graph_Cycle1 JN GO cf j97 (l_graph_Cycle1 JN GO cf j97) x99 x100 x101 x102 h103 := by
  have h1 : l_graph_Cycle1 JN GO cf j97 x99 x100 x101 x102 h103 = app 4 (loopF P JN GO cf (nT P 14) (atC P 14 [1, 1, 1, 1, 1, 1, 0, 1, 0, 0]) al_graph_Cycle1 [1, 3, 7, 8] (fun q t H => match Nat.beq q 2 with | true => app 1 j97 (vals [7] t) H | false => (fun _ _ _ => none) q t H) (retK P 14)) [x99, x100, x101, x102] h103 := by rw [dl_graph_Cycle1]; kernel_rfl
  refine h1.trans ((loopF_eq (P := P) cf (nT P 14) (atC P 14 [1, 1, 1, 1, 1, 1, 0, 1, 0, 0]) al_graph_Cycle1 [1, 3, 7, 8] (fun q t H => match Nat.beq q 2 with | true => app 1 j97 (vals [7] t) H | false => (fun _ _ _ => none) q t H) (retK P 14) [x99, x100, x101, x102] rfl h103).trans ((rl_graph_Cycle1 JN GO cf j97 _ x99 x100 x101 x102 h103).trans ?_))
  rw [dl_graph_Cycle1]

noncomputable def s_graph_Cycle (J : JT) (G : GT) (cf : CF) (a0 : AV) (H : Hp) : R :=
 BN (bx 39 a0 H) fun i0 h1 =>
 B1 (lda 2 (.ptr i0 0) h1) fun v2 =>
 B2 (cf (.func (.func 39) [] []) [v2] h1) fun v3 h4 =>
 B1 (unA .not v3) fun v5 =>
 CD v5 (
 some (.slice0, h4)) (
 J 3 (fun j6 =>
 B1 (fa 0 (.ptr i0 0)) fun v7 =>
 B1 (ld v7 h4) fun v8 =>
 J 3 (fun j9 =>
 l_graph_Cycle J G cf j9 (.ptr i0 0) (.int .i64 0) (.int .i64 0) v8 (.int .i64 0) h4) (fun x83 x84 x85 h86 =>
 j6 x83 x84 x85 h86)) (fun x87 x88 x89 h90 =>
 B1 (ieq x89 (.int .i64 0)) fun v91 =>
 CD v91 (
 some (.slice0, h90)) (
 B1 (fl [(.int .i64 0)] [(0, 1, x88)]) fun l92 =>
 BN (newCells h90 l92 3 0) fun i93 h94 =>
 J 1 (fun j95 =>
 B1 (isub x89 (.int .i64 1)) fun v96 =>
 J 1 (fun j97 =>
 l_graph_Cycle1 J G cf j97 x87 x88 (.slice i93 0 1 1 true 1) v96 h94) (fun x211 h212 =>
 j95 x211 h212)) (fun x213 h214 =>
 some (x213, h214)))))

theorem e_graph_Cycle (J : JT) (G : GT) (cf : CF) (a0 : AV) (H : Hp) : callF P J G prim an cf 14 [a0] H = s_graph_Cycle J G cf a0 H := by kernel_rfl

theorem c_graph_Cycle {a0 : AV} {H : Hp} {r : AV × Hp} (h : s_graph_Cycle JN GO cK a0 H = some r) : cK (.func (.func 14) [] []) [a0] H = some r := callF_fix (first := []) (cap := []) ((e_graph_Cycle JN GO _ a0 H).trans h)

noncomputable def s_def_Name (J : JT) (G : GT) (cf : CF) (a0 : AV) (H : Hp) : R :=
 B1 (sne a0 (.str [])) fun v0 =>
 G v0 true (fun k1 =>
 k1 a0 H) (fun v2 h3 =>
 G v0 true (fun k4 =>
 B1 (lens v2) fun v5 =>
 k4 v5 h3) (fun v6 h7 =>
 G v0 true (fun k8 =>
 B1 (ile v6 (.int .i64 16)) fun v9 =>
 k8 v9 h7) (fun v10 h11 =>
 B1 (pk v0 v10 (.bool false)) fun v12 =>
 G v12 true (fun k13 =>
 k13 a0 h11) (fun v14 h15 =>
 G v12 true (fun k16 =>
 B2 (cf (.func (.func 61) [] []) [v14, (.str [97, 98, 99, 100, 101, 102, 103, 104, 105, 106, 107, 108, 109, 110, 111, 112, 113, 114, 115, 116, 117, 118, 119, 120, 121, 122, 48, 49, 50, 51, 52, 53, 54, 55, 56, 57])] h15) fun v17 h18 =>
 k16 v17 h18) (fun v19 h20 =>
 G v12 true (fun k21 =>
 B1 (seq v19 (.str [])) fun v22 =>
 k21 v22 h20) (fun v23 h24 =>
 B1 (pk v12 v23 (.bool false)) fun v25 =>
 some (v25, h24)) h20) h15) h11) h7) h3) H

theorem e_def_Name (J : JT) (G : GT) (cf : CF) (a0 : AV) (H : Hp) : callF P J G prim an cf 27 [a0] H = s_def_Name J G cf a0 H := by kernel_rfl

theorem c_def_Name {a0 : AV} {H : Hp} {r : AV × Hp} (h : s_def_Name JN GO cK a0 H = some r) : cK (.func (.func 27) [] []) [a0] H = some r := callF_fix (first := []) (cap := []) ((e_def_Name JN GO _ a0 H).trans h)

noncomputable def s_def_in (J : JT) (G : GT) (cf : CF) (a0 a1 a2 : AV) (H : Hp) : R :=
 B1 (ige a0 a1) fun v0 =>
 G v0 true (fun k1 =>
 k1 a0 H) (fun v2 h3 =>
 G v0 true (fun k4 =>
 k4 a2 h3) (fun v5 h6 =>
 G v0 true (fun k7 =>
 B1 (ile v2 v5) fun v8 =>
 k7 v8 h6) (fun v9 h10 =>
 B1 (pk v0 v9 (.bool false)) fun v11 =>
 some (v11, h10)) h6) h3) H

theorem e_def_in (J : JT) (G : GT) (cf : CF) (a0 a1 a2 : AV) (H : Hp) : callF P J G prim an cf 32 [a0, a1, a2] H = s_def_in J G cf a0 a1 a2 H := by kernel_rfl

theorem c_def_in {a0 a1 a2 : AV} {H : Hp} {r : AV × Hp} (h : s_def_in JN GO cK a0 a1 a2 H = some r) : cK (.func (.func 32) [] []) [a0, a1, a2] H = some r := callF_fix (first := []) (cap := []) ((e_def_in JN GO _ a0 a1 a2 H).trans h)

def al__def_Def_some : An := (.sq none .nl (.sq none (.cd .nl .nl) (.sq (some [1, 8, 9, 10]) (.bl none (.sq (some [1, 5, 6, 8, 9, 10]) .nl (.sq none .nl (.cd (.sq none .nl .nl) .nl)))) .nl)))

noncomputable def bl__def_Def_some (J : JT) (G : GT) (cf : CF) (j6 : K.Fn 0) (j7 : K.Fn 4) (x8 x9 x10 x11 : AV) (h12 : Hp) : R :=
 B1 (ilt x11 x10) fun v13 =>
 CD v13 (
 J 4 (fun j14 =>
 J 6 (fun j15 =>
 B1 (ia 6 x9 x11) fun v16 =>
 B1 (lda 6 v16 h12) fun v17 =>
 BN (newCells h12 [(.str []), .slice0, (.int .i64 0), (.int .i64 0), (.int .i64 0), (.str [])] 43 0) fun i18 h19 =>
 B1 (st 6 (.ptr i18 0) v17 h19) fun h20 =>
 j15 x8 x11 (.ptr i18 0) x9 x10 x11 h20) (fun x21 x22 x23 x24 x25 x26 h27 =>
 B1 (lda 6 x23 h27) fun v28 =>
 B2 (cf x21 [x22, v28] h27) fun v29 h30 =>
 CD v29 (
 some ((.bool true), h30)) (
 j14 x21 x24 x25 x26 h30))) (fun x31 x32 x33 x34 h35 =>
 B1 (iadd x34 (.int .i64 1)) fun v36 =>
 j7 x31 x32 x33 v36 h35)) (
 j6  h12)

noncomputable def l__def_Def_some (J : JT) (G : GT) (cf : CF) (j6 : K.Fn 0) : K.Fn 4 := LP 4 fun j7 => fun x8 x9 x10 x11 h12 => bl__def_Def_some J G cf j6 j7 x8 x9 x10 x11 h12

theorem rl__def_Def_some (J : JT) (G : GT) (cf : CF) (j6 : K.Fn 0) (j7 : K.Fn 4) (x8 x9 x10 x11 : AV) (h12 : Hp) : codeF P J G cf (nT P 38) (atC P 38 [1, 0, 1, 0, 0]) al__def_Def_some (fun t H => app 4 j7 (vals [1, 8, 9, 10] t) H) (fun q t H => match Nat.beq q 0 with | true => app 0 j6 (vals [] t) H | false => (fun _ _ _ => none) q t H) (retK P 38) (mkT (nT P 38) [1, 8, 9, 10] [x8, x9, x10, x11]) h12 = bl__def_Def_some J G cf j6 j7 x8 x9 x10 x11 h12 := by kernel_rfl

theorem dl__def_Def_some (J : JT) (G : GT) (cf : CF) (j6 : K.Fn 0) : l__def_Def_some J G cf j6 = loopF P J G cf (nT P 38) (atC P 38 [1, 0, 1, 0, 0]) al__def_Def_some [1, 8, 9, 10] (fun q t H => match Nat.beq q 0 with | true => app 0 j6 (vals [] t) H | false => (fun _ _ _ => none) q t H) (retK P 38) := by
  unfold l__def_Def_some loopF
  refine congrArg (LP 4) ?_
  funext j7 x8 x9 x10 x11 h12
  exact (rl__def_Def_some J G cf j6 j7 x8 x9 x10 x11 h12).symm

theorem ql__def_Def_some (cf : CF) (j6 : K.Fn 0) (x8 x9 x10 x11 : AV) (h12 : Hp) : l__def_Def_some JN GO cf j6 x8 x9 x10 x11 h12 = bl__def_Def_some JN GO cf j6 (l__def_Def_some JN GO cf j6) x8 x9 x10 x11 h12 := by
  have h1 : l__def_Def_some JN GO cf j6 x8 x9 x10 x11 h12 = app 4 (loopF P JN GO cf (nT P 38) (atC P 38 [1, 0, 1, 0, 0]) al__def_Def_some [1, 8, 9, 10] (fun q t H => match Nat.beq q 0 with | true => app 0 j6 (vals [] t) H | false => (fun _ _ _ => none) q t H) (retK P 38)) [x8, x9, x10, x11] h12 := by rw [dl__def_Def_some]; kernel_rfl
  refine h1.trans ((loopF_eq (P := P) cf (nT P 38) (atC P 38 [1, 0, 1, 0, 0]) al__def_Def_some [1, 8, 9, 10] (fun q t H => match Nat.beq q 0 with | true => app 0 j6 (vals [] t) H | false => (fun _ _ _ => none) q t H) (retK P 38) [x8, x9, x10, x11] rfl h12).trans ((rl__def_Def_some JN GO cf j6 _ x8 x9 x10 x11 h12).trans ?_))
  rw [dl__def_Def_some]

noncomputable def s__def_Def_some (J : JT) (G : GT) (cf : CF) (a0 a1 : AV) (H : Hp) : R :=
 BN (bx 25 a0 H) fun i0 h1 =>
 J 0 (fun j2 =>
 B1 (fa 0 (.ptr i0 0)) fun v3 =>
 B1 (ld v3 h1) fun v4 =>
 B1 (lenx v4) fun v5 =>
 J 0 (fun j6 =>
 l__def_Def_some J G cf j6 a1 v4 v5 (.int .i64 0) h1) (fun  h37 =>
 j2  h37)) (fun  h38 =>
 some ((.bool false), h38))

theorem e__def_Def_some (J : JT) (G : GT) (cf : CF) (a0 a1 : AV) (H : Hp) : callF P J G prim an cf 38 [a0, a1] H = s__def_Def_some J G cf a0 a1 H := by kernel_rfl

theorem c__def_Def_some {a0 a1 : AV} {H : Hp} {r : AV × Hp} (h : s__def_Def_some JN GO cK a0 a1 H = some r) : cK (.func (.func 38) [] []) [a0, a1] H = some r := callF_fix (first := []) (cap := []) ((e__def_Def_some JN GO _ a0 a1 H).trans h)

def al_def_Good : An := (.sq none .nl (.sq none (.cd .nl .nl) (.sq (some [1, 18, 19, 20]) (.bl none (.sq none .nl (.sq none .nl (.cd (.sq none .nl .nl) .nl)))) .nl)))

noncomputable def bl_def_Good (J : JT) (G : GT) (cf : CF) (j35 : K.Fn 1) (j36 : K.Fn 4) (x37 x38 x39 x40 : AV) (h41 : Hp) : R :=
 B1 (ilt x40 x39) fun v42 =>
 CD v42 (
 J 4 (fun j43 =>
 B1 (ia 2 x38 x40) fun v44 =>
 B1 (lda 2 v44 h41) fun v45 =>
 BN (newCells h41 [.nilFunc, (.int .i64 0)] 75 0) fun i46 h47 =>
 B1 (st 2 (.ptr i46 0) v45 h47) fun h48 =>
 B1 (lda 1 x37 h48) fun v49 =>
 B1 (fa 0 (.ptr i46 0)) fun v50 =>
 B1 (ld v50 h48) fun v51 =>
 B2 (cf (.func (.func 38) [] []) [v49, v51] h48) fun v52 h53 =>
 CD v52 (
 B1 (fa 1 (.ptr i46 0)) fun v54 =>
 B1 (ld v54 h53) fun v55 =>
 some (v55, h53)) (
 j43 x37 x38 x39 x40 h53)) (fun x56 x57 x58 x59 h60 =>
 B1 (iadd x59 (.int .i64 1)) fun v61 =>
 j36 x56 x57 x58 v61 h60)) (
 j35 x37 h41)

noncomputable def l_def_Good (J : JT) (G : GT) (cf : CF) (j35 : K.Fn 1) : K.Fn 4 := LP 4 fun j36 => fun x37 x38 x39 x40 h41 => bl_def_Good J G cf j35 j36 x37 x38 x39 x40 h41

theorem rl_def_Good (J : JT) (G : GT) (cf : CF) (j35 : K.Fn 1) (j36 : K.Fn 4) (x37 x38 x39 x40 : AV) (h41 : Hp) : codeF P J G cf (nT P 11) (atC P 11 [1, 1, 1, 0, 1, 0, 0]) al_def_Good (fun t H => app 4 j36 (vals [1, 18, 19, 20] t) H) (fun q t H => match Nat.beq q 0 with | true => app 1 j35 (vals [1] t) H | false => (fun _ _ _ => none) q t H) (retK P 11) (mkT (nT P 11) [1, 18, 19, 20] [x37, x38, x39, x40]) h41 = bl_def_Good J G cf j35 j36 x37 x38 x39 x40 h41 := by kernel_rfl

theorem dl_def_Good (J : JT) (G : GT) (cf : CF) (j35 : K.Fn 1) : l_def_Good J G cf j35 = loopF P J G cf (nT P 11) (atC P 11 [1, 1, 1, 0, 1, 0, 0]) al_def_Good [1, 18, 19, 20] (fun q t H => match Nat.beq q 0 with | true => app 1 j35 (vals [1] t) H | false => (fun _ _ _ => none) q t H) (retK P 11) := by
  unfold l_def_Good loopF
  refine congrArg (LP 4) ?_
  funext j36 x37 x38 x39 x40 h41
  exact (rl_def_Good J G cf j35 j36 x37 x38 x39 x40 h41).symm

theorem ql_def_Good (cf : CF) (j35 : K.Fn 1) (x37 x38 x39 x40 : AV) (h41 : Hp) : l_def_Good JN GO cf j35 x37 x38 x39 x40 h41 = bl_def_Good JN GO cf j35 (l_def_Good JN GO cf j35) x37 x38 x39 x40 h41 := by
  have h1 : l_def_Good JN GO cf j35 x37 x38 x39 x40 h41 = app 4 (loopF P JN GO cf (nT P 11) (atC P 11 [1, 1, 1, 0, 1, 0, 0]) al_def_Good [1, 18, 19, 20] (fun q t H => match Nat.beq q 0 with | true => app 1 j35 (vals [1] t) H | false => (fun _ _ _ => none) q t H) (retK P 11)) [x37, x38, x39, x40] h41 := by rw [dl_def_Good]; kernel_rfl
  refine h1.trans ((loopF_eq (P := P) cf (nT P 11) (atC P 11 [1, 1, 1, 0, 1, 0, 0]) al_def_Good [1, 18, 19, 20] (fun q t H => match Nat.beq q 0 with | true => app 1 j35 (vals [1] t) H | false => (fun _ _ _ => none) q t H) (retK P 11) [x37, x38, x39, x40] rfl h41).trans ((rl_def_Good JN GO cf j35 _ x37 x38 x39 x40 h41).trans ?_))
  rw [dl_def_Good]

noncomputable def s_def_Good (J : JT) (G : GT) (cf : CF) (a0 : AV) (H : Hp) : R :=
 BN (bx 25 a0 H) fun i0 h1 =>
 J 1 (fun j2 =>
 J 2 (fun j3 =>
 B1 (fa 0 (.ptr i0 0)) fun v4 =>
 B1 (ld v4 h1) fun v5 =>
 B1 (lenx v5) fun v6 =>
 B2 (cf (.func (.func 32) [] []) [v6, (.int .i64 1), (.int .i64 16)] h1) fun v7 h8 =>
 B1 (unA .not v7) fun v9 =>
 j3 (.ptr i0 0) v9 h8) (fun x10 x11 h12 =>
 CD x11 (
 some ((.int .i64 1), h12)) (
 j2 x10 h12))) (fun x13 h14 =>
 BN (mk0 h14) fun i15 h16 =>
 BN (newCells h16 [.map0] 73 0) fun i17 h18 =>
 B1 (st 1 (.ptr i17 0) (.map i15) h18) fun h19 =>
 J 1 (fun j20 =>
 J 4 (fun j21 =>
 B1 (fl [.nilFunc, (.int .i64 0)] [(0, 1, (.func (.func 33) [] [])), (1, 1, (.int .i64 2))]) fun l22 =>
 B1 (fl [.nilFunc, (.int .i64 0)] [(0, 1, (.func (.func 34) [] [(.ptr i17 0)])), (1, 1, (.int .i64 5))]) fun l23 =>
 B1 (fl [.nilFunc, (.int .i64 0)] [(0, 1, (.func (.func 35) [] [])), (1, 1, (.int .i64 1))]) fun l24 =>
 B1 (fl [.nilFunc, (.int .i64 0)] [(0, 1, (.func (.func 36) [] [x13])), (1, 1, (.int .i64 1))]) fun l25 =>
 B1 (fl [.nilFunc, (.int .i64 0), .nilFunc, (.int .i64 0), .nilFunc, (.int .i64 0), .nilFunc, (.int .i64 0)] [(0, 2, (.agg l22)), (2, 2, (.agg l23)), (4, 2, (.agg l24)), (6, 2, (.agg l25))]) fun l26 =>
 BN (newCells h19 l26 75 0) fun i27 h28 =>
 B1 (lenx (.slice i27 0 4 4 true 2)) fun v29 =>
 j21 x13 (.slice i27 0 4 4 true 2) v29 (.int .i64 0) h28) (fun x30 x31 x32 x33 h34 =>
 J 1 (fun j35 =>
 l_def_Good J G cf j35 x30 x31 x32 x33 h34) (fun x62 h63 =>
 j20 x62 h63))) (fun x64 h65 =>
 J 0 (fun j66 =>
 J 1 (fun j67 =>
 B1 (lda 1 x64 h65) fun v68 =>
 B2 (cf (.func (.func 15) [] []) [v68] h65) fun v69 h70 =>
 B2 (cf (.func (.func 14) [] []) [v69] h70) fun v71 h72 =>
 B1 (lenx v71) fun v73 =>
 B1 (igt v73 (.int .i64 0)) fun v74 =>
 j67 v74 h72) (fun x75 h76 =>
 CD x75 (
 some ((.int .i64 7), h76)) (
 j66  h76))) (fun  h77 =>
 some ((.int .i64 0), h77))))

theorem e_def_Good (J : JT) (G : GT) (cf : CF) (a0 : AV) (H : Hp) : callF P J G prim an cf 11 [a0] H = s_def_Good J G cf a0 H := by kernel_rfl

theorem c_def_Good {a0 : AV} {H : Hp} {r : AV × Hp} (h : s_def_Good JN GO cK a0 H = some r) : cK (.func (.func 11) [] []) [a0] H = some r := callF_fix (first := []) (cap := []) ((e_def_Good JN GO _ a0 H).trans h)

noncomputable def s_def_Good_1 (J : JT) (G : GT) (cf : CF) (a0 a1 : AV) (H : Hp) : R :=
 BN (bx 43 a1 H) fun i0 h1 =>
 B1 (fa 0 (.ptr i0 0)) fun v2 =>
 B1 (ld v2 h1) fun v3 =>
 B2 (cf (.func (.func 27) [] []) [v3] h1) fun v4 h5 =>
 B1 (unA .not v4) fun v6 =>
 G v6 false (fun k7 =>
 B1 (fa 5 (.ptr i0 0)) fun v8 =>
 k7 v8 h5) (fun v9 h10 =>
 G v6 false (fun k11 =>
 B1 (ld v9 h10) fun v12 =>
 k11 v12 h10) (fun v13 h14 =>
 G v6 false (fun k15 =>
 B1 (sne v13 (.str [])) fun v16 =>
 k15 v16 h14) (fun v17 h18 =>
 G v6 false (fun k19 =>
 k19 v17 h18) (fun v20 h21 =>
 G v20 true (fun k22 =>
 B1 (fa 5 (.ptr i0 0)) fun v23 =>
 k22 v23 h21) (fun v24 h25 =>
 G v20 true (fun k26 =>
 B1 (ld v24 h25) fun v27 =>
 k26 v27 h25) (fun v28 h29 =>
 G v20 true (fun k30 =>
 B2 (cf (.func (.func 27) [] []) [v28] h29) fun v31 h32 =>
 k30 v31 h32) (fun v33 h34 =>
 G v20 true (fun k35 =>
 B1 (unA .not v33) fun v36 =>
 k35 v36 h34) (fun v37 h38 =>
 G v6 false (fun k39 =>
 B1 (pk v20 v37 (.bool false)) fun v40 =>
 k39 v40 h38) (fun v41 h42 =>
 B1 (pk v6 (.bool true) v41) fun v43 =>
 some (v43, h42)) h38) h34) h29) h25) h21) h18) h14) h10) h5

theorem e_def_Good_1 (J : JT) (G : GT) (cf : CF) (a0 a1 : AV) (H : Hp) : callF P J G prim an cf 33 [a0, a1] H = s_def_Good_1 J G cf a0 a1 H := by kernel_rfl

theorem c_def_Good_1 {a0 a1 : AV} {H : Hp} {r : AV × Hp} (h : s_def_Good_1 JN GO cK a0 a1 H = some r) : cK (.func (.func 33) [] []) [a0, a1] H = some r := callF_fix (first := []) (cap := []) ((e_def_Good_1 JN GO _ a0 a1 H).trans h)

noncomputable def s_def_Good_2 (J : JT) (G : GT) (cf : CF) (a0 a1 a2 : AV) (H : Hp) : R :=
 BN (bx 43 a1 H) fun i0 h1 =>
 J 3 (fun j2 =>
 B1 (ld a2 h1) fun v3 =>
 B1 (fa 0 (.ptr i0 0)) fun v4 =>
 B1 (ld v4 h1) fun v5 =>
 B1 (lkp .str (.bool false) false v3 v5 h1) fun v6 =>
 j2 a2 (.ptr i0 0) v6 h1) (fun x7 x8 x9 h10 =>
 B1 (ld x7 h10) fun v11 =>
 B1 (fa 0 x8) fun v12 =>
 B1 (ld v12 h10) fun v13 =>
 B1 (mup .str v11 v13 (.bool true) h10) fun h14 =>
 some (x9, h14))

theorem e_def_Good_2 (J : JT) (G : GT) (cf : CF) (a0 a1 a2 : AV) (H : Hp) : callF P J G prim an cf 34 [a0, a1, a2] H = s_def_Good_2 J G cf a0 a1 a2 H := by kernel_rfl

theorem c_def_Good_2 {a0 a1 a2 : AV} {H : Hp} {r : AV × Hp} (h : s_def_Good_2 JN GO cK a0 a1 a2 H = some r) : cK (.func (.func 34) [] [a2]) [a0, a1] H = some r := callF_fix (first := []) (cap := [a2]) ((e_def_Good_2 JN GO _ a0 a1 a2 H).trans h)

noncomputable def s_def_Good_3 (J : JT) (G : GT) (cf : CF) (a0 a1 : AV) (H : Hp) : R :=
 BN (bx 43 a1 H) fun i0 h1 =>
 B1 (fa 2 (.ptr i0 0)) fun v2 =>
 B1 (ld v2 h1) fun v3 =>
 B2 (cf (.func (.func 32) [] []) [v3, (.int .i64 0), (.int .i64 8)] h1) fun v4 h5 =>
 B1 (unA .not v4) fun v6 =>
 G v6 false (fun k7 =>
 B1 (fa 3 (.ptr i0 0)) fun v8 =>
 k7 v8 h5) (fun v9 h10 =>
 G v6 false (fun k11 =>
 B1 (ld v9 h10) fun v12 =>
 k11 v12 h10) (fun v13 h14 =>
 G v6 false (fun k15 =>
 B2 (cf (.func (.func 32) [] []) [v13, (.int .i64 1), (.int .i64 1000)] h14) fun v16 h17 =>
 k15 v16 h17) (fun v18 h19 =>
 G v6 false (fun k20 =>
 B1 (unA .not v18) fun v21 =>
 k20 v21 h19) (fun v22 h23 =>
 B1 (pk v6 (.bool true) v22) fun v24 =>
 G v24 false (fun k25 =>
 B1 (fa 4 (.ptr i0 0)) fun v26 =>
 k25 v26 h23) (fun v27 h28 =>
 G v24 false (fun k29 =>
 B1 (ld v27 h28) fun v30 =>
 k29 v30 h28) (fun v31 h32 =>
 G v24 false (fun k33 =>
 B2 (cf (.func (.func 32) [] []) [v31, (.int .i64 1), (.int .i64 1000)] h32) fun v34 h35 =>
 k33 v34 h35) (fun v36 h37 =>
 G v24 false (fun k38 =>
 B1 (unA .not v36) fun v39 =>
 k38 v39 h37) (fun v40 h41 =>
 B1 (pk v24 (.bool true) v40) fun v42 =>
 some (v42, h41)) h37) h32) h28) h23) h19) h14) h10) h5

theorem e_def_Good_3 (J : JT) (G : GT) (cf : CF) (a0 a1 : AV) (H : Hp) : callF P J G prim an cf 35 [a0, a1] H = s_def_Good_3 J G cf a0 a1 H := by kernel_rfl

theorem c_def_Good_3 {a0 a1 : AV} {H : Hp} {r : AV × Hp} (h : s_def_Good_3 JN GO cK a0 a1 H = some r) : cK (.func (.func 35) [] []) [a0, a1] H = some r := callF_fix (first := []) (cap := []) ((e_def_Good_3 JN GO _ a0 a1 H).trans h)

noncomputable def s_def_Good_4 (J : JT) (G : GT) (cf : CF) (a0 a1 a2 : AV) (H : Hp) : R :=
 BN (bx 43 a1 H) fun i0 h1 =>
 B1 (lda 1 a2 h1) fun v2 =>
 B1 (fa 1 (.ptr i0 0)) fun v3 =>
 B1 (ld v3 h1) fun v4 =>
 B2 (cf (.func (.func 37) [] []) [v2, a0, v4] h1) fun v5 h6 =>
 B1 (unA .not v5) fun v7 =>
 some (v7, h6)

theorem e_def_Good_4 (J : JT) (G : GT) (cf : CF) (a0 a1 a2 : AV) (H : Hp) : callF P J G prim an cf 36 [a0, a1, a2] H = s_def_Good_4 J G cf a0 a1 a2 H := by kernel_rfl

theorem c_def_Good_4 {a0 a1 a2 : AV} {H : Hp} {r : AV × Hp} (h : s_def_Good_4 JN GO cK a0 a1 a2 H = some r) : cK (.func (.func 36) [] [a2]) [a0, a1] H = some r := callF_fix (first := []) (cap := [a2]) ((e_def_Good_4 JN GO _ a0 a1 a2 H).trans h)

def al__def_Def_after : An := (.sq none .nl (.sq none (.cd .nl .nl) (.sq (some [1, 2, 3, 9, 10, 11]) (.bl none (.sq (some [1, 2, 3, 7, 8, 9, 10, 11]) .nl (.sq (some [1, 2, 3, 9, 10, 11, 34]) .nl (.cd (.sq none .nl .nl) .nl)))) .nl)))

noncomputable def bl__def_Def_after (J : JT) (G : GT) (cf : CF) (j4 : K.Fn 0) (j5 : K.Fn 6) (x6 x7 x8 x9 x10 x11 : AV) (h12 : Hp) : R :=
 B1 (ilt x11 x10) fun v13 =>
 CD v13 (
 J 6 (fun j14 =>
 J 8 (fun j15 =>
 B1 (ia 1 x9 x11) fun v16 =>
 B1 (ld v16 h12) fun v17 =>
 j15 x6 x7 x8 x11 v17 x9 x10 x11 h12) (fun x18 x19 x20 x21 x22 x23 x24 x25 h26 =>
 J 7 (fun j27 =>
 B1 (fa 0 x20) fun v28 =>
 B1 (ld v28 h26) fun v29 =>
 B1 (lenx v29) fun v30 =>
 B1 (isub v30 (.int .i64 1)) fun v31 =>
 B2 (cf (.func (.func 32) [] []) [x22, (.int .i64 0), v31] h26) fun v32 h33 =>
 B1 (unA .not v32) fun v34 =>
 G v34 false (fun k35 =>
 k35 x22 h33) (fun v36 h37 =>
 G v34 false (fun k38 =>
 k38 x18 h37) (fun v39 h40 =>
 G v34 false (fun k41 =>
 B1 (ieq v36 v39) fun v42 =>
 k41 v42 h40) (fun v43 h44 =>
 B1 (pk v34 (.bool true) v43) fun v45 =>
 G v45 false (fun k46 =>
 k46 x19 h44) (fun v47 h48 =>
 G v45 false (fun k49 =>
 k49 x21 h48) (fun v50 h51 =>
 G v45 false (fun k52 =>
 B1 (sll 1 v47 none (some v50) none) fun v53 =>
 k52 v53 h51) (fun v54 h55 =>
 G v45 false (fun k56 =>
 k56 x22 h55) (fun v57 h58 =>
 G v45 false (fun k59 =>
 B2 (cf (.func (.func 51) [] []) [v54, v57] h58) fun v60 h61 =>
 k59 v60 h61) (fun v62 h63 =>
 B1 (pk v45 (.bool true) v62) fun v64 =>
 j27 x18 x19 x20 x23 x24 x25 v64 h63) h58) h55) h51) h48) h44) h40) h37) h33) (fun x65 x66 x67 x68 x69 x70 x71 h72 =>
 CD x71 (
 some ((.bool false), h72)) (
 j14 x65 x66 x67 x68 x69 x70 h72)))) (fun x73 x74 x75 x76 x77 x78 h79 =>
 B1 (iadd x78 (.int .i64 1)) fun v80 =>
 j5 x73 x74 x75 x76 x77 v80 h79)) (
 j4  h12)

noncomputable def l__def_Def_after (J : JT) (G : GT) (cf : CF) (j4 : K.Fn 0) : K.Fn 6 := LP 6 fun j5 => fun x6 x7 x8 x9 x10 x11 h12 => bl__def_Def_after J G cf j4 j5 x6 x7 x8 x9 x10 x11 h12

theorem rl__def_Def_after (J : JT) (G : GT) (cf : CF) (j4 : K.Fn 0) (j5 : K.Fn 6) (x6 x7 x8 x9 x10 x11 : AV) (h12 : Hp) : codeF P J G cf (nT P 37) (atC P 37 [1, 0, 1, 0, 0]) al__def_Def_after (fun t H => app 6 j5 (vals [1, 2, 3, 9, 10, 11] t) H) (fun q t H => match Nat.beq q 0 with | true => app 0 j4 (vals [] t) H | false => (fun _ _ _ => none) q t H) (retK P 37) (mkT (nT P 37) [1, 2, 3, 9, 10, 11] [x6, x7, x8, x9, x10, x11]) h12 = bl__def_Def_after J G cf j4 j5 x6 x7 x8 x9 x10 x11 h12 := by kernel_rfl

theorem dl__def_Def_after (J : JT) (G : GT) (cf : CF) (j4 : K.Fn 0) : l__def_Def_after J G cf j4 = loopF P J G cf (nT P 37) (atC P 37 [1, 0, 1, 0, 0]) al__def_Def_after [1, 2, 3, 9, 10, 11] (fun q t H => match Nat.beq q 0 with | true => app 0 j4 (vals [] t) H | false => (fun _ _ _ => none) q t H) (retK P 37) := by
  unfold l__def_Def_after loopF
  refine congrArg (LP 6) ?_
  funext j5 x6 x7 x8 x9 x10 x11 h12
  exact (rl__def_Def_after J G cf j4 j5 x6 x7 x8 x9 x10 x11 h12).symm

theorem ql__def_Def_after (cf : CF) (j4 : K.Fn 0) (x6 x7 x8 x9 x10 x11 : AV) (h12 : Hp) : l__def_Def_after JN GO cf j4 x6 x7 x8 x9 x10 x11 h12 = bl__def_Def_after JN GO cf j4 (l__def_Def_after JN GO cf j4) x6 x7 x8 x9 x10 x11 h12 := by
  have h1 : l__def_Def_after JN GO cf j4 x6 x7 x8 x9 x10 x11 h12 = app 6 (loopF P JN GO cf (nT P 37) (atC P 37 [1, 0, 1, 0, 0]) al__def_Def_after [1, 2, 3, 9, 10, 11] (fun q t H => match Nat.beq q 0 with | true => app 0 j4 (vals [] t) H | false => (fun _ _ _ => none) q t H) (retK P 37)) [x6, x7, x8, x9, x10, x11] h12 := by rw [dl__def_Def_after]; kernel_rfl
  refine h1.trans ((loopF_eq (P := P) cf (nT P 37) (atC P 37 [1, 0, 1, 0, 0]) al__def_Def_after [1, 2, 3, 9, 10, 11] (fun q t H => match Nat.beq q 0 with | true => app 0 j4 (vals [] t) H | false => (fun _ _ _ => none) q t H) (retK P 37) [x6, x7, x8, x9, x10, x11] rfl h12).trans ((rl__def_Def_after JN GO cf j4 _ x6 x7 x8 x9 x10 x11 h12).trans ?_))
  rw [dl__def_Def_after]

noncomputable def s__def_Def_after (J : JT) (G : GT) (cf : CF) (a0 a1 a2 : AV) (H : Hp) : R :=
 BN (bx 25 a0 H) fun i0 h1 =>
 J 0 (fun j2 =>
 B1 (lenx a2) fun v3 =>
 J 0 (fun j4 =>
 l__def_Def_after J G cf j4 a1 a2 (.ptr i0 0) a2 v3 (.int .i64 0) h1) (fun  h81 =>
 j2  h81)) (fun  h82 =>
 some ((.bool true), h82))

theorem e__def_Def_after (J : JT) (G : GT) (cf : CF) (a0 a1 a2 : AV) (H : Hp) : callF P J G prim an cf 37 [a0, a1, a2] H = s__def_Def_after J G cf a0 a1 a2 H := by kernel_rfl

theorem c__def_Def_after {a0 a1 a2 : AV} {H : Hp} {r : AV × Hp} (h : s__def_Def_after JN GO cK a0 a1 a2 H = some r) : cK (.func (.func 37) [] []) [a0, a1, a2] H = some r := callF_fix (first := []) (cap := []) ((e__def_Def_after JN GO _ a0 a1 a2 H).trans h)
end
end Go.Proofs.YthljbjokonglhaaGreatDoor.DfK
