/- Plain forms of functions, printed by a program of our own, and that the evaluator's reading of each is its plain form (of no conditions). -/
import Derived.Test.YtbdlbhlhnpblpaaGreatDoorHp
namespace Go.Proofs.YtbdlbhlhnpblpaaGreatDoor.WlK
open Go Am Am.K WlEnv
set_option linter.unusedVariables false
set_option maxRecDepth 100000
noncomputable section
noncomputable abbrev P:Program:=Tryz.prog
noncomputable def an (g:Nat):An:=
 bif Nat.beq g 23 then (.sq none .nl (.sq (some [0]) (.sq (some [0,9]) .nl (.cd (.sq none .nl .nl) .nl)) (.sq none .nl .nl))) else
 bif Nat.beq g 60 then (.sq none .nl (.sq none .nl .nl)) else
 bif Nat.beq g 43 then (.sq none .nl (.sq (some [0,1,6]) .nl (.sq (some [6]) (.bl none (.sq (some [1,6,13]) .nl (.cd (.sq none .nl .nl) (.sq none .nl (.cd (.sq none .nl .nl) (.sq none .nl (.cd (.sq none .nl .nl) .nl))))))) (.sq none .nl .nl)))) else
 bif Nat.beq g 45 then (.sq none .nl (.sq (some [0]) (.sq (some [0,7]) .nl (.cd (.sq none .nl .nl) .nl)) (.sq (some [0]) .nl (.sq (some [0]) (.sq (some [0,19]) .nl (.cd (.sq none .nl .nl) .nl)) (.sq (some []) .nl (.sq none .nl .nl)))))) else
 bif Nat.beq g 27 then (.sq none .nl (.sq (some [0,1,2,7,8]) .nl (.sq (some [0,1,2,7]) (.bl none (.sq (some [0,1,2,7,8,15]) .nl (.cd (.sq none .nl .nl) (.sq (some [0,1,2,7,23]) .nl (.cd (.sq none .nl .nl) (.sq none .nl (.cd (.sq none .nl .nl) .nl))))))) (.sq (some [2,7]) (.sq none .nl (.cd (.sq none .nl .nl) .nl)) (.sq (some []) .nl (.sq none .nl .nl)))))) else
 bif Nat.beq g 34 then (.sq none .nl (.sq (some [0,5,6]) .nl (.sq (some [5]) (.bl none (.sq none .nl (.cd (.sq none .nl .nl) (.sq none .nl (.cd (.sq none .nl .nl) .nl))))) (.sq (some []) .nl (.sq none .nl .nl))))) else
 bif Nat.beq g 31 then (.sq none .nl (.sq (some [0,2,7,8]) .nl (.sq (some [2,7]) (.bl none (.sq none .nl (.cd (.sq none .nl .nl) (.sq (some [0,2,7,19]) .nl (.cd (.sq none .nl .nl) (.sq none .nl (.cd (.sq none .nl .nl) .nl))))))) (.sq (some [2,7]) .nl (.sq (some []) .nl (.sq none .nl .nl)))))) else
 bif Nat.beq g 32 then (.sq none .nl (.sq (some [0,1,6]) .nl (.sq (some [0,1]) (.bl none (.sq none .nl (.cd (.sq none .nl .nl) (.sq none .nl (.cd (.sq none .nl .nl) .nl))))) (.sq (some []) .nl (.sq none .nl .nl))))) else
 bif Nat.beq g 51 then (.sq none .nl (.sq (some [6,7]) .nl (.sq (some [6]) (.sq none .nl (.cd (.sq none .nl .nl) .nl)) (.sq none .nl .nl)))) else
 bif Nat.beq g 33 then (.sq none .nl (.sq (some []) (.sq (some [5]) .nl (.sq none .nl (.cd (.sq none .nl .nl) .nl))) (.sq none .nl .nl))) else
 bif Nat.beq g 13 then (.sq none (.sq none .nl (.cd .nl .nl)) (.sq (some [0]) (.sq none .nl (.bl (some [0]) (.lp [0,1,14,15,16] (.sq none .nl (.sq none (.cd .nl .nl) (.sq (some [0,1,14,15,16]) (.bl (some [0,1,14,15,16]) (.sq none .nl (.sq (some [0,1,6,14,15,16]) .nl (.sq (some [0,1,6,7,14,15,16]) .nl (.sq none (.sq none .nl (.cd .nl .nl)) (.sq none .nl (.sq (some [0,1,6,8,14,15,16]) (.sq none .nl (.cd (.sq (some [0,1,6,8,14,15,16]) .nl .nl) .nl)) (.sq (some [0,1,6,14,15,16]) .nl .nl)))))))) .nl)))))) (.sq none .nl .nl))) else
 bif Nat.beq g 14 then .nl else
 bif Nat.beq g 19 then (.sq none .nl (.sq none .nl .nl)) else
 bif Nat.beq g 18 then (.sq none (.sq none .nl (.cd .nl .nl)) (.sq (some [0,2]) .nl .nl)) else
 bif Nat.beq g 38 then (.sq none .nl (.sq none (.sq none .nl (.cd (.sq none .nl .nl) .nl)) (.sq none .nl .nl))) else
 bif Nat.beq g 57 then (.sq none .nl (.sq none .nl .nl)) else
 bif Nat.beq g 58 then (.sq none .nl (.sq none .nl .nl)) else
 bif Nat.beq g 56 then (.sq none .nl (.sq (some [3,4]) .nl (.sq none .nl .nl))) else
 bif Nat.beq g 40 then (.sq none .nl (.sq (some [0,1]) (.sq none .nl (.cd (.sq none .nl .nl) .nl)) (.sq (some [1,6,7]) .nl (.sq (some [6,7]) (.sq none .nl (.bl (some [6,7]) (.lp [6,7,18,19,20] (.sq none .nl (.sq none (.cd .nl .nl) (.sq (some [6,7,18,19,20]) (.bl none (.sq none .nl (.sq (some [6,7,18,19,20]) .nl .nl))) .nl)))))) (.sq none .nl .nl))))) else
 bif Nat.beq g 41 then (.sq none .nl (.sq (some [3]) .nl (.sq none .nl .nl))) else
 bif Nat.beq g 24 then (.sq none .nl (.sq (some [0,1]) (.sq (some [0,1,19]) .nl (.cd (.sq none .nl .nl) .nl)) (.sq none .nl .nl))) else
 bif Nat.beq g 68 then (.sq none .nl (.sq none .nl .nl)) else
 bif Nat.beq g 17 then (.sq none .nl (.sq none .nl .nl)) else
 bif Nat.beq g 39 then (.sq none .nl (.sq (some [0]) (.sq none .nl (.bl (some [0]) (.lp [0,1,8,9] (.sq none .nl (.sq none (.cd .nl .nl) (.sq (some [0,1,8,9]) (.bl none (.sq none .nl .nl)) .nl)))))) (.sq none .nl .nl))) else
 bif Nat.beq g 84 then (.sq none .nl (.sq none .nl (.sq (some [3]) (.sq none .nl (.bl (some [3]) (.lp [3,6,7,8] (.sq none .nl (.sq none (.cd .nl .nl) (.sq (some [3,6,7,8]) (.bl none (.sq (some [3,4,5,6,7,8]) .nl .nl)) .nl)))))) (.sq none .nl .nl)))) else
 bif Nat.beq g 26 then (.sq none .nl (.sq (some [0,3]) (.sq none .nl (.cd (.sq none .nl .nl) .nl)) (.sq (some [0,3,6]) .nl (.sq (some [0,3,6,7]) .nl (.sq none .nl .nl))))) else
 bif Nat.beq g 67 then (.sq none .nl (.sq (some [0,2]) (.sq none .nl (.cd (.sq none .nl .nl) .nl)) (.sq (some [0,2,3]) .nl (.sq (some [0,2,3]) (.bl none (.sq none .nl (.cd (.sq none .nl .nl) (.sq (some [0,2,3,19]) .nl (.cd (.sq none .nl .nl) .nl))))) (.sq (some [0,2,3,5]) .nl (.sq (some [0,2,3]) (.sq (some [0,2,3,42]) .nl (.cd (.sq none .nl .nl) .nl)) (.sq none .nl .nl))))))) else
 bif Nat.beq g 59 then (.sq none .nl (.sq (some [0,1]) (.sq none .nl (.cd .nl .nl)) (.sq (some [0]) (.sq (some [0,1]) .nl (.sq none .nl (.cd .nl .nl))) (.sq none .nl .nl)))) else
 bif Nat.beq g 42 then (.sq none .nl (.sq none .nl (.sq (some [0,3]) (.sq none .nl (.bl (some [0,3]) (.lp [0,3,9,10,11] (.sq none .nl (.sq none (.cd .nl .nl) (.sq (some [0,3,9,10,11]) (.bl (some [0,3,9,10,11]) (.sq none .nl (.sq (some [0,3,9,10,11]) .nl (.sq none .nl (.cd .nl .nl))))) .nl)))))) (.sq none .nl (.sq (some [6]) (.sq none .nl (.bl (some [6]) (.lp [6,25,26,27] (.sq none .nl (.sq none (.cd .nl .nl) (.sq (some [6,25,26,27]) (.bl none (.sq none .nl .nl)) .nl)))))) (.sq none .nl .nl)))))) else
 bif Nat.beq g 52 then (.sq none .nl (.sq (some [6,7]) (.bl (some [6,7]) (.lp [0,1,2,6,7] (.sq none (.sq none .nl (.cd .nl .nl)) (.bl none (.sq (some [0,1,2,6,7,8,9,10]) .nl (.sq (some [0,1,6,7,8,9]) (.sq (some [0,1,6,7,8,9,38]) .nl (.cd .nl .nl)) (.sq (some [0,1,6,7,8,9]) .nl (.sq none .nl .nl)))))))) (.sq none .nl .nl))) else
 bif Nat.beq g 37 then (.sq none .nl (.sq none .nl (.sq (some [3]) (.sq none .nl (.bl (some [3]) (.lp [3,8,9,10] (.sq none .nl (.sq none (.cd .nl .nl) (.sq (some [3,8,9,10]) (.bl (some [3,8,9,10]) (.sq none .nl (.sq (some [3,6,7,8,9,10]) .nl (.sq none .nl (.cd .nl .nl))))) .nl)))))) (.sq none .nl (.sq none .nl .nl))))) else
 bif Nat.beq g 55 then (.sq none .nl (.sq (some [0]) (.sq none .nl (.cd (.sq none .nl .nl) .nl)) (.sq (some [0]) (.sq none .nl (.bl (some [0]) (.lp [0,3] (.sq none (.sq none .nl (.cd .nl .nl)) (.sq (some [0,3]) (.bl (some [0,3]) (.sq (some [0,3,25]) .nl (.cd (.sq none .nl (.sq (some [0,3]) (.sq none .nl (.bl (some [0,3]) (.lp [0,3,4,5] (.sq none (.sq none .nl (.cd .nl .nl)) (.sq (some [0,3,4,5]) (.bl (some [0,3,4,5]) (.sq (some [0,3,4,5,44]) .nl (.cd (.sq (some [0,3,4,5]) .nl .nl) .nl))) .nl))))) (.sq none .nl (.sq none .nl .nl)))) .nl))) .nl))))) (.sq none .nl .nl)))) else
 bif Nat.beq g 8 then (.sq none .nl (.sq (some [0,1,2]) (.sq (some [0,1,2,24]) .nl (.cd (.sq none .nl .nl) .nl)) (.sq (some [0,2,8,9]) .nl (.sq (some [0,8,9,10]) .nl (.sq (some [0,8,9,10,11,12]) .nl (.sq (some [0,8,10,11]) (.bl none (.sq none .nl (.cd (.sq none .nl .nl) (.sq none .nl (.cd (.sq none .nl .nl) .nl))))) (.sq (some [0,8,10,11,13]) .nl (.sq (some [0,8,10,11,13]) (.sq (some [0,8,10,11,13,70]) .nl (.cd (.sq (some [0,8,10,11,13,14]) .nl (.sq (some [0,8,10,11,13,14]) (.sq (some [0,8,10,11,13,14,15]) .nl (.sq none .nl (.cd (.sq none .nl .nl) .nl))) (.sq (some [0,8,10,11,13]) .nl .nl))) (.sq (some [0,8,10,11,13,16]) .nl (.sq none .nl (.cd (.sq none .nl .nl) .nl))))) (.sq (some [0,8,10]) .nl (.sq (some [8]) .nl (.sq none .nl .nl))))))))))) else
 bif Nat.beq g 11 then (.sq none .nl (.sq (some [0,1]) (.bl none (.sq (some [0,1,10]) .nl (.cd (.sq none .nl .nl) (.sq (some [0,1,15]) .nl (.cd (.sq none .nl .nl) (.sq (some [0,1,22]) .nl (.cd (.sq none .nl .nl) .nl))))))) (.sq (some []) (.sq (some [0,1,5]) .nl (.bl (some []) (.lp [0,1,5] (.sq (some [0,1,5]) (.sq (some [0,1,5,41]) .nl (.cd .nl .nl)) (.sq (some [0,1,5]) (.bl none (.sq (some [0,1,5,6]) .nl (.sq (some [0,1,5,6,7]) .nl (.sq (some [0,1,5,6,7,8]) .nl (.sq none .nl (.sq (some [0,1,5,6,7,8,9]) (.sq (some [0,1,5,6,7,8,65]) .nl (.cd .nl .nl)) (.sq none (.sq none .nl (.cd (.sq none .nl .nl) .nl)) (.sq (some [0,1,5,7,8]) .nl (.sq (some [0,1,5,7]) .nl (.sq (some [0,1,5]) (.sq (some [0,1,5,114]) .nl (.cd .nl .nl)) .nl)))))))))) .nl))))) (.sq none .nl .nl)))) else
 bif Nat.beq g 16 then (.sq none .nl (.sq none .nl .nl)) else
 bif Nat.beq g 22 then (.sq none .nl (.sq (some [0]) (.sq (some [0,8]) .nl (.cd (.sq none .nl .nl) .nl)) (.sq none .nl .nl))) else
 bif Nat.beq g 20 then (.sq none .nl (.sq none .nl .nl)) else
 bif Nat.beq g 10 then (.sq none .nl (.sq (some [0,1,4]) (.bl none (.sq (some [0,1,4,6]) .nl (.cd (.sq none .nl .nl) (.sq (some [0,1,4,14]) .nl (.cd (.sq none .nl .nl) .nl))))) (.sq none .nl .nl))) else
 bif Nat.beq g 9 then (.sq none .nl (.sq none .nl (.sq (some [7]) (.sq (some [0,1,2,7]) .nl (.bl (some [7]) (.lp [0,1,2,7] (.sq (some [0,1,2,7]) (.sq (some [0,1,2,7,23]) .nl (.cd .nl .nl)) (.sq (some [0,1,2,7]) (.bl none .nl) .nl))))) (.sq none .nl .nl)))) else
 bif Nat.beq g 12 then (.sq none .nl (.sq (some [0]) (.sq (some [0,10]) .nl (.cd (.sq none .nl .nl) .nl)) (.sq (some [0]) (.sq (some [0,14,15,16]) .nl (.bl (some [0]) (.lp [0,14,15,16] (.sq none .nl (.sq none (.cd .nl .nl) (.sq (some [0,14,15,16]) (.bl (some [0,14,15,16]) (.sq none .nl (.sq (some [0,4,14,15,16]) (.sq (some [0,4,14,15,16,29]) .nl (.cd .nl .nl)) (.sq (some [0,5,14,15,16]) .nl (.sq none .nl (.cd (.sq none .nl .nl) .nl)))))) .nl)))))) (.sq (some []) .nl (.sq none .nl .nl))))) else
 bif Nat.beq g 36 then (.sq none .nl (.sq (some [0,1]) (.sq none .nl (.cd .nl .nl)) (.sq (some []) (.sq none .nl (.bl (some []) (.lp [0,1,22,23,24] (.sq none .nl (.sq none (.cd .nl .nl) (.sq (some [0,1,22,23,24]) (.bl none (.sq (some [0,1,5,6,22,23,24]) .nl (.sq (some [0,1,5,6,22,23,24]) (.sq none .nl (.cd (.sq none .nl .nl) .nl)) (.sq none .nl (.sq (some [0,1,5,6,7,8,9,22,23,24]) .nl (.sq none (.sq none .nl (.cd (.sq none .nl .nl) .nl)) (.sq (some [0,1,5,7,8,10,11,22,23,24]) .nl (.sq none .nl (.sq (some [0,1,5,7,8,10,11,22,23,24]) .nl (.sq (some [0,1,5,7,8,11,22,23,24]) .nl (.sq none .nl (.cd (.sq (some [0,7,11]) (.sq (some [0,7,11,12]) .nl (.sq none .nl (.cd (.sq none .nl .nl) .nl))) (.sq none .nl .nl)) .nl)))))))))))) .nl)))))) (.sq none .nl .nl)))) else
 bif Nat.beq g 30 then (.sq none .nl (.sq none .nl (.sq (some [7]) (.sq (some [7,23,24,25]) .nl (.bl (some [7]) (.lp [7,23,24,25] (.sq none .nl (.sq none (.cd .nl .nl) (.sq (some [7,23,24,25]) (.bl none (.sq none .nl .nl)) .nl)))))) (.sq none .nl .nl)))) else
 bif Nat.beq g 28 then (.sq none .nl (.sq (some [3]) .nl (.sq none .nl .nl))) else
 bif Nat.beq g 47 then (.sq none .nl (.sq none .nl .nl)) else
 bif Nat.beq g 4 then (.sq none .nl (.sq none (.sq none .nl (.cd (.sq none .nl .nl) .nl)) (.sq (some [0,1,2]) (.sq (some [0,1,2,39]) .nl (.cd (.sq none .nl .nl) .nl)) (.sq (some [0,1,2,7,8]) .nl (.sq none (.sq none .nl (.cd (.sq none .nl .nl) .nl)) (.sq (some [0,1,2,7,8]) (.sq none .nl (.bl (some [0,1,2,7,8]) (.lp [0,1,2,7,8,9] (.sq none (.sq none .nl (.cd .nl .nl)) (.sq (some [0,1,2,7,8,9]) (.bl none (.sq (some [0,1,2,7,8,9,11]) .nl (.sq none .nl (.cd (.sq none .nl .nl) .nl)))) .nl))))) (.sq (some [0,1,2,7,8]) (.sq none .nl (.cd (.sq none .nl .nl) .nl)) (.sq (some [0,1,2,7,8]) (.sq none .nl (.bl (some [0,1,2,7,8]) (.lp [0,1,2,7,8,12] (.sq none (.sq none .nl (.cd .nl .nl)) (.sq (some [0,1,2,7,8,12]) (.bl none (.sq (some [0,1,2,7,8,12,14]) .nl (.sq none .nl (.cd (.sq none .nl .nl) .nl)))) .nl))))) (.sq none (.sq none .nl (.cd (.sq none .nl .nl) .nl)) (.sq none .nl (.sq none .nl (.sq (some [0,1,2,15,16]) .nl (.sq (some [0,1,2,15]) (.sq (some [0,1,2,15,122]) .nl (.cd (.sq none .nl .nl) .nl)) (.sq (some []) (.sq none .nl (.bl (some []) (.lp [0,1,2,15,17] (.sq none (.sq none .nl (.cd .nl .nl)) (.sq (some [0,1,2,15,17]) (.bl none (.sq (some [0,1,2,15,17,18,19]) .nl (.sq (some [0,1,2,15,17,182]) .nl (.cd (.sq none .nl .nl) .nl)))) .nl))))) (.sq none .nl .nl))))))))))))))) else
 bif Nat.beq g 5 then (.sq none .nl (.sq none (.sq none .nl (.cd (.sq none .nl .nl) .nl)) (.sq (some [0,1,2,3]) (.sq (some [0,1,2,3,35]) .nl (.cd (.sq none .nl .nl) .nl)) (.sq (some [0,1,2,3,9,10]) .nl (.sq none (.sq none .nl (.cd (.sq none .nl .nl) .nl)) (.sq none .nl (.sq none .nl (.sq none .nl (.sq (some [2,3,9,10,11,12]) (.sq none .nl (.bl (some [2,3,9,10,11,12]) (.lp [0,2,3,9,10,11,12,13] (.sq none (.sq none .nl (.cd .nl .nl)) (.sq (some [0,2,3,9,10,11,12,13]) (.bl (some [0,2,3,9,10,11,12,13]) (.sq (some [0,2,3,9,10,11,12,13]) (.sq (some [0,2,3,9,10,11,12,13,58]) .nl (.cd (.sq none .nl .nl) .nl)) (.sq (some [0,2,3,9,10,11,12,13,14,15]) .nl (.sq (some [0,2,3,9,10,11,12,13,14,15]) .nl (.sq none (.sq none .nl (.cd .nl .nl)) (.sq (some [0,2,3,9,10,11,12,13]) (.sq (some [0,2,3,9,10,11,12,13,89]) .nl (.cd (.sq none .nl .nl) .nl)) (.sq (some [0,2,3,9,10,11,12,13,95]) .nl (.cd (.sq none (.sq none .nl (.cd .nl .nl)) .nl) .nl)))))))) .nl))))) (.sq (some [2,10,11,12]) (.sq (some [2,3,9,10,11,12,113]) .nl (.cd (.sq none .nl (.sq none .nl (.cd .nl .nl))) .nl)) (.sq none .nl (.sq none .nl (.sq (some [11,12,16,17]) .nl (.sq (some [11,16]) (.sq (some [11,16,154]) .nl (.cd (.sq none .nl .nl) .nl)) (.sq none .nl .nl))))))))))))))) else
 bif Nat.beq g 3 then (.sq none .nl (.sq none (.sq none .nl (.cd (.sq none .nl .nl) .nl)) (.sq (some [0,1,2]) (.sq (some [0,1,2,30]) .nl (.cd (.sq none .nl .nl) .nl)) (.sq (some [0,1,2,7]) .nl (.sq none (.sq none .nl (.cd (.sq none .nl .nl) .nl)) (.sq (some [0,1,2,7]) (.sq none .nl (.bl (some [0,1,2,7]) (.lp [0,1,2,7,9] (.sq none (.sq none .nl (.cd .nl .nl)) (.sq (some [0,1,2,7,9]) (.bl none (.sq (some [0,1,2,7,9]) (.sq (some [0,1,2,7,9,48]) .nl (.cd (.sq none .nl .nl) .nl)) (.sq (some [0,1,2,7,9,11]) .nl (.sq none .nl (.cd (.sq none .nl .nl) .nl))))) .nl))))) (.sq (some [0,1,2,7,12]) .nl (.sq none .nl (.sq (some [0,2,7,12,13]) (.sq none .nl (.cd .nl .nl)) (.sq (some [0,2,7,12,13,14]) .nl (.sq (some [0,2,7,12,13,14]) (.sq none .nl (.cd .nl .nl)) (.sq (some [0,7,12,13,14]) (.sq none .nl (.cd .nl .nl)) (.sq (some [0,7,12,13]) (.sq none .nl (.cd (.sq none .nl .nl) .nl)) (.sq (some []) (.sq none .nl (.bl (some []) (.lp [0,7,12,13,15] (.sq none (.sq none .nl (.cd .nl .nl)) (.sq (some [0,7,12,13,15]) (.bl none (.sq (some [0,7,12,13,15,16,17]) .nl (.sq (some [0,7,12,13,15,131]) .nl (.cd (.sq none .nl .nl) .nl)))) .nl))))) (.sq none .nl .nl))))))))))))))) else
 bif Nat.beq g 21 then (.sq none .nl (.sq (some [0,1,2]) (.sq (some [0,1,2,23]) .nl (.cd (.sq none .nl .nl) .nl)) (.sq none .nl (.sq (some [0,1,2,7]) (.sq (some [0,1,2,7,30]) .nl (.cd (.sq none .nl .nl) .nl)) (.sq (some []) (.sq none .nl (.bl (some []) (.lp [0,1,2,7,8] (.sq none (.sq none .nl (.cd .nl .nl)) (.sq (some [0,1,2,7,8]) (.bl none (.sq (some [0,1,2,7,8,9,10]) .nl (.sq (some [0,1,2,7,8,90]) .nl (.cd (.sq none .nl .nl) .nl)))) .nl))))) (.sq none .nl .nl)))))) else
 bif Nat.beq g 7 then (.sq none .nl (.sq (some [0,4,5]) .nl (.sq (some [0,4]) (.sq (some [0,4,17]) .nl (.cd (.sq none .nl .nl) .nl)) (.sq (some [4,6,7]) .nl (.sq none (.sq none .nl (.cd (.sq none .nl .nl) .nl)) (.sq none .nl .nl)))))) else
 bif Nat.beq g 15 then (.sq none .nl (.sq (some [0,1]) (.sq (some [0,1,20]) .nl (.cd (.sq none .nl .nl) .nl)) (.sq none (.sq none .nl (.cd (.sq none .nl .nl) .nl)) (.sq (some [0,6]) .nl (.sq (some [0,6]) (.sq (some [0,6,7]) .nl (.sq none .nl (.cd (.sq none .nl .nl) .nl))) (.sq (some [6]) (.sq (some [0,6,38,39,40]) .nl (.bl (some [6]) (.lp [0,6,38,39,40] (.sq none .nl (.sq none (.cd .nl .nl) (.sq (some [0,6,38,39,40]) (.bl none (.sq none .nl (.sq (some [0,6,10,38,39,40]) .nl (.sq none .nl (.cd (.sq none .nl .nl) .nl))))) .nl)))))) (.sq (some [6]) .nl (.sq none .nl .nl)))))))) else
 bif Nat.beq g 29 then (.sq none .nl (.sq none .nl .nl)) else
 .nl
noncomputable abbrev cK:CF:=CK P (regK P) ext prim an
noncomputable def s_store_New (J:JT) (G:GT) (cf:CF) (a0:AV) (H:Hp):R:=
 J 1 (fun j0=>
 J 2 (fun j1=>
 B1 (ilt a0 (.int .i64 1)) fun v2=>
 G v2 false (fun k3=>
 k3 a0 H) (fun v4 h5=>
 G v2 false (fun k6=>
 B1 (igt v4 (.int .i64 16777216)) fun v7=>
 k6 v7 h5) (fun v8 h9=>
 B1 (pk v2 (.bool true) v8) fun v10=>
 j1 a0 v10 h9) h5) H) (fun x11 x12 h13=>
 CD x12 (
 some (.tuple [.ptr0,(.int .i64 1)],h13)) (
 j0 x11 h13))) (fun x14 h15=>
 BN (mk0 h15) fun i16 h17=>
 B1 (fl [(.int .i64 0),.map0,(.bool false),(.int .i64 0),.slice0] [(0,1,x14),(1,1,(.map i16))]) fun l18=>
 BN (bx 76 (.agg l18) h17) fun i19 h20=>
 some (.tuple [(.ptr i19 0),(.int .i64 0)],h20))
theorem c_store_New {a0:AV} {H:Hp} {r:AV × Hp} (h:s_store_New JN GO cK a0 H=some r):cK (.func (.func 23) [] []) [a0] H=some r:=callF_fix (first:=[]) (cap:=[]) (Eq.trans (by kernel_rfl) h)
noncomputable def s_store_name (J:JT) (G:GT) (cf:CF) (a0:AV) (H:Hp):R:=
 B1 (sne a0 (.str [])) fun v0=>
 G v0 true (fun k1=>
 k1 a0 H) (fun v2 h3=>
 G v0 true (fun k4=>
 B1 (lens v2) fun v5=>
 k4 v5 h3) (fun v6 h7=>
 G v0 true (fun k8=>
 B1 (ile v6 (.int .i64 16)) fun v9=>
 k8 v9 h7) (fun v10 h11=>
 B1 (pk v0 v10 (.bool false)) fun v12=>
 G v12 true (fun k13=>
 k13 a0 h11) (fun v14 h15=>
 G v12 true (fun k16=>
 B2 (cf (.func (.func 73) [] []) [v14,(.str [97,98,99,100,101,102,103,104,105,106,107,108,109,110,111,112,113,114,115,116,117,118,119,120,121,122,48,49,50,51,52,53,54,55,56,57,45])] h15) fun v17 h18=>
 k16 v17 h18) (fun v19 h20=>
 G v12 true (fun k21=>
 B1 (seq v19 (.str [])) fun v22=>
 k21 v22 h20) (fun v23 h24=>
 B1 (pk v12 v23 (.bool false)) fun v25=>
 some (v25,h24)) h20) h15) h11) h7) h3) H
theorem c_store_name {a0:AV} {H:Hp} {r:AV × Hp} (h:s_store_name JN GO cK a0 H=some r):cK (.func (.func 60) [] []) [a0] H=some r:=callF_fix (first:=[]) (cap:=[]) (Eq.trans (by kernel_rfl) h)
noncomputable def s_store_Store_of (J:JT) (G:GT) (cf:CF) (a0 a1:AV) (H:Hp):R:=
 J 3 (fun j0=>
 B1 (nilA a0) fun v1=>
 B1 (fa 1 v1) fun v2=>
 B1 (ld v2 H) fun v3=>
 B1 (lkp .str .ptr0 false v3 a1 H) fun v4=>
 j0 a0 a1 v4 H) (fun x5 x6 x7 h8=>
 J 1 (fun j9=>
 J 3 (fun j10=>
 B1 (nilA x5) fun v11=>
 B1 (fa 2 v11) fun v12=>
 B1 (ld v12 h8) fun v13=>
 j10 x6 x7 v13 h8) (fun x14 x15 x16 h17=>
 CD x16 (
 some (.tuple [.ptr0,(.int .i64 11)],h17)) (
 B2 (cf (.func (.func 60) [] []) [x14] h17) fun v18 h19=>
 B1 (unA .not v18) fun v20=>
 CD v20 (
 some (.tuple [.ptr0,(.int .i64 1)],h19)) (
 B1 (eqB .eql (pe x15 .ptr0 h19)) fun v21=>
 CD v21 (
 some (.tuple [.ptr0,(.int .i64 4)],h19)) (
 j9 x15 h19))))) (fun x22 h23=>
 some (.tuple [x22,(.int .i64 0)],h23)))
theorem c_store_Store_of {a0 a1:AV} {H:Hp} {r:AV × Hp} (h:s_store_Store_of JN GO cK a0 a1 H=some r):cK (.func (.func 43) [] []) [a0,a1] H=some r:=callF_fix (first:=[]) (cap:=[]) (Eq.trans (by kernel_rfl) h)
noncomputable def s_store_Store_burn (J:JT) (G:GT) (cf:CF) (a0:AV) (H:Hp):R:=
 J 1 (fun j0=>
 J 2 (fun j1=>
 B1 (nilA a0) fun v2=>
 B1 (fa 3 v2) fun v3=>
 B1 (ld v3 H) fun v4=>
 B1 (ieq v4 (.int .i64 0)) fun v5=>
 j1 a0 v5 H) (fun x6 x7 h8=>
 CD x7 (
 some ((.bool true),h8)) (
 j0 x6 h8))) (fun x9 h10=>
 J 1 (fun j11=>
 B1 (nilA x9) fun v12=>
 B1 (fa 3 v12) fun v13=>
 B1 (ld v13 h10) fun v14=>
 B1 (isub v14 (.int .i64 1)) fun v15=>
 B1 (nilA x9) fun v16=>
 B1 (fa 3 v16) fun v17=>
 B1 (st 1 v17 v15 h10) fun h18=>
 j11 x9 h18) (fun x19 h20=>
 J 1 (fun j21=>
 J 2 (fun j22=>
 B1 (nilA x19) fun v23=>
 B1 (fa 3 v23) fun v24=>
 B1 (ld v24 h20) fun v25=>
 B1 (igt v25 (.int .i64 0)) fun v26=>
 j22 x19 v26 h20) (fun x27 x28 h29=>
 CD x28 (
 some ((.bool true),h29)) (
 j21 x27 h29))) (fun x30 h31=>
 J 0 (fun j32=>
 B1 (nilA x30) fun v33=>
 B1 (fa 4 v33) fun v34=>
 B1 (ld v34 h31) fun v35=>
 B2 (cf (.func (.func 13) [] []) [x30,v35] h31) fun v36 h37=>
 j32  h37) (fun  h38=>
 some ((.bool false),h38)))))
theorem c_store_Store_burn {a0:AV} {H:Hp} {r:AV × Hp} (h:s_store_Store_burn JN GO cK a0 H=some r):cK (.func (.func 45) [] []) [a0] H=some r:=callF_fix (first:=[]) (cap:=[]) (Eq.trans (by kernel_rfl) h)
noncomputable def s_store_Store_Append (J:JT) (G:GT) (cf:CF) (a0 a1 a2:AV) (H:Hp):R:=
 J 5 (fun j0=>
 B2 (cf (.func (.func 43) [] []) [a0,a1] H) fun v1 h2=>
 B1 (ex 0 v1) fun v3=>
 B1 (ex 1 v1) fun v4=>
 j0 a0 a1 a2 v3 v4 h2) (fun x5 x6 x7 x8 x9 h10=>
 J 4 (fun j11=>
 J 6 (fun j12=>
 B1 (ine x9 (.int .i64 0)) fun v13=>
 G v13 true (fun k14=>
 k14 x9 h10) (fun v15 h16=>
 G v13 true (fun k17=>
 B1 (ine v15 (.int .i64 4)) fun v18=>
 k17 v18 h16) (fun v19 h20=>
 B1 (pk v13 v19 (.bool false)) fun v21=>
 j12 x5 x6 x7 x8 x9 v21 h20) h16) h10) (fun x22 x23 x24 x25 x26 x27 h28=>
 CD x27 (
 some (x26,h28)) (
 J 5 (fun j29=>
 B1 (lenx x24) fun v30=>
 B2 (cf (.func (.func 44) [] []) [x22] h28) fun v31 h32=>
 B1 (igt v30 v31) fun v33=>
 G v33 false (fun k34=>
 k34 x25 h32) (fun v35 h36=>
 G v33 false (fun k37=>
 B1 (eqB .eql (pe v35 .ptr0 h36)) fun v38=>
 k37 v38 h36) (fun v39 h40=>
 G v33 false (fun k41=>
 k41 v39 h40) (fun v42 h43=>
 G v42 true (fun k44=>
 k44 x22 h43) (fun v45 h46=>
 G v42 true (fun k47=>
 B1 (nilA v45) fun v48=>
 k47 v48 h46) (fun v49 h50=>
 G v42 true (fun k51=>
 B1 (fa 1 v49) fun v52=>
 k51 v52 h50) (fun v53 h54=>
 G v42 true (fun k55=>
 B1 (ld v53 h54) fun v56=>
 k55 v56 h54) (fun v57 h58=>
 G v42 true (fun k59=>
 B1 (lenm v57 h58) fun v60=>
 k59 v60 h58) (fun v61 h62=>
 G v42 true (fun k63=>
 B1 (ige v61 (.int .i64 64)) fun v64=>
 k63 v64 h62) (fun v65 h66=>
 G v33 false (fun k67=>
 B1 (pk v42 v65 (.bool false)) fun v68=>
 k67 v68 h66) (fun v69 h70=>
 B1 (pk v33 (.bool true) v69) fun v71=>
 j29 x22 x23 x24 x25 v71 h70) h66) h62) h58) h54) h50) h46) h43) h40) h36) h32) (fun x72 x73 x74 x75 x76 h77=>
 CD x76 (
 some ((.int .i64 6),h77)) (
 B2 (cf (.func (.func 45) [] []) [x72] h77) fun v78 h79=>
 B1 (unA .not v78) fun v80=>
 CD v80 (
 some ((.int .i64 11),h79)) (
 j11 x72 x73 x74 x75 h79)))))) (fun x81 x82 x83 x84 h85=>
 J 2 (fun j86=>
 B1 (eqB .eql (pe x84 .ptr0 h85)) fun v87=>
 CD v87 (
 B1 (fl [.slice0,(.int .i64 0)] []) fun l88=>
 BN (bx 81 (.agg l88) h85) fun i89 h90=>
 B1 (nilA x81) fun v91=>
 B1 (fa 1 v91) fun v92=>
 B1 (ld v92 h90) fun v93=>
 B1 (mup .str v93 x82 (.ptr i89 0) h90) fun h94=>
 j86 x83 (.ptr i89 0) h94) (
 j86 x83 x84 h85)) (fun x95 x96 h97=>
 J 0 (fun j98=>
 B1 (nilA x96) fun v99=>
 B1 (fa 0 v99) fun v100=>
 B1 (ld v100 h97) fun v101=>
 B2 (app' 5 1 [(.int .u8 0)] false v101 x95 h97) fun v102 h103=>
 B1 (nilA x96) fun v104=>
 B1 (fa 0 v104) fun v105=>
 B1 (st 1 v105 v102 h103) fun h106=>
 j98  h106) (fun  h107=>
 some ((.int .i64 0),h107)))))
theorem e_store_Store_Append (J:JT) (G:GT) (cf:CF) (a0 a1 a2:AV) (H:Hp):callF P J G prim an cf 27 [a0,a1,a2] H=s_store_Store_Append J G cf a0 a1 a2 H:=by kernel_rfl
theorem c_store_Store_Append {a0 a1 a2:AV} {H:Hp} {r:AV × Hp} (h:s_store_Store_Append JN GO cK a0 a1 a2 H=some r):cK (.func (.func 27) [] []) [a0,a1,a2] H=some r:=callF_fix (first:=[]) (cap:=[]) ((e_store_Store_Append JN GO _ a0 a1 a2 H).trans h)
noncomputable def s_store_Store_Sync (J:JT) (G:GT) (cf:CF) (a0 a1:AV) (H:Hp):R:=
 J 3 (fun j0=>
 B2 (cf (.func (.func 43) [] []) [a0,a1] H) fun v1 h2=>
 B1 (ex 0 v1) fun v3=>
 B1 (ex 1 v1) fun v4=>
 j0 a0 v3 v4 h2) (fun x5 x6 x7 h8=>
 J 1 (fun j9=>
 B1 (ine x7 (.int .i64 0)) fun v10=>
 CD v10 (
 some (x7,h8)) (
 B2 (cf (.func (.func 45) [] []) [x5] h8) fun v11 h12=>
 B1 (unA .not v11) fun v13=>
 CD v13 (
 some ((.int .i64 11),h12)) (
 j9 x6 h12))) (fun x14 h15=>
 J 0 (fun j16=>
 B1 (nilA x14) fun v17=>
 B1 (fa 0 v17) fun v18=>
 B1 (ld v18 h15) fun v19=>
 B1 (lenx v19) fun v20=>
 B1 (nilA x14) fun v21=>
 B1 (fa 1 v21) fun v22=>
 B1 (st 1 v22 v20 h15) fun h23=>
 j16  h23) (fun  h24=>
 some ((.int .i64 0),h24))))
theorem c_store_Store_Sync {a0 a1:AV} {H:Hp} {r:AV × Hp} (h:s_store_Store_Sync JN GO cK a0 a1 H=some r):cK (.func (.func 34) [] []) [a0,a1] H=some r:=callF_fix (first:=[]) (cap:=[]) (Eq.trans (by kernel_rfl) h)
noncomputable def s_store_Store_Cut (J:JT) (G:GT) (cf:CF) (a0 a1 a2:AV) (H:Hp):R:=
 J 4 (fun j0=>
 B2 (cf (.func (.func 43) [] []) [a0,a1] H) fun v1 h2=>
 B1 (ex 0 v1) fun v3=>
 B1 (ex 1 v1) fun v4=>
 j0 a0 a2 v3 v4 h2) (fun x5 x6 x7 x8 h9=>
 J 2 (fun j10=>
 B1 (ine x8 (.int .i64 0)) fun v11=>
 CD v11 (
 some (x8,h9)) (
 J 4 (fun j12=>
 B1 (ilt x6 (.int .i64 0)) fun v13=>
 G v13 false (fun k14=>
 k14 x6 h9) (fun v15 h16=>
 G v13 false (fun k17=>
 k17 x7 h16) (fun v18 h19=>
 G v13 false (fun k20=>
 B1 (nilA v18) fun v21=>
 k20 v21 h19) (fun v22 h23=>
 G v13 false (fun k24=>
 B1 (fa 0 v22) fun v25=>
 k24 v25 h23) (fun v26 h27=>
 G v13 false (fun k28=>
 B1 (ld v26 h27) fun v29=>
 k28 v29 h27) (fun v30 h31=>
 G v13 false (fun k32=>
 B1 (lenx v30) fun v33=>
 k32 v33 h31) (fun v34 h35=>
 G v13 false (fun k36=>
 B1 (igt v15 v34) fun v37=>
 k36 v37 h35) (fun v38 h39=>
 B1 (pk v13 (.bool true) v38) fun v40=>
 j12 x5 x6 x7 v40 h39) h35) h31) h27) h23) h19) h16) h9) (fun x41 x42 x43 x44 h45=>
 CD x44 (
 some ((.int .i64 1),h45)) (
 B2 (cf (.func (.func 45) [] []) [x41] h45) fun v46 h47=>
 B1 (unA .not v46) fun v48=>
 CD v48 (
 some ((.int .i64 11),h47)) (
 j10 x42 x43 h47))))) (fun x49 x50 h51=>
 J 2 (fun j52=>
 B1 (nilA x50) fun v53=>
 B1 (fa 0 v53) fun v54=>
 B1 (ld v54 h51) fun v55=>
 B1 (sll 1 v55 none (some x49) none) fun v56=>
 B1 (nilA x50) fun v57=>
 B1 (fa 0 v57) fun v58=>
 B1 (st 1 v58 v56 h51) fun h59=>
 j52 x49 x50 h59) (fun x60 x61 h62=>
 J 0 (fun j63=>
 B1 (nilA x61) fun v64=>
 B1 (fa 1 v64) fun v65=>
 B1 (ld v65 h62) fun v66=>
 B2 (builtinA P .min #[3,3] [v66,x60] h62) fun v67 h68=>
 B1 (nilA x61) fun v69=>
 B1 (fa 1 v69) fun v70=>
 B1 (st 1 v70 v67 h68) fun h71=>
 j63  h71) (fun  h72=>
 some ((.int .i64 0),h72)))))
theorem e_store_Store_Cut (J:JT) (G:GT) (cf:CF) (a0 a1 a2:AV) (H:Hp):callF P J G prim an cf 31 [a0,a1,a2] H=s_store_Store_Cut J G cf a0 a1 a2 H:=by kernel_rfl
theorem c_store_Store_Cut {a0 a1 a2:AV} {H:Hp} {r:AV × Hp} (h:s_store_Store_Cut JN GO cK a0 a1 a2 H=some r):cK (.func (.func 31) [] []) [a0,a1,a2] H=some r:=callF_fix (first:=[]) (cap:=[]) ((e_store_Store_Cut JN GO _ a0 a1 a2 H).trans h)
noncomputable def s_store_Store_Drop (J:JT) (G:GT) (cf:CF) (a0 a1:AV) (H:Hp):R:=
 J 3 (fun j0=>
 B2 (cf (.func (.func 43) [] []) [a0,a1] H) fun v1 h2=>
 B1 (ex 0 v1) fun v3=>
 B1 (ex 1 v1) fun v4=>
 j0 a0 a1 v4 h2) (fun x5 x6 x7 h8=>
 J 2 (fun j9=>
 B1 (ine x7 (.int .i64 0)) fun v10=>
 CD v10 (
 some (x7,h8)) (
 B2 (cf (.func (.func 45) [] []) [x5] h8) fun v11 h12=>
 B1 (unA .not v11) fun v13=>
 CD v13 (
 some ((.int .i64 11),h12)) (
 j9 x5 x6 h12))) (fun x14 x15 h16=>
 J 0 (fun j17=>
 B1 (nilA x14) fun v18=>
 B1 (fa 1 v18) fun v19=>
 B1 (ld v19 h16) fun v20=>
 B1 (mdel .str v20 x15 h16) fun h21=>
 j17  h21) (fun  h22=>
 some ((.int .i64 0),h22))))
theorem c_store_Store_Drop {a0 a1:AV} {H:Hp} {r:AV × Hp} (h:s_store_Store_Drop JN GO cK a0 a1 H=some r):cK (.func (.func 32) [] []) [a0,a1] H=some r:=callF_fix (first:=[]) (cap:=[]) (Eq.trans (by kernel_rfl) h)
noncomputable def s_store_Store_Read (J:JT) (G:GT) (cf:CF) (a0 a1:AV) (H:Hp):R:=
 J 2 (fun j0=>
 B2 (cf (.func (.func 43) [] []) [a0,a1] H) fun v1 h2=>
 B1 (ex 0 v1) fun v3=>
 B1 (ex 1 v1) fun v4=>
 j0 v3 v4 h2) (fun x5 x6 h7=>
 J 1 (fun j8=>
 B1 (ine x6 (.int .i64 0)) fun v9=>
 CD v9 (
 some (.tuple [.slice0,x6],h7)) (
 j8 x5 h7)) (fun x10 h11=>
 B1 (nilA x10) fun v12=>
 B1 (fa 0 v12) fun v13=>
 B1 (ld v13 h11) fun v14=>
 B2 (cf (.func (.func 25) [] []) [v14] h11) fun v15 h16=>
 some (.tuple [v15,(.int .i64 0)],h16)))
theorem c_store_Store_Read {a0 a1:AV} {H:Hp} {r:AV × Hp} (h:s_store_Store_Read JN GO cK a0 a1 H=some r):cK (.func (.func 51) [] []) [a0,a1] H=some r:=callF_fix (first:=[]) (cap:=[]) (Eq.trans (by kernel_rfl) h)
noncomputable def s_store_Store_Sure (J:JT) (G:GT) (cf:CF) (a0 a1:AV) (H:Hp):R:=
 J 0 (fun j0=>
 J 1 (fun j1=>
 B1 (nilA a0) fun v2=>
 B1 (fa 1 v2) fun v3=>
 B1 (ld v3 H) fun v4=>
 B1 (lkp .str .ptr0 false v4 a1 H) fun v5=>
 j1 v5 H) (fun x6 h7=>
 B1 (eqB .neq (pe x6 .ptr0 h7)) fun v8=>
 CD v8 (
 B1 (nilA x6) fun v9=>
 B1 (fa 1 v9) fun v10=>
 B1 (ld v10 h7) fun v11=>
 some (v11,h7)) (
 j0  h7))) (fun  h12=>
 some ((.int .i64 0),h12))
theorem c_store_Store_Sure {a0 a1:AV} {H:Hp} {r:AV × Hp} (h:s_store_Store_Sure JN GO cK a0 a1 H=some r):cK (.func (.func 33) [] []) [a0,a1] H=some r:=callF_fix (first:=[]) (cap:=[]) (Eq.trans (by kernel_rfl) h)
noncomputable def l_store_Store_Crash (J:JT) (G:GT) (cf:CF) (j7:K.Fn 1):K.Fn 5:=LP 5 fun j8=>fun x9 x10 x11 x12 x13 h14=>
 B1 (ilt x13 x12) fun v15=>
 CD v15 (
 J 5 (fun j16=>
 J 5 (fun j17=>
 B1 (ia 1 x11 x13) fun v18=>
 B1 (ld v18 h14) fun v19=>
 J 6 (fun j20=>
 B1 (nilA x9) fun v21=>
 B1 (fa 1 v21) fun v22=>
 B1 (ld v22 h14) fun v23=>
 B1 (lkp .str .ptr0 false v23 v19 h14) fun v24=>
 j20 x9 x10 v24 x11 x12 x13 h14) (fun x25 x26 x27 x28 x29 x30 h31=>
 J 7 (fun j32=>
 B1 (nilA x27) fun v33=>
 B1 (fa 0 v33) fun v34=>
 B1 (ld v34 h31) fun v35=>
 B1 (lenx v35) fun v36=>
 B1 (nilA x27) fun v37=>
 B1 (fa 1 v37) fun v38=>
 B1 (ld v38 h31) fun v39=>
 B1 (isub v36 v39) fun v40=>
 j32 x25 x26 x27 v40 x28 x29 x30 h31) (fun x41 x42 x43 x44 x45 x46 x47 h48=>
 B1 (ieq x44 (.int .i64 0)) fun v49=>
 CD v49 (
 j17 x41 x42 x45 x46 x47 h48) (
 J 7 (fun j50=>
 B1 (lenx x42) fun v51=>
 B1 (igt v51 (.int .i64 0)) fun v52=>
 CD v52 (
 J 7 (fun j53=>
 B1 (ia 1 x42 (.int .i64 0)) fun v54=>
 B1 (ld v54 h48) fun v55=>
 B2 (builtinA P .max #[3,3] [v55,(.int .i64 0)] h48) fun v56 h57=>
 B2 (builtinA P .min #[3,3] [v56,x44] h57) fun v58 h59=>
 j53 x41 x42 x43 v58 x45 x46 x47 h59) (fun x60 x61 x62 x63 x64 x65 x66 h67=>
 B1 (sll 1 x61 (some (.int .i64 1)) none none) fun v68=>
 j50 x60 v68 x62 x63 x64 x65 x66 h67)) (
 j50 x41 x42 x43 (.int .i64 0) x45 x46 x47 h48)) (fun x69 x70 x71 x72 x73 x74 x75 h76=>
 J 6 (fun j77=>
 B1 (nilA x71) fun v78=>
 B1 (fa 0 v78) fun v79=>
 B1 (ld v79 h76) fun v80=>
 B1 (nilA x71) fun v81=>
 B1 (fa 1 v81) fun v82=>
 B1 (ld v82 h76) fun v83=>
 B1 (iadd v83 x72) fun v84=>
 B1 (sll 1 v80 none (some v84) none) fun v85=>
 B1 (nilA x71) fun v86=>
 B1 (fa 0 v86) fun v87=>
 B1 (st 1 v87 v85 h76) fun h88=>
 j77 x69 x70 x71 x73 x74 x75 h88) (fun x89 x90 x91 x92 x93 x94 h95=>
 B1 (nilA x91) fun v96=>
 B1 (fa 0 v96) fun v97=>
 B1 (ld v97 h95) fun v98=>
 B1 (lenx v98) fun v99=>
 B1 (nilA x91) fun v100=>
 B1 (fa 1 v100) fun v101=>
 B1 (st 1 v101 v99 h95) fun h102=>
 j17 x89 x90 x92 x93 x94 h102)))))) (fun x103 x104 x105 x106 x107 h108=>
 j16 x103 x104 x105 x106 x107 h108)) (fun x109 x110 x111 x112 x113 h114=>
 B1 (iadd x113 (.int .i64 1)) fun v115=>
 j8 x109 x110 x111 x112 v115 h114)) (
 j7 x9 h14)
theorem rl_store_Store_Crash (J:JT) (G:GT) (cf:CF) (j7:K.Fn 1) (j8:K.Fn 5) (x9 x10 x11 x12 x13:AV) (h14:Hp):codeF P J G cf (nT P 13) (atC P 13 [1,0,1,0,0]) (.sq none .nl (.sq none (.cd .nl .nl) (.sq (some [0,1,14,15,16]) (.bl (some [0,1,14,15,16]) (.sq none .nl (.sq (some [0,1,6,14,15,16]) .nl (.sq (some [0,1,6,7,14,15,16]) .nl (.sq none (.sq none .nl (.cd .nl .nl)) (.sq none .nl (.sq (some [0,1,6,8,14,15,16]) (.sq none .nl (.cd (.sq (some [0,1,6,8,14,15,16]) .nl .nl) .nl)) (.sq (some [0,1,6,14,15,16]) .nl .nl)))))))) .nl))) (fun t H=>app 5 j8 (vals [0,1,14,15,16] t) H) (fun q t H=>match Nat.beq q 0 with | true=>app 1 j7 (vals [0] t) H | false=>(fun _ _ _=>none) q t H) (retK P 13) (mkT (nT P 13) [0,1,14,15,16] [x9,x10,x11,x12,x13]) h14=
(B1 (ilt x13 x12) fun v15=>
 CD v15 (
 J 5 (fun j16=>
 J 5 (fun j17=>
 B1 (ia 1 x11 x13) fun v18=>
 B1 (ld v18 h14) fun v19=>
 J 6 (fun j20=>
 B1 (nilA x9) fun v21=>
 B1 (fa 1 v21) fun v22=>
 B1 (ld v22 h14) fun v23=>
 B1 (lkp .str .ptr0 false v23 v19 h14) fun v24=>
 j20 x9 x10 v24 x11 x12 x13 h14) (fun x25 x26 x27 x28 x29 x30 h31=>
 J 7 (fun j32=>
 B1 (nilA x27) fun v33=>
 B1 (fa 0 v33) fun v34=>
 B1 (ld v34 h31) fun v35=>
 B1 (lenx v35) fun v36=>
 B1 (nilA x27) fun v37=>
 B1 (fa 1 v37) fun v38=>
 B1 (ld v38 h31) fun v39=>
 B1 (isub v36 v39) fun v40=>
 j32 x25 x26 x27 v40 x28 x29 x30 h31) (fun x41 x42 x43 x44 x45 x46 x47 h48=>
 B1 (ieq x44 (.int .i64 0)) fun v49=>
 CD v49 (
 j17 x41 x42 x45 x46 x47 h48) (
 J 7 (fun j50=>
 B1 (lenx x42) fun v51=>
 B1 (igt v51 (.int .i64 0)) fun v52=>
 CD v52 (
 J 7 (fun j53=>
 B1 (ia 1 x42 (.int .i64 0)) fun v54=>
 B1 (ld v54 h48) fun v55=>
 B2 (builtinA P .max #[3,3] [v55,(.int .i64 0)] h48) fun v56 h57=>
 B2 (builtinA P .min #[3,3] [v56,x44] h57) fun v58 h59=>
 j53 x41 x42 x43 v58 x45 x46 x47 h59) (fun x60 x61 x62 x63 x64 x65 x66 h67=>
 B1 (sll 1 x61 (some (.int .i64 1)) none none) fun v68=>
 j50 x60 v68 x62 x63 x64 x65 x66 h67)) (
 j50 x41 x42 x43 (.int .i64 0) x45 x46 x47 h48)) (fun x69 x70 x71 x72 x73 x74 x75 h76=>
 J 6 (fun j77=>
 B1 (nilA x71) fun v78=>
 B1 (fa 0 v78) fun v79=>
 B1 (ld v79 h76) fun v80=>
 B1 (nilA x71) fun v81=>
 B1 (fa 1 v81) fun v82=>
 B1 (ld v82 h76) fun v83=>
 B1 (iadd v83 x72) fun v84=>
 B1 (sll 1 v80 none (some v84) none) fun v85=>
 B1 (nilA x71) fun v86=>
 B1 (fa 0 v86) fun v87=>
 B1 (st 1 v87 v85 h76) fun h88=>
 j77 x69 x70 x71 x73 x74 x75 h88) (fun x89 x90 x91 x92 x93 x94 h95=>
 B1 (nilA x91) fun v96=>
 B1 (fa 0 v96) fun v97=>
 B1 (ld v97 h95) fun v98=>
 B1 (lenx v98) fun v99=>
 B1 (nilA x91) fun v100=>
 B1 (fa 1 v100) fun v101=>
 B1 (st 1 v101 v99 h95) fun h102=>
 j17 x89 x90 x92 x93 x94 h102)))))) (fun x103 x104 x105 x106 x107 h108=>
 j16 x103 x104 x105 x106 x107 h108)) (fun x109 x110 x111 x112 x113 h114=>
 B1 (iadd x113 (.int .i64 1)) fun v115=>
 j8 x109 x110 x111 x112 v115 h114)) (
 j7 x9 h14)):=by kernel_rfl
theorem dl_store_Store_Crash (J:JT) (G:GT) (cf:CF) (j7:K.Fn 1):l_store_Store_Crash J G cf j7=loopF P J G cf (nT P 13) (atC P 13 [1,0,1,0,0]) (.sq none .nl (.sq none (.cd .nl .nl) (.sq (some [0,1,14,15,16]) (.bl (some [0,1,14,15,16]) (.sq none .nl (.sq (some [0,1,6,14,15,16]) .nl (.sq (some [0,1,6,7,14,15,16]) .nl (.sq none (.sq none .nl (.cd .nl .nl)) (.sq none .nl (.sq (some [0,1,6,8,14,15,16]) (.sq none .nl (.cd (.sq (some [0,1,6,8,14,15,16]) .nl .nl) .nl)) (.sq (some [0,1,6,14,15,16]) .nl .nl)))))))) .nl))) [0,1,14,15,16] (fun q t H=>match Nat.beq q 0 with | true=>app 1 j7 (vals [0] t) H | false=>(fun _ _ _=>none) q t H) (retK P 13):=by
 unfold l_store_Store_Crash loopF
 refine congrArg (LP 5) ?_
 funext j8 x9 x10 x11 x12 x13 h14
 exact (rl_store_Store_Crash J G cf j7 j8 x9 x10 x11 x12 x13 h14).symm
theorem ql_store_Store_Crash (cf:CF) (j7:K.Fn 1) (x9 x10 x11 x12 x13:AV) (h14:Hp):l_store_Store_Crash JN GO cf j7 x9 x10 x11 x12 x13 h14=
 B1 (ilt x13 x12) fun v15=>
 CD v15 (
 JN 5 (fun j16=>
 JN 5 (fun j17=>
 B1 (ia 1 x11 x13) fun v18=>
 B1 (ld v18 h14) fun v19=>
 JN 6 (fun j20=>
 B1 (nilA x9) fun v21=>
 B1 (fa 1 v21) fun v22=>
 B1 (ld v22 h14) fun v23=>
 B1 (lkp .str .ptr0 false v23 v19 h14) fun v24=>
 j20 x9 x10 v24 x11 x12 x13 h14) (fun x25 x26 x27 x28 x29 x30 h31=>
 JN 7 (fun j32=>
 B1 (nilA x27) fun v33=>
 B1 (fa 0 v33) fun v34=>
 B1 (ld v34 h31) fun v35=>
 B1 (lenx v35) fun v36=>
 B1 (nilA x27) fun v37=>
 B1 (fa 1 v37) fun v38=>
 B1 (ld v38 h31) fun v39=>
 B1 (isub v36 v39) fun v40=>
 j32 x25 x26 x27 v40 x28 x29 x30 h31) (fun x41 x42 x43 x44 x45 x46 x47 h48=>
 B1 (ieq x44 (.int .i64 0)) fun v49=>
 CD v49 (
 j17 x41 x42 x45 x46 x47 h48) (
 JN 7 (fun j50=>
 B1 (lenx x42) fun v51=>
 B1 (igt v51 (.int .i64 0)) fun v52=>
 CD v52 (
 JN 7 (fun j53=>
 B1 (ia 1 x42 (.int .i64 0)) fun v54=>
 B1 (ld v54 h48) fun v55=>
 B2 (builtinA P .max #[3,3] [v55,(.int .i64 0)] h48) fun v56 h57=>
 B2 (builtinA P .min #[3,3] [v56,x44] h57) fun v58 h59=>
 j53 x41 x42 x43 v58 x45 x46 x47 h59) (fun x60 x61 x62 x63 x64 x65 x66 h67=>
 B1 (sll 1 x61 (some (.int .i64 1)) none none) fun v68=>
 j50 x60 v68 x62 x63 x64 x65 x66 h67)) (
 j50 x41 x42 x43 (.int .i64 0) x45 x46 x47 h48)) (fun x69 x70 x71 x72 x73 x74 x75 h76=>
 JN 6 (fun j77=>
 B1 (nilA x71) fun v78=>
 B1 (fa 0 v78) fun v79=>
 B1 (ld v79 h76) fun v80=>
 B1 (nilA x71) fun v81=>
 B1 (fa 1 v81) fun v82=>
 B1 (ld v82 h76) fun v83=>
 B1 (iadd v83 x72) fun v84=>
 B1 (sll 1 v80 none (some v84) none) fun v85=>
 B1 (nilA x71) fun v86=>
 B1 (fa 0 v86) fun v87=>
 B1 (st 1 v87 v85 h76) fun h88=>
 j77 x69 x70 x71 x73 x74 x75 h88) (fun x89 x90 x91 x92 x93 x94 h95=>
 B1 (nilA x91) fun v96=>
 B1 (fa 0 v96) fun v97=>
 B1 (ld v97 h95) fun v98=>
 B1 (lenx v98) fun v99=>
 B1 (nilA x91) fun v100=>
 B1 (fa 1 v100) fun v101=>
 B1 (st 1 v101 v99 h95) fun h102=>
 j17 x89 x90 x92 x93 x94 h102)))))) (fun x103 x104 x105 x106 x107 h108=>
 j16 x103 x104 x105 x106 x107 h108)) (fun x109 x110 x111 x112 x113 h114=>
 B1 (iadd x113 (.int .i64 1)) fun v115=>
 l_store_Store_Crash JN GO cf j7 x109 x110 x111 x112 v115 h114)) (
 j7 x9 h14):=by
 have h1:l_store_Store_Crash JN GO cf j7 x9 x10 x11 x12 x13 h14=app 5 (loopF P JN GO cf (nT P 13) (atC P 13 [1,0,1,0,0]) (.sq none .nl (.sq none (.cd .nl .nl) (.sq (some [0,1,14,15,16]) (.bl (some [0,1,14,15,16]) (.sq none .nl (.sq (some [0,1,6,14,15,16]) .nl (.sq (some [0,1,6,7,14,15,16]) .nl (.sq none (.sq none .nl (.cd .nl .nl)) (.sq none .nl (.sq (some [0,1,6,8,14,15,16]) (.sq none .nl (.cd (.sq (some [0,1,6,8,14,15,16]) .nl .nl) .nl)) (.sq (some [0,1,6,14,15,16]) .nl .nl)))))))) .nl))) [0,1,14,15,16] (fun q t H=>match Nat.beq q 0 with | true=>app 1 j7 (vals [0] t) H | false=>(fun _ _ _=>none) q t H) (retK P 13)) [x9,x10,x11,x12,x13] h14:=by rw [dl_store_Store_Crash]; kernel_rfl
 refine h1.trans ((loopF_eq (P:=P) cf (nT P 13) (atC P 13 [1,0,1,0,0]) (.sq none .nl (.sq none (.cd .nl .nl) (.sq (some [0,1,14,15,16]) (.bl (some [0,1,14,15,16]) (.sq none .nl (.sq (some [0,1,6,14,15,16]) .nl (.sq (some [0,1,6,7,14,15,16]) .nl (.sq none (.sq none .nl (.cd .nl .nl)) (.sq none .nl (.sq (some [0,1,6,8,14,15,16]) (.sq none .nl (.cd (.sq (some [0,1,6,8,14,15,16]) .nl .nl) .nl)) (.sq (some [0,1,6,14,15,16]) .nl .nl)))))))) .nl))) [0,1,14,15,16] (fun q t H=>match Nat.beq q 0 with | true=>app 1 j7 (vals [0] t) H | false=>(fun _ _ _=>none) q t H) (retK P 13) [x9,x10,x11,x12,x13] rfl h14).trans ((rl_store_Store_Crash JN GO cf j7 _ x9 x10 x11 x12 x13 h14).trans ?_))
 rw [dl_store_Store_Crash]
noncomputable def s_store_Store_Crash (J:JT) (G:GT) (cf:CF) (a0 a1:AV) (H:Hp):R:=
 B1 (nilA a0) fun v0=>
 B1 (fa 2 v0) fun v1=>
 B1 (ld v1 H) fun v2=>
 CD v2 (
 some (.tuple [],H)) (
 J 1 (fun j3=>
 B2 (cf (.func (.func 35) [] []) [a0] H) fun v4 h5=>
 B1 (lenx v4) fun v6=>
 J 1 (fun j7=>
 l_store_Store_Crash J G cf j7 a0 a1 v4 v6 (.int .i64 0) h5) (fun x116 h117=>
 j3 x116 h117)) (fun x118 h119=>
 B1 (nilA x118) fun v120=>
 B1 (fa 2 v120) fun v121=>
 B1 (st 1 v121 (.bool true) h119) fun h122=>
 B1 (nilA x118) fun v123=>
 B1 (fa 3 v123) fun v124=>
 B1 (st 1 v124 (.int .i64 0) h122) fun h125=>
 some (.tuple [],h125)))
theorem c_store_Store_Crash {a0 a1:AV} {H:Hp} {r:AV × Hp} (h:s_store_Store_Crash JN GO cK a0 a1 H=some r):cK (.func (.func 13) [] []) [a0,a1] H=some r:=callF_fix (first:=[]) (cap:=[]) (Eq.trans (by kernel_rfl) h)
noncomputable def s_store_Store_On (J:JT) (G:GT) (cf:CF) (a0:AV) (H:Hp):R:=
 B1 (nilA a0) fun v0=>
 B1 (fa 2 v0) fun v1=>
 B1 (st 1 v1 (.bool false) H) fun h2=>
 some (.tuple [],h2)
theorem c_store_Store_On {a0:AV} {H:Hp} {r:AV × Hp} (h:s_store_Store_On JN GO cK a0 H=some r):cK (.func (.func 14) [] []) [a0] H=some r:=callF_fix (first:=[]) (cap:=[]) (Eq.trans (by kernel_rfl) h)
noncomputable def s_store_Store_Off (J:JT) (G:GT) (cf:CF) (a0:AV) (H:Hp):R:=
 B1 (nilA a0) fun v0=>
 B1 (fa 2 v0) fun v1=>
 B1 (ld v1 H) fun v2=>
 some (v2,H)
theorem c_store_Store_Off {a0:AV} {H:Hp} {r:AV × Hp} (h:s_store_Store_Off JN GO cK a0 H=some r):cK (.func (.func 19) [] []) [a0] H=some r:=callF_fix (first:=[]) (cap:=[]) (Eq.trans (by kernel_rfl) h)
noncomputable def s_sum_parts (J:JT) (G:GT) (cf:CF) (a0:AV) (H:Hp):R:=
 B1 (iand a0 (.int .u32 65535)) fun v0=>
 B1 (cv .i64 v0) fun v1=>
 B1 (ishr a0 (.int .u64 16)) fun v2=>
 B1 (cv .i64 v2) fun v3=>
 some (.tuple [v1,v3],H)
theorem c_sum_parts {a0:AV} {H:Hp} {r:AV × Hp} (h:s_sum_parts JN GO cK a0 H=some r):cK (.func (.func 57) [] []) [a0] H=some r:=callF_fix (first:=[]) (cap:=[]) (Eq.trans (by kernel_rfl) h)
noncomputable def s_sum_made (J:JT) (G:GT) (cf:CF) (a0 a1:AV) (H:Hp):R:=
 B1 (irem a1 (.int .i64 65521)) fun v0=>
 B1 (iadd v0 (.int .i64 65521)) fun v1=>
 B1 (irem v1 (.int .i64 65521)) fun v2=>
 B1 (cv .u32 v2) fun v3=>
 B1 (ishl v3 (.int .u64 16)) fun v4=>
 B1 (irem a0 (.int .i64 65521)) fun v5=>
 B1 (iadd v5 (.int .i64 65521)) fun v6=>
 B1 (irem v6 (.int .i64 65521)) fun v7=>
 B1 (cv .u32 v7) fun v8=>
 B1 (ior v4 v8) fun v9=>
 some (v9,H)
theorem c_sum_made {a0 a1:AV} {H:Hp} {r:AV × Hp} (h:s_sum_made JN GO cK a0 a1 H=some r):cK (.func (.func 58) [] []) [a0,a1] H=some r:=callF_fix (first:=[]) (cap:=[]) (Eq.trans (by kernel_rfl) h)
noncomputable def s_sum_Good (J:JT) (G:GT) (cf:CF) (a0:AV) (H:Hp):R:=
 J 2 (fun j0=>
 B2 (cf (.func (.func 57) [] []) [a0] H) fun v1 h2=>
 B1 (ex 0 v1) fun v3=>
 B1 (ex 1 v1) fun v4=>
 j0 v3 v4 h2) (fun x5 x6 h7=>
 B1 (ilt x5 (.int .i64 65521)) fun v8=>
 G v8 true (fun k9=>
 k9 x6 h7) (fun v10 h11=>
 G v8 true (fun k12=>
 B1 (ilt v10 (.int .i64 65521)) fun v13=>
 k12 v13 h11) (fun v14 h15=>
 B1 (pk v8 v14 (.bool false)) fun v16=>
 some (v16,h15)) h11) h7)
theorem c_sum_Good {a0:AV} {H:Hp} {r:AV × Hp} (h:s_sum_Good JN GO cK a0 H=some r):cK (.func (.func 56) [] []) [a0] H=some r:=callF_fix (first:=[]) (cap:=[]) (Eq.trans (by kernel_rfl) h)
noncomputable def l_sum_On (J:JT) (G:GT) (cf:CF) (j18:K.Fn 2):K.Fn 5:=LP 5 fun j19=>fun x20 x21 x22 x23 x24 h25=>
 B1 (ilt x24 x23) fun v26=>
 CD v26 (
 J 5 (fun j27=>
 B1 (ia 1 x22 x24) fun v28=>
 B1 (ld v28 h25) fun v29=>
 J 5 (fun j30=>
 B1 (cv .i64 v29) fun v31=>
 B1 (iadd x20 v31) fun v32=>
 B1 (irem v32 (.int .i64 65521)) fun v33=>
 j30 v33 x21 x22 x23 x24 h25) (fun x34 x35 x36 x37 x38 h39=>
 B1 (iadd x35 x34) fun v40=>
 B1 (irem v40 (.int .i64 65521)) fun v41=>
 j27 x34 v41 x36 x37 x38 h39)) (fun x42 x43 x44 x45 x46 h47=>
 B1 (iadd x46 (.int .i64 1)) fun v48=>
 j19 x42 x43 x44 x45 v48 h47)) (
 j18 x20 x21 h25)
theorem rl_sum_On (J:JT) (G:GT) (cf:CF) (j18:K.Fn 2) (j19:K.Fn 5) (x20 x21 x22 x23 x24:AV) (h25:Hp):codeF P J G cf (nT P 40) (atC P 40 [1,1,1,0,1,0,0]) (.sq none .nl (.sq none (.cd .nl .nl) (.sq (some [6,7,18,19,20]) (.bl none (.sq none .nl (.sq (some [6,7,18,19,20]) .nl .nl))) .nl))) (fun t H=>app 5 j19 (vals [6,7,18,19,20] t) H) (fun q t H=>match Nat.beq q 0 with | true=>app 2 j18 (vals [6,7] t) H | false=>(fun _ _ _=>none) q t H) (retK P 40) (mkT (nT P 40) [6,7,18,19,20] [x20,x21,x22,x23,x24]) h25=
(B1 (ilt x24 x23) fun v26=>
 CD v26 (
 J 5 (fun j27=>
 B1 (ia 1 x22 x24) fun v28=>
 B1 (ld v28 h25) fun v29=>
 J 5 (fun j30=>
 B1 (cv .i64 v29) fun v31=>
 B1 (iadd x20 v31) fun v32=>
 B1 (irem v32 (.int .i64 65521)) fun v33=>
 j30 v33 x21 x22 x23 x24 h25) (fun x34 x35 x36 x37 x38 h39=>
 B1 (iadd x35 x34) fun v40=>
 B1 (irem v40 (.int .i64 65521)) fun v41=>
 j27 x34 v41 x36 x37 x38 h39)) (fun x42 x43 x44 x45 x46 h47=>
 B1 (iadd x46 (.int .i64 1)) fun v48=>
 j19 x42 x43 x44 x45 v48 h47)) (
 j18 x20 x21 h25)):=by kernel_rfl
theorem dl_sum_On (J:JT) (G:GT) (cf:CF) (j18:K.Fn 2):l_sum_On J G cf j18=loopF P J G cf (nT P 40) (atC P 40 [1,1,1,0,1,0,0]) (.sq none .nl (.sq none (.cd .nl .nl) (.sq (some [6,7,18,19,20]) (.bl none (.sq none .nl (.sq (some [6,7,18,19,20]) .nl .nl))) .nl))) [6,7,18,19,20] (fun q t H=>match Nat.beq q 0 with | true=>app 2 j18 (vals [6,7] t) H | false=>(fun _ _ _=>none) q t H) (retK P 40):=by
 unfold l_sum_On loopF
 refine congrArg (LP 5) ?_
 funext j19 x20 x21 x22 x23 x24 h25
 exact (rl_sum_On J G cf j18 j19 x20 x21 x22 x23 x24 h25).symm
theorem ql_sum_On (cf:CF) (j18:K.Fn 2) (x20 x21 x22 x23 x24:AV) (h25:Hp):l_sum_On JN GO cf j18 x20 x21 x22 x23 x24 h25=
 B1 (ilt x24 x23) fun v26=>
 CD v26 (
 JN 5 (fun j27=>
 B1 (ia 1 x22 x24) fun v28=>
 B1 (ld v28 h25) fun v29=>
 JN 5 (fun j30=>
 B1 (cv .i64 v29) fun v31=>
 B1 (iadd x20 v31) fun v32=>
 B1 (irem v32 (.int .i64 65521)) fun v33=>
 j30 v33 x21 x22 x23 x24 h25) (fun x34 x35 x36 x37 x38 h39=>
 B1 (iadd x35 x34) fun v40=>
 B1 (irem v40 (.int .i64 65521)) fun v41=>
 j27 x34 v41 x36 x37 x38 h39)) (fun x42 x43 x44 x45 x46 h47=>
 B1 (iadd x46 (.int .i64 1)) fun v48=>
 l_sum_On JN GO cf j18 x42 x43 x44 x45 v48 h47)) (
 j18 x20 x21 h25):=by
 have h1:l_sum_On JN GO cf j18 x20 x21 x22 x23 x24 h25=app 5 (loopF P JN GO cf (nT P 40) (atC P 40 [1,1,1,0,1,0,0]) (.sq none .nl (.sq none (.cd .nl .nl) (.sq (some [6,7,18,19,20]) (.bl none (.sq none .nl (.sq (some [6,7,18,19,20]) .nl .nl))) .nl))) [6,7,18,19,20] (fun q t H=>match Nat.beq q 0 with | true=>app 2 j18 (vals [6,7] t) H | false=>(fun _ _ _=>none) q t H) (retK P 40)) [x20,x21,x22,x23,x24] h25:=by rw [dl_sum_On]; kernel_rfl
 refine h1.trans ((loopF_eq (P:=P) cf (nT P 40) (atC P 40 [1,1,1,0,1,0,0]) (.sq none .nl (.sq none (.cd .nl .nl) (.sq (some [6,7,18,19,20]) (.bl none (.sq none .nl (.sq (some [6,7,18,19,20]) .nl .nl))) .nl))) [6,7,18,19,20] (fun q t H=>match Nat.beq q 0 with | true=>app 2 j18 (vals [6,7] t) H | false=>(fun _ _ _=>none) q t H) (retK P 40) [x20,x21,x22,x23,x24] rfl h25).trans ((rl_sum_On JN GO cf j18 _ x20 x21 x22 x23 x24 h25).trans ?_))
 rw [dl_sum_On]
noncomputable def s_sum_On (J:JT) (G:GT) (cf:CF) (a0 a1:AV) (H:Hp):R:=
 J 2 (fun j0=>
 B2 (cf (.func (.func 56) [] []) [a0] H) fun v1 h2=>
 B1 (unA .not v1) fun v3=>
 CD v3 (
 some (.tuple [(.int .u32 0),(.bool false)],h2)) (
 j0 a0 a1 h2)) (fun x4 x5 h6=>
 J 3 (fun j7=>
 B2 (cf (.func (.func 57) [] []) [x4] h6) fun v8 h9=>
 B1 (ex 0 v8) fun v10=>
 B1 (ex 1 v8) fun v11=>
 j7 x5 v10 v11 h9) (fun x12 x13 x14 h15=>
 J 2 (fun j16=>
 B1 (lenx x12) fun v17=>
 J 2 (fun j18=>
 l_sum_On J G cf j18 x13 x14 x12 v17 (.int .i64 0) h15) (fun x49 x50 h51=>
 j16 x49 x50 h51)) (fun x52 x53 h54=>
 B2 (cf (.func (.func 58) [] []) [x52,x53] h54) fun v55 h56=>
 some (.tuple [v55,(.bool true)],h56))))
theorem c_sum_On {a0 a1:AV} {H:Hp} {r:AV × Hp} (h:s_sum_On JN GO cK a0 a1 H=some r):cK (.func (.func 40) [] []) [a0,a1] H=some r:=callF_fix (first:=[]) (cap:=[]) (Eq.trans (by kernel_rfl) h)
noncomputable def s_sum_Of (J:JT) (G:GT) (cf:CF) (a0:AV) (H:Hp):R:=
 J 1 (fun j0=>
 B2 (cf (.func (.func 40) [] []) [(.int .u32 1),a0] H) fun v1 h2=>
 B1 (ex 0 v1) fun v3=>
 B1 (ex 1 v1) fun v4=>
 j0 v3 h2) (fun x5 h6=>
 some (x5,h6))
theorem c_sum_Of {a0:AV} {H:Hp} {r:AV × Hp} (h:s_sum_Of JN GO cK a0 H=some r):cK (.func (.func 41) [] []) [a0] H=some r:=callF_fix (first:=[]) (cap:=[]) (Eq.trans (by kernel_rfl) h)
noncomputable def s_stamp_Pack (J:JT) (G:GT) (cf:CF) (a0 a1:AV) (H:Hp):R:=
 J 2 (fun j0=>
 J 3 (fun j1=>
 B1 (ilt a0 (.int .i64 0)) fun v2=>
 G v2 false (fun k3=>
 k3 a0 H) (fun v4 h5=>
 G v2 false (fun k6=>
 B1 (igt v4 (.int .i64 1048575)) fun v7=>
 k6 v7 h5) (fun v8 h9=>
 B1 (pk v2 (.bool true) v8) fun v10=>
 G v10 false (fun k11=>
 k11 a1 h9) (fun v12 h13=>
 G v10 false (fun k14=>
 B1 (ilt v12 (.int .i64 0)) fun v15=>
 k14 v15 h13) (fun v16 h17=>
 B1 (pk v10 (.bool true) v16) fun v18=>
 G v18 false (fun k19=>
 k19 a1 h17) (fun v20 h21=>
 G v18 false (fun k22=>
 B1 (igt v20 (.int .i64 17592186044415)) fun v23=>
 k22 v23 h21) (fun v24 h25=>
 B1 (pk v18 (.bool true) v24) fun v26=>
 j1 a0 a1 v26 h25) h21) h17) h13) h9) h5) H) (fun x27 x28 x29 h30=>
 CD x29 (
 some (.tuple [(.int .u64 0),(.bool false)],h30)) (
 j0 x27 x28 h30))) (fun x31 x32 h33=>
 B1 (ishl x31 (.int .u64 44)) fun v34=>
 B1 (ior v34 x32) fun v35=>
 B1 (cv .u64 v35) fun v36=>
 some (.tuple [v36,(.bool true)],h33))
theorem c_stamp_Pack {a0 a1:AV} {H:Hp} {r:AV × Hp} (h:s_stamp_Pack JN GO cK a0 a1 H=some r):cK (.func (.func 24) [] []) [a0,a1] H=some r:=callF_fix (first:=[]) (cap:=[]) (Eq.trans (by kernel_rfl) h)
noncomputable def s__stamp_Stamp_Off (J:JT) (G:GT) (cf:CF) (a0:AV) (H:Hp):R:=
 B1 (iand a0 (.int .u64 17592186044415)) fun v0=>
 B1 (cv .i64 v0) fun v1=>
 some (v1,H)
theorem c__stamp_Stamp_Off {a0:AV} {H:Hp} {r:AV × Hp} (h:s__stamp_Stamp_Off JN GO cK a0 H=some r):cK (.func (.func 68) [] []) [a0] H=some r:=callF_fix (first:=[]) (cap:=[]) (Eq.trans (by kernel_rfl) h)
noncomputable def s__stamp_Stamp_Epoch (J:JT) (G:GT) (cf:CF) (a0:AV) (H:Hp):R:=
 B1 (ishr a0 (.int .u64 44)) fun v0=>
 B1 (cv .i64 v0) fun v1=>
 some (v1,H)
theorem c__stamp_Stamp_Epoch {a0:AV} {H:Hp} {r:AV × Hp} (h:s__stamp_Stamp_Epoch JN GO cK a0 H=some r):cK (.func (.func 17) [] []) [a0] H=some r:=callF_fix (first:=[]) (cap:=[]) (Eq.trans (by kernel_rfl) h)
noncomputable def l_frame_number (J:JT) (G:GT) (cf:CF) (j1:K.Fn 1):K.Fn 4:=LP 4 fun j2=>fun x3 x4 x5 x6 h7=>
 B1 (ilt x6 x5) fun v8=>
 CD v8 (
 J 4 (fun j9=>
 B1 (imul (.int .i64 8) x6) fun v10=>
 B1 (ishr x4 v10) fun v11=>
 B1 (cv .u8 v11) fun v12=>
 B1 (fl [(.int .u8 0)] [(0,1,v12)]) fun l13=>
 BN (newCells h7 l13 5 0) fun i14 h15=>
 B2 (app' 5 1 [(.int .u8 0)] false x3 (.slice i14 0 1 1 true 1) h15) fun v16 h17=>
 j9 v16 x4 x5 x6 h17) (fun x18 x19 x20 x21 h22=>
 B1 (iadd x21 (.int .i64 1)) fun v23=>
 j2 x18 x19 x20 v23 h22)) (
 j1 x3 h7)
theorem rl_frame_number (J:JT) (G:GT) (cf:CF) (j1:K.Fn 1) (j2:K.Fn 4) (x3 x4 x5 x6:AV) (h7:Hp):codeF P J G cf (nT P 39) (atC P 39 [1,0,1,0,0]) (.sq none .nl (.sq none (.cd .nl .nl) (.sq (some [0,1,8,9]) (.bl none (.sq none .nl .nl)) .nl))) (fun t H=>app 4 j2 (vals [0,1,8,9] t) H) (fun q t H=>match Nat.beq q 0 with | true=>app 1 j1 (vals [0] t) H | false=>(fun _ _ _=>none) q t H) (retK P 39) (mkT (nT P 39) [0,1,8,9] [x3,x4,x5,x6]) h7=
(B1 (ilt x6 x5) fun v8=>
 CD v8 (
 J 4 (fun j9=>
 B1 (imul (.int .i64 8) x6) fun v10=>
 B1 (ishr x4 v10) fun v11=>
 B1 (cv .u8 v11) fun v12=>
 B1 (fl [(.int .u8 0)] [(0,1,v12)]) fun l13=>
 BN (newCells h7 l13 5 0) fun i14 h15=>
 B2 (app' 5 1 [(.int .u8 0)] false x3 (.slice i14 0 1 1 true 1) h15) fun v16 h17=>
 j9 v16 x4 x5 x6 h17) (fun x18 x19 x20 x21 h22=>
 B1 (iadd x21 (.int .i64 1)) fun v23=>
 j2 x18 x19 x20 v23 h22)) (
 j1 x3 h7)):=by kernel_rfl
theorem dl_frame_number (J:JT) (G:GT) (cf:CF) (j1:K.Fn 1):l_frame_number J G cf j1=loopF P J G cf (nT P 39) (atC P 39 [1,0,1,0,0]) (.sq none .nl (.sq none (.cd .nl .nl) (.sq (some [0,1,8,9]) (.bl none (.sq none .nl .nl)) .nl))) [0,1,8,9] (fun q t H=>match Nat.beq q 0 with | true=>app 1 j1 (vals [0] t) H | false=>(fun _ _ _=>none) q t H) (retK P 39):=by
 unfold l_frame_number loopF
 refine congrArg (LP 4) ?_
 funext j2 x3 x4 x5 x6 h7
 exact (rl_frame_number J G cf j1 j2 x3 x4 x5 x6 h7).symm
theorem ql_frame_number (cf:CF) (j1:K.Fn 1) (x3 x4 x5 x6:AV) (h7:Hp):l_frame_number JN GO cf j1 x3 x4 x5 x6 h7=
 B1 (ilt x6 x5) fun v8=>
 CD v8 (
 JN 4 (fun j9=>
 B1 (imul (.int .i64 8) x6) fun v10=>
 B1 (ishr x4 v10) fun v11=>
 B1 (cv .u8 v11) fun v12=>
 B1 (fl [(.int .u8 0)] [(0,1,v12)]) fun l13=>
 BN (newCells h7 l13 5 0) fun i14 h15=>
 B2 (app' 5 1 [(.int .u8 0)] false x3 (.slice i14 0 1 1 true 1) h15) fun v16 h17=>
 j9 v16 x4 x5 x6 h17) (fun x18 x19 x20 x21 h22=>
 B1 (iadd x21 (.int .i64 1)) fun v23=>
 l_frame_number JN GO cf j1 x18 x19 x20 v23 h22)) (
 j1 x3 h7):=by
 have h1:l_frame_number JN GO cf j1 x3 x4 x5 x6 h7=app 4 (loopF P JN GO cf (nT P 39) (atC P 39 [1,0,1,0,0]) (.sq none .nl (.sq none (.cd .nl .nl) (.sq (some [0,1,8,9]) (.bl none (.sq none .nl .nl)) .nl))) [0,1,8,9] (fun q t H=>match Nat.beq q 0 with | true=>app 1 j1 (vals [0] t) H | false=>(fun _ _ _=>none) q t H) (retK P 39)) [x3,x4,x5,x6] h7:=by rw [dl_frame_number]; kernel_rfl
 refine h1.trans ((loopF_eq (P:=P) cf (nT P 39) (atC P 39 [1,0,1,0,0]) (.sq none .nl (.sq none (.cd .nl .nl) (.sq (some [0,1,8,9]) (.bl none (.sq none .nl .nl)) .nl))) [0,1,8,9] (fun q t H=>match Nat.beq q 0 with | true=>app 1 j1 (vals [0] t) H | false=>(fun _ _ _=>none) q t H) (retK P 39) [x3,x4,x5,x6] rfl h7).trans ((rl_frame_number JN GO cf j1 _ x3 x4 x5 x6 h7).trans ?_))
 rw [dl_frame_number]
noncomputable def s_frame_number (J:JT) (G:GT) (cf:CF) (a0 a1 a2:AV) (H:Hp):R:=
 J 1 (fun j0=>
 J 1 (fun j1=>
 l_frame_number J G cf j1 a0 a1 a2 (.int .i64 0) H) (fun x24 h25=>
 j0 x24 h25)) (fun x26 h27=>
 some (x26,h27))
theorem c_frame_number {a0 a1 a2:AV} {H:Hp} {r:AV × Hp} (h:s_frame_number JN GO cK a0 a1 a2 H=some r):cK (.func (.func 39) [] []) [a0,a1,a2] H=some r:=callF_fix (first:=[]) (cap:=[]) (Eq.trans (by kernel_rfl) h)
noncomputable def l_frame_read (J:JT) (G:GT) (cf:CF) (j2:K.Fn 1):K.Fn 4:=LP 4 fun j3=>fun x4 x5 x6 x7 h8=>
 B1 (ilt x7 x6) fun v9=>
 CD v9 (
 J 4 (fun j10=>
 J 6 (fun j11=>
 B1 (ia 1 x5 x7) fun v12=>
 B1 (ld v12 h8) fun v13=>
 j11 x4 x7 v13 x5 x6 x7 h8) (fun x14 x15 x16 x17 x18 x19 h20=>
 B1 (cv .u64 x16) fun v21=>
 B1 (imul (.int .i64 8) x15) fun v22=>
 B1 (ishl v21 v22) fun v23=>
 B1 (ior x14 v23) fun v24=>
 j10 v24 x17 x18 x19 h20)) (fun x25 x26 x27 x28 h29=>
 B1 (iadd x28 (.int .i64 1)) fun v30=>
 j3 x25 x26 x27 v30 h29)) (
 j2 x4 h8)
theorem rl_frame_read (J:JT) (G:GT) (cf:CF) (j2:K.Fn 1) (j3:K.Fn 4) (x4 x5 x6 x7:AV) (h8:Hp):codeF P J G cf (nT P 84) (atC P 84 [1,1,0,1,0,0]) (.sq none .nl (.sq none (.cd .nl .nl) (.sq (some [3,6,7,8]) (.bl none (.sq (some [3,4,5,6,7,8]) .nl .nl)) .nl))) (fun t H=>app 4 j3 (vals [3,6,7,8] t) H) (fun q t H=>match Nat.beq q 0 with | true=>app 1 j2 (vals [3] t) H | false=>(fun _ _ _=>none) q t H) (retK P 84) (mkT (nT P 84) [3,6,7,8] [x4,x5,x6,x7]) h8=
(B1 (ilt x7 x6) fun v9=>
 CD v9 (
 J 4 (fun j10=>
 J 6 (fun j11=>
 B1 (ia 1 x5 x7) fun v12=>
 B1 (ld v12 h8) fun v13=>
 j11 x4 x7 v13 x5 x6 x7 h8) (fun x14 x15 x16 x17 x18 x19 h20=>
 B1 (cv .u64 x16) fun v21=>
 B1 (imul (.int .i64 8) x15) fun v22=>
 B1 (ishl v21 v22) fun v23=>
 B1 (ior x14 v23) fun v24=>
 j10 v24 x17 x18 x19 h20)) (fun x25 x26 x27 x28 h29=>
 B1 (iadd x28 (.int .i64 1)) fun v30=>
 j3 x25 x26 x27 v30 h29)) (
 j2 x4 h8)):=by kernel_rfl
theorem dl_frame_read (J:JT) (G:GT) (cf:CF) (j2:K.Fn 1):l_frame_read J G cf j2=loopF P J G cf (nT P 84) (atC P 84 [1,1,0,1,0,0]) (.sq none .nl (.sq none (.cd .nl .nl) (.sq (some [3,6,7,8]) (.bl none (.sq (some [3,4,5,6,7,8]) .nl .nl)) .nl))) [3,6,7,8] (fun q t H=>match Nat.beq q 0 with | true=>app 1 j2 (vals [3] t) H | false=>(fun _ _ _=>none) q t H) (retK P 84):=by
 unfold l_frame_read loopF
 refine congrArg (LP 4) ?_
 funext j3 x4 x5 x6 x7 h8
 exact (rl_frame_read J G cf j2 j3 x4 x5 x6 x7 h8).symm
theorem ql_frame_read (cf:CF) (j2:K.Fn 1) (x4 x5 x6 x7:AV) (h8:Hp):l_frame_read JN GO cf j2 x4 x5 x6 x7 h8=
 B1 (ilt x7 x6) fun v9=>
 CD v9 (
 JN 4 (fun j10=>
 JN 6 (fun j11=>
 B1 (ia 1 x5 x7) fun v12=>
 B1 (ld v12 h8) fun v13=>
 j11 x4 x7 v13 x5 x6 x7 h8) (fun x14 x15 x16 x17 x18 x19 h20=>
 B1 (cv .u64 x16) fun v21=>
 B1 (imul (.int .i64 8) x15) fun v22=>
 B1 (ishl v21 v22) fun v23=>
 B1 (ior x14 v23) fun v24=>
 j10 v24 x17 x18 x19 h20)) (fun x25 x26 x27 x28 h29=>
 B1 (iadd x28 (.int .i64 1)) fun v30=>
 l_frame_read JN GO cf j2 x25 x26 x27 v30 h29)) (
 j2 x4 h8):=by
 have h1:l_frame_read JN GO cf j2 x4 x5 x6 x7 h8=app 4 (loopF P JN GO cf (nT P 84) (atC P 84 [1,1,0,1,0,0]) (.sq none .nl (.sq none (.cd .nl .nl) (.sq (some [3,6,7,8]) (.bl none (.sq (some [3,4,5,6,7,8]) .nl .nl)) .nl))) [3,6,7,8] (fun q t H=>match Nat.beq q 0 with | true=>app 1 j2 (vals [3] t) H | false=>(fun _ _ _=>none) q t H) (retK P 84)) [x4,x5,x6,x7] h8:=by rw [dl_frame_read]; kernel_rfl
 refine h1.trans ((loopF_eq (P:=P) cf (nT P 84) (atC P 84 [1,1,0,1,0,0]) (.sq none .nl (.sq none (.cd .nl .nl) (.sq (some [3,6,7,8]) (.bl none (.sq (some [3,4,5,6,7,8]) .nl .nl)) .nl))) [3,6,7,8] (fun q t H=>match Nat.beq q 0 with | true=>app 1 j2 (vals [3] t) H | false=>(fun _ _ _=>none) q t H) (retK P 84) [x4,x5,x6,x7] rfl h8).trans ((rl_frame_read JN GO cf j2 _ x4 x5 x6 x7 h8).trans ?_))
 rw [dl_frame_read]
noncomputable def s_frame_read (J:JT) (G:GT) (cf:CF) (a0:AV) (H:Hp):R:=
 J 1 (fun j0=>
 B1 (lenx a0) fun v1=>
 J 1 (fun j2=>
 l_frame_read J G cf j2 (.int .u64 0) a0 v1 (.int .i64 0) H) (fun x31 h32=>
 j0 x31 h32)) (fun x33 h34=>
 some (x33,h34))
theorem c_frame_read {a0:AV} {H:Hp} {r:AV × Hp} (h:s_frame_read JN GO cK a0 H=some r):cK (.func (.func 84) [] []) [a0] H=some r:=callF_fix (first:=[]) (cap:=[]) (Eq.trans (by kernel_rfl) h)
noncomputable def s_frame_Put (J:JT) (G:GT) (cf:CF) (a0 a1:AV) (H:Hp):R:=
 BN (bx 37 a1 H) fun i0 h1=>
 J 2 (fun j2=>
 B1 (fa 1 (.ptr i0 0)) fun v3=>
 B1 (ld v3 h1) fun v4=>
 B1 (lenx v4) fun v5=>
 B1 (igt v5 (.int .i64 1024)) fun v6=>
 CD v6 (
 some (.tuple [.slice0,(.int .i64 14)],h1)) (
 j2 a0 (.ptr i0 0) h1)) (fun x7 x8 h9=>
 J 3 (fun j10=>
 B1 (fa 1 x8) fun v11=>
 B1 (ld v11 h9) fun v12=>
 B1 (lenx v12) fun v13=>
 B1 (cv .u64 v13) fun v14=>
 B2 (cf (.func (.func 39) [] []) [.slice0,v14,(.int .i64 4)] h9) fun v15 h16=>
 B1 (fa 0 x8) fun v17=>
 B1 (ld v17 h16) fun v18=>
 B2 (cf (.func (.func 39) [] []) [v15,v18,(.int .i64 8)] h16) fun v19 h20=>
 B1 (ld v17 h9) fun v21=>
 SM v18 v21 <|
 j10 x7 x8 v19 h20) (fun x22 x23 x24 h25=>
 J 4 (fun j26=>
 B2 (cf (.func (.func 41) [] []) [x24] h25) fun v27 h28=>
 B1 (fa 1 x23) fun v29=>
 B1 (ld v29 h28) fun v30=>
 B2 (cf (.func (.func 40) [] []) [v27,v30] h28) fun v31 h32=>
 B1 (ex 0 v31) fun v33=>
 B1 (ex 1 v31) fun v34=>
 B1 (ld v29 h25) fun v35=>
 SM v30 v35 <|
 j26 x22 x23 x24 v33 h32) (fun x36 x37 x38 x39 h40=>
 B1 (cv .u64 x39) fun v41=>
 B2 (cf (.func (.func 39) [] []) [x38,v41,(.int .i64 4)] h40) fun v42 h43=>
 B1 (fa 1 x37) fun v44=>
 B1 (ld v44 h43) fun v45=>
 B1 (fl [.slice0,.slice0,.slice0] [(0,1,x36),(1,1,v42),(2,1,v45)]) fun l46=>
 BN (newCells h43 l46 28 0) fun i47 h48=>
 B2 (cf (.func (.func 42) [] []) [(.slice i47 0 3 3 true 1)] h48) fun v49 h50=>
 B1 (ld v44 h40) fun v51=>
 SM v45 v51 <|
 some (.tuple [v49,(.int .i64 0)],h50))))
theorem e_frame_Put (J:JT) (G:GT) (cf:CF) (a0 a1:AV) (H:Hp):callF P J G prim an cf 26 [a0,a1] H=s_frame_Put J G cf a0 a1 H:=by kernel_rfl
theorem c_frame_Put {a0 a1:AV} {H:Hp} {r:AV × Hp} (h:s_frame_Put JN GO cK a0 a1 H=some r):cK (.func (.func 26) [] []) [a0,a1] H=some r:=callF_fix (first:=[]) (cap:=[]) ((e_frame_Put JN GO _ a0 a1 H).trans h)
noncomputable def s_frame_Get (J:JT) (G:GT) (cf:CF) (a0:AV) (H:Hp):R:=
 BN (newCells H [(.int .u64 0),.slice0] 37 0) fun i0 h1=>
 J 2 (fun j2=>
 B1 (lenx a0) fun v3=>
 B1 (ilt v3 (.int .i64 4)) fun v4=>
 CD v4 (
 B1 (fl [(.int .u64 0),.slice0] []) fun l5=>
 B1 (st 2 (.ptr i0 0) (.agg l5) h1) fun h6=>
 B1 (lda 2 (.ptr i0 0) h6) fun v7=>
 some (.tuple [v7,(.int .i64 0),(.int .i64 3)],h6)) (
 j2 a0 (.ptr i0 0) h1)) (fun x8 x9 h10=>
 J 3 (fun j11=>
 B1 (sll 1 x8 none (some (.int .i64 4)) none) fun v12=>
 B2 (cf (.func (.func 84) [] []) [v12] h10) fun v13 h14=>
 B1 (cv .i64 v13) fun v15=>
 j11 x8 x9 v15 h14) (fun x16 x17 x18 h19=>
 J 3 (fun j20=>
 B1 (igt x18 (.int .i64 1024)) fun v21=>
 CD v21 (
 B1 (fl [(.int .u64 0),.slice0] []) fun l22=>
 B1 (st 2 x17 (.agg l22) h19) fun h23=>
 B1 (lda 2 x17 h23) fun v24=>
 some (.tuple [v24,(.int .i64 0),(.int .i64 14)],h23)) (
 J 4 (fun j25=>
 B1 (lenx x16) fun v26=>
 B1 (iadd (.int .i64 16) x18) fun v27=>
 B1 (ilt v26 v27) fun v28=>
 j25 x16 x17 x18 v28 h19) (fun x29 x30 x31 x32 h33=>
 CD x32 (
 B1 (fl [(.int .u64 0),.slice0] []) fun l34=>
 B1 (st 2 x30 (.agg l34) h33) fun h35=>
 B1 (lda 2 x30 h35) fun v36=>
 some (.tuple [v36,(.int .i64 0),(.int .i64 3)],h35)) (
 j20 x29 x30 x31 h33)))) (fun x37 x38 x39 h40=>
 J 4 (fun j41=>
 B1 (sll 1 x37 none (some (.int .i64 12)) none) fun v42=>
 B2 (cf (.func (.func 41) [] []) [v42] h40) fun v43 h44=>
 B1 (iadd (.int .i64 16) x39) fun v45=>
 B1 (sll 1 x37 (some (.int .i64 16)) (some v45) none) fun v46=>
 B2 (cf (.func (.func 40) [] []) [v43,v46] h44) fun v47 h48=>
 B1 (ex 0 v47) fun v49=>
 B1 (ex 1 v47) fun v50=>
 B1 (sll 1 x37 (some (.int .i64 16)) (some v45) none) fun v51=>
 SM v46 v51 <|
 j41 x37 x38 x39 v49 h48) (fun x52 x53 x54 x55 h56=>
 J 3 (fun j57=>
 J 4 (fun j58=>
 B1 (cv .u64 x55) fun v59=>
 B1 (sll 1 x52 (some (.int .i64 12)) (some (.int .i64 16)) none) fun v60=>
 B2 (cf (.func (.func 84) [] []) [v60] h56) fun v61 h62=>
 B1 (ine v59 v61) fun v63=>
 j58 x52 x53 x54 v63 h62) (fun x64 x65 x66 x67 h68=>
 CD x67 (
 B1 (fl [(.int .u64 0),.slice0] []) fun l69=>
 B1 (st 2 x65 (.agg l69) h68) fun h70=>
 B1 (lda 2 x65 h70) fun v71=>
 some (.tuple [v71,(.int .i64 0),(.int .i64 2)],h70)) (
 j57 x64 x65 x66 h68))) (fun x72 x73 x74 h75=>
 B1 (sll 1 x72 (some (.int .i64 4)) (some (.int .i64 12)) none) fun v76=>
 B2 (cf (.func (.func 84) [] []) [v76] h75) fun v77 h78=>
 B1 (iadd (.int .i64 16) x74) fun v79=>
 B1 (sll 1 x72 (some (.int .i64 16)) (some v79) none) fun v80=>
 B2 (cf (.func (.func 25) [] []) [v80] h78) fun v81 h82=>
 B1 (fl [(.int .u64 0),.slice0] [(0,1,v77),(1,1,v81)]) fun l83=>
 B1 (iadd (.int .i64 16) x74) fun v84=>
 B1 (st 2 x73 (.agg l83) h82) fun h85=>
 B1 (sll 1 x72 (some (.int .i64 16)) (some v79) none) fun v86=>
 SM v80 v86 <|
 B1 (lda 2 x73 h85) fun v87=>
 some (.tuple [v87,v84,(.int .i64 0)],h85))))))
theorem e_frame_Get (J:JT) (G:GT) (cf:CF) (a0:AV) (H:Hp):callF P J G prim an cf 67 [a0] H=s_frame_Get J G cf a0 H:=by kernel_rfl
theorem c_frame_Get {a0:AV} {H:Hp} {r:AV × Hp} (h:s_frame_Get JN GO cK a0 H=some r):cK (.func (.func 67) [] []) [a0] H=some r:=callF_fix (first:=[]) (cap:=[]) ((e_frame_Get JN GO _ a0 H).trans h)
noncomputable def s_slices_Grow___byte_byte_ (J:JT) (G:GT) (cf:CF) (a0 a1:AV) (H:Hp):R:=
 J 2 (fun j0=>
 B1 (ilt a1 (.int .i64 0)) fun v1=>
 CD v1 (
 none) (
 j0 a0 a1 H)) (fun x2 x3 h4=>
 J 1 (fun j5=>
 J 2 (fun j6=>
 B2 (builtinA P .cap #[28] [x2] h4) fun v7 h8=>
 B1 (lenx x2) fun v9=>
 B1 (isub v7 v9) fun v10=>
 B1 (isub x3 v10) fun v11=>
 j6 x2 v11 h8) (fun x12 x13 h14=>
 B1 (igt x13 (.int .i64 0)) fun v15=>
 CD v15 (
 B2 (builtinA P .cap #[28] [x12] h14) fun v16 h17=>
 B1 (sll 1 x12 none (some v16) none) fun v18=>
 B2 (app' 5 1 [(.int .u8 0)] true v18 x13 h17) fun v19 h20=>
 B1 (lenx x12) fun v21=>
 B1 (sll 1 v19 none (some v21) none) fun v22=>
 j5 v22 h20) (
 j5 x12 h14))) (fun x23 h24=>
 some (x23,h24)))
theorem c_slices_Grow___byte_byte_ {a0 a1:AV} {H:Hp} {r:AV × Hp} (h:s_slices_Grow___byte_byte_ JN GO cK a0 a1 H=some r):cK (.func (.func 59) [] []) [a0,a1] H=some r:=callF_fix (first:=[]) (cap:=[]) (Eq.trans (by kernel_rfl) h)
noncomputable def l_slices_Concat___byte_byte_ (J:JT) (G:GT) (cf:CF) (j2:K.Fn 2):K.Fn 5:=LP 5 fun j3=>fun x4 x5 x6 x7 x8 h9=>
 B1 (ilt x8 x7) fun v10=>
 CD v10 (
 J 5 (fun j11=>
 J 5 (fun j12=>
 B1 (ia 1 x6 x8) fun v13=>
 B1 (ld v13 h9) fun v14=>
 J 5 (fun j15=>
 B1 (lenx v14) fun v16=>
 B1 (iadd x5 v16) fun v17=>
 j15 x4 v17 x6 x7 x8 h9) (fun x18 x19 x20 x21 x22 h23=>
 B1 (ilt x19 (.int .i64 0)) fun v24=>
 CD v24 (
 none) (
 j12 x18 x19 x20 x21 x22 h23))) (fun x25 x26 x27 x28 x29 h30=>
 j11 x25 x26 x27 x28 x29 h30)) (fun x31 x32 x33 x34 x35 h36=>
 B1 (iadd x35 (.int .i64 1)) fun v37=>
 j3 x31 x32 x33 x34 v37 h36)) (
 j2 x4 x5 h9)
theorem rl_slices_Concat___byte_byte_ (J:JT) (G:GT) (cf:CF) (j2:K.Fn 2) (j3:K.Fn 5) (x4 x5 x6 x7 x8:AV) (h9:Hp):codeF P J G cf (nT P 42) (atC P 42 [1,1,0,1,0,0]) (.sq none .nl (.sq none (.cd .nl .nl) (.sq (some [0,3,9,10,11]) (.bl (some [0,3,9,10,11]) (.sq none .nl (.sq (some [0,3,9,10,11]) .nl (.sq none .nl (.cd .nl .nl))))) .nl))) (fun t H=>app 5 j3 (vals [0,3,9,10,11] t) H) (fun q t H=>match Nat.beq q 0 with | true=>app 2 j2 (vals [0,3] t) H | false=>(fun _ _ _=>none) q t H) (retK P 42) (mkT (nT P 42) [0,3,9,10,11] [x4,x5,x6,x7,x8]) h9=
(B1 (ilt x8 x7) fun v10=>
 CD v10 (
 J 5 (fun j11=>
 J 5 (fun j12=>
 B1 (ia 1 x6 x8) fun v13=>
 B1 (ld v13 h9) fun v14=>
 J 5 (fun j15=>
 B1 (lenx v14) fun v16=>
 B1 (iadd x5 v16) fun v17=>
 j15 x4 v17 x6 x7 x8 h9) (fun x18 x19 x20 x21 x22 h23=>
 B1 (ilt x19 (.int .i64 0)) fun v24=>
 CD v24 (
 none) (
 j12 x18 x19 x20 x21 x22 h23))) (fun x25 x26 x27 x28 x29 h30=>
 j11 x25 x26 x27 x28 x29 h30)) (fun x31 x32 x33 x34 x35 h36=>
 B1 (iadd x35 (.int .i64 1)) fun v37=>
 j3 x31 x32 x33 x34 v37 h36)) (
 j2 x4 x5 h9)):=by kernel_rfl
theorem dl_slices_Concat___byte_byte_ (J:JT) (G:GT) (cf:CF) (j2:K.Fn 2):l_slices_Concat___byte_byte_ J G cf j2=loopF P J G cf (nT P 42) (atC P 42 [1,1,0,1,0,0]) (.sq none .nl (.sq none (.cd .nl .nl) (.sq (some [0,3,9,10,11]) (.bl (some [0,3,9,10,11]) (.sq none .nl (.sq (some [0,3,9,10,11]) .nl (.sq none .nl (.cd .nl .nl))))) .nl))) [0,3,9,10,11] (fun q t H=>match Nat.beq q 0 with | true=>app 2 j2 (vals [0,3] t) H | false=>(fun _ _ _=>none) q t H) (retK P 42):=by
 unfold l_slices_Concat___byte_byte_ loopF
 refine congrArg (LP 5) ?_
 funext j3 x4 x5 x6 x7 x8 h9
 exact (rl_slices_Concat___byte_byte_ J G cf j2 j3 x4 x5 x6 x7 x8 h9).symm
theorem ql_slices_Concat___byte_byte_ (cf:CF) (j2:K.Fn 2) (x4 x5 x6 x7 x8:AV) (h9:Hp):l_slices_Concat___byte_byte_ JN GO cf j2 x4 x5 x6 x7 x8 h9=
 B1 (ilt x8 x7) fun v10=>
 CD v10 (
 JN 5 (fun j11=>
 JN 5 (fun j12=>
 B1 (ia 1 x6 x8) fun v13=>
 B1 (ld v13 h9) fun v14=>
 JN 5 (fun j15=>
 B1 (lenx v14) fun v16=>
 B1 (iadd x5 v16) fun v17=>
 j15 x4 v17 x6 x7 x8 h9) (fun x18 x19 x20 x21 x22 h23=>
 B1 (ilt x19 (.int .i64 0)) fun v24=>
 CD v24 (
 none) (
 j12 x18 x19 x20 x21 x22 h23))) (fun x25 x26 x27 x28 x29 h30=>
 j11 x25 x26 x27 x28 x29 h30)) (fun x31 x32 x33 x34 x35 h36=>
 B1 (iadd x35 (.int .i64 1)) fun v37=>
 l_slices_Concat___byte_byte_ JN GO cf j2 x31 x32 x33 x34 v37 h36)) (
 j2 x4 x5 h9):=by
 have h1:l_slices_Concat___byte_byte_ JN GO cf j2 x4 x5 x6 x7 x8 h9=app 5 (loopF P JN GO cf (nT P 42) (atC P 42 [1,1,0,1,0,0]) (.sq none .nl (.sq none (.cd .nl .nl) (.sq (some [0,3,9,10,11]) (.bl (some [0,3,9,10,11]) (.sq none .nl (.sq (some [0,3,9,10,11]) .nl (.sq none .nl (.cd .nl .nl))))) .nl))) [0,3,9,10,11] (fun q t H=>match Nat.beq q 0 with | true=>app 2 j2 (vals [0,3] t) H | false=>(fun _ _ _=>none) q t H) (retK P 42)) [x4,x5,x6,x7,x8] h9:=by rw [dl_slices_Concat___byte_byte_]; kernel_rfl
 refine h1.trans ((loopF_eq (P:=P) cf (nT P 42) (atC P 42 [1,1,0,1,0,0]) (.sq none .nl (.sq none (.cd .nl .nl) (.sq (some [0,3,9,10,11]) (.bl (some [0,3,9,10,11]) (.sq none .nl (.sq (some [0,3,9,10,11]) .nl (.sq none .nl (.cd .nl .nl))))) .nl))) [0,3,9,10,11] (fun q t H=>match Nat.beq q 0 with | true=>app 2 j2 (vals [0,3] t) H | false=>(fun _ _ _=>none) q t H) (retK P 42) [x4,x5,x6,x7,x8] rfl h9).trans ((rl_slices_Concat___byte_byte_ JN GO cf j2 _ x4 x5 x6 x7 x8 h9).trans ?_))
 rw [dl_slices_Concat___byte_byte_]
noncomputable def l_slices_Concat___byte_byte_1 (J:JT) (G:GT) (cf:CF) (j48:K.Fn 1):K.Fn 4:=LP 4 fun j49=>fun x50 x51 x52 x53 h54=>
 B1 (ilt x53 x52) fun v55=>
 CD v55 (
 J 4 (fun j56=>
 B1 (ia 1 x51 x53) fun v57=>
 B1 (ld v57 h54) fun v58=>
 B2 (app' 5 1 [(.int .u8 0)] false x50 v58 h54) fun v59 h60=>
 j56 v59 x51 x52 x53 h60) (fun x61 x62 x63 x64 h65=>
 B1 (iadd x64 (.int .i64 1)) fun v66=>
 j49 x61 x62 x63 v66 h65)) (
 j48 x50 h54)
theorem rl_slices_Concat___byte_byte_1 (J:JT) (G:GT) (cf:CF) (j48:K.Fn 1) (j49:K.Fn 4) (x50 x51 x52 x53:AV) (h54:Hp):codeF P J G cf (nT P 42) (atC P 42 [1,1,1,1,0,1,0,0]) (.sq none .nl (.sq none (.cd .nl .nl) (.sq (some [6,25,26,27]) (.bl none (.sq none .nl .nl)) .nl))) (fun t H=>app 4 j49 (vals [6,25,26,27] t) H) (fun q t H=>match Nat.beq q 2 with | true=>app 1 j48 (vals [6] t) H | false=>(fun _ _ _=>none) q t H) (retK P 42) (mkT (nT P 42) [6,25,26,27] [x50,x51,x52,x53]) h54=
(B1 (ilt x53 x52) fun v55=>
 CD v55 (
 J 4 (fun j56=>
 B1 (ia 1 x51 x53) fun v57=>
 B1 (ld v57 h54) fun v58=>
 B2 (app' 5 1 [(.int .u8 0)] false x50 v58 h54) fun v59 h60=>
 j56 v59 x51 x52 x53 h60) (fun x61 x62 x63 x64 h65=>
 B1 (iadd x64 (.int .i64 1)) fun v66=>
 j49 x61 x62 x63 v66 h65)) (
 j48 x50 h54)):=by kernel_rfl
theorem dl_slices_Concat___byte_byte_1 (J:JT) (G:GT) (cf:CF) (j48:K.Fn 1):l_slices_Concat___byte_byte_1 J G cf j48=loopF P J G cf (nT P 42) (atC P 42 [1,1,1,1,0,1,0,0]) (.sq none .nl (.sq none (.cd .nl .nl) (.sq (some [6,25,26,27]) (.bl none (.sq none .nl .nl)) .nl))) [6,25,26,27] (fun q t H=>match Nat.beq q 2 with | true=>app 1 j48 (vals [6] t) H | false=>(fun _ _ _=>none) q t H) (retK P 42):=by
 unfold l_slices_Concat___byte_byte_1 loopF
 refine congrArg (LP 4) ?_
 funext j49 x50 x51 x52 x53 h54
 exact (rl_slices_Concat___byte_byte_1 J G cf j48 j49 x50 x51 x52 x53 h54).symm
theorem ql_slices_Concat___byte_byte_1 (cf:CF) (j48:K.Fn 1) (x50 x51 x52 x53:AV) (h54:Hp):l_slices_Concat___byte_byte_1 JN GO cf j48 x50 x51 x52 x53 h54=
 B1 (ilt x53 x52) fun v55=>
 CD v55 (
 JN 4 (fun j56=>
 B1 (ia 1 x51 x53) fun v57=>
 B1 (ld v57 h54) fun v58=>
 B2 (app' 5 1 [(.int .u8 0)] false x50 v58 h54) fun v59 h60=>
 j56 v59 x51 x52 x53 h60) (fun x61 x62 x63 x64 h65=>
 B1 (iadd x64 (.int .i64 1)) fun v66=>
 l_slices_Concat___byte_byte_1 JN GO cf j48 x61 x62 x63 v66 h65)) (
 j48 x50 h54):=by
 have h1:l_slices_Concat___byte_byte_1 JN GO cf j48 x50 x51 x52 x53 h54=app 4 (loopF P JN GO cf (nT P 42) (atC P 42 [1,1,1,1,0,1,0,0]) (.sq none .nl (.sq none (.cd .nl .nl) (.sq (some [6,25,26,27]) (.bl none (.sq none .nl .nl)) .nl))) [6,25,26,27] (fun q t H=>match Nat.beq q 2 with | true=>app 1 j48 (vals [6] t) H | false=>(fun _ _ _=>none) q t H) (retK P 42)) [x50,x51,x52,x53] h54:=by rw [dl_slices_Concat___byte_byte_1]; kernel_rfl
 refine h1.trans ((loopF_eq (P:=P) cf (nT P 42) (atC P 42 [1,1,1,1,0,1,0,0]) (.sq none .nl (.sq none (.cd .nl .nl) (.sq (some [6,25,26,27]) (.bl none (.sq none .nl .nl)) .nl))) [6,25,26,27] (fun q t H=>match Nat.beq q 2 with | true=>app 1 j48 (vals [6] t) H | false=>(fun _ _ _=>none) q t H) (retK P 42) [x50,x51,x52,x53] rfl h54).trans ((rl_slices_Concat___byte_byte_1 JN GO cf j48 _ x50 x51 x52 x53 h54).trans ?_))
 rw [dl_slices_Concat___byte_byte_1]
noncomputable def s_slices_Concat___byte_byte_ (J:JT) (G:GT) (cf:CF) (a0:AV) (H:Hp):R:=
 J 2 (fun j0=>
 B1 (lenx a0) fun v1=>
 J 2 (fun j2=>
 l_slices_Concat___byte_byte_ J G cf j2 a0 (.int .i64 0) a0 v1 (.int .i64 0) H) (fun x38 x39 h40=>
 j0 x38 x39 h40)) (fun x41 x42 h43=>
 B2 (cf (.func (.func 59) [] []) [.slice0,x42] h43) fun v44 h45=>
 J 1 (fun j46=>
 B1 (lenx x41) fun v47=>
 J 1 (fun j48=>
 l_slices_Concat___byte_byte_1 J G cf j48 v44 x41 v47 (.int .i64 0) h45) (fun x67 h68=>
 j46 x67 h68)) (fun x69 h70=>
 some (x69,h70)))
theorem c_slices_Concat___byte_byte_ {a0:AV} {H:Hp} {r:AV × Hp} (h:s_slices_Concat___byte_byte_ JN GO cK a0 H=some r):cK (.func (.func 42) [] []) [a0] H=some r:=callF_fix (first:=[]) (cap:=[]) (Eq.trans (by kernel_rfl) h)
noncomputable def l_seg_Scan (J:JT) (G:GT) (cf:CF) (j1:K.Fn 2):K.Fn 5:=LP 5 fun j2=>fun x3 x4 x5 x6 x7 h8=>
 B1 (lenx x3) fun v9=>
 B1 (ilt x7 v9) fun v10=>
 CD v10 (
 J 8 (fun j11=>
 B1 (sll 1 x3 (some x7) none none) fun v12=>
 B2 (cf (.func (.func 67) [] []) [v12] h8) fun v13 h14=>
 B1 (ex 0 v13) fun v15=>
 B1 (ex 1 v13) fun v16=>
 B1 (ex 2 v13) fun v17=>
 BN (newCells h14 [(.int .u64 0),.slice0] 37 0) fun i18 h19=>
 B1 (st 2 (.ptr i18 0) v15 h19) fun h20=>
 j11 x3 x4 x5 x6 x7 (.ptr i18 0) v16 v17 h20) (fun x21 x22 x23 x24 x25 x26 x27 x28 h29=>
 J 6 (fun j30=>
 J 7 (fun j31=>
 B1 (ine x28 (.int .i64 0)) fun v32=>
 G v32 false (fun k33=>
 B1 (fa 0 x26) fun v34=>
 k33 v34 h29) (fun v35 h36=>
 G v32 false (fun k37=>
 B1 (ld v35 h36) fun v38=>
 k37 v38 h36) (fun v39 h40=>
 G v32 false (fun k41=>
 B2 (cf (.func (.func 68) [] []) [v39] h40) fun v42 h43=>
 k41 v42 h43) (fun v44 h45=>
 G v32 false (fun k46=>
 k46 x22 h45) (fun v47 h48=>
 G v32 false (fun k49=>
 B1 (ine v44 v47) fun v50=>
 k49 v50 h48) (fun v51 h52=>
 B1 (pk v32 (.bool true) v51) fun v53=>
 G v53 false (fun k54=>
 B1 (fa 0 x26) fun v55=>
 k54 v55 h52) (fun v56 h57=>
 G v53 false (fun k58=>
 B1 (ld v56 h57) fun v59=>
 k58 v59 h57) (fun v60 h61=>
 G v53 false (fun k62=>
 B2 (cf (.func (.func 17) [] []) [v60] h61) fun v63 h64=>
 k62 v63 h64) (fun v65 h66=>
 G v53 false (fun k67=>
 k67 x23 h66) (fun v68 h69=>
 G v53 false (fun k70=>
 B1 (ilt v65 v68) fun v71=>
 k70 v71 h69) (fun v72 h73=>
 B1 (pk v53 (.bool true) v72) fun v74=>
 j31 x21 x22 x24 x25 x26 x27 v74 h73) h69) h66) h61) h57) h52) h48) h45) h40) h36) h29) (fun x75 x76 x77 x78 x79 x80 x81 h82=>
 CD x81 (
 j1 x77 x78 h82) (
 j30 x75 x76 x77 x78 x79 x80 h82))) (fun x83 x84 x85 x86 x87 x88 h89=>
 J 6 (fun j90=>
 B1 (lda 2 x87 h89) fun v91=>
 B1 (fl [(.int .u64 0),.slice0] [(0,2,v91)]) fun l92=>
 BN (newCells h89 l92 37 0) fun i93 h94=>
 B2 (app' 37 2 [(.int .u64 0),.slice0] false x85 (.slice i93 0 1 1 true 2) h94) fun v95 h96=>
 j90 x83 x84 v95 x86 x87 x88 h96) (fun x97 x98 x99 x100 x101 x102 h103=>
 B1 (iadd x100 x102) fun v104=>
 B1 (iadd x98 (.int .i64 1)) fun v105=>
 B1 (fa 0 x101) fun v106=>
 B1 (ld v106 h103) fun v107=>
 B2 (cf (.func (.func 17) [] []) [v107] h103) fun v108 h109=>
 j2 x97 v105 v108 x99 v104 h109)))) (
 j1 x6 x7 h8)
theorem rl_seg_Scan (J:JT) (G:GT) (cf:CF) (j1:K.Fn 2) (j2:K.Fn 5) (x3 x4 x5 x6 x7:AV) (h8:Hp):codeF P J G cf (nT P 52) (atC P 52 [1,0,0,0]) (.sq none (.sq none .nl (.cd .nl .nl)) (.bl none (.sq (some [0,1,2,6,7,8,9,10]) .nl (.sq (some [0,1,6,7,8,9]) (.sq (some [0,1,6,7,8,9,38]) .nl (.cd .nl .nl)) (.sq (some [0,1,6,7,8,9]) .nl (.sq none .nl .nl)))))) (fun t H=>app 5 j2 (vals [0,1,2,6,7] t) H) (fun q t H=>match Nat.beq q 0 with | true=>app 2 j1 (vals [6,7] t) H | false=>(fun _ _ _=>none) q t H) (retK P 52) (mkT (nT P 52) [0,1,2,6,7] [x3,x4,x5,x6,x7]) h8=
(B1 (lenx x3) fun v9=>
 B1 (ilt x7 v9) fun v10=>
 CD v10 (
 J 8 (fun j11=>
 B1 (sll 1 x3 (some x7) none none) fun v12=>
 B2 (cf (.func (.func 67) [] []) [v12] h8) fun v13 h14=>
 B1 (ex 0 v13) fun v15=>
 B1 (ex 1 v13) fun v16=>
 B1 (ex 2 v13) fun v17=>
 BN (newCells h14 [(.int .u64 0),.slice0] 37 0) fun i18 h19=>
 B1 (st 2 (.ptr i18 0) v15 h19) fun h20=>
 j11 x3 x4 x5 x6 x7 (.ptr i18 0) v16 v17 h20) (fun x21 x22 x23 x24 x25 x26 x27 x28 h29=>
 J 6 (fun j30=>
 J 7 (fun j31=>
 B1 (ine x28 (.int .i64 0)) fun v32=>
 G v32 false (fun k33=>
 B1 (fa 0 x26) fun v34=>
 k33 v34 h29) (fun v35 h36=>
 G v32 false (fun k37=>
 B1 (ld v35 h36) fun v38=>
 k37 v38 h36) (fun v39 h40=>
 G v32 false (fun k41=>
 B2 (cf (.func (.func 68) [] []) [v39] h40) fun v42 h43=>
 k41 v42 h43) (fun v44 h45=>
 G v32 false (fun k46=>
 k46 x22 h45) (fun v47 h48=>
 G v32 false (fun k49=>
 B1 (ine v44 v47) fun v50=>
 k49 v50 h48) (fun v51 h52=>
 B1 (pk v32 (.bool true) v51) fun v53=>
 G v53 false (fun k54=>
 B1 (fa 0 x26) fun v55=>
 k54 v55 h52) (fun v56 h57=>
 G v53 false (fun k58=>
 B1 (ld v56 h57) fun v59=>
 k58 v59 h57) (fun v60 h61=>
 G v53 false (fun k62=>
 B2 (cf (.func (.func 17) [] []) [v60] h61) fun v63 h64=>
 k62 v63 h64) (fun v65 h66=>
 G v53 false (fun k67=>
 k67 x23 h66) (fun v68 h69=>
 G v53 false (fun k70=>
 B1 (ilt v65 v68) fun v71=>
 k70 v71 h69) (fun v72 h73=>
 B1 (pk v53 (.bool true) v72) fun v74=>
 j31 x21 x22 x24 x25 x26 x27 v74 h73) h69) h66) h61) h57) h52) h48) h45) h40) h36) h29) (fun x75 x76 x77 x78 x79 x80 x81 h82=>
 CD x81 (
 j1 x77 x78 h82) (
 j30 x75 x76 x77 x78 x79 x80 h82))) (fun x83 x84 x85 x86 x87 x88 h89=>
 J 6 (fun j90=>
 B1 (lda 2 x87 h89) fun v91=>
 B1 (fl [(.int .u64 0),.slice0] [(0,2,v91)]) fun l92=>
 BN (newCells h89 l92 37 0) fun i93 h94=>
 B2 (app' 37 2 [(.int .u64 0),.slice0] false x85 (.slice i93 0 1 1 true 2) h94) fun v95 h96=>
 j90 x83 x84 v95 x86 x87 x88 h96) (fun x97 x98 x99 x100 x101 x102 h103=>
 B1 (iadd x100 x102) fun v104=>
 B1 (iadd x98 (.int .i64 1)) fun v105=>
 B1 (fa 0 x101) fun v106=>
 B1 (ld v106 h103) fun v107=>
 B2 (cf (.func (.func 17) [] []) [v107] h103) fun v108 h109=>
 j2 x97 v105 v108 x99 v104 h109)))) (
 j1 x6 x7 h8)):=by kernel_rfl
theorem dl_seg_Scan (J:JT) (G:GT) (cf:CF) (j1:K.Fn 2):l_seg_Scan J G cf j1=loopF P J G cf (nT P 52) (atC P 52 [1,0,0,0]) (.sq none (.sq none .nl (.cd .nl .nl)) (.bl none (.sq (some [0,1,2,6,7,8,9,10]) .nl (.sq (some [0,1,6,7,8,9]) (.sq (some [0,1,6,7,8,9,38]) .nl (.cd .nl .nl)) (.sq (some [0,1,6,7,8,9]) .nl (.sq none .nl .nl)))))) [0,1,2,6,7] (fun q t H=>match Nat.beq q 0 with | true=>app 2 j1 (vals [6,7] t) H | false=>(fun _ _ _=>none) q t H) (retK P 52):=by
 unfold l_seg_Scan loopF
 refine congrArg (LP 5) ?_
 funext j2 x3 x4 x5 x6 x7 h8
 exact (rl_seg_Scan J G cf j1 j2 x3 x4 x5 x6 x7 h8).symm
theorem ql_seg_Scan (cf:CF) (j1:K.Fn 2) (x3 x4 x5 x6 x7:AV) (h8:Hp):l_seg_Scan JN GO cf j1 x3 x4 x5 x6 x7 h8=
 B1 (lenx x3) fun v9=>
 B1 (ilt x7 v9) fun v10=>
 CD v10 (
 JN 8 (fun j11=>
 B1 (sll 1 x3 (some x7) none none) fun v12=>
 B2 (cf (.func (.func 67) [] []) [v12] h8) fun v13 h14=>
 B1 (ex 0 v13) fun v15=>
 B1 (ex 1 v13) fun v16=>
 B1 (ex 2 v13) fun v17=>
 BN (newCells h14 [(.int .u64 0),.slice0] 37 0) fun i18 h19=>
 B1 (st 2 (.ptr i18 0) v15 h19) fun h20=>
 j11 x3 x4 x5 x6 x7 (.ptr i18 0) v16 v17 h20) (fun x21 x22 x23 x24 x25 x26 x27 x28 h29=>
 JN 6 (fun j30=>
 JN 7 (fun j31=>
 B1 (ine x28 (.int .i64 0)) fun v32=>
 GO v32 false (fun k33=>
 B1 (fa 0 x26) fun v34=>
 k33 v34 h29) (fun v35 h36=>
 GO v32 false (fun k37=>
 B1 (ld v35 h36) fun v38=>
 k37 v38 h36) (fun v39 h40=>
 GO v32 false (fun k41=>
 B2 (cf (.func (.func 68) [] []) [v39] h40) fun v42 h43=>
 k41 v42 h43) (fun v44 h45=>
 GO v32 false (fun k46=>
 k46 x22 h45) (fun v47 h48=>
 GO v32 false (fun k49=>
 B1 (ine v44 v47) fun v50=>
 k49 v50 h48) (fun v51 h52=>
 B1 (pk v32 (.bool true) v51) fun v53=>
 GO v53 false (fun k54=>
 B1 (fa 0 x26) fun v55=>
 k54 v55 h52) (fun v56 h57=>
 GO v53 false (fun k58=>
 B1 (ld v56 h57) fun v59=>
 k58 v59 h57) (fun v60 h61=>
 GO v53 false (fun k62=>
 B2 (cf (.func (.func 17) [] []) [v60] h61) fun v63 h64=>
 k62 v63 h64) (fun v65 h66=>
 GO v53 false (fun k67=>
 k67 x23 h66) (fun v68 h69=>
 GO v53 false (fun k70=>
 B1 (ilt v65 v68) fun v71=>
 k70 v71 h69) (fun v72 h73=>
 B1 (pk v53 (.bool true) v72) fun v74=>
 j31 x21 x22 x24 x25 x26 x27 v74 h73) h69) h66) h61) h57) h52) h48) h45) h40) h36) h29) (fun x75 x76 x77 x78 x79 x80 x81 h82=>
 CD x81 (
 j1 x77 x78 h82) (
 j30 x75 x76 x77 x78 x79 x80 h82))) (fun x83 x84 x85 x86 x87 x88 h89=>
 JN 6 (fun j90=>
 B1 (lda 2 x87 h89) fun v91=>
 B1 (fl [(.int .u64 0),.slice0] [(0,2,v91)]) fun l92=>
 BN (newCells h89 l92 37 0) fun i93 h94=>
 B2 (app' 37 2 [(.int .u64 0),.slice0] false x85 (.slice i93 0 1 1 true 2) h94) fun v95 h96=>
 j90 x83 x84 v95 x86 x87 x88 h96) (fun x97 x98 x99 x100 x101 x102 h103=>
 B1 (iadd x100 x102) fun v104=>
 B1 (iadd x98 (.int .i64 1)) fun v105=>
 B1 (fa 0 x101) fun v106=>
 B1 (ld v106 h103) fun v107=>
 B2 (cf (.func (.func 17) [] []) [v107] h103) fun v108 h109=>
 l_seg_Scan JN GO cf j1 x97 v105 v108 x99 v104 h109)))) (
 j1 x6 x7 h8):=by
 have h1:l_seg_Scan JN GO cf j1 x3 x4 x5 x6 x7 h8=app 5 (loopF P JN GO cf (nT P 52) (atC P 52 [1,0,0,0]) (.sq none (.sq none .nl (.cd .nl .nl)) (.bl none (.sq (some [0,1,2,6,7,8,9,10]) .nl (.sq (some [0,1,6,7,8,9]) (.sq (some [0,1,6,7,8,9,38]) .nl (.cd .nl .nl)) (.sq (some [0,1,6,7,8,9]) .nl (.sq none .nl .nl)))))) [0,1,2,6,7] (fun q t H=>match Nat.beq q 0 with | true=>app 2 j1 (vals [6,7] t) H | false=>(fun _ _ _=>none) q t H) (retK P 52)) [x3,x4,x5,x6,x7] h8:=by rw [dl_seg_Scan]; kernel_rfl
 refine h1.trans ((loopF_eq (P:=P) cf (nT P 52) (atC P 52 [1,0,0,0]) (.sq none (.sq none .nl (.cd .nl .nl)) (.bl none (.sq (some [0,1,2,6,7,8,9,10]) .nl (.sq (some [0,1,6,7,8,9]) (.sq (some [0,1,6,7,8,9,38]) .nl (.cd .nl .nl)) (.sq (some [0,1,6,7,8,9]) .nl (.sq none .nl .nl)))))) [0,1,2,6,7] (fun q t H=>match Nat.beq q 0 with | true=>app 2 j1 (vals [6,7] t) H | false=>(fun _ _ _=>none) q t H) (retK P 52) [x3,x4,x5,x6,x7] rfl h8).trans ((rl_seg_Scan JN GO cf j1 _ x3 x4 x5 x6 x7 h8).trans ?_))
 rw [dl_seg_Scan]
noncomputable def s_seg_Scan (J:JT) (G:GT) (cf:CF) (a0 a1 a2:AV) (H:Hp):R:=
 J 2 (fun j0=>
 J 2 (fun j1=>
 l_seg_Scan J G cf j1 a0 a1 a2 .slice0 (.int .i64 0) H) (fun x110 x111 h112=>
 j0 x110 x111 h112)) (fun x113 x114 h115=>
 some (.tuple [x113,x114],h115))
theorem c_seg_Scan {a0 a1 a2:AV} {H:Hp} {r:AV × Hp} (h:s_seg_Scan JN GO cK a0 a1 a2 H=some r):cK (.func (.func 52) [] []) [a0,a1,a2] H=some r:=callF_fix (first:=[]) (cap:=[]) (Eq.trans (by kernel_rfl) h)
noncomputable def l_seg_Pick (J:JT) (G:GT) (cf:CF) (j2:K.Fn 1):K.Fn 4:=LP 4 fun j3=>fun x4 x5 x6 x7 h8=>
 B1 (ilt x7 x6) fun v9=>
 CD v9 (
 J 4 (fun j10=>
 J 4 (fun j11=>
 B1 (ia 1 x5 x7) fun v12=>
 B1 (ld v12 h8) fun v13=>
 J 6 (fun j14=>
 B2 (cf (.func (.func 53) [] []) [v13] h8) fun v15 h16=>
 B1 (ex 0 v15) fun v17=>
 B1 (ex 1 v15) fun v18=>
 j14 x4 v17 v18 x5 x6 x7 h16) (fun x19 x20 x21 x22 x23 x24 h25=>
 CD x21 (
 B1 (fl [(.int .i64 0)] [(0,1,x20)]) fun l26=>
 BN (newCells h25 l26 2 0) fun i27 h28=>
 B2 (app' 2 1 [(.int .i64 0)] false x19 (.slice i27 0 1 1 true 1) h28) fun v29 h30=>
 j11 v29 x22 x23 x24 h30) (
 j11 x19 x22 x23 x24 h25))) (fun x31 x32 x33 x34 h35=>
 j10 x31 x32 x33 x34 h35)) (fun x36 x37 x38 x39 h40=>
 B1 (iadd x39 (.int .i64 1)) fun v41=>
 j3 x36 x37 x38 v41 h40)) (
 j2 x4 h8)
theorem rl_seg_Pick (J:JT) (G:GT) (cf:CF) (j2:K.Fn 1) (j3:K.Fn 4) (x4 x5 x6 x7:AV) (h8:Hp):codeF P J G cf (nT P 37) (atC P 37 [1,1,0,1,0,0]) (.sq none .nl (.sq none (.cd .nl .nl) (.sq (some [3,8,9,10]) (.bl (some [3,8,9,10]) (.sq none .nl (.sq (some [3,6,7,8,9,10]) .nl (.sq none .nl (.cd .nl .nl))))) .nl))) (fun t H=>app 4 j3 (vals [3,8,9,10] t) H) (fun q t H=>match Nat.beq q 0 with | true=>app 1 j2 (vals [3] t) H | false=>(fun _ _ _=>none) q t H) (retK P 37) (mkT (nT P 37) [3,8,9,10] [x4,x5,x6,x7]) h8=
(B1 (ilt x7 x6) fun v9=>
 CD v9 (
 J 4 (fun j10=>
 J 4 (fun j11=>
 B1 (ia 1 x5 x7) fun v12=>
 B1 (ld v12 h8) fun v13=>
 J 6 (fun j14=>
 B2 (cf (.func (.func 53) [] []) [v13] h8) fun v15 h16=>
 B1 (ex 0 v15) fun v17=>
 B1 (ex 1 v15) fun v18=>
 j14 x4 v17 v18 x5 x6 x7 h16) (fun x19 x20 x21 x22 x23 x24 h25=>
 CD x21 (
 B1 (fl [(.int .i64 0)] [(0,1,x20)]) fun l26=>
 BN (newCells h25 l26 2 0) fun i27 h28=>
 B2 (app' 2 1 [(.int .i64 0)] false x19 (.slice i27 0 1 1 true 1) h28) fun v29 h30=>
 j11 v29 x22 x23 x24 h30) (
 j11 x19 x22 x23 x24 h25))) (fun x31 x32 x33 x34 h35=>
 j10 x31 x32 x33 x34 h35)) (fun x36 x37 x38 x39 h40=>
 B1 (iadd x39 (.int .i64 1)) fun v41=>
 j3 x36 x37 x38 v41 h40)) (
 j2 x4 h8)):=by kernel_rfl
theorem dl_seg_Pick (J:JT) (G:GT) (cf:CF) (j2:K.Fn 1):l_seg_Pick J G cf j2=loopF P J G cf (nT P 37) (atC P 37 [1,1,0,1,0,0]) (.sq none .nl (.sq none (.cd .nl .nl) (.sq (some [3,8,9,10]) (.bl (some [3,8,9,10]) (.sq none .nl (.sq (some [3,6,7,8,9,10]) .nl (.sq none .nl (.cd .nl .nl))))) .nl))) [3,8,9,10] (fun q t H=>match Nat.beq q 0 with | true=>app 1 j2 (vals [3] t) H | false=>(fun _ _ _=>none) q t H) (retK P 37):=by
 unfold l_seg_Pick loopF
 refine congrArg (LP 4) ?_
 funext j3 x4 x5 x6 x7 h8
 exact (rl_seg_Pick J G cf j2 j3 x4 x5 x6 x7 h8).symm
theorem ql_seg_Pick (cf:CF) (j2:K.Fn 1) (x4 x5 x6 x7:AV) (h8:Hp):l_seg_Pick JN GO cf j2 x4 x5 x6 x7 h8=
 B1 (ilt x7 x6) fun v9=>
 CD v9 (
 JN 4 (fun j10=>
 JN 4 (fun j11=>
 B1 (ia 1 x5 x7) fun v12=>
 B1 (ld v12 h8) fun v13=>
 JN 6 (fun j14=>
 B2 (cf (.func (.func 53) [] []) [v13] h8) fun v15 h16=>
 B1 (ex 0 v15) fun v17=>
 B1 (ex 1 v15) fun v18=>
 j14 x4 v17 v18 x5 x6 x7 h16) (fun x19 x20 x21 x22 x23 x24 h25=>
 CD x21 (
 B1 (fl [(.int .i64 0)] [(0,1,x20)]) fun l26=>
 BN (newCells h25 l26 2 0) fun i27 h28=>
 B2 (app' 2 1 [(.int .i64 0)] false x19 (.slice i27 0 1 1 true 1) h28) fun v29 h30=>
 j11 v29 x22 x23 x24 h30) (
 j11 x19 x22 x23 x24 h25))) (fun x31 x32 x33 x34 h35=>
 j10 x31 x32 x33 x34 h35)) (fun x36 x37 x38 x39 h40=>
 B1 (iadd x39 (.int .i64 1)) fun v41=>
 l_seg_Pick JN GO cf j2 x36 x37 x38 v41 h40)) (
 j2 x4 h8):=by
 have h1:l_seg_Pick JN GO cf j2 x4 x5 x6 x7 h8=app 4 (loopF P JN GO cf (nT P 37) (atC P 37 [1,1,0,1,0,0]) (.sq none .nl (.sq none (.cd .nl .nl) (.sq (some [3,8,9,10]) (.bl (some [3,8,9,10]) (.sq none .nl (.sq (some [3,6,7,8,9,10]) .nl (.sq none .nl (.cd .nl .nl))))) .nl))) [3,8,9,10] (fun q t H=>match Nat.beq q 0 with | true=>app 1 j2 (vals [3] t) H | false=>(fun _ _ _=>none) q t H) (retK P 37)) [x4,x5,x6,x7] h8:=by rw [dl_seg_Pick]; kernel_rfl
 refine h1.trans ((loopF_eq (P:=P) cf (nT P 37) (atC P 37 [1,1,0,1,0,0]) (.sq none .nl (.sq none (.cd .nl .nl) (.sq (some [3,8,9,10]) (.bl (some [3,8,9,10]) (.sq none .nl (.sq (some [3,6,7,8,9,10]) .nl (.sq none .nl (.cd .nl .nl))))) .nl))) [3,8,9,10] (fun q t H=>match Nat.beq q 0 with | true=>app 1 j2 (vals [3] t) H | false=>(fun _ _ _=>none) q t H) (retK P 37) [x4,x5,x6,x7] rfl h8).trans ((rl_seg_Pick JN GO cf j2 _ x4 x5 x6 x7 h8).trans ?_))
 rw [dl_seg_Pick]
noncomputable def s_seg_Pick (J:JT) (G:GT) (cf:CF) (a0:AV) (H:Hp):R:=
 J 1 (fun j0=>
 B1 (lenx a0) fun v1=>
 J 1 (fun j2=>
 l_seg_Pick J G cf j2 .slice0 a0 v1 (.int .i64 0) H) (fun x42 h43=>
 j0 x42 h43)) (fun x44 h45=>
 B2 (cf (.func (.func 54) [] []) [x44] h45) fun v46 h47=>
 B2 (cf (.func (.func 55) [] []) [x44] h47) fun v48 h49=>
 some (v48,h49))
theorem c_seg_Pick {a0:AV} {H:Hp} {r:AV × Hp} (h:s_seg_Pick JN GO cK a0 H=some r):cK (.func (.func 37) [] []) [a0] H=some r:=callF_fix (first:=[]) (cap:=[]) (Eq.trans (by kernel_rfl) h)
noncomputable def l_slices_Compact___int64_int64_1 (J:JT) (G:GT) (cf:CF) (j6:K.Fn 1) (j14:K.Fn 2) (j28:K.Fn 2):K.Fn 4:=LP 4 fun j29=>fun x30 x31 x32 x33 h34=>
 B1 (lenx x32) fun v35=>
 B1 (ilt x33 v35) fun v36=>
 CD v36 (
 J 4 (fun j37=>
 J 4 (fun j38=>
 J 5 (fun j39=>
 B1 (ia 1 x32 x33) fun v40=>
 B1 (ld v40 h34) fun v41=>
 B1 (isub x33 (.int .i64 1)) fun v42=>
 B1 (ia 1 x32 v42) fun v43=>
 B1 (ld v43 h34) fun v44=>
 B1 (ine v41 v44) fun v45=>
 j39 x30 x31 x32 x33 v45 h34) (fun x46 x47 x48 x49 x50 h51=>
 CD x50 (
 J 4 (fun j52=>
 B1 (ia 1 x48 x49) fun v53=>
 B1 (ld v53 h51) fun v54=>
 B1 (ia 1 x46 x47) fun v55=>
 B1 (st 1 v55 v54 h51) fun h56=>
 j52 x46 x47 x48 x49 h56) (fun x57 x58 x59 x60 h61=>
 B1 (iadd x58 (.int .i64 1)) fun v62=>
 j38 x57 v62 x59 x60 h61)) (
 j38 x46 x47 x48 x49 h51))) (fun x63 x64 x65 x66 h67=>
 j37 x63 x64 x65 x66 h67)) (fun x68 x69 x70 x71 h72=>
 B1 (iadd x71 (.int .i64 1)) fun v73=>
 j29 x68 x69 x70 v73 h72)) (
 j28 x30 x31 h34)
theorem rl_slices_Compact___int64_int64_1 (J:JT) (G:GT) (cf:CF) (j6:K.Fn 1) (j14:K.Fn 2) (j28:K.Fn 2) (j29:K.Fn 4) (x30 x31 x32 x33:AV) (h34:Hp):codeF P J G cf (nT P 55) (atC P 55 [1,1,0,1,0,0,1,0,0,1,0,1,0,1,0,0]) (.sq none (.sq none .nl (.cd .nl .nl)) (.sq (some [0,3,4,5]) (.bl (some [0,3,4,5]) (.sq (some [0,3,4,5,44]) .nl (.cd (.sq (some [0,3,4,5]) .nl .nl) .nl))) .nl)) (fun t H=>app 4 j29 (vals [0,3,4,5] t) H) (fun q t H=>match Nat.beq q 2 with | true=>app 2 j28 (vals [0,3] t) H | false=>(fun q t H=>match Nat.beq q 1 with | true=>app 2 j14 (vals [0,3] t) H | false=>(fun q t H=>match Nat.beq q 0 with | true=>app 1 j6 (vals [0] t) H | false=>(fun _ _ _=>none) q t H) q t H) q t H) (retK P 55) (mkT (nT P 55) [0,3,4,5] [x30,x31,x32,x33]) h34=
(B1 (lenx x32) fun v35=>
 B1 (ilt x33 v35) fun v36=>
 CD v36 (
 J 4 (fun j37=>
 J 4 (fun j38=>
 J 5 (fun j39=>
 B1 (ia 1 x32 x33) fun v40=>
 B1 (ld v40 h34) fun v41=>
 B1 (isub x33 (.int .i64 1)) fun v42=>
 B1 (ia 1 x32 v42) fun v43=>
 B1 (ld v43 h34) fun v44=>
 B1 (ine v41 v44) fun v45=>
 j39 x30 x31 x32 x33 v45 h34) (fun x46 x47 x48 x49 x50 h51=>
 CD x50 (
 J 4 (fun j52=>
 B1 (ia 1 x48 x49) fun v53=>
 B1 (ld v53 h51) fun v54=>
 B1 (ia 1 x46 x47) fun v55=>
 B1 (st 1 v55 v54 h51) fun h56=>
 j52 x46 x47 x48 x49 h56) (fun x57 x58 x59 x60 h61=>
 B1 (iadd x58 (.int .i64 1)) fun v62=>
 j38 x57 v62 x59 x60 h61)) (
 j38 x46 x47 x48 x49 h51))) (fun x63 x64 x65 x66 h67=>
 j37 x63 x64 x65 x66 h67)) (fun x68 x69 x70 x71 h72=>
 B1 (iadd x71 (.int .i64 1)) fun v73=>
 j29 x68 x69 x70 v73 h72)) (
 j28 x30 x31 h34)):=by kernel_rfl
theorem dl_slices_Compact___int64_int64_1 (J:JT) (G:GT) (cf:CF) (j6:K.Fn 1) (j14:K.Fn 2) (j28:K.Fn 2):l_slices_Compact___int64_int64_1 J G cf j6 j14 j28=loopF P J G cf (nT P 55) (atC P 55 [1,1,0,1,0,0,1,0,0,1,0,1,0,1,0,0]) (.sq none (.sq none .nl (.cd .nl .nl)) (.sq (some [0,3,4,5]) (.bl (some [0,3,4,5]) (.sq (some [0,3,4,5,44]) .nl (.cd (.sq (some [0,3,4,5]) .nl .nl) .nl))) .nl)) [0,3,4,5] (fun q t H=>match Nat.beq q 2 with | true=>app 2 j28 (vals [0,3] t) H | false=>(fun q t H=>match Nat.beq q 1 with | true=>app 2 j14 (vals [0,3] t) H | false=>(fun q t H=>match Nat.beq q 0 with | true=>app 1 j6 (vals [0] t) H | false=>(fun _ _ _=>none) q t H) q t H) q t H) (retK P 55):=by
 unfold l_slices_Compact___int64_int64_1 loopF
 refine congrArg (LP 4) ?_
 funext j29 x30 x31 x32 x33 h34
 exact (rl_slices_Compact___int64_int64_1 J G cf j6 j14 j28 j29 x30 x31 x32 x33 h34).symm
theorem ql_slices_Compact___int64_int64_1 (cf:CF) (j6:K.Fn 1) (j14:K.Fn 2) (j28:K.Fn 2) (x30 x31 x32 x33:AV) (h34:Hp):l_slices_Compact___int64_int64_1 JN GO cf j6 j14 j28 x30 x31 x32 x33 h34=
 B1 (lenx x32) fun v35=>
 B1 (ilt x33 v35) fun v36=>
 CD v36 (
 JN 4 (fun j37=>
 JN 4 (fun j38=>
 JN 5 (fun j39=>
 B1 (ia 1 x32 x33) fun v40=>
 B1 (ld v40 h34) fun v41=>
 B1 (isub x33 (.int .i64 1)) fun v42=>
 B1 (ia 1 x32 v42) fun v43=>
 B1 (ld v43 h34) fun v44=>
 B1 (ine v41 v44) fun v45=>
 j39 x30 x31 x32 x33 v45 h34) (fun x46 x47 x48 x49 x50 h51=>
 CD x50 (
 JN 4 (fun j52=>
 B1 (ia 1 x48 x49) fun v53=>
 B1 (ld v53 h51) fun v54=>
 B1 (ia 1 x46 x47) fun v55=>
 B1 (st 1 v55 v54 h51) fun h56=>
 j52 x46 x47 x48 x49 h56) (fun x57 x58 x59 x60 h61=>
 B1 (iadd x58 (.int .i64 1)) fun v62=>
 j38 x57 v62 x59 x60 h61)) (
 j38 x46 x47 x48 x49 h51))) (fun x63 x64 x65 x66 h67=>
 j37 x63 x64 x65 x66 h67)) (fun x68 x69 x70 x71 h72=>
 B1 (iadd x71 (.int .i64 1)) fun v73=>
 l_slices_Compact___int64_int64_1 JN GO cf j6 j14 j28 x68 x69 x70 v73 h72)) (
 j28 x30 x31 h34):=by
 have h1:l_slices_Compact___int64_int64_1 JN GO cf j6 j14 j28 x30 x31 x32 x33 h34=app 4 (loopF P JN GO cf (nT P 55) (atC P 55 [1,1,0,1,0,0,1,0,0,1,0,1,0,1,0,0]) (.sq none (.sq none .nl (.cd .nl .nl)) (.sq (some [0,3,4,5]) (.bl (some [0,3,4,5]) (.sq (some [0,3,4,5,44]) .nl (.cd (.sq (some [0,3,4,5]) .nl .nl) .nl))) .nl)) [0,3,4,5] (fun q t H=>match Nat.beq q 2 with | true=>app 2 j28 (vals [0,3] t) H | false=>(fun q t H=>match Nat.beq q 1 with | true=>app 2 j14 (vals [0,3] t) H | false=>(fun q t H=>match Nat.beq q 0 with | true=>app 1 j6 (vals [0] t) H | false=>(fun _ _ _=>none) q t H) q t H) q t H) (retK P 55)) [x30,x31,x32,x33] h34:=by rw [dl_slices_Compact___int64_int64_1]; kernel_rfl
 refine h1.trans ((loopF_eq (P:=P) cf (nT P 55) (atC P 55 [1,1,0,1,0,0,1,0,0,1,0,1,0,1,0,0]) (.sq none (.sq none .nl (.cd .nl .nl)) (.sq (some [0,3,4,5]) (.bl (some [0,3,4,5]) (.sq (some [0,3,4,5,44]) .nl (.cd (.sq (some [0,3,4,5]) .nl .nl) .nl))) .nl)) [0,3,4,5] (fun q t H=>match Nat.beq q 2 with | true=>app 2 j28 (vals [0,3] t) H | false=>(fun q t H=>match Nat.beq q 1 with | true=>app 2 j14 (vals [0,3] t) H | false=>(fun q t H=>match Nat.beq q 0 with | true=>app 1 j6 (vals [0] t) H | false=>(fun _ _ _=>none) q t H) q t H) q t H) (retK P 55) [x30,x31,x32,x33] rfl h34).trans ((rl_slices_Compact___int64_int64_1 JN GO cf j6 j14 j28 _ x30 x31 x32 x33 h34).trans ?_))
 rw [dl_slices_Compact___int64_int64_1]
noncomputable def l_slices_Compact___int64_int64_ (J:JT) (G:GT) (cf:CF) (j6:K.Fn 1):K.Fn 2:=LP 2 fun j7=>fun x8 x9 h10=>
 B1 (lenx x8) fun v11=>
 B1 (ilt x9 v11) fun v12=>
 CD v12 (
 J 2 (fun j13=>
 J 2 (fun j14=>
 J 3 (fun j15=>
 B1 (ia 1 x8 x9) fun v16=>
 B1 (ld v16 h10) fun v17=>
 B1 (isub x9 (.int .i64 1)) fun v18=>
 B1 (ia 1 x8 v18) fun v19=>
 B1 (ld v19 h10) fun v20=>
 B1 (ieq v17 v20) fun v21=>
 j15 x8 x9 v21 h10) (fun x22 x23 x24 h25=>
 CD x24 (
 B1 (sll 1 x22 (some x23) none none) fun v26=>
 J 2 (fun j27=>
 J 2 (fun j28=>
 l_slices_Compact___int64_int64_1 J G cf j6 j14 j28 x22 x23 v26 (.int .i64 1) h25) (fun x74 x75 h76=>
 j27 x74 x75 h76)) (fun x77 x78 h79=>
 B1 (sll 1 x77 (some x78) none none) fun v80=>
 B2 (builtinA P .clear #[83] [v80] h79) fun v81 h82=>
 B1 (sll 1 x77 none (some x78) none) fun v83=>
 some (v83,h82))) (
 j14 x22 x23 h25))) (fun x84 x85 h86=>
 j13 x84 x85 h86)) (fun x87 x88 h89=>
 B1 (iadd x88 (.int .i64 1)) fun v90=>
 j7 x87 v90 h89)) (
 j6 x8 h10)
theorem rl_slices_Compact___int64_int64_ (J:JT) (G:GT) (cf:CF) (j6:K.Fn 1) (j7:K.Fn 2) (x8 x9:AV) (h10:Hp):codeF P J G cf (nT P 55) (atC P 55 [1,1,0,1,0,0]) (.sq none (.sq none .nl (.cd .nl .nl)) (.sq (some [0,3]) (.bl (some [0,3]) (.sq (some [0,3,25]) .nl (.cd (.sq none .nl (.sq (some [0,3]) (.sq none .nl (.bl (some [0,3]) (.lp [0,3,4,5] (.sq none (.sq none .nl (.cd .nl .nl)) (.sq (some [0,3,4,5]) (.bl (some [0,3,4,5]) (.sq (some [0,3,4,5,44]) .nl (.cd (.sq (some [0,3,4,5]) .nl .nl) .nl))) .nl))))) (.sq none .nl (.sq none .nl .nl)))) .nl))) .nl)) (fun t H=>app 2 j7 (vals [0,3] t) H) (fun q t H=>match Nat.beq q 0 with | true=>app 1 j6 (vals [0] t) H | false=>(fun _ _ _=>none) q t H) (retK P 55) (mkT (nT P 55) [0,3] [x8,x9]) h10=
(B1 (lenx x8) fun v11=>
 B1 (ilt x9 v11) fun v12=>
 CD v12 (
 J 2 (fun j13=>
 J 2 (fun j14=>
 J 3 (fun j15=>
 B1 (ia 1 x8 x9) fun v16=>
 B1 (ld v16 h10) fun v17=>
 B1 (isub x9 (.int .i64 1)) fun v18=>
 B1 (ia 1 x8 v18) fun v19=>
 B1 (ld v19 h10) fun v20=>
 B1 (ieq v17 v20) fun v21=>
 j15 x8 x9 v21 h10) (fun x22 x23 x24 h25=>
 CD x24 (
 B1 (sll 1 x22 (some x23) none none) fun v26=>
 J 2 (fun j27=>
 J 2 (fun j28=>
 l_slices_Compact___int64_int64_1 J G cf j6 j14 j28 x22 x23 v26 (.int .i64 1) h25) (fun x74 x75 h76=>
 j27 x74 x75 h76)) (fun x77 x78 h79=>
 B1 (sll 1 x77 (some x78) none none) fun v80=>
 B2 (builtinA P .clear #[83] [v80] h79) fun v81 h82=>
 B1 (sll 1 x77 none (some x78) none) fun v83=>
 some (v83,h82))) (
 j14 x22 x23 h25))) (fun x84 x85 h86=>
 j13 x84 x85 h86)) (fun x87 x88 h89=>
 B1 (iadd x88 (.int .i64 1)) fun v90=>
 j7 x87 v90 h89)) (
 j6 x8 h10)):=by kernel_rfl
theorem dl_slices_Compact___int64_int64_ (J:JT) (G:GT) (cf:CF) (j6:K.Fn 1):l_slices_Compact___int64_int64_ J G cf j6=loopF P J G cf (nT P 55) (atC P 55 [1,1,0,1,0,0]) (.sq none (.sq none .nl (.cd .nl .nl)) (.sq (some [0,3]) (.bl (some [0,3]) (.sq (some [0,3,25]) .nl (.cd (.sq none .nl (.sq (some [0,3]) (.sq none .nl (.bl (some [0,3]) (.lp [0,3,4,5] (.sq none (.sq none .nl (.cd .nl .nl)) (.sq (some [0,3,4,5]) (.bl (some [0,3,4,5]) (.sq (some [0,3,4,5,44]) .nl (.cd (.sq (some [0,3,4,5]) .nl .nl) .nl))) .nl))))) (.sq none .nl (.sq none .nl .nl)))) .nl))) .nl)) [0,3] (fun q t H=>match Nat.beq q 0 with | true=>app 1 j6 (vals [0] t) H | false=>(fun _ _ _=>none) q t H) (retK P 55):=by
 unfold l_slices_Compact___int64_int64_ loopF
 refine congrArg (LP 2) ?_
 funext j7 x8 x9 h10
 exact (rl_slices_Compact___int64_int64_ J G cf j6 j7 x8 x9 h10).symm
theorem ql_slices_Compact___int64_int64_ (cf:CF) (j6:K.Fn 1) (x8 x9:AV) (h10:Hp):l_slices_Compact___int64_int64_ JN GO cf j6 x8 x9 h10=
 B1 (lenx x8) fun v11=>
 B1 (ilt x9 v11) fun v12=>
 CD v12 (
 JN 2 (fun j13=>
 JN 2 (fun j14=>
 JN 3 (fun j15=>
 B1 (ia 1 x8 x9) fun v16=>
 B1 (ld v16 h10) fun v17=>
 B1 (isub x9 (.int .i64 1)) fun v18=>
 B1 (ia 1 x8 v18) fun v19=>
 B1 (ld v19 h10) fun v20=>
 B1 (ieq v17 v20) fun v21=>
 j15 x8 x9 v21 h10) (fun x22 x23 x24 h25=>
 CD x24 (
 B1 (sll 1 x22 (some x23) none none) fun v26=>
 JN 2 (fun j27=>
 JN 2 (fun j28=>
 l_slices_Compact___int64_int64_1 JN GO cf j6 j14 j28 x22 x23 v26 (.int .i64 1) h25) (fun x74 x75 h76=>
 j27 x74 x75 h76)) (fun x77 x78 h79=>
 B1 (sll 1 x77 (some x78) none none) fun v80=>
 B2 (builtinA P .clear #[83] [v80] h79) fun v81 h82=>
 B1 (sll 1 x77 none (some x78) none) fun v83=>
 some (v83,h82))) (
 j14 x22 x23 h25))) (fun x84 x85 h86=>
 j13 x84 x85 h86)) (fun x87 x88 h89=>
 B1 (iadd x88 (.int .i64 1)) fun v90=>
 l_slices_Compact___int64_int64_ JN GO cf j6 x87 v90 h89)) (
 j6 x8 h10):=by
 have h1:l_slices_Compact___int64_int64_ JN GO cf j6 x8 x9 h10=app 2 (loopF P JN GO cf (nT P 55) (atC P 55 [1,1,0,1,0,0]) (.sq none (.sq none .nl (.cd .nl .nl)) (.sq (some [0,3]) (.bl (some [0,3]) (.sq (some [0,3,25]) .nl (.cd (.sq none .nl (.sq (some [0,3]) (.sq none .nl (.bl (some [0,3]) (.lp [0,3,4,5] (.sq none (.sq none .nl (.cd .nl .nl)) (.sq (some [0,3,4,5]) (.bl (some [0,3,4,5]) (.sq (some [0,3,4,5,44]) .nl (.cd (.sq (some [0,3,4,5]) .nl .nl) .nl))) .nl))))) (.sq none .nl (.sq none .nl .nl)))) .nl))) .nl)) [0,3] (fun q t H=>match Nat.beq q 0 with | true=>app 1 j6 (vals [0] t) H | false=>(fun _ _ _=>none) q t H) (retK P 55)) [x8,x9] h10:=by rw [dl_slices_Compact___int64_int64_]; kernel_rfl
 refine h1.trans ((loopF_eq (P:=P) cf (nT P 55) (atC P 55 [1,1,0,1,0,0]) (.sq none (.sq none .nl (.cd .nl .nl)) (.sq (some [0,3]) (.bl (some [0,3]) (.sq (some [0,3,25]) .nl (.cd (.sq none .nl (.sq (some [0,3]) (.sq none .nl (.bl (some [0,3]) (.lp [0,3,4,5] (.sq none (.sq none .nl (.cd .nl .nl)) (.sq (some [0,3,4,5]) (.bl (some [0,3,4,5]) (.sq (some [0,3,4,5,44]) .nl (.cd (.sq (some [0,3,4,5]) .nl .nl) .nl))) .nl))))) (.sq none .nl (.sq none .nl .nl)))) .nl))) .nl)) [0,3] (fun q t H=>match Nat.beq q 0 with | true=>app 1 j6 (vals [0] t) H | false=>(fun _ _ _=>none) q t H) (retK P 55) [x8,x9] rfl h10).trans ((rl_slices_Compact___int64_int64_ JN GO cf j6 _ x8 x9 h10).trans ?_))
 rw [dl_slices_Compact___int64_int64_]
noncomputable def s_slices_Compact___int64_int64_ (J:JT) (G:GT) (cf:CF) (a0:AV) (H:Hp):R:=
 J 1 (fun j0=>
 B1 (lenx a0) fun v1=>
 B1 (ilt v1 (.int .i64 2)) fun v2=>
 CD v2 (
 some (a0,H)) (
 j0 a0 H)) (fun x3 h4=>
 J 1 (fun j5=>
 J 1 (fun j6=>
 l_slices_Compact___int64_int64_ J G cf j6 x3 (.int .i64 1) h4) (fun x91 h92=>
 j5 x91 h92)) (fun x93 h94=>
 some (x93,h94)))
theorem c_slices_Compact___int64_int64_ {a0:AV} {H:Hp} {r:AV × Hp} (h:s_slices_Compact___int64_int64_ JN GO cK a0 H=some r):cK (.func (.func 55) [] []) [a0] H=some r:=callF_fix (first:=[]) (cap:=[]) (Eq.trans (by kernel_rfl) h)
noncomputable def s_wal_Log_Append (J:JT) (G:GT) (cf:CF) (a0 a1 a2:AV) (H:Hp):R:=
 J 3 (fun j0=>
 J 4 (fun j1=>
 B2 (cf (.func (.func 22) [] []) [a0] H) fun v2 h3=>
 B1 (ilt a1 v2) fun v4=>
 G v4 false (fun k5=>
 k5 a1 h3) (fun v6 h7=>
 G v4 false (fun k8=>
 B1 (igt v6 (.int .i64 1048575)) fun v9=>
 k8 v9 h7) (fun v10 h11=>
 B1 (pk v4 (.bool true) v10) fun v12=>
 j1 a0 a1 a2 v12 h11) h7) h3) (fun x13 x14 x15 x16 h17=>
 CD x16 (
 some (.tuple [(.int .u64 0),(.int .i64 1)],h17)) (
 j0 x13 x14 x15 h17))) (fun x18 x19 x20 h21=>
 J 4 (fun j22=>
 B2 (cf (.func (.func 16) [] []) [x18] h21) fun v23 h24=>
 B2 (cf (.func (.func 24) [] []) [x19,v23] h24) fun v25 h26=>
 B1 (ex 0 v25) fun v27=>
 B1 (ex 1 v25) fun v28=>
 j22 x18 x20 v27 v28 h26) (fun x29 x30 x31 x32 h33=>
 J 4 (fun j34=>
 B2 (cf (.func (.func 25) [] []) [x30] h33) fun v35 h36=>
 B1 (fl [(.int .u64 0),.slice0] [(0,1,x31),(1,1,v35)]) fun l37=>
 BN (newCells h36 [(.int .u64 0),.slice0] 37 0) fun i38 h39=>
 B1 (st 2 (.ptr i38 0) (.agg l37) h39) fun h40=>
 j34 x29 x31 x32 (.ptr i38 0) h40) (fun x41 x42 x43 x44 h45=>
 J 6 (fun j46=>
 B1 (lda 2 x44 h45) fun v47=>
 B2 (cf (.func (.func 26) [] []) [.slice0,v47] h45) fun v48 h49=>
 B1 (ex 0 v48) fun v50=>
 B1 (ex 1 v48) fun v51=>
 j46 x41 x42 x43 x44 v50 v51 h49) (fun x52 x53 x54 x55 x56 x57 h58=>
 J 4 (fun j59=>
 B1 (ine x57 (.int .i64 0)) fun v60=>
 CD v60 (
 some (.tuple [(.int .u64 0),x57],h58)) (
 B1 (unA .not x54) fun v61=>
 CD v61 (
 some (.tuple [(.int .u64 0),(.int .i64 6)],h58)) (
 j59 x52 x53 x55 x56 h58))) (fun x62 x63 x64 x65 h66=>
 J 5 (fun j67=>
 B1 (nilA x62) fun v68=>
 B1 (fa 2 v68) fun v69=>
 B1 (ld v69 h66) fun v70=>
 B1 (lenx v70) fun v71=>
 B1 (isub v71 (.int .i64 1)) fun v72=>
 j67 x62 x63 x64 x65 v72 h66) (fun x73 x74 x75 x76 x77 h78=>
 J 5 (fun j79=>
 J 6 (fun j80=>
 B1 (ilt x77 (.int .i64 0)) fun v81=>
 GD2 v81 false (
 B1 (nilA x73) fun v82=>
 B1 (fa 2 v82) fun v83=>
 B1 (ld v83 h78) fun v84=>
 B1 (ia 2 v84 x77) fun v85=>
 B1 (fa 1 v85) fun v86=>
 B1 (ld v86 h78) fun v87=>
 B1 (nilA x73) fun v88=>
 B1 (fa 1 v88) fun v89=>
 B1 (ld v89 h78) fun v90=>
 B1 (ige v87 v90) fun v91=>
 j80 x73 x74 x75 x76 x77 v91 h78) (
 j80 x73 x74 x75 x76 x77 (.bool true) h78)) (fun x92 x93 x94 x95 x96 x97 h98=>
 CD x97 (
 J 6 (fun j99=>
 B2 (cf (.func (.func 16) [] []) [x92] h98) fun v100 h101=>
 B1 (fl [(.int .i64 0),(.int .i64 0)] [(0,1,v100)]) fun l102=>
 BN (newCells h101 [(.int .i64 0),(.int .i64 0)] 66 0) fun i103 h104=>
 B1 (st 2 (.ptr i103 0) (.agg l102) h104) fun h105=>
 j99 x92 x93 x94 x95 x96 (.ptr i103 0) h105) (fun x106 x107 x108 x109 x110 x111 h112=>
 J 6 (fun j113=>
 J 7 (fun j114=>
 B1 (nilA x106) fun v115=>
 B1 (fa 0 v115) fun v116=>
 B1 (ld v116 h112) fun v117=>
 B1 (lda 2 x111 h112) fun v118=>
 B2 (cf (.func (.func 28) [] []) [v118] h112) fun v119 h120=>
 B2 (cf (.func (.func 27) [] []) [v117,v119,x109] h120) fun v121 h122=>
 B1 (ld v116 h120) fun v123=>
 SM v117 v123 <|
 j114 x106 x107 x108 x109 x110 x111 v121 h122) (fun x124 x125 x126 x127 x128 x129 x130 h131=>
 B1 (ine x130 (.int .i64 0)) fun v132=>
 CD v132 (
 some (.tuple [(.int .u64 0),x130],h131)) (
 j113 x124 x125 x126 x127 x128 x129 h131))) (fun x133 x134 x135 x136 x137 x138 h139=>
 J 5 (fun j140=>
 B1 (nilA x133) fun v141=>
 B1 (fa 2 v141) fun v142=>
 B1 (ld v142 h139) fun v143=>
 B1 (lda 2 x138 h139) fun v144=>
 B1 (fl [(.int .i64 0),(.int .i64 0)] [(0,2,v144)]) fun l145=>
 BN (newCells h139 l145 66 0) fun i146 h147=>
 B2 (app' 66 2 [(.int .i64 0),(.int .i64 0)] false v143 (.slice i146 0 1 1 true 2) h147) fun v148 h149=>
 B1 (nilA x133) fun v150=>
 B1 (fa 2 v150) fun v151=>
 B1 (st 1 v151 v148 h149) fun h152=>
 B1 (ld v142 h147) fun v153=>
 SM v143 v153 <|
 j140 x133 x134 x135 x136 x137 h152) (fun x154 x155 x156 x157 x158 h159=>
 B1 (iadd x158 (.int .i64 1)) fun v160=>
 j79 x154 x155 x156 x157 v160 h159)))) (
 J 6 (fun j161=>
 B1 (nilA x92) fun v162=>
 B1 (fa 0 v162) fun v163=>
 B1 (ld v163 h98) fun v164=>
 B1 (nilA x92) fun v165=>
 B1 (fa 2 v165) fun v166=>
 B1 (ld v166 h98) fun v167=>
 B1 (ia 2 v167 x96) fun v168=>
 B1 (lda 2 v168 h98) fun v169=>
 B2 (cf (.func (.func 28) [] []) [v169] h98) fun v170 h171=>
 B2 (cf (.func (.func 27) [] []) [v164,v170,x95] h171) fun v172 h173=>
 B1 (ld v163 h171) fun v174=>
 SM v164 v174 <|
 j161 x92 x93 x94 x95 x96 v172 h173) (fun x175 x176 x177 x178 x179 x180 h181=>
 B1 (ine x180 (.int .i64 0)) fun v182=>
 CD v182 (
 some (.tuple [(.int .u64 0),x180],h181)) (
 j79 x175 x176 x177 x178 x179 h181))))) (fun x183 x184 x185 x186 x187 h188=>
 J 3 (fun j189=>
 B1 (nilA x183) fun v190=>
 B1 (fa 2 v190) fun v191=>
 B1 (ld v191 h188) fun v192=>
 B1 (ia 2 v192 x187) fun v193=>
 B1 (fa 1 v193) fun v194=>
 B1 (ld v194 h188) fun v195=>
 B1 (lenx x186) fun v196=>
 B1 (iadd v195 v196) fun v197=>
 B1 (ia 2 v192 x187) fun v198=>
 B1 (fa 1 v198) fun v199=>
 B1 (st 1 v199 v197 h188) fun h200=>
 j189 x183 x184 x185 h200) (fun x201 x202 x203 h204=>
 J 1 (fun j205=>
 B1 (nilA x201) fun v206=>
 B1 (fa 3 v206) fun v207=>
 B1 (ld v207 h204) fun v208=>
 B1 (lda 2 x203 h204) fun v209=>
 B1 (fl [(.int .u64 0),.slice0] [(0,2,v209)]) fun l210=>
 BN (newCells h204 l210 37 0) fun i211 h212=>
 B2 (app' 37 2 [(.int .u64 0),.slice0] false v208 (.slice i211 0 1 1 true 2) h212) fun v213 h214=>
 B1 (nilA x201) fun v215=>
 B1 (fa 3 v215) fun v216=>
 B1 (st 1 v216 v213 h214) fun h217=>
 B1 (ld v207 h212) fun v218=>
 SM v208 v218 <|
 j205 x202 h217) (fun x219 h220=>
 some (.tuple [x219,(.int .i64 0)],h220))))))))))
theorem e_wal_Log_Append (J:JT) (G:GT) (cf:CF) (a0 a1 a2:AV) (H:Hp):callF P J G prim an cf 8 [a0,a1,a2] H=s_wal_Log_Append J G cf a0 a1 a2 H:=by kernel_rfl
theorem c_wal_Log_Append {a0 a1 a2:AV} {H:Hp} {r:AV × Hp} (h:s_wal_Log_Append JN GO cK a0 a1 a2 H=some r):cK (.func (.func 8) [] []) [a0,a1,a2] H=some r:=callF_fix (first:=[]) (cap:=[]) ((e_wal_Log_Append JN GO _ a0 a1 a2 H).trans h)
noncomputable def l_wal_Log_Cut (J:JT) (G:GT) (cf:CF) (j42:K.Fn 0):K.Fn 3:=LP 3 fun j43=>fun x44 x45 x46 h47=>
 J 3 (fun j48=>
 J 4 (fun j49=>
 B1 (ige x46 (.int .i64 0)) fun v50=>
 G v50 true (fun k51=>
 k51 x44 h47) (fun v52 h53=>
 G v50 true (fun k54=>
 B2 (cf (.func (.func 16) [] []) [v52] h53) fun v55 h56=>
 k54 v55 h56) (fun v57 h58=>
 G v50 true (fun k59=>
 k59 x45 h58) (fun v60 h61=>
 G v50 true (fun k62=>
 B1 (igt v57 v60) fun v63=>
 k62 v63 h61) (fun v64 h65=>
 B1 (pk v50 v64 (.bool false)) fun v66=>
 j49 x44 x45 x46 v66 h65) h61) h58) h53) h47) (fun x67 x68 x69 x70 h71=>
 CD x70 (
 j48 x67 x68 x69 h71) (
 j42  h71))) (fun x72 x73 x74 h75=>
 J 3 (fun j76=>
 J 4 (fun j77=>
 B1 (nilA x72) fun v78=>
 B1 (fa 2 v78) fun v79=>
 B1 (ld v79 h75) fun v80=>
 B1 (ia 2 v80 x74) fun v81=>
 B1 (lda 2 v81 h75) fun v82=>
 BN (newCells h75 [(.int .i64 0),(.int .i64 0)] 66 0) fun i83 h84=>
 B1 (st 2 (.ptr i83 0) v82 h84) fun h85=>
 j77 x72 x73 x74 (.ptr i83 0) h85) (fun x86 x87 x88 x89 h90=>
 J 5 (fun j91=>
 B1 (fa 0 x89) fun v92=>
 B1 (ld v92 h90) fun v93=>
 B1 (isub x87 v93) fun v94=>
 B2 (builtinA P .max #[2,2] [v94,(.int .i64 0)] h90) fun v95 h96=>
 j91 x86 x87 x88 x89 v95 h96) (fun x97 x98 x99 x100 x101 h102=>
 J 6 (fun j103=>
 B1 (lda 2 x100 h102) fun v104=>
 B2 (cf (.func (.func 30) [] []) [x97,v104,x101] h102) fun v105 h106=>
 j103 x97 x98 x99 x100 x101 v105 h106) (fun x107 x108 x109 x110 x111 x112 h113=>
 J 7 (fun j114=>
 J 7 (fun j115=>
 B1 (igt x111 (.int .i64 0)) fun v116=>
 G v116 false (fun k117=>
 k117 x109 h113) (fun v118 h119=>
 G v116 false (fun k120=>
 B1 (ieq v118 (.int .i64 0)) fun v121=>
 k120 v121 h119) (fun v122 h123=>
 B1 (pk v116 (.bool true) v122) fun v124=>
 j115 x107 x108 x109 x110 x111 x112 v124 h123) h119) h113) (fun x125 x126 x127 x128 x129 x130 x131 h132=>
 CD x131 (
 B1 (nilA x125) fun v133=>
 B1 (fa 0 v133) fun v134=>
 B1 (ld v134 h132) fun v135=>
 B1 (lda 2 x128 h132) fun v136=>
 B2 (cf (.func (.func 28) [] []) [v136] h132) fun v137 h138=>
 B2 (cf (.func (.func 31) [] []) [v135,v137,x130] h138) fun v139 h140=>
 B1 (ld v134 h138) fun v141=>
 SM v135 v141 <|
 j114 x125 x126 x127 x128 x129 x130 v139 h140) (
 B1 (nilA x125) fun v142=>
 B1 (fa 0 v142) fun v143=>
 B1 (ld v143 h132) fun v144=>
 B1 (lda 2 x128 h132) fun v145=>
 B2 (cf (.func (.func 28) [] []) [v145] h132) fun v146 h147=>
 B2 (cf (.func (.func 32) [] []) [v144,v146] h147) fun v148 h149=>
 B1 (ld v143 h147) fun v150=>
 SM v144 v150 <|
 j114 x125 x126 x127 x128 x129 x130 v148 h149))) (fun x151 x152 x153 x154 x155 x156 x157 h158=>
 B1 (ine x157 (.int .i64 0)) fun v159=>
 CD v159 (
 some (x157,h158)) (
 J 5 (fun j160=>
 B1 (nilA x151) fun v161=>
 B1 (fa 3 v161) fun v162=>
 B1 (ld v162 h158) fun v163=>
 B1 (fa 0 x154) fun v164=>
 B1 (ld v164 h158) fun v165=>
 B2 (builtinA P .max #[2,2] [x152,v165] h158) fun v166 h167=>
 B1 (nilA x151) fun v168=>
 B1 (fa 4 v168) fun v169=>
 B1 (ld v169 h158) fun v170=>
 B1 (isub v166 v170) fun v171=>
 B1 (sll 2 v163 none (some v171) none) fun v172=>
 B1 (nilA x151) fun v173=>
 B1 (fa 3 v173) fun v174=>
 B1 (st 1 v174 v172 h158) fun h175=>
 j160 x151 x152 x153 x155 x156 h175) (fun x176 x177 x178 x179 x180 h181=>
 J 4 (fun j182=>
 B1 (nilA x176) fun v183=>
 B1 (fa 2 v183) fun v184=>
 B1 (ld v184 h181) fun v185=>
 B1 (ia 2 v185 x178) fun v186=>
 B1 (fa 1 v186) fun v187=>
 B1 (st 1 v187 x180 h181) fun h188=>
 j182 x176 x177 x178 x179 h188) (fun x189 x190 x191 x192 h193=>
 J 3 (fun j194=>
 J 4 (fun j195=>
 B1 (ieq x192 (.int .i64 0)) fun v196=>
 G v196 true (fun k197=>
 k197 x191 h193) (fun v198 h199=>
 G v196 true (fun k200=>
 B1 (igt v198 (.int .i64 0)) fun v201=>
 k200 v201 h199) (fun v202 h203=>
 B1 (pk v196 v202 (.bool false)) fun v204=>
 j195 x189 x190 x191 v204 h203) h199) h193) (fun x205 x206 x207 x208 h209=>
 CD x208 (
 B1 (nilA x205) fun v210=>
 B1 (fa 2 v210) fun v211=>
 B1 (ld v211 h209) fun v212=>
 B1 (sll 2 v212 none (some x207) none) fun v213=>
 B1 (nilA x205) fun v214=>
 B1 (fa 2 v214) fun v215=>
 B1 (st 1 v215 v213 h209) fun h216=>
 j194 x205 x206 x207 h216) (
 j194 x205 x206 x207 h209))) (fun x217 x218 x219 h220=>
 B1 (nilA x217) fun v221=>
 B1 (fa 5 v221) fun v222=>
 B1 (ld v222 h220) fun v223=>
 B2 (cf (.func (.func 16) [] []) [x217] h220) fun v224 h225=>
 B2 (builtinA P .min #[2,2] [v223,v224] h225) fun v226 h227=>
 B1 (nilA x217) fun v228=>
 B1 (fa 5 v228) fun v229=>
 B1 (st 1 v229 v226 h225) fun h230=>
 B1 (ld v222 h225) fun v231=>
 SM v223 v231 <|
 j76 x217 x218 x219 h230))))))))) (fun x232 x233 x234 h235=>
 B1 (isub x234 (.int .i64 1)) fun v236=>
 j43 x232 x233 v236 h235))
theorem rl_wal_Log_Cut (J:JT) (G:GT) (cf:CF) (j42:K.Fn 0) (j43:K.Fn 3) (x44 x45 x46:AV) (h47:Hp):codeF P J G cf (nT P 11) (atC P 11 [1,1,0,1,0,0]) (.sq (some [0,1,5]) (.sq (some [0,1,5,41]) .nl (.cd .nl .nl)) (.sq (some [0,1,5]) (.bl none (.sq (some [0,1,5,6]) .nl (.sq (some [0,1,5,6,7]) .nl (.sq (some [0,1,5,6,7,8]) .nl (.sq none .nl (.sq (some [0,1,5,6,7,8,9]) (.sq (some [0,1,5,6,7,8,65]) .nl (.cd .nl .nl)) (.sq none (.sq none .nl (.cd (.sq none .nl .nl) .nl)) (.sq (some [0,1,5,7,8]) .nl (.sq (some [0,1,5,7]) .nl (.sq (some [0,1,5]) (.sq (some [0,1,5,114]) .nl (.cd .nl .nl)) .nl)))))))))) .nl)) (fun t H=>app 3 j43 (vals [0,1,5] t) H) (fun q t H=>match Nat.beq q 1 with | true=>app 0 j42 (vals [] t) H | false=>(fun _ _ _=>none) q t H) (retK P 11) (mkT (nT P 11) [0,1,5] [x44,x45,x46]) h47=
(J 3 (fun j48=>
 J 4 (fun j49=>
 B1 (ige x46 (.int .i64 0)) fun v50=>
 G v50 true (fun k51=>
 k51 x44 h47) (fun v52 h53=>
 G v50 true (fun k54=>
 B2 (cf (.func (.func 16) [] []) [v52] h53) fun v55 h56=>
 k54 v55 h56) (fun v57 h58=>
 G v50 true (fun k59=>
 k59 x45 h58) (fun v60 h61=>
 G v50 true (fun k62=>
 B1 (igt v57 v60) fun v63=>
 k62 v63 h61) (fun v64 h65=>
 B1 (pk v50 v64 (.bool false)) fun v66=>
 j49 x44 x45 x46 v66 h65) h61) h58) h53) h47) (fun x67 x68 x69 x70 h71=>
 CD x70 (
 j48 x67 x68 x69 h71) (
 j42  h71))) (fun x72 x73 x74 h75=>
 J 3 (fun j76=>
 J 4 (fun j77=>
 B1 (nilA x72) fun v78=>
 B1 (fa 2 v78) fun v79=>
 B1 (ld v79 h75) fun v80=>
 B1 (ia 2 v80 x74) fun v81=>
 B1 (lda 2 v81 h75) fun v82=>
 BN (newCells h75 [(.int .i64 0),(.int .i64 0)] 66 0) fun i83 h84=>
 B1 (st 2 (.ptr i83 0) v82 h84) fun h85=>
 j77 x72 x73 x74 (.ptr i83 0) h85) (fun x86 x87 x88 x89 h90=>
 J 5 (fun j91=>
 B1 (fa 0 x89) fun v92=>
 B1 (ld v92 h90) fun v93=>
 B1 (isub x87 v93) fun v94=>
 B2 (builtinA P .max #[2,2] [v94,(.int .i64 0)] h90) fun v95 h96=>
 j91 x86 x87 x88 x89 v95 h96) (fun x97 x98 x99 x100 x101 h102=>
 J 6 (fun j103=>
 B1 (lda 2 x100 h102) fun v104=>
 B2 (cf (.func (.func 30) [] []) [x97,v104,x101] h102) fun v105 h106=>
 j103 x97 x98 x99 x100 x101 v105 h106) (fun x107 x108 x109 x110 x111 x112 h113=>
 J 7 (fun j114=>
 J 7 (fun j115=>
 B1 (igt x111 (.int .i64 0)) fun v116=>
 G v116 false (fun k117=>
 k117 x109 h113) (fun v118 h119=>
 G v116 false (fun k120=>
 B1 (ieq v118 (.int .i64 0)) fun v121=>
 k120 v121 h119) (fun v122 h123=>
 B1 (pk v116 (.bool true) v122) fun v124=>
 j115 x107 x108 x109 x110 x111 x112 v124 h123) h119) h113) (fun x125 x126 x127 x128 x129 x130 x131 h132=>
 CD x131 (
 B1 (nilA x125) fun v133=>
 B1 (fa 0 v133) fun v134=>
 B1 (ld v134 h132) fun v135=>
 B1 (lda 2 x128 h132) fun v136=>
 B2 (cf (.func (.func 28) [] []) [v136] h132) fun v137 h138=>
 B2 (cf (.func (.func 31) [] []) [v135,v137,x130] h138) fun v139 h140=>
 B1 (ld v134 h138) fun v141=>
 SM v135 v141 <|
 j114 x125 x126 x127 x128 x129 x130 v139 h140) (
 B1 (nilA x125) fun v142=>
 B1 (fa 0 v142) fun v143=>
 B1 (ld v143 h132) fun v144=>
 B1 (lda 2 x128 h132) fun v145=>
 B2 (cf (.func (.func 28) [] []) [v145] h132) fun v146 h147=>
 B2 (cf (.func (.func 32) [] []) [v144,v146] h147) fun v148 h149=>
 B1 (ld v143 h147) fun v150=>
 SM v144 v150 <|
 j114 x125 x126 x127 x128 x129 x130 v148 h149))) (fun x151 x152 x153 x154 x155 x156 x157 h158=>
 B1 (ine x157 (.int .i64 0)) fun v159=>
 CD v159 (
 some (x157,h158)) (
 J 5 (fun j160=>
 B1 (nilA x151) fun v161=>
 B1 (fa 3 v161) fun v162=>
 B1 (ld v162 h158) fun v163=>
 B1 (fa 0 x154) fun v164=>
 B1 (ld v164 h158) fun v165=>
 B2 (builtinA P .max #[2,2] [x152,v165] h158) fun v166 h167=>
 B1 (nilA x151) fun v168=>
 B1 (fa 4 v168) fun v169=>
 B1 (ld v169 h158) fun v170=>
 B1 (isub v166 v170) fun v171=>
 B1 (sll 2 v163 none (some v171) none) fun v172=>
 B1 (nilA x151) fun v173=>
 B1 (fa 3 v173) fun v174=>
 B1 (st 1 v174 v172 h158) fun h175=>
 j160 x151 x152 x153 x155 x156 h175) (fun x176 x177 x178 x179 x180 h181=>
 J 4 (fun j182=>
 B1 (nilA x176) fun v183=>
 B1 (fa 2 v183) fun v184=>
 B1 (ld v184 h181) fun v185=>
 B1 (ia 2 v185 x178) fun v186=>
 B1 (fa 1 v186) fun v187=>
 B1 (st 1 v187 x180 h181) fun h188=>
 j182 x176 x177 x178 x179 h188) (fun x189 x190 x191 x192 h193=>
 J 3 (fun j194=>
 J 4 (fun j195=>
 B1 (ieq x192 (.int .i64 0)) fun v196=>
 G v196 true (fun k197=>
 k197 x191 h193) (fun v198 h199=>
 G v196 true (fun k200=>
 B1 (igt v198 (.int .i64 0)) fun v201=>
 k200 v201 h199) (fun v202 h203=>
 B1 (pk v196 v202 (.bool false)) fun v204=>
 j195 x189 x190 x191 v204 h203) h199) h193) (fun x205 x206 x207 x208 h209=>
 CD x208 (
 B1 (nilA x205) fun v210=>
 B1 (fa 2 v210) fun v211=>
 B1 (ld v211 h209) fun v212=>
 B1 (sll 2 v212 none (some x207) none) fun v213=>
 B1 (nilA x205) fun v214=>
 B1 (fa 2 v214) fun v215=>
 B1 (st 1 v215 v213 h209) fun h216=>
 j194 x205 x206 x207 h216) (
 j194 x205 x206 x207 h209))) (fun x217 x218 x219 h220=>
 B1 (nilA x217) fun v221=>
 B1 (fa 5 v221) fun v222=>
 B1 (ld v222 h220) fun v223=>
 B2 (cf (.func (.func 16) [] []) [x217] h220) fun v224 h225=>
 B2 (builtinA P .min #[2,2] [v223,v224] h225) fun v226 h227=>
 B1 (nilA x217) fun v228=>
 B1 (fa 5 v228) fun v229=>
 B1 (st 1 v229 v226 h225) fun h230=>
 B1 (ld v222 h225) fun v231=>
 SM v223 v231 <|
 j76 x217 x218 x219 h230))))))))) (fun x232 x233 x234 h235=>
 B1 (isub x234 (.int .i64 1)) fun v236=>
 j43 x232 x233 v236 h235))):=by kernel_rfl
theorem dl_wal_Log_Cut (J:JT) (G:GT) (cf:CF) (j42:K.Fn 0):l_wal_Log_Cut J G cf j42=loopF P J G cf (nT P 11) (atC P 11 [1,1,0,1,0,0]) (.sq (some [0,1,5]) (.sq (some [0,1,5,41]) .nl (.cd .nl .nl)) (.sq (some [0,1,5]) (.bl none (.sq (some [0,1,5,6]) .nl (.sq (some [0,1,5,6,7]) .nl (.sq (some [0,1,5,6,7,8]) .nl (.sq none .nl (.sq (some [0,1,5,6,7,8,9]) (.sq (some [0,1,5,6,7,8,65]) .nl (.cd .nl .nl)) (.sq none (.sq none .nl (.cd (.sq none .nl .nl) .nl)) (.sq (some [0,1,5,7,8]) .nl (.sq (some [0,1,5,7]) .nl (.sq (some [0,1,5]) (.sq (some [0,1,5,114]) .nl (.cd .nl .nl)) .nl)))))))))) .nl)) [0,1,5] (fun q t H=>match Nat.beq q 1 with | true=>app 0 j42 (vals [] t) H | false=>(fun _ _ _=>none) q t H) (retK P 11):=by
 unfold l_wal_Log_Cut loopF
 refine congrArg (LP 3) ?_
 funext j43 x44 x45 x46 h47
 exact (rl_wal_Log_Cut J G cf j42 j43 x44 x45 x46 h47).symm
theorem ql_wal_Log_Cut (cf:CF) (j42:K.Fn 0) (x44 x45 x46:AV) (h47:Hp):l_wal_Log_Cut JN GO cf j42 x44 x45 x46 h47=
 JN 3 (fun j48=>
 JN 4 (fun j49=>
 B1 (ige x46 (.int .i64 0)) fun v50=>
 GO v50 true (fun k51=>
 k51 x44 h47) (fun v52 h53=>
 GO v50 true (fun k54=>
 B2 (cf (.func (.func 16) [] []) [v52] h53) fun v55 h56=>
 k54 v55 h56) (fun v57 h58=>
 GO v50 true (fun k59=>
 k59 x45 h58) (fun v60 h61=>
 GO v50 true (fun k62=>
 B1 (igt v57 v60) fun v63=>
 k62 v63 h61) (fun v64 h65=>
 B1 (pk v50 v64 (.bool false)) fun v66=>
 j49 x44 x45 x46 v66 h65) h61) h58) h53) h47) (fun x67 x68 x69 x70 h71=>
 CD x70 (
 j48 x67 x68 x69 h71) (
 j42  h71))) (fun x72 x73 x74 h75=>
 JN 3 (fun j76=>
 JN 4 (fun j77=>
 B1 (nilA x72) fun v78=>
 B1 (fa 2 v78) fun v79=>
 B1 (ld v79 h75) fun v80=>
 B1 (ia 2 v80 x74) fun v81=>
 B1 (lda 2 v81 h75) fun v82=>
 BN (newCells h75 [(.int .i64 0),(.int .i64 0)] 66 0) fun i83 h84=>
 B1 (st 2 (.ptr i83 0) v82 h84) fun h85=>
 j77 x72 x73 x74 (.ptr i83 0) h85) (fun x86 x87 x88 x89 h90=>
 JN 5 (fun j91=>
 B1 (fa 0 x89) fun v92=>
 B1 (ld v92 h90) fun v93=>
 B1 (isub x87 v93) fun v94=>
 B2 (builtinA P .max #[2,2] [v94,(.int .i64 0)] h90) fun v95 h96=>
 j91 x86 x87 x88 x89 v95 h96) (fun x97 x98 x99 x100 x101 h102=>
 JN 6 (fun j103=>
 B1 (lda 2 x100 h102) fun v104=>
 B2 (cf (.func (.func 30) [] []) [x97,v104,x101] h102) fun v105 h106=>
 j103 x97 x98 x99 x100 x101 v105 h106) (fun x107 x108 x109 x110 x111 x112 h113=>
 JN 7 (fun j114=>
 JN 7 (fun j115=>
 B1 (igt x111 (.int .i64 0)) fun v116=>
 GO v116 false (fun k117=>
 k117 x109 h113) (fun v118 h119=>
 GO v116 false (fun k120=>
 B1 (ieq v118 (.int .i64 0)) fun v121=>
 k120 v121 h119) (fun v122 h123=>
 B1 (pk v116 (.bool true) v122) fun v124=>
 j115 x107 x108 x109 x110 x111 x112 v124 h123) h119) h113) (fun x125 x126 x127 x128 x129 x130 x131 h132=>
 CD x131 (
 B1 (nilA x125) fun v133=>
 B1 (fa 0 v133) fun v134=>
 B1 (ld v134 h132) fun v135=>
 B1 (lda 2 x128 h132) fun v136=>
 B2 (cf (.func (.func 28) [] []) [v136] h132) fun v137 h138=>
 B2 (cf (.func (.func 31) [] []) [v135,v137,x130] h138) fun v139 h140=>
 B1 (ld v134 h138) fun v141=>
 SM v135 v141 <|
 j114 x125 x126 x127 x128 x129 x130 v139 h140) (
 B1 (nilA x125) fun v142=>
 B1 (fa 0 v142) fun v143=>
 B1 (ld v143 h132) fun v144=>
 B1 (lda 2 x128 h132) fun v145=>
 B2 (cf (.func (.func 28) [] []) [v145] h132) fun v146 h147=>
 B2 (cf (.func (.func 32) [] []) [v144,v146] h147) fun v148 h149=>
 B1 (ld v143 h147) fun v150=>
 SM v144 v150 <|
 j114 x125 x126 x127 x128 x129 x130 v148 h149))) (fun x151 x152 x153 x154 x155 x156 x157 h158=>
 B1 (ine x157 (.int .i64 0)) fun v159=>
 CD v159 (
 some (x157,h158)) (
 JN 5 (fun j160=>
 B1 (nilA x151) fun v161=>
 B1 (fa 3 v161) fun v162=>
 B1 (ld v162 h158) fun v163=>
 B1 (fa 0 x154) fun v164=>
 B1 (ld v164 h158) fun v165=>
 B2 (builtinA P .max #[2,2] [x152,v165] h158) fun v166 h167=>
 B1 (nilA x151) fun v168=>
 B1 (fa 4 v168) fun v169=>
 B1 (ld v169 h158) fun v170=>
 B1 (isub v166 v170) fun v171=>
 B1 (sll 2 v163 none (some v171) none) fun v172=>
 B1 (nilA x151) fun v173=>
 B1 (fa 3 v173) fun v174=>
 B1 (st 1 v174 v172 h158) fun h175=>
 j160 x151 x152 x153 x155 x156 h175) (fun x176 x177 x178 x179 x180 h181=>
 JN 4 (fun j182=>
 B1 (nilA x176) fun v183=>
 B1 (fa 2 v183) fun v184=>
 B1 (ld v184 h181) fun v185=>
 B1 (ia 2 v185 x178) fun v186=>
 B1 (fa 1 v186) fun v187=>
 B1 (st 1 v187 x180 h181) fun h188=>
 j182 x176 x177 x178 x179 h188) (fun x189 x190 x191 x192 h193=>
 JN 3 (fun j194=>
 JN 4 (fun j195=>
 B1 (ieq x192 (.int .i64 0)) fun v196=>
 GO v196 true (fun k197=>
 k197 x191 h193) (fun v198 h199=>
 GO v196 true (fun k200=>
 B1 (igt v198 (.int .i64 0)) fun v201=>
 k200 v201 h199) (fun v202 h203=>
 B1 (pk v196 v202 (.bool false)) fun v204=>
 j195 x189 x190 x191 v204 h203) h199) h193) (fun x205 x206 x207 x208 h209=>
 CD x208 (
 B1 (nilA x205) fun v210=>
 B1 (fa 2 v210) fun v211=>
 B1 (ld v211 h209) fun v212=>
 B1 (sll 2 v212 none (some x207) none) fun v213=>
 B1 (nilA x205) fun v214=>
 B1 (fa 2 v214) fun v215=>
 B1 (st 1 v215 v213 h209) fun h216=>
 j194 x205 x206 x207 h216) (
 j194 x205 x206 x207 h209))) (fun x217 x218 x219 h220=>
 B1 (nilA x217) fun v221=>
 B1 (fa 5 v221) fun v222=>
 B1 (ld v222 h220) fun v223=>
 B2 (cf (.func (.func 16) [] []) [x217] h220) fun v224 h225=>
 B2 (builtinA P .min #[2,2] [v223,v224] h225) fun v226 h227=>
 B1 (nilA x217) fun v228=>
 B1 (fa 5 v228) fun v229=>
 B1 (st 1 v229 v226 h225) fun h230=>
 B1 (ld v222 h225) fun v231=>
 SM v223 v231 <|
 j76 x217 x218 x219 h230))))))))) (fun x232 x233 x234 h235=>
 B1 (isub x234 (.int .i64 1)) fun v236=>
 l_wal_Log_Cut JN GO cf j42 x232 x233 v236 h235)):=by
 have h1:l_wal_Log_Cut JN GO cf j42 x44 x45 x46 h47=app 3 (loopF P JN GO cf (nT P 11) (atC P 11 [1,1,0,1,0,0]) (.sq (some [0,1,5]) (.sq (some [0,1,5,41]) .nl (.cd .nl .nl)) (.sq (some [0,1,5]) (.bl none (.sq (some [0,1,5,6]) .nl (.sq (some [0,1,5,6,7]) .nl (.sq (some [0,1,5,6,7,8]) .nl (.sq none .nl (.sq (some [0,1,5,6,7,8,9]) (.sq (some [0,1,5,6,7,8,65]) .nl (.cd .nl .nl)) (.sq none (.sq none .nl (.cd (.sq none .nl .nl) .nl)) (.sq (some [0,1,5,7,8]) .nl (.sq (some [0,1,5,7]) .nl (.sq (some [0,1,5]) (.sq (some [0,1,5,114]) .nl (.cd .nl .nl)) .nl)))))))))) .nl)) [0,1,5] (fun q t H=>match Nat.beq q 1 with | true=>app 0 j42 (vals [] t) H | false=>(fun _ _ _=>none) q t H) (retK P 11)) [x44,x45,x46] h47:=by rw [dl_wal_Log_Cut]; kernel_rfl
 refine h1.trans ((loopF_eq (P:=P) cf (nT P 11) (atC P 11 [1,1,0,1,0,0]) (.sq (some [0,1,5]) (.sq (some [0,1,5,41]) .nl (.cd .nl .nl)) (.sq (some [0,1,5]) (.bl none (.sq (some [0,1,5,6]) .nl (.sq (some [0,1,5,6,7]) .nl (.sq (some [0,1,5,6,7,8]) .nl (.sq none .nl (.sq (some [0,1,5,6,7,8,9]) (.sq (some [0,1,5,6,7,8,65]) .nl (.cd .nl .nl)) (.sq none (.sq none .nl (.cd (.sq none .nl .nl) .nl)) (.sq (some [0,1,5,7,8]) .nl (.sq (some [0,1,5,7]) .nl (.sq (some [0,1,5]) (.sq (some [0,1,5,114]) .nl (.cd .nl .nl)) .nl)))))))))) .nl)) [0,1,5] (fun q t H=>match Nat.beq q 1 with | true=>app 0 j42 (vals [] t) H | false=>(fun _ _ _=>none) q t H) (retK P 11) [x44,x45,x46] rfl h47).trans ((rl_wal_Log_Cut JN GO cf j42 _ x44 x45 x46 h47).trans ?_))
 rw [dl_wal_Log_Cut]
noncomputable def s_wal_Log_Cut (J:JT) (G:GT) (cf:CF) (a0 a1:AV) (H:Hp):R:=
 J 2 (fun j0=>
 J 3 (fun j1=>
 B2 (cf (.func (.func 16) [] []) [a0] H) fun v2 h3=>
 B1 (igt a1 v2) fun v4=>
 j1 a0 a1 v4 h3) (fun x5 x6 x7 h8=>
 CD x7 (
 some ((.int .i64 1),h8)) (
 J 3 (fun j9=>
 B1 (nilA x5) fun v10=>
 B1 (fa 4 v10) fun v11=>
 B1 (ld v11 h8) fun v12=>
 B1 (ilt x6 v12) fun v13=>
 j9 x5 x6 v13 h8) (fun x14 x15 x16 h17=>
 CD x16 (
 some ((.int .i64 13),h17)) (
 J 3 (fun j18=>
 B1 (nilA x14) fun v19=>
 B1 (fa 0 v19) fun v20=>
 B1 (ld v20 h17) fun v21=>
 B2 (cf (.func (.func 19) [] []) [v21] h17) fun v22 h23=>
 j18 x14 x15 v22 h23) (fun x24 x25 x26 h27=>
 CD x26 (
 some ((.int .i64 11),h27)) (
 j0 x24 x25 h27))))))) (fun x28 x29 h30=>
 J 0 (fun j31=>
 J 3 (fun j32=>
 B1 (nilA x28) fun v33=>
 B1 (fa 2 v33) fun v34=>
 B1 (ld v34 h30) fun v35=>
 B1 (lenx v35) fun v36=>
 B1 (isub v36 (.int .i64 1)) fun v37=>
 j32 x28 x29 v37 h30) (fun x38 x39 x40 h41=>
 J 0 (fun j42=>
 l_wal_Log_Cut J G cf j42 x38 x39 x40 h41) (fun  h237=>
 j31  h237))) (fun  h238=>
 some ((.int .i64 0),h238)))
theorem c_wal_Log_Cut {a0 a1:AV} {H:Hp} {r:AV × Hp} (h:s_wal_Log_Cut JN GO cK a0 a1 H=some r):cK (.func (.func 11) [] []) [a0,a1] H=some r:=callF_fix (first:=[]) (cap:=[]) (Eq.trans (by kernel_rfl) h)
noncomputable def s_wal_Log_End (J:JT) (G:GT) (cf:CF) (a0:AV) (H:Hp):R:=
 B1 (nilA a0) fun v0=>
 B1 (fa 4 v0) fun v1=>
 B1 (ld v1 H) fun v2=>
 B1 (nilA a0) fun v3=>
 B1 (fa 3 v3) fun v4=>
 B1 (ld v4 H) fun v5=>
 B1 (lenx v5) fun v6=>
 B1 (iadd v2 v6) fun v7=>
 some (v7,H)
theorem c_wal_Log_End {a0:AV} {H:Hp} {r:AV × Hp} (h:s_wal_Log_End JN GO cK a0 H=some r):cK (.func (.func 16) [] []) [a0] H=some r:=callF_fix (first:=[]) (cap:=[]) (Eq.trans (by kernel_rfl) h)
noncomputable def s_wal_Log_Epoch (J:JT) (G:GT) (cf:CF) (a0:AV) (H:Hp):R:=
 J 1 (fun j0=>
 J 2 (fun j1=>
 B1 (nilA a0) fun v2=>
 B1 (fa 3 v2) fun v3=>
 B1 (ld v3 H) fun v4=>
 B1 (lenx v4) fun v5=>
 B1 (ieq v5 (.int .i64 0)) fun v6=>
 j1 a0 v6 H) (fun x7 x8 h9=>
 CD x8 (
 some ((.int .i64 0),h9)) (
 j0 x7 h9))) (fun x10 h11=>
 B1 (nilA x10) fun v12=>
 B1 (fa 3 v12) fun v13=>
 B1 (ld v13 h11) fun v14=>
 B1 (nilA x10) fun v15=>
 B1 (fa 3 v15) fun v16=>
 B1 (ld v16 h11) fun v17=>
 B1 (lenx v17) fun v18=>
 B1 (isub v18 (.int .i64 1)) fun v19=>
 B1 (ia 2 v14 v19) fun v20=>
 B1 (fa 0 v20) fun v21=>
 B1 (ld v21 h11) fun v22=>
 B2 (cf (.func (.func 17) [] []) [v22] h11) fun v23 h24=>
 some (v23,h24))
theorem c_wal_Log_Epoch {a0:AV} {H:Hp} {r:AV × Hp} (h:s_wal_Log_Epoch JN GO cK a0 H=some r):cK (.func (.func 22) [] []) [a0] H=some r:=callF_fix (first:=[]) (cap:=[]) (Eq.trans (by kernel_rfl) h)
noncomputable def s_wal_Log_Get (J:JT) (G:GT) (cf:CF) (a0 a1:AV) (H:Hp):R:=
 BN (newCells H [(.int .u64 0),.slice0] 37 0) fun i0 h1=>
 J 3 (fun j2=>
 J 4 (fun j3=>
 B1 (nilA a0) fun v4=>
 B1 (fa 4 v4) fun v5=>
 B1 (ld v5 h1) fun v6=>
 B1 (ilt a1 v6) fun v7=>
 j3 a0 a1 (.ptr i0 0) v7 h1) (fun x8 x9 x10 x11 h12=>
 CD x11 (
 B1 (fl [(.int .u64 0),.slice0] []) fun l13=>
 B1 (st 2 x10 (.agg l13) h12) fun h14=>
 B1 (lda 2 x10 h14) fun v15=>
 some (.tuple [v15,(.int .i64 13)],h14)) (
 J 4 (fun j16=>
 B2 (cf (.func (.func 16) [] []) [x8] h12) fun v17 h18=>
 B1 (ige x9 v17) fun v19=>
 j16 x8 x9 x10 v19 h18) (fun x20 x21 x22 x23 h24=>
 CD x23 (
 B1 (fl [(.int .u64 0),.slice0] []) fun l25=>
 B1 (st 2 x22 (.agg l25) h24) fun h26=>
 B1 (lda 2 x22 h26) fun v27=>
 some (.tuple [v27,(.int .i64 4)],h26)) (
 j2 x20 x21 x22 h24))))) (fun x28 x29 x30 h31=>
 B1 (nilA x28) fun v32=>
 B1 (fa 3 v32) fun v33=>
 B1 (ld v33 h31) fun v34=>
 B1 (nilA x28) fun v35=>
 B1 (fa 4 v35) fun v36=>
 B1 (ld v36 h31) fun v37=>
 B1 (isub x29 v37) fun v38=>
 B1 (ia 2 v34 v38) fun v39=>
 B1 (lda 2 v39 h31) fun v40=>
 B2 (cf (.func (.func 29) [] []) [v40] h31) fun v41 h42=>
 B1 (st 2 x30 v41 h42) fun h43=>
 B1 (lda 2 x30 h43) fun v44=>
 some (.tuple [v44,(.int .i64 0)],h43))
theorem e_wal_Log_Get (J:JT) (G:GT) (cf:CF) (a0 a1:AV) (H:Hp):callF P J G prim an cf 10 [a0,a1] H=s_wal_Log_Get J G cf a0 a1 H:=by kernel_rfl
theorem c_wal_Log_Get {a0 a1:AV} {H:Hp} {r:AV × Hp} (h:s_wal_Log_Get JN GO cK a0 a1 H=some r):cK (.func (.func 10) [] []) [a0,a1] H=some r:=callF_fix (first:=[]) (cap:=[]) ((e_wal_Log_Get JN GO _ a0 a1 H).trans h)
noncomputable def l_wal_Log_Sync (J:JT) (G:GT) (cf:CF) (j23:K.Fn 1):K.Fn 4:=LP 4 fun j24=>fun x25 x26 x27 x28 h29=>
 B1 (ilt x28 x27) fun v30=>
 CD v30 (
 J 4 (fun j31=>
 J 4 (fun j32=>
 B1 (ia 2 x26 x28) fun v33=>
 B1 (lda 2 v33 h29) fun v34=>
 BN (newCells h29 [(.int .i64 0),(.int .i64 0)] 66 0) fun i35 h36=>
 B1 (st 2 (.ptr i35 0) v34 h36) fun h37=>
 J 5 (fun j38=>
 J 6 (fun j39=>
 B1 (nilA x25) fun v40=>
 B1 (fa 0 v40) fun v41=>
 B1 (ld v41 h37) fun v42=>
 B1 (lda 2 (.ptr i35 0) h37) fun v43=>
 B2 (cf (.func (.func 28) [] []) [v43] h37) fun v44 h45=>
 B2 (cf (.func (.func 33) [] []) [v42,v44] h45) fun v46 h47=>
 B1 (fa 1 (.ptr i35 0)) fun v48=>
 B1 (ld v48 h47) fun v49=>
 B1 (ieq v46 v49) fun v50=>
 B1 (ld v41 h45) fun v51=>
 SM v42 v51 <|
 B1 (ld v48 h37) fun v52=>
 SM v49 v52 <|
 B1 (ld v48 h45) fun v53=>
 SM v49 v53 <|
 j39 x25 (.ptr i35 0) x26 x27 x28 v50 h47) (fun x54 x55 x56 x57 x58 x59 h60=>
 CD x59 (
 j32 x54 x56 x57 x58 h60) (
 j38 x54 x55 x56 x57 x58 h60))) (fun x61 x62 x63 x64 x65 h66=>
 J 5 (fun j67=>
 B1 (nilA x61) fun v68=>
 B1 (fa 0 v68) fun v69=>
 B1 (ld v69 h66) fun v70=>
 B1 (lda 2 x62 h66) fun v71=>
 B2 (cf (.func (.func 28) [] []) [v71] h66) fun v72 h73=>
 B2 (cf (.func (.func 34) [] []) [v70,v72] h73) fun v74 h75=>
 B1 (ld v69 h73) fun v76=>
 SM v70 v76 <|
 j67 x61 v74 x63 x64 x65 h75) (fun x77 x78 x79 x80 x81 h82=>
 B1 (ine x78 (.int .i64 0)) fun v83=>
 CD v83 (
 some (x78,h82)) (
 j32 x77 x79 x80 x81 h82)))) (fun x84 x85 x86 x87 h88=>
 j31 x84 x85 x86 x87 h88)) (fun x89 x90 x91 x92 h93=>
 B1 (iadd x92 (.int .i64 1)) fun v94=>
 j24 x89 x90 x91 v94 h93)) (
 j23 x25 h29)
theorem rl_wal_Log_Sync (J:JT) (G:GT) (cf:CF) (j23:K.Fn 1) (j24:K.Fn 4) (x25 x26 x27 x28:AV) (h29:Hp):codeF P J G cf (nT P 12) (atC P 12 [1,1,0,1,0,0]) (.sq none .nl (.sq none (.cd .nl .nl) (.sq (some [0,14,15,16]) (.bl (some [0,14,15,16]) (.sq none .nl (.sq (some [0,4,14,15,16]) (.sq (some [0,4,14,15,16,29]) .nl (.cd .nl .nl)) (.sq (some [0,5,14,15,16]) .nl (.sq none .nl (.cd (.sq none .nl .nl) .nl)))))) .nl))) (fun t H=>app 4 j24 (vals [0,14,15,16] t) H) (fun q t H=>match Nat.beq q 0 with | true=>app 1 j23 (vals [0] t) H | false=>(fun _ _ _=>none) q t H) (retK P 12) (mkT (nT P 12) [0,14,15,16] [x25,x26,x27,x28]) h29=
(B1 (ilt x28 x27) fun v30=>
 CD v30 (
 J 4 (fun j31=>
 J 4 (fun j32=>
 B1 (ia 2 x26 x28) fun v33=>
 B1 (lda 2 v33 h29) fun v34=>
 BN (newCells h29 [(.int .i64 0),(.int .i64 0)] 66 0) fun i35 h36=>
 B1 (st 2 (.ptr i35 0) v34 h36) fun h37=>
 J 5 (fun j38=>
 J 6 (fun j39=>
 B1 (nilA x25) fun v40=>
 B1 (fa 0 v40) fun v41=>
 B1 (ld v41 h37) fun v42=>
 B1 (lda 2 (.ptr i35 0) h37) fun v43=>
 B2 (cf (.func (.func 28) [] []) [v43] h37) fun v44 h45=>
 B2 (cf (.func (.func 33) [] []) [v42,v44] h45) fun v46 h47=>
 B1 (fa 1 (.ptr i35 0)) fun v48=>
 B1 (ld v48 h47) fun v49=>
 B1 (ieq v46 v49) fun v50=>
 B1 (ld v41 h45) fun v51=>
 SM v42 v51 <|
 B1 (ld v48 h37) fun v52=>
 SM v49 v52 <|
 B1 (ld v48 h45) fun v53=>
 SM v49 v53 <|
 j39 x25 (.ptr i35 0) x26 x27 x28 v50 h47) (fun x54 x55 x56 x57 x58 x59 h60=>
 CD x59 (
 j32 x54 x56 x57 x58 h60) (
 j38 x54 x55 x56 x57 x58 h60))) (fun x61 x62 x63 x64 x65 h66=>
 J 5 (fun j67=>
 B1 (nilA x61) fun v68=>
 B1 (fa 0 v68) fun v69=>
 B1 (ld v69 h66) fun v70=>
 B1 (lda 2 x62 h66) fun v71=>
 B2 (cf (.func (.func 28) [] []) [v71] h66) fun v72 h73=>
 B2 (cf (.func (.func 34) [] []) [v70,v72] h73) fun v74 h75=>
 B1 (ld v69 h73) fun v76=>
 SM v70 v76 <|
 j67 x61 v74 x63 x64 x65 h75) (fun x77 x78 x79 x80 x81 h82=>
 B1 (ine x78 (.int .i64 0)) fun v83=>
 CD v83 (
 some (x78,h82)) (
 j32 x77 x79 x80 x81 h82)))) (fun x84 x85 x86 x87 h88=>
 j31 x84 x85 x86 x87 h88)) (fun x89 x90 x91 x92 h93=>
 B1 (iadd x92 (.int .i64 1)) fun v94=>
 j24 x89 x90 x91 v94 h93)) (
 j23 x25 h29)):=by kernel_rfl
theorem dl_wal_Log_Sync (J:JT) (G:GT) (cf:CF) (j23:K.Fn 1):l_wal_Log_Sync J G cf j23=loopF P J G cf (nT P 12) (atC P 12 [1,1,0,1,0,0]) (.sq none .nl (.sq none (.cd .nl .nl) (.sq (some [0,14,15,16]) (.bl (some [0,14,15,16]) (.sq none .nl (.sq (some [0,4,14,15,16]) (.sq (some [0,4,14,15,16,29]) .nl (.cd .nl .nl)) (.sq (some [0,5,14,15,16]) .nl (.sq none .nl (.cd (.sq none .nl .nl) .nl)))))) .nl))) [0,14,15,16] (fun q t H=>match Nat.beq q 0 with | true=>app 1 j23 (vals [0] t) H | false=>(fun _ _ _=>none) q t H) (retK P 12):=by
 unfold l_wal_Log_Sync loopF
 refine congrArg (LP 4) ?_
 funext j24 x25 x26 x27 x28 h29
 exact (rl_wal_Log_Sync J G cf j23 j24 x25 x26 x27 x28 h29).symm
theorem ql_wal_Log_Sync (cf:CF) (j23:K.Fn 1) (x25 x26 x27 x28:AV) (h29:Hp):l_wal_Log_Sync JN GO cf j23 x25 x26 x27 x28 h29=
 B1 (ilt x28 x27) fun v30=>
 CD v30 (
 JN 4 (fun j31=>
 JN 4 (fun j32=>
 B1 (ia 2 x26 x28) fun v33=>
 B1 (lda 2 v33 h29) fun v34=>
 BN (newCells h29 [(.int .i64 0),(.int .i64 0)] 66 0) fun i35 h36=>
 B1 (st 2 (.ptr i35 0) v34 h36) fun h37=>
 JN 5 (fun j38=>
 JN 6 (fun j39=>
 B1 (nilA x25) fun v40=>
 B1 (fa 0 v40) fun v41=>
 B1 (ld v41 h37) fun v42=>
 B1 (lda 2 (.ptr i35 0) h37) fun v43=>
 B2 (cf (.func (.func 28) [] []) [v43] h37) fun v44 h45=>
 B2 (cf (.func (.func 33) [] []) [v42,v44] h45) fun v46 h47=>
 B1 (fa 1 (.ptr i35 0)) fun v48=>
 B1 (ld v48 h47) fun v49=>
 B1 (ieq v46 v49) fun v50=>
 B1 (ld v41 h45) fun v51=>
 SM v42 v51 <|
 B1 (ld v48 h37) fun v52=>
 SM v49 v52 <|
 B1 (ld v48 h45) fun v53=>
 SM v49 v53 <|
 j39 x25 (.ptr i35 0) x26 x27 x28 v50 h47) (fun x54 x55 x56 x57 x58 x59 h60=>
 CD x59 (
 j32 x54 x56 x57 x58 h60) (
 j38 x54 x55 x56 x57 x58 h60))) (fun x61 x62 x63 x64 x65 h66=>
 JN 5 (fun j67=>
 B1 (nilA x61) fun v68=>
 B1 (fa 0 v68) fun v69=>
 B1 (ld v69 h66) fun v70=>
 B1 (lda 2 x62 h66) fun v71=>
 B2 (cf (.func (.func 28) [] []) [v71] h66) fun v72 h73=>
 B2 (cf (.func (.func 34) [] []) [v70,v72] h73) fun v74 h75=>
 B1 (ld v69 h73) fun v76=>
 SM v70 v76 <|
 j67 x61 v74 x63 x64 x65 h75) (fun x77 x78 x79 x80 x81 h82=>
 B1 (ine x78 (.int .i64 0)) fun v83=>
 CD v83 (
 some (x78,h82)) (
 j32 x77 x79 x80 x81 h82)))) (fun x84 x85 x86 x87 h88=>
 j31 x84 x85 x86 x87 h88)) (fun x89 x90 x91 x92 h93=>
 B1 (iadd x92 (.int .i64 1)) fun v94=>
 l_wal_Log_Sync JN GO cf j23 x89 x90 x91 v94 h93)) (
 j23 x25 h29):=by
 have h1:l_wal_Log_Sync JN GO cf j23 x25 x26 x27 x28 h29=app 4 (loopF P JN GO cf (nT P 12) (atC P 12 [1,1,0,1,0,0]) (.sq none .nl (.sq none (.cd .nl .nl) (.sq (some [0,14,15,16]) (.bl (some [0,14,15,16]) (.sq none .nl (.sq (some [0,4,14,15,16]) (.sq (some [0,4,14,15,16,29]) .nl (.cd .nl .nl)) (.sq (some [0,5,14,15,16]) .nl (.sq none .nl (.cd (.sq none .nl .nl) .nl)))))) .nl))) [0,14,15,16] (fun q t H=>match Nat.beq q 0 with | true=>app 1 j23 (vals [0] t) H | false=>(fun _ _ _=>none) q t H) (retK P 12)) [x25,x26,x27,x28] h29:=by rw [dl_wal_Log_Sync]; kernel_rfl
 refine h1.trans ((loopF_eq (P:=P) cf (nT P 12) (atC P 12 [1,1,0,1,0,0]) (.sq none .nl (.sq none (.cd .nl .nl) (.sq (some [0,14,15,16]) (.bl (some [0,14,15,16]) (.sq none .nl (.sq (some [0,4,14,15,16]) (.sq (some [0,4,14,15,16,29]) .nl (.cd .nl .nl)) (.sq (some [0,5,14,15,16]) .nl (.sq none .nl (.cd (.sq none .nl .nl) .nl)))))) .nl))) [0,14,15,16] (fun q t H=>match Nat.beq q 0 with | true=>app 1 j23 (vals [0] t) H | false=>(fun _ _ _=>none) q t H) (retK P 12) [x25,x26,x27,x28] rfl h29).trans ((rl_wal_Log_Sync JN GO cf j23 _ x25 x26 x27 x28 h29).trans ?_))
 rw [dl_wal_Log_Sync]
noncomputable def s_wal_Log_Sync (J:JT) (G:GT) (cf:CF) (a0:AV) (H:Hp):R:=
 J 1 (fun j0=>
 J 2 (fun j1=>
 B1 (nilA a0) fun v2=>
 B1 (fa 0 v2) fun v3=>
 B1 (ld v3 H) fun v4=>
 B2 (cf (.func (.func 19) [] []) [v4] H) fun v5 h6=>
 j1 a0 v5 h6) (fun x7 x8 h9=>
 CD x8 (
 some ((.int .i64 11),h9)) (
 j0 x7 h9))) (fun x10 h11=>
 J 1 (fun j12=>
 J 4 (fun j13=>
 B1 (nilA x10) fun v14=>
 B1 (fa 2 v14) fun v15=>
 B1 (ld v15 h11) fun v16=>
 B1 (lenx v16) fun v17=>
 j13 x10 v16 v17 (.int .i64 0) h11) (fun x18 x19 x20 x21 h22=>
 J 1 (fun j23=>
 l_wal_Log_Sync J G cf j23 x18 x19 x20 x21 h22) (fun x95 h96=>
 j12 x95 h96))) (fun x97 h98=>
 J 0 (fun j99=>
 B2 (cf (.func (.func 16) [] []) [x97] h98) fun v100 h101=>
 B1 (nilA x97) fun v102=>
 B1 (fa 5 v102) fun v103=>
 B1 (st 1 v103 v100 h101) fun h104=>
 j99  h104) (fun  h105=>
 some ((.int .i64 0),h105))))
theorem c_wal_Log_Sync {a0:AV} {H:Hp} {r:AV × Hp} (h:s_wal_Log_Sync JN GO cK a0 H=some r):cK (.func (.func 12) [] []) [a0] H=some r:=callF_fix (first:=[]) (cap:=[]) (Eq.trans (by kernel_rfl) h)
noncomputable def l_wal_Log_read (J:JT) (G:GT) (cf:CF) (j13:K.Fn 0):K.Fn 5:=LP 5 fun j14=>fun x15 x16 x17 x18 x19 h20=>
 B1 (ilt x19 x18) fun v21=>
 CD v21 (
 J 5 (fun j22=>
 J 7 (fun j23=>
 B1 (ia 1 x17 x19) fun v24=>
 B1 (ld v24 h20) fun v25=>
 j23 x15 x16 x19 v25 x17 x18 x19 h20) (fun x26 x27 x28 x29 x30 x31 x32 h33=>
 J 7 (fun j34=>
 B2 (cf (.func (.func 16) [] []) [x26] h33) fun v35 h36=>
 B1 (ine x29 v35) fun v37=>
 CD v37 (
 B1 (sll 1 x27 (some x28) none none) fun v38=>
 B2 (cf (.func (.func 50) [] []) [x26,v38] h36) fun v39 h40=>
 some (v39,h40)) (
 j34 x26 x27 x28 x29 x30 x31 x32 h36)) (fun x41 x42 x43 x44 x45 x46 x47 h48=>
 B1 (fl [(.int .i64 0),(.int .i64 0)] [(0,1,x44)]) fun l49=>
 BN (newCells h48 [(.int .i64 0),(.int .i64 0)] 66 0) fun i50 h51=>
 B1 (st 2 (.ptr i50 0) (.agg l49) h51) fun h52=>
 J 10 (fun j53=>
 B1 (nilA x41) fun v54=>
 B1 (fa 0 v54) fun v55=>
 B1 (ld v55 h52) fun v56=>
 B1 (lda 2 (.ptr i50 0) h52) fun v57=>
 B2 (cf (.func (.func 28) [] []) [v57] h52) fun v58 h59=>
 B2 (cf (.func (.func 51) [] []) [v56,v58] h59) fun v60 h61=>
 B1 (ex 0 v60) fun v62=>
 B1 (ex 1 v60) fun v63=>
 B1 (ld v55 h59) fun v64=>
 SM v56 v64 <|
 j53 x41 x42 x43 x44 (.ptr i50 0) v62 v63 x45 x46 x47 h61) (fun x65 x66 x67 x68 x69 x70 x71 x72 x73 x74 h75=>
 B1 (ine x71 (.int .i64 0)) fun v76=>
 CD v76 (
 some (x71,h75)) (
 J 10 (fun j77=>
 B2 (cf (.func (.func 22) [] []) [x65] h75) fun v78 h79=>
 B2 (cf (.func (.func 52) [] []) [x70,x68,v78] h79) fun v80 h81=>
 B1 (ex 0 v80) fun v82=>
 B1 (ex 1 v80) fun v83=>
 j77 x65 x66 x67 x69 x70 v82 v83 x72 x73 x74 h81) (fun x84 x85 x86 x87 x88 x89 x90 x91 x92 x93 h94=>
 B1 (fa 1 x87) fun v95=>
 B1 (st 1 v95 x90 h94) fun h96=>
 J 10 (fun j97=>
 B1 (nilA x84) fun v98=>
 B1 (fa 2 v98) fun v99=>
 B1 (ld v99 h96) fun v100=>
 B1 (lda 2 x87 h96) fun v101=>
 B1 (fl [(.int .i64 0),(.int .i64 0)] [(0,2,v101)]) fun l102=>
 BN (newCells h96 l102 66 0) fun i103 h104=>
 B2 (app' 66 2 [(.int .i64 0),(.int .i64 0)] false v100 (.slice i103 0 1 1 true 2) h104) fun v105 h106=>
 B1 (nilA x84) fun v107=>
 B1 (fa 2 v107) fun v108=>
 B1 (st 1 v108 v105 h106) fun h109=>
 B1 (ld v99 h104) fun v110=>
 SM v100 v110 <|
 j97 x84 x85 x86 x87 x88 x89 x90 x91 x92 x93 h109) (fun x111 x112 x113 x114 x115 x116 x117 x118 x119 x120 h121=>
 J 9 (fun j122=>
 B1 (nilA x111) fun v123=>
 B1 (fa 3 v123) fun v124=>
 B1 (ld v124 h121) fun v125=>
 B2 (app' 37 2 [(.int .u64 0),.slice0] false v125 x116 h121) fun v126 h127=>
 B1 (nilA x111) fun v128=>
 B1 (fa 3 v128) fun v129=>
 B1 (st 1 v129 v126 h127) fun h130=>
 j122 x111 x112 x113 x114 x115 x117 x118 x119 x120 h130) (fun x131 x132 x133 x134 x135 x136 x137 x138 x139 h140=>
 B1 (lenx x135) fun v141=>
 B1 (ilt x136 v141) fun v142=>
 CD v142 (
 J 3 (fun j143=>
 J 4 (fun j144=>
 B1 (iadd x133 (.int .i64 1)) fun v145=>
 B1 (sll 1 x132 (some v145) none none) fun v146=>
 B2 (cf (.func (.func 50) [] []) [x131,v146] h140) fun v147 h148=>
 j144 x131 x134 x136 v147 h148) (fun x149 x150 x151 x152 h153=>
 B1 (ine x152 (.int .i64 0)) fun v154=>
 CD v154 (
 some (x152,h153)) (
 j143 x149 x150 x151 h153))) (fun x155 x156 x157 h158=>
 B1 (nilA x155) fun v159=>
 B1 (fa 0 v159) fun v160=>
 B1 (ld v160 h158) fun v161=>
 B1 (lda 2 x156 h158) fun v162=>
 B2 (cf (.func (.func 28) [] []) [v162] h158) fun v163 h164=>
 B2 (cf (.func (.func 31) [] []) [v161,v163,x157] h164) fun v165 h166=>
 B1 (ld v160 h164) fun v167=>
 SM v161 v167 <|
 some (v165,h166))) (
 j22 x131 x132 x137 x138 x139 h140))))))))) (fun x168 x169 x170 x171 x172 h173=>
 B1 (iadd x172 (.int .i64 1)) fun v174=>
 j14 x168 x169 x170 x171 v174 h173)) (
 j13  h20)
theorem rl_wal_Log_read (J:JT) (G:GT) (cf:CF) (j13:K.Fn 0) (j14:K.Fn 5) (x15 x16 x17 x18 x19:AV) (h20:Hp):codeF P J G cf (nT P 36) (atC P 36 [1,1,0,1,0,0]) (.sq none .nl (.sq none (.cd .nl .nl) (.sq (some [0,1,22,23,24]) (.bl none (.sq (some [0,1,5,6,22,23,24]) .nl (.sq (some [0,1,5,6,22,23,24]) (.sq none .nl (.cd (.sq none .nl .nl) .nl)) (.sq none .nl (.sq (some [0,1,5,6,7,8,9,22,23,24]) .nl (.sq none (.sq none .nl (.cd (.sq none .nl .nl) .nl)) (.sq (some [0,1,5,7,8,10,11,22,23,24]) .nl (.sq none .nl (.sq (some [0,1,5,7,8,10,11,22,23,24]) .nl (.sq (some [0,1,5,7,8,11,22,23,24]) .nl (.sq none .nl (.cd (.sq (some [0,7,11]) (.sq (some [0,7,11,12]) .nl (.sq none .nl (.cd (.sq none .nl .nl) .nl))) (.sq none .nl .nl)) .nl)))))))))))) .nl))) (fun t H=>app 5 j14 (vals [0,1,22,23,24] t) H) (fun q t H=>match Nat.beq q 0 with | true=>app 0 j13 (vals [] t) H | false=>(fun _ _ _=>none) q t H) (retK P 36) (mkT (nT P 36) [0,1,22,23,24] [x15,x16,x17,x18,x19]) h20=
(B1 (ilt x19 x18) fun v21=>
 CD v21 (
 J 5 (fun j22=>
 J 7 (fun j23=>
 B1 (ia 1 x17 x19) fun v24=>
 B1 (ld v24 h20) fun v25=>
 j23 x15 x16 x19 v25 x17 x18 x19 h20) (fun x26 x27 x28 x29 x30 x31 x32 h33=>
 J 7 (fun j34=>
 B2 (cf (.func (.func 16) [] []) [x26] h33) fun v35 h36=>
 B1 (ine x29 v35) fun v37=>
 CD v37 (
 B1 (sll 1 x27 (some x28) none none) fun v38=>
 B2 (cf (.func (.func 50) [] []) [x26,v38] h36) fun v39 h40=>
 some (v39,h40)) (
 j34 x26 x27 x28 x29 x30 x31 x32 h36)) (fun x41 x42 x43 x44 x45 x46 x47 h48=>
 B1 (fl [(.int .i64 0),(.int .i64 0)] [(0,1,x44)]) fun l49=>
 BN (newCells h48 [(.int .i64 0),(.int .i64 0)] 66 0) fun i50 h51=>
 B1 (st 2 (.ptr i50 0) (.agg l49) h51) fun h52=>
 J 10 (fun j53=>
 B1 (nilA x41) fun v54=>
 B1 (fa 0 v54) fun v55=>
 B1 (ld v55 h52) fun v56=>
 B1 (lda 2 (.ptr i50 0) h52) fun v57=>
 B2 (cf (.func (.func 28) [] []) [v57] h52) fun v58 h59=>
 B2 (cf (.func (.func 51) [] []) [v56,v58] h59) fun v60 h61=>
 B1 (ex 0 v60) fun v62=>
 B1 (ex 1 v60) fun v63=>
 B1 (ld v55 h59) fun v64=>
 SM v56 v64 <|
 j53 x41 x42 x43 x44 (.ptr i50 0) v62 v63 x45 x46 x47 h61) (fun x65 x66 x67 x68 x69 x70 x71 x72 x73 x74 h75=>
 B1 (ine x71 (.int .i64 0)) fun v76=>
 CD v76 (
 some (x71,h75)) (
 J 10 (fun j77=>
 B2 (cf (.func (.func 22) [] []) [x65] h75) fun v78 h79=>
 B2 (cf (.func (.func 52) [] []) [x70,x68,v78] h79) fun v80 h81=>
 B1 (ex 0 v80) fun v82=>
 B1 (ex 1 v80) fun v83=>
 j77 x65 x66 x67 x69 x70 v82 v83 x72 x73 x74 h81) (fun x84 x85 x86 x87 x88 x89 x90 x91 x92 x93 h94=>
 B1 (fa 1 x87) fun v95=>
 B1 (st 1 v95 x90 h94) fun h96=>
 J 10 (fun j97=>
 B1 (nilA x84) fun v98=>
 B1 (fa 2 v98) fun v99=>
 B1 (ld v99 h96) fun v100=>
 B1 (lda 2 x87 h96) fun v101=>
 B1 (fl [(.int .i64 0),(.int .i64 0)] [(0,2,v101)]) fun l102=>
 BN (newCells h96 l102 66 0) fun i103 h104=>
 B2 (app' 66 2 [(.int .i64 0),(.int .i64 0)] false v100 (.slice i103 0 1 1 true 2) h104) fun v105 h106=>
 B1 (nilA x84) fun v107=>
 B1 (fa 2 v107) fun v108=>
 B1 (st 1 v108 v105 h106) fun h109=>
 B1 (ld v99 h104) fun v110=>
 SM v100 v110 <|
 j97 x84 x85 x86 x87 x88 x89 x90 x91 x92 x93 h109) (fun x111 x112 x113 x114 x115 x116 x117 x118 x119 x120 h121=>
 J 9 (fun j122=>
 B1 (nilA x111) fun v123=>
 B1 (fa 3 v123) fun v124=>
 B1 (ld v124 h121) fun v125=>
 B2 (app' 37 2 [(.int .u64 0),.slice0] false v125 x116 h121) fun v126 h127=>
 B1 (nilA x111) fun v128=>
 B1 (fa 3 v128) fun v129=>
 B1 (st 1 v129 v126 h127) fun h130=>
 j122 x111 x112 x113 x114 x115 x117 x118 x119 x120 h130) (fun x131 x132 x133 x134 x135 x136 x137 x138 x139 h140=>
 B1 (lenx x135) fun v141=>
 B1 (ilt x136 v141) fun v142=>
 CD v142 (
 J 3 (fun j143=>
 J 4 (fun j144=>
 B1 (iadd x133 (.int .i64 1)) fun v145=>
 B1 (sll 1 x132 (some v145) none none) fun v146=>
 B2 (cf (.func (.func 50) [] []) [x131,v146] h140) fun v147 h148=>
 j144 x131 x134 x136 v147 h148) (fun x149 x150 x151 x152 h153=>
 B1 (ine x152 (.int .i64 0)) fun v154=>
 CD v154 (
 some (x152,h153)) (
 j143 x149 x150 x151 h153))) (fun x155 x156 x157 h158=>
 B1 (nilA x155) fun v159=>
 B1 (fa 0 v159) fun v160=>
 B1 (ld v160 h158) fun v161=>
 B1 (lda 2 x156 h158) fun v162=>
 B2 (cf (.func (.func 28) [] []) [v162] h158) fun v163 h164=>
 B2 (cf (.func (.func 31) [] []) [v161,v163,x157] h164) fun v165 h166=>
 B1 (ld v160 h164) fun v167=>
 SM v161 v167 <|
 some (v165,h166))) (
 j22 x131 x132 x137 x138 x139 h140))))))))) (fun x168 x169 x170 x171 x172 h173=>
 B1 (iadd x172 (.int .i64 1)) fun v174=>
 j14 x168 x169 x170 x171 v174 h173)) (
 j13  h20)):=by kernel_rfl
theorem dl_wal_Log_read (J:JT) (G:GT) (cf:CF) (j13:K.Fn 0):l_wal_Log_read J G cf j13=loopF P J G cf (nT P 36) (atC P 36 [1,1,0,1,0,0]) (.sq none .nl (.sq none (.cd .nl .nl) (.sq (some [0,1,22,23,24]) (.bl none (.sq (some [0,1,5,6,22,23,24]) .nl (.sq (some [0,1,5,6,22,23,24]) (.sq none .nl (.cd (.sq none .nl .nl) .nl)) (.sq none .nl (.sq (some [0,1,5,6,7,8,9,22,23,24]) .nl (.sq none (.sq none .nl (.cd (.sq none .nl .nl) .nl)) (.sq (some [0,1,5,7,8,10,11,22,23,24]) .nl (.sq none .nl (.sq (some [0,1,5,7,8,10,11,22,23,24]) .nl (.sq (some [0,1,5,7,8,11,22,23,24]) .nl (.sq none .nl (.cd (.sq (some [0,7,11]) (.sq (some [0,7,11,12]) .nl (.sq none .nl (.cd (.sq none .nl .nl) .nl))) (.sq none .nl .nl)) .nl)))))))))))) .nl))) [0,1,22,23,24] (fun q t H=>match Nat.beq q 0 with | true=>app 0 j13 (vals [] t) H | false=>(fun _ _ _=>none) q t H) (retK P 36):=by
 unfold l_wal_Log_read loopF
 refine congrArg (LP 5) ?_
 funext j14 x15 x16 x17 x18 x19 h20
 exact (rl_wal_Log_read J G cf j13 j14 x15 x16 x17 x18 x19 h20).symm
theorem ql_wal_Log_read (cf:CF) (j13:K.Fn 0) (x15 x16 x17 x18 x19:AV) (h20:Hp):l_wal_Log_read JN GO cf j13 x15 x16 x17 x18 x19 h20=
 B1 (ilt x19 x18) fun v21=>
 CD v21 (
 JN 5 (fun j22=>
 JN 7 (fun j23=>
 B1 (ia 1 x17 x19) fun v24=>
 B1 (ld v24 h20) fun v25=>
 j23 x15 x16 x19 v25 x17 x18 x19 h20) (fun x26 x27 x28 x29 x30 x31 x32 h33=>
 JN 7 (fun j34=>
 B2 (cf (.func (.func 16) [] []) [x26] h33) fun v35 h36=>
 B1 (ine x29 v35) fun v37=>
 CD v37 (
 B1 (sll 1 x27 (some x28) none none) fun v38=>
 B2 (cf (.func (.func 50) [] []) [x26,v38] h36) fun v39 h40=>
 some (v39,h40)) (
 j34 x26 x27 x28 x29 x30 x31 x32 h36)) (fun x41 x42 x43 x44 x45 x46 x47 h48=>
 B1 (fl [(.int .i64 0),(.int .i64 0)] [(0,1,x44)]) fun l49=>
 BN (newCells h48 [(.int .i64 0),(.int .i64 0)] 66 0) fun i50 h51=>
 B1 (st 2 (.ptr i50 0) (.agg l49) h51) fun h52=>
 JN 10 (fun j53=>
 B1 (nilA x41) fun v54=>
 B1 (fa 0 v54) fun v55=>
 B1 (ld v55 h52) fun v56=>
 B1 (lda 2 (.ptr i50 0) h52) fun v57=>
 B2 (cf (.func (.func 28) [] []) [v57] h52) fun v58 h59=>
 B2 (cf (.func (.func 51) [] []) [v56,v58] h59) fun v60 h61=>
 B1 (ex 0 v60) fun v62=>
 B1 (ex 1 v60) fun v63=>
 B1 (ld v55 h59) fun v64=>
 SM v56 v64 <|
 j53 x41 x42 x43 x44 (.ptr i50 0) v62 v63 x45 x46 x47 h61) (fun x65 x66 x67 x68 x69 x70 x71 x72 x73 x74 h75=>
 B1 (ine x71 (.int .i64 0)) fun v76=>
 CD v76 (
 some (x71,h75)) (
 JN 10 (fun j77=>
 B2 (cf (.func (.func 22) [] []) [x65] h75) fun v78 h79=>
 B2 (cf (.func (.func 52) [] []) [x70,x68,v78] h79) fun v80 h81=>
 B1 (ex 0 v80) fun v82=>
 B1 (ex 1 v80) fun v83=>
 j77 x65 x66 x67 x69 x70 v82 v83 x72 x73 x74 h81) (fun x84 x85 x86 x87 x88 x89 x90 x91 x92 x93 h94=>
 B1 (fa 1 x87) fun v95=>
 B1 (st 1 v95 x90 h94) fun h96=>
 JN 10 (fun j97=>
 B1 (nilA x84) fun v98=>
 B1 (fa 2 v98) fun v99=>
 B1 (ld v99 h96) fun v100=>
 B1 (lda 2 x87 h96) fun v101=>
 B1 (fl [(.int .i64 0),(.int .i64 0)] [(0,2,v101)]) fun l102=>
 BN (newCells h96 l102 66 0) fun i103 h104=>
 B2 (app' 66 2 [(.int .i64 0),(.int .i64 0)] false v100 (.slice i103 0 1 1 true 2) h104) fun v105 h106=>
 B1 (nilA x84) fun v107=>
 B1 (fa 2 v107) fun v108=>
 B1 (st 1 v108 v105 h106) fun h109=>
 B1 (ld v99 h104) fun v110=>
 SM v100 v110 <|
 j97 x84 x85 x86 x87 x88 x89 x90 x91 x92 x93 h109) (fun x111 x112 x113 x114 x115 x116 x117 x118 x119 x120 h121=>
 JN 9 (fun j122=>
 B1 (nilA x111) fun v123=>
 B1 (fa 3 v123) fun v124=>
 B1 (ld v124 h121) fun v125=>
 B2 (app' 37 2 [(.int .u64 0),.slice0] false v125 x116 h121) fun v126 h127=>
 B1 (nilA x111) fun v128=>
 B1 (fa 3 v128) fun v129=>
 B1 (st 1 v129 v126 h127) fun h130=>
 j122 x111 x112 x113 x114 x115 x117 x118 x119 x120 h130) (fun x131 x132 x133 x134 x135 x136 x137 x138 x139 h140=>
 B1 (lenx x135) fun v141=>
 B1 (ilt x136 v141) fun v142=>
 CD v142 (
 JN 3 (fun j143=>
 JN 4 (fun j144=>
 B1 (iadd x133 (.int .i64 1)) fun v145=>
 B1 (sll 1 x132 (some v145) none none) fun v146=>
 B2 (cf (.func (.func 50) [] []) [x131,v146] h140) fun v147 h148=>
 j144 x131 x134 x136 v147 h148) (fun x149 x150 x151 x152 h153=>
 B1 (ine x152 (.int .i64 0)) fun v154=>
 CD v154 (
 some (x152,h153)) (
 j143 x149 x150 x151 h153))) (fun x155 x156 x157 h158=>
 B1 (nilA x155) fun v159=>
 B1 (fa 0 v159) fun v160=>
 B1 (ld v160 h158) fun v161=>
 B1 (lda 2 x156 h158) fun v162=>
 B2 (cf (.func (.func 28) [] []) [v162] h158) fun v163 h164=>
 B2 (cf (.func (.func 31) [] []) [v161,v163,x157] h164) fun v165 h166=>
 B1 (ld v160 h164) fun v167=>
 SM v161 v167 <|
 some (v165,h166))) (
 j22 x131 x132 x137 x138 x139 h140))))))))) (fun x168 x169 x170 x171 x172 h173=>
 B1 (iadd x172 (.int .i64 1)) fun v174=>
 l_wal_Log_read JN GO cf j13 x168 x169 x170 x171 v174 h173)) (
 j13  h20):=by
 have h1:l_wal_Log_read JN GO cf j13 x15 x16 x17 x18 x19 h20=app 5 (loopF P JN GO cf (nT P 36) (atC P 36 [1,1,0,1,0,0]) (.sq none .nl (.sq none (.cd .nl .nl) (.sq (some [0,1,22,23,24]) (.bl none (.sq (some [0,1,5,6,22,23,24]) .nl (.sq (some [0,1,5,6,22,23,24]) (.sq none .nl (.cd (.sq none .nl .nl) .nl)) (.sq none .nl (.sq (some [0,1,5,6,7,8,9,22,23,24]) .nl (.sq none (.sq none .nl (.cd (.sq none .nl .nl) .nl)) (.sq (some [0,1,5,7,8,10,11,22,23,24]) .nl (.sq none .nl (.sq (some [0,1,5,7,8,10,11,22,23,24]) .nl (.sq (some [0,1,5,7,8,11,22,23,24]) .nl (.sq none .nl (.cd (.sq (some [0,7,11]) (.sq (some [0,7,11,12]) .nl (.sq none .nl (.cd (.sq none .nl .nl) .nl))) (.sq none .nl .nl)) .nl)))))))))))) .nl))) [0,1,22,23,24] (fun q t H=>match Nat.beq q 0 with | true=>app 0 j13 (vals [] t) H | false=>(fun _ _ _=>none) q t H) (retK P 36)) [x15,x16,x17,x18,x19] h20:=by rw [dl_wal_Log_read]; kernel_rfl
 refine h1.trans ((loopF_eq (P:=P) cf (nT P 36) (atC P 36 [1,1,0,1,0,0]) (.sq none .nl (.sq none (.cd .nl .nl) (.sq (some [0,1,22,23,24]) (.bl none (.sq (some [0,1,5,6,22,23,24]) .nl (.sq (some [0,1,5,6,22,23,24]) (.sq none .nl (.cd (.sq none .nl .nl) .nl)) (.sq none .nl (.sq (some [0,1,5,6,7,8,9,22,23,24]) .nl (.sq none (.sq none .nl (.cd (.sq none .nl .nl) .nl)) (.sq (some [0,1,5,7,8,10,11,22,23,24]) .nl (.sq none .nl (.sq (some [0,1,5,7,8,10,11,22,23,24]) .nl (.sq (some [0,1,5,7,8,11,22,23,24]) .nl (.sq none .nl (.cd (.sq (some [0,7,11]) (.sq (some [0,7,11,12]) .nl (.sq none .nl (.cd (.sq none .nl .nl) .nl))) (.sq none .nl .nl)) .nl)))))))))))) .nl))) [0,1,22,23,24] (fun q t H=>match Nat.beq q 0 with | true=>app 0 j13 (vals [] t) H | false=>(fun _ _ _=>none) q t H) (retK P 36) [x15,x16,x17,x18,x19] rfl h20).trans ((rl_wal_Log_read JN GO cf j13 _ x15 x16 x17 x18 x19 h20).trans ?_))
 rw [dl_wal_Log_read]
noncomputable def s_wal_Log_read (J:JT) (G:GT) (cf:CF) (a0 a1:AV) (H:Hp):R:=
 J 2 (fun j0=>
 B1 (lenx a1) fun v1=>
 B1 (igt v1 (.int .i64 0)) fun v2=>
 CD v2 (
 B1 (ia 1 a1 (.int .i64 0)) fun v3=>
 B1 (ld v3 H) fun v4=>
 B1 (nilA a0) fun v5=>
 B1 (fa 4 v5) fun v6=>
 B1 (st 1 v6 v4 H) fun h7=>
 j0 a0 a1 h7) (
 j0 a0 a1 H)) (fun x8 x9 h10=>
 J 0 (fun j11=>
 B1 (lenx x9) fun v12=>
 J 0 (fun j13=>
 l_wal_Log_read J G cf j13 x8 x9 x9 v12 (.int .i64 0) h10) (fun  h175=>
 j11  h175)) (fun  h176=>
 some ((.int .i64 0),h176)))
theorem c_wal_Log_read {a0 a1:AV} {H:Hp} {r:AV × Hp} (h:s_wal_Log_read JN GO cK a0 a1 H=some r):cK (.func (.func 36) [] []) [a0,a1] H=some r:=callF_fix (first:=[]) (cap:=[]) (Eq.trans (by kernel_rfl) h)
noncomputable def l_wal_Log_size (J:JT) (G:GT) (cf:CF) (j21:K.Fn 1):K.Fn 4:=LP 4 fun j22=>fun x23 x24 x25 x26 h27=>
 B1 (ilt x26 x25) fun v28=>
 CD v28 (
 J 4 (fun j29=>
 B1 (ia 2 x24 x26) fun v30=>
 B1 (lda 2 v30 h27) fun v31=>
 BN (newCells h27 [(.int .u64 0),.slice0] 37 0) fun i32 h33=>
 B1 (st 2 (.ptr i32 0) v31 h33) fun h34=>
 B1 (lda 2 (.ptr i32 0) h34) fun v35=>
 B2 (cf (.func (.func 47) [] []) [v35] h34) fun v36 h37=>
 B1 (iadd x23 v36) fun v38=>
 j29 v38 x24 x25 x26 h37) (fun x39 x40 x41 x42 h43=>
 B1 (iadd x42 (.int .i64 1)) fun v44=>
 j22 x39 x40 x41 v44 h43)) (
 j21 x23 h27)
theorem rl_wal_Log_size (J:JT) (G:GT) (cf:CF) (j21:K.Fn 1) (j22:K.Fn 4) (x23 x24 x25 x26:AV) (h27:Hp):codeF P J G cf (nT P 30) (atC P 30 [1,1,0,1,0,0]) (.sq none .nl (.sq none (.cd .nl .nl) (.sq (some [7,23,24,25]) (.bl none (.sq none .nl .nl)) .nl))) (fun t H=>app 4 j22 (vals [7,23,24,25] t) H) (fun q t H=>match Nat.beq q 0 with | true=>app 1 j21 (vals [7] t) H | false=>(fun _ _ _=>none) q t H) (retK P 30) (mkT (nT P 30) [7,23,24,25] [x23,x24,x25,x26]) h27=
(B1 (ilt x26 x25) fun v28=>
 CD v28 (
 J 4 (fun j29=>
 B1 (ia 2 x24 x26) fun v30=>
 B1 (lda 2 v30 h27) fun v31=>
 BN (newCells h27 [(.int .u64 0),.slice0] 37 0) fun i32 h33=>
 B1 (st 2 (.ptr i32 0) v31 h33) fun h34=>
 B1 (lda 2 (.ptr i32 0) h34) fun v35=>
 B2 (cf (.func (.func 47) [] []) [v35] h34) fun v36 h37=>
 B1 (iadd x23 v36) fun v38=>
 j29 v38 x24 x25 x26 h37) (fun x39 x40 x41 x42 h43=>
 B1 (iadd x42 (.int .i64 1)) fun v44=>
 j22 x39 x40 x41 v44 h43)) (
 j21 x23 h27)):=by kernel_rfl
theorem dl_wal_Log_size (J:JT) (G:GT) (cf:CF) (j21:K.Fn 1):l_wal_Log_size J G cf j21=loopF P J G cf (nT P 30) (atC P 30 [1,1,0,1,0,0]) (.sq none .nl (.sq none (.cd .nl .nl) (.sq (some [7,23,24,25]) (.bl none (.sq none .nl .nl)) .nl))) [7,23,24,25] (fun q t H=>match Nat.beq q 0 with | true=>app 1 j21 (vals [7] t) H | false=>(fun _ _ _=>none) q t H) (retK P 30):=by
 unfold l_wal_Log_size loopF
 refine congrArg (LP 4) ?_
 funext j22 x23 x24 x25 x26 h27
 exact (rl_wal_Log_size J G cf j21 j22 x23 x24 x25 x26 h27).symm
theorem ql_wal_Log_size (cf:CF) (j21:K.Fn 1) (x23 x24 x25 x26:AV) (h27:Hp):l_wal_Log_size JN GO cf j21 x23 x24 x25 x26 h27=
 B1 (ilt x26 x25) fun v28=>
 CD v28 (
 JN 4 (fun j29=>
 B1 (ia 2 x24 x26) fun v30=>
 B1 (lda 2 v30 h27) fun v31=>
 BN (newCells h27 [(.int .u64 0),.slice0] 37 0) fun i32 h33=>
 B1 (st 2 (.ptr i32 0) v31 h33) fun h34=>
 B1 (lda 2 (.ptr i32 0) h34) fun v35=>
 B2 (cf (.func (.func 47) [] []) [v35] h34) fun v36 h37=>
 B1 (iadd x23 v36) fun v38=>
 j29 v38 x24 x25 x26 h37) (fun x39 x40 x41 x42 h43=>
 B1 (iadd x42 (.int .i64 1)) fun v44=>
 l_wal_Log_size JN GO cf j21 x39 x40 x41 v44 h43)) (
 j21 x23 h27):=by
 have h1:l_wal_Log_size JN GO cf j21 x23 x24 x25 x26 h27=app 4 (loopF P JN GO cf (nT P 30) (atC P 30 [1,1,0,1,0,0]) (.sq none .nl (.sq none (.cd .nl .nl) (.sq (some [7,23,24,25]) (.bl none (.sq none .nl .nl)) .nl))) [7,23,24,25] (fun q t H=>match Nat.beq q 0 with | true=>app 1 j21 (vals [7] t) H | false=>(fun _ _ _=>none) q t H) (retK P 30)) [x23,x24,x25,x26] h27:=by rw [dl_wal_Log_size]; kernel_rfl
 refine h1.trans ((loopF_eq (P:=P) cf (nT P 30) (atC P 30 [1,1,0,1,0,0]) (.sq none .nl (.sq none (.cd .nl .nl) (.sq (some [7,23,24,25]) (.bl none (.sq none .nl .nl)) .nl))) [7,23,24,25] (fun q t H=>match Nat.beq q 0 with | true=>app 1 j21 (vals [7] t) H | false=>(fun _ _ _=>none) q t H) (retK P 30) [x23,x24,x25,x26] rfl h27).trans ((rl_wal_Log_size JN GO cf j21 _ x23 x24 x25 x26 h27).trans ?_))
 rw [dl_wal_Log_size]
noncomputable def s_wal_Log_size (J:JT) (G:GT) (cf:CF) (a0 a1 a2:AV) (H:Hp):R:=
 BN (bx 66 a1 H) fun i0 h1=>
 J 1 (fun j2=>
 J 4 (fun j3=>
 B1 (nilA a0) fun v4=>
 B1 (fa 3 v4) fun v5=>
 B1 (ld v5 h1) fun v6=>
 B1 (fa 0 (.ptr i0 0)) fun v7=>
 B1 (ld v7 h1) fun v8=>
 B1 (nilA a0) fun v9=>
 B1 (fa 4 v9) fun v10=>
 B1 (ld v10 h1) fun v11=>
 B1 (isub v8 v11) fun v12=>
 B1 (sll 2 v6 (some v12) none none) fun v13=>
 B1 (sll 2 v13 none (some a2) none) fun v14=>
 B1 (lenx v14) fun v15=>
 j3 (.int .i64 0) v14 v15 (.int .i64 0) h1) (fun x16 x17 x18 x19 h20=>
 J 1 (fun j21=>
 l_wal_Log_size J G cf j21 x16 x17 x18 x19 h20) (fun x45 h46=>
 j2 x45 h46))) (fun x47 h48=>
 some (x47,h48))
theorem c_wal_Log_size {a0 a1 a2:AV} {H:Hp} {r:AV × Hp} (h:s_wal_Log_size JN GO cK a0 a1 a2 H=some r):cK (.func (.func 30) [] []) [a0,a1,a2] H=some r:=callF_fix (first:=[]) (cap:=[]) (Eq.trans (by kernel_rfl) h)
noncomputable def s__wal_part_name (J:JT) (G:GT) (cf:CF) (a0:AV) (H:Hp):R:=
 BN (bx 66 a0 H) fun i0 h1=>
 J 1 (fun j2=>
 B1 (fa 0 (.ptr i0 0)) fun v3=>
 B1 (ld v3 h1) fun v4=>
 B2 (cf (.func (.func 46) [] []) [v4] h1) fun v5 h6=>
 B1 (ex 0 v5) fun v7=>
 B1 (ex 1 v5) fun v8=>
 j2 v7 h6) (fun x9 h10=>
 some (x9,h10))
theorem c__wal_part_name {a0:AV} {H:Hp} {r:AV × Hp} (h:s__wal_part_name JN GO cK a0 H=some r):cK (.func (.func 28) [] []) [a0] H=some r:=callF_fix (first:=[]) (cap:=[]) (Eq.trans (by kernel_rfl) h)
noncomputable def s_frame_Size (J:JT) (G:GT) (cf:CF) (a0:AV) (H:Hp):R:=
 BN (bx 37 a0 H) fun i0 h1=>
 B1 (fa 1 (.ptr i0 0)) fun v2=>
 B1 (ld v2 h1) fun v3=>
 B1 (lenx v3) fun v4=>
 B1 (iadd (.int .i64 16) v4) fun v5=>
 some (v5,h1)
theorem c_frame_Size {a0:AV} {H:Hp} {r:AV × Hp} (h:s_frame_Size JN GO cK a0 H=some r):cK (.func (.func 47) [] []) [a0] H=some r:=callF_fix (first:=[]) (cap:=[]) (Eq.trans (by kernel_rfl) h)
noncomputable def l_outriderlaw7_WalCuts (J:JT) (G:GT) (cf:CF) (j64:K.Fn 5):K.Fn 6:=LP 6 fun j65=>fun x66 x67 x68 x69 x70 x71 h72=>
 B1 (lenx x66) fun v73=>
 B1 (ilt x71 v73) fun v74=>
 CD v74 (
 J 6 (fun j75=>
 J 7 (fun j76=>
 B1 (ia 1 x66 x71) fun v77=>
 B1 (ld v77 h72) fun v78=>
 B2 (cf (.func (.func 8) [] []) [x69,(.int .i64 1),v78] h72) fun v79 h80=>
 B1 (ex 0 v79) fun v81=>
 B1 (ex 1 v79) fun v82=>
 j76 x66 x67 x68 x69 x70 x71 v82 h80) (fun x83 x84 x85 x86 x87 x88 x89 h90=>
 B1 (ine x89 (.int .i64 0)) fun v91=>
 CD v91 (
 B1 (ia 1 x83 x88) fun v92=>
 B1 (ld v92 h90) fun v93=>
 B1 (lenx v93) fun v94=>
 B1 (igt v94 (.int .i64 1024)) fun v95=>
 some (v95,h90)) (
 j75 x83 x84 x85 x86 x87 x88 h90))) (fun x96 x97 x98 x99 x100 x101 h102=>
 B1 (iadd x101 (.int .i64 1)) fun v103=>
 j65 x96 x97 x98 x99 x100 v103 h102)) (
 j64 x66 x67 x68 x69 x70 h72)
theorem rl_outriderlaw7_WalCuts (J:JT) (G:GT) (cf:CF) (j64:K.Fn 5) (j65:K.Fn 6) (x66 x67 x68 x69 x70 x71:AV) (h72:Hp):codeF P J G cf (nT P 4) (atC P 4 [1,1,1,1,1,0,1,0,0]) (.sq none (.sq none .nl (.cd .nl .nl)) (.sq (some [0,1,2,7,8,9]) (.bl none (.sq (some [0,1,2,7,8,9,11]) .nl (.sq none .nl (.cd (.sq none .nl .nl) .nl)))) .nl)) (fun t H=>app 6 j65 (vals [0,1,2,7,8,9] t) H) (fun q t H=>match Nat.beq q 0 with | true=>app 5 j64 (vals [0,1,2,7,8] t) H | false=>(fun _ _ _=>none) q t H) (retK P 4) (mkT (nT P 4) [0,1,2,7,8,9] [x66,x67,x68,x69,x70,x71]) h72=
(B1 (lenx x66) fun v73=>
 B1 (ilt x71 v73) fun v74=>
 CD v74 (
 J 6 (fun j75=>
 J 7 (fun j76=>
 B1 (ia 1 x66 x71) fun v77=>
 B1 (ld v77 h72) fun v78=>
 B2 (cf (.func (.func 8) [] []) [x69,(.int .i64 1),v78] h72) fun v79 h80=>
 B1 (ex 0 v79) fun v81=>
 B1 (ex 1 v79) fun v82=>
 j76 x66 x67 x68 x69 x70 x71 v82 h80) (fun x83 x84 x85 x86 x87 x88 x89 h90=>
 B1 (ine x89 (.int .i64 0)) fun v91=>
 CD v91 (
 B1 (ia 1 x83 x88) fun v92=>
 B1 (ld v92 h90) fun v93=>
 B1 (lenx v93) fun v94=>
 B1 (igt v94 (.int .i64 1024)) fun v95=>
 some (v95,h90)) (
 j75 x83 x84 x85 x86 x87 x88 h90))) (fun x96 x97 x98 x99 x100 x101 h102=>
 B1 (iadd x101 (.int .i64 1)) fun v103=>
 j65 x96 x97 x98 x99 x100 v103 h102)) (
 j64 x66 x67 x68 x69 x70 h72)):=by kernel_rfl
theorem dl_outriderlaw7_WalCuts (J:JT) (G:GT) (cf:CF) (j64:K.Fn 5):l_outriderlaw7_WalCuts J G cf j64=loopF P J G cf (nT P 4) (atC P 4 [1,1,1,1,1,0,1,0,0]) (.sq none (.sq none .nl (.cd .nl .nl)) (.sq (some [0,1,2,7,8,9]) (.bl none (.sq (some [0,1,2,7,8,9,11]) .nl (.sq none .nl (.cd (.sq none .nl .nl) .nl)))) .nl)) [0,1,2,7,8,9] (fun q t H=>match Nat.beq q 0 with | true=>app 5 j64 (vals [0,1,2,7,8] t) H | false=>(fun _ _ _=>none) q t H) (retK P 4):=by
 unfold l_outriderlaw7_WalCuts loopF
 refine congrArg (LP 6) ?_
 funext j65 x66 x67 x68 x69 x70 x71 h72
 exact (rl_outriderlaw7_WalCuts J G cf j64 j65 x66 x67 x68 x69 x70 x71 h72).symm
theorem ql_outriderlaw7_WalCuts (cf:CF) (j64:K.Fn 5) (x66 x67 x68 x69 x70 x71:AV) (h72:Hp):l_outriderlaw7_WalCuts JN GO cf j64 x66 x67 x68 x69 x70 x71 h72=
 B1 (lenx x66) fun v73=>
 B1 (ilt x71 v73) fun v74=>
 CD v74 (
 JN 6 (fun j75=>
 JN 7 (fun j76=>
 B1 (ia 1 x66 x71) fun v77=>
 B1 (ld v77 h72) fun v78=>
 B2 (cf (.func (.func 8) [] []) [x69,(.int .i64 1),v78] h72) fun v79 h80=>
 B1 (ex 0 v79) fun v81=>
 B1 (ex 1 v79) fun v82=>
 j76 x66 x67 x68 x69 x70 x71 v82 h80) (fun x83 x84 x85 x86 x87 x88 x89 h90=>
 B1 (ine x89 (.int .i64 0)) fun v91=>
 CD v91 (
 B1 (ia 1 x83 x88) fun v92=>
 B1 (ld v92 h90) fun v93=>
 B1 (lenx v93) fun v94=>
 B1 (igt v94 (.int .i64 1024)) fun v95=>
 some (v95,h90)) (
 j75 x83 x84 x85 x86 x87 x88 h90))) (fun x96 x97 x98 x99 x100 x101 h102=>
 B1 (iadd x101 (.int .i64 1)) fun v103=>
 l_outriderlaw7_WalCuts JN GO cf j64 x96 x97 x98 x99 x100 v103 h102)) (
 j64 x66 x67 x68 x69 x70 h72):=by
 have h1:l_outriderlaw7_WalCuts JN GO cf j64 x66 x67 x68 x69 x70 x71 h72=app 6 (loopF P JN GO cf (nT P 4) (atC P 4 [1,1,1,1,1,0,1,0,0]) (.sq none (.sq none .nl (.cd .nl .nl)) (.sq (some [0,1,2,7,8,9]) (.bl none (.sq (some [0,1,2,7,8,9,11]) .nl (.sq none .nl (.cd (.sq none .nl .nl) .nl)))) .nl)) [0,1,2,7,8,9] (fun q t H=>match Nat.beq q 0 with | true=>app 5 j64 (vals [0,1,2,7,8] t) H | false=>(fun _ _ _=>none) q t H) (retK P 4)) [x66,x67,x68,x69,x70,x71] h72:=by rw [dl_outriderlaw7_WalCuts]; kernel_rfl
 refine h1.trans ((loopF_eq (P:=P) cf (nT P 4) (atC P 4 [1,1,1,1,1,0,1,0,0]) (.sq none (.sq none .nl (.cd .nl .nl)) (.sq (some [0,1,2,7,8,9]) (.bl none (.sq (some [0,1,2,7,8,9,11]) .nl (.sq none .nl (.cd (.sq none .nl .nl) .nl)))) .nl)) [0,1,2,7,8,9] (fun q t H=>match Nat.beq q 0 with | true=>app 5 j64 (vals [0,1,2,7,8] t) H | false=>(fun _ _ _=>none) q t H) (retK P 4) [x66,x67,x68,x69,x70,x71] rfl h72).trans ((rl_outriderlaw7_WalCuts JN GO cf j64 _ x66 x67 x68 x69 x70 x71 h72).trans ?_))
 rw [dl_outriderlaw7_WalCuts]
noncomputable def l_outriderlaw7_WalCuts1 (J:JT) (G:GT) (cf:CF) (j127:K.Fn 5):K.Fn 6:=LP 6 fun j128=>fun x129 x130 x131 x132 x133 x134 h135=>
 B1 (lenx x131) fun v136=>
 B1 (ilt x134 v136) fun v137=>
 CD v137 (
 J 6 (fun j138=>
 J 7 (fun j139=>
 B1 (ia 1 x131 x134) fun v140=>
 B1 (ld v140 h135) fun v141=>
 B2 (cf (.func (.func 8) [] []) [x132,(.int .i64 2),v141] h135) fun v142 h143=>
 B1 (ex 0 v142) fun v144=>
 B1 (ex 1 v142) fun v145=>
 j139 x129 x130 x131 x132 x133 x134 v145 h143) (fun x146 x147 x148 x149 x150 x151 x152 h153=>
 B1 (ine x152 (.int .i64 0)) fun v154=>
 CD v154 (
 B1 (ia 1 x148 x151) fun v155=>
 B1 (ld v155 h153) fun v156=>
 B1 (lenx v156) fun v157=>
 B1 (igt v157 (.int .i64 1024)) fun v158=>
 some (v158,h153)) (
 j138 x146 x147 x148 x149 x150 x151 h153))) (fun x159 x160 x161 x162 x163 x164 h165=>
 B1 (iadd x164 (.int .i64 1)) fun v166=>
 j128 x159 x160 x161 x162 x163 v166 h165)) (
 j127 x129 x130 x131 x132 x133 h135)
theorem rl_outriderlaw7_WalCuts1 (J:JT) (G:GT) (cf:CF) (j127:K.Fn 5) (j128:K.Fn 6) (x129 x130 x131 x132 x133 x134:AV) (h135:Hp):codeF P J G cf (nT P 4) (atC P 4 [1,1,1,1,1,1,1,0,1,0,0]) (.sq none (.sq none .nl (.cd .nl .nl)) (.sq (some [0,1,2,7,8,12]) (.bl none (.sq (some [0,1,2,7,8,12,14]) .nl (.sq none .nl (.cd (.sq none .nl .nl) .nl)))) .nl)) (fun t H=>app 6 j128 (vals [0,1,2,7,8,12] t) H) (fun q t H=>match Nat.beq q 2 with | true=>app 5 j127 (vals [0,1,2,7,8] t) H | false=>(fun _ _ _=>none) q t H) (retK P 4) (mkT (nT P 4) [0,1,2,7,8,12] [x129,x130,x131,x132,x133,x134]) h135=
(B1 (lenx x131) fun v136=>
 B1 (ilt x134 v136) fun v137=>
 CD v137 (
 J 6 (fun j138=>
 J 7 (fun j139=>
 B1 (ia 1 x131 x134) fun v140=>
 B1 (ld v140 h135) fun v141=>
 B2 (cf (.func (.func 8) [] []) [x132,(.int .i64 2),v141] h135) fun v142 h143=>
 B1 (ex 0 v142) fun v144=>
 B1 (ex 1 v142) fun v145=>
 j139 x129 x130 x131 x132 x133 x134 v145 h143) (fun x146 x147 x148 x149 x150 x151 x152 h153=>
 B1 (ine x152 (.int .i64 0)) fun v154=>
 CD v154 (
 B1 (ia 1 x148 x151) fun v155=>
 B1 (ld v155 h153) fun v156=>
 B1 (lenx v156) fun v157=>
 B1 (igt v157 (.int .i64 1024)) fun v158=>
 some (v158,h153)) (
 j138 x146 x147 x148 x149 x150 x151 h153))) (fun x159 x160 x161 x162 x163 x164 h165=>
 B1 (iadd x164 (.int .i64 1)) fun v166=>
 j128 x159 x160 x161 x162 x163 v166 h165)) (
 j127 x129 x130 x131 x132 x133 h135)):=by kernel_rfl
theorem dl_outriderlaw7_WalCuts1 (J:JT) (G:GT) (cf:CF) (j127:K.Fn 5):l_outriderlaw7_WalCuts1 J G cf j127=loopF P J G cf (nT P 4) (atC P 4 [1,1,1,1,1,1,1,0,1,0,0]) (.sq none (.sq none .nl (.cd .nl .nl)) (.sq (some [0,1,2,7,8,12]) (.bl none (.sq (some [0,1,2,7,8,12,14]) .nl (.sq none .nl (.cd (.sq none .nl .nl) .nl)))) .nl)) [0,1,2,7,8,12] (fun q t H=>match Nat.beq q 2 with | true=>app 5 j127 (vals [0,1,2,7,8] t) H | false=>(fun _ _ _=>none) q t H) (retK P 4):=by
 unfold l_outriderlaw7_WalCuts1 loopF
 refine congrArg (LP 6) ?_
 funext j128 x129 x130 x131 x132 x133 x134 h135
 exact (rl_outriderlaw7_WalCuts1 J G cf j127 j128 x129 x130 x131 x132 x133 x134 h135).symm
theorem ql_outriderlaw7_WalCuts1 (cf:CF) (j127:K.Fn 5) (x129 x130 x131 x132 x133 x134:AV) (h135:Hp):l_outriderlaw7_WalCuts1 JN GO cf j127 x129 x130 x131 x132 x133 x134 h135=
 B1 (lenx x131) fun v136=>
 B1 (ilt x134 v136) fun v137=>
 CD v137 (
 JN 6 (fun j138=>
 JN 7 (fun j139=>
 B1 (ia 1 x131 x134) fun v140=>
 B1 (ld v140 h135) fun v141=>
 B2 (cf (.func (.func 8) [] []) [x132,(.int .i64 2),v141] h135) fun v142 h143=>
 B1 (ex 0 v142) fun v144=>
 B1 (ex 1 v142) fun v145=>
 j139 x129 x130 x131 x132 x133 x134 v145 h143) (fun x146 x147 x148 x149 x150 x151 x152 h153=>
 B1 (ine x152 (.int .i64 0)) fun v154=>
 CD v154 (
 B1 (ia 1 x148 x151) fun v155=>
 B1 (ld v155 h153) fun v156=>
 B1 (lenx v156) fun v157=>
 B1 (igt v157 (.int .i64 1024)) fun v158=>
 some (v158,h153)) (
 j138 x146 x147 x148 x149 x150 x151 h153))) (fun x159 x160 x161 x162 x163 x164 h165=>
 B1 (iadd x164 (.int .i64 1)) fun v166=>
 l_outriderlaw7_WalCuts1 JN GO cf j127 x159 x160 x161 x162 x163 v166 h165)) (
 j127 x129 x130 x131 x132 x133 h135):=by
 have h1:l_outriderlaw7_WalCuts1 JN GO cf j127 x129 x130 x131 x132 x133 x134 h135=app 6 (loopF P JN GO cf (nT P 4) (atC P 4 [1,1,1,1,1,1,1,0,1,0,0]) (.sq none (.sq none .nl (.cd .nl .nl)) (.sq (some [0,1,2,7,8,12]) (.bl none (.sq (some [0,1,2,7,8,12,14]) .nl (.sq none .nl (.cd (.sq none .nl .nl) .nl)))) .nl)) [0,1,2,7,8,12] (fun q t H=>match Nat.beq q 2 with | true=>app 5 j127 (vals [0,1,2,7,8] t) H | false=>(fun _ _ _=>none) q t H) (retK P 4)) [x129,x130,x131,x132,x133,x134] h135:=by rw [dl_outriderlaw7_WalCuts1]; kernel_rfl
 refine h1.trans ((loopF_eq (P:=P) cf (nT P 4) (atC P 4 [1,1,1,1,1,1,1,0,1,0,0]) (.sq none (.sq none .nl (.cd .nl .nl)) (.sq (some [0,1,2,7,8,12]) (.bl none (.sq (some [0,1,2,7,8,12,14]) .nl (.sq none .nl (.cd (.sq none .nl .nl) .nl)))) .nl)) [0,1,2,7,8,12] (fun q t H=>match Nat.beq q 2 with | true=>app 5 j127 (vals [0,1,2,7,8] t) H | false=>(fun _ _ _=>none) q t H) (retK P 4) [x129,x130,x131,x132,x133,x134] rfl h135).trans ((rl_outriderlaw7_WalCuts1 JN GO cf j127 _ x129 x130 x131 x132 x133 x134 h135).trans ?_))
 rw [dl_outriderlaw7_WalCuts1]
noncomputable def l_outriderlaw7_WalCuts2 (J:JT) (G:GT) (cf:CF) (j247:K.Fn 0):K.Fn 5:=LP 5 fun j248=>fun x249 x250 x251 x252 x253 h254=>
 B2 (cf (.func (.func 16) [] []) [x252] h254) fun v255 h256=>
 B1 (ilt x253 v255) fun v257=>
 CD v257 (
 J 5 (fun j258=>
 J 7 (fun j259=>
 B2 (cf (.func (.func 10) [] []) [x252,x253] h256) fun v260 h261=>
 B1 (ex 0 v260) fun v262=>
 B1 (ex 1 v260) fun v263=>
 BN (newCells h261 [(.int .u64 0),.slice0] 37 0) fun i264 h265=>
 B1 (st 2 (.ptr i264 0) v262 h265) fun h266=>
 j259 x249 x250 x251 x252 x253 (.ptr i264 0) v263 h266) (fun x267 x268 x269 x270 x271 x272 x273 h274=>
 J 6 (fun j275=>
 B1 (ine x273 (.int .i64 0)) fun v276=>
 GD2 v276 false (
 B1 (ilt x271 x268) fun v277=>
 GD2 v277 true (
 B1 (fa 1 x272) fun v278=>
 B1 (ld v278 h274) fun v279=>
 B1 (b2s v279 h274) fun v280=>
 B1 (ia 1 x267 x271) fun v281=>
 B1 (ld v281 h274) fun v282=>
 B1 (b2s v282 h274) fun v283=>
 B1 (sne v280 v283) fun v284=>
 GD2 v284 false (
 B1 (fa 0 x272) fun v285=>
 B1 (ld v285 h274) fun v286=>
 B2 (cf (.func (.func 17) [] []) [v286] h274) fun v287 h288=>
 B1 (ine v287 (.int .i64 1)) fun v289=>
 GD2 v289 false (
 B1 (ige x271 x268) fun v290=>
 GD2 v290 true (
 B1 (fa 1 x272) fun v291=>
 B1 (ld v291 h288) fun v292=>
 B1 (b2s v292 h288) fun v293=>
 B1 (isub x271 x268) fun v294=>
 B1 (ia 1 x269 v294) fun v295=>
 B1 (ld v295 h288) fun v296=>
 B1 (b2s v296 h288) fun v297=>
 B1 (sne v293 v297) fun v298=>
 GD2 v298 false (
 B1 (fa 0 x272) fun v299=>
 B1 (ld v299 h288) fun v300=>
 B2 (cf (.func (.func 17) [] []) [v300] h288) fun v301 h302=>
 B1 (ine v301 (.int .i64 2)) fun v303=>
 j275 x267 x268 x269 x270 x271 v303 h302) (
 j275 x267 x268 x269 x270 x271 (.bool true) h288)) (
 j275 x267 x268 x269 x270 x271 (.bool false) h288)) (
 j275 x267 x268 x269 x270 x271 (.bool true) h288)) (
 j275 x267 x268 x269 x270 x271 (.bool true) h274)) (
 B1 (ige x271 x268) fun v304=>
 GD2 v304 true (
 B1 (fa 1 x272) fun v305=>
 B1 (ld v305 h274) fun v306=>
 B1 (b2s v306 h274) fun v307=>
 B1 (isub x271 x268) fun v308=>
 B1 (ia 1 x269 v308) fun v309=>
 B1 (ld v309 h274) fun v310=>
 B1 (b2s v310 h274) fun v311=>
 B1 (sne v307 v311) fun v312=>
 GD2 v312 false (
 B1 (fa 0 x272) fun v313=>
 B1 (ld v313 h274) fun v314=>
 B2 (cf (.func (.func 17) [] []) [v314] h274) fun v315 h316=>
 B1 (ine v315 (.int .i64 2)) fun v317=>
 j275 x267 x268 x269 x270 x271 v317 h316) (
 j275 x267 x268 x269 x270 x271 (.bool true) h274)) (
 j275 x267 x268 x269 x270 x271 (.bool false) h274))) (
 j275 x267 x268 x269 x270 x271 (.bool true) h274)) (fun x318 x319 x320 x321 x322 x323 h324=>
 CD x323 (
 some ((.bool false),h324)) (
 j258 x318 x319 x320 x321 x322 h324)))) (fun x325 x326 x327 x328 x329 h330=>
 B1 (iadd x329 (.int .i64 1)) fun v331=>
 j248 x325 x326 x327 x328 v331 h330)) (
 j247  h256)
theorem rl_outriderlaw7_WalCuts2 (J:JT) (G:GT) (cf:CF) (j247:K.Fn 0) (j248:K.Fn 5) (x249 x250 x251 x252 x253:AV) (h254:Hp):codeF P J G cf (nT P 4) (atC P 4 [1,1,1,1,1,1,1,1,1,1,1,1,1,0,1,0,0]) (.sq none (.sq none .nl (.cd .nl .nl)) (.sq (some [0,1,2,15,17]) (.bl none (.sq (some [0,1,2,15,17,18,19]) .nl (.sq (some [0,1,2,15,17,182]) .nl (.cd (.sq none .nl .nl) .nl)))) .nl)) (fun t H=>app 5 j248 (vals [0,1,2,15,17] t) H) (fun q t H=>match Nat.beq q 4 with | true=>app 0 j247 (vals [] t) H | false=>(fun _ _ _=>none) q t H) (retK P 4) (mkT (nT P 4) [0,1,2,15,17] [x249,x250,x251,x252,x253]) h254=
(B2 (cf (.func (.func 16) [] []) [x252] h254) fun v255 h256=>
 B1 (ilt x253 v255) fun v257=>
 CD v257 (
 J 5 (fun j258=>
 J 7 (fun j259=>
 B2 (cf (.func (.func 10) [] []) [x252,x253] h256) fun v260 h261=>
 B1 (ex 0 v260) fun v262=>
 B1 (ex 1 v260) fun v263=>
 BN (newCells h261 [(.int .u64 0),.slice0] 37 0) fun i264 h265=>
 B1 (st 2 (.ptr i264 0) v262 h265) fun h266=>
 j259 x249 x250 x251 x252 x253 (.ptr i264 0) v263 h266) (fun x267 x268 x269 x270 x271 x272 x273 h274=>
 J 6 (fun j275=>
 B1 (ine x273 (.int .i64 0)) fun v276=>
 GD2 v276 false (
 B1 (ilt x271 x268) fun v277=>
 GD2 v277 true (
 B1 (fa 1 x272) fun v278=>
 B1 (ld v278 h274) fun v279=>
 B1 (b2s v279 h274) fun v280=>
 B1 (ia 1 x267 x271) fun v281=>
 B1 (ld v281 h274) fun v282=>
 B1 (b2s v282 h274) fun v283=>
 B1 (sne v280 v283) fun v284=>
 GD2 v284 false (
 B1 (fa 0 x272) fun v285=>
 B1 (ld v285 h274) fun v286=>
 B2 (cf (.func (.func 17) [] []) [v286] h274) fun v287 h288=>
 B1 (ine v287 (.int .i64 1)) fun v289=>
 GD2 v289 false (
 B1 (ige x271 x268) fun v290=>
 GD2 v290 true (
 B1 (fa 1 x272) fun v291=>
 B1 (ld v291 h288) fun v292=>
 B1 (b2s v292 h288) fun v293=>
 B1 (isub x271 x268) fun v294=>
 B1 (ia 1 x269 v294) fun v295=>
 B1 (ld v295 h288) fun v296=>
 B1 (b2s v296 h288) fun v297=>
 B1 (sne v293 v297) fun v298=>
 GD2 v298 false (
 B1 (fa 0 x272) fun v299=>
 B1 (ld v299 h288) fun v300=>
 B2 (cf (.func (.func 17) [] []) [v300] h288) fun v301 h302=>
 B1 (ine v301 (.int .i64 2)) fun v303=>
 j275 x267 x268 x269 x270 x271 v303 h302) (
 j275 x267 x268 x269 x270 x271 (.bool true) h288)) (
 j275 x267 x268 x269 x270 x271 (.bool false) h288)) (
 j275 x267 x268 x269 x270 x271 (.bool true) h288)) (
 j275 x267 x268 x269 x270 x271 (.bool true) h274)) (
 B1 (ige x271 x268) fun v304=>
 GD2 v304 true (
 B1 (fa 1 x272) fun v305=>
 B1 (ld v305 h274) fun v306=>
 B1 (b2s v306 h274) fun v307=>
 B1 (isub x271 x268) fun v308=>
 B1 (ia 1 x269 v308) fun v309=>
 B1 (ld v309 h274) fun v310=>
 B1 (b2s v310 h274) fun v311=>
 B1 (sne v307 v311) fun v312=>
 GD2 v312 false (
 B1 (fa 0 x272) fun v313=>
 B1 (ld v313 h274) fun v314=>
 B2 (cf (.func (.func 17) [] []) [v314] h274) fun v315 h316=>
 B1 (ine v315 (.int .i64 2)) fun v317=>
 j275 x267 x268 x269 x270 x271 v317 h316) (
 j275 x267 x268 x269 x270 x271 (.bool true) h274)) (
 j275 x267 x268 x269 x270 x271 (.bool false) h274))) (
 j275 x267 x268 x269 x270 x271 (.bool true) h274)) (fun x318 x319 x320 x321 x322 x323 h324=>
 CD x323 (
 some ((.bool false),h324)) (
 j258 x318 x319 x320 x321 x322 h324)))) (fun x325 x326 x327 x328 x329 h330=>
 B1 (iadd x329 (.int .i64 1)) fun v331=>
 j248 x325 x326 x327 x328 v331 h330)) (
 j247  h256)):=by kernel_rfl
theorem dl_outriderlaw7_WalCuts2 (J:JT) (G:GT) (cf:CF) (j247:K.Fn 0):l_outriderlaw7_WalCuts2 J G cf j247=loopF P J G cf (nT P 4) (atC P 4 [1,1,1,1,1,1,1,1,1,1,1,1,1,0,1,0,0]) (.sq none (.sq none .nl (.cd .nl .nl)) (.sq (some [0,1,2,15,17]) (.bl none (.sq (some [0,1,2,15,17,18,19]) .nl (.sq (some [0,1,2,15,17,182]) .nl (.cd (.sq none .nl .nl) .nl)))) .nl)) [0,1,2,15,17] (fun q t H=>match Nat.beq q 4 with | true=>app 0 j247 (vals [] t) H | false=>(fun _ _ _=>none) q t H) (retK P 4):=by
 unfold l_outriderlaw7_WalCuts2 loopF
 refine congrArg (LP 5) ?_
 funext j248 x249 x250 x251 x252 x253 h254
 exact (rl_outriderlaw7_WalCuts2 J G cf j247 j248 x249 x250 x251 x252 x253 h254).symm
theorem ql_outriderlaw7_WalCuts2 (cf:CF) (j247:K.Fn 0) (x249 x250 x251 x252 x253:AV) (h254:Hp):l_outriderlaw7_WalCuts2 JN GO cf j247 x249 x250 x251 x252 x253 h254=
 B2 (cf (.func (.func 16) [] []) [x252] h254) fun v255 h256=>
 B1 (ilt x253 v255) fun v257=>
 CD v257 (
 JN 5 (fun j258=>
 JN 7 (fun j259=>
 B2 (cf (.func (.func 10) [] []) [x252,x253] h256) fun v260 h261=>
 B1 (ex 0 v260) fun v262=>
 B1 (ex 1 v260) fun v263=>
 BN (newCells h261 [(.int .u64 0),.slice0] 37 0) fun i264 h265=>
 B1 (st 2 (.ptr i264 0) v262 h265) fun h266=>
 j259 x249 x250 x251 x252 x253 (.ptr i264 0) v263 h266) (fun x267 x268 x269 x270 x271 x272 x273 h274=>
 JN 6 (fun j275=>
 B1 (ine x273 (.int .i64 0)) fun v276=>
 GD2 v276 false (
 B1 (ilt x271 x268) fun v277=>
 GD2 v277 true (
 B1 (fa 1 x272) fun v278=>
 B1 (ld v278 h274) fun v279=>
 B1 (b2s v279 h274) fun v280=>
 B1 (ia 1 x267 x271) fun v281=>
 B1 (ld v281 h274) fun v282=>
 B1 (b2s v282 h274) fun v283=>
 B1 (sne v280 v283) fun v284=>
 GD2 v284 false (
 B1 (fa 0 x272) fun v285=>
 B1 (ld v285 h274) fun v286=>
 B2 (cf (.func (.func 17) [] []) [v286] h274) fun v287 h288=>
 B1 (ine v287 (.int .i64 1)) fun v289=>
 GD2 v289 false (
 B1 (ige x271 x268) fun v290=>
 GD2 v290 true (
 B1 (fa 1 x272) fun v291=>
 B1 (ld v291 h288) fun v292=>
 B1 (b2s v292 h288) fun v293=>
 B1 (isub x271 x268) fun v294=>
 B1 (ia 1 x269 v294) fun v295=>
 B1 (ld v295 h288) fun v296=>
 B1 (b2s v296 h288) fun v297=>
 B1 (sne v293 v297) fun v298=>
 GD2 v298 false (
 B1 (fa 0 x272) fun v299=>
 B1 (ld v299 h288) fun v300=>
 B2 (cf (.func (.func 17) [] []) [v300] h288) fun v301 h302=>
 B1 (ine v301 (.int .i64 2)) fun v303=>
 j275 x267 x268 x269 x270 x271 v303 h302) (
 j275 x267 x268 x269 x270 x271 (.bool true) h288)) (
 j275 x267 x268 x269 x270 x271 (.bool false) h288)) (
 j275 x267 x268 x269 x270 x271 (.bool true) h288)) (
 j275 x267 x268 x269 x270 x271 (.bool true) h274)) (
 B1 (ige x271 x268) fun v304=>
 GD2 v304 true (
 B1 (fa 1 x272) fun v305=>
 B1 (ld v305 h274) fun v306=>
 B1 (b2s v306 h274) fun v307=>
 B1 (isub x271 x268) fun v308=>
 B1 (ia 1 x269 v308) fun v309=>
 B1 (ld v309 h274) fun v310=>
 B1 (b2s v310 h274) fun v311=>
 B1 (sne v307 v311) fun v312=>
 GD2 v312 false (
 B1 (fa 0 x272) fun v313=>
 B1 (ld v313 h274) fun v314=>
 B2 (cf (.func (.func 17) [] []) [v314] h274) fun v315 h316=>
 B1 (ine v315 (.int .i64 2)) fun v317=>
 j275 x267 x268 x269 x270 x271 v317 h316) (
 j275 x267 x268 x269 x270 x271 (.bool true) h274)) (
 j275 x267 x268 x269 x270 x271 (.bool false) h274))) (
 j275 x267 x268 x269 x270 x271 (.bool true) h274)) (fun x318 x319 x320 x321 x322 x323 h324=>
 CD x323 (
 some ((.bool false),h324)) (
 j258 x318 x319 x320 x321 x322 h324)))) (fun x325 x326 x327 x328 x329 h330=>
 B1 (iadd x329 (.int .i64 1)) fun v331=>
 l_outriderlaw7_WalCuts2 JN GO cf j247 x325 x326 x327 x328 v331 h330)) (
 j247  h256):=by
 have h1:l_outriderlaw7_WalCuts2 JN GO cf j247 x249 x250 x251 x252 x253 h254=app 5 (loopF P JN GO cf (nT P 4) (atC P 4 [1,1,1,1,1,1,1,1,1,1,1,1,1,0,1,0,0]) (.sq none (.sq none .nl (.cd .nl .nl)) (.sq (some [0,1,2,15,17]) (.bl none (.sq (some [0,1,2,15,17,18,19]) .nl (.sq (some [0,1,2,15,17,182]) .nl (.cd (.sq none .nl .nl) .nl)))) .nl)) [0,1,2,15,17] (fun q t H=>match Nat.beq q 4 with | true=>app 0 j247 (vals [] t) H | false=>(fun _ _ _=>none) q t H) (retK P 4)) [x249,x250,x251,x252,x253] h254:=by rw [dl_outriderlaw7_WalCuts2]; kernel_rfl
 refine h1.trans ((loopF_eq (P:=P) cf (nT P 4) (atC P 4 [1,1,1,1,1,1,1,1,1,1,1,1,1,0,1,0,0]) (.sq none (.sq none .nl (.cd .nl .nl)) (.sq (some [0,1,2,15,17]) (.bl none (.sq (some [0,1,2,15,17,18,19]) .nl (.sq (some [0,1,2,15,17,182]) .nl (.cd (.sq none .nl .nl) .nl)))) .nl)) [0,1,2,15,17] (fun q t H=>match Nat.beq q 4 with | true=>app 0 j247 (vals [] t) H | false=>(fun _ _ _=>none) q t H) (retK P 4) [x249,x250,x251,x252,x253] rfl h254).trans ((rl_outriderlaw7_WalCuts2 JN GO cf j247 _ x249 x250 x251 x252 x253 h254).trans ?_))
 rw [dl_outriderlaw7_WalCuts2]
noncomputable def s_outriderlaw7_WalCuts (J:JT) (G:GT) (cf:CF) (a0 a1 a2:AV) (H:Hp):R:=
 B2 (cf (.func (.func 6) [] []) [] H) fun v0 h1=>
 B1 (unA .not v0) fun v2=>
 CD v2 (
 some ((.bool false),h1)) (
 J 3 (fun j3=>
 J 4 (fun j4=>
 B1 (lenx a0) fun v5=>
 B1 (igt v5 (.int .i64 15)) fun v6=>
 G v6 false (fun k7=>
 k7 a2 h1) (fun v8 h9=>
 G v6 false (fun k10=>
 B1 (lenx v8) fun v11=>
 k10 v11 h9) (fun v12 h13=>
 G v6 false (fun k14=>
 B1 (igt v12 (.int .i64 10)) fun v15=>
 k14 v15 h13) (fun v16 h17=>
 B1 (pk v6 (.bool true) v16) fun v18=>
 G v18 false (fun k19=>
 k19 a1 h17) (fun v20 h21=>
 G v18 false (fun k22=>
 B1 (ilt v20 (.int .i64 0)) fun v23=>
 k22 v23 h21) (fun v24 h25=>
 B1 (pk v18 (.bool true) v24) fun v26=>
 G v26 false (fun k27=>
 k27 a1 h25) (fun v28 h29=>
 G v26 false (fun k30=>
 k30 a0 h29) (fun v31 h32=>
 G v26 false (fun k33=>
 B1 (lenx v31) fun v34=>
 k33 v34 h32) (fun v35 h36=>
 G v26 false (fun k37=>
 B1 (igt v28 v35) fun v38=>
 k37 v38 h36) (fun v39 h40=>
 B1 (pk v26 (.bool true) v39) fun v41=>
 j4 a0 a1 a2 v41 h40) h36) h32) h29) h25) h21) h17) h13) h9) h1) (fun x42 x43 x44 x45 h46=>
 CD x45 (
 some ((.bool true),h46)) (
 j3 x42 x43 x44 h46))) (fun x47 x48 x49 h50=>
 J 5 (fun j51=>
 B2 (cf (.func (.func 7) [] []) [(.int .i64 120)] h50) fun v52 h53=>
 B1 (ex 0 v52) fun v54=>
 B1 (ex 1 v52) fun v55=>
 j51 x47 x48 x49 v54 v55 h53) (fun x56 x57 x58 x59 x60 h61=>
 B1 (eqB .eql (pe x59 .ptr0 h61)) fun v62=>
 CD v62 (
 some ((.bool false),h61)) (
 J 5 (fun j63=>
 J 5 (fun j64=>
 l_outriderlaw7_WalCuts J G cf j64 x56 x57 x58 x59 x60 (.int .i64 0) h61) (fun x104 x105 x106 x107 x108 h109=>
 j63 x104 x105 x106 x107 x108 h109)) (fun x110 x111 x112 x113 x114 h115=>
 J 5 (fun j116=>
 B2 (cf (.func (.func 11) [] []) [x113,x111] h115) fun v117 h118=>
 B1 (ine v117 (.int .i64 0)) fun v119=>
 CD v119 (
 some ((.bool false),h118)) (
 j116 x110 x111 x112 x113 x114 h118)) (fun x120 x121 x122 x123 x124 h125=>
 J 5 (fun j126=>
 J 5 (fun j127=>
 l_outriderlaw7_WalCuts1 J G cf j127 x120 x121 x122 x123 x124 (.int .i64 0) h125) (fun x167 x168 x169 x170 x171 h172=>
 j126 x167 x168 x169 x170 x171 h172)) (fun x173 x174 x175 x176 x177 h178=>
 B2 (cf (.func (.func 12) [] []) [x176] h178) fun v179 h180=>
 B1 (ine v179 (.int .i64 0)) fun v181=>
 CD v181 (
 some ((.bool false),h180)) (
 B2 (cf (.func (.func 13) [] []) [x177,.slice0] h180) fun v182 h183=>
 B2 (cf (.func (.func 14) [] []) [x177] h183) fun v184 h185=>
 J 5 (fun j186=>
 B2 (cf (.func (.func 15) [] []) [x177,(.int .i64 120)] h185) fun v187 h188=>
 B1 (ex 0 v187) fun v189=>
 B1 (ex 1 v187) fun v190=>
 j186 x173 x174 x175 v189 v190 h188) (fun x191 x192 x193 x194 x195 h196=>
 J 4 (fun j197=>
 J 5 (fun j198=>
 B1 (ine x195 (.int .i64 0)) fun v199=>
 G v199 false (fun k200=>
 k200 x194 h196) (fun v201 h202=>
 G v199 false (fun k203=>
 B1 (eqB .eql (pe v201 .ptr0 h202)) fun v204=>
 k203 v204 h202) (fun v205 h206=>
 B1 (pk v199 (.bool true) v205) fun v207=>
 G v207 false (fun k208=>
 k208 x194 h206) (fun v209 h210=>
 G v207 false (fun k211=>
 B2 (cf (.func (.func 16) [] []) [v209] h210) fun v212 h213=>
 k211 v212 h213) (fun v214 h215=>
 G v207 false (fun k216=>
 k216 x192 h215) (fun v217 h218=>
 G v207 false (fun k219=>
 k219 x193 h218) (fun v220 h221=>
 G v207 false (fun k222=>
 B1 (lenx v220) fun v223=>
 k222 v223 h221) (fun v224 h225=>
 G v207 false (fun k226=>
 B1 (iadd v217 v224) fun v227=>
 k226 v227 h225) (fun v228 h229=>
 G v207 false (fun k230=>
 B1 (ine v214 v228) fun v231=>
 k230 v231 h229) (fun v232 h233=>
 B1 (pk v207 (.bool true) v232) fun v234=>
 j198 x191 x192 x193 x194 v234 h233) h229) h225) h221) h218) h215) h210) h206) h202) h196) (fun x235 x236 x237 x238 x239 h240=>
 CD x239 (
 some ((.bool false),h240)) (
 j197 x235 x236 x237 x238 h240))) (fun x241 x242 x243 x244 h245=>
 J 0 (fun j246=>
 J 0 (fun j247=>
 l_outriderlaw7_WalCuts2 J G cf j247 x241 x242 x243 x244 (.int .i64 0) h245) (fun  h332=>
 j246  h332)) (fun  h333=>
 some ((.bool true),h333))))))))))))
theorem e_outriderlaw7_WalCuts (J:JT) (G:GT) (cf:CF) (a0 a1 a2:AV) (H:Hp):callF P J G prim an cf 4 [a0,a1,a2] H=s_outriderlaw7_WalCuts J G cf a0 a1 a2 H:=by kernel_rfl
theorem c_outriderlaw7_WalCuts {a0 a1 a2:AV} {H:Hp} {r:AV × Hp} (h:s_outriderlaw7_WalCuts JN GO cK a0 a1 a2 H=some r):cK (.func (.func 4) [] []) [a0,a1,a2] H=some r:=callF_fix (first:=[]) (cap:=[]) ((e_outriderlaw7_WalCuts JN GO _ a0 a1 a2 H).trans h)
noncomputable def s_outriderlaw7_begun (J:JT) (G:GT) (cf:CF) (a0:AV) (H:Hp):R:=
 J 3 (fun j0=>
 B2 (cf (.func (.func 23) [] []) [(.int .i64 65536)] H) fun v1 h2=>
 B1 (ex 0 v1) fun v3=>
 B1 (ex 1 v1) fun v4=>
 j0 a0 v3 v4 h2) (fun x5 x6 x7 h8=>
 J 2 (fun j9=>
 J 3 (fun j10=>
 B1 (ine x7 (.int .i64 0)) fun v11=>
 G v11 false (fun k12=>
 k12 x6 h8) (fun v13 h14=>
 G v11 false (fun k15=>
 B1 (eqB .eql (pe v13 .ptr0 h14)) fun v16=>
 k15 v16 h14) (fun v17 h18=>
 B1 (pk v11 (.bool true) v17) fun v19=>
 j10 x5 x6 v19 h18) h14) h8) (fun x20 x21 x22 h23=>
 CD x22 (
 some (.tuple [.ptr0,.ptr0],h23)) (
 j9 x20 x21 h23))) (fun x24 x25 h26=>
 J 3 (fun j27=>
 B2 (cf (.func (.func 15) [] []) [x25,x24] h26) fun v28 h29=>
 B1 (ex 0 v28) fun v30=>
 B1 (ex 1 v28) fun v31=>
 j27 x25 v30 v31 h29) (fun x32 x33 x34 h35=>
 B1 (ine x34 (.int .i64 0)) fun v36=>
 CD v36 (
 some (.tuple [.ptr0,.ptr0],h35)) (
 some (.tuple [x33,x32],h35)))))
theorem c_outriderlaw7_begun {a0:AV} {H:Hp} {r:AV × Hp} (h:s_outriderlaw7_begun JN GO cK a0 H=some r):cK (.func (.func 7) [] []) [a0] H=some r:=callF_fix (first:=[]) (cap:=[]) (Eq.trans (by kernel_rfl) h)
noncomputable def l_wal_Open (J:JT) (G:GT) (cf:CF) (j63:K.Fn 1):K.Fn 5:=LP 5 fun j64=>fun x65 x66 x67 x68 x69 h70=>
 B1 (ilt x69 x68) fun v71=>
 CD v71 (
 J 5 (fun j72=>
 B1 (ia 2 x67 x69) fun v73=>
 B1 (lda 2 v73 h70) fun v74=>
 BN (newCells h70 [(.int .i64 0),(.int .i64 0)] 66 0) fun i75 h76=>
 B1 (st 2 (.ptr i75 0) v74 h76) fun h77=>
 J 6 (fun j78=>
 B1 (lda 2 (.ptr i75 0) h77) fun v79=>
 B2 (cf (.func (.func 28) [] []) [v79] h77) fun v80 h81=>
 B2 (cf (.func (.func 34) [] []) [x65,v80] h81) fun v82 h83=>
 j78 x65 x66 v82 x67 x68 x69 h83) (fun x84 x85 x86 x87 x88 x89 h90=>
 B1 (ine x86 (.int .i64 0)) fun v91=>
 CD v91 (
 some (.tuple [.ptr0,x86],h90)) (
 j72 x84 x85 x87 x88 x89 h90))) (fun x92 x93 x94 x95 x96 h97=>
 B1 (iadd x96 (.int .i64 1)) fun v98=>
 j64 x92 x93 x94 x95 v98 h97)) (
 j63 x66 h70)
theorem rl_wal_Open (J:JT) (G:GT) (cf:CF) (j63:K.Fn 1) (j64:K.Fn 5) (x65 x66 x67 x68 x69:AV) (h70:Hp):codeF P J G cf (nT P 15) (atC P 15 [1,1,1,1,1,0,1,0,0]) (.sq none .nl (.sq none (.cd .nl .nl) (.sq (some [0,6,38,39,40]) (.bl none (.sq none .nl (.sq (some [0,6,10,38,39,40]) .nl (.sq none .nl (.cd (.sq none .nl .nl) .nl))))) .nl))) (fun t H=>app 5 j64 (vals [0,6,38,39,40] t) H) (fun q t H=>match Nat.beq q 0 with | true=>app 1 j63 (vals [6] t) H | false=>(fun _ _ _=>none) q t H) (retK P 15) (mkT (nT P 15) [0,6,38,39,40] [x65,x66,x67,x68,x69]) h70=
(B1 (ilt x69 x68) fun v71=>
 CD v71 (
 J 5 (fun j72=>
 B1 (ia 2 x67 x69) fun v73=>
 B1 (lda 2 v73 h70) fun v74=>
 BN (newCells h70 [(.int .i64 0),(.int .i64 0)] 66 0) fun i75 h76=>
 B1 (st 2 (.ptr i75 0) v74 h76) fun h77=>
 J 6 (fun j78=>
 B1 (lda 2 (.ptr i75 0) h77) fun v79=>
 B2 (cf (.func (.func 28) [] []) [v79] h77) fun v80 h81=>
 B2 (cf (.func (.func 34) [] []) [x65,v80] h81) fun v82 h83=>
 j78 x65 x66 v82 x67 x68 x69 h83) (fun x84 x85 x86 x87 x88 x89 h90=>
 B1 (ine x86 (.int .i64 0)) fun v91=>
 CD v91 (
 some (.tuple [.ptr0,x86],h90)) (
 j72 x84 x85 x87 x88 x89 h90))) (fun x92 x93 x94 x95 x96 h97=>
 B1 (iadd x96 (.int .i64 1)) fun v98=>
 j64 x92 x93 x94 x95 v98 h97)) (
 j63 x66 h70)):=by kernel_rfl
theorem dl_wal_Open (J:JT) (G:GT) (cf:CF) (j63:K.Fn 1):l_wal_Open J G cf j63=loopF P J G cf (nT P 15) (atC P 15 [1,1,1,1,1,0,1,0,0]) (.sq none .nl (.sq none (.cd .nl .nl) (.sq (some [0,6,38,39,40]) (.bl none (.sq none .nl (.sq (some [0,6,10,38,39,40]) .nl (.sq none .nl (.cd (.sq none .nl .nl) .nl))))) .nl))) [0,6,38,39,40] (fun q t H=>match Nat.beq q 0 with | true=>app 1 j63 (vals [6] t) H | false=>(fun _ _ _=>none) q t H) (retK P 15):=by
 unfold l_wal_Open loopF
 refine congrArg (LP 5) ?_
 funext j64 x65 x66 x67 x68 x69 h70
 exact (rl_wal_Open J G cf j63 j64 x65 x66 x67 x68 x69 h70).symm
theorem ql_wal_Open (cf:CF) (j63:K.Fn 1) (x65 x66 x67 x68 x69:AV) (h70:Hp):l_wal_Open JN GO cf j63 x65 x66 x67 x68 x69 h70=
 B1 (ilt x69 x68) fun v71=>
 CD v71 (
 JN 5 (fun j72=>
 B1 (ia 2 x67 x69) fun v73=>
 B1 (lda 2 v73 h70) fun v74=>
 BN (newCells h70 [(.int .i64 0),(.int .i64 0)] 66 0) fun i75 h76=>
 B1 (st 2 (.ptr i75 0) v74 h76) fun h77=>
 JN 6 (fun j78=>
 B1 (lda 2 (.ptr i75 0) h77) fun v79=>
 B2 (cf (.func (.func 28) [] []) [v79] h77) fun v80 h81=>
 B2 (cf (.func (.func 34) [] []) [x65,v80] h81) fun v82 h83=>
 j78 x65 x66 v82 x67 x68 x69 h83) (fun x84 x85 x86 x87 x88 x89 h90=>
 B1 (ine x86 (.int .i64 0)) fun v91=>
 CD v91 (
 some (.tuple [.ptr0,x86],h90)) (
 j72 x84 x85 x87 x88 x89 h90))) (fun x92 x93 x94 x95 x96 h97=>
 B1 (iadd x96 (.int .i64 1)) fun v98=>
 l_wal_Open JN GO cf j63 x92 x93 x94 x95 v98 h97)) (
 j63 x66 h70):=by
 have h1:l_wal_Open JN GO cf j63 x65 x66 x67 x68 x69 h70=app 5 (loopF P JN GO cf (nT P 15) (atC P 15 [1,1,1,1,1,0,1,0,0]) (.sq none .nl (.sq none (.cd .nl .nl) (.sq (some [0,6,38,39,40]) (.bl none (.sq none .nl (.sq (some [0,6,10,38,39,40]) .nl (.sq none .nl (.cd (.sq none .nl .nl) .nl))))) .nl))) [0,6,38,39,40] (fun q t H=>match Nat.beq q 0 with | true=>app 1 j63 (vals [6] t) H | false=>(fun _ _ _=>none) q t H) (retK P 15)) [x65,x66,x67,x68,x69] h70:=by rw [dl_wal_Open]; kernel_rfl
 refine h1.trans ((loopF_eq (P:=P) cf (nT P 15) (atC P 15 [1,1,1,1,1,0,1,0,0]) (.sq none .nl (.sq none (.cd .nl .nl) (.sq (some [0,6,38,39,40]) (.bl none (.sq none .nl (.sq (some [0,6,10,38,39,40]) .nl (.sq none .nl (.cd (.sq none .nl .nl) .nl))))) .nl))) [0,6,38,39,40] (fun q t H=>match Nat.beq q 0 with | true=>app 1 j63 (vals [6] t) H | false=>(fun _ _ _=>none) q t H) (retK P 15) [x65,x66,x67,x68,x69] rfl h70).trans ((rl_wal_Open JN GO cf j63 _ x65 x66 x67 x68 x69 h70).trans ?_))
 rw [dl_wal_Open]
noncomputable def s_wal_Open (J:JT) (G:GT) (cf:CF) (a0 a1:AV) (H:Hp):R:=
 J 2 (fun j0=>
 J 3 (fun j1=>
 B1 (eqB .eql (pe a0 .ptr0 H)) fun v2=>
 G v2 false (fun k3=>
 k3 a1 H) (fun v4 h5=>
 G v2 false (fun k6=>
 B1 (ilt v4 (.int .i64 64)) fun v7=>
 k6 v7 h5) (fun v8 h9=>
 B1 (pk v2 (.bool true) v8) fun v10=>
 G v10 false (fun k11=>
 k11 a1 h9) (fun v12 h13=>
 G v10 false (fun k14=>
 B1 (igt v12 (.int .i64 1048576)) fun v15=>
 k14 v15 h13) (fun v16 h17=>
 B1 (pk v10 (.bool true) v16) fun v18=>
 j1 a0 a1 v18 h17) h13) h9) h5) H) (fun x19 x20 x21 h22=>
 CD x21 (
 some (.tuple [.ptr0,(.int .i64 1)],h22)) (
 j0 x19 x20 h22))) (fun x23 x24 h25=>
 B2 (cf (.func (.func 19) [] []) [x23] h25) fun v26 h27=>
 CD v26 (
 some (.tuple [.ptr0,(.int .i64 11)],h27)) (
 J 2 (fun j28=>
 B1 (fl [.ptr0,(.int .i64 0),.slice0,.slice0,(.int .i64 0),(.int .i64 0)] [(0,1,x23),(1,1,x24)]) fun l29=>
 BN (bx 57 (.agg l29) h27) fun i30 h31=>
 j28 x23 (.ptr i30 0) h31) (fun x32 x33 h34=>
 J 2 (fun j35=>
 J 3 (fun j36=>
 B2 (cf (.func (.func 35) [] []) [x32] h34) fun v37 h38=>
 B2 (cf (.func (.func 37) [] []) [v37] h38) fun v39 h40=>
 B2 (cf (.func (.func 36) [] []) [x33,v39] h40) fun v41 h42=>
 j36 x32 x33 v41 h42) (fun x43 x44 x45 h46=>
 B1 (ine x45 (.int .i64 0)) fun v47=>
 CD v47 (
 some (.tuple [.ptr0,x45],h46)) (
 j35 x43 x44 h46))) (fun x48 x49 h50=>
 J 1 (fun j51=>
 J 5 (fun j52=>
 B1 (nilA x49) fun v53=>
 B1 (fa 2 v53) fun v54=>
 B1 (ld v54 h50) fun v55=>
 B1 (lenx v55) fun v56=>
 j52 x48 x49 v55 v56 (.int .i64 0) h50) (fun x57 x58 x59 x60 x61 h62=>
 J 1 (fun j63=>
 l_wal_Open J G cf j63 x57 x58 x59 x60 x61 h62) (fun x99 h100=>
 j51 x99 h100))) (fun x101 h102=>
 J 1 (fun j103=>
 B2 (cf (.func (.func 16) [] []) [x101] h102) fun v104 h105=>
 B1 (nilA x101) fun v106=>
 B1 (fa 5 v106) fun v107=>
 B1 (st 1 v107 v104 h105) fun h108=>
 j103 x101 h108) (fun x109 h110=>
 some (.tuple [x109,(.int .i64 0)],h110)))))))
theorem e_wal_Open (J:JT) (G:GT) (cf:CF) (a0 a1:AV) (H:Hp):callF P J G prim an cf 15 [a0,a1] H=s_wal_Open J G cf a0 a1 H:=by kernel_rfl
theorem c_wal_Open {a0 a1:AV} {H:Hp} {r:AV × Hp} (h:s_wal_Open JN GO cK a0 a1 H=some r):cK (.func (.func 15) [] []) [a0,a1] H=some r:=callF_fix (first:=[]) (cap:=[]) ((e_wal_Open JN GO _ a0 a1 H).trans h)
noncomputable def s_wal_clone (J:JT) (G:GT) (cf:CF) (a0:AV) (H:Hp):R:=
 BN (bx 37 a0 H) fun i0 h1=>
 BN (newCells h1 [(.int .u64 0),.slice0] 37 0) fun i2 h3=>
 B1 (fa 0 (.ptr i0 0)) fun v4=>
 B1 (ld v4 h3) fun v5=>
 B1 (fa 1 (.ptr i0 0)) fun v6=>
 B1 (ld v6 h3) fun v7=>
 B2 (cf (.func (.func 25) [] []) [v7] h3) fun v8 h9=>
 B1 (fl [(.int .u64 0),.slice0] [(0,1,v5),(1,1,v8)]) fun l10=>
 B1 (st 2 (.ptr i2 0) (.agg l10) h9) fun h11=>
 B1 (ld v4 h9) fun v12=>
 SM v5 v12 <|
 B1 (lda 2 (.ptr i2 0) h11) fun v13=>
 some (v13,h11)
theorem c_wal_clone {a0:AV} {H:Hp} {r:AV × Hp} (h:s_wal_clone JN GO cK a0 H=some r):cK (.func (.func 29) [] []) [a0] H=some r:=callF_fix (first:=[]) (cap:=[]) (Eq.trans (by kernel_rfl) h)
end
end Go.Proofs.YtbdlbhlhnpblpaaGreatDoor.WlK
