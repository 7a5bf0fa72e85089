/- Laws that the proof uses. -/
import Derived.Test.YtehhgkgeldinkaaGreatDoorHp
set_option linter.unusedVariables false
set_option maxRecDepth 100000
namespace Go.Proofs.YtehhgkgeldinkaaGreatDoor.dg
open Go Am Am.K jn
noncomputable section
noncomputable abbrev P:Program:=Tryz.prog
noncomputable def anL : List (Nat × An) := [
 (24, (.n (.s [0] (.t [0, 9] (.cd (.n .nl) .nl)) (.n .nl)))),
 (181, (.n (.n .nl))),
 (121, (.n (.t [0, 1, 6] (.s [6] (.b (.t [1, 6, 13] (.cd (.n .nl) (.n (.cd (.n .nl) (.n (.cd (.n .nl) .nl))))))) (.n .nl))))),
 (122, (.n (.s [0] (.t [0, 7] (.cd (.n .nl) .nl)) (.t [0] (.s [0] (.t [0, 19] (.cd (.n .nl) .nl)) (.t [] (.n .nl))))))),
 (203, (.n (.t [0, 1, 2, 7, 8] (.s [0, 1, 2, 7] (.b (.t [0, 1, 2, 7, 8, 15] (.cd (.n .nl) (.t [0, 1, 2, 7, 23] (.cd (.n .nl) (.n (.cd (.n .nl) .nl))))))) (.s [2, 7] (.n (.cd (.n .nl) .nl)) (.t [] (.n .nl))))))),
 (67, (.n (.t [0, 5, 6] (.s [5] (.b (.n (.cd (.n .nl) (.n (.cd (.n .nl) .nl))))) (.t [] (.n .nl)))))),
 (171, (.n (.t [0, 1, 6] (.s [0, 1] (.b (.n (.cd (.n .nl) (.n (.cd (.n .nl) .nl))))) (.t [] (.n .nl)))))),
 (71, (.n (.t [6, 7] (.s [6] (.n (.cd (.n .nl) .nl)) (.n .nl))))),
 (264, (.n (.s [] (.t [5] (.n (.cd (.n .nl) .nl))) (.n .nl)))),
 (91, (.q (.n (.cd .nl .nl)) (.s [0] (.n (.v [0] (.lp [0, 1, 14, 15, 16] (.n (.q (.cd .nl .nl) (.s [0, 1, 14, 15, 16] (.v [0, 1, 14, 15, 16] (.n (.t [0, 1, 6, 14, 15, 16] (.t [0, 1, 6, 7, 14, 15, 16] (.q (.n (.cd .nl .nl)) (.n (.s [0, 1, 6, 8, 14, 15, 16] (.n (.cd (.t [0, 1, 6, 8, 14, 15, 16] .nl) .nl)) (.t [0, 1, 6, 14, 15, 16] .nl)))))))) .nl)))))) (.n .nl)))),
 (130, .nl),
 (63, (.n (.n .nl))),
 (204, (.n (.t [0, 1, 2, 7, 8] (.s [0, 1, 2, 7] (.b (.n (.cd (.n .nl) (.n (.cd (.n .nl) (.n (.cd (.n .nl) (.n (.cd (.n .nl) .nl))))))))) (.t [0, 1, 2, 7] (.t [0, 2, 7] (.t [] (.n .nl)))))))),
 (270, (.n (.n .nl))),
 (271, (.n (.n .nl))),
 (269, (.n (.t [3, 4] (.n .nl)))),
 (218, (.n (.s [0, 1] (.n (.cd (.n .nl) .nl)) (.t [1, 6, 7] (.s [6, 7] (.n (.v [6, 7] (.lp [6, 7, 18, 19, 20] (.n (.q (.cd .nl .nl) (.s [6, 7, 18, 19, 20] (.b (.n (.t [6, 7, 18, 19, 20] .nl))) .nl)))))) (.n .nl)))))),
 (219, (.n (.t [3] (.n .nl)))),
 (262, (.n (.s [0, 1] (.t [0, 1, 19] (.cd (.n .nl) .nl)) (.n .nl)))),
 (173, (.n (.n .nl))),
 (70, (.n (.n .nl))),
 (313, (.n (.s [0] (.n (.v [0] (.lp [0, 1, 8, 9] (.n (.q (.cd .nl .nl) (.s [0, 1, 8, 9] (.b (.n .nl)) .nl)))))) (.n .nl)))),
 (217, (.n (.n (.s [3] (.n (.v [3] (.lp [3, 6, 7, 8] (.n (.q (.cd .nl .nl) (.s [3, 6, 7, 8] (.b (.t [3, 4, 5, 6, 7, 8] .nl)) .nl)))))) (.n .nl))))),
 (263, (.n (.s [0, 3] (.n (.cd (.n .nl) .nl)) (.t [0, 3, 6] (.t [0, 3, 6, 7] (.n .nl)))))),
 (333, (.n (.s [0, 1] (.n (.cd .nl .nl)) (.s [0] (.t [0, 1] (.n (.cd .nl .nl))) (.n .nl))))),
 (314, (.n (.n (.s [0, 3] (.n (.v [0, 3] (.lp [0, 3, 9, 10, 11] (.n (.q (.cd .nl .nl) (.s [0, 3, 9, 10, 11] (.v [0, 3, 9, 10, 11] (.n (.t [0, 3, 9, 10, 11] (.n (.cd .nl .nl))))) .nl)))))) (.n (.s [6] (.n (.v [6] (.lp [6, 25, 26, 27] (.n (.q (.cd .nl .nl) (.s [6, 25, 26, 27] (.b (.n .nl)) .nl)))))) (.n .nl))))))),
 (65, (.n (.n (.s [3] (.n (.v [3] (.lp [3, 8, 9, 10] (.n (.q (.cd .nl .nl) (.s [3, 8, 9, 10] (.v [3, 8, 9, 10] (.n (.t [3, 6, 7, 8, 9, 10] (.n (.cd .nl .nl))))) .nl)))))) (.n (.n .nl)))))),
 (118, (.n (.s [0] (.n (.cd (.n .nl) .nl)) (.s [0] (.n (.v [0] (.lp [0, 3] (.q (.n (.cd .nl .nl)) (.s [0, 3] (.v [0, 3] (.t [0, 3, 25] (.cd (.n (.s [0, 3] (.n (.v [0, 3] (.lp [0, 3, 4, 5] (.q (.n (.cd .nl .nl)) (.s [0, 3, 4, 5] (.v [0, 3, 4, 5] (.t [0, 3, 4, 5, 44] (.cd (.t [0, 3, 4, 5] .nl) .nl))) .nl))))) (.n (.n .nl)))) .nl))) .nl))))) (.n .nl))))),
 (207, (.n (.s [0, 1, 2] (.t [0, 1, 2, 24] (.cd (.n .nl) .nl)) (.t [0, 2, 8, 9] (.t [0, 8, 9, 10] (.t [0, 8, 9, 10, 11, 12] (.s [0, 8, 10, 11] (.b (.n (.cd (.n .nl) (.n (.cd (.n .nl) .nl))))) (.t [0, 8, 10, 11, 13] (.s [0, 8, 10, 11, 13] (.t [0, 8, 10, 11, 13, 70] (.cd (.t [0, 8, 10, 11, 13, 14] (.s [0, 8, 10, 11, 13, 14] (.t [0, 8, 10, 11, 13, 14, 15] (.n (.cd (.n .nl) .nl))) (.t [0, 8, 10, 11, 13] .nl))) (.t [0, 8, 10, 11, 13, 16] (.n (.cd (.n .nl) .nl))))) (.t [0, 8, 10] (.t [8] (.n .nl)))))))))))),
 (69, (.n (.n .nl))),
 (43, (.n (.s [0] (.t [0, 8] (.cd (.n .nl) .nl)) (.n .nl)))),
 (127, (.n (.n .nl))),
 (126, (.n (.n (.s [7] (.t [0, 1, 2, 7] (.v [7] (.lp [0, 1, 2, 7] (.s [0, 1, 2, 7] (.t [0, 1, 2, 7, 23] (.cd .nl .nl)) (.s [0, 1, 2, 7] (.b .nl) .nl))))) (.n .nl))))),
 (209, (.n (.s [0] (.t [0, 10] (.cd (.n .nl) .nl)) (.s [0] (.t [0, 14, 15, 16] (.v [0] (.lp [0, 14, 15, 16] (.n (.q (.cd .nl .nl) (.s [0, 14, 15, 16] (.v [0, 14, 15, 16] (.n (.s [0, 4, 14, 15, 16] (.t [0, 4, 14, 15, 16, 29] (.cd .nl .nl)) (.t [0, 5, 14, 15, 16] (.n (.cd (.n .nl) .nl)))))) .nl)))))) (.t [] (.n .nl)))))),
 (64, (.n (.s [0, 1] (.n (.cd .nl .nl)) (.s [] (.n (.v [] (.lp [0, 1, 22, 23, 24] (.n (.q (.cd .nl .nl) (.s [0, 1, 22, 23, 24] (.b (.t [0, 1, 5, 6, 22, 23, 24] (.s [0, 1, 5, 6, 22, 23, 24] (.n (.cd (.n .nl) .nl)) (.n (.t [0, 1, 5, 6, 7, 8, 9, 22, 23, 24] (.q (.n (.cd (.n .nl) .nl)) (.t [0, 1, 5, 7, 8, 10, 11, 22, 23, 24] (.n (.t [0, 1, 5, 7, 8, 10, 11, 22, 23, 24] (.t [0, 1, 5, 7, 8, 11, 22, 23, 24] (.n (.cd (.s [0, 7, 11] (.t [0, 7, 11, 12] (.n (.cd (.n .nl) .nl))) (.n .nl)) .nl)))))))))))) .nl)))))) (.n .nl))))),
 (68, (.n (.t [3] (.n .nl)))),
 (42, (.n (.s [0, 1] (.t [0, 1, 20] (.cd (.n .nl) .nl)) (.q (.n (.cd (.n .nl) .nl)) (.t [0, 6] (.s [0, 6] (.t [0, 6, 7] (.n (.cd (.n .nl) .nl))) (.s [6] (.t [0, 6, 38, 39, 40] (.v [6] (.lp [0, 6, 38, 39, 40] (.n (.q (.cd .nl .nl) (.s [0, 6, 38, 39, 40] (.b (.n (.t [0, 6, 10, 38, 39, 40] (.n (.cd (.n .nl) .nl))))) .nl)))))) (.t [6] (.n .nl))))))))),
 (183, (.n (.n .nl))),
 (11, (.n (.n (.s [3] (.n (.v [3] (.lp [3, 7, 8, 9] (.n (.q (.cd .nl .nl) (.s [3, 7, 8, 9] (.v [3, 7, 8, 9] (.n (.n (.cd .nl .nl)))) .nl)))))) (.n .nl))))),
 (12, (.n (.t [0, 2, 4] (.s [0, 2, 4] (.n (.b (.s [0, 2, 4, 18, 19] (.n (.cd .nl (.n (.cd .nl .nl)))) (.cd (.n .nl) (.s [0, 2, 4, 28] (.n (.cd .nl (.n (.cd .nl .nl)))) (.cd (.t [2, 4, 5, 6] (.s [2, 4, 5] (.t [2, 4, 5, 43] (.cd (.n .nl) .nl)) (.n .nl))) .nl)))))) (.t [0, 2, 4, 7, 8] (.t [0, 2, 4, 7, 8, 9, 10] (.s [0, 2, 4, 7, 9] (.t [0, 2, 4, 7, 9, 71] (.cd (.n .nl) .nl)) (.t [0, 2, 4, 11] (.n (.s [2, 8, 11] (.n (.v [2, 8, 11] (.n (.cd .nl (.n (.cd .nl (.n (.cd (.n (.t [2, 8, 11, 12] (.n (.cd .nl .nl)))) .nl)))))))) (.n .nl))))))))))),
 (20, (.n (.s [0] (.t [0, 18] (.cd (.n .nl) .nl)) (.n .nl)))),
 (22, (.n (.n .nl))),
 (84, (.n (.n .nl))),
 (149, (.n (.s [0, 5] (.n (.cd (.n .nl) .nl)) (.t [] (.n .nl))))),
 (148, (.n (.s [1, 2, 4] (.t [1, 2, 4, 28] (.cd (.n .nl) .nl)) (.t [1, 2, 4] (.n (.n .nl)))))),
 (201, (.n (.n .nl))),
 (153, (.n (.s [0, 1, 2, 6] (.t [0, 1, 2, 6, 29] (.cd (.n .nl) .nl)) (.n .nl)))),
 (158, (.n (.q (.n (.cd (.n .nl) .nl)) (.n .nl)))),
 (23, (.n (.n .nl))),
 (312, (.n (.n .nl))),
 (208, (.n (.q (.n (.cd (.n .nl) .nl)) (.n (.n (.s [3] (.n (.v [3] (.lp [1, 3, 16] (.n (.q (.cd .nl .nl) (.v [1, 3, 16] (.n (.n (.v [1, 3, 16] (.n (.cd .nl (.n (.cd .nl (.n (.cd .nl (.n (.cd .nl (.n (.cd .nl (.n (.cd .nl (.n (.cd .nl .nl))))))))))))))))))))))) (.n .nl))))))),
 (49, (.n (.t [2, 4] (.n (.s [2, 4, 5] (.n (.v [2, 4, 5] (.lp [2, 4, 5, 16] (.n (.q (.cd .nl .nl) (.v [2, 4, 5, 16] (.n (.n (.v [2, 4, 5, 16] (.n (.cd .nl (.n (.cd .nl (.n (.cd .nl (.n (.cd .nl (.n (.cd .nl (.n (.cd .nl (.n (.cd .nl .nl))))))))))))))))))))))) (.s [2, 5] (.t [2, 5, 57] (.cd (.n .nl) .nl)) (.n .nl))))))),
 (82, (.n (.n (.n .nl)))),
 (80, (.n (.s [] (.n (.b (.n (.cd (.n .nl) (.n (.cd (.n .nl) (.s [3, 8] (.n (.cd .nl .nl)) (.cd (.n .nl) (.n (.cd (.n .nl) (.s [3, 13] (.n (.cd .nl .nl)) (.cd (.n .nl) (.n (.cd (.n .nl) (.n (.cd (.n .nl) .nl)))))))))))))))) (.n .nl)))),
 (131, (.n (.t [1, 2, 4, 5] (.s [4, 5] (.n (.v [4, 5] (.lp [2, 4, 5, 12] (.n (.q (.cd .nl .nl) (.v [2, 4, 5, 12] (.n (.n (.v [2, 4, 5, 12] (.n (.cd .nl (.n (.cd .nl (.n (.cd .nl (.n (.cd .nl (.n (.cd .nl (.n (.cd .nl (.n (.cd .nl .nl))))))))))))))))))))))) (.n .nl))))),
 (134, (.n (.s [2] (.n (.b (.n (.cd (.n .nl) (.n (.cd (.n .nl) (.n (.cd (.n .nl) (.n (.cd (.n (.s [2, 5] (.n (.cd .nl .nl)) (.n .nl))) (.n (.cd (.n .nl) (.n (.cd (.n .nl) .nl)))))))))))))) (.s [2] (.n (.cd (.n .nl) .nl)) (.n .nl))))),
 (133, (.n (.n .nl))),
 (202, (.s [0, 1] (.v [0, 1] (.lp [0, 1] (.q (.n (.cd .nl .nl)) (.s [0, 1] (.b .nl) .nl)))) .nl)),
 (72, (.n (.n (.s [0] (.n (.v [0] (.lp [0, 3, 4] (.s [0, 3, 4] (.t [0, 3, 4, 23] (.cd .nl .nl)) (.s [0, 3, 4] (.b (.t [0, 3, 4, 5] (.t [0, 3, 4, 5] (.q (.n (.cd .nl .nl)) (.s [0, 3, 4] (.t [0, 3, 4, 57] (.cd .nl .nl)) (.t [3] (.n .nl))))))) .nl))))) (.n (.n .nl)))))),
 (79, (.n (.n (.s [5] (.t [0, 5, 20] (.cd (.n (.n .nl)) .nl)) (.n .nl))))),
 (73, (.n (.n .nl))),
 (124, (.n .nl)),
 (261, (.n (.n .nl))),
 (206, (.n (.n (.s [3] (.n (.v [3] (.lp [3, 7, 8, 9] (.n (.q (.cd .nl .nl) (.s [3, 7, 8, 9] (.b (.n .nl)) .nl)))))) (.n .nl))))),
 (193, (.n (.q (.n (.cd (.n .nl) .nl)) (.s [0, 3] (.n (.b (.n (.cd (.n .nl) (.n (.cd (.n .nl) (.n (.cd (.n .nl) (.n (.cd (.n .nl) .nl)))))))))) (.s [0, 3] (.t [0, 3, 38] (.cd (.n .nl) .nl)) (.n .nl)))))),
 (132, (.n (.n .nl))),
 (184, (.n (.n .nl))),
 (236, (.n (.s [] (.n (.v [] (.lp [1, 2, 10] (.n (.q (.cd .nl .nl) (.b (.n (.t [1, 2, 7, 10, 19] (.cd (.n .nl) .nl))))))))) (.n .nl)))),
 (9, (.n (.n .nl))),
 (17, (.n (.q (.n (.cd (.n .nl) .nl)) (.s [0, 1, 2, 3] (.n (.cd (.n .nl) .nl)) (.s [0, 1, 2, 3] (.n (.cd .nl .nl)) (.t [0, 1, 2, 3] (.n (.n (.n (.s [0, 9, 10] (.v [0, 9, 10] (.lp [0, 1, 2, 3, 9, 10] (.q (.n (.cd .nl .nl)) (.b (.n (.q (.n (.cd .nl .nl)) (.t [0, 1, 2, 3, 9, 10, 11] (.t [0, 1, 2, 3, 9, 10] .nl)))))))) (.t [9, 10] (.n .nl)))))))))))),
 (36, (.n (.s [0, 1] (.n (.cd (.n .nl) .nl)) (.s [0, 1] (.n (.cd (.n .nl) .nl)) (.n (.v [4] (.lp [0, 1, 5] (.b (.n (.q (.n (.cd (.n .nl) .nl)) (.n .nl))))))))))),
 (37, (.n (.n .nl))),
 (40, (.n (.s [0, 1] (.n (.b (.n (.cd (.n .nl) (.n (.cd (.n .nl) .nl)))))) (.n (.s [0, 1, 5] (.n (.cd (.s [0, 1, 5] (.t [0, 1, 5, 29] (.cd .nl .nl)) .nl) .nl)) (.s [0, 1, 5] (.n (.v [0, 1, 5] (.lp [0, 1, 5, 39, 40, 41] (.n (.q (.cd .nl .nl) (.s [0, 1, 5, 39, 40, 41] (.b (.n (.s [0, 1, 5, 7, 39, 40, 41] (.t [0, 1, 5, 7, 39, 40, 41, 49] (.cd .nl .nl)) .nl))) .nl)))))) (.n (.n (.n (.s [8] (.n (.v [8] (.lp [1, 8, 63, 64, 65] (.n (.q (.cd .nl .nl) (.s [1, 8, 63, 64, 65] (.b (.n (.n .nl))) .nl)))))) (.n .nl))))))))))),
 (59, (.n (.n (.s [0, 1, 5] (.b (.t [0, 1, 5, 16] (.cd (.n .nl) (.n (.cd (.n .nl) (.t [0, 1, 5, 31] (.cd (.n .nl) (.t [0, 1, 5, 36] (.cd (.n .nl) .nl))))))))) (.n (.n (.n (.t [0, 1, 5, 6, 7, 8, 9] (.n (.s [] (.v [] (.lp [0, 1, 5, 6, 7, 8, 9, 10] (.q (.n (.cd .nl .nl)) (.b (.s [0, 1, 5, 6, 7, 8, 9, 10] (.t [0, 1, 5, 6, 7, 8, 9, 10, 64] (.cd (.t [0, 1, 5, 6, 7, 8, 9, 10, 11] (.q (.n (.cd (.n .nl) .nl)) .nl)) .nl)) (.s [0, 1, 5, 6, 7, 8, 9, 10] (.t [0, 1, 5, 6, 7, 8, 9, 10, 93] (.cd (.n .nl) .nl)) (.n (.n (.t [0, 1, 5, 6, 7, 8, 9, 10, 107] (.cd (.t [8, 12] (.s [] (.n (.cd (.n .nl) .nl)) (.n .nl))) (.t [0, 1, 5, 6, 7, 8, 9, 10, 132] (.cd (.t [8, 13] (.q (.n (.cd (.n .nl) .nl)) (.n .nl))) .nl)))))))))))) (.n .nl))))))))))),
 (99, (.n (.n .nl))),
 (62, (.n (.s [0, 1] (.n (.cd .nl .nl)) (.t [0, 1, 21] (.cd .nl .nl))))),
 (14, (.n (.n (.t [1] (.n .nl))))),
 (16, (.n (.n .nl))),
 (26, (.t [0, 6] (.cd .nl (.t [19] (.cd .nl .nl))))),
 (112, (.t [0, 4] (.t [0, 4] .nl))),
 (10, (.n (.n .nl))),
 (18, (.n (.s [0] (.n (.cd (.n .nl) .nl)) (.n .nl)))),
 (38, (.n (.n .nl))),
 (25, (.n (.s [0, 1] (.t [0, 1, 13] (.cd (.n .nl) .nl)) (.t [0, 1, 6, 7] (.s [0, 1, 6] (.n (.cd (.n .nl) .nl)) (.n .nl)))))),
 (150, (.n (.s [0, 1] (.t [0, 1, 5] (.t [0, 1, 5, 22] (.cd (.n .nl) .nl))) (.n (.n (.s [0, 1] (.t [0, 1, 7] (.n (.cd (.n .nl) .nl))) (.s [0, 1] (.t [0, 1, 8] (.n (.cd (.n .nl) .nl))) (.t [] (.n .nl))))))))),
 (44, (.n (.t [3] (.n (.n (.s [6] (.t [6, 20] (.cd (.n .nl) .nl)) (.n .nl))))))),
 (205, (.n (.n .nl))),
 (151, (.n (.n (.s [3] (.n (.v [3] (.lp [3, 9, 10, 11] (.n (.q (.cd .nl .nl) (.s [3, 9, 10, 11] (.v [3, 9, 10, 11] (.n (.t [3, 6, 7, 9, 10, 11] (.n (.cd .nl .nl))))) .nl)))))) (.n .nl))))),
 (152, (.n (.s [0] (.t [0, 6] (.n (.cd (.n .nl) .nl))) (.n .nl)))),
 (94, (.n (.s [0, 1] (.t [0, 1, 19] (.cd (.n .nl) .nl)) (.n (.t [0, 1, 5, 6, 7] (.s [0, 6] (.b (.n (.cd (.n .nl) (.t [0, 1, 5, 6, 34] (.cd (.n .nl) (.t [0, 6, 42] (.cd (.n .nl) .nl))))))) (.t [0, 6] (.s [0] (.t [0, 8] (.n (.cd (.n .nl) .nl))) (.t [0] (.s [0] (.t [0, 9] (.n (.cd (.n .nl) .nl))) (.t [0, 10, 11] (.t [11] (.n .nl))))))))))))),
 (154, (.n (.s [] (.b (.t [0, 3] (.cd (.n .nl) (.t [12] (.cd (.n .nl) .nl))))) (.n .nl)))),
 (54, (.n (.s [0] (.t [0, 12] (.cd (.n .nl) .nl)) (.n (.n (.s [3] (.v [3] (.lp [0, 3, 4] (.s [0, 3, 4] (.t [0, 3, 4, 31] (.cd .nl .nl)) (.b (.t [0, 3, 4] .nl))))) (.n .nl))))))),
 (97, (.n (.q (.n (.cd (.n .nl) .nl)) (.n .nl)))),
 (13, (.n (.t [0, 4] (.s [4] (.n (.v [4] (.lp [0, 4, 12] (.n (.q (.cd .nl .nl) (.s [0, 4, 12] (.b (.n (.t [0, 4, 5, 6, 7, 12] (.s [0, 4, 5, 6, 12] (.n (.cd (.n .nl) .nl)) (.t [0, 4, 5, 6, 12] (.t [0, 4, 7, 12] (.n (.cd (.n .nl) .nl)))))))) .nl)))))) (.n .nl))))),
 (31, (.n (.s [0, 3] (.t [0, 3, 27] (.cd (.n .nl) .nl)) (.n (.s [5] (.t [0, 5, 34, 35] (.v [5] (.lp [0, 5, 34, 35] (.n (.q (.cd .nl .nl) (.s [0, 5, 34, 35] (.v [0, 5, 34, 35] (.n (.n (.v [0, 5, 34, 35] (.lp [0, 5, 6, 7, 34, 35, 40, 41, 42] (.n (.q (.cd .nl .nl) (.s [0, 5, 6, 7, 34, 35, 40, 41, 42] (.b (.n .nl)) .nl)))))))) .nl)))))) (.n .nl)))))),
 (53, (.n (.t [0, 3, 5, 6] (.s [0, 5] (.n (.b (.n (.cd (.n .nl) (.n (.cd (.n .nl) (.n (.cd (.n .nl) (.n (.cd (.s [] (.t [50] (.cd (.n .nl) .nl)) (.n .nl)) (.n (.cd (.n .nl) (.n (.cd (.n (.n .nl)) (.n (.cd (.n .nl) (.n (.cd (.t [] (.n .nl)) (.n (.cd (.n .nl) (.n (.cd (.n .nl) .nl)))))))))))))))))))))) (.n .nl))))),
 (33, (.n (.n .nl))),
 (51, (.n (.n .nl))),
 (30, (.n (.n (.n (.s [3, 4] (.n (.cd .nl .nl)) (.n .nl)))))),
 (15, (.n (.s [0, 4] (.n (.b (.n (.cd (.t [2, 7] (.t [7] (.n .nl))) (.n (.cd (.n .nl) (.n (.cd (.n .nl) .nl)))))))) (.s [0, 4] (.t [0, 4, 8] (.n (.cd (.n .nl) .nl))) (.s [] (.n (.t [9, 55] (.cd (.n .nl) .nl))) (.n .nl)))))),
 (6, (.n (.n (.s [4] (.t [4, 27] (.cd (.n .nl) .nl)) (.n (.s [5] (.n (.v [5] (.lp [5, 28, 29, 30] (.n (.q (.cd .nl .nl) (.s [5, 28, 29, 30] (.v [5, 28, 29, 30] (.n (.n (.q (.n (.cd .nl .nl)) (.t [5, 9, 10, 28, 29, 30] (.q (.n (.cd (.n .nl) .nl)) .nl)))))) .nl)))))) (.t [5, 11, 12] (.s [5, 11] (.n (.cd (.n .nl) .nl)) (.n (.n (.s [13] (.n (.v [13] (.lp [11, 13, 14, 58, 59, 60] (.n (.q (.cd .nl .nl) (.s [11, 13, 14, 58, 59, 60] (.b (.n .nl)) .nl)))))) (.n .nl)))))))))))),
 (4, (.n (.q (.n (.cd (.n .nl) .nl)) (.q (.n (.cd (.n .nl) .nl)) (.n (.n (.s [0, 3, 4, 5] (.n (.v [0, 3, 4, 5] (.lp [0, 3, 4, 5, 6] (.q (.n (.cd .nl .nl)) (.s [0, 3, 4, 5, 6] (.b (.n (.s [0, 3, 4, 5, 6] (.n (.cd .nl .nl)) (.t [0, 3, 4, 5, 6] .nl)))) .nl))))) (.t [0, 4, 5, 7, 8] (.n .nl))))))))),
 (128, (.n (.n .nl))),
 (0, .nl)]
noncomputable def an (g:Nat):An:=Fu anL g
theorem aro:uK P an:=aoO (by kernel_rfl)
noncomputable abbrev cK:CF:=CK P (pF P) ext aw an
noncomputable def Ou (J : JT)(G : GT)(cf : CF)(a0 : AV)(H : Hp) : R :=
 J 1 (fun j0 =>
 J 2 (fun j1 =>
 B1 (dV a0 (.int .i64 1)) fun v2 =>
 G v2 false (fun k3 =>
 k3 a0 H) (fun v4 h5 =>
 G v2 false (fun k6 =>
 B1 (iy v4 (.int .i64 16777216)) fun v7 =>
 k6 v7 h5) (fun v8 h9 =>
 B1 (pk v2 (.bool true) v8) fun v10 =>
 j1 a0 v10 h9) h5) H) (fun fK eV fX =>
 CD eV (
 some (.tuple [.aC, (.int .i64 1)], fX)) (
 j0 fK fX))) (fun eH fU =>
 BN (xm fU) fun i16 eE =>
 B1 (fl [(.int .i64 0), .iF, (.bool false), (.int .i64 0), .ae] [(0, 1, eH), (1, 1, (.map i16))]) fun QX =>
 BN (bx 106 (.agg QX) eE) fun i19 dX =>
 some (.tuple [(.ptr i19 0), (.int .i64 0)], dX))
theorem aa1 {a0:AV}{H:Hp}{r:AV × Hp}(h:Ou JN GO cK a0 H=some r):cK (.func (.func 24) [] []) [a0] H=some r:=aE (first:=[]) (cap:=[]) (No (by kernel_rfl) h)
noncomputable def Yf (J : JT)(G : GT)(cf : CF)(a0 : AV)(H : Hp) : R :=
 B1 (yG a0 (.str [])) fun v0 =>
 G v0 true (fun k1 =>
 k1 a0 H) (fun v2 h3 =>
 G v0 true (fun k4 =>
 B1 (lens v2) fun v5 =>
 k4 v5 h3) (fun v6 h7 =>
 G v0 true (fun k8 =>
 B1 (sL v6 (.int .i64 16)) fun v9 =>
 k8 v9 h7) (fun v10 iv =>
 B1 (pk v0 v10 (.bool false)) fun v12 =>
 G v12 true (fun vf =>
 vf a0 iv) (fun du fU =>
 G v12 true (fun yd =>
 B2 (cf (.func (.func 60) [] []) [du, (.str [97, 98, 99, 100, 101, 102, 103, 104, 105, 106, 107, 108, 109, 110, 111, 112, 113, 114, 115, 116, 117, 118, 119, 120, 121, 122, 48, 49, 50, 51, 52, 53, 54, 55, 56, 57, 45])] fU) fun dc fv =>
 yd dc fv) (fun eu dX =>
 G v12 true (fun ym =>
 B1 (seq eu (.str [])) fun v22 =>
 ym v22 dX) (fun v23 fR =>
 B1 (pk v12 v23 (.bool false)) fun v25 =>
 some (v25, fR)) dX) fU) iv) h7) h3) H
theorem ac4 {a0:AV}{H:Hp}{r:AV × Hp}(h:Yf JN GO cK a0 H=some r):cK (.func (.func 181) [] []) [a0] H=some r:=aE (first:=[]) (cap:=[]) (No (by kernel_rfl) h)
noncomputable def WZ (J : JT)(G : GT)(cf : CF)(a0 a1 : AV)(H : Hp) : R :=
 J 3 (fun j0 =>
 B1 (ag a0) fun v1 =>
 B1 (fa 1 v1) fun v2 =>
 B1 (ld v2 H) fun v3 =>
 B1 (mU .str .aC false v3 a1 H) fun v4 =>
 j0 a0 a1 v4 H) (fun x5 x6 x7 h8 =>
 J 1 (fun j9 =>
 J 3 (fun qn =>
 B1 (ag x5) fun v11 =>
 B1 (fa 2 v11) fun v12 =>
 B1 (ld v12 h8) fun cY =>
 qn x6 x7 cY h8) (fun eH df dt eE =>
 CD dt (
 some (.tuple [.aC, (.int .i64 11)], eE)) (
 B2 (cf (.func (.func 181) [] []) [eH] eE) fun dw dK =>
 B1 (ie .not dw) fun v20 =>
 CD v20 (
 some (.tuple [.aC, (.int .i64 1)], dK)) (
 B1 (po .eql (pe df .aC dK)) fun v21 =>
 CD v21 (
 some (.tuple [.aC, (.int .i64 4)], dK)) (
 j9 df dK))))) (fun cF eZ =>
 some (.tuple [cF, (.int .i64 0)], eZ)))
theorem apA {a0 a1:AV}{H:Hp}{r:AV × Hp}(h:WZ JN GO cK a0 a1 H=some r):cK (.func (.func 121) [] []) [a0,a1] H=some r:=aE (first:=[]) (cap:=[]) (No (by kernel_rfl) h)
noncomputable def K6 (J : JT)(G : GT)(cf : CF)(a0 : AV)(H : Hp) : R :=
 J 1 (fun j0 =>
 J 2 (fun j1 =>
 B1 (ag a0) fun v2 =>
 B1 (fa 3 v2) fun v3 =>
 B1 (ld v3 H) fun v4 =>
 B1 (cN v4 (.int .i64 0)) fun v5 =>
 j1 a0 v5 H) (fun x6 x7 h8 =>
 CD x7 (
 some ((.bool true), h8)) (
 j0 x6 h8))) (fun x9 cG =>
 J 1 (fun mJ =>
 B1 (ag x9) fun v12 =>
 B1 (fa 3 v12) fun cY =>
 B1 (ld cY cG) fun du =>
 B1 (jI du (.int .i64 1)) fun da =>
 B1 (ag x9) fun dD =>
 B1 (fa 3 dD) fun dc =>
 B1 (st 1 dc da cG) fun fv =>
 mJ x9 fv) (fun fF dX =>
 J 1 (fun DF =>
 J 2 (fun Cm =>
 B1 (ag fF) fun v23 =>
 B1 (fa 3 v23) fun v24 =>
 B1 (ld v24 dX) fun v25 =>
 B1 (iy v25 (.int .i64 0)) fun v26 =>
 Cm fF v26 dX) (fun di dv jK =>
 CD dv (
 some ((.bool true), jK)) (
 DF di jK))) (fun dy fy =>
 J 0 (fun wg =>
 B1 (ag dy) fun v33 =>
 B1 (fa 4 v33) fun fI =>
 B1 (ld fI fy) fun v35 =>
 B2 (cf (.func (.func 91) [] []) [dy, v35] fy) fun v36 kg =>
 wg  kg) (fun  wZ =>
 some ((.bool false), wZ)))))
theorem Tp {a0:AV}{H:Hp}{r:AV × Hp}(h:K6 JN GO cK a0 H=some r):cK (.func (.func 122) [] []) [a0] H=some r:=aE (first:=[]) (cap:=[]) (No (by kernel_rfl) h)
noncomputable def xX (J : JT)(G : GT)(cf : CF)(a0 a1 a2 : AV)(H : Hp) : R :=
 J 5 (fun j0 =>
 B2 (cf (.func (.func 121) [] []) [a0, a1] H) fun v1 h2 =>
 B1 (ex 0 v1) fun v3 =>
 B1 (ex 1 v1) fun v4 =>
 j0 a0 a1 a2 v3 v4 h2) (fun x5 x6 x7 x8 x9 cG =>
 J 4 (fun mJ =>
 J 6 (fun fw =>
 B1 (eX x9 (.int .i64 0)) fun cY =>
 G cY true (fun Ce =>
 Ce x9 cG) (fun da gJ =>
 G cY true (fun HY =>
 B1 (eX da (.int .i64 4)) fun dw =>
 HY dw gJ) (fun eu dX =>
 B1 (pk cY eu (.bool false)) fun v21 =>
 fw x5 x6 x7 x8 x9 v21 dX) gJ) cG) (fun cF cD cS gw eO di jd =>
 CD di (
 some (eO, jd)) (
 J 5 (fun ye =>
 B1 (cJ cS) fun v30 =>
 B2 (cf (.func (.func 260) [] []) [cF] jd) fun v31 ma =>
 B1 (iy v30 v31) fun v33 =>
 G v33 false (fun E1 =>
 E1 gw ma) (fun v35 hU =>
 G v33 false (fun xQ =>
 B1 (po .eql (pe v35 .aC hU)) fun hY =>
 xQ hY hU) (fun fS jv =>
 G v33 false (fun SD =>
 SD fS jv) (fun ig mV =>
 G ig true (fun Px =>
 Px cF mV) (fun kD qR =>
 G ig true (fun k47 =>
 B1 (ag kD) fun iz =>
 k47 iz qR) (fun v49 nw =>
 G ig true (fun S6 =>
 B1 (fa 1 v49) fun jg =>
 S6 jg nw) (fun v53 kB =>
 G ig true (fun RV =>
 B1 (ld v53 kB) fun iZ =>
 RV iZ kB) (fun v57 uL =>
 G ig true (fun k59 =>
 B1 (Gt v57 uL) fun ku =>
 k59 ku uL) (fun ll yR =>
 G ig true (fun Pw =>
 B1 (qi ll (.int .i64 64)) fun v64 =>
 Pw v64 yR) (fun nU kH =>
 G v33 false (fun FX =>
 B1 (pk ig nU (.bool false)) fun qo =>
 FX qo kH) (fun pG gR =>
 B1 (pk v33 (.bool true) pG) fun ml =>
 ye cF cD cS gw ml gR) kH) yR) uL) kB) nw) qR) mV) jv) hU) ma) (fun mq jO pY mi lR wE =>
 CD lR (
 some ((.int .i64 6), wE)) (
 B2 (cf (.func (.func 122) [] []) [mq] wE) fun oQ kY =>
 B1 (ie .not oQ) fun v80 =>
 CD v80 (
 some ((.int .i64 11), kY)) (
 mJ mq jO pY mi kY)))))) (fun sB oZ nQ gU BV =>
 J 2 (fun Vj =>
 B1 (po .eql (pe gU .aC BV)) fun v87 =>
 CD v87 (
 B1 (fl [.ae, (.int .i64 0)] []) fun l88 =>
 BN (bx 199 (.agg l88) BV) fun i89 uG =>
 B1 (ag sB) fun v91 =>
 B1 (fa 1 v91) fun vD =>
 B1 (ld vD uG) fun v93 =>
 B1 (kb .str v93 oZ (.ptr i89 0) uG) fun tS =>
 Vj nQ (.ptr i89 0) tS) (
 Vj nQ gU BV)) (fun xw zx oB =>
 J 0 (fun j98 =>
 B1 (ag zx) fun yy =>
 B1 (fa 0 yy) fun lX =>
 B1 (ld lX oB) fun nG =>
 B2 (fZ 5 1 [(.int .u8 0)] false nG xw oB) fun uy xg =>
 B1 (ag zx) fun ug =>
 B1 (fa 0 ug) fun v105 =>
 B1 (st 1 v105 uy xg) fun Oh =>
 j98  Oh) (fun  Dm =>
 some ((.int .i64 0), Dm)))))
theorem ahe (J:JT)(G:GT)(cf:CF)(a0 a1 a2:AV)(H:Hp):gD P J G aw an cf 203 [a0,a1,a2] H=xX J G cf a0 a1 a2 H:=by kernel_rfl
theorem BL {a0 a1 a2:AV}{H:Hp}{r:AV × Hp}(h:xX JN GO cK a0 a1 a2 H=some r):cK (.func (.func 203) [] []) [a0,a1,a2] H=some r:=aE (first:=[]) (cap:=[]) ((ahe JN GO _ a0 a1 a2 H).trans h)
noncomputable def LV (J : JT)(G : GT)(cf : CF)(a0 a1 : AV)(H : Hp) : R :=
 J 3 (fun j0 =>
 B2 (cf (.func (.func 121) [] []) [a0, a1] H) fun v1 h2 =>
 B1 (ex 0 v1) fun v3 =>
 B1 (ex 1 v1) fun v4 =>
 j0 a0 v3 v4 h2) (fun x5 x6 x7 h8 =>
 J 1 (fun j9 =>
 B1 (eX x7 (.int .i64 0)) fun v10 =>
 CD v10 (
 some (x7, h8)) (
 B2 (cf (.func (.func 122) [] []) [x5] h8) fun v11 eG =>
 B1 (ie .not v11) fun cY =>
 CD cY (
 some ((.int .i64 11), eG)) (
 j9 x6 eG))) (fun eH fU =>
 J 0 (fun vk =>
 B1 (ag eH) fun dc =>
 B1 (fa 0 dc) fun dw =>
 B1 (ld dw fU) fun eu =>
 B1 (cJ eu) fun v20 =>
 B1 (ag eH) fun v21 =>
 B1 (fa 1 v21) fun v22 =>
 B1 (st 1 v22 v20 fU) fun eZ =>
 vk  eZ) (fun  fR =>
 some ((.int .i64 0), fR))))
theorem R5 {a0 a1:AV}{H:Hp}{r:AV × Hp}(h:LV JN GO cK a0 a1 H=some r):cK (.func (.func 67) [] []) [a0,a1] H=some r:=aE (first:=[]) (cap:=[]) (No (by kernel_rfl) h)
noncomputable def Kg (J : JT)(G : GT)(cf : CF)(a0 a1 : AV)(H : Hp) : R :=
 J 3 (fun j0 =>
 B2 (cf (.func (.func 121) [] []) [a0, a1] H) fun v1 h2 =>
 B1 (ex 0 v1) fun v3 =>
 B1 (ex 1 v1) fun v4 =>
 j0 a0 a1 v4 h2) (fun x5 x6 x7 h8 =>
 J 2 (fun j9 =>
 B1 (eX x7 (.int .i64 0)) fun v10 =>
 CD v10 (
 some (x7, h8)) (
 B2 (cf (.func (.func 122) [] []) [x5] h8) fun v11 eG =>
 B1 (ie .not v11) fun cY =>
 CD cY (
 some ((.int .i64 11), eG)) (
 j9 x5 x6 eG))) (fun eH df gJ =>
 J 0 (fun vc =>
 B1 (ag eH) fun dw =>
 B1 (fa 1 dw) fun eu =>
 B1 (ld eu gJ) fun v20 =>
 B1 (Aq .str v20 df gJ) fun og =>
 vc  og) (fun  gM =>
 some ((.int .i64 0), gM))))
theorem RA {a0 a1:AV}{H:Hp}{r:AV × Hp}(h:Kg JN GO cK a0 a1 H=some r):cK (.func (.func 171) [] []) [a0,a1] H=some r:=aE (first:=[]) (cap:=[]) (No (by kernel_rfl) h)
noncomputable def MV (J : JT)(G : GT)(cf : CF)(a0 a1 : AV)(H : Hp) : R :=
 J 2 (fun j0 =>
 B2 (cf (.func (.func 121) [] []) [a0, a1] H) fun v1 h2 =>
 B1 (ex 0 v1) fun v3 =>
 B1 (ex 1 v1) fun v4 =>
 j0 v3 v4 h2) (fun x5 x6 h7 =>
 J 1 (fun j8 =>
 B1 (eX x6 (.int .i64 0)) fun v9 =>
 CD v9 (
 some (.tuple [.ae, x6], h7)) (
 j8 x5 h7)) (fun eI iv =>
 B1 (ag eI) fun v12 =>
 B1 (fa 0 v12) fun cY =>
 B1 (ld cY iv) fun du =>
 B2 (cf (.func (.func 78) [] []) [du] iv) fun da gJ =>
 some (.tuple [da, (.int .i64 0)], gJ)))
theorem WS {a0 a1:AV}{H:Hp}{r:AV × Hp}(h:MV JN GO cK a0 a1 H=some r):cK (.func (.func 71) [] []) [a0,a1] H=some r:=aE (first:=[]) (cap:=[]) (No (by kernel_rfl) h)
noncomputable def XV (J : JT)(G : GT)(cf : CF)(a0 a1 : AV)(H : Hp) : R :=
 J 0 (fun j0 =>
 J 1 (fun j1 =>
 B1 (ag a0) fun v2 =>
 B1 (fa 1 v2) fun v3 =>
 B1 (ld v3 H) fun v4 =>
 B1 (mU .str .aC false v4 a1 H) fun v5 =>
 j1 v5 H) (fun x6 h7 =>
 B1 (po .neq (pe x6 .aC h7)) fun v8 =>
 CD v8 (
 B1 (ag x6) fun v9 =>
 B1 (fa 1 v9) fun v10 =>
 B1 (ld v10 h7) fun v11 =>
 some (v11, h7)) (
 j0  h7))) (fun  eG =>
 some ((.int .i64 0), eG))
theorem amy {a0 a1:AV}{H:Hp}{r:AV × Hp}(h:XV JN GO cK a0 a1 H=some r):cK (.func (.func 264) [] []) [a0,a1] H=some r:=aE (first:=[]) (cap:=[]) (No (by kernel_rfl) h)
noncomputable def DH (J : JT)(G : GT)(cf : CF)(j7 : K.Fn 1)(j8 : K.Fn 5)(x9 eI fK eV iu : AV)(eK : Hp) : R :=
 B1 (dV iu eV) fun da =>
 CD da (
 J 5 (fun vk =>
 J 5 (fun vc =>
 B1 (ia 1 fK iu) fun dw =>
 B1 (ld dw eK) fun eu =>
 J 6 (fun iC =>
 B1 (ag x9) fun v21 =>
 B1 (fa 1 v21) fun v22 =>
 B1 (ld v22 eK) fun v23 =>
 B1 (mU .str .aC false v23 eu eK) fun v24 =>
 iC x9 eI v24 fK eV iu eK) (fun gw eO di dv dm dy fy =>
 J 7 (fun wg =>
 B1 (ag di) fun v33 =>
 B1 (fa 0 v33) fun fI =>
 B1 (ld fI fy) fun v35 =>
 B1 (cJ v35) fun v36 =>
 B1 (ag di) fun v37 =>
 B1 (fa 1 v37) fun hY =>
 B1 (ld hY fy) fun fS =>
 B1 (jI v36 fS) fun v40 =>
 wg gw eO di v40 dv dm dy fy) (fun fj fO gh gF fY fV jZ pj =>
 B1 (cN gF (.int .i64 0)) fun v49 =>
 CD v49 (
 vc fj fO fY fV jZ pj) (
 J 7 (fun KG =>
 B1 (cJ fO) fun v51 =>
 B1 (iy v51 (.int .i64 0)) fun jg =>
 CD jg (
 J 7 (fun GK =>
 B1 (ia 1 fO (.int .i64 0)) fun jV =>
 B1 (ld jV pj) fun iY =>
 B2 (eP P .max #[3, 3] [iY, (.int .i64 0)] pj) fun iZ kP =>
 B2 (eP P .min #[3, 3] [iZ, gF] kP) fun hJ tI =>
 GK fj fO gh hJ fY fV jZ tI) (fun qS mQ mj lH lI gf gq yK =>
 B1 (fT 1 mQ (some (.int .i64 1)) none none) fun qo =>
 KG qS qo mj lH lI gf gq yK)) (
 KG fj fO gh (.int .i64 0) fY fV jZ pj)) (fun ew iM gY mq jO pY mi nt =>
 J 6 (fun Ry =>
 B1 (ag gY) fun oQ =>
 B1 (fa 0 oQ) fun oY =>
 B1 (ld oY nt) fun v80 =>
 B1 (ag gY) fun pf =>
 B1 (fa 1 pf) fun xY =>
 B1 (ld xY nt) fun jF =>
 B1 (dj jF mq) fun uV =>
 B1 (fT 1 v80 none (some uV) none) fun v85 =>
 B1 (ag gY) fun uS =>
 B1 (fa 0 uS) fun v87 =>
 B1 (st 1 v87 v85 nt) fun qP =>
 Ry ew iM gY jO pY mi qP) (fun jA jj sK nX rS CJ q9 =>
 B1 (ag sK) fun uN =>
 B1 (fa 0 uN) fun AN =>
 B1 (ld AN q9) fun qH =>
 B1 (cJ qH) fun yy =>
 B1 (ag sK) fun lX =>
 B1 (fa 1 lX) fun nG =>
 B1 (st 1 nG yy q9) fun tL =>
 vc jA jj nX rS CJ tL)))))) (fun um uo ng kL lT yV =>
 vk um uo ng kL lT yV)) (fun qh BJ zZ DD AM alJ =>
 B1 (dj AM (.int .i64 1)) fun yY =>
 j8 qh BJ zZ DD yY alJ)) (
 j7 x9 eK)
noncomputable def EO (J:JT)(G:GT)(cf:CF)(j7:K.Fn 1):K.Fn 5:=gI P an J G cf 91 [1,0,1,0,0] [0,1,14,15,16] (fun q t H=>match Nat.beq q 0 with | true=>app 1 j7 (ai [0] t) H | false=>(fun _ _ _=>none) q t H)
theorem ajh (J:JT)(G:GT)(cf:CF)(j7:K.Fn 1)(j8:K.Fn 5)(x9 eI fK eV iu:AV)(eK:Hp):nI P an J G cf 91 [1,0,1,0,0] [0,1,14,15,16] (fun q t H=>match Nat.beq q 0 with | true=>app 1 j7 (ai [0] t) H | false=>(fun _ _ _=>none) q t H) j8 [x9,eI,fK,eV,iu] eK=DH J G cf j7 j8 x9 eI fK eV iu eK:=by kernel_rfl
theorem aaq (cf:CF)(j7:K.Fn 1)(x9 eI fK eV iu:AV)(eK:Hp):EO JN GO cf j7 x9 eI fK eV iu eK=DH JN GO cf j7 (EO JN GO cf j7) x9 eI fK eV iu eK:=No (b:=app 5 (EO JN GO cf j7) [x9,eI,fK,eV,iu] eK) (by kernel_rfl) ((ik cf _ _ _ _ [x9,eI,fK,eV,iu] rfl eK).trans (ajh JN GO cf j7 _ x9 eI fK eV iu eK))
noncomputable def IX (J : JT)(G : GT)(cf : CF)(a0 a1 : AV)(H : Hp) : R :=
 B1 (ag a0) fun v0 =>
 B1 (fa 2 v0) fun v1 =>
 B1 (ld v1 H) fun v2 =>
 CD v2 (
 some (.tuple [], H)) (
 J 1 (fun j3 =>
 B2 (cf (.func (.func 66) [] []) [a0] H) fun v4 h5 =>
 B1 (cJ v4) fun v6 =>
 J 1 (fun j7 =>
 EO J G cf j7 a0 a1 v4 v6 (.int .i64 0) h5) (fun FU amp =>
 j3 FU amp)) (fun qB BB =>
 B1 (ag qB) fun vM =>
 B1 (fa 2 vM) fun wu =>
 B1 (st 1 wu (.bool true) BB) fun qM =>
 B1 (ag qB) fun rU =>
 B1 (fa 3 rU) fun v124 =>
 B1 (st 1 v124 (.int .i64 0) qM) fun Hi =>
 some (.tuple [], Hi)))
theorem aqb (J:JT)(G:GT)(cf:CF)(a0 a1:AV)(H:Hp):gD P J G aw an cf 91 [a0,a1] H=IX J G cf a0 a1 H:=by kernel_rfl
theorem Ww {a0 a1:AV}{H:Hp}{r:AV × Hp}(h:IX JN GO cK a0 a1 H=some r):cK (.func (.func 91) [] []) [a0,a1] H=some r:=aE (first:=[]) (cap:=[]) ((aqb JN GO _ a0 a1 H).trans h)
noncomputable def acj (J : JT)(G : GT)(cf : CF)(a0 : AV)(H : Hp) : R :=
 B1 (ag a0) fun v0 =>
 B1 (fa 2 v0) fun v1 =>
 B1 (st 1 v1 (.bool false) H) fun h2 =>
 some (.tuple [], h2)
theorem aoX {a0:AV}{H:Hp}{r:AV × Hp}(h:acj JN GO cK a0 H=some r):cK (.func (.func 130) [] []) [a0] H=some r:=aE (first:=[]) (cap:=[]) (No (by kernel_rfl) h)
noncomputable def VI (J : JT)(G : GT)(cf : CF)(a0 : AV)(H : Hp) : R :=
 B1 (ag a0) fun v0 =>
 B1 (fa 2 v0) fun v1 =>
 B1 (ld v1 H) fun v2 =>
 some (v2, H)
theorem ae8 {a0:AV}{H:Hp}{r:AV × Hp}(h:VI JN GO cK a0 H=some r):cK (.func (.func 63) [] []) [a0] H=some r:=aE (first:=[]) (cap:=[]) (No (by kernel_rfl) h)
noncomputable def zI (J : JT)(G : GT)(cf : CF)(a0 a1 a2 : AV)(H : Hp) : R :=
 J 5 (fun j0 =>
 B2 (cf (.func (.func 121) [] []) [a0, a1] H) fun v1 h2 =>
 B1 (ex 0 v1) fun v3 =>
 B1 (ex 1 v1) fun v4 =>
 j0 a0 a1 a2 v3 v4 h2) (fun x5 x6 x7 x8 x9 cG =>
 J 4 (fun mJ =>
 B1 (cN x9 (.int .i64 11)) fun v12 =>
 CD v12 (
 some (x9, cG)) (
 B2 (cf (.func (.func 181) [] []) [x7] cG) fun cY eK =>
 B1 (ie .not cY) fun da =>
 CD da (
 some ((.int .i64 1), eK)) (
 B1 (eX x9 (.int .i64 0)) fun dD =>
 CD dD (
 some (x9, eK)) (
 B2 (cf (.func (.func 122) [] []) [x5] eK) fun dc fv =>
 B1 (ie .not dc) fun eu =>
 CD eu (
 some ((.int .i64 11), fv)) (
 mJ x5 x6 x7 x8 fv))))) (fun eM dk cF cD fR =>
 J 4 (fun mw =>
 B1 (ag cD) fun v26 =>
 B1 (fa 0 v26) fun v27 =>
 B1 (ld v27 fR) fun v28 =>
 B1 (cJ v28) fun v29 =>
 B1 (ag cD) fun v30 =>
 B1 (fa 1 v30) fun v31 =>
 B1 (st 1 v31 v29 fR) fun ma =>
 mw eM dk cF cD ma) (fun gj kU rn jB kg =>
 J 3 (fun vW =>
 B1 (ag gj) fun fS =>
 B1 (fa 1 fS) fun v40 =>
 B1 (ld v40 kg) fun v41 =>
 B1 (Aq .str v41 kU kg) fun js =>
 vW gj rn jB js) (fun gh gF fY qR =>
 J 0 (fun NO =>
 B1 (ag gh) fun iz =>
 B1 (fa 1 iz) fun v49 =>
 B1 (ld v49 qR) fun lU =>
 B1 (kb .str lU gF fY qR) fun mh =>
 NO  mh) (fun  mg =>
 some ((.int .i64 0), mg))))))
theorem afh (J:JT)(G:GT)(cf:CF)(a0 a1 a2:AV)(H:Hp):gD P J G aw an cf 204 [a0,a1,a2] H=zI J G cf a0 a1 a2 H:=by kernel_rfl
theorem EW {a0 a1 a2:AV}{H:Hp}{r:AV × Hp}(h:zI JN GO cK a0 a1 a2 H=some r):cK (.func (.func 204) [] []) [a0,a1,a2] H=some r:=aE (first:=[]) (cap:=[]) ((afh JN GO _ a0 a1 a2 H).trans h)
noncomputable def WM (J : JT)(G : GT)(cf : CF)(a0 : AV)(H : Hp) : R :=
 B1 (tR a0 (.int .u32 65535)) fun v0 =>
 B1 (cv .i64 v0) fun v1 =>
 B1 (ue a0 (.int .u64 16)) fun v2 =>
 B1 (cv .i64 v2) fun v3 =>
 some (.tuple [v1, v3], H)
theorem ae5 {a0:AV}{H:Hp}{r:AV × Hp}(h:WM JN GO cK a0 H=some r):cK (.func (.func 270) [] []) [a0] H=some r:=aE (first:=[]) (cap:=[]) (No (by kernel_rfl) h)
noncomputable def YU (J : JT)(G : GT)(cf : CF)(a0 a1 : AV)(H : Hp) : R :=
 B1 (rE a1 (.int .i64 65521)) fun v0 =>
 B1 (dj v0 (.int .i64 65521)) fun v1 =>
 B1 (rE v1 (.int .i64 65521)) fun v2 =>
 B1 (cv .u32 v2) fun v3 =>
 B1 (sN v3 (.int .u64 16)) fun v4 =>
 B1 (rE a0 (.int .i64 65521)) fun v5 =>
 B1 (dj v5 (.int .i64 65521)) fun v6 =>
 B1 (rE v6 (.int .i64 65521)) fun v7 =>
 B1 (cv .u32 v7) fun v8 =>
 B1 (qF v4 v8) fun v9 =>
 some (v9, H)
theorem agl {a0 a1:AV}{H:Hp}{r:AV × Hp}(h:YU JN GO cK a0 a1 H=some r):cK (.func (.func 271) [] []) [a0,a1] H=some r:=aE (first:=[]) (cap:=[]) (No (by kernel_rfl) h)
noncomputable def T8 (J : JT)(G : GT)(cf : CF)(a0 : AV)(H : Hp) : R :=
 J 2 (fun j0 =>
 B2 (cf (.func (.func 270) [] []) [a0] H) fun v1 h2 =>
 B1 (ex 0 v1) fun v3 =>
 B1 (ex 1 v1) fun v4 =>
 j0 v3 v4 h2) (fun x5 x6 h7 =>
 B1 (dV x5 (.int .i64 65521)) fun v8 =>
 G v8 true (fun k9 =>
 k9 x6 h7) (fun v10 iv =>
 G v8 true (fun k12 =>
 B1 (dV v10 (.int .i64 65521)) fun cY =>
 k12 cY iv) (fun du fU =>
 B1 (pk v8 du (.bool false)) fun dD =>
 some (dD, fU)) iv) h7)
theorem adD {a0:AV}{H:Hp}{r:AV × Hp}(h:T8 JN GO cK a0 H=some r):cK (.func (.func 269) [] []) [a0] H=some r:=aE (first:=[]) (cap:=[]) (No (by kernel_rfl) h)
noncomputable def OY (J : JT)(G : GT)(cf : CF)(hO : K.Fn 2)(iS : K.Fn 5)(eM dk cF cD cS : AV)(dG : Hp) : R :=
 B1 (dV cS cD) fun v26 =>
 CD v26 (
 J 5 (fun oz =>
 B1 (ia 1 cF cS) fun v28 =>
 B1 (ld v28 dG) fun v29 =>
 J 5 (fun TQ =>
 B1 (cv .i64 v29) fun v31 =>
 B1 (dj eM v31) fun v32 =>
 B1 (rE v32 (.int .i64 65521)) fun v33 =>
 TQ v33 dk cF cD cS dG) (fun kU rn jB kj jH mo =>
 B1 (dj rn kU) fun v40 =>
 B1 (rE v40 (.int .i64 65521)) fun v41 =>
 oz kU v41 jB kj jH mo)) (fun fO gh gF fY fV jk =>
 B1 (dj fV (.int .i64 1)) fun iz =>
 iS fO gh gF fY iz jk)) (
 hO eM dk dG)
noncomputable def Gp (J:JT)(G:GT)(cf:CF)(hO:K.Fn 2):K.Fn 5:=gI P an J G cf 218 [1,1,1,0,1,0,0] [6,7,18,19,20] (fun q t H=>match Nat.beq q 0 with | true=>app 2 hO (ai [6,7] t) H | false=>(fun _ _ _=>none) q t H)
theorem U3 (cf:CF)(hO:K.Fn 2)(eM dk cF cD cS:AV)(dG:Hp):Gp JN GO cf hO eM dk cF cD cS dG=OY JN GO cf hO (Gp JN GO cf hO) eM dk cF cD cS dG:=No (b:=app 5 (Gp JN GO cf hO) [eM,dk,cF,cD,cS] dG) (by kernel_rfl) ((ik cf 218 [1,1,1,0,1,0,0] [6,7,18,19,20] _ [eM,dk,cF,cD,cS] rfl dG).trans (by kernel_rfl))
noncomputable def UY (J : JT)(G : GT)(cf : CF)(a0 a1 : AV)(H : Hp) : R :=
 J 2 (fun j0 =>
 B2 (cf (.func (.func 269) [] []) [a0] H) fun v1 h2 =>
 B1 (ie .not v1) fun v3 =>
 CD v3 (
 some (.tuple [(.int .u32 0), (.bool false)], h2)) (
 j0 a0 a1 h2)) (fun x4 x5 h6 =>
 J 3 (fun j7 =>
 B2 (cf (.func (.func 270) [] []) [x4] h6) fun v8 h9 =>
 B1 (ex 0 v8) fun v10 =>
 B1 (ex 1 v8) fun v11 =>
 j7 x5 v10 v11 h9) (fun eV iu eH fU =>
 J 2 (fun vk =>
 B1 (cJ eV) fun dc =>
 J 2 (fun hO =>
 Gp J G cf hO iu eH eV dc (.int .i64 0) fU) (fun jS jb mh =>
 vk jS jb mh)) (fun mu lz kB =>
 B2 (cf (.func (.func 271) [] []) [mu, lz] kB) fun iY kC =>
 some (.tuple [iY, (.bool true)], kC))))
theorem aru {a0 a1:AV}{H:Hp}{r:AV × Hp}(h:UY JN GO cK a0 a1 H=some r):cK (.func (.func 218) [] []) [a0,a1] H=some r:=aE (first:=[]) (cap:=[]) (No (by kernel_rfl) h)
noncomputable def Zn (J : JT)(G : GT)(cf : CF)(a0 : AV)(H : Hp) : R :=
 J 1 (fun j0 =>
 B2 (cf (.func (.func 218) [] []) [(.int .u32 1), a0] H) fun v1 h2 =>
 B1 (ex 0 v1) fun v3 =>
 B1 (ex 1 v1) fun v4 =>
 j0 v3 h2) (fun x5 h6 =>
 some (x5, h6))
theorem amd {a0:AV}{H:Hp}{r:AV × Hp}(h:Zn JN GO cK a0 H=some r):cK (.func (.func 219) [] []) [a0] H=some r:=aE (first:=[]) (cap:=[]) (No (by kernel_rfl) h)
noncomputable def Uk (J : JT)(G : GT)(cf : CF)(a0 a1 : AV)(H : Hp) : R :=
 J 2 (fun j0 =>
 J 3 (fun j1 =>
 B1 (dV a0 (.int .i64 0)) fun v2 =>
 G v2 false (fun k3 =>
 k3 a0 H) (fun v4 h5 =>
 G v2 false (fun k6 =>
 B1 (iy v4 (.int .i64 1048575)) fun v7 =>
 k6 v7 h5) (fun v8 h9 =>
 B1 (pk v2 (.bool true) v8) fun v10 =>
 G v10 false (fun vp =>
 vp a1 h9) (fun v12 fX =>
 G v10 false (fun Ce =>
 B1 (dV v12 (.int .i64 0)) fun da =>
 Ce da fX) (fun dD eE =>
 B1 (pk v10 (.bool true) dD) fun dw =>
 G dw false (fun CC =>
 CC a1 eE) (fun v20 og =>
 G dw false (fun QJ =>
 B1 (iy v20 (.int .i64 17592186044415)) fun v23 =>
 QJ v23 og) (fun v24 dG =>
 B1 (pk dw (.bool true) v24) fun v26 =>
 j1 a0 a1 v26 dG) og) eE) fX) h9) h5) H) (fun di dv dm jG =>
 CD dm (
 some (.tuple [(.int .u64 0), (.bool false)], jG)) (
 j0 di dv jG))) (fun eY eD fD =>
 B1 (sN eY (.int .u64 44)) fun fI =>
 B1 (qF fI eD) fun v35 =>
 B1 (cv .u64 v35) fun v36 =>
 some (.tuple [v36, (.bool true)], fD))
theorem anc {a0 a1:AV}{H:Hp}{r:AV × Hp}(h:Uk JN GO cK a0 a1 H=some r):cK (.func (.func 262) [] []) [a0,a1] H=some r:=aE (first:=[]) (cap:=[]) (No (by kernel_rfl) h)
noncomputable def ZW (J : JT)(G : GT)(cf : CF)(a0 : AV)(H : Hp) : R :=
 B1 (tR a0 (.int .u64 17592186044415)) fun v0 =>
 B1 (cv .i64 v0) fun v1 =>
 some (v1, H)
theorem ak9 {a0:AV}{H:Hp}{r:AV × Hp}(h:ZW JN GO cK a0 H=some r):cK (.func (.func 173) [] []) [a0] H=some r:=aE (first:=[]) (cap:=[]) (No (by kernel_rfl) h)
noncomputable def UI (J : JT)(G : GT)(cf : CF)(a0 : AV)(H : Hp) : R :=
 B1 (ue a0 (.int .u64 44)) fun v0 =>
 B1 (cv .i64 v0) fun v1 =>
 some (v1, H)
theorem aqI {a0:AV}{H:Hp}{r:AV × Hp}(h:UI JN GO cK a0 H=some r):cK (.func (.func 70) [] []) [a0] H=some r:=aE (first:=[]) (cap:=[]) (No (by kernel_rfl) h)
noncomputable def TI (J : JT)(G : GT)(cf : CF)(j1 : K.Fn 1)(j2 : K.Fn 4)(x3 x4 x5 x6 : AV)(h7 : Hp) : R :=
 B1 (dV x6 x5) fun v8 =>
 CD v8 (
 J 4 (fun j9 =>
 B1 (qV (.int .i64 8) x6) fun v10 =>
 B1 (ue x4 v10) fun v11 =>
 B1 (cv .u8 v11) fun v12 =>
 B1 (fl [(.int .u8 0)] [(0, 1, v12)]) fun yz =>
 BN (cI h7 yz 5 0) fun i14 fU =>
 B2 (fZ 5 1 [(.int .u8 0)] false x3 (.slice i14 0 1 1 true 1) fU) fun dD eE =>
 j9 dD x4 x5 x6 eE) (fun fL fF eM dk gM =>
 B1 (dj dk (.int .i64 1)) fun v23 =>
 j2 fL fF eM v23 gM)) (
 j1 x3 h7)
noncomputable def F3 (J:JT)(G:GT)(cf:CF)(j1:K.Fn 1):K.Fn 4:=gI P an J G cf 313 [1,0,1,0,0] [0,1,8,9] (fun q t H=>match Nat.beq q 0 with | true=>app 1 j1 (ai [0] t) H | false=>(fun _ _ _=>none) q t H)
theorem U1 (cf:CF)(j1:K.Fn 1)(x3 x4 x5 x6:AV)(h7:Hp):F3 JN GO cf j1 x3 x4 x5 x6 h7=TI JN GO cf j1 (F3 JN GO cf j1) x3 x4 x5 x6 h7:=No (b:=app 4 (F3 JN GO cf j1) [x3,x4,x5,x6] h7) (by kernel_rfl) ((ik cf 313 [1,0,1,0,0] [0,1,8,9] _ [x3,x4,x5,x6] rfl h7).trans (by kernel_rfl))
noncomputable def Vh (J : JT)(G : GT)(cf : CF)(a0 a1 a2 : AV)(H : Hp) : R :=
 J 1 (fun j0 =>
 J 1 (fun j1 =>
 F3 J G cf j1 a0 a1 a2 (.int .i64 0) H) (fun cS dG =>
 j0 cS dG)) (fun eO dJ =>
 some (eO, dJ))
theorem ako {a0 a1 a2:AV}{H:Hp}{r:AV × Hp}(h:Vh JN GO cK a0 a1 a2 H=some r):cK (.func (.func 313) [] []) [a0,a1,a2] H=some r:=aE (first:=[]) (cap:=[]) (No (by kernel_rfl) h)
noncomputable def Tk (J : JT)(G : GT)(cf : CF)(j2 : K.Fn 1)(j3 : K.Fn 4)(x4 x5 x6 x7 : AV)(h8 : Hp) : R :=
 B1 (dV x7 x6) fun v9 =>
 CD v9 (
 J 4 (fun qn =>
 J 6 (fun mJ =>
 B1 (ia 1 x5 x7) fun v12 =>
 B1 (ld v12 h8) fun cY =>
 mJ x4 x7 cY x5 x6 x7 h8) (fun eH df dt eW fL fF dX =>
 B1 (cv .u64 dt) fun v21 =>
 B1 (qV (.int .i64 8) df) fun v22 =>
 B1 (sN v21 v22) fun v23 =>
 B1 (qF eH v23) fun v24 =>
 qn v24 eW fL fF dX)) (fun gw eO di dv jK =>
 B1 (dj dv (.int .i64 1)) fun v30 =>
 j3 gw eO di v30 jK)) (
 j2 x4 h8)
noncomputable def Gb (J:JT)(G:GT)(cf:CF)(j2:K.Fn 1):K.Fn 4:=gI P an J G cf 217 [1,1,0,1,0,0] [3,6,7,8] (fun q t H=>match Nat.beq q 0 with | true=>app 1 j2 (ai [3] t) H | false=>(fun _ _ _=>none) q t H)
theorem Yh (cf:CF)(j2:K.Fn 1)(x4 x5 x6 x7:AV)(h8:Hp):Gb JN GO cf j2 x4 x5 x6 x7 h8=Tk JN GO cf j2 (Gb JN GO cf j2) x4 x5 x6 x7 h8:=No (b:=app 4 (Gb JN GO cf j2) [x4,x5,x6,x7] h8) (by kernel_rfl) ((ik cf 217 [1,1,0,1,0,0] [3,6,7,8] _ [x4,x5,x6,x7] rfl h8).trans (by kernel_rfl))
noncomputable def ab6 (J : JT)(G : GT)(cf : CF)(a0 : AV)(H : Hp) : R :=
 J 1 (fun j0 =>
 B1 (cJ a0) fun v1 =>
 J 1 (fun j2 =>
 Gb J G cf j2 (.int .u64 0) a0 v1 (.int .i64 0) H) (fun eY ma =>
 j0 eY ma)) (fun gj jD =>
 some (gj, jD))
theorem afv {a0:AV}{H:Hp}{r:AV × Hp}(h:ab6 JN GO cK a0 H=some r):cK (.func (.func 217) [] []) [a0] H=some r:=aE (first:=[]) (cap:=[]) (No (by kernel_rfl) h)
noncomputable def Re (J : JT)(G : GT)(cf : CF)(a0 a1 : AV)(H : Hp) : R :=
 BN (bx 128 a1 H) fun i0 h1 =>
 J 2 (fun j2 =>
 B1 (fa 1 (.ptr i0 0)) fun v3 =>
 B1 (ld v3 h1) fun v4 =>
 B1 (cJ v4) fun v5 =>
 B1 (iy v5 (.int .i64 1024)) fun v6 =>
 CD v6 (
 some (.tuple [.ae, (.int .i64 14)], h1)) (
 j2 a0 (.ptr i0 0) h1)) (fun x7 x8 h9 =>
 J 3 (fun qn =>
 B1 (fa 1 x8) fun v11 =>
 B1 (ld v11 h9) fun v12 =>
 B1 (cJ v12) fun cY =>
 B1 (cv .u64 cY) fun du =>
 B2 (cf (.func (.func 313) [] []) [.ae, du, (.int .i64 4)] h9) fun da gJ =>
 B1 (fa 0 x8) fun dc =>
 B1 (ld dc gJ) fun dw =>
 B2 (cf (.func (.func 313) [] []) [da, dw, (.int .i64 8)] gJ) fun eu dX =>
 B1 (ld dc h9) fun v21 =>
 SM dw v21 <|
 qn x7 x8 eu dX) (fun cF cD cS dG =>
 J 4 (fun tJ =>
 B2 (cf (.func (.func 219) [] []) [cS] dG) fun v27 jd =>
 B1 (fa 1 cD) fun v29 =>
 B1 (ld v29 jd) fun v30 =>
 B2 (cf (.func (.func 218) [] []) [v27, v30] jd) fun v31 ma =>
 B1 (ex 0 v31) fun v33 =>
 B1 (ex 1 v31) fun fI =>
 B1 (ld v29 dG) fun v35 =>
 SM v30 v35 <|
 tJ cF cD cS v33 ma) (fun jB kj jH la jv =>
 B1 (cv .u64 la) fun v41 =>
 B2 (cf (.func (.func 313) [] []) [jH, v41, (.int .i64 4)] jv) fun ig mV =>
 B1 (fa 1 kj) fun v44 =>
 B1 (ld v44 mV) fun kD =>
 B1 (fl [.ae, .ae, .ae] [(0, 1, jB), (1, 1, ig), (2, 1, kD)]) fun l46 =>
 BN (cI mV l46 48 0) fun i47 pj =>
 B2 (cf (.func (.func 314) [] []) [(.slice i47 0 3 3 true 1)] pj) fun v49 nw =>
 B1 (ld v44 jv) fun v51 =>
 SM kD v51 <|
 some (.tuple [v49, (.int .i64 0)], nw))))
theorem agJ (J:JT)(G:GT)(cf:CF)(a0 a1:AV)(H:Hp):gD P J G aw an cf 263 [a0,a1] H=Re J G cf a0 a1 H:=by kernel_rfl
theorem adp {a0 a1:AV}{H:Hp}{r:AV × Hp}(h:Re JN GO cK a0 a1 H=some r):cK (.func (.func 263) [] []) [a0,a1] H=some r:=aE (first:=[]) (cap:=[]) ((agJ JN GO _ a0 a1 H).trans h)
noncomputable def Qd (J : JT)(G : GT)(cf : CF)(a0 a1 : AV)(H : Hp) : R :=
 J 2 (fun j0 =>
 B1 (dV a1 (.int .i64 0)) fun v1 =>
 CD v1 (
 none) (
 j0 a0 a1 H)) (fun x2 x3 h4 =>
 J 1 (fun j5 =>
 J 2 (fun j6 =>
 B2 (eP P .cap #[48] [x2] h4) fun v7 h8 =>
 B1 (cJ x2) fun v9 =>
 B1 (jI v7 v9) fun v10 =>
 B1 (jI x3 v10) fun v11 =>
 j6 x2 v11 h8) (fun eV iu eK =>
 B1 (iy iu (.int .i64 0)) fun da =>
 CD da (
 B2 (eP P .cap #[48] [eV] eK) fun dD eE =>
 B1 (fT 1 eV none (some dD) none) fun dw =>
 B2 (fZ 5 1 [(.int .u8 0)] true dw iu eE) fun eu dX =>
 B1 (cJ eV) fun v21 =>
 B1 (fT 1 eu none (some v21) none) fun v22 =>
 j5 v22 dX) (
 j5 eV eK))) (fun cD fR =>
 some (cD, fR)))
theorem Yw {a0 a1:AV}{H:Hp}{r:AV × Hp}(h:Qd JN GO cK a0 a1 H=some r):cK (.func (.func 333) [] []) [a0,a1] H=some r:=aE (first:=[]) (cap:=[]) (No (by kernel_rfl) h)
noncomputable def S8 (J : JT)(G : GT)(cf : CF)(j2 : K.Fn 2)(j3 : K.Fn 5)(x4 x5 x6 x7 x8 : AV)(h9 : Hp) : R :=
 B1 (dV x8 x7) fun v10 =>
 CD v10 (
 J 5 (fun mJ =>
 J 5 (fun fw =>
 B1 (ia 1 x6 x8) fun cY =>
 B1 (ld cY h9) fun du =>
 J 5 (fun Og =>
 B1 (cJ du) fun dD =>
 B1 (dj x5 dD) fun dc =>
 Og x4 dc x6 x7 x8 h9) (fun fL fF eM dk cF eZ =>
 B1 (dV fF (.int .i64 0)) fun v24 =>
 CD v24 (
 none) (
 fw fL fF eM dk cF eZ))) (fun gw eO di dv dm jG =>
 mJ gw eO di dv dm jG)) (fun eY eD gj kU rn hU =>
 B1 (dj rn (.int .i64 1)) fun v37 =>
 j3 eY eD gj kU v37 hU)) (
 j2 x4 x5 h9)
noncomputable def Gv (J:JT)(G:GT)(cf:CF)(j2:K.Fn 2):K.Fn 5:=gI P an J G cf 314 [1,1,0,1,0,0] [0,3,9,10,11] (fun q t H=>match Nat.beq q 0 with | true=>app 2 j2 (ai [0,3] t) H | false=>(fun _ _ _=>none) q t H)
theorem aae (cf:CF)(j2:K.Fn 2)(x4 x5 x6 x7 x8:AV)(h9:Hp):Gv JN GO cf j2 x4 x5 x6 x7 x8 h9=S8 JN GO cf j2 (Gv JN GO cf j2) x4 x5 x6 x7 x8 h9:=No (b:=app 5 (Gv JN GO cf j2) [x4,x5,x6,x7,x8] h9) (by kernel_rfl) ((ik cf 314 [1,1,0,1,0,0] [0,3,9,10,11] _ [x4,x5,x6,x7,x8] rfl h9).trans (by kernel_rfl))
noncomputable def OS (J : JT)(G : GT)(cf : CF)(wA : K.Fn 1)(QS : K.Fn 4)(jb lC mu lz : AV)(kB : Hp) : R :=
 B1 (dV lz mu) fun iY =>
 CD iY (
 J 4 (fun Ru =>
 B1 (ia 1 lC lz) fun v57 =>
 B1 (ld v57 kB) fun hJ =>
 B2 (fZ 5 1 [(.int .u8 0)] false jb hJ kB) fun v59 oS =>
 Ru v59 lC mu lz oS) (fun mQ mj lH lI tk =>
 B1 (dj lI (.int .i64 1)) fun mr =>
 QS mQ mj lH mr tk)) (
 wA jb kB)
noncomputable def Gs (J:JT)(G:GT)(cf:CF)(wA:K.Fn 1):K.Fn 4:=gI P an J G cf 314 [1,1,1,1,0,1,0,0] [6,25,26,27] (fun q t H=>match Nat.beq q 2 with | true=>app 1 wA (ai [6] t) H | false=>(fun _ _ _=>none) q t H)
theorem UO (cf:CF)(wA:K.Fn 1)(jb lC mu lz:AV)(kB:Hp):Gs JN GO cf wA jb lC mu lz kB=OS JN GO cf wA (Gs JN GO cf wA) jb lC mu lz kB:=No (b:=app 4 (Gs JN GO cf wA) [jb,lC,mu,lz] kB) (by kernel_rfl) ((ik cf 314 [1,1,1,1,0,1,0,0] [6,25,26,27] _ [jb,lC,mu,lz] rfl kB).trans (by kernel_rfl))
noncomputable def Wj (J : JT)(G : GT)(cf : CF)(a0 : AV)(H : Hp) : R :=
 J 2 (fun j0 =>
 B1 (cJ a0) fun v1 =>
 J 2 (fun j2 =>
 Gv J G cf j2 a0 (.int .i64 0) a0 v1 (.int .i64 0) H) (fun jH la jv =>
 j0 jH la jv)) (fun fj fO mV =>
 B2 (cf (.func (.func 333) [] []) [.ae, fO] mV) fun v44 ju =>
 J 1 (fun HR =>
 B1 (cJ fj) fun iR =>
 J 1 (fun wA =>
 Gs J G cf wA v44 fj iR (.int .i64 0) ju) (fun fN GI =>
 HR fN GI)) (fun ew gR =>
 some (ew, gR)))
theorem ah0 {a0:AV}{H:Hp}{r:AV × Hp}(h:Wj JN GO cK a0 H=some r):cK (.func (.func 314) [] []) [a0] H=some r:=aE (first:=[]) (cap:=[]) (No (by kernel_rfl) h)
noncomputable def LA (J : JT)(G : GT)(cf : CF)(j2 : K.Fn 1)(j3 : K.Fn 4)(x4 x5 x6 x7 : AV)(h8 : Hp) : R :=
 B1 (dV x7 x6) fun v9 =>
 CD v9 (
 J 4 (fun qn =>
 J 4 (fun mJ =>
 B1 (ia 1 x5 x7) fun v12 =>
 B1 (ld v12 h8) fun cY =>
 J 6 (fun iL =>
 B2 (cf (.func (.func 116) [] []) [cY] h8) fun da gJ =>
 B1 (ex 0 da) fun dc =>
 B1 (ex 1 da) fun dw =>
 iL x4 dc dw x5 x6 x7 gJ) (fun fF eM dk cF cD cS dG =>
 CD dk (
 B1 (fl [(.int .i64 0)] [(0, 1, eM)]) fun SP =>
 BN (cI dG SP 2 0) fun i27 jd =>
 B2 (fZ 2 1 [(.int .i64 0)] false fF (.slice i27 0 1 1 true 1) jd) fun v29 jG =>
 mJ v29 cF cD cS jG) (
 mJ fF cF cD cS dG))) (fun eY eD gj kU pg =>
 qn eY eD gj kU pg)) (fun jB kj jH la jv =>
 B1 (dj la (.int .i64 1)) fun v41 =>
 j3 jB kj jH v41 jv)) (
 j2 x4 h8)
noncomputable def GW (J:JT)(G:GT)(cf:CF)(j2:K.Fn 1):K.Fn 4:=gI P an J G cf 65 [1,1,0,1,0,0] [3,8,9,10] (fun q t H=>match Nat.beq q 0 with | true=>app 1 j2 (ai [3] t) H | false=>(fun _ _ _=>none) q t H)
theorem N7 (cf:CF)(j2:K.Fn 1)(x4 x5 x6 x7:AV)(h8:Hp):GW JN GO cf j2 x4 x5 x6 x7 h8=LA JN GO cf j2 (GW JN GO cf j2) x4 x5 x6 x7 h8:=No (b:=app 4 (GW JN GO cf j2) [x4,x5,x6,x7] h8) (by kernel_rfl) ((ik cf 65 [1,1,0,1,0,0] [3,8,9,10] _ [x4,x5,x6,x7] rfl h8).trans (by kernel_rfl))
noncomputable def Xg (J : JT)(G : GT)(cf : CF)(a0 : AV)(H : Hp) : R :=
 J 1 (fun j0 =>
 B1 (cJ a0) fun v1 =>
 J 1 (fun j2 =>
 GW J G cf j2 .ae a0 v1 (.int .i64 0) H) (fun fO mV =>
 j0 fO mV)) (fun gF ju =>
 B2 (cf (.func (.func 117) [] []) [gF] ju) fun v46 jk =>
 B2 (cf (.func (.func 118) [] []) [gF] jk) fun iz lD =>
 some (iz, lD))
theorem amM {a0:AV}{H:Hp}{r:AV × Hp}(h:Xg JN GO cK a0 H=some r):cK (.func (.func 65) [] []) [a0] H=some r:=aE (first:=[]) (cap:=[]) (No (by kernel_rfl) h)
noncomputable def Jl (J : JT)(G : GT)(cf : CF)(j6 : K.Fn 1)(iL : K.Fn 2)(mT : K.Fn 2)(ye : K.Fn 4)(dy eY eD gj : AV)(jD : Hp) : R :=
 B1 (cJ eD) fun v35 =>
 B1 (dV gj v35) fun v36 =>
 CD v36 (
 J 4 (fun od =>
 J 4 (fun vW =>
 J 5 (fun oc =>
 B1 (ia 1 eD gj) fun v40 =>
 B1 (ld v40 jD) fun v41 =>
 B1 (jI gj (.int .i64 1)) fun ig =>
 B1 (ia 1 eD ig) fun kq =>
 B1 (ld kq jD) fun v44 =>
 B1 (eX v41 v44) fun kD =>
 oc dy eY eD gj kD jD) (fun fV jZ kO jS jb mh =>
 CD jb (
 J 4 (fun A9 =>
 B1 (ia 1 kO jS) fun v53 =>
 B1 (ld v53 mh) fun jV =>
 B1 (ia 1 fV jZ) fun iY =>
 B1 (st 1 iY jV mh) fun kC =>
 A9 fV jZ kO jS kC) (fun qa wR B3 qS Bb =>
 B1 (dj wR (.int .i64 1)) fun jr =>
 vW qa jr B3 qS Bb)) (
 vW fV jZ kO jS mh))) (fun lH lI gf gq yK =>
 od lH lI gf gq yK)) (fun eA ew iM gY mf =>
 B1 (dj gY (.int .i64 1)) fun sX =>
 ye eA ew iM sX mf)) (
 mT dy eY jD)
noncomputable def FR (J:JT)(G:GT)(cf:CF)(j6:K.Fn 1)(iL:K.Fn 2)(mT:K.Fn 2):K.Fn 4:=gI P an J G cf 118 [1,1,0,1,0,0,1,0,0,1,0,1,0,1,0,0] [0,3,4,5] (fun q t H=>match Nat.beq q 2 with | true=>app 2 mT (ai [0,3] t) H | false=>(fun q t H=>match Nat.beq q 1 with | true=>app 2 iL (ai [0,3] t) H | false=>(fun q t H=>match Nat.beq q 0 with | true=>app 1 j6 (ai [0] t) H | false=>(fun _ _ _=>none) q t H) q t H) q t H)
theorem QW (cf:CF)(j6:K.Fn 1)(iL:K.Fn 2)(mT:K.Fn 2)(dy eY eD gj:AV)(jD:Hp):FR JN GO cf j6 iL mT dy eY eD gj jD=Jl JN GO cf j6 iL mT (FR JN GO cf j6 iL mT) dy eY eD gj jD:=No (b:=app 4 (FR JN GO cf j6 iL mT) [dy,eY,eD,gj] jD) (by kernel_rfl) ((ik cf 118 [1,1,0,1,0,0,1,0,0,1,0,1,0,1,0,0] [0,3,4,5] _ [dy,eY,eD,gj] rfl jD).trans (by kernel_rfl))
noncomputable def K7 (J : JT)(G : GT)(cf : CF)(j6 : K.Fn 1)(j7 : K.Fn 2)(x8 x9 : AV)(cG : Hp) : R :=
 B1 (cJ x8) fun v11 =>
 B1 (dV x9 v11) fun v12 =>
 CD v12 (
 J 2 (fun fg =>
 J 2 (fun iL =>
 J 3 (fun Og =>
 B1 (ia 1 x8 x9) fun dD =>
 B1 (ld dD cG) fun dc =>
 B1 (jI x9 (.int .i64 1)) fun dw =>
 B1 (ia 1 x8 dw) fun eu =>
 B1 (ld eu cG) fun v20 =>
 B1 (cN dc v20) fun v21 =>
 Og x8 x9 v21 cG) (fun cF cD cS dG =>
 CD cS (
 B1 (fT 1 cF (some cD) none none) fun v26 =>
 J 2 (fun oz =>
 J 2 (fun mT =>
 FR J G cf j6 iL mT cF cD v26 (.int .i64 1) dG) (fun pY mi nt =>
 oz pY mi nt)) (fun jt mL kY =>
 B1 (fT 1 jt (some mL) none none) fun v80 =>
 B2 (eP P .clear #[149] [v80] kY) fun pf jT =>
 B1 (fT 1 jt none (some mL) none) fun jF =>
 some (jF, jT))) (
 iL cF cD dG))) (fun gU iK zo =>
 fg gU iK zo)) (fun ij kA Dt =>
 B1 (dj kA (.int .i64 1)) fun vC =>
 j7 ij vC Dt)) (
 j6 x8 cG)
noncomputable def Da (J:JT)(G:GT)(cf:CF)(j6:K.Fn 1):K.Fn 2:=gI P an J G cf 118 [1,1,0,1,0,0] [0,3] (fun q t H=>match Nat.beq q 0 with | true=>app 1 j6 (ai [0] t) H | false=>(fun _ _ _=>none) q t H)
theorem Rt (cf:CF)(j6:K.Fn 1)(x8 x9:AV)(cG:Hp):Da JN GO cf j6 x8 x9 cG=K7 JN GO cf j6 (Da JN GO cf j6) x8 x9 cG:=No (b:=app 2 (Da JN GO cf j6) [x8,x9] cG) (by kernel_rfl) ((ik cf 118 [1,1,0,1,0,0] [0,3] _ [x8,x9] rfl cG).trans (by kernel_rfl))
noncomputable def Pg (J : JT)(G : GT)(cf : CF)(a0 : AV)(H : Hp) : R :=
 J 1 (fun j0 =>
 B1 (cJ a0) fun v1 =>
 B1 (dV v1 (.int .i64 2)) fun v2 =>
 CD v2 (
 some (a0, H)) (
 j0 a0 H)) (fun x3 h4 =>
 J 1 (fun j5 =>
 J 1 (fun j6 =>
 Da J G cf j6 x3 (.int .i64 1) h4) (fun sK EK =>
 j5 sK EK)) (fun rS tS =>
 some (rS, tS)))
theorem ZS {a0:AV}{H:Hp}{r:AV × Hp}(h:Pg JN GO cK a0 H=some r):cK (.func (.func 118) [] []) [a0] H=some r:=aE (first:=[]) (cap:=[]) (No (by kernel_rfl) h)
noncomputable def zw (J : JT)(G : GT)(cf : CF)(a0 a1 a2 : AV)(H : Hp) : R :=
 J 3 (fun j0 =>
 J 4 (fun j1 =>
 B2 (cf (.func (.func 43) [] []) [a0] H) fun v2 h3 =>
 B1 (dV a1 v2) fun v4 =>
 G v4 false (fun k5 =>
 k5 a1 h3) (fun v6 h7 =>
 G v4 false (fun k8 =>
 B1 (iy v6 (.int .i64 1048575)) fun v9 =>
 k8 v9 h7) (fun v10 iv =>
 B1 (pk v4 (.bool true) v10) fun v12 =>
 j1 a0 a1 a2 v12 iv) h7) h3) (fun iu eH df dt eE =>
 CD dt (
 some (.tuple [(.int .u64 0), (.int .i64 1)], eE)) (
 j0 iu eH df eE))) (fun fL fF eM og =>
 J 4 (fun Cm =>
 B2 (cf (.func (.func 69) [] []) [fL] og) fun v23 fR =>
 B2 (cf (.func (.func 262) [] []) [fF, v23] fR) fun v25 nc =>
 B1 (ex 0 v25) fun v27 =>
 B1 (ex 1 v25) fun v28 =>
 Cm fL eM v27 v28 nc) (fun dm dy eY eD fD =>
 J 4 (fun nF =>
 B2 (cf (.func (.func 78) [] []) [dy] fD) fun v35 hU =>
 B1 (fl [(.int .u64 0), .ae] [(0, 1, eY), (1, 1, v35)]) fun l37 =>
 BN (cI hU [(.int .u64 0), .ae] 128 0) fun i38 mo =>
 B1 (st 2 (.ptr i38 0) (.agg l37) mo) fun jv =>
 nF dm eY eD (.ptr i38 0) jv) (fun fj fO gh gF ju =>
 J 6 (fun HR =>
 B1 (af 2 gF ju) fun iR =>
 B2 (cf (.func (.func 263) [] []) [.ae, iR] ju) fun iz lD =>
 B1 (ex 0 iz) fun lU =>
 B1 (ex 1 iz) fun v51 =>
 HR fj fO gh gF lU v51 lD) (fun mu lz my lq qQ qa uL =>
 J 4 (fun j59 =>
 B1 (eX qa (.int .i64 0)) fun ku =>
 CD ku (
 some (.tuple [(.int .u64 0), qa], uL)) (
 B1 (ie .not my) fun ll =>
 CD ll (
 some (.tuple [(.int .u64 0), (.int .i64 6)], uL)) (
 j59 mu lz lq qQ uL))) (fun mj lH lI gf kH =>
 J 5 (fun zt =>
 B1 (ag mj) fun qo =>
 B1 (fa 2 qo) fun pG =>
 B1 (ld pG kH) fun v70 =>
 B1 (cJ v70) fun ml =>
 B1 (jI ml (.int .i64 1)) fun v72 =>
 zt mj lH lI gf v72 kH) (fun jO pY mi lR jt qJ =>
 J 5 (fun Zt =>
 J 6 (fun lV =>
 B1 (dV jt (.int .i64 0)) fun pf =>
 uE pf false (
 B1 (ag jO) fun xY =>
 B1 (fa 2 xY) fun jF =>
 B1 (ld jF qJ) fun uV =>
 B1 (ia 2 uV jt) fun v85 =>
 B1 (fa 1 v85) fun uS =>
 B1 (ld uS qJ) fun v87 =>
 B1 (ag jO) fun Hv =>
 B1 (fa 1 Hv) fun Pk =>
 B1 (ld Pk qJ) fun vC =>
 B1 (qi v87 vC) fun v91 =>
 lV jO pY mi lR jt v91 qJ) (
 lV jO pY mi lR jt (.bool true) qJ)) (fun nX rS CJ xw zx Kf mZ =>
 CD Kf (
 J 6 (fun Ib =>
 B2 (cf (.func (.func 69) [] []) [nX] mZ) fun lX Gu =>
 B1 (fl [(.int .i64 0), (.int .i64 0)] [(0, 1, lX)]) fun Rp =>
 BN (cI Gu [(.int .i64 0), (.int .i64 0)] 153 0) fun i103 GN =>
 B1 (st 2 (.ptr i103 0) (.agg Rp) GN) fun wX =>
 Ib nX rS CJ xw zx (.ptr i103 0) wX) (fun kL lT oD qh BJ zZ CV =>
 J 6 (fun ahC =>
 J 7 (fun af7 =>
 B1 (ag kL) fun yY =>
 B1 (fa 0 yY) fun Zq =>
 B1 (ld Zq CV) fun v117 =>
 B1 (af 2 zZ CV) fun A2 =>
 B2 (cf (.func (.func 68) [] []) [A2] CV) fun zS Ht =>
 B2 (cf (.func (.func 203) [] []) [v117, zS, qh] Ht) fun wu qM =>
 B1 (ld Zq Ht) fun rU =>
 SM v117 rU <|
 af7 kL lT oD qh BJ zZ wu qM) (fun B7 AL Bp HJ BE apt DV DG =>
 B1 (eX DV (.int .i64 0)) fun Bj =>
 CD Bj (
 some (.tuple [(.int .u64 0), DV], DG)) (
 ahC B7 AL Bp HJ BE apt DG))) (fun vE x0 D7 xD BR tO xW =>
 J 5 (fun aqT =>
 B1 (ag vE) fun v141 =>
 B1 (fa 2 v141) fun Gr =>
 B1 (ld Gr xW) fun v143 =>
 B1 (af 2 tO xW) fun Iq =>
 B1 (fl [(.int .i64 0), (.int .i64 0)] [(0, 2, Iq)]) fun adN =>
 BN (cI xW adN 153 0) fun i146 E7 =>
 B2 (fZ 153 2 [(.int .i64 0), (.int .i64 0)] false v143 (.slice i146 0 1 1 true 2) E7) fun v148 aeV =>
 B1 (ag vE) fun alN =>
 B1 (fa 2 alN) fun aet =>
 B1 (st 1 aet v148 aeV) fun CQ =>
 aqT vE x0 D7 xD BR CQ) (fun aqH Q5 Gy Ay GQ aif =>
 B1 (dj GQ (.int .i64 1)) fun v159 =>
 Zt aqH Q5 Gy Ay v159 aif)))) (
 J 6 (fun aoT =>
 B1 (ag nX) fun RE =>
 B1 (fa 0 RE) fun v162 =>
 B1 (ld v162 mZ) fun LC =>
 B1 (ag nX) fun v164 =>
 B1 (fa 2 v164) fun apk =>
 B1 (ld apk mZ) fun FE =>
 B1 (ia 2 FE zx) fun v167 =>
 B1 (af 2 v167 mZ) fun v168 =>
 B2 (cf (.func (.func 68) [] []) [v168] mZ) fun PN La =>
 B2 (cf (.func (.func 203) [] []) [LC, PN, xw] La) fun v171 QD =>
 B1 (ld v162 La) fun v173 =>
 SM LC v173 <|
 aoT nX rS CJ xw zx v171 QD) (fun aqk anE apg ahN adJ Zm aas =>
 B1 (eX Zm (.int .i64 0)) fun Mo =>
 CD Mo (
 some (.tuple [(.int .u64 0), Zm], aas)) (
 Zt aqk anE apg ahN adJ aas))))) (fun XX aiW aof J1 DX Rz =>
 J 3 (fun agq =>
 B1 (ag XX) fun amY =>
 B1 (fa 2 amY) fun SC =>
 B1 (ld SC Rz) fun IL =>
 B1 (ia 2 IL DX) fun Lm =>
 B1 (fa 1 Lm) fun v193 =>
 B1 (ld v193 Rz) fun v194 =>
 B1 (cJ J1) fun aex =>
 B1 (dj v194 aex) fun v196 =>
 B1 (ia 2 IL DX) fun N0 =>
 B1 (fa 1 N0) fun v198 =>
 B1 (st 1 v198 v196 Rz) fun ade =>
 agq XX aiW aof ade) (fun abv ag5 MF QU =>
 J 1 (fun ahI =>
 B1 (ag abv) fun acr =>
 B1 (fa 3 acr) fun v206 =>
 B1 (ld v206 QU) fun aj3 =>
 B1 (af 2 MF QU) fun v208 =>
 B1 (fl [(.int .u64 0), .ae] [(0, 2, v208)]) fun ag0 =>
 BN (cI QU ag0 128 0) fun i210 Jd =>
 B2 (fZ 128 2 [(.int .u64 0), .ae] false aj3 (.slice i210 0 1 1 true 2) Jd) fun v212 afG =>
 B1 (ag abv) fun acO =>
 B1 (fa 3 acO) fun afZ =>
 B1 (st 1 afZ v212 afG) fun aeU =>
 ahI ag5 aeU) (fun agp ahR =>
 some (.tuple [agp, (.int .i64 0)], ahR))))))))))
theorem ajb (J:JT)(G:GT)(cf:CF)(a0 a1 a2:AV)(H:Hp):gD P J G aw an cf 207 [a0,a1,a2] H=zw J G cf a0 a1 a2 H:=by kernel_rfl
theorem KZ {a0 a1 a2:AV}{H:Hp}{r:AV × Hp}(h:zw JN GO cK a0 a1 a2 H=some r):cK (.func (.func 207) [] []) [a0,a1,a2] H=some r:=aE (first:=[]) (cap:=[]) ((ajb JN GO _ a0 a1 a2 H).trans h)
noncomputable def Z9 (J : JT)(G : GT)(cf : CF)(a0 : AV)(H : Hp) : R :=
 B1 (ag a0) fun v0 =>
 B1 (fa 4 v0) fun v1 =>
 B1 (ld v1 H) fun v2 =>
 B1 (ag a0) fun v3 =>
 B1 (fa 3 v3) fun v4 =>
 B1 (ld v4 H) fun v5 =>
 B1 (cJ v5) fun v6 =>
 B1 (dj v2 v6) fun v7 =>
 some (v7, H)
theorem aqd {a0:AV}{H:Hp}{r:AV × Hp}(h:Z9 JN GO cK a0 H=some r):cK (.func (.func 69) [] []) [a0] H=some r:=aE (first:=[]) (cap:=[]) (No (by kernel_rfl) h)
noncomputable def YX (J : JT)(G : GT)(cf : CF)(a0 : AV)(H : Hp) : R :=
 J 1 (fun j0 =>
 J 2 (fun j1 =>
 B1 (ag a0) fun v2 =>
 B1 (fa 3 v2) fun v3 =>
 B1 (ld v3 H) fun v4 =>
 B1 (cJ v4) fun v5 =>
 B1 (cN v5 (.int .i64 0)) fun v6 =>
 j1 a0 v6 H) (fun x7 x8 h9 =>
 CD x8 (
 some ((.int .i64 0), h9)) (
 j0 x7 h9))) (fun eI iv =>
 B1 (ag eI) fun v12 =>
 B1 (fa 3 v12) fun cY =>
 B1 (ld cY iv) fun du =>
 B1 (ag eI) fun da =>
 B1 (fa 3 da) fun dD =>
 B1 (ld dD iv) fun dc =>
 B1 (cJ dc) fun dw =>
 B1 (jI dw (.int .i64 1)) fun eu =>
 B1 (ia 2 du eu) fun v20 =>
 B1 (fa 0 v20) fun v21 =>
 B1 (ld v21 iv) fun v22 =>
 B2 (cf (.func (.func 70) [] []) [v22] iv) fun v23 fR =>
 some (v23, fR))
theorem acL {a0:AV}{H:Hp}{r:AV × Hp}(h:YX JN GO cK a0 H=some r):cK (.func (.func 43) [] []) [a0] H=some r:=aE (first:=[]) (cap:=[]) (No (by kernel_rfl) h)
noncomputable def X5 (J : JT)(G : GT)(cf : CF)(a0 : AV)(H : Hp) : R :=
 B1 (ag a0) fun v0 =>
 B1 (fa 4 v0) fun v1 =>
 B1 (ld v1 H) fun v2 =>
 some (v2, H)
theorem ai8 {a0:AV}{H:Hp}{r:AV × Hp}(h:X5 JN GO cK a0 H=some r):cK (.func (.func 127) [] []) [a0] H=some r:=aE (first:=[]) (cap:=[]) (No (by kernel_rfl) h)
noncomputable def AD (J : JT)(G : GT)(cf : CF)(fw : K.Fn 1)(fg : K.Fn 4)(eH df dt eW : AV)(fv : Hp) : R :=
 J 4 (fun iS =>
 J 5 (fun iC =>
 B2 (cf (.func (.func 69) [] []) [eH] fv) fun v21 gM =>
 B1 (dV df v21) fun v23 =>
 G v23 true (fun yx =>
 yx eW gM) (fun v25 nc =>
 G v23 true (fun IA =>
 B1 (cJ v25) fun v28 =>
 IA v28 nc) (fun v29 jG =>
 G v23 true (fun xx =>
 xx dt jG) (fun v32 fD =>
 G v23 true (fun E1 =>
 B1 (dV v29 v32) fun v35 =>
 E1 v35 fD) (fun v36 kg =>
 B1 (pk v23 v36 (.bool false)) fun hY =>
 iC eH df dt eW hY kg) fD) jG) nc) gM) (fun la mc fj fO gh qK =>
 CD gh (
 iS la mc fj fO qK) (
 fw fO qK))) (fun fY fV jZ kO lD =>
 J 4 (fun KG =>
 B1 (ag fY) fun v51 =>
 B1 (fa 3 v51) fun jg =>
 B1 (ld jg lD) fun v53 =>
 B1 (ag fY) fun jV =>
 B1 (fa 4 jV) fun iY =>
 B1 (ld iY lD) fun iZ =>
 B1 (jI fV iZ) fun v57 =>
 B1 (ia 2 v53 v57) fun hJ =>
 B1 (af 2 hJ lD) fun v59 =>
 B2 (cf (.func (.func 183) [] []) [v59] lD) fun ku Bb =>
 B1 (fl [(.int .u64 0), .ae] [(0, 2, ku)]) fun l62 =>
 BN (cI Bb l62 128 0) fun i63 pP =>
 B2 (fZ 128 2 [(.int .u64 0), .ae] false kO (.slice i63 0 1 1 true 2) pP) fun nU kH =>
 KG fY fV jZ nU kH) (fun fN eA ew iM zp =>
 B1 (dj eA (.int .i64 1)) fun v72 =>
 fg fN v72 ew iM zp))
noncomputable def Hw (J:JT)(G:GT)(cf:CF)(fw:K.Fn 1):K.Fn 4:=gI P an J G cf 126 [1,1,0,1,0,0] [0,1,2,7] (fun q t H=>match Nat.beq q 0 with | true=>app 1 fw (ai [7] t) H | false=>(fun _ _ _=>none) q t H)
theorem amw (J:JT)(G:GT)(cf:CF)(fw:K.Fn 1)(fg:K.Fn 4)(eH df dt eW:AV)(fv:Hp):nI P an J G cf 126 [1,1,0,1,0,0] [0,1,2,7] (fun q t H=>match Nat.beq q 0 with | true=>app 1 fw (ai [7] t) H | false=>(fun _ _ _=>none) q t H) fg [eH,df,dt,eW] fv=AD J G cf fw fg eH df dt eW fv:=by kernel_rfl
theorem Jy (cf:CF)(fw:K.Fn 1)(eH df dt eW:AV)(fv:Hp):Hw JN GO cf fw eH df dt eW fv=AD JN GO cf fw (Hw JN GO cf fw) eH df dt eW fv:=No (b:=app 4 (Hw JN GO cf fw) [eH,df,dt,eW] fv) (by kernel_rfl) ((ik cf _ _ _ _ [eH,df,dt,eW] rfl fv).trans (amw JN GO cf fw _ eH df dt eW fv))
noncomputable def Lj (J : JT)(G : GT)(cf : CF)(a0 a1 a2 : AV)(H : Hp) : R :=
 J 1 (fun j0 =>
 J 4 (fun j1 =>
 B1 (ag a0) fun v2 =>
 B1 (fa 4 v2) fun v3 =>
 B1 (ld v3 H) fun v4 =>
 B2 (eP P .max #[2, 2] [a1, v4] H) fun v5 h6 =>
 j1 a0 v5 a2 .ae h6) (fun x7 x8 x9 eI iv =>
 J 1 (fun fw =>
 Hw J G cf fw x7 x8 x9 eI iv) (fun jO py =>
 j0 jO py))) (fun mi nt =>
 some (mi, nt))
theorem alc (J:JT)(G:GT)(cf:CF)(a0 a1 a2:AV)(H:Hp):gD P J G aw an cf 126 [a0,a1,a2] H=Lj J G cf a0 a1 a2 H:=by kernel_rfl
theorem Vx {a0 a1 a2:AV}{H:Hp}{r:AV × Hp}(h:Lj JN GO cK a0 a1 a2 H=some r):cK (.func (.func 126) [] []) [a0,a1,a2] H=some r:=aE (first:=[]) (cap:=[]) ((alc JN GO _ a0 a1 a2 H).trans h)
noncomputable def EG (J : JT)(G : GT)(cf : CF)(pI : K.Fn 1)(Ao : K.Fn 4)(gw eO di dv : AV)(jK : Hp) : R :=
 B1 (dV dv di) fun v30 =>
 CD v30 (
 J 4 (fun nJ =>
 J 4 (fun wg =>
 B1 (ia 2 eO dv) fun v33 =>
 B1 (af 2 v33 jK) fun fI =>
 BN (cI jK [(.int .i64 0), (.int .i64 0)] 153 0) fun i35 hU =>
 B1 (st 2 (.ptr i35 0) fI hU) fun kg =>
 J 5 (fun vW =>
 J 6 (fun oc =>
 B1 (ag gw) fun v40 =>
 B1 (fa 0 v40) fun v41 =>
 B1 (ld v41 kg) fun ig =>
 B1 (af 2 (.ptr i35 0) kg) fun kq =>
 B2 (cf (.func (.func 68) [] []) [kq] kg) fun v44 ju =>
 B2 (cf (.func (.func 264) [] []) [ig, v44] ju) fun v46 jk =>
 B1 (fa 1 (.ptr i35 0)) fun iz =>
 B1 (ld iz jk) fun v49 =>
 B1 (cN v46 v49) fun lU =>
 B1 (ld v41 ju) fun v51 =>
 SM ig v51 <|
 B1 (ld iz kg) fun jg =>
 SM v49 jg <|
 B1 (ld iz ju) fun v53 =>
 SM v49 v53 <|
 oc gw (.ptr i35 0) eO di dv lU jk) (fun my lq qQ qa wR B3 oS =>
 CD B3 (
 wg my qQ qa wR oS) (
 vW my lq qQ qa wR oS))) (fun mQ mj lH lI gf kH =>
 J 5 (fun zt =>
 B1 (ag mQ) fun qo =>
 B1 (fa 0 qo) fun pG =>
 B1 (ld pG kH) fun v70 =>
 B1 (af 2 mj kH) fun ml =>
 B2 (cf (.func (.func 68) [] []) [ml] kH) fun v72 uz =>
 B2 (cf (.func (.func 67) [] []) [v70, v72] uz) fun rT qq =>
 B1 (ld pG uz) fun v76 =>
 SM v70 v76 <|
 zt mQ rT lH lI gf qq) (fun jt mL Cj xN sB jT =>
 B1 (eX mL (.int .i64 0)) fun jF =>
 CD jF (
 some (mL, jT)) (
 wg jt Cj xN sB jT)))) (fun gU iK jc ij qP =>
 nJ gU iK jc ij qP)) (fun jA jj sK nX xC =>
 B1 (dj nX (.int .i64 1)) fun wT =>
 Ao jA jj sK wT xC)) (
 pI gw jK)
noncomputable def FL (J:JT)(G:GT)(cf:CF)(pI:K.Fn 1):K.Fn 4:=gI P an J G cf 209 [1,1,0,1,0,0] [0,14,15,16] (fun q t H=>match Nat.beq q 0 with | true=>app 1 pI (ai [0] t) H | false=>(fun _ _ _=>none) q t H)
theorem amm (J:JT)(G:GT)(cf:CF)(pI:K.Fn 1)(Ao:K.Fn 4)(gw eO di dv:AV)(jK:Hp):nI P an J G cf 209 [1,1,0,1,0,0] [0,14,15,16] (fun q t H=>match Nat.beq q 0 with | true=>app 1 pI (ai [0] t) H | false=>(fun _ _ _=>none) q t H) Ao [gw,eO,di,dv] jK=EG J G cf pI Ao gw eO di dv jK:=by kernel_rfl
theorem J7 (cf:CF)(pI:K.Fn 1)(gw eO di dv:AV)(jK:Hp):FL JN GO cf pI gw eO di dv jK=EG JN GO cf pI (FL JN GO cf pI) gw eO di dv jK:=No (b:=app 4 (FL JN GO cf pI) [gw,eO,di,dv] jK) (by kernel_rfl) ((ik cf _ _ _ _ [gw,eO,di,dv] rfl jK).trans (amm JN GO cf pI _ gw eO di dv jK))
noncomputable def FY (J : JT)(G : GT)(cf : CF)(a0 : AV)(H : Hp) : R :=
 J 1 (fun j0 =>
 J 2 (fun j1 =>
 B1 (ag a0) fun v2 =>
 B1 (fa 0 v2) fun v3 =>
 B1 (ld v3 H) fun v4 =>
 B2 (cf (.func (.func 63) [] []) [v4] H) fun v5 h6 =>
 j1 a0 v5 h6) (fun x7 x8 h9 =>
 CD x8 (
 some ((.int .i64 11), h9)) (
 j0 x7 h9))) (fun eI iv =>
 J 1 (fun fw =>
 J 4 (fun fg =>
 B1 (ag eI) fun du =>
 B1 (fa 2 du) fun da =>
 B1 (ld da iv) fun dD =>
 B1 (cJ dD) fun dc =>
 fg eI dD dc (.int .i64 0) iv) (fun fL fF eM dk gM =>
 J 1 (fun pI =>
 FL J G cf pI fL fF eM dk gM) (fun xw xS =>
 fw xw xS))) (fun Kf mZ =>
 J 0 (fun Ib =>
 B2 (cf (.func (.func 69) [] []) [Kf] mZ) fun lX Gu =>
 B1 (ag Kf) fun uy =>
 B1 (fa 5 uy) fun aed =>
 B1 (st 1 aed lX Gu) fun GN =>
 Ib  GN) (fun  wX =>
 some ((.int .i64 0), wX))))
theorem aoS (J:JT)(G:GT)(cf:CF)(a0:AV)(H:Hp):gD P J G aw an cf 209 [a0] H=FY J G cf a0 H:=by kernel_rfl
theorem TH {a0:AV}{H:Hp}{r:AV × Hp}(h:FY JN GO cK a0 H=some r):cK (.func (.func 209) [] []) [a0] H=some r:=aE (first:=[]) (cap:=[]) ((aoS JN GO _ a0 H).trans h)
noncomputable def NK (J : JT)(G : GT)(cf : CF)(fg : K.Fn 0)(iL : K.Fn 5)(df dt eW fL fF : AV)(dX : Hp) : R :=
 B1 (dV fF fL) fun v21 =>
 CD v21 (
 J 5 (fun Cm =>
 J 7 (fun pI =>
 B1 (ia 1 eW fF) fun v24 =>
 B1 (ld v24 dX) fun v25 =>
 pI df dt fF v25 eW fL fF dX) (fun eO di dv dm dy eY eD fD =>
 J 7 (fun nF =>
 B2 (cf (.func (.func 69) [] []) [eO] fD) fun v35 hU =>
 B1 (eX dm v35) fun v37 =>
 CD v37 (
 B1 (fT 1 di (some dv) none none) fun hY =>
 B2 (cf (.func (.func 113) [] []) [eO, hY] hU) fun fS jv =>
 some (fS, jv)) (
 nF eO di dv dm dy eY eD hU)) (fun fj fO gh gF fY fV jZ pj =>
 B1 (fl [(.int .i64 0), (.int .i64 0)] [(0, 1, gF)]) fun l49 =>
 BN (cI pj [(.int .i64 0), (.int .i64 0)] 153 0) fun i50 mh =>
 B1 (st 2 (.ptr i50 0) (.agg l49) mh) fun mg =>
 J 10 (fun GK =>
 B1 (ag fj) fun jV =>
 B1 (fa 0 jV) fun iY =>
 B1 (ld iY mg) fun iZ =>
 B1 (af 2 (.ptr i50 0) mg) fun v57 =>
 B2 (cf (.func (.func 68) [] []) [v57] mg) fun hJ tI =>
 B2 (cf (.func (.func 71) [] []) [iZ, hJ] tI) fun ku Bb =>
 B1 (ex 0 ku) fun jr =>
 B1 (ex 1 ku) fun v63 =>
 B1 (ld iY tI) fun v64 =>
 SM iZ v64 <|
 GK fj fO gh gF (.ptr i50 0) jr v63 fY fV jZ Bb) (fun gf gq fN eA ew iM gY mq jO pY qq =>
 B1 (eX gY (.int .i64 0)) fun v76 =>
 CD v76 (
 some (gY, qq)) (
 J 10 (fun Ry =>
 B2 (cf (.func (.func 43) [] []) [gf] qq) fun oQ kY =>
 B2 (cf (.func (.func 114) [] []) [iM, eA, oQ] kY) fun v80 FG =>
 B1 (ex 0 v80) fun xY =>
 B1 (ex 1 v80) fun jF =>
 Ry gf gq fN ew iM xY jF mq jO pY FG) (fun gU iK jc ij kA jA jj sK nX rS tS =>
 B1 (fa 1 ij) fun Bn =>
 B1 (st 1 Bn jj tS) fun xS =>
 J 10 (fun j97 =>
 B1 (ag gU) fun qH =>
 B1 (fa 2 qH) fun yy =>
 B1 (ld yy xS) fun lX =>
 B1 (af 2 ij xS) fun nG =>
 B1 (fl [(.int .i64 0), (.int .i64 0)] [(0, 2, nG)]) fun Rp =>
 BN (cI xS Rp 153 0) fun i103 GN =>
 B2 (fZ 153 2 [(.int .i64 0), (.int .i64 0)] false lX (.slice i103 0 1 1 true 2) GN) fun v105 Oh =>
 B1 (ag gU) fun v107 =>
 B1 (fa 2 v107) fun Pe =>
 B1 (st 1 Pe v105 Oh) fun wS =>
 j97 gU iK jc ij kA jA jj sK nX rS wS) (fun BJ zZ DD AM Fq wN FU M8 qB A4 Ht =>
 J 9 (fun aiN =>
 B1 (ag BJ) fun I0 =>
 B1 (fa 3 I0) fun rU =>
 B1 (ld rU Ht) fun v124 =>
 B2 (fZ 128 2 [(.int .u64 0), .ae] false v124 wN Ht) fun Co KS =>
 B1 (ag BJ) fun v127 =>
 B1 (fa 3 v127) fun MB =>
 B1 (st 1 MB Co KS) fun Cr =>
 aiN BJ zZ DD AM Fq FU M8 qB A4 Cr) (fun DV DY QL vE x0 D7 xD BR tO xW =>
 B1 (cJ x0) fun apI =>
 B1 (dV D7 apI) fun v141 =>
 CD v141 (
 J 3 (fun SZ =>
 J 4 (fun afq =>
 B1 (dj QL (.int .i64 1)) fun Iq =>
 B1 (fT 1 DY (some Iq) none none) fun v145 =>
 B2 (cf (.func (.func 113) [] []) [DV, v145] xW) fun v146 E7 =>
 afq DV vE D7 v146 E7) (fun ai2 PI ahF Mt CQ =>
 B1 (eX Mt (.int .i64 0)) fun ag2 =>
 CD ag2 (
 some (Mt, CQ)) (
 SZ ai2 PI ahF CQ))) (fun Q5 Gy Ay M7 =>
 B1 (ag Q5) fun alv =>
 B1 (fa 0 alv) fun v159 =>
 B1 (ld v159 M7) fun v160 =>
 B1 (af 2 Gy M7) fun RE =>
 B2 (cf (.func (.func 68) [] []) [RE] M7) fun v162 Z8 =>
 B2 (cf (.func (.func 115) [] []) [v160, v162, Ay] Z8) fun v164 RB =>
 B1 (ld v159 Z8) fun FE =>
 SM v160 FE <|
 some (v164, RB))) (
 Cm DV DY xD BR tO xW))))))))) (fun ad3 ahQ aeW an0 anQ QD =>
 B1 (dj anQ (.int .i64 1)) fun v173 =>
 iL ad3 ahQ aeW an0 v173 QD)) (
 fg  dX)
noncomputable def Lp (J:JT)(G:GT)(cf:CF)(fg:K.Fn 0):K.Fn 5:=gI P an J G cf 64 [1,1,0,1,0,0] [0,1,22,23,24] (fun q t H=>match Nat.beq q 0 with | true=>app 0 fg (ai [] t) H | false=>(fun _ _ _=>none) q t H)
theorem ai3 (J:JT)(G:GT)(cf:CF)(fg:K.Fn 0)(iL:K.Fn 5)(df dt eW fL fF:AV)(dX:Hp):nI P an J G cf 64 [1,1,0,1,0,0] [0,1,22,23,24] (fun q t H=>match Nat.beq q 0 with | true=>app 0 fg (ai [] t) H | false=>(fun _ _ _=>none) q t H) iL [df,dt,eW,fL,fF] dX=NK J G cf fg iL df dt eW fL fF dX:=by kernel_rfl
theorem ai5 (cf:CF)(fg:K.Fn 0)(df dt eW fL fF:AV)(dX:Hp):Lp JN GO cf fg df dt eW fL fF dX=NK JN GO cf fg (Lp JN GO cf fg) df dt eW fL fF dX:=No (b:=app 5 (Lp JN GO cf fg) [df,dt,eW,fL,fF] dX) (by kernel_rfl) ((ik cf _ _ _ _ [df,dt,eW,fL,fF] rfl dX).trans (ai3 JN GO cf fg _ df dt eW fL fF dX))
noncomputable def Qw (J : JT)(G : GT)(cf : CF)(a0 a1 : AV)(H : Hp) : R :=
 J 2 (fun j0 =>
 B1 (cJ a1) fun v1 =>
 B1 (iy v1 (.int .i64 0)) fun v2 =>
 CD v2 (
 B1 (ia 1 a1 (.int .i64 0)) fun v3 =>
 B1 (ld v3 H) fun v4 =>
 B1 (ag a0) fun v5 =>
 B1 (fa 4 v5) fun v6 =>
 B1 (st 1 v6 v4 H) fun h7 =>
 j0 a0 a1 h7) (
 j0 a0 a1 H)) (fun x8 x9 cG =>
 J 0 (fun mJ =>
 B1 (cJ x9) fun v12 =>
 J 0 (fun fg =>
 Lp J G cf fg x8 x9 x9 v12 (.int .i64 0) cG) (fun  aln =>
 mJ  aln)) (fun  air =>
 some ((.int .i64 0), air)))
theorem amb (J:JT)(G:GT)(cf:CF)(a0 a1:AV)(H:Hp):gD P J G aw an cf 64 [a0,a1] H=Qw J G cf a0 a1 H:=by kernel_rfl
theorem ajE {a0 a1:AV}{H:Hp}{r:AV × Hp}(h:Qw JN GO cK a0 a1 H=some r):cK (.func (.func 64) [] []) [a0,a1] H=some r:=aE (first:=[]) (cap:=[]) ((amb JN GO _ a0 a1 H).trans h)
noncomputable def YN (J : JT)(G : GT)(cf : CF)(a0 : AV)(H : Hp) : R :=
 BN (bx 153 a0 H) fun i0 h1 =>
 J 1 (fun j2 =>
 B1 (fa 0 (.ptr i0 0)) fun v3 =>
 B1 (ld v3 h1) fun v4 =>
 B2 (cf (.func (.func 123) [] []) [v4] h1) fun v5 h6 =>
 B1 (ex 0 v5) fun v7 =>
 B1 (ex 1 v5) fun v8 =>
 j2 v7 h6) (fun x9 cG =>
 some (x9, cG))
theorem ak1 {a0:AV}{H:Hp}{r:AV × Hp}(h:YN JN GO cK a0 H=some r):cK (.func (.func 68) [] []) [a0] H=some r:=aE (first:=[]) (cap:=[]) (No (by kernel_rfl) h)
noncomputable def Pd (J : JT)(G : GT)(cf : CF)(qX : K.Fn 1)(Lb : K.Fn 5)(gf gq fN eA ew : AV)(gR : Hp) : R :=
 B1 (dV ew eA) fun ml =>
 CD ml (
 J 5 (fun NQ =>
 B1 (ia 2 fN ew) fun sX =>
 B1 (af 2 sX gR) fun rT =>
 BN (cI gR [(.int .i64 0), (.int .i64 0)] 153 0) fun i75 nt =>
 B1 (st 2 (.ptr i75 0) rT nt) fun wE =>
 J 6 (fun P9 =>
 B1 (af 2 (.ptr i75 0) wE) fun oY =>
 B2 (cf (.func (.func 68) [] []) [oY] wE) fun v80 FG =>
 B2 (cf (.func (.func 67) [] []) [gf, v80] FG) fun xY PJ =>
 P9 gf gq xY fN eA ew PJ) (fun gU iK jc ij kA jA uG =>
 B1 (eX jc (.int .i64 0)) fun v91 =>
 CD v91 (
 some (.tuple [.aC, jc], uG)) (
 NQ gU iK ij kA jA uG))) (fun nX rS CJ xw zx oB =>
 B1 (dj zx (.int .i64 1)) fun qH =>
 Lb nX rS CJ xw qH oB)) (
 qX gq gR)
noncomputable def I3 (J:JT)(G:GT)(cf:CF)(qX:K.Fn 1):K.Fn 5:=gI P an J G cf 42 [1,1,1,1,1,0,1,0,0] [0,6,38,39,40] (fun q t H=>match Nat.beq q 0 with | true=>app 1 qX (ai [6] t) H | false=>(fun _ _ _=>none) q t H)
theorem ak3 (J:JT)(G:GT)(cf:CF)(qX:K.Fn 1)(Lb:K.Fn 5)(gf gq fN eA ew:AV)(gR:Hp):nI P an J G cf 42 [1,1,1,1,1,0,1,0,0] [0,6,38,39,40] (fun q t H=>match Nat.beq q 0 with | true=>app 1 qX (ai [6] t) H | false=>(fun _ _ _=>none) q t H) Lb [gf,gq,fN,eA,ew] gR=Pd J G cf qX Lb gf gq fN eA ew gR:=by kernel_rfl
theorem aoW (cf:CF)(qX:K.Fn 1)(gf gq fN eA ew:AV)(gR:Hp):I3 JN GO cf qX gf gq fN eA ew gR=Pd JN GO cf qX (I3 JN GO cf qX) gf gq fN eA ew gR:=No (b:=app 5 (I3 JN GO cf qX) [gf,gq,fN,eA,ew] gR) (by kernel_rfl) ((ik cf _ _ _ _ [gf,gq,fN,eA,ew] rfl gR).trans (ak3 JN GO cf qX _ gf gq fN eA ew gR))
noncomputable def Py (J : JT)(G : GT)(cf : CF)(a0 a1 : AV)(H : Hp) : R :=
 J 2 (fun j0 =>
 J 3 (fun j1 =>
 B1 (po .eql (pe a0 .aC H)) fun v2 =>
 G v2 false (fun k3 =>
 k3 a1 H) (fun v4 h5 =>
 G v2 false (fun k6 =>
 B1 (dV v4 (.int .i64 64)) fun v7 =>
 k6 v7 h5) (fun v8 h9 =>
 B1 (pk v2 (.bool true) v8) fun v10 =>
 G v10 false (fun vp =>
 vp a1 h9) (fun v12 fX =>
 G v10 false (fun Ce =>
 B1 (iy v12 (.int .i64 1048576)) fun da =>
 Ce da fX) (fun dD eE =>
 B1 (pk v10 (.bool true) dD) fun dw =>
 j1 a0 a1 dw eE) fX) h9) h5) H) (fun fF eM dk gM =>
 CD dk (
 some (.tuple [.aC, (.int .i64 1)], gM)) (
 j0 fF eM gM))) (fun cD cS dG =>
 B2 (cf (.func (.func 63) [] []) [cD] dG) fun v26 dJ =>
 CD v26 (
 some (.tuple [.aC, (.int .i64 11)], dJ)) (
 J 2 (fun mT =>
 B1 (fl [.aC, (.int .i64 0), .ae, .ae, (.int .i64 0), (.int .i64 0)] [(0, 1, cD), (1, 1, cS)]) fun l29 =>
 BN (bx 147 (.agg l29) dJ) fun i30 fy =>
 mT cD (.ptr i30 0) fy) (fun eD gj jD =>
 J 2 (fun uj =>
 J 3 (fun Dk =>
 B2 (cf (.func (.func 66) [] []) [eD] jD) fun v37 wZ =>
 B2 (cf (.func (.func 65) [] []) [v37] wZ) fun fS jv =>
 B2 (cf (.func (.func 64) [] []) [gj, fS] jv) fun v41 js =>
 Dk eD gj v41 js) (fun gh gF fY qR =>
 B1 (eX fY (.int .i64 0)) fun iR =>
 CD iR (
 some (.tuple [.aC, fY], qR)) (
 uj gh gF qR))) (fun kO jS nw =>
 J 1 (fun Q8 =>
 J 5 (fun A9 =>
 B1 (ag jS) fun v53 =>
 B1 (fa 2 v53) fun jV =>
 B1 (ld jV nw) fun iY =>
 B1 (cJ iY) fun iZ =>
 A9 kO jS iY iZ (.int .i64 0) nw) (fun qa wR B3 qS mQ yR =>
 J 1 (fun qX =>
 I3 J G cf qX qa wR B3 qS mQ yR) (fun x99 S9 =>
 Q8 x99 S9))) (fun B9 tL =>
 J 1 (fun ry =>
 B2 (cf (.func (.func 69) [] []) [B9] tL) fun ug wX =>
 B1 (ag B9) fun wb =>
 B1 (fa 5 wb) fun v107 =>
 B1 (st 1 v107 ug wX) fun yV =>
 ry B9 yV) (fun qh tD =>
 some (.tuple [qh, (.int .i64 0)], tD)))))))
theorem aiw (J:JT)(G:GT)(cf:CF)(a0 a1:AV)(H:Hp):gD P J G aw an cf 42 [a0,a1] H=Py J G cf a0 a1 H:=by kernel_rfl
theorem adT {a0 a1:AV}{H:Hp}{r:AV × Hp}(h:Py JN GO cK a0 a1 H=some r):cK (.func (.func 42) [] []) [a0,a1] H=some r:=aE (first:=[]) (cap:=[]) ((aiw JN GO _ a0 a1 H).trans h)
noncomputable def XU (J : JT)(G : GT)(cf : CF)(a0 : AV)(H : Hp) : R :=
 BN (bx 128 a0 H) fun i0 h1 =>
 BN (cI h1 [(.int .u64 0), .ae] 128 0) fun i2 h3 =>
 B1 (fa 0 (.ptr i0 0)) fun v4 =>
 B1 (ld v4 h3) fun v5 =>
 B1 (fa 1 (.ptr i0 0)) fun v6 =>
 B1 (ld v6 h3) fun v7 =>
 B2 (cf (.func (.func 78) [] []) [v7] h3) fun v8 h9 =>
 B1 (fl [(.int .u64 0), .ae] [(0, 1, v5), (1, 1, v8)]) fun l10 =>
 B1 (st 2 (.ptr i2 0) (.agg l10) h9) fun iv =>
 B1 (ld v4 h9) fun v12 =>
 SM v5 v12 <|
 B1 (af 2 (.ptr i2 0) iv) fun cY =>
 some (cY, iv)
theorem afV {a0:AV}{H:Hp}{r:AV × Hp}(h:XU JN GO cK a0 H=some r):cK (.func (.func 183) [] []) [a0] H=some r:=aE (first:=[]) (cap:=[]) (No (by kernel_rfl) h)
noncomputable def IC (J : JT)(G : GT)(cf : CF)(j4 : K.Fn 1)(j5 : K.Fn 4)(x6 x7 x8 x9 : AV)(cG : Hp) : R :=
 B1 (dV x9 x8) fun v11 =>
 CD v11 (
 J 4 (fun fw =>
 J 4 (fun fg =>
 B1 (ia 1 x7 x9) fun du =>
 B1 (ld du cG) fun da =>
 B1 (yG da (.str [])) fun dD =>
 CD dD (
 B1 (fl [(.str [])] [(0, 1, da)]) fun l17 =>
 BN (cI cG l17 9 0) fun i18 dK =>
 B2 (fZ 9 1 [(.str [])] false x6 (.slice i18 0 1 1 true 1) dK) fun v20 og =>
 fg v20 x7 x8 x9 og) (
 fg x6 x7 x8 x9 cG)) (fun cF cD cS gw nc =>
 fw cF cD cS gw nc)) (fun di dv dm dy fy =>
 B1 (dj dy (.int .i64 1)) fun v32 =>
 j5 di dv dm v32 fy)) (
 j4 x6 cG)
noncomputable def GY (J:JT)(G:GT)(cf:CF)(j4:K.Fn 1):K.Fn 4:=gI P an J G cf 11 [1,1,0,1,0,0] [3,7,8,9] (fun q t H=>match Nat.beq q 0 with | true=>app 1 j4 (ai [3] t) H | false=>(fun _ _ _=>none) q t H)
theorem TC (cf:CF)(j4:K.Fn 1)(x6 x7 x8 x9:AV)(cG:Hp):GY JN GO cf j4 x6 x7 x8 x9 cG=IC JN GO cf j4 (GY JN GO cf j4) x6 x7 x8 x9 cG:=No (b:=app 4 (GY JN GO cf j4) [x6,x7,x8,x9] cG) (by kernel_rfl) ((ik cf 11 [1,1,0,1,0,0] [3,7,8,9] _ [x6,x7,x8,x9] rfl cG).trans (by kernel_rfl))
noncomputable def UF (J : JT)(G : GT)(cf : CF)(a0 : AV)(H : Hp) : R :=
 J 1 (fun j0 =>
 B2 (cf (.func (.func 9) [] []) [a0, (.str [32])] H) fun v1 h2 =>
 B1 (cJ v1) fun v3 =>
 J 1 (fun j4 =>
 GY J G cf j4 .ae v1 v3 (.int .i64 0) h2) (fun gj jD =>
 j0 gj jD)) (fun rn hU =>
 some (rn, hU))
theorem aek {a0:AV}{H:Hp}{r:AV × Hp}(h:UF JN GO cK a0 H=some r):cK (.func (.func 11) [] []) [a0] H=some r:=aE (first:=[]) (cap:=[]) (No (by kernel_rfl) h)
noncomputable def Jz (J : JT)(G : GT)(cf : CF)(a0 : AV)(H : Hp) : R :=
 BN (cI H [(.int .i64 0), (.int .i64 0), (.int .i64 0), (.int .i64 0), (.int .i64 0), (.int .i64 0), (.int .i64 0), (.int .i64 0), (.int .i64 0), (.str []), (.str []), (.str []), .ae, (.str [])] 41 0) fun i0 h1 =>
 J 3 (fun j2 =>
 B1 (ia 1 a0 (.int .i64 0)) fun v3 =>
 B1 (ld v3 h1) fun v4 =>
 B1 (fT 1 a0 (some (.int .i64 1)) none none) fun v5 =>
 j2 v5 (.ptr i0 0) v4 h1) (fun x6 x7 x8 h9 =>
 J 3 (fun qn =>
 J 5 (fun mJ =>
 B1 (seq x8 (.str [116, 111, 108, 100])) fun v12 =>
 CD v12 (
 mJ x6 x7 x8 x8 v12 h9) (
 B1 (seq x8 (.str [104, 105, 115, 116, 111, 114, 121])) fun cY =>
 CD cY (
 mJ x6 x7 x8 x8 cY h9) (
 B1 (seq x8 (.str [114, 101, 103, 105, 115, 116, 101, 114])) fun du =>
 mJ x6 x7 x8 x8 du h9))) (fun df dt eW fL fF dX =>
 CD fF (
 B1 (fl [(.int .i64 0), (.int .i64 0), (.int .i64 0), (.int .i64 0), (.int .i64 0), (.int .i64 0), (.int .i64 0), (.int .i64 0), (.int .i64 0), (.str []), (.str []), (.str []), .ae, (.str [])] [(13, 1, eW)]) fun l21 =>
 B1 (cJ df) fun v22 =>
 B1 (cN v22 (.int .i64 0)) fun v23 =>
 B1 (st 14 dt (.agg l21) dX) fun fR =>
 B1 (af 14 dt fR) fun v25 =>
 some (.tuple [v25, v23], fR)) (
 J 4 (fun tJ =>
 B1 (seq fL (.str [104, 101, 97, 114])) fun v27 =>
 CD v27 (
 tJ df dt eW v27 dX) (
 B1 (seq fL (.str [108, 111, 115, 101])) fun v28 =>
 CD v28 (
 tJ df dt eW v28 dX) (
 B1 (seq fL (.str [116, 119, 105, 99, 101])) fun v29 =>
 tJ df dt eW v29 dX))) (fun dy eY eD gj jD =>
 CD gj (
 J 4 (fun uj =>
 B2 (cf (.func (.func 19) [] []) [dy, (.int .i64 1)] jD) fun v36 kg =>
 B1 (ex 0 v36) fun hY =>
 B1 (ex 1 v36) fun fS =>
 uj eY eD hY fS kg) (fun mc fj fO gh qK =>
 J 3 (fun j45 =>
 J 4 (fun HR =>
 B1 (ie .not gh) fun iR =>
 G iR false (fun Oc =>
 Oc fO qK) (fun v49 nw =>
 G iR false (fun S6 =>
 B1 (cJ v49) fun jg =>
 S6 jg nw) (fun v53 kB =>
 G iR false (fun RV =>
 B1 (eX v53 (.int .i64 1)) fun iZ =>
 RV iZ kB) (fun v57 uL =>
 B1 (pk iR (.bool true) v57) fun v59 =>
 HR mc fj fO v59 uL) kB) nw) qK) (fun qS mQ mj lH pP =>
 CD lH (
 B1 (fl [(.int .i64 0), (.int .i64 0), (.int .i64 0), (.int .i64 0), (.int .i64 0), (.int .i64 0), (.int .i64 0), (.int .i64 0), (.int .i64 0), (.str []), (.str []), (.str []), .ae, (.str [])] []) fun l65 =>
 B1 (st 14 qS (.agg l65) pP) fun kH =>
 B1 (af 14 qS kH) fun Cx =>
 some (.tuple [Cx, (.bool false)], kH)) (
 j45 qS mQ mj pP))) (fun eA ew iM zp =>
 BN (xm zp) fun i72 uz =>
 B1 (kb .str (.map i72) (.str [104, 101, 97, 114]) (.int .i64 2) uz) fun py =>
 B1 (kb .str (.map i72) (.str [108, 111, 115, 101]) (.int .i64 3) py) fun qq =>
 B1 (kb .str (.map i72) (.str [116, 119, 105, 99, 101]) (.int .i64 4) qq) fun nt =>
 B1 (mU .str (.int .i64 0) false (.map i72) ew nt) fun rJ =>
 B1 (ia 1 iM (.int .i64 0)) fun oQ =>
 B1 (ld oQ nt) fun oY =>
 B1 (fl [(.int .i64 0), (.int .i64 0), (.int .i64 0), (.int .i64 0), (.int .i64 0), (.int .i64 0), (.int .i64 0), (.int .i64 0), (.int .i64 0), (.str []), (.str []), (.str []), .ae] [(0, 1, rJ), (2, 1, oY)]) fun l80 =>
 B1 (fl [(.int .i64 0), (.int .i64 0), (.int .i64 0), (.int .i64 0), (.int .i64 0), (.int .i64 0), (.int .i64 0), (.int .i64 0), (.int .i64 0), (.str []), (.str []), (.str []), .ae, (.str [])] [(0, 13, (.agg l80))]) fun l81 =>
 B1 (st 14 eA (.agg l81) nt) fun jT =>
 B1 (ld oQ zp) fun jF =>
 SM oY jF <|
 B1 (ld oQ uz) fun uV =>
 SM oY uV <|
 none))) (
 qn dy eY eD jD))))) (fun iK jc ij qP =>
 J 5 (fun OK =>
 BN (xm qP) fun i90 ki =>
 B1 (kb .str (.map i90) (.str [97, 115, 107]) (.int .i64 0) ki) fun EK =>
 B1 (kb .str (.map i90) (.str [115, 97, 121]) (.int .i64 1) EK) fun xC =>
 B1 (kb .str (.map i90) (.str [100, 111, 119, 110]) (.int .i64 5) xC) fun tS =>
 B1 (kb .str (.map i90) (.str [117, 112]) (.int .i64 6) tS) fun q9 =>
 B1 (kb .str (.map i90) (.str [102, 117, 115, 101]) (.int .i64 7) q9) fun xS =>
 B1 (kb .str (.map i90) (.str [108, 101, 97, 100]) (.int .i64 8) xS) fun oB =>
 B1 (kb .str (.map i90) (.str [97, 108, 111, 110, 101]) (.int .i64 9) oB) fun mZ =>
 B1 (kb .str (.map i90) (.str [98, 111, 116, 104]) (.int .i64 10) mZ) fun yn =>
 B1 (mU .str (.int .i64 0) true (.map i90) ij yn) fun lX =>
 B1 (ex 0 lX) fun nG =>
 B1 (ex 1 lX) fun uy =>
 OK iK jc ij nG uy yn) (fun um uo ng kL lT yV =>
 J 7 (fun aq9 =>
 B2 (cf (.func (.func 20) [] []) [um] yV) fun AE Iu =>
 B1 (ex 0 AE) fun BF =>
 B1 (ex 1 AE) fun Ik =>
 aq9 um uo ng kL lT BF Ik Iu) (fun Fq wN FU M8 qB A4 wC W5 =>
 J 5 (fun agV =>
 J 6 (fun aoY =>
 B1 (ie .not qB) fun v124 =>
 G v124 false (fun arV =>
 arV wC W5) (fun MI JJ =>
 G v124 false (fun ahY =>
 B1 (ie .not MI) fun DO =>
 ahY DO JJ) (fun v130 DG =>
 B1 (pk v124 (.bool true) v130) fun Bj =>
 aoY Fq wN FU M8 A4 Bj DG) JJ) W5) (fun vE x0 D7 xD BR tO xW =>
 CD tO (
 B1 (fl [(.int .i64 0), (.int .i64 0), (.int .i64 0), (.int .i64 0), (.int .i64 0), (.int .i64 0), (.int .i64 0), (.int .i64 0), (.int .i64 0), (.str []), (.str []), (.str []), .ae, (.str [])] []) fun akt =>
 B1 (st 14 x0 (.agg akt) xW) fun A1 =>
 B1 (af 14 x0 A1) fun Gr =>
 some (.tuple [Gr, (.bool false)], A1)) (
 agV vE x0 D7 xD BR xW))) (fun Gh P2 Sc adR QA Ir =>
 J 4 (fun aqq =>
 B1 (fl [(.int .i64 0), (.int .i64 0), (.int .i64 0), (.int .i64 0), (.int .i64 0), (.int .i64 0), (.int .i64 0), (.int .i64 0), (.int .i64 0), (.str []), (.str []), (.str []), .ae] [(0, 1, adR), (1, 1, QA)]) fun afA =>
 B1 (fl [(.int .i64 0), (.int .i64 0), (.int .i64 0), (.int .i64 0), (.int .i64 0), (.int .i64 0), (.int .i64 0), (.int .i64 0), (.int .i64 0), (.str []), (.str []), (.str []), .ae, (.str [])] [(0, 13, (.agg afA))]) fun agW =>
 BN (cI Ir [(.int .i64 0), (.int .i64 0), (.int .i64 0), (.int .i64 0), (.int .i64 0), (.int .i64 0), (.int .i64 0), (.int .i64 0), (.int .i64 0), (.str []), (.str []), (.str []), .ae, (.str [])] 41 0) fun i152 ahP =>
 B1 (st 14 (.ptr i152 0) (.agg agW) ahP) fun ap9 =>
 aqq Gh P2 Sc (.ptr i152 0) ap9) (fun Gy Ay GQ Dc JO =>
 B1 (fT 1 Gy (some (.int .i64 1)) none none) fun v160 =>
 J 3 (fun ahZ =>
 J 3 (fun Gn =>
 B1 (seq GQ (.str [97, 115, 107])) fun LC =>
 CD LC (
 B2 (cf (.func (.func 21) [] []) [v160] JO) fun v164 RB =>
 B1 (ex 0 v164) fun FE =>
 B1 (ex 1 v164) fun v167 =>
 B1 (fa 0 Dc) fun v168 =>
 B1 (fa 3 v168) fun PN =>
 B1 (st 9 PN FE RB) fun La =>
 Gn Ay v167 Dc La) (
 B1 (seq GQ (.str [100, 111, 119, 110])) fun v171 =>
 CD v171 (
 B2 (cf (.func (.func 19) [] []) [v160, (.int .i64 0)] JO) fun abe afm =>
 B1 (ex 0 abe) fun af6 =>
 B1 (ex 1 abe) fun v175 =>
 B1 (fa 0 Dc) fun ajG =>
 B1 (fa 12 ajG) fun aq6 =>
 B1 (st 1 aq6 af6 afm) fun aot =>
 Gn Ay v175 Dc aot) (
 B1 (seq GQ (.str [102, 117, 115, 101])) fun aql =>
 CD aql (
 J 4 (fun aku =>
 B2 (cf (.func (.func 19) [] []) [v160, (.int .i64 1)] JO) fun Mo ahu =>
 B1 (ex 0 Mo) fun v183 =>
 B1 (ex 1 Mo) fun apD =>
 aku Ay apD Dc v183 ahu) (fun J1 DX Kq O7 R6 =>
 CD DX (
 B1 (ia 1 O7 (.int .i64 0)) fun SC =>
 B1 (ld SC R6) fun IL =>
 B1 (fT 1 O7 (some (.int .i64 1)) none none) fun Lm =>
 B1 (fa 0 Kq) fun v193 =>
 B1 (fa 2 v193) fun v194 =>
 B1 (st 1 v194 IL R6) fun arL =>
 B1 (fa 0 Kq) fun v196 =>
 B1 (fa 12 v196) fun N0 =>
 B1 (st 1 N0 Lm arL) fun aeZ =>
 B1 (fT 1 O7 (some (.int .i64 1)) none none) fun afk =>
 SM Lm afk <|
 Gn J1 DX Kq aeZ) (
 Gn J1 DX Kq R6))) (
 B1 (cJ v160) fun adS =>
 B1 (cN adS (.int .i64 0)) fun v201 =>
 Gn Ay v201 Dc JO)))) (fun MF aiP aqY ajj =>
 ahZ MF aiP aqY ajj)) (fun UU art ahS US =>
 B1 (af 14 ahS US) fun v210 =>
 B1 (st 14 UU v210 US) fun Jd =>
 B1 (af 14 UU Jd) fun v212 =>
 some (.tuple [v212, art], Jd))))))))
theorem ahc (J:JT)(G:GT)(cf:CF)(a0:AV)(H:Hp):gD P J G aw an cf 12 [a0] H=Jz J G cf a0 H:=by kernel_rfl
theorem abh {a0:AV}{H:Hp}{r:AV × Hp}(h:Jz JN GO cK a0 H=some r):cK (.func (.func 12) [] []) [a0] H=some r:=aE (first:=[]) (cap:=[]) ((ahc JN GO _ a0 H).trans h)
noncomputable def Tw (J : JT)(G : GT)(cf : CF)(a0 : AV)(H : Hp) : R :=
 J 1 (fun j0 =>
 J 2 (fun j1 =>
 B1 (cJ a0) fun v2 =>
 B1 (cN v2 (.int .i64 0)) fun v3 =>
 G v3 false (fun k4 =>
 k4 a0 H) (fun v5 h6 =>
 G v3 false (fun k7 =>
 B1 (ia 1 v5 (.int .i64 0)) fun v8 =>
 k7 v8 h6) (fun v9 cG =>
 G v3 false (fun vp =>
 B1 (ld v9 cG) fun v12 =>
 vp v12 cG) (fun cY eK =>
 G v3 false (fun Cf =>
 B1 (yG cY (.str [48])) fun dD =>
 Cf dD eK) (fun dc fv =>
 G v3 false (fun CC =>
 CC dc fv) (fun v20 og =>
 G v20 true (fun QJ =>
 QJ a0 og) (fun v23 fR =>
 G v20 true (fun k25 =>
 B1 (ia 1 v23 (.int .i64 0)) fun v26 =>
 k25 v26 fR) (fun v27 jd =>
 G v20 true (fun Hb =>
 B1 (ld v27 jd) fun v30 =>
 Hb v30 jd) (fun v31 ma =>
 G v20 true (fun HI =>
 B1 (yG v31 (.str [49])) fun fI =>
 HI fI ma) (fun v35 hU =>
 G v3 false (fun xQ =>
 B1 (pk v20 v35 (.bool false)) fun hY =>
 xQ hY hU) (fun fS jv =>
 B1 (pk v3 (.bool true) fS) fun v41 =>
 j1 a0 v41 jv) hU) ma) jd) fR) og) fv) eK) cG) h6) H) (fun fO gh qK =>
 CD gh (
 some (.tuple [(.int .i64 0), (.bool false)], qK)) (
 j0 fO qK))) (fun fY qR =>
 B1 (ia 1 fY (.int .i64 0)) fun iR =>
 B1 (ld iR qR) fun iz =>
 B1 (td iz (.int .i64 0)) fun v49 =>
 B1 (jI v49 (.int .u8 48)) fun lU =>
 B1 (cv .i64 lU) fun v51 =>
 some (.tuple [v51, (.bool true)], qR))
theorem akG (J:JT)(G:GT)(cf:CF)(a0:AV)(H:Hp):gD P J G aw an cf 20 [a0] H=Tw J G cf a0 H:=by kernel_rfl
theorem aeG {a0:AV}{H:Hp}{r:AV × Hp}(h:Tw JN GO cK a0 H=some r):cK (.func (.func 20) [] []) [a0] H=some r:=aE (first:=[]) (cap:=[]) ((akG JN GO _ a0 H).trans h)
noncomputable def Yl (J : JT)(G : GT)(cf : CF)(H : Hp) : R :=
 B1 (fl [(.int .i64 0), (.int .i64 0), (.bool false), (.int .i64 0)] [(1, 1, (.int .i64 (-1)))]) fun l0 =>
 B1 (fl [(.int .i64 0), (.int .i64 0), (.bool false), (.int .i64 0)] [(0, 4, (.agg l0))]) fun l1 =>
 BN (cI H l1 97 0) fun i2 h3 =>
 B1 (fl [.ae] [(0, 1, (.slice i2 0 1 1 true 4))]) fun l4 =>
 BN (bx 100 (.agg l4) h3) fun i5 h6 =>
 some ((.ptr i5 0), h6)
theorem afg {H:Hp}{r:AV × Hp}(h:Yl JN GO cK  H=some r):cK (.func (.func 22) [] []) [] H=some r:=aE (first:=[]) (cap:=[]) (No (by kernel_rfl) h)
noncomputable def acp (J : JT)(G : GT)(cf : CF)(a0 : AV)(H : Hp) : R :=
 BN (cI H [(.int .i64 0), (.int .i64 0), (.bool false), (.int .i64 0)] 97 0) fun i0 h1 =>
 B1 (ag a0) fun v2 =>
 B1 (fa 0 v2) fun v3 =>
 B1 (ld v3 h1) fun v4 =>
 B1 (ag a0) fun v5 =>
 B1 (fa 0 v5) fun v6 =>
 B1 (ld v6 h1) fun v7 =>
 B1 (cJ v7) fun v8 =>
 B1 (jI v8 (.int .i64 1)) fun v9 =>
 B1 (ia 4 v4 v9) fun v10 =>
 B1 (af 4 v10 h1) fun v11 =>
 B1 (st 4 (.ptr i0 0) v11 h1) fun eG =>
 B1 (af 4 (.ptr i0 0) eG) fun cY =>
 some (cY, eG)
theorem amR {a0:AV}{H:Hp}{r:AV × Hp}(h:acp JN GO cK a0 H=some r):cK (.func (.func 84) [] []) [a0] H=some r:=aE (first:=[]) (cap:=[]) (No (by kernel_rfl) h)
noncomputable def Yc (J : JT)(G : GT)(cf : CF)(a0 a1 a2 : AV)(H : Hp) : R :=
 BN (bx 97 a1 H) fun i0 h1 =>
 BN (bx 97 a2 h1) fun i2 h3 =>
 J 2 (fun j4 =>
 B2 (cf (.func (.func 84) [] []) [a0] h3) fun v5 h6 =>
 B1 (af 4 (.ptr i0 0) h6) fun v7 =>
 Iw (gA P .neq 97 false v5 v7) <| B1 (kG P .neq 97 v5 v7 h6) fun v8 =>
 B1 (af 4 (.ptr i0 0) h3) fun v9 =>
 SM v7 v9 <|
 CD v8 (
 some ((.bool false), h6)) (
 j4 a0 (.ptr i2 0) h6)) (fun eI fK eG =>
 J 0 (fun fg =>
 B1 (ag eI) fun du =>
 B1 (fa 0 du) fun da =>
 B1 (ld da eG) fun dD =>
 B1 (af 4 fK eG) fun dc =>
 B1 (fl [(.int .i64 0), (.int .i64 0), (.bool false), (.int .i64 0)] [(0, 4, dc)]) fun QX =>
 BN (cI eG QX 97 0) fun i19 dX =>
 B2 (fZ 97 4 [(.int .i64 0), (.int .i64 0), (.bool false), (.int .i64 0)] false dD (.slice i19 0 1 1 true 4) dX) fun v21 gM =>
 B1 (ag eI) fun v23 =>
 B1 (fa 0 v23) fun v24 =>
 B1 (st 1 v24 v21 gM) fun dG =>
 fg  dG) (fun  nc =>
 some ((.bool true), nc)))
theorem apT {a0 a1 a2:AV}{H:Hp}{r:AV × Hp}(h:Yc JN GO cK a0 a1 a2 H=some r):cK (.func (.func 149) [] []) [a0,a1,a2] H=some r:=aE (first:=[]) (cap:=[]) (No (by kernel_rfl) h)
noncomputable def Sx (J : JT)(G : GT)(cf : CF)(a0 a1 : AV)(H : Hp) : R :=
 BN (bx 97 a0 H) fun i0 h1 =>
 BN (cI h1 [(.int .i64 0), (.int .i64 0), (.bool false), (.int .i64 0)] 97 0) fun i2 h3 =>
 J 3 (fun j4 =>
 J 4 (fun j5 =>
 B2 (cf (.func (.func 201) [] []) [a1] h3) fun v6 h7 =>
 B1 (ie .not v6) fun v8 =>
 G v8 false (fun k9 =>
 B1 (fa 2 (.ptr i0 0)) fun v10 =>
 k9 v10 h7) (fun v11 eG =>
 G v8 false (fun vf =>
 B1 (ld v11 eG) fun du =>
 vf du eG) (fun da gJ =>
 G v8 false (fun HY =>
 HY da gJ) (fun dw dK =>
 G dw true (fun FI =>
 FI a1 dK) (fun v21 gM =>
 G dw true (fun Rm =>
 B1 (fa 1 (.ptr i0 0)) fun v24 =>
 Rm v24 gM) (fun v25 nc =>
 G dw true (fun IA =>
 B1 (ld v25 nc) fun v28 =>
 IA v28 nc) (fun v29 jG =>
 G dw true (fun xx =>
 B1 (eX v21 v29) fun v32 =>
 xx v32 jG) (fun v33 jD =>
 G v8 false (fun GB =>
 B1 (pk dw v33 (.bool false)) fun v36 =>
 GB v36 jD) (fun v37 wZ =>
 B1 (pk v8 (.bool true) v37) fun fS =>
 G fS false (fun Hg =>
 B1 (fa 0 (.ptr i0 0)) fun v41 =>
 Hg v41 wZ) (fun ig mV =>
 G fS false (fun Px =>
 B1 (ld ig mV) fun kD =>
 Px kD mV) (fun v46 jk =>
 G fS false (fun Oc =>
 B1 (dV v46 (.int .i64 0)) fun v49 =>
 Oc v49 jk) (fun lU mh =>
 B1 (pk fS (.bool true) lU) fun jg =>
 G jg false (fun k53 =>
 B1 (fa 0 (.ptr i0 0)) fun jV =>
 k53 jV mh) (fun iY kC =>
 G jg false (fun k57 =>
 B1 (ld iY kC) fun hJ =>
 k57 hJ kC) (fun v59 oS =>
 G jg false (fun Nq =>
 B1 (qi v59 (.int .i64 1048575)) fun jr =>
 Nq jr oS) (fun v63 pP =>
 B1 (pk jg (.bool true) v63) fun nU =>
 j5 a1 (.ptr i0 0) (.ptr i2 0) nU pP) oS) kC) mh) jk) mV) wZ) jD) jG) nc) gM) dK) gJ) eG) h7) (fun gq fN eA ew gR =>
 CD ew (
 B1 (fl [(.int .i64 0), (.int .i64 0), (.bool false), (.int .i64 0)] []) fun l71 =>
 B1 (st 4 eA (.agg l71) gR) fun mf =>
 B1 (af 4 eA mf) fun sX =>
 some (.tuple [sX, (.bool false)], mf)) (
 j4 gq fN eA gR))) (fun pY mi lR wE =>
 J 3 (fun P9 =>
 B1 (fa 0 mi) fun oY =>
 B1 (ld oY wE) fun v80 =>
 B1 (dj v80 (.int .i64 1)) fun pf =>
 B1 (fa 0 mi) fun xY =>
 B1 (st 1 xY pf wE) fun PJ =>
 P9 pY mi lR PJ) (fun gU iK jc Rh =>
 B1 (fa 1 iK) fun Hv =>
 B1 (st 1 Hv gU Rh) fun Dt =>
 B1 (af 4 iK Dt) fun vC =>
 B1 (st 4 jc vC Dt) fun ki =>
 B1 (af 4 jc ki) fun vD =>
 some (.tuple [vD, (.bool true)], ki)))
theorem al4 (J:JT)(G:GT)(cf:CF)(a0 a1:AV)(H:Hp):gD P J G aw an cf 148 [a0,a1] H=Sx J G cf a0 a1 H:=by kernel_rfl
theorem aoy {a0 a1:AV}{H:Hp}{r:AV × Hp}(h:Sx JN GO cK a0 a1 H=some r):cK (.func (.func 148) [] []) [a0,a1] H=some r:=aE (first:=[]) (cap:=[]) ((al4 JN GO _ a0 a1 H).trans h)
noncomputable def X4 (J : JT)(G : GT)(cf : CF)(a0 : AV)(H : Hp) : R :=
 B1 (cN a0 (.int .i64 0)) fun v0 =>
 G v0 false (fun k1 =>
 k1 a0 H) (fun v2 h3 =>
 G v0 false (fun k4 =>
 B1 (cN v2 (.int .i64 1)) fun v5 =>
 k4 v5 h3) (fun v6 h7 =>
 B1 (pk v0 (.bool true) v6) fun v8 =>
 some (v8, h7)) h3) H
theorem agM {a0:AV}{H:Hp}{r:AV × Hp}(h:X4 JN GO cK a0 H=some r):cK (.func (.func 201) [] []) [a0] H=some r:=aE (first:=[]) (cap:=[]) (No (by kernel_rfl) h)
noncomputable def RX (J : JT)(G : GT)(cf : CF)(a0 a1 a2 : AV)(H : Hp) : R :=
 BN (cI H [(.int .i64 0), (.int .i64 0), (.int .i64 0), (.int .i64 0)] 114 0) fun i0 h1 =>
 J 4 (fun j2 =>
 J 5 (fun j3 =>
 B1 (eX a0 (.int .i64 0)) fun v4 =>
 G v4 true (fun k5 =>
 k5 a0 h1) (fun v6 h7 =>
 G v4 true (fun k8 =>
 B1 (eX v6 (.int .i64 1)) fun v9 =>
 k8 v9 h7) (fun v10 iv =>
 B1 (pk v4 v10 (.bool false)) fun v12 =>
 G v12 false (fun vf =>
 vf a1 iv) (fun du fU =>
 G v12 false (fun yd =>
 B1 (dV du (.int .i64 1)) fun dc =>
 yd dc fU) (fun dw dK =>
 B1 (pk v12 (.bool true) dw) fun v20 =>
 G v20 false (fun ym =>
 ym a1 dK) (fun v22 eZ =>
 G v20 false (fun yx =>
 B1 (iy v22 (.int .i64 1048575)) fun v25 =>
 yx v25 eZ) (fun v26 dJ =>
 B1 (pk v20 (.bool true) v26) fun v28 =>
 G v28 false (fun Hb =>
 Hb a2 dJ) (fun v30 fy =>
 G v28 false (fun k32 =>
 B1 (dV v30 (.int .i64 0)) fun v33 =>
 k32 v33 fy) (fun fI pg =>
 B1 (pk v28 (.bool true) fI) fun v36 =>
 G v36 false (fun xQ =>
 xQ a2 pg) (fun hY mo =>
 G v36 false (fun Hg =>
 B1 (iy hY (.int .i64 17592186044415)) fun v41 =>
 Hg v41 mo) (fun ig mV =>
 B1 (pk v36 (.bool true) ig) fun v44 =>
 j3 a0 a1 a2 (.ptr i0 0) v44 mV) mo) pg) fy) dJ) eZ) dK) fU) iv) h7) h1) (fun fY fV jZ kO jS nw =>
 CD jS (
 B1 (fl [(.int .i64 0), (.int .i64 0), (.int .i64 0), (.int .i64 0)] []) fun l51 =>
 B1 (st 4 kO (.agg l51) nw) fun mg =>
 B1 (af 4 kO mg) fun v53 =>
 some (.tuple [v53, (.int .i64 1)], mg)) (
 j2 fY fV jZ kO nw))) (fun my lq qQ qa uL =>
 B1 (fl [(.int .i64 0), (.int .i64 0), (.int .i64 0), (.int .i64 0)] [(0, 1, my), (1, 1, lq), (2, 1, qQ)]) fun l59 =>
 B1 (st 4 qa (.agg l59) uL) fun oS =>
 B1 (af 4 qa oS) fun ll =>
 some (.tuple [ll, (.int .i64 0)], oS))
theorem aob (J:JT)(G:GT)(cf:CF)(a0 a1 a2:AV)(H:Hp):gD P J G aw an cf 153 [a0,a1,a2] H=RX J G cf a0 a1 a2 H:=by kernel_rfl
theorem adW {a0 a1 a2:AV}{H:Hp}{r:AV × Hp}(h:RX JN GO cK a0 a1 a2 H=some r):cK (.func (.func 153) [] []) [a0,a1,a2] H=some r:=aE (first:=[]) (cap:=[]) ((aob JN GO _ a0 a1 a2 H).trans h)
noncomputable def Z5 (J : JT)(G : GT)(cf : CF)(a0 a1 a2 : AV)(H : Hp) : R :=
 BN (bx 114 a0 H) fun i0 h1 =>
 CD a2 (
 some (a1, h1)) (
 B1 (fa 3 (.ptr i0 0)) fun v2 =>
 B1 (ld v2 h1) fun v3 =>
 B2 (eP P .min #[2, 2] [a1, v3] h1) fun v4 h5 =>
 some (v4, h5))
theorem arj {a0 a1 a2:AV}{H:Hp}{r:AV × Hp}(h:Z5 JN GO cK a0 a1 a2 H=some r):cK (.func (.func 158) [] []) [a0,a1,a2] H=some r:=aE (first:=[]) (cap:=[]) (No (by kernel_rfl) h)
noncomputable def Wd (J : JT)(G : GT)(cf : CF)(H : Hp) : R :=
 B1 (fl [.ae] []) fun l0 =>
 BN (bx 103 (.agg l0) H) fun i1 h2 =>
 some ((.ptr i1 0), h2)
theorem adv {H:Hp}{r:AV × Hp}(h:Wd JN GO cK  H=some r):cK (.func (.func 23) [] []) [] H=some r:=aE (first:=[]) (cap:=[]) (No (by kernel_rfl) h)
noncomputable def UA (J : JT)(G : GT)(cf : CF)(a0 : AV)(H : Hp) : R :=
 B2 (eP P .max #[3, 3] [a0, (.int .i64 1)] H) fun v0 h1 =>
 B2 (eP P .min #[3, 3] [v0, (.int .i64 128)] h1) fun v2 h3 =>
 BN (xm h3) fun i4 h5 =>
 B1 (fl [(.int .i64 0), .iF, .ae] [(0, 1, v2), (1, 1, (.map i4))]) fun l6 =>
 BN (bx 418 (.agg l6) h5) fun i7 h8 =>
 some ((.ptr i7 0), h8)
theorem ahv {a0:AV}{H:Hp}{r:AV × Hp}(h:UA JN GO cK a0 H=some r):cK (.func (.func 312) [] []) [a0] H=some r:=aE (first:=[]) (cap:=[]) (No (by kernel_rfl) h)
noncomputable def Ml (J : JT)(G : GT)(cf : CF)(iC : K.Fn 1)(DF : K.Fn 3)(cF cD cS : AV)(dG : Hp) : R :=
 B2 (pW cS true dG) fun v26 dJ =>
 B1 (ex 0 v26) fun v28 =>
 CD v28 (
 J 3 (fun ye =>
 B1 (ex 2 v26) fun v30 =>
 J 3 (fun nJ =>
 B1 (cN v30 (.int .i32 82)) fun v32 =>
 CD v32 (
 B1 (fa 1 cF) fun v33 =>
 B1 (ld v33 dJ) fun fI =>
 B1 (cv .u64 fI) fun v35 =>
 B2 (cf (.func (.func 202) [] []) [cD, v35] dJ) fun v36 kg =>
 nJ cF cD cS kg) (
 B1 (cN v30 (.int .i32 84)) fun hY =>
 CD hY (
 B1 (fa 2 cF) fun fS =>
 B1 (ld fS dJ) fun v40 =>
 B1 (cv .u64 v40) fun v41 =>
 B2 (cf (.func (.func 202) [] []) [cD, v41] dJ) fun ig mV =>
 nJ cF cD cS mV) (
 B1 (cN v30 (.int .i32 89)) fun v44 =>
 CD v44 (
 B1 (fa 3 cF) fun kD =>
 B1 (ld kD dJ) fun v46 =>
 B1 (cv .u64 v46) fun iR =>
 B2 (cf (.func (.func 202) [] []) [cD, iR] dJ) fun iz lD =>
 nJ cF cD cS lD) (
 B1 (cN v30 (.int .i32 78)) fun lU =>
 CD lU (
 B1 (fa 4 cF) fun v51 =>
 B1 (ld v51 dJ) fun jg =>
 B1 (cv .u64 jg) fun v53 =>
 B2 (cf (.func (.func 202) [] []) [cD, v53] dJ) fun jV AB =>
 nJ cF cD cS AB) (
 B1 (cN v30 (.int .i32 77)) fun iZ =>
 CD iZ (
 B1 (fa 5 cF) fun v57 =>
 B1 (ld v57 dJ) fun hJ =>
 B2 (cf (.func (.func 255) [] []) [cD, hJ] dJ) fun v59 oS =>
 nJ cF cD cS oS) (
 B1 (cN v30 (.int .i32 75)) fun ll =>
 CD ll (
 B1 (fa 6 cF) fun jr =>
 B1 (ld jr dJ) fun v63 =>
 B2 (cf (.func (.func 255) [] []) [cD, v63] dJ) fun v64 tk =>
 nJ cF cD cS tk) (
 B1 (cN v30 (.int .i32 68)) fun mr =>
 CD mr (
 B1 (fa 7 cF) fun Cx =>
 B1 (ld Cx dJ) fun qo =>
 B2 (cf (.func (.func 255) [] []) [cD, qo] dJ) fun pG gR =>
 nJ cF cD cS gR) (
 nJ cF cD cS dJ)))))))) (fun gY mq jO py =>
 ye gY mq jO py)) (fun mi lR jt qJ =>
 DF mi lR jt qJ)) (
 iC cD dJ)
noncomputable def I4 (J:JT)(G:GT)(cf:CF)(iC:K.Fn 1):K.Fn 3:=gI P an J G cf 208 [1,1,1,1,0,1,0,0] [1,3,16] (fun q t H=>match Nat.beq q 0 with | true=>app 1 iC (ai [3] t) H | false=>(fun _ _ _=>none) q t H)
theorem apz (J:JT)(G:GT)(cf:CF)(iC:K.Fn 1)(DF:K.Fn 3)(cF cD cS:AV)(dG:Hp):nI P an J G cf 208 [1,1,1,1,0,1,0,0] [1,3,16] (fun q t H=>match Nat.beq q 0 with | true=>app 1 iC (ai [3] t) H | false=>(fun _ _ _=>none) q t H) DF [cF,cD,cS] dG=Ml J G cf iC DF cF cD cS dG:=by kernel_rfl
theorem UG (cf:CF)(iC:K.Fn 1)(cF cD cS:AV)(dG:Hp):I4 JN GO cf iC cF cD cS dG=Ml JN GO cf iC (I4 JN GO cf iC) cF cD cS dG:=No (b:=app 3 (I4 JN GO cf iC) [cF,cD,cS] dG) (by kernel_rfl) ((ik cf _ _ _ _ [cF,cD,cS] rfl dG).trans (apz JN GO cf iC _ cF cD cS dG))
noncomputable def Tu (J : JT)(G : GT)(cf : CF)(a0 : AV)(H : Hp) : R :=
 BN (bx 130 a0 H) fun i0 h1 =>
 B1 (af 8 (.ptr i0 0) h1) fun v2 =>
 B2 (cf (.func (.func 82) [] []) [v2] h1) fun v3 h4 =>
 B1 (ie .not v3) fun v5 =>
 CD v5 (
 some (.ae, h4)) (
 BN (cI h4 [.ae] 282 0) fun i6 h7 =>
 B1 (fa 0 (.ptr i0 0)) fun v8 =>
 B1 (ld v8 h7) fun v9 =>
 B1 (cv .u64 v9) fun v10 =>
 B2 (cf (.func (.func 202) [] []) [(.ptr i6 0), v10] h7) fun v11 eG =>
 J 1 (fun fg =>
 B1 (fa 0 (.ptr i0 0)) fun du =>
 B1 (ld du eG) fun da =>
 B2 (cf (.func (.func 80) [] []) [da] eG) fun dD eE =>
 B2 (sd P 9 dD eE) fun dw dK =>
 J 1 (fun iC =>
 I4 J G cf iC (.ptr i0 0) (.ptr i6 0) dw dK) (fun Cj Tq =>
 fg Cj Tq)) (fun sB jT =>
 B1 (fa 0 sB) fun jF =>
 B1 (ld jF jT) fun uV =>
 some (uV, jT)))
theorem apE (J:JT)(G:GT)(cf:CF)(a0:AV)(H:Hp):gD P J G aw an cf 208 [a0] H=Tu J G cf a0 H:=by kernel_rfl
theorem ajc {a0:AV}{H:Hp}{r:AV × Hp}(h:Tu JN GO cK a0 H=some r):cK (.func (.func 208) [] []) [a0] H=some r:=aE (first:=[]) (cap:=[]) ((apE JN GO _ a0 H).trans h)
noncomputable def IQ (J : JT)(G : GT)(cf : CF)(mw : K.Fn 3)(tJ : K.Fn 4)(di dv dm dy : AV)(fy : Hp) : R :=
 B2 (pW dy true fy) fun v32 fD =>
 B1 (ex 0 v32) fun fI =>
 CD fI (
 J 4 (fun uj =>
 B1 (ex 2 v32) fun v36 =>
 J 4 (fun od =>
 B1 (cN v36 (.int .i32 82)) fun hY =>
 CD hY (
 B2 (cf (.func (.func 79) [] []) [dv, (.int .u64 64)] fD) fun fS jv =>
 B1 (fa 1 dm) fun v41 =>
 B1 (st 1 v41 fS jv) fun js =>
 od di dv dm dy js) (
 B1 (cN v36 (.int .i32 84)) fun kq =>
 CD kq (
 B2 (cf (.func (.func 79) [] []) [dv, (.int .u64 16)] fD) fun v44 ju =>
 B1 (fa 2 dm) fun v46 =>
 B1 (st 1 v46 v44 ju) fun jk =>
 od di dv dm dy jk) (
 B1 (cN v36 (.int .i32 89)) fun iz =>
 CD iz (
 B2 (cf (.func (.func 79) [] []) [dv, (.int .u64 9)] fD) fun v49 nw =>
 B1 (fa 3 dm) fun v51 =>
 B1 (st 1 v51 v49 nw) fun mg =>
 od di dv dm dy mg) (
 B1 (cN v36 (.int .i32 78)) fun v53 =>
 CD v53 (
 B2 (cf (.func (.func 72) [] []) [dv] fD) fun jV AB =>
 B2 (eP P .min #[125, 125] [jV, (.int .u64 1099511627777)] AB) fun iZ kP =>
 B1 (cv .i64 iZ) fun hJ =>
 B1 (fa 4 dm) fun v59 =>
 B1 (st 1 v59 hJ kP) fun oS =>
 od di dv dm dy oS) (
 B1 (cN v36 (.int .i32 77)) fun ll =>
 CD ll (
 B2 (cf (.func (.func 81) [] []) [dv, (.int .i64 16)] fD) fun jr h63 =>
 B1 (fa 5 dm) fun v64 =>
 B1 (st 1 v64 jr h63) fun tk =>
 od di dv dm dy tk) (
 B1 (cN v36 (.int .i32 75)) fun mr =>
 CD mr (
 B2 (cf (.func (.func 81) [] []) [dv, (.int .i64 16)] fD) fun Cx GI =>
 B1 (fa 6 dm) fun pG =>
 B1 (st 1 pG Cx GI) fun gR =>
 od di dv dm dy gR) (
 B1 (cN v36 (.int .i32 68)) fun ml =>
 CD ml (
 B2 (cf (.func (.func 81) [] []) [dv, (.int .i64 900)] fD) fun v72 uz =>
 B1 (fa 7 dm) fun rT =>
 B1 (st 1 rT v72 uz) fun qq =>
 od di dv dm dy qq) (
 od di dv dm dy fD)))))))) (fun lR jt mL Cj Tq =>
 uj lR jt mL Cj Tq)) (fun sB oZ nQ gU BV =>
 tJ sB oZ nQ gU BV)) (
 mw di dv dm fD)
noncomputable def Lh (J:JT)(G:GT)(cf:CF)(mw:K.Fn 3):K.Fn 4:=gI P an J G cf 49 [1,1,1,0,1,0,0] [2,4,5,16] (fun q t H=>match Nat.beq q 0 with | true=>app 3 mw (ai [2,4,5] t) H | false=>(fun _ _ _=>none) q t H)
theorem adX (J:JT)(G:GT)(cf:CF)(mw:K.Fn 3)(tJ:K.Fn 4)(di dv dm dy:AV)(fy:Hp):nI P an J G cf 49 [1,1,1,0,1,0,0] [2,4,5,16] (fun q t H=>match Nat.beq q 0 with | true=>app 3 mw (ai [2,4,5] t) H | false=>(fun _ _ _=>none) q t H) tJ [di,dv,dm,dy] fy=IQ J G cf mw tJ di dv dm dy fy:=by kernel_rfl
theorem aaj (cf:CF)(mw:K.Fn 3)(di dv dm dy:AV)(fy:Hp):Lh JN GO cf mw di dv dm dy fy=IQ JN GO cf mw (Lh JN GO cf mw) di dv dm dy fy:=No (b:=app 4 (Lh JN GO cf mw) [di,dv,dm,dy] fy) (by kernel_rfl) ((ik cf _ _ _ _ [di,dv,dm,dy] rfl fy).trans (adX JN GO cf mw _ di dv dm dy fy))
noncomputable def NG (J : JT)(G : GT)(cf : CF)(a0 : AV)(H : Hp) : R :=
 BN (cI H [(.int .i64 0), (.int .i64 0), (.int .i64 0), (.int .i64 0), (.int .i64 0), (.str []), (.str []), (.str [])] 130 0) fun i0 h1 =>
 J 2 (fun j2 =>
 B2 (cf (.func (.func 78) [] []) [a0] h1) fun v3 h4 =>
 B1 (fl [.ae, (.bool false)] [(0, 1, v3)]) fun l5 =>
 BN (cI h4 [.ae, (.bool false)] 158 0) fun i6 h7 =>
 B1 (st 2 (.ptr i6 0) (.agg l5) h7) fun h8 =>
 j2 (.ptr i0 0) (.ptr i6 0) h8) (fun x9 eI iv =>
 B2 (cf (.func (.func 79) [] []) [eI, (.int .u64 9)] iv) fun v12 fX =>
 B1 (fl [(.int .i64 0), (.int .i64 0), (.int .i64 0), (.int .i64 0), (.int .i64 0), (.str []), (.str []), (.str [])] [(0, 1, v12)]) fun l14 =>
 BN (cI fX [(.int .i64 0), (.int .i64 0), (.int .i64 0), (.int .i64 0), (.int .i64 0), (.str []), (.str []), (.str [])] 130 0) fun i15 gJ =>
 B1 (st 8 (.ptr i15 0) (.agg l14) gJ) fun eE =>
 J 3 (fun hO =>
 B1 (fa 0 (.ptr i15 0)) fun eu =>
 B1 (ld eu eE) fun v20 =>
 B2 (cf (.func (.func 80) [] []) [v20] eE) fun v21 gM =>
 B2 (sd P 9 v21 gM) fun v23 fR =>
 J 3 (fun mw =>
 Lh J G cf mw x9 eI (.ptr i15 0) v23 fR) (fun jc ij kA Dt =>
 hO jc ij kA Dt)) (fun jj sK nX xC =>
 J 2 (fun j94 =>
 J 3 (fun P4 =>
 B2 (cf (.func (.func 73) [] []) [sK] xC) fun uN oB =>
 B1 (ie .not uN) fun qH =>
 G qH false (fun Qh =>
 B1 (af 8 nX oB) fun lX =>
 Qh lX oB) (fun nG tL =>
 G qH false (fun Om =>
 B2 (cf (.func (.func 82) [] []) [nG] tL) fun ug wX =>
 Om ug wX) (fun wb Dm =>
 G qH false (fun afd =>
 B1 (ie .not wb) fun v109 =>
 afd v109 Dm) (fun AE Iu =>
 B1 (pk qH (.bool true) AE) fun BF =>
 P4 jj nX BF Iu) Dm) tL) oB) (fun AM Fq wN p6 =>
 CD wN (
 B1 (fl [(.int .i64 0), (.int .i64 0), (.int .i64 0), (.int .i64 0), (.int .i64 0), (.str []), (.str []), (.str [])] []) fun ajP =>
 B1 (st 8 AM (.agg ajP) p6) fun Jc =>
 B1 (af 8 AM Jc) fun zS =>
 some (.tuple [zS, (.int .i64 2)], Jc)) (
 j94 AM Fq p6))) (fun wC Bo qM =>
 B1 (af 8 Bo qM) fun rU =>
 B1 (st 8 wC rU qM) fun Kw =>
 B1 (af 8 wC Kw) fun Co =>
 some (.tuple [Co, (.int .i64 0)], Kw))))
theorem alX (J:JT)(G:GT)(cf:CF)(a0:AV)(H:Hp):gD P J G aw an cf 49 [a0] H=NG J G cf a0 H:=by kernel_rfl
theorem amZ {a0:AV}{H:Hp}{r:AV × Hp}(h:NG JN GO cK a0 H=some r):cK (.func (.func 49) [] []) [a0] H=some r:=aE (first:=[]) (cap:=[]) ((alX JN GO _ a0 H).trans h)
noncomputable def Yz (J : JT)(G : GT)(cf : CF)(a0 : AV)(H : Hp) : R :=
 BN (bx 130 a0 H) fun i0 h1 =>
 B1 (fa 0 (.ptr i0 0)) fun v2 =>
 B1 (ld v2 h1) fun v3 =>
 B2 (cf (.func (.func 80) [] []) [v3] h1) fun v4 h5 =>
 B1 (yG v4 (.str [])) fun v6 =>
 uE v6 true (
 B1 (af 8 (.ptr i0 0) h5) fun v7 =>
 B2 (cf (.func (.func 131) [] []) [v7, v4] h5) fun v8 h9 =>
 B1 (af 8 (.ptr i0 0) h9) fun v10 =>
 Iw (gA P .eql 130 false v8 v10) <| B1 (kG P .eql 130 v8 v10 h9) fun v11 =>
 uE v11 true (
 B2 (cf (.func (.func 132) [] []) [v4, (.func (.func 133) [] [(.ptr i0 0)])] h9) fun v12 fX =>
 B1 (ie .not v12) fun du =>
 B1 (af 8 (.ptr i0 0) h5) fun da =>
 SM v10 da <|
 some (du, fX)) (
 B1 (af 8 (.ptr i0 0) h5) fun dD =>
 SM v10 dD <|
 some ((.bool false), h9))) (
 some ((.bool false), h5))
theorem ajR {a0:AV}{H:Hp}{r:AV × Hp}(h:Yz JN GO cK a0 H=some r):cK (.func (.func 82) [] []) [a0] H=some r:=aE (first:=[]) (cap:=[]) (No (by kernel_rfl) h)
noncomputable def aam (J : JT)(G : GT)(cf : CF)(a0 : AV)(H : Hp) : R :=
 J 0 (fun j0 =>
 B1 (cN a0 (.int .i64 1)) fun v1 =>
 CD v1 (
 some ((.str [77, 68]), H)) (
 B1 (cN a0 (.int .i64 2)) fun v2 =>
 CD v2 (
 some ((.str [82, 77, 75]), H)) (
 J 2 (fun j3 =>
 B1 (cN a0 (.int .i64 3)) fun v4 =>
 CD v4 (
 j3 a0 v4 H) (
 B1 (cN a0 (.int .i64 5)) fun v5 =>
 j3 a0 v5 H)) (fun x6 x7 h8 =>
 CD x7 (
 some ((.str [82, 84, 89]), h8)) (
 B1 (cN x6 (.int .i64 4)) fun v9 =>
 CD v9 (
 some ((.str [82, 84, 89, 68]), h8)) (
 J 2 (fun qn =>
 B1 (cN x6 (.int .i64 6)) fun v11 =>
 CD v11 (
 qn x6 v11 h8) (
 B1 (cN x6 (.int .i64 9)) fun v12 =>
 qn x6 v12 h8)) (fun iu eH fU =>
 CD eH (
 some ((.str [78]), fU)) (
 B1 (cN iu (.int .i64 7)) fun dD =>
 CD dD (
 some ((.str [82, 77]), fU)) (
 B1 (cN iu (.int .i64 8)) fun dc =>
 CD dc (
 some ((.str [82]), fU)) (
 j0  fU)))))))))) (fun  fv =>
 some ((.str []), fv))
theorem adx {a0:AV}{H:Hp}{r:AV × Hp}(h:aam JN GO cK a0 H=some r):cK (.func (.func 80) [] []) [a0] H=some r:=aE (first:=[]) (cap:=[]) (No (by kernel_rfl) h)
noncomputable def Kk (J : JT)(G : GT)(cf : CF)(iS : K.Fn 2)(iC : K.Fn 4)(dk cF cD cS : AV)(dG : Hp) : R :=
 B2 (pW cS true dG) fun v26 dJ =>
 B1 (ex 0 v26) fun v28 =>
 CD v28 (
 J 4 (fun ye =>
 B1 (ex 2 v26) fun v30 =>
 J 4 (fun nJ =>
 B1 (cN v30 (.int .i32 82)) fun v32 =>
 CD v32 (
 B1 (fa 1 dk) fun v33 =>
 B1 (ld v33 dJ) fun fI =>
 B1 (fa 1 cD) fun v35 =>
 B1 (st 1 v35 fI dJ) fun hU =>
 nJ dk cF cD cS hU) (
 B1 (cN v30 (.int .i32 84)) fun v37 =>
 CD v37 (
 B1 (fa 2 dk) fun hY =>
 B1 (ld hY dJ) fun fS =>
 B1 (fa 2 cD) fun v40 =>
 B1 (st 1 v40 fS dJ) fun sI =>
 nJ dk cF cD cS sI) (
 B1 (cN v30 (.int .i32 89)) fun ig =>
 CD ig (
 B1 (fa 3 dk) fun kq =>
 B1 (ld kq dJ) fun v44 =>
 B1 (fa 3 cD) fun kD =>
 B1 (st 1 kD v44 dJ) fun qR =>
 nJ dk cF cD cS qR) (
 B1 (cN v30 (.int .i32 78)) fun iR =>
 CD iR (
 B1 (fa 4 dk) fun iz =>
 B1 (ld iz dJ) fun v49 =>
 B1 (fa 4 cD) fun lU =>
 B1 (st 1 lU v49 dJ) fun mh =>
 nJ dk cF cD cS mh) (
 B1 (cN v30 (.int .i32 77)) fun jg =>
 CD jg (
 B1 (fa 5 dk) fun v53 =>
 B1 (ld v53 dJ) fun jV =>
 B1 (fa 5 cD) fun iY =>
 B1 (st 1 iY jV dJ) fun kC =>
 nJ dk cF cD cS kC) (
 B1 (cN v30 (.int .i32 75)) fun v57 =>
 CD v57 (
 B1 (fa 6 dk) fun hJ =>
 B1 (ld hJ dJ) fun v59 =>
 B1 (fa 6 cD) fun ku =>
 B1 (st 1 ku v59 dJ) fun Bb =>
 nJ dk cF cD cS Bb) (
 B1 (cN v30 (.int .i32 68)) fun jr =>
 CD jr (
 B1 (fa 7 dk) fun v63 =>
 B1 (ld v63 dJ) fun v64 =>
 B1 (fa 7 cD) fun nU =>
 B1 (st 1 nU v64 dJ) fun kH =>
 nJ dk cF cD cS kH) (
 nJ dk cF cD cS dJ)))))))) (fun fN eA ew iM zp =>
 ye fN eA ew iM zp)) (fun mq jO pY mi nt =>
 iC mq jO pY mi nt)) (
 iS cF cD dJ)
noncomputable def K4 (J:JT)(G:GT)(cf:CF)(iS:K.Fn 2):K.Fn 4:=gI P an J G cf 131 [1,1,0,1,0,0] [2,4,5,12] (fun q t H=>match Nat.beq q 0 with | true=>app 2 iS (ai [4,5] t) H | false=>(fun _ _ _=>none) q t H)
theorem acU (J:JT)(G:GT)(cf:CF)(iS:K.Fn 2)(iC:K.Fn 4)(dk cF cD cS:AV)(dG:Hp):nI P an J G cf 131 [1,1,0,1,0,0] [2,4,5,12] (fun q t H=>match Nat.beq q 0 with | true=>app 2 iS (ai [4,5] t) H | false=>(fun _ _ _=>none) q t H) iC [dk,cF,cD,cS] dG=Kk J G cf iS iC dk cF cD cS dG:=by kernel_rfl
theorem abw (cf:CF)(iS:K.Fn 2)(dk cF cD cS:AV)(dG:Hp):K4 JN GO cf iS dk cF cD cS dG=Kk JN GO cf iS (K4 JN GO cf iS) dk cF cD cS dG:=No (b:=app 4 (K4 JN GO cf iS) [dk,cF,cD,cS] dG) (by kernel_rfl) ((ik cf _ _ _ _ [dk,cF,cD,cS] rfl dG).trans (acU JN GO cf iS _ dk cF cD cS dG))
noncomputable def RU (J : JT)(G : GT)(cf : CF)(a0 a1 : AV)(H : Hp) : R :=
 BN (bx 130 a0 H) fun i0 h1 =>
 BN (cI h1 [(.int .i64 0), (.int .i64 0), (.int .i64 0), (.int .i64 0), (.int .i64 0), (.str []), (.str []), (.str [])] 130 0) fun i2 h3 =>
 J 4 (fun j4 =>
 B1 (fa 0 (.ptr i0 0)) fun v5 =>
 B1 (ld v5 h3) fun v6 =>
 B1 (fl [(.int .i64 0), (.int .i64 0), (.int .i64 0), (.int .i64 0), (.int .i64 0), (.str []), (.str []), (.str [])] [(0, 1, v6)]) fun l7 =>
 BN (cI h3 [(.int .i64 0), (.int .i64 0), (.int .i64 0), (.int .i64 0), (.int .i64 0), (.str []), (.str []), (.str [])] 130 0) fun i8 h9 =>
 B1 (st 8 (.ptr i8 0) (.agg l7) h9) fun cG =>
 j4 a1 (.ptr i0 0) (.ptr i2 0) (.ptr i8 0) cG) (fun fK eV iu eH fU =>
 J 2 (fun vk =>
 B2 (sd P 9 fK fU) fun dc fv =>
 J 2 (fun iS =>
 K4 J G cf iS eV iu eH dc fv) (fun jt mL kY =>
 vk jt mL kY)) (fun xN sB jT =>
 B1 (af 8 sB jT) fun jF =>
 B1 (st 8 xN jF jT) fun AY =>
 B1 (af 8 xN AY) fun v85 =>
 some (v85, AY)))
theorem ak7 (J:JT)(G:GT)(cf:CF)(a0 a1:AV)(H:Hp):gD P J G aw an cf 131 [a0,a1] H=RU J G cf a0 a1 H:=by kernel_rfl
theorem aiu {a0 a1:AV}{H:Hp}{r:AV × Hp}(h:RU JN GO cK a0 a1 H=some r):cK (.func (.func 131) [] []) [a0,a1] H=some r:=aE (first:=[]) (cap:=[]) ((ak7 JN GO _ a0 a1 H).trans h)
noncomputable def Sj (J : JT)(G : GT)(cf : CF)(a0 a1 : AV)(H : Hp) : R :=
 BN (bx 130 a0 H) fun i0 h1 =>
 J 1 (fun j2 =>
 B1 (cN a1 (.int .i32 82)) fun v3 =>
 CD v3 (
 B1 (fa 1 (.ptr i0 0)) fun v4 =>
 B1 (ld v4 h1) fun v5 =>
 B2 (cf (.func (.func 185) [] []) [v5, (.int .i64 1), (.int .i64 64)] h1) fun v6 h7 =>
 some (v6, h7)) (
 B1 (cN a1 (.int .i32 84)) fun v8 =>
 CD v8 (
 B1 (fa 2 (.ptr i0 0)) fun v9 =>
 B1 (ld v9 h1) fun v10 =>
 B2 (cf (.func (.func 185) [] []) [v10, (.int .i64 0), (.int .i64 15)] h1) fun v11 eG =>
 some (v11, eG)) (
 B1 (cN a1 (.int .i32 89)) fun cY =>
 CD cY (
 B1 (fa 3 (.ptr i0 0)) fun du =>
 B1 (ld du h1) fun da =>
 B2 (cf (.func (.func 185) [] []) [da, (.int .i64 1), (.int .i64 9)] h1) fun dD eE =>
 some (dD, eE)) (
 B1 (cN a1 (.int .i32 78)) fun dw =>
 CD dw (
 J 2 (fun iS =>
 B1 (fa 0 (.ptr i0 0)) fun v20 =>
 B1 (ld v20 h1) fun v21 =>
 B1 (cN v21 (.int .i64 9)) fun v22 =>
 CD v22 (
 iS (.ptr i0 0) (.int .i64 1048575) h1) (
 iS (.ptr i0 0) (.int .i64 1099511627776) h1)) (fun cD cS dG =>
 B1 (fa 4 cD) fun v26 =>
 B1 (ld v26 dG) fun v27 =>
 B1 (qi v27 (.int .i64 1)) fun v28 =>
 G v28 true (fun Hb =>
 B1 (fa 4 cD) fun v30 =>
 Hb v30 dG) (fun v31 ma =>
 G v28 true (fun HI =>
 B1 (ld v31 ma) fun fI =>
 HI fI ma) (fun v35 hU =>
 G v28 true (fun xQ =>
 xQ cS hU) (fun hY mo =>
 G v28 true (fun Hg =>
 B1 (sL v35 hY) fun v41 =>
 Hg v41 mo) (fun ig mV =>
 B1 (pk v28 ig (.bool false)) fun v44 =>
 some (v44, mV)) mo) hU) ma) dG)) (
 B1 (cN a1 (.int .i32 77)) fun kD =>
 CD kD (
 B1 (fa 5 (.ptr i0 0)) fun v46 =>
 B1 (ld v46 h1) fun iR =>
 B2 (cf (.func (.func 186) [] []) [iR] h1) fun iz lD =>
 some (iz, lD)) (
 B1 (cN a1 (.int .i32 75)) fun lU =>
 CD lU (
 B1 (fa 6 (.ptr i0 0)) fun v51 =>
 B1 (ld v51 h1) fun jg =>
 B1 (lens jg) fun v53 =>
 B1 (sL v53 (.int .i64 16)) fun jV =>
 some (jV, h1)) (
 j2 (.ptr i0 0) h1))))))) (fun lq kC =>
 J 1 (fun Bg =>
 B1 (fa 0 lq) fun hJ =>
 B1 (ld hJ kC) fun v59 =>
 B1 (cN v59 (.int .i64 1)) fun ku =>
 CD ku (
 B1 (fa 7 lq) fun ll =>
 B1 (ld ll kC) fun jr =>
 B1 (lens jr) fun v63 =>
 B1 (sL v63 (.int .i64 900)) fun v64 =>
 some (v64, kC)) (
 Bg lq kC)) (fun gf kH =>
 B1 (fa 7 gf) fun Cx =>
 B1 (ld Cx kH) fun qo =>
 B1 (lens qo) fun pG =>
 B1 (sL pG (.int .i64 64)) fun v70 =>
 some (v70, kH)))
theorem aj6 (J:JT)(G:GT)(cf:CF)(a0 a1:AV)(H:Hp):gD P J G aw an cf 134 [a0,a1] H=Sj J G cf a0 a1 H:=by kernel_rfl
theorem adq {a0 a1:AV}{H:Hp}{r:AV × Hp}(h:Sj JN GO cK a0 a1 H=some r):cK (.func (.func 134) [] []) [a0,a1] H=some r:=aE (first:=[]) (cap:=[]) ((aj6 JN GO _ a0 a1 H).trans h)
noncomputable def WL (J : JT)(G : GT)(cf : CF)(a0 a1 : AV)(H : Hp) : R :=
 B1 (af 8 a1 H) fun v0 =>
 B2 (cf (.func (.func 134) [] []) [v0, a0] H) fun v1 h2 =>
 B1 (ie .not v1) fun v3 =>
 some (v3, h2)
theorem ajZ {a0 a1:AV}{H:Hp}{r:AV × Hp}(h:WL JN GO cK a0 a1 H=some r):cK (.func (.func 133) [] [a1]) [a0] H=some r:=aE (first:=[]) (cap:=[a1]) (No (by kernel_rfl) h)
noncomputable def XB (J : JT)(G : GT)(cf : CF)(j1 : K.Fn 2)(j2 : K.Fn 2)(x3 x4 : AV)(h5 : Hp) : R :=
 B1 (qi x4 (.int .u64 128)) fun v6 =>
 CD v6 (
 J 2 (fun j7 =>
 B1 (ag x3) fun v8 =>
 B1 (fa 0 v8) fun v9 =>
 B1 (ld v9 h5) fun v10 =>
 B1 (cv .u8 x4) fun v11 =>
 B1 (qF v11 (.int .u8 128)) fun v12 =>
 B1 (fl [(.int .u8 0)] [(0, 1, v12)]) fun yz =>
 BN (cI h5 yz 5 0) fun i14 fU =>
 B2 (fZ 5 1 [(.int .u8 0)] false v10 (.slice i14 0 1 1 true 1) fU) fun dD eE =>
 B1 (ag x3) fun dw =>
 B1 (fa 0 dw) fun eu =>
 B1 (st 1 eu dD eE) fun dX =>
 j7 x3 x4 dX) (fun dk cF eZ =>
 B1 (ue cF (.int .u64 7)) fun v24 =>
 j2 dk v24 eZ)) (
 j1 x3 x4 h5)
noncomputable def Km (J:JT)(G:GT)(cf:CF)(j1:K.Fn 2):K.Fn 2:=gI P an J G cf 202 [0,0,0] [0,1] (fun q t H=>match Nat.beq q 0 with | true=>app 2 j1 (ai [0,1] t) H | false=>(fun _ _ _=>none) q t H)
theorem apf (cf:CF)(j1:K.Fn 2)(x3 x4:AV)(h5:Hp):Km JN GO cf j1 x3 x4 h5=XB JN GO cf j1 (Km JN GO cf j1) x3 x4 h5:=No (b:=app 2 (Km JN GO cf j1) [x3,x4] h5) (by kernel_rfl) ((ik cf 202 [0,0,0] [0,1] _ [x3,x4] rfl h5).trans (by kernel_rfl))
noncomputable def ab4 (J : JT)(G : GT)(cf : CF)(a0 a1 : AV)(H : Hp) : R :=
 J 2 (fun j0 =>
 J 2 (fun j1 =>
 Km J G cf j1 a0 a1 H) (fun gw eO dJ =>
 j0 gw eO dJ)) (fun dv dm jG =>
 B1 (ag dv) fun v31 =>
 B1 (fa 0 v31) fun v32 =>
 B1 (ld v32 jG) fun v33 =>
 B1 (cv .u8 dm) fun fI =>
 B1 (fl [(.int .u8 0)] [(0, 1, fI)]) fun l35 =>
 BN (cI jG l35 5 0) fun i36 kg =>
 B2 (fZ 5 1 [(.int .u8 0)] false v33 (.slice i36 0 1 1 true 1) kg) fun hY mo =>
 B1 (ag dv) fun v40 =>
 B1 (fa 0 v40) fun v41 =>
 B1 (st 1 v41 hY mo) fun js =>
 some (.tuple [], js))
theorem ahr {a0 a1:AV}{H:Hp}{r:AV × Hp}(h:ab4 JN GO cK a0 a1 H=some r):cK (.func (.func 202) [] []) [a0,a1] H=some r:=aE (first:=[]) (cap:=[]) (No (by kernel_rfl) h)
noncomputable def J0 (J : JT)(G : GT)(cf : CF)(j1 : K.Fn 1)(j2 : K.Fn 3)(x3 x4 x5 : AV)(h6 : Hp) : R :=
 J 3 (fun j7 =>
 J 4 (fun j8 =>
 B1 (ag x3) fun v9 =>
 B1 (fa 1 v9) fun v10 =>
 B1 (ld v10 h6) fun v11 =>
 B1 (ie .not v11) fun v12 =>
 G v12 true (fun vf =>
 vf x5 h6) (fun du fU =>
 G v12 true (fun yd =>
 B1 (dV du (.int .i64 10)) fun dc =>
 yd dc fU) (fun dw dK =>
 B1 (pk v12 dw (.bool false)) fun v20 =>
 G v20 true (fun ym =>
 ym x5 dK) (fun v22 eZ =>
 G v20 true (fun yx =>
 yx x3 eZ) (fun v25 nc =>
 G v20 true (fun IA =>
 B1 (ag v25) fun v28 =>
 IA v28 nc) (fun v29 jG =>
 G v20 true (fun xx =>
 B1 (fa 0 v29) fun v32 =>
 xx v32 jG) (fun v33 jD =>
 G v20 true (fun GB =>
 B1 (ld v33 jD) fun v36 =>
 GB v36 jD) (fun v37 wZ =>
 G v20 true (fun k39 =>
 B1 (cJ v37) fun v40 =>
 k39 v40 wZ) (fun v41 js =>
 G v20 true (fun k43 =>
 B1 (dV v22 v41) fun v44 =>
 k43 v44 js) (fun kD qR =>
 B1 (pk v20 kD (.bool false)) fun iR =>
 j8 x3 x4 x5 iR qR) js) wZ) jD) jG) nc) eZ) dK) fU) h6) (fun kO jS jb lC mg =>
 CD lC (
 j7 kO jS jb mg) (
 j1 kO mg))) (fun lz my lq kC =>
 J 3 (fun Bg =>
 J 4 (fun Fm =>
 B1 (ag lz) fun v59 =>
 B1 (fa 0 v59) fun ku =>
 B1 (ld ku kC) fun ll =>
 B1 (ia 1 ll lq) fun jr =>
 B1 (ld jr kC) fun v63 =>
 Fm lz my lq v63 kC) (fun lI gf gq fN GI =>
 J 4 (fun QV =>
 B1 (tR fN (.int .u8 127)) fun v70 =>
 B1 (cv .u64 v70) fun ml =>
 B1 (qV (.int .i64 7) gq) fun v72 =>
 B1 (sN ml v72) fun sX =>
 B1 (qF gf sX) fun rT =>
 QV lI rT gq fN GI) (fun mi lR jt mL kY =>
 B1 (qi mL (.int .u8 128)) fun v80 =>
 CD v80 (
 Bg mi lR jt kY) (
 J 3 (fun Ep =>
 J 4 (fun j82 =>
 B1 (cN mL (.int .u8 0)) fun jF =>
 G jF true (fun k84 =>
 k84 jt kY) (fun v85 zo =>
 G jF true (fun k87 =>
 B1 (iy v85 (.int .i64 0)) fun Hv =>
 k87 Hv zo) (fun Pk uG =>
 B1 (pk jF Pk (.bool false)) fun v91 =>
 G v91 false (fun k92 =>
 k92 jt uG) (fun v93 tS =>
 G v91 false (fun k95 =>
 B1 (qV (.int .i64 7) v93) fun uN =>
 k95 uN tS) (fun AN mZ =>
 G v91 false (fun Qh =>
 B1 (cN AN (.int .i64 63)) fun lX =>
 Qh lX mZ) (fun nG tL =>
 G v91 false (fun Om =>
 Om nG tL) (fun ug wX =>
 G ug true (fun ara =>
 ara mL wX) (fun v107 yV =>
 G ug true (fun aha =>
 B1 (iy v107 (.int .u8 1)) fun AE =>
 aha AE yV) (fun QR CV =>
 G v91 false (fun aqg =>
 B1 (pk ug QR (.bool false)) fun Cw =>
 aqg Cw CV) (fun yY p6 =>
 B1 (pk v91 (.bool true) yY) fun v117 =>
 j82 mi lR jt v117 p6) CV) yV) wX) tL) mZ) tS) uG) zo) kY) (fun qB A4 wC Bo qM =>
 CD Bo (
 j1 qB qM) (
 Ep qB A4 wC qM))) (fun Ar B7 AL KS =>
 J 1 (fun ajd =>
 B1 (ag Ar) fun MB =>
 B1 (fa 0 MB) fun DO =>
 B1 (ld DO KS) fun v130 =>
 B1 (dj AL (.int .i64 1)) fun v131 =>
 B1 (fT 1 v130 (some v131) none none) fun Bj =>
 B1 (ag Ar) fun aoK =>
 B1 (fa 0 aoK) fun aij =>
 B1 (st 1 aij Bj KS) fun FF =>
 ajd B7 FF) (fun xD ann =>
 some (xD, ann))))))) (fun tO It I6 A1 =>
 B1 (dj I6 (.int .i64 1)) fun Gr =>
 j2 tO It Gr A1))
noncomputable def Ln (J:JT)(G:GT)(cf:CF)(j1:K.Fn 1):K.Fn 3:=gI P an J G cf 72 [1,1,0,1,0,0] [0,3,4] (fun q t H=>match Nat.beq q 0 with | true=>app 1 j1 (ai [0] t) H | false=>(fun _ _ _=>none) q t H)
theorem adr (J:JT)(G:GT)(cf:CF)(j1:K.Fn 1)(j2:K.Fn 3)(x3 x4 x5:AV)(h6:Hp):nI P an J G cf 72 [1,1,0,1,0,0] [0,3,4] (fun q t H=>match Nat.beq q 0 with | true=>app 1 j1 (ai [0] t) H | false=>(fun _ _ _=>none) q t H) j2 [x3,x4,x5] h6=J0 J G cf j1 j2 x3 x4 x5 h6:=by kernel_rfl
theorem Vv (cf:CF)(j1:K.Fn 1)(x3 x4 x5:AV)(h6:Hp):Ln JN GO cf j1 x3 x4 x5 h6=J0 JN GO cf j1 (Ln JN GO cf j1) x3 x4 x5 h6:=No (b:=app 3 (Ln JN GO cf j1) [x3,x4,x5] h6) (by kernel_rfl) ((ik cf _ _ _ _ [x3,x4,x5] rfl h6).trans (adr JN GO cf j1 _ x3 x4 x5 h6))
noncomputable def IT (J : JT)(G : GT)(cf : CF)(a0 : AV)(H : Hp) : R :=
 J 1 (fun j0 =>
 J 1 (fun j1 =>
 Ln J G cf j1 a0 (.int .u64 0) (.int .i64 0) H) (fun Gh afK =>
 j0 Gh afK)) (fun Sc ao6 =>
 B2 (cf (.func (.func 124) [] []) [Sc] ao6) fun ar3 Ir =>
 some ((.int .u64 0), Ir))
theorem aon (J:JT)(G:GT)(cf:CF)(a0:AV)(H:Hp):gD P J G aw an cf 72 [a0] H=IT J G cf a0 H:=by kernel_rfl
theorem YT {a0:AV}{H:Hp}{r:AV × Hp}(h:IT JN GO cK a0 H=some r):cK (.func (.func 72) [] []) [a0] H=some r:=aE (first:=[]) (cap:=[]) ((aon JN GO _ a0 H).trans h)
noncomputable def aaR (J : JT)(G : GT)(cf : CF)(a0 a1 : AV)(H : Hp) : R :=
 B2 (cf (.func (.func 72) [] []) [a0] H) fun v0 h1 =>
 J 1 (fun j2 =>
 J 3 (fun j3 =>
 B1 (ag a0) fun v4 =>
 B1 (fa 1 v4) fun v5 =>
 B1 (ld v5 h1) fun v6 =>
 G v6 false (fun k7 =>
 k7 v0 h1) (fun v8 h9 =>
 G v6 false (fun Tv =>
 Tv a1 h9) (fun v11 eG =>
 G v6 false (fun vf =>
 B1 (iy v8 v11) fun du =>
 vf du eG) (fun da gJ =>
 B1 (pk v6 (.bool true) da) fun dc =>
 G dc false (fun SB =>
 SB v0 gJ) (fun eu dX =>
 G dc false (fun ym =>
 B1 (iy eu (.int .u64 2147483647)) fun v22 =>
 ym v22 dX) (fun v23 fR =>
 B1 (pk dc (.bool true) v23) fun v25 =>
 j3 a0 v0 v25 fR) dX) gJ) eG) h9) h1) (fun eO di dv jK =>
 CD dv (
 B2 (cf (.func (.func 124) [] []) [eO] jK) fun v30 fy =>
 some ((.int .i64 0), fy)) (
 j2 di jK))) (fun eD fD =>
 B1 (cv .i64 eD) fun fI =>
 some (fI, fD))
theorem ain {a0 a1:AV}{H:Hp}{r:AV × Hp}(h:aaR JN GO cK a0 a1 H=some r):cK (.func (.func 79) [] []) [a0,a1] H=some r:=aE (first:=[]) (cap:=[]) (No (by kernel_rfl) h)
noncomputable def QM (J : JT)(G : GT)(cf : CF)(a0 : AV)(H : Hp) : R :=
 B1 (ag a0) fun v0 =>
 B1 (fa 1 v0) fun v1 =>
 B1 (ld v1 H) fun v2 =>
 B1 (ie .not v2) fun v3 =>
 G v3 true (fun k4 =>
 k4 a0 H) (fun v5 h6 =>
 G v3 true (fun k7 =>
 B1 (ag v5) fun v8 =>
 k7 v8 h6) (fun v9 cG =>
 G v3 true (fun vp =>
 B1 (fa 0 v9) fun v12 =>
 vp v12 cG) (fun cY eK =>
 G v3 true (fun Cf =>
 B1 (ld cY eK) fun dD =>
 Cf dD eK) (fun dc fv =>
 G v3 true (fun CC =>
 B1 (cJ dc) fun v20 =>
 CC v20 fv) (fun v21 gM =>
 G v3 true (fun Rm =>
 B1 (cN v21 (.int .i64 0)) fun v24 =>
 Rm v24 gM) (fun v25 nc =>
 B1 (pk v3 v25 (.bool false)) fun v27 =>
 some (v27, nc)) gM) fv) eK) cG) h6) H
theorem Vf {a0:AV}{H:Hp}{r:AV × Hp}(h:QM JN GO cK a0 H=some r):cK (.func (.func 73) [] []) [a0] H=some r:=aE (first:=[]) (cap:=[]) (No (by kernel_rfl) h)
noncomputable def WE (J : JT)(G : GT)(cf : CF)(a0 : AV)(H : Hp) : R :=
 B1 (ag a0) fun v0 =>
 B1 (fa 1 v0) fun v1 =>
 B1 (st 1 v1 (.bool true) H) fun h2 =>
 B1 (ag a0) fun v3 =>
 B1 (fa 0 v3) fun v4 =>
 B1 (st 1 v4 .ae h2) fun h5 =>
 some (.tuple [], h5)
theorem aej {a0:AV}{H:Hp}{r:AV × Hp}(h:WE JN GO cK a0 H=some r):cK (.func (.func 124) [] []) [a0] H=some r:=aE (first:=[]) (cap:=[]) (No (by kernel_rfl) h)
noncomputable def Ze (J : JT)(G : GT)(cf : CF)(H : Hp) : R :=
 BN (xm H) fun i0 h1 =>
 B2 (cf (.func (.func 312) [] []) [(.int .i64 128)] h1) fun v2 h3 =>
 B1 (fl [(.int .i64 0), .ae, .iF, .ae, .aC] [(2, 1, (.map i0)), (4, 1, v2)]) fun l4 =>
 BN (bx 337 (.agg l4) h3) fun i5 h6 =>
 some ((.ptr i5 0), h6)
theorem afu {H:Hp}{r:AV × Hp}(h:Ze JN GO cK  H=some r):cK (.func (.func 261) [] []) [] H=some r:=aE (first:=[]) (cap:=[]) (No (by kernel_rfl) h)
noncomputable def SV (J : JT)(G : GT)(cf : CF)(j4 : K.Fn 1)(j5 : K.Fn 4)(x6 x7 x8 x9 : AV)(cG : Hp) : R :=
 B1 (dV x9 x8) fun v11 =>
 CD v11 (
 J 4 (fun fw =>
 B1 (ia 8 x7 x9) fun cY =>
 B1 (af 8 cY cG) fun du =>
 BN (cI cG [(.int .i64 0), (.int .i64 0), (.int .i64 0), (.int .i64 0), (.int .i64 0), (.str []), (.str []), (.str [])] 130 0) fun i15 gJ =>
 B1 (st 8 (.ptr i15 0) du gJ) fun eE =>
 B1 (af 8 (.ptr i15 0) eE) fun dw =>
 B2 (cf (.func (.func 193) [] []) [x6, dw] eE) fun eu dX =>
 fw x6 x7 x8 x9 dX) (fun dk cF cD cS dG =>
 B1 (dj cS (.int .i64 1)) fun v26 =>
 j5 dk cF cD v26 dG)) (
 j4 x6 cG)
noncomputable def Ip (J:JT)(G:GT)(cf:CF)(j4:K.Fn 1):K.Fn 4:=gI P an J G cf 206 [1,1,0,1,0,0] [3,7,8,9] (fun q t H=>match Nat.beq q 0 with | true=>app 1 j4 (ai [3] t) H | false=>(fun _ _ _=>none) q t H)
theorem ZJ (cf:CF)(j4:K.Fn 1)(x6 x7 x8 x9:AV)(cG:Hp):Ip JN GO cf j4 x6 x7 x8 x9 cG=SV JN GO cf j4 (Ip JN GO cf j4) x6 x7 x8 x9 cG:=No (b:=app 4 (Ip JN GO cf j4) [x6,x7,x8,x9] cG) (by kernel_rfl) ((ik cf 206 [1,1,0,1,0,0] [3,7,8,9] _ [x6,x7,x8,x9] rfl cG).trans (by kernel_rfl))
noncomputable def Wp (J : JT)(G : GT)(cf : CF)(a0 : AV)(H : Hp) : R :=
 B2 (cf (.func (.func 261) [] []) [] H) fun v0 h1 =>
 J 1 (fun j2 =>
 B1 (cJ a0) fun v3 =>
 J 1 (fun j4 =>
 Ip J G cf j4 v0 a0 v3 (.int .i64 0) h1) (fun di jd =>
 j2 di jd)) (fun dm jG =>
 some (dm, jG))
theorem aou {a0:AV}{H:Hp}{r:AV × Hp}(h:Wp JN GO cK a0 H=some r):cK (.func (.func 206) [] []) [a0] H=some r:=aE (first:=[]) (cap:=[]) (No (by kernel_rfl) h)
noncomputable def MS (J : JT)(G : GT)(cf : CF)(a0 a1 : AV)(H : Hp) : R :=
 BN (bx 130 a1 H) fun i0 h1 =>
 B1 (af 8 (.ptr i0 0) h1) fun v2 =>
 B2 (cf (.func (.func 82) [] []) [v2] h1) fun v3 h4 =>
 B1 (ie .not v3) fun v5 =>
 CD v5 (
 some ((.int .i64 1), h4)) (
 J 2 (fun j6 =>
 B1 (fa 0 (.ptr i0 0)) fun v7 =>
 B1 (ld v7 h4) fun v8 =>
 B1 (cN v8 (.int .i64 1)) fun v9 =>
 CD v9 (
 B1 (fa 5 (.ptr i0 0)) fun v10 =>
 B1 (ld v10 h4) fun v11 =>
 B1 (fa 7 (.ptr i0 0)) fun v12 =>
 B1 (ld v12 h4) fun cY =>
 B2 (cf (.func (.func 245) [] []) [a0, v11, cY] h4) fun du fU =>
 some (du, fU)) (
 B1 (cN v8 (.int .i64 2)) fun dD =>
 CD dD (
 B1 (af 8 (.ptr i0 0) h4) fun dc =>
 B2 (cf (.func (.func 246) [] []) [a0, dc] h4) fun dw dK =>
 some (dw, dK)) (
 B1 (cN v8 (.int .i64 6)) fun v20 =>
 CD v20 (
 B1 (fa 4 (.ptr i0 0)) fun v21 =>
 B1 (ld v21 h4) fun v22 =>
 B2 (cf (.func (.func 247) [] []) [a0, v22] h4) fun v23 fR =>
 some (v23, fR)) (
 B1 (cN v8 (.int .i64 9)) fun v25 =>
 CD v25 (
 some ((.int .i64 0), h4)) (
 j6 a0 (.ptr i0 0) h4))))) (fun eO di jd =>
 J 2 (fun ye =>
 J 3 (fun TQ =>
 B1 (fa 1 di) fun v31 =>
 B1 (ld v31 jd) fun v32 =>
 B1 (ag eO) fun v33 =>
 B1 (fa 3 v33) fun fI =>
 B1 (ld fI jd) fun v35 =>
 B1 (cJ v35) fun v36 =>
 B1 (iy v32 v36) fun v37 =>
 TQ eO di v37 jd) (fun jH la mc sI =>
 CD mc (
 some ((.int .i64 4), sI)) (
 ye jH la sI))) (fun fO gh qK =>
 B1 (af 8 gh qK) fun kD =>
 B2 (cf (.func (.func 248) [] []) [fO, kD] qK) fun v46 jk =>
 some (v46, jk))))
theorem ajp (J:JT)(G:GT)(cf:CF)(a0 a1:AV)(H:Hp):gD P J G aw an cf 193 [a0,a1] H=MS J G cf a0 a1 H:=by kernel_rfl
theorem afc {a0 a1:AV}{H:Hp}{r:AV × Hp}(h:MS JN GO cK a0 a1 H=some r):cK (.func (.func 193) [] []) [a0,a1] H=some r:=aE (first:=[]) (cap:=[]) ((ajp JN GO _ a0 a1 H).trans h)
noncomputable def aa4 (J : JT)(G : GT)(cf : CF)(a0 a1 : AV)(H : Hp) : R :=
 B2 (cf (.func (.func 184) [] []) [a0, a1] H) fun v0 h1 =>
 B1 (qi v0 (.int .i64 0)) fun v2 =>
 some (v2, h1)
theorem aoA {a0 a1:AV}{H:Hp}{r:AV × Hp}(h:aa4 JN GO cK a0 a1 H=some r):cK (.func (.func 132) [] []) [a0,a1] H=some r:=aE (first:=[]) (cap:=[]) (No (by kernel_rfl) h)
noncomputable def aaF (J : JT)(G : GT)(cf : CF)(a0 a1 : AV)(H : Hp) : R :=
 B2 (cf (.func (.func 236) [] []) [a0, a1, (.bool true)] H) fun v0 h1 =>
 some (v0, h1)
theorem acQ {a0 a1:AV}{H:Hp}{r:AV × Hp}(h:aaF JN GO cK a0 a1 H=some r):cK (.func (.func 184) [] []) [a0,a1] H=some r:=aE (first:=[]) (cap:=[]) (No (by kernel_rfl) h)
noncomputable def Nz (J : JT)(G : GT)(cf : CF)(j3 : K.Fn 0)(j4 : K.Fn 3)(x5 x6 x7 : AV)(h8 : Hp) : R :=
 B2 (pW x7 true h8) fun v9 cG =>
 B1 (ex 0 v9) fun v11 =>
 CD v11 (
 B1 (ex 1 v9) fun v12 =>
 B1 (ex 2 v9) fun cY =>
 J 5 (fun iL =>
 B2 (cf x5 [cY] cG) fun da gJ =>
 B1 (bb .eql da x6) fun dc =>
 iL x5 x6 v12 x7 dc gJ) (fun fL fF eM dk cF eZ =>
 CD cF (
 some (eM, eZ)) (
 j4 fL fF dk eZ))) (
 j3  cG)
noncomputable def Le (J:JT)(G:GT)(cf:CF)(j3:K.Fn 0):K.Fn 3:=gI P an J G cf 236 [1,0,1,0,0] [1,2,10] (fun q t H=>match Nat.beq q 0 with | true=>app 0 j3 (ai [] t) H | false=>(fun _ _ _=>none) q t H)
theorem XS (cf:CF)(j3:K.Fn 0)(x5 x6 x7:AV)(h8:Hp):Le JN GO cf j3 x5 x6 x7 h8=Nz JN GO cf j3 (Le JN GO cf j3) x5 x6 x7 h8:=No (b:=app 3 (Le JN GO cf j3) [x5,x6,x7] h8) (by kernel_rfl) ((ik cf 236 [1,0,1,0,0] [1,2,10] _ [x5,x6,x7] rfl h8).trans (by kernel_rfl))
noncomputable def Xq (J : JT)(G : GT)(cf : CF)(a0 a1 a2 : AV)(H : Hp) : R :=
 J 0 (fun j0 =>
 B2 (sd P 9 a0 H) fun v1 h2 =>
 J 0 (fun j3 =>
 Le J G cf j3 a1 a2 v1 h2) (fun  fR =>
 j0  fR)) (fun  dG =>
 some ((.int .i64 (-1)), dG))
theorem alr {a0 a1 a2:AV}{H:Hp}{r:AV × Hp}(h:Xq JN GO cK a0 a1 a2 H=some r):cK (.func (.func 236) [] []) [a0,a1,a2] H=some r:=aE (first:=[]) (cap:=[]) (No (by kernel_rfl) h)
noncomputable def WN (J : JT)(G : GT)(cf : CF)(a0 a1 : AV)(H : Hp) : R :=
 B2 (cf (.func (.func 17) [] []) [a0, a1, (.int .i64 0), (.int .i64 (-1))] H) fun v0 h1 =>
 some (v0, h1)
theorem ac9 {a0 a1:AV}{H:Hp}{r:AV × Hp}(h:WN JN GO cK a0 a1 H=some r):cK (.func (.func 9) [] []) [a0,a1] H=some r:=aE (first:=[]) (cap:=[]) (No (by kernel_rfl) h)
noncomputable def KB (J : JT)(G : GT)(cf : CF)(nF : K.Fn 3)(uj : K.Fn 6)(jB kj jH la mc fj : AV)(js : Hp) : R :=
 B1 (dV fj la) fun kq =>
 CD kq (
 B2 (cf (.func (.func 37) [] []) [jB, kj] js) fun v44 ju =>
 B1 (dV v44 (.int .i64 0)) fun v46 =>
 CD v46 (
 nF jB mc fj ju) (
 J 7 (fun NO =>
 B1 (dj v44 jH) fun iz =>
 B1 (sU jB none (some iz)) fun v49 =>
 B1 (ia 1 mc fj) fun lU =>
 B1 (st 1 lU v49 ju) fun mh =>
 NO jB kj jH la mc fj v44 mh) (fun mu lz my lq qQ qa wR tI =>
 J 6 (fun SI =>
 B1 (lens lz) fun ll =>
 B1 (dj wR ll) fun jr =>
 B1 (sU mu (some jr) none) fun v63 =>
 SI v63 lz my lq qQ qa tI) (fun lI gf gq fN eA ew gR =>
 B1 (dj ew (.int .i64 1)) fun ml =>
 uj lI gf gq fN eA ml gR)))) (
 nF jB mc fj js)
noncomputable def HC (J:JT)(G:GT)(cf:CF)(nF:K.Fn 3):K.Fn 6:=gI P an J G cf 17 [1,1,1,1,1,1,1,1,0,0,0] [0,1,2,3,9,10] (fun q t H=>match Nat.beq q 0 with | true=>app 3 nF (ai [0,9,10] t) H | false=>(fun _ _ _=>none) q t H)
theorem ajy (J:JT)(G:GT)(cf:CF)(nF:K.Fn 3)(uj:K.Fn 6)(jB kj jH la mc fj:AV)(js:Hp):nI P an J G cf 17 [1,1,1,1,1,1,1,1,0,0,0] [0,1,2,3,9,10] (fun q t H=>match Nat.beq q 0 with | true=>app 3 nF (ai [0,9,10] t) H | false=>(fun _ _ _=>none) q t H) uj [jB,kj,jH,la,mc,fj] js=KB J G cf nF uj jB kj jH la mc fj js:=by kernel_rfl
theorem Yb (cf:CF)(nF:K.Fn 3)(jB kj jH la mc fj:AV)(js:Hp):HC JN GO cf nF jB kj jH la mc fj js=KB JN GO cf nF (HC JN GO cf nF) jB kj jH la mc fj js:=No (b:=app 6 (HC JN GO cf nF) [jB,kj,jH,la,mc,fj] js) (by kernel_rfl) ((ik cf _ _ _ _ [jB,kj,jH,la,mc,fj] rfl js).trans (ajy JN GO cf nF _ jB kj jH la mc fj js))
noncomputable def P1 (J : JT)(G : GT)(cf : CF)(a0 a1 a2 a3 : AV)(H : Hp) : R :=
 B1 (cN a3 (.int .i64 0)) fun v0 =>
 CD v0 (
 some (.ae, H)) (
 J 4 (fun j1 =>
 B1 (seq a1 (.str [])) fun v2 =>
 CD v2 (
 B2 (cf (.func (.func 35) [] []) [a0, a3] H) fun v3 h4 =>
 some (v3, h4)) (
 j1 a0 a1 a2 a3 H)) (fun x5 x6 x7 x8 h9 =>
 J 4 (fun qn =>
 B1 (dV x8 (.int .i64 0)) fun v11 =>
 CD v11 (
 B2 (cf (.func (.func 36) [] []) [x5, x6] h9) fun v12 fX =>
 B1 (dj v12 (.int .i64 1)) fun du =>
 qn x5 x6 x7 du fX) (
 qn x5 x6 x7 x8 h9)) (fun df dt eW fL dK =>
 J 4 (fun iC =>
 B1 (lens df) fun v21 =>
 B1 (dj v21 (.int .i64 1)) fun v22 =>
 B2 (eP P .min #[3, 3] [fL, v22] dK) fun v23 fR =>
 iC df dt eW v23 fR) (fun gw eO di dv jK =>
 B2 (FZ [(.str [])] 9 1 dv dv jK) fun v30 fy =>
 B1 (jI dv (.int .i64 1)) fun v32 =>
 J 3 (fun j33 =>
 J 3 (fun nF =>
 HC J G cf nF gw eO di v32 v30 (.int .i64 0) fy) (fun mq jO pY qq =>
 j33 mq jO pY qq)) (fun lR jt mL kY =>
 J 2 (fun lV =>
 B1 (ia 1 jt mL) fun pf =>
 B1 (st 1 pf lR kY) fun jT =>
 lV jt mL jT) (fun nQ gU BV =>
 B1 (dj gU (.int .i64 1)) fun uS =>
 B1 (fT 1 nQ none (some uS) none) fun v87 =>
 some (v87, BV)))))))
theorem ajm (J:JT)(G:GT)(cf:CF)(a0 a1 a2 a3:AV)(H:Hp):gD P J G aw an cf 17 [a0,a1,a2,a3] H=P1 J G cf a0 a1 a2 a3 H:=by kernel_rfl
theorem acF {a0 a1 a2 a3:AV}{H:Hp}{r:AV × Hp}(h:P1 JN GO cK a0 a1 a2 a3 H=some r):cK (.func (.func 17) [] []) [a0,a1,a2,a3] H=some r:=aE (first:=[]) (cap:=[]) ((ajm JN GO _ a0 a1 a2 a3 H).trans h)
noncomputable def af9 (J:JT)(G:GT)(cf:CF)(hO:K.Fn 1):K.Fn 3:=gI P an J G cf 36 [1,1,1,1,0,0] [0,1,5] (fun q t H=>match Nat.beq q 0 with | true=>app 1 hO (ai [4] t) H | false=>(fun _ _ _=>none) q t H)
noncomputable def aaW (J : JT)(G : GT)(cf : CF)(a0 a1 : AV)(H : Hp) : R :=
 J 2 (fun j0 =>
 B1 (lens a1) fun v1 =>
 B1 (cN v1 (.int .i64 0)) fun v2 =>
 CD v2 (
 B2 (cf (.func (.func 56) [] []) [a0] H) fun v3 h4 =>
 B1 (dj v3 (.int .i64 1)) fun v5 =>
 some (v5, h4)) (
 j0 a0 a1 H)) (fun x6 x7 h8 =>
 J 2 (fun j9 =>
 B1 (lens x7) fun v10 =>
 B1 (cN v10 (.int .i64 1)) fun v11 =>
 CD v11 (
 B1 (td x7 (.int .i64 0)) fun v12 =>
 B2 (cf (.func (.func 58) [] []) [x6, v12] h8) fun cY eK =>
 some (cY, eK)) (
 j9 x6 x7 h8)) (fun df dt eE =>
 J 1 (fun hO =>
 af9 J G cf hO df dt (.int .i64 0) eE) (fun eY ma =>
 some (eY, ma))))
theorem ary {a0 a1:AV}{H:Hp}{r:AV × Hp}(h:aaW JN GO cK a0 a1 H=some r):cK (.func (.func 36) [] []) [a0,a1] H=some r:=aE (first:=[]) (cap:=[]) (No (by kernel_rfl) h)
noncomputable def Yt (J : JT)(G : GT)(cf : CF)(a0 a1 : AV)(H : Hp) : R :=
 B2 (cf (.func (.func 59) [] []) [a0, a1] H) fun v0 h1 =>
 some (v0, h1)
theorem aoD {a0 a1:AV}{H:Hp}{r:AV × Hp}(h:Yt JN GO cK a0 a1 H=some r):cK (.func (.func 37) [] []) [a0,a1] H=some r:=aE (first:=[]) (cap:=[]) (No (by kernel_rfl) h)
noncomputable def Ke (J : JT)(G : GT)(cf : CF)(oc : K.Fn 3)(Ap : K.Fn 6)(fj fO gh gF fY fV : AV)(jk : Hp) : R :=
 B1 (dV fV fY) fun iz =>
 CD iz (
 J 6 (fun QS =>
 B1 (ia 1 gF fV) fun lU =>
 B1 (ld lU jk) fun v51 =>
 J 7 (fun A9 =>
 J 8 (fun GK =>
 B1 (lens v51) fun jV =>
 B1 (jI (.int .i64 9223372036854775807) gh) fun iY =>
 B1 (iy jV iY) fun iZ =>
 GK fj fO gh v51 gF fY fV iZ jk) (fun qa wR B3 qS mQ mj lH lI tk =>
 CD lI (
 none) (
 A9 qa wR B3 qS mQ mj lH tk))) (fun gq fN eA ew iM gY mq uz =>
 B1 (lens ew) fun rT =>
 B1 (dj eA rT) fun v75 =>
 QS gq fN v75 iM gY mq uz)) (fun lR jt mL Cj xN sB jT =>
 B1 (dj sB (.int .i64 1)) fun jF =>
 Ap lR jt mL Cj xN jF jT)) (
 oc fj fO gh jk)
noncomputable def HT (J:JT)(G:GT)(cf:CF)(oc:K.Fn 3):K.Fn 6:=gI P an J G cf 40 [1,1,1,1,0,1,0,0] [0,1,5,39,40,41] (fun q t H=>match Nat.beq q 1 with | true=>app 3 oc (ai [0,1,5] t) H | false=>(fun _ _ _=>none) q t H)
theorem apK (J:JT)(G:GT)(cf:CF)(oc:K.Fn 3)(Ap:K.Fn 6)(fj fO gh gF fY fV:AV)(jk:Hp):nI P an J G cf 40 [1,1,1,1,0,1,0,0] [0,1,5,39,40,41] (fun q t H=>match Nat.beq q 1 with | true=>app 3 oc (ai [0,1,5] t) H | false=>(fun _ _ _=>none) q t H) Ap [fj,fO,gh,gF,fY,fV] jk=Ke J G cf oc Ap fj fO gh gF fY fV jk:=by kernel_rfl
theorem Xw (cf:CF)(oc:K.Fn 3)(fj fO gh gF fY fV:AV)(jk:Hp):HT JN GO cf oc fj fO gh gF fY fV jk=Ke JN GO cf oc (HT JN GO cf oc) fj fO gh gF fY fV jk:=No (b:=app 6 (HT JN GO cf oc) [fj,fO,gh,gF,fY,fV] jk) (by kernel_rfl) ((ik cf _ _ _ _ [fj,fO,gh,gF,fY,fV] rfl jk).trans (apK JN GO cf oc _ fj fO gh gF fY fV jk))
noncomputable def PW (J : JT)(G : GT)(cf : CF)(ry : K.Fn 1)(Qc : K.Fn 5)(ng kL lT oD qh : AV)(tD : Hp) : R :=
 B1 (dV qh oD) fun QR =>
 CD QR (
 J 5 (fun acR =>
 B1 (ia 1 lT qh) fun Ik =>
 B1 (ld Ik tD) fun Cw =>
 B2 (cf (.func (.func 14) [] []) [kL, ng] tD) fun yY p6 =>
 B2 (cf (.func (.func 14) [] []) [kL, Cw] p6) fun v117 Jc =>
 acR ng kL lT oD qh Jc) (fun A4 wC Bo PB Ar Kw =>
 B1 (dj Ar (.int .i64 1)) fun Co =>
 Qc A4 wC Bo PB Co Kw)) (
 ry kL tD)
noncomputable def Gm (J:JT)(G:GT)(cf:CF)(ry:K.Fn 1):K.Fn 5:=gI P an J G cf 40 [1,1,1,1,1,1,1,1,0,1,0,0] [1,8,63,64,65] (fun q t H=>match Nat.beq q 3 with | true=>app 1 ry (ai [8] t) H | false=>(fun _ _ _=>none) q t H)
theorem abK (cf:CF)(ry:K.Fn 1)(ng kL lT oD qh:AV)(tD:Hp):Gm JN GO cf ry ng kL lT oD qh tD=PW JN GO cf ry (Gm JN GO cf ry) ng kL lT oD qh tD:=No (b:=app 5 (Gm JN GO cf ry) [ng,kL,lT,oD,qh] tD) (by kernel_rfl) ((ik cf 40 [1,1,1,1,1,1,1,1,0,1,0,0] [1,8,63,64,65] _ [ng,kL,lT,oD,qh] rfl tD).trans (by kernel_rfl))
noncomputable def GG (J : JT)(G : GT)(cf : CF)(a0 a1 : AV)(H : Hp) : R :=
 J 2 (fun j0 =>
 B1 (cJ a0) fun v1 =>
 B1 (cN v1 (.int .i64 0)) fun v2 =>
 CD v2 (
 some ((.str []), H)) (
 B1 (cN v1 (.int .i64 1)) fun v3 =>
 CD v3 (
 B1 (ia 1 a0 (.int .i64 0)) fun v4 =>
 B1 (ld v4 H) fun v5 =>
 some (v5, H)) (
 j0 a0 a1 H))) (fun x6 x7 h8 =>
 J 3 (fun j9 =>
 B1 (lens x7) fun v10 =>
 B1 (iy v10 (.int .i64 0)) fun v11 =>
 CD v11 (
 J 3 (fun fw =>
 J 4 (fun fg =>
 B1 (lens x7) fun du =>
 B1 (cJ x6) fun da =>
 B1 (jI da (.int .i64 1)) fun dD =>
 B1 (BG (.int .i64 9223372036854775807) dD) fun dc =>
 B1 (qi du dc) fun dw =>
 fg x6 x7 (.int .i64 0) dw h8) (fun fF eM dk cF eZ =>
 CD cF (
 none) (
 fw fF eM dk eZ))) (fun cS gw eO dJ =>
 B1 (lens gw) fun v28 =>
 B1 (cJ cS) fun v29 =>
 B1 (jI v29 (.int .i64 1)) fun v30 =>
 B1 (qV v28 v30) fun v31 =>
 B1 (dj eO v31) fun v32 =>
 j9 cS gw v32 dJ)) (
 j9 x6 x7 (.int .i64 0) h8)) (fun gj kU rn hU =>
 J 3 (fun od =>
 B1 (cJ gj) fun hY =>
 J 3 (fun oc =>
 HT J G cf oc gj kU rn gj hY (.int .i64 0) hU) (fun gU iK jc Rh =>
 od gU iK jc Rh)) (fun kA jA jj ki =>
 BN (cI ki [.aC, .ae] 50 0) fun i92 xC =>
 B2 (cf (.func (.func 62) [] []) [(.ptr i92 0), jj] xC) fun wT q9 =>
 B1 (ia 1 kA (.int .i64 0)) fun uN =>
 B1 (ld uN q9) fun AN =>
 B2 (cf (.func (.func 14) [] []) [(.ptr i92 0), AN] q9) fun qH yn =>
 J 1 (fun ahA =>
 B1 (fT 1 kA (some (.int .i64 1)) none none) fun nG =>
 B1 (cJ nG) fun uy =>
 J 1 (fun ry =>
 Gm J G cf ry jA (.ptr i92 0) nG uy (.int .i64 0) yn) (fun Bp JJ =>
 ahA Bp JJ)) (fun BE Cr =>
 B2 (cf (.func (.func 16) [] []) [BE] Cr) fun v130 DG =>
 some (v130, DG)))))
theorem aiq (J:JT)(G:GT)(cf:CF)(a0 a1:AV)(H:Hp):gD P J G aw an cf 40 [a0,a1] H=GG J G cf a0 a1 H:=by kernel_rfl
theorem Nl {a0 a1:AV}{H:Hp}{r:AV × Hp}(h:GG JN GO cK a0 a1 H=some r):cK (.func (.func 40) [] []) [a0,a1] H=some r:=aE (first:=[]) (cap:=[]) ((aiq JN GO _ a0 a1 H).trans h)
noncomputable def ahE (J:JT)(G:GT)(cf:CF)(Sq:K.Fn 0):K.Fn 8:=gI P an J G cf 59 [1,1,1,1,1,1,1,1,0,0,0] [0,1,5,6,7,8,9,10] (fun q t H=>match Nat.beq q 1 with | true=>app 0 Sq (ai [] t) H | false=>(fun _ _ _=>none) q t H)
noncomputable def TJ (J : JT)(G : GT)(cf : CF)(a0 a1 : AV)(H : Hp) : R :=
 B1 (lens a1) fun v0 =>
 J 3 (fun j1 =>
 J 4 (fun j2 =>
 B1 (cN v0 (.int .i64 0)) fun v3 =>
 G v3 false (fun k4 =>
 k4 a1 H) (fun v5 h6 =>
 G v3 false (fun k7 =>
 k7 a0 h6) (fun v8 h9 =>
 G v3 false (fun Tv =>
 B1 (seq v5 v8) fun v11 =>
 Tv v11 h9) (fun v12 fX =>
 B1 (pk v3 (.bool true) v12) fun du =>
 j2 a0 a1 v0 du fX) h9) h6) H) (fun df dt eW fL dK =>
 CD fL (
 some ((.int .i64 0), dK)) (
 B1 (cN eW (.int .i64 1)) fun v20 =>
 CD v20 (
 B1 (td dt (.int .i64 0)) fun v21 =>
 B2 (cf (.func (.func 99) [] []) [df, v21] dK) fun v22 eZ =>
 some (v22, eZ)) (
 J 4 (fun Ao =>
 B1 (lens df) fun v25 =>
 B1 (qi eW v25) fun v26 =>
 Ao df dt eW v26 dK) (fun di dv dm dy fy =>
 CD dy (
 some ((.int .i64 (-1)), fy)) (
 J 4 (fun wg =>
 B1 (ld (.ptr 0 0) fy) fun v33 =>
 B1 (sL dm v33) fun fI =>
 G fI true (fun GB =>
 GB di fy) (fun v36 kg =>
 G fI true (fun OH =>
 B1 (lens v36) fun fS =>
 OH fS kg) (fun v40 sI =>
 G fI true (fun Qa =>
 B1 (sL v40 (.int .i64 64)) fun kq =>
 Qa kq sI) (fun v44 ju =>
 B1 (pk fI v44 (.bool false)) fun v46 =>
 wg di dv dm v46 ju) sI) kg) fy) (fun jZ kO jS jb mh =>
 CD jb (
 B2 (cf (.func (.func 100) [] []) [jZ, kO] mh) fun jg yb =>
 some (jg, yb)) (
 j1 jZ kO jS mh)))))))) (fun my lq qQ kP =>
 B1 (td lq (.int .i64 0)) fun hJ =>
 B1 (td lq (.int .i64 1)) fun v59 =>
 J 7 (fun SI =>
 B1 (lens my) fun ll =>
 B1 (jI ll qQ) fun jr =>
 B1 (dj jr (.int .i64 1)) fun v63 =>
 SI my lq qQ hJ v59 (.int .i64 0) v63 kP) (fun lI gf gq fN eA ew iM zp =>
 J 0 (fun NQ =>
 J 0 (fun Sq =>
 ahE J G cf Sq lI gf gq fN eA ew iM (.int .i64 0) zp) (fun  ajr =>
 NQ  ajr)) (fun  afM =>
 some ((.int .i64 (-1)), afM))))
theorem ajv (J:JT)(G:GT)(cf:CF)(a0 a1:AV)(H:Hp):gD P J G aw an cf 59 [a0,a1] H=TJ J G cf a0 a1 H:=by kernel_rfl
theorem ajf {a0 a1:AV}{H:Hp}{r:AV × Hp}(h:TJ JN GO cK a0 a1 H=some r):cK (.func (.func 59) [] []) [a0,a1] H=some r:=aE (first:=[]) (cap:=[]) ((ajv JN GO _ a0 a1 H).trans h)
noncomputable def abW (J : JT)(G : GT)(cf : CF)(a0 a1 : AV)(H : Hp) : R :=
 B2 (cf (.func (.func 159) [] []) [a0, a1] H) fun v0 h1 =>
 some (v0, h1)
theorem ans {a0 a1:AV}{H:Hp}{r:AV × Hp}(h:abW JN GO cK a0 a1 H=some r):cK (.func (.func 99) [] []) [a0,a1] H=some r:=aE (first:=[]) (cap:=[]) (No (by kernel_rfl) h)
noncomputable def aco (J : JT)(G : GT)(cf : CF)(a0 a1 : AV)(H : Hp) : R :=
 B2 (cf (.func (.func 26) [] []) [a0] H) fun v0 h1 =>
 J 2 (fun j2 =>
 B1 (dV a1 (.int .i64 0)) fun v3 =>
 CD v3 (
 none) (
 j2 a0 a1 h1)) (fun x4 x5 h6 =>
 J 3 (fun j7 =>
 B1 (ag x4) fun v8 =>
 B1 (fa 1 v8) fun v9 =>
 B1 (ld v9 h6) fun v10 =>
 B2 (eP P .cap #[48] [v10] h6) fun v11 eG =>
 B1 (ag x4) fun cY =>
 B1 (fa 1 cY) fun du =>
 B1 (ld du h6) fun da =>
 B1 (cJ da) fun dD =>
 B1 (jI v11 dD) fun dc =>
 B1 (dV dc x5) fun dw =>
 j7 x4 x5 dw h6) (fun fF eM dk gM =>
 CD dk (
 B2 (cf (.func (.func 112) [] []) [fF, eM] gM) fun v23 fR =>
 some (.tuple [], fR)) (
 some (.tuple [], gM))))
theorem ac8 {a0 a1:AV}{H:Hp}{r:AV × Hp}(h:aco JN GO cK a0 a1 H=some r):cK (.func (.func 62) [] []) [a0,a1] H=some r:=aE (first:=[]) (cap:=[]) (No (by kernel_rfl) h)
noncomputable def Oy (J : JT)(G : GT)(cf : CF)(a0 a1 : AV)(H : Hp) : R :=
 B2 (cf (.func (.func 26) [] []) [a0] H) fun v0 h1 =>
 J 1 (fun j2 =>
 B1 (ag a0) fun v3 =>
 B1 (fa 1 v3) fun v4 =>
 B1 (ld v4 h1) fun v5 =>
 B2 (fZ 5 1 [(.int .u8 0)] false v5 a1 h1) fun v6 h7 =>
 B1 (ag a0) fun v8 =>
 B1 (fa 1 v8) fun v9 =>
 B1 (st 1 v9 v6 h7) fun cG =>
 j2 a1 cG) (fun fK eG =>
 B1 (lens fK) fun cY =>
 some (.tuple [cY, .nilIface], eG))
theorem V3 {a0 a1:AV}{H:Hp}{r:AV × Hp}(h:Oy JN GO cK a0 a1 H=some r):cK (.func (.func 14) [] []) [a0,a1] H=some r:=aE (first:=[]) (cap:=[]) (No (by kernel_rfl) h)
noncomputable def Yg (J : JT)(G : GT)(cf : CF)(a0 : AV)(H : Hp) : R :=
 B1 (ag a0) fun v0 =>
 B1 (fa 1 v0) fun v1 =>
 B1 (ld v1 H) fun v2 =>
 B2 (eP P .unsafeSliceData #[48] [v2] H) fun v3 h4 =>
 B1 (ag a0) fun v5 =>
 B1 (fa 1 v5) fun v6 =>
 B1 (ld v6 h4) fun v7 =>
 B1 (cJ v7) fun v8 =>
 B2 (eP P .unsafeString #[90, 3] [v3, v8] h4) fun v9 cG =>
 B1 (ld v6 H) fun v11 =>
 SM v7 v11 <|
 B1 (cJ v7) fun v12 =>
 SM v8 v12 <|
 some (v9, cG)
theorem aoP {a0:AV}{H:Hp}{r:AV × Hp}(h:Yg JN GO cK a0 H=some r):cK (.func (.func 16) [] []) [a0] H=some r:=aE (first:=[]) (cap:=[]) (No (by kernel_rfl) h)
noncomputable def NN (J : JT)(G : GT)(cf : CF)(a0 : AV)(H : Hp) : R :=
 J 2 (fun j0 =>
 B1 (ag a0) fun v1 =>
 B1 (fa 0 v1) fun v2 =>
 B1 (ld v2 H) fun v3 =>
 B1 (po .eql (pe v3 .aC H)) fun v4 =>
 j0 a0 v4 H) (fun x5 x6 h7 =>
 CD x6 (
 B2 (jw P 47 118 x5 h7) fun v8 h9 =>
 B2 (cf (.func (.func 45) [] []) [v8] h9) fun v10 iv =>
 B2 (jw P 118 47 v10 iv) fun v12 fX =>
 B1 (ag x5) fun du =>
 B1 (fa 0 du) fun da =>
 B1 (st 1 da v12 fX) fun gJ =>
 some (.tuple [], gJ)) (
 J 1 (fun vc =>
 B1 (ag x5) fun dw =>
 B1 (fa 0 dw) fun eu =>
 B1 (ld eu h7) fun v20 =>
 B1 (po .neq (pe v20 x5 h7)) fun v21 =>
 vc v21 h7) (fun cF eZ =>
 CD cF (
 none) (
 some (.tuple [], eZ)))))
theorem aaB {a0:AV}{H:Hp}{r:AV × Hp}(h:NN JN GO cK a0 H=some r):cK (.func (.func 26) [] []) [a0] H=some r:=aE (first:=[]) (cap:=[]) (No (by kernel_rfl) h)
noncomputable def X3 (J : JT)(G : GT)(cf : CF)(a0 a1 : AV)(H : Hp) : R :=
 J 2 (fun j0 =>
 B1 (ag a0) fun v1 =>
 B1 (fa 1 v1) fun v2 =>
 B1 (ld v2 H) fun v3 =>
 B2 (eP P .cap #[48] [v3] H) fun v4 h5 =>
 B1 (qV (.int .i64 2) v4) fun v6 =>
 B1 (dj v6 a1) fun v7 =>
 B2 (cf (.func (.func 169) [] []) [v7] H) fun v8 h9 =>
 B1 (ag a0) fun v10 =>
 B1 (fa 1 v10) fun v11 =>
 B1 (ld v11 h9) fun v12 =>
 B1 (cJ v12) fun cY =>
 B1 (fT 1 v8 none (some cY) none) fun du =>
 B1 (ld v11 H) fun da =>
 SM v12 da <|
 B1 (cJ v12) fun dD =>
 SM cY dD <|
 j0 a0 du h9) (fun eW fL dK =>
 J 2 (fun iC =>
 B1 (ag eW) fun v21 =>
 B1 (fa 1 v21) fun v22 =>
 B1 (ld v22 dK) fun v23 =>
 B2 (Ej 1 fL v23 dK) fun v24 dG =>
 iC eW fL dG) (fun eO di jd =>
 B1 (ag eO) fun v29 =>
 B1 (fa 1 v29) fun v30 =>
 B1 (st 1 v30 di jd) fun fy =>
 some (.tuple [], fy)))
theorem anZ {a0 a1:AV}{H:Hp}{r:AV × Hp}(h:X3 JN GO cK a0 a1 H=some r):cK (.func (.func 112) [] []) [a0,a1] H=some r:=aE (first:=[]) (cap:=[]) (No (by kernel_rfl) h)
noncomputable def VK (J : JT)(G : GT)(cf : CF)(a0 a1 : AV)(H : Hp) : R :=
 B2 (cf (.func (.func 18) [] []) [a0, a1] H) fun v0 h1 =>
 some (v0, h1)
theorem agX {a0 a1:AV}{H:Hp}{r:AV × Hp}(h:VK JN GO cK a0 a1 H=some r):cK (.func (.func 10) [] []) [a0,a1] H=some r:=aE (first:=[]) (cap:=[]) (No (by kernel_rfl) h)
noncomputable def abk (J : JT)(G : GT)(cf : CF)(a0 a1 : AV)(H : Hp) : R :=
 J 1 (fun j0 =>
 B2 (cf (.func (.func 38) [] []) [a0, a1] H) fun v1 h2 =>
 CD v1 (
 B1 (lens a0) fun v3 =>
 B1 (lens a1) fun v4 =>
 B1 (jI v3 v4) fun v5 =>
 B1 (sU a0 none (some v5)) fun v6 =>
 some (v6, h2)) (
 j0 a0 h2)) (fun x7 h8 =>
 some (x7, h8))
theorem aii {a0 a1:AV}{H:Hp}{r:AV × Hp}(h:abk JN GO cK a0 a1 H=some r):cK (.func (.func 18) [] []) [a0,a1] H=some r:=aE (first:=[]) (cap:=[]) (No (by kernel_rfl) h)
noncomputable def T5 (J : JT)(G : GT)(cf : CF)(a0 a1 : AV)(H : Hp) : R :=
 B1 (lens a0) fun v0 =>
 B1 (lens a1) fun v1 =>
 B1 (qi v0 v1) fun v2 =>
 G v2 true (fun k3 =>
 k3 a0 H) (fun v4 h5 =>
 G v2 true (fun k6 =>
 k6 a0 h5) (fun v7 h8 =>
 G v2 true (fun k9 =>
 B1 (lens v7) fun v10 =>
 k9 v10 h8) (fun v11 eG =>
 G v2 true (fun vf =>
 vf a1 eG) (fun du fU =>
 G v2 true (fun yd =>
 B1 (lens du) fun dc =>
 yd dc fU) (fun dw dK =>
 G v2 true (fun FI =>
 B1 (jI v11 dw) fun v21 =>
 FI v21 dK) (fun v22 eZ =>
 G v2 true (fun yx =>
 B1 (sU v4 (some v22) none) fun v25 =>
 yx v25 eZ) (fun v26 dJ =>
 G v2 true (fun MN =>
 MN a1 dJ) (fun v29 jG =>
 G v2 true (fun xx =>
 B1 (seq v26 v29) fun v32 =>
 xx v32 jG) (fun v33 jD =>
 B1 (pk v2 v33 (.bool false)) fun v35 =>
 some (v35, jD)) jG) dJ) eZ) dK) fU) eG) h8) h5) H
theorem amq {a0 a1:AV}{H:Hp}{r:AV × Hp}(h:T5 JN GO cK a0 a1 H=some r):cK (.func (.func 38) [] []) [a0,a1] H=some r:=aE (first:=[]) (cap:=[]) (No (by kernel_rfl) h)
noncomputable def M3 (J : JT)(G : GT)(cf : CF)(a0 a1 : AV)(H : Hp) : R :=
 J 2 (fun j0 =>
 J 3 (fun j1 =>
 B1 (eX a0 (.int .i64 0)) fun v2 =>
 G v2 true (fun k3 =>
 k3 a0 H) (fun v4 h5 =>
 G v2 true (fun k6 =>
 B1 (eX v4 (.int .i64 1)) fun v7 =>
 k6 v7 h5) (fun v8 h9 =>
 B1 (pk v2 v8 (.bool false)) fun v10 =>
 j1 a0 a1 v10 h9) h5) H) (fun fK eV iu eK =>
 CD iu (
 some (.tuple [.aC, (.int .i64 1)], eK)) (
 j0 fK eV eK))) (fun df dt eE =>
 J 4 (fun hO =>
 B2 (cf (.func (.func 42) [] []) [dt, (.int .i64 512)] eE) fun eu dX =>
 B1 (ex 0 eu) fun v21 =>
 B1 (ex 1 eu) fun v22 =>
 hO df dt v21 v22 dX) (fun cD cS gw eO dJ =>
 J 3 (fun mT =>
 B1 (eX eO (.int .i64 0)) fun v29 =>
 CD v29 (
 some (.tuple [.aC, eO], dJ)) (
 mT cD cS gw dJ)) (fun dy eY eD fD =>
 B2 (cf (.func (.func 43) [] []) [eD] fD) fun fI pg =>
 B2 (cf (.func (.func 44) [] []) [eY] pg) fun v36 kg =>
 B2 (eP P .max #[2, 2] [fI, v36] kg) fun hY mo =>
 B1 (fl [.aC, (.int .i64 0), (.int .i64 0), (.bool false), (.bool false), .aC, (.int .i64 0), (.int .i64 0), (.int .i64 0), (.int .i64 0), (.int .i64 0), .ae] [(0, 1, eD), (1, 1, dy), (2, 1, hY)]) fun zJ =>
 BN (bx 117 (.agg zJ) mo) fun i41 js =>
 some (.tuple [(.ptr i41 0), (.int .i64 0)], js))))
theorem anC (J:JT)(G:GT)(cf:CF)(a0 a1:AV)(H:Hp):gD P J G aw an cf 25 [a0,a1] H=M3 J G cf a0 a1 H:=by kernel_rfl
theorem af3 {a0 a1:AV}{H:Hp}{r:AV × Hp}(h:M3 JN GO cK a0 a1 H=some r):cK (.func (.func 25) [] []) [a0,a1] H=some r:=aE (first:=[]) (cap:=[]) ((anC JN GO _ a0 a1 H).trans h)
noncomputable def Sv (J : JT)(G : GT)(cf : CF)(a0 a1 : AV)(H : Hp) : R :=
 J 2 (fun j0 =>
 J 3 (fun j1 =>
 B1 (ag a0) fun v2 =>
 B1 (fa 0 v2) fun v3 =>
 B1 (ld v3 H) fun v4 =>
 B1 (ag v4) fun v5 =>
 B1 (fa 0 v5) fun v6 =>
 B1 (ld v6 H) fun v7 =>
 B2 (cf (.func (.func 171) [] []) [v7, (.str [111, 117, 114, 115, 45, 110, 101, 119])] H) fun v8 h9 =>
 j1 a0 a1 v8 h9) (fun eI fK eV fX =>
 J 4 (fun iL =>
 B1 (eX eV (.int .i64 0)) fun da =>
 G da true (fun yd =>
 yd eV fX) (fun dc fv =>
 G da true (fun CC =>
 B1 (eX dc (.int .i64 4)) fun v20 =>
 CC v20 fv) (fun v21 gM =>
 B1 (pk da v21 (.bool false)) fun v23 =>
 iL eI fK eV v23 gM) fv) fX) (fun cS gw eO di jd =>
 CD di (
 some (eO, jd)) (
 j0 cS gw jd)))) (fun dm dy fy =>
 BN (cI fy [.ae] 282 0) fun i32 fD =>
 B1 (cv .u64 dy) fun fI =>
 B2 (cf (.func (.func 202) [] []) [(.ptr i32 0), fI] fD) fun v35 hU =>
 J 2 (fun od =>
 J 3 (fun vW =>
 B1 (ag dm) fun fS =>
 B1 (fa 0 fS) fun v40 =>
 B1 (ld v40 hU) fun v41 =>
 B1 (ag v41) fun ig =>
 B1 (fa 0 ig) fun kq =>
 B1 (ld kq hU) fun v44 =>
 B1 (fa 0 (.ptr i32 0)) fun kD =>
 B1 (ld kD hU) fun v46 =>
 B2 (cf (.func (.func 203) [] []) [v44, (.str [111, 117, 114, 115, 45, 110, 101, 119]), v46] hU) fun iR pj =>
 vW dm dy iR pj) (fun jS jb lC mg =>
 B1 (eX lC (.int .i64 0)) fun v53 =>
 CD v53 (
 some (lC, mg)) (
 od jS jb mg))) (fun my lq kC =>
 J 2 (fun Bg =>
 J 3 (fun Fm =>
 B1 (ag my) fun v59 =>
 B1 (fa 0 v59) fun ku =>
 B1 (ld ku kC) fun ll =>
 B1 (ag ll) fun jr =>
 B1 (fa 0 jr) fun v63 =>
 B1 (ld v63 kC) fun v64 =>
 B2 (cf (.func (.func 204) [] []) [v64, (.str [111, 117, 114, 115, 45, 110, 101, 119]), (.str [111, 117, 114, 115])] kC) fun nU kH =>
 Fm my lq nU kH) (fun fN eA ew gR =>
 B1 (eX ew (.int .i64 0)) fun ml =>
 CD ml (
 some (ew, gR)) (
 Bg fN eA gR))) (fun mq jO py =>
 J 0 (fun ot =>
 B1 (ag mq) fun v76 =>
 B1 (fa 2 v76) fun rJ =>
 B1 (st 1 rJ jO py) fun qJ =>
 ot  qJ) (fun  kY =>
 some ((.int .i64 0), kY)))))
theorem aez (J:JT)(G:GT)(cf:CF)(a0 a1:AV)(H:Hp):gD P J G aw an cf 150 [a0,a1] H=Sv J G cf a0 a1 H:=by kernel_rfl
theorem aeL {a0 a1:AV}{H:Hp}{r:AV × Hp}(h:Sv JN GO cK a0 a1 H=some r):cK (.func (.func 150) [] []) [a0,a1] H=some r:=aE (first:=[]) (cap:=[]) ((aez JN GO _ a0 a1 H).trans h)
noncomputable def abG (J : JT)(G : GT)(cf : CF)(a0 : AV)(H : Hp) : R :=
 J 1 (fun j0 =>
 B2 (cf (.func (.func 71) [] []) [a0, (.str [111, 117, 114, 115])] H) fun v1 h2 =>
 B1 (ex 0 v1) fun v3 =>
 B1 (ex 1 v1) fun v4 =>
 j0 v3 h2) (fun x5 h6 =>
 B1 (fl [.ae, (.bool false)] [(0, 1, x5)]) fun l7 =>
 BN (cI h6 [.ae, (.bool false)] 158 0) fun i8 h9 =>
 B1 (st 2 (.ptr i8 0) (.agg l7) h9) fun cG =>
 B2 (cf (.func (.func 72) [] []) [(.ptr i8 0)] cG) fun v11 eG =>
 J 1 (fun fg =>
 J 2 (fun iL =>
 B2 (cf (.func (.func 73) [] []) [(.ptr i8 0)] eG) fun da gJ =>
 B1 (ie .not da) fun dc =>
 G dc false (fun SB =>
 SB v11 gJ) (fun eu dX =>
 G dc false (fun ym =>
 B1 (iy eu (.int .u64 1048575)) fun v22 =>
 ym v22 dX) (fun v23 fR =>
 B1 (pk dc (.bool true) v23) fun v25 =>
 iL v11 v25 fR) dX) gJ) (fun eO di jd =>
 CD di (
 some ((.int .i64 0), jd)) (
 fg eO jd))) (fun dm jG =>
 B1 (cv .i64 dm) fun v31 =>
 some (v31, jG)))
theorem ael {a0:AV}{H:Hp}{r:AV × Hp}(h:abG JN GO cK a0 H=some r):cK (.func (.func 44) [] []) [a0] H=some r:=aE (first:=[]) (cap:=[]) (No (by kernel_rfl) h)
end
end Go.Proofs.YtehhgkgeldinkaaGreatDoor.dg
