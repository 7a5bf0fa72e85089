/- Plain forms of functions, printed by a program of our own, and that the evaluator's reading of each is its plain form (of no conditions). -/
import Derived.Test.YthljbjokonglhaaGreatDoorDfK
namespace Go.Proofs.YthljbjokonglhaaGreatDoor.DfK
open Go Am Am.K DfEnv
set_option linter.unusedVariables false
set_option maxRecDepth 100000
noncomputable section
def al_def_Graph1 : An := (.sq none .nl (.sq none (.cd .nl .nl) (.sq (some [1, 2, 3, 4, 14, 15, 16, 22, 23, 24]) (.bl (some [1, 2, 3, 4, 14, 15, 16, 22, 23, 24]) (.sq none .nl (.sq (some [1, 2, 3, 4, 7, 8, 14, 15, 16, 22, 23, 24]) .nl (.sq (some [1, 2, 3, 4, 8, 14, 15, 16, 22, 23, 24, 48]) .nl (.cd .nl .nl))))) .nl)))

noncomputable def bl_def_Graph1 (J : JT) (G : GT) (cf : CF) (j20 : K.Fn 2) (j31 : K.Fn 6) (j50 : K.Fn 6) (j51 : K.Fn 10) (x52 x53 x54 x55 x56 x57 x58 x59 x60 x61 : AV) (h62 : Hp) : R :=
 B1 (ilt x61 x60) fun v63 =>
 CD v63 (
 J 10 (fun j64 =>
 J 10 (fun j65 =>
 B1 (ia 1 x59 x61) fun v66 =>
 B1 (ld v66 h62) fun v67 =>
 J 12 (fun j68 =>
 B1 (fl [(.int .i64 0), (.int .i64 0)] [(0, 1, v67), (1, 1, x55)]) fun l69 =>
 BN (newCells h62 [(.int .i64 0), (.int .i64 0)] 83 0) fun i70 h71 =>
 B1 (st 2 (.ptr i70 0) (.agg l69) h71) fun h72 =>
 j68 x52 x53 x54 x55 v67 (.ptr i70 0) x56 x57 x58 x59 x60 x61 h72) (fun x73 x74 x75 x76 x77 x78 x79 x80 x81 x82 x83 x84 h85 =>
 J 12 (fun j86 =>
 B1 (fa 0 x73) fun v87 =>
 B1 (ld v87 h85) fun v88 =>
 B1 (lenx v88) fun v89 =>
 B1 (isub v89 (.int .i64 1)) fun v90 =>
 B2 (cf (.func (.func 32) [] []) [x77, (.int .i64 0), v90] h85) fun v91 h92 =>
 G v91 true (fun k93 =>
 k93 x77 h92) (fun v94 h95 =>
 G v91 true (fun k96 =>
 k96 x76 h95) (fun v97 h98 =>
 G v91 true (fun k99 =>
 B1 (ine v94 v97) fun v100 =>
 k99 v100 h98) (fun v101 h102 =>
 B1 (pk v91 v101 (.bool false)) fun v103 =>
 G v103 true (fun k104 =>
 B1 (fa 1 x75) fun v105 =>
 k104 v105 h102) (fun v106 h107 =>
 G v103 true (fun k108 =>
 B1 (ld v106 h107) fun v109 =>
 k108 v109 h107) (fun v110 h111 =>
 G v103 true (fun k112 =>
 B1 (lda 2 x78 h111) fun v113 =>
 k112 v113 h111) (fun v114 h115 =>
 G v103 true (fun k116 =>
 B2 (cf (.func (.func 42) [] []) [v110, v114] h115) fun v117 h118 =>
 k116 v117 h118) (fun v119 h120 =>
 G v103 true (fun k121 =>
 B1 (unA .not v119) fun v122 =>
 k121 v122 h120) (fun v123 h124 =>
 B1 (pk v103 v123 (.bool false)) fun v125 =>
 j86 x73 x74 x75 x76 x78 x79 x80 x81 x82 x83 x84 v125 h124) h120) h115) h111) h107) h102) h98) h95) h92) (fun x126 x127 x128 x129 x130 x131 x132 x133 x134 x135 x136 x137 h138 =>
 CD x137 (
 B1 (fa 1 x128) fun v139 =>
 B1 (ld v139 h138) fun v140 =>
 B1 (lda 2 x130 h138) fun v141 =>
 B1 (fl [(.int .i64 0), (.int .i64 0)] [(0, 2, v141)]) fun l142 =>
 BN (newCells h138 l142 83 0) fun i143 h144 =>
 B2 (app' 83 2 [(.int .i64 0), (.int .i64 0)] false v140 (.slice i143 0 1 1 true 2) h144) fun v145 h146 =>
 B1 (fa 1 x128) fun v147 =>
 B1 (st 1 v147 v145 h146) fun h148 =>
 j65 x126 x127 x128 x129 x131 x132 x133 x134 x135 x136 h148) (
 j65 x126 x127 x128 x129 x131 x132 x133 x134 x135 x136 h138)))) (fun x149 x150 x151 x152 x153 x154 x155 x156 x157 x158 h159 =>
 j64 x149 x150 x151 x152 x153 x154 x155 x156 x157 x158 h159)) (fun x160 x161 x162 x163 x164 x165 x166 x167 x168 x169 h170 =>
 B1 (iadd x169 (.int .i64 1)) fun v171 =>
 j51 x160 x161 x162 x163 x164 x165 x166 x167 x168 v171 h170)) (
 j50 x52 x53 x54 x56 x57 x58 h62)

noncomputable def l_def_Graph1 (J : JT) (G : GT) (cf : CF) (j20 : K.Fn 2) (j31 : K.Fn 6) (j50 : K.Fn 6) : K.Fn 10 := LP 10 fun j51 => fun x52 x53 x54 x55 x56 x57 x58 x59 x60 x61 h62 => bl_def_Graph1 J G cf j20 j31 j50 j51 x52 x53 x54 x55 x56 x57 x58 x59 x60 x61 h62

theorem rl_def_Graph1 (J : JT) (G : GT) (cf : CF) (j20 : K.Fn 2) (j31 : K.Fn 6) (j50 : K.Fn 6) (j51 : K.Fn 10) (x52 x53 x54 x55 x56 x57 x58 x59 x60 x61 : AV) (h62 : Hp) : codeF P J G cf (nT P 15) (atC P 15 [1, 1, 0, 1, 0, 0, 1, 1, 0, 0, 1, 1, 0, 0]) al_def_Graph1 (fun t H => app 10 j51 (vals [1, 2, 3, 4, 14, 15, 16, 22, 23, 24] t) H) (fun q t H => match Nat.beq q 2 with | true => app 6 j50 (vals [1, 2, 3, 14, 15, 16] t) H | false => (fun q t H => match Nat.beq q 1 with | true => app 6 j31 (vals [1, 2, 3, 14, 15, 16] t) H | false => (fun q t H => match Nat.beq q 0 with | true => app 2 j20 (vals [2, 3] t) H | false => (fun _ _ _ => none) q t H) q t H) q t H) (retK P 15) (mkT (nT P 15) [1, 2, 3, 4, 14, 15, 16, 22, 23, 24] [x52, x53, x54, x55, x56, x57, x58, x59, x60, x61]) h62 = bl_def_Graph1 J G cf j20 j31 j50 j51 x52 x53 x54 x55 x56 x57 x58 x59 x60 x61 h62 := by kernel_rfl

theorem dl_def_Graph1 (J : JT) (G : GT) (cf : CF) (j20 : K.Fn 2) (j31 : K.Fn 6) (j50 : K.Fn 6) : l_def_Graph1 J G cf j20 j31 j50 = loopF P J G cf (nT P 15) (atC P 15 [1, 1, 0, 1, 0, 0, 1, 1, 0, 0, 1, 1, 0, 0]) al_def_Graph1 [1, 2, 3, 4, 14, 15, 16, 22, 23, 24] (fun q t H => match Nat.beq q 2 with | true => app 6 j50 (vals [1, 2, 3, 14, 15, 16] t) H | false => (fun q t H => match Nat.beq q 1 with | true => app 6 j31 (vals [1, 2, 3, 14, 15, 16] t) H | false => (fun q t H => match Nat.beq q 0 with | true => app 2 j20 (vals [2, 3] t) H | false => (fun _ _ _ => none) q t H) q t H) q t H) (retK P 15) := by
  unfold l_def_Graph1 loopF
  refine congrArg (LP 10) ?_
  funext j51 x52 x53 x54 x55 x56 x57 x58 x59 x60 x61 h62
  exact (rl_def_Graph1 J G cf j20 j31 j50 j51 x52 x53 x54 x55 x56 x57 x58 x59 x60 x61 h62).symm

theorem ql_def_Graph1 (cf : CF) (j20 : K.Fn 2) (j31 : K.Fn 6) (j50 : K.Fn 6) (x52 x53 x54 x55 x56 x57 x58 x59 x60 x61 : AV) (h62 : Hp) : l_def_Graph1 JN GO cf j20 j31 j50 x52 x53 x54 x55 x56 x57 x58 x59 x60 x61 h62 = bl_def_Graph1 JN GO cf j20 j31 j50 (l_def_Graph1 JN GO cf j20 j31 j50) x52 x53 x54 x55 x56 x57 x58 x59 x60 x61 h62 := by
  have h1 : l_def_Graph1 JN GO cf j20 j31 j50 x52 x53 x54 x55 x56 x57 x58 x59 x60 x61 h62 = app 10 (loopF P JN GO cf (nT P 15) (atC P 15 [1, 1, 0, 1, 0, 0, 1, 1, 0, 0, 1, 1, 0, 0]) al_def_Graph1 [1, 2, 3, 4, 14, 15, 16, 22, 23, 24] (fun q t H => match Nat.beq q 2 with | true => app 6 j50 (vals [1, 2, 3, 14, 15, 16] t) H | false => (fun q t H => match Nat.beq q 1 with | true => app 6 j31 (vals [1, 2, 3, 14, 15, 16] t) H | false => (fun q t H => match Nat.beq q 0 with | true => app 2 j20 (vals [2, 3] t) H | false => (fun _ _ _ => none) q t H) q t H) q t H) (retK P 15)) [x52, x53, x54, x55, x56, x57, x58, x59, x60, x61] h62 := by rw [dl_def_Graph1]; kernel_rfl
  refine h1.trans ((loopF_eq (P := P) cf (nT P 15) (atC P 15 [1, 1, 0, 1, 0, 0, 1, 1, 0, 0, 1, 1, 0, 0]) al_def_Graph1 [1, 2, 3, 4, 14, 15, 16, 22, 23, 24] (fun q t H => match Nat.beq q 2 with | true => app 6 j50 (vals [1, 2, 3, 14, 15, 16] t) H | false => (fun q t H => match Nat.beq q 1 with | true => app 6 j31 (vals [1, 2, 3, 14, 15, 16] t) H | false => (fun q t H => match Nat.beq q 0 with | true => app 2 j20 (vals [2, 3] t) H | false => (fun _ _ _ => none) q t H) q t H) q t H) (retK P 15) [x52, x53, x54, x55, x56, x57, x58, x59, x60, x61] rfl h62).trans ((rl_def_Graph1 JN GO cf j20 j31 j50 _ x52 x53 x54 x55 x56 x57 x58 x59 x60 x61 h62).trans ?_))
  rw [dl_def_Graph1]

def al_def_Graph : An := (.sq none .nl (.sq none (.cd .nl .nl) (.sq (some [1, 2, 3, 14, 15, 16]) (.bl (some [1, 2, 3, 14, 15, 16]) (.sq (some [1, 2, 3, 4, 5, 14, 15, 16]) .nl (.sq none .nl (.bl (some [1, 2, 3, 14, 15, 16]) (.lp [1, 2, 3, 4, 14, 15, 16, 22, 23, 24] (.sq none .nl (.sq none (.cd .nl .nl) (.sq (some [1, 2, 3, 4, 14, 15, 16, 22, 23, 24]) (.bl (some [1, 2, 3, 4, 14, 15, 16, 22, 23, 24]) (.sq none .nl (.sq (some [1, 2, 3, 4, 7, 8, 14, 15, 16, 22, 23, 24]) .nl (.sq (some [1, 2, 3, 4, 8, 14, 15, 16, 22, 23, 24, 48]) .nl (.cd .nl .nl))))) .nl)))))))) .nl)))

noncomputable def bl_def_Graph (J : JT) (G : GT) (cf : CF) (j20 : K.Fn 2) (j21 : K.Fn 6) (x22 x23 x24 x25 x26 x27 : AV) (h28 : Hp) : R :=
 B1 (ilt x27 x26) fun v29 =>
 CD v29 (
 J 6 (fun j30 =>
 J 6 (fun j31 =>
 J 8 (fun j32 =>
 B1 (ia 6 x25 x27) fun v33 =>
 B1 (lda 6 v33 h28) fun v34 =>
 BN (newCells h28 [(.str []), .slice0, (.int .i64 0), (.int .i64 0), (.int .i64 0), (.str [])] 43 0) fun i35 h36 =>
 B1 (st 6 (.ptr i35 0) v34 h36) fun h37 =>
 j32 x22 x23 x24 x27 (.ptr i35 0) x25 x26 x27 h37) (fun x38 x39 x40 x41 x42 x43 x44 x45 h46 =>
 B1 (fa 1 x42) fun v47 =>
 B1 (ld v47 h46) fun v48 =>
 B1 (lenx v48) fun v49 =>
 J 6 (fun j50 =>
 l_def_Graph1 J G cf j20 j31 j50 x38 x39 x40 x41 x43 x44 x45 v48 v49 (.int .i64 0) h46) (fun x172 x173 x174 x175 x176 x177 h178 =>
 j31 x172 x173 x174 x175 x176 x177 h178))) (fun x179 x180 x181 x182 x183 x184 h185 =>
 j30 x179 x180 x181 x182 x183 x184 h185)) (fun x186 x187 x188 x189 x190 x191 h192 =>
 B1 (iadd x191 (.int .i64 1)) fun v193 =>
 j21 x186 x187 x188 x189 x190 v193 h192)) (
 j20 x23 x24 h28)

noncomputable def l_def_Graph (J : JT) (G : GT) (cf : CF) (j20 : K.Fn 2) : K.Fn 6 := LP 6 fun j21 => fun x22 x23 x24 x25 x26 x27 h28 => bl_def_Graph J G cf j20 j21 x22 x23 x24 x25 x26 x27 h28

theorem rl_def_Graph (J : JT) (G : GT) (cf : CF) (j20 : K.Fn 2) (j21 : K.Fn 6) (x22 x23 x24 x25 x26 x27 : AV) (h28 : Hp) : codeF P J G cf (nT P 15) (atC P 15 [1, 1, 0, 1, 0, 0]) al_def_Graph (fun t H => app 6 j21 (vals [1, 2, 3, 14, 15, 16] t) H) (fun q t H => match Nat.beq q 0 with | true => app 2 j20 (vals [2, 3] t) H | false => (fun _ _ _ => none) q t H) (retK P 15) (mkT (nT P 15) [1, 2, 3, 14, 15, 16] [x22, x23, x24, x25, x26, x27]) h28 = bl_def_Graph J G cf j20 j21 x22 x23 x24 x25 x26 x27 h28 := by kernel_rfl

theorem dl_def_Graph (J : JT) (G : GT) (cf : CF) (j20 : K.Fn 2) : l_def_Graph J G cf j20 = loopF P J G cf (nT P 15) (atC P 15 [1, 1, 0, 1, 0, 0]) al_def_Graph [1, 2, 3, 14, 15, 16] (fun q t H => match Nat.beq q 0 with | true => app 2 j20 (vals [2, 3] t) H | false => (fun _ _ _ => none) q t H) (retK P 15) := by
  unfold l_def_Graph loopF
  refine congrArg (LP 6) ?_
  funext j21 x22 x23 x24 x25 x26 x27 h28
  exact (rl_def_Graph J G cf j20 j21 x22 x23 x24 x25 x26 x27 h28).symm

theorem ql_def_Graph (cf : CF) (j20 : K.Fn 2) (x22 x23 x24 x25 x26 x27 : AV) (h28 : Hp) : l_def_Graph JN GO cf j20 x22 x23 x24 x25 x26 x27 h28 = bl_def_Graph JN GO cf j20 (l_def_Graph JN GO cf j20) x22 x23 x24 x25 x26 x27 h28 := by
  have h1 : l_def_Graph JN GO cf j20 x22 x23 x24 x25 x26 x27 h28 = app 6 (loopF P JN GO cf (nT P 15) (atC P 15 [1, 1, 0, 1, 0, 0]) al_def_Graph [1, 2, 3, 14, 15, 16] (fun q t H => match Nat.beq q 0 with | true => app 2 j20 (vals [2, 3] t) H | false => (fun _ _ _ => none) q t H) (retK P 15)) [x22, x23, x24, x25, x26, x27] h28 := by rw [dl_def_Graph]; kernel_rfl
  refine h1.trans ((loopF_eq (P := P) cf (nT P 15) (atC P 15 [1, 1, 0, 1, 0, 0]) al_def_Graph [1, 2, 3, 14, 15, 16] (fun q t H => match Nat.beq q 0 with | true => app 2 j20 (vals [2, 3] t) H | false => (fun _ _ _ => none) q t H) (retK P 15) [x22, x23, x24, x25, x26, x27] rfl h28).trans ((rl_def_Graph JN GO cf j20 _ x22 x23 x24 x25 x26 x27 h28).trans ?_))
  rw [dl_def_Graph]

noncomputable def s_def_Graph (J : JT) (G : GT) (cf : CF) (a0 : AV) (H : Hp) : R :=
 BN (bx 25 a0 H) fun i0 h1 =>
 BN (newCells h1 [(.int .i64 0), .slice0] 39 0) fun i2 h3 =>
 J 3 (fun j4 =>
 B1 (fa 0 (.ptr i0 0)) fun v5 =>
 B1 (ld v5 h3) fun v6 =>
 B1 (lenx v6) fun v7 =>
 B1 (fl [(.int .i64 0), .slice0] [(0, 1, v7)]) fun l8 =>
 BN (newCells h3 [(.int .i64 0), .slice0] 39 0) fun i9 h10 =>
 B1 (st 2 (.ptr i9 0) (.agg l8) h10) fun h11 =>
 j4 (.ptr i0 0) (.ptr i2 0) (.ptr i9 0) h11) (fun x12 x13 x14 h15 =>
 J 2 (fun j16 =>
 B1 (fa 0 x12) fun v17 =>
 B1 (ld v17 h15) fun v18 =>
 B1 (lenx v18) fun v19 =>
 J 2 (fun j20 =>
 l_def_Graph J G cf j20 x12 x13 x14 v18 v19 (.int .i64 0) h15) (fun x194 x195 h196 =>
 j16 x194 x195 h196)) (fun x197 x198 h199 =>
 B1 (lda 2 x198 h199) fun v200 =>
 B1 (st 2 x197 v200 h199) fun h201 =>
 B1 (lda 2 x197 h201) fun v202 =>
 some (v202, h201)))

theorem e_def_Graph (J : JT) (G : GT) (cf : CF) (a0 : AV) (H : Hp) : callF P J G prim an cf 15 [a0] H = s_def_Graph J G cf a0 H := by kernel_rfl

theorem c_def_Graph {a0 : AV} {H : Hp} {r : AV × Hp} (h : s_def_Graph JN GO cK a0 H = some r) : cK (.func (.func 15) [] []) [a0] H = some r := callF_fix (first := []) (cap := []) ((e_def_Graph JN GO _ a0 H).trans h)

def al_outriderlaw12_DefOrder : An := (.sq none (.sq none .nl (.cd .nl .nl)) (.sq (some [3, 5, 7, 8]) (.bl none (.sq (some [3, 5, 7, 8]) (.sq (some [3, 5, 7, 8, 62]) .nl (.cd (.sq none .nl .nl) .nl)) .nl)) .nl))

noncomputable def bl_outriderlaw12_DefOrder (J : JT) (G : GT) (cf : CF) (j67 : K.Fn 2) (j68 : K.Fn 4) (x69 x70 x71 x72 : AV) (h73 : Hp) : R :=
 B1 (lenx x70) fun v74 =>
 B1 (ilt x72 v74) fun v75 =>
 CD v75 (
 J 4 (fun j76 =>
 J 4 (fun j77 =>
 J 5 (fun j78 =>
 B1 (ia 1 x70 x72) fun v79 =>
 B1 (ld v79 h73) fun v80 =>
 B1 (ilt v80 (.int .i64 0)) fun v81 =>
 G v81 false (fun k82 =>
 k82 x70 h73) (fun v83 h84 =>
 G v81 false (fun k85 =>
 k85 x72 h84) (fun v86 h87 =>
 G v81 false (fun k88 =>
 B1 (ia 1 v83 v86) fun v89 =>
 k88 v89 h87) (fun v90 h91 =>
 G v81 false (fun k92 =>
 B1 (ld v90 h91) fun v93 =>
 k92 v93 h91) (fun v94 h95 =>
 G v81 false (fun k96 =>
 k96 x70 h95) (fun v97 h98 =>
 G v81 false (fun k99 =>
 B1 (lenx v97) fun v100 =>
 k99 v100 h98) (fun v101 h102 =>
 G v81 false (fun k103 =>
 B1 (ige v94 v101) fun v104 =>
 k103 v104 h102) (fun v105 h106 =>
 B1 (pk v81 (.bool true) v105) fun v107 =>
 j78 x69 x70 x71 x72 v107 h106) h102) h98) h95) h91) h87) h84) h73) (fun x108 x109 x110 x111 x112 h113 =>
 CD x112 (
 some ((.bool false), h113)) (
 j77 x108 x109 x110 x111 h113))) (fun x114 x115 x116 x117 h118 =>
 B1 (ia 1 x115 x117) fun v119 =>
 B1 (ld v119 h118) fun v120 =>
 B1 (ia 1 x116 v120) fun v121 =>
 B1 (st 1 v121 x117 h118) fun h122 =>
 j76 x114 x115 x116 x117 h122)) (fun x123 x124 x125 x126 h127 =>
 B1 (iadd x126 (.int .i64 1)) fun v128 =>
 j68 x123 x124 x125 v128 h127)) (
 j67 x69 x71 h73)

noncomputable def l_outriderlaw12_DefOrder (J : JT) (G : GT) (cf : CF) (j67 : K.Fn 2) : K.Fn 4 := LP 4 fun j68 => fun x69 x70 x71 x72 h73 => bl_outriderlaw12_DefOrder J G cf j67 j68 x69 x70 x71 x72 h73

theorem rl_outriderlaw12_DefOrder (J : JT) (G : GT) (cf : CF) (j67 : K.Fn 2) (j68 : K.Fn 4) (x69 x70 x71 x72 : AV) (h73 : Hp) : codeF P J G cf (nT P 5) (atC P 5 [1, 1, 1, 1, 1, 1, 1, 1, 0, 1, 0, 0]) al_outriderlaw12_DefOrder (fun t H => app 4 j68 (vals [3, 5, 7, 8] t) H) (fun q t H => match Nat.beq q 0 with | true => app 2 j67 (vals [3, 7] t) H | false => (fun _ _ _ => none) q t H) (retK P 5) (mkT (nT P 5) [3, 5, 7, 8] [x69, x70, x71, x72]) h73 = bl_outriderlaw12_DefOrder J G cf j67 j68 x69 x70 x71 x72 h73 := by kernel_rfl

theorem dl_outriderlaw12_DefOrder (J : JT) (G : GT) (cf : CF) (j67 : K.Fn 2) : l_outriderlaw12_DefOrder J G cf j67 = loopF P J G cf (nT P 5) (atC P 5 [1, 1, 1, 1, 1, 1, 1, 1, 0, 1, 0, 0]) al_outriderlaw12_DefOrder [3, 5, 7, 8] (fun q t H => match Nat.beq q 0 with | true => app 2 j67 (vals [3, 7] t) H | false => (fun _ _ _ => none) q t H) (retK P 5) := by
  unfold l_outriderlaw12_DefOrder loopF
  refine congrArg (LP 4) ?_
  funext j68 x69 x70 x71 x72 h73
  exact (rl_outriderlaw12_DefOrder J G cf j67 j68 x69 x70 x71 x72 h73).symm

theorem ql_outriderlaw12_DefOrder (cf : CF) (j67 : K.Fn 2) (x69 x70 x71 x72 : AV) (h73 : Hp) : l_outriderlaw12_DefOrder JN GO cf j67 x69 x70 x71 x72 h73 = bl_outriderlaw12_DefOrder JN GO cf j67 (l_outriderlaw12_DefOrder JN GO cf j67) x69 x70 x71 x72 h73 := by
  have h1 : l_outriderlaw12_DefOrder JN GO cf j67 x69 x70 x71 x72 h73 = app 4 (loopF P JN GO cf (nT P 5) (atC P 5 [1, 1, 1, 1, 1, 1, 1, 1, 0, 1, 0, 0]) al_outriderlaw12_DefOrder [3, 5, 7, 8] (fun q t H => match Nat.beq q 0 with | true => app 2 j67 (vals [3, 7] t) H | false => (fun _ _ _ => none) q t H) (retK P 5)) [x69, x70, x71, x72] h73 := by rw [dl_outriderlaw12_DefOrder]; kernel_rfl
  refine h1.trans ((loopF_eq (P := P) cf (nT P 5) (atC P 5 [1, 1, 1, 1, 1, 1, 1, 1, 0, 1, 0, 0]) al_outriderlaw12_DefOrder [3, 5, 7, 8] (fun q t H => match Nat.beq q 0 with | true => app 2 j67 (vals [3, 7] t) H | false => (fun _ _ _ => none) q t H) (retK P 5) [x69, x70, x71, x72] rfl h73).trans ((rl_outriderlaw12_DefOrder JN GO cf j67 _ x69 x70 x71 x72 h73).trans ?_))
  rw [dl_outriderlaw12_DefOrder]

def al_outriderlaw12_DefOrder2 : An := (.sq (some [3, 7, 9, 10]) (.sq (some [3, 7, 9, 10, 85]) .nl (.cd .nl .nl)) (.sq (some [3, 7, 9, 10]) (.bl none (.sq (some [3, 7, 9, 10, 11]) .nl (.sq (some [3, 7, 9, 10, 115]) .nl (.cd (.sq none .nl .nl) .nl)))) .nl))

noncomputable def bl_outriderlaw12_DefOrder2 (J : JT) (G : GT) (cf : CF) (j136 : K.Fn 0) (j158 : K.Fn 3) (j159 : K.Fn 3) (j160 : K.Fn 4) (x161 x162 x163 x164 : AV) (h165 : Hp) : R :=
 J 4 (fun j166 =>
 J 5 (fun j167 =>
 B1 (fa 0 x161) fun v168 =>
 B1 (ld v168 h165) fun v169 =>
 B1 (ia 6 v169 x163) fun v170 =>
 B1 (fa 1 v170) fun v171 =>
 B1 (ld v171 h165) fun v172 =>
 B1 (lenx v172) fun v173 =>
 B1 (ilt x164 v173) fun v174 =>
 j167 x161 x162 x163 x164 v174 h165) (fun x175 x176 x177 x178 x179 h180 =>
 CD x179 (
 j166 x175 x176 x177 x178 h180) (
 j159 x175 x176 x177 h180))) (fun x181 x182 x183 x184 h185 =>
 J 4 (fun j186 =>
 J 5 (fun j187 =>
 B1 (fa 0 x181) fun v188 =>
 B1 (ld v188 h185) fun v189 =>
 B1 (ia 6 v189 x183) fun v190 =>
 B1 (fa 1 v190) fun v191 =>
 B1 (ld v191 h185) fun v192 =>
 B1 (ia 1 v192 x184) fun v193 =>
 B1 (ld v193 h185) fun v194 =>
 j187 x181 x182 x183 x184 v194 h185) (fun x195 x196 x197 x198 x199 h200 =>
 J 5 (fun j201 =>
 B1 (ilt x199 (.int .i64 0)) fun v202 =>
 GD2 v202 false (
 B1 (lenx x196) fun v203 =>
 B1 (ige x199 v203) fun v204 =>
 GD2 v204 false (
 B1 (ia 1 x196 x199) fun v205 =>
 B1 (ld v205 h200) fun v206 =>
 B1 (ia 1 x196 x197) fun v207 =>
 B1 (ld v207 h200) fun v208 =>
 B1 (ige v206 v208) fun v209 =>
 j201 x195 x196 x197 x198 v209 h200) (
 j201 x195 x196 x197 x198 (.bool true) h200)) (
 j201 x195 x196 x197 x198 (.bool true) h200)) (fun x210 x211 x212 x213 x214 h215 =>
 CD x214 (
 some ((.bool false), h215)) (
 j186 x210 x211 x212 x213 h215)))) (fun x216 x217 x218 x219 h220 =>
 B1 (iadd x219 (.int .i64 1)) fun v221 =>
 j160 x216 x217 x218 v221 h220))

noncomputable def l_outriderlaw12_DefOrder2 (J : JT) (G : GT) (cf : CF) (j136 : K.Fn 0) (j158 : K.Fn 3) (j159 : K.Fn 3) : K.Fn 4 := LP 4 fun j160 => fun x161 x162 x163 x164 h165 => bl_outriderlaw12_DefOrder2 J G cf j136 j158 j159 j160 x161 x162 x163 x164 h165

theorem rl_outriderlaw12_DefOrder2 (J : JT) (G : GT) (cf : CF) (j136 : K.Fn 0) (j158 : K.Fn 3) (j159 : K.Fn 3) (j160 : K.Fn 4) (x161 x162 x163 x164 : AV) (h165 : Hp) : codeF P J G cf (nT P 5) (atC P 5 [1, 1, 1, 1, 1, 1, 1, 1, 1, 0, 1, 0, 0, 1, 0, 0, 1, 0, 0]) al_outriderlaw12_DefOrder2 (fun t H => app 4 j160 (vals [3, 7, 9, 10] t) H) (fun q t H => match Nat.beq q 4 with | true => app 3 j159 (vals [3, 7, 9] t) H | false => (fun q t H => match Nat.beq q 3 with | true => app 3 j158 (vals [3, 7, 9] t) H | false => (fun q t H => match Nat.beq q 2 with | true => app 0 j136 (vals [] t) H | false => (fun _ _ _ => none) q t H) q t H) q t H) (retK P 5) (mkT (nT P 5) [3, 7, 9, 10] [x161, x162, x163, x164]) h165 = bl_outriderlaw12_DefOrder2 J G cf j136 j158 j159 j160 x161 x162 x163 x164 h165 := by kernel_rfl

theorem dl_outriderlaw12_DefOrder2 (J : JT) (G : GT) (cf : CF) (j136 : K.Fn 0) (j158 : K.Fn 3) (j159 : K.Fn 3) : l_outriderlaw12_DefOrder2 J G cf j136 j158 j159 = loopF P J G cf (nT P 5) (atC P 5 [1, 1, 1, 1, 1, 1, 1, 1, 1, 0, 1, 0, 0, 1, 0, 0, 1, 0, 0]) al_outriderlaw12_DefOrder2 [3, 7, 9, 10] (fun q t H => match Nat.beq q 4 with | true => app 3 j159 (vals [3, 7, 9] t) H | false => (fun q t H => match Nat.beq q 3 with | true => app 3 j158 (vals [3, 7, 9] t) H | false => (fun q t H => match Nat.beq q 2 with | true => app 0 j136 (vals [] t) H | false => (fun _ _ _ => none) q t H) q t H) q t H) (retK P 5) := by
  unfold l_outriderlaw12_DefOrder2 loopF
  refine congrArg (LP 4) ?_
  funext j160 x161 x162 x163 x164 h165
  exact (rl_outriderlaw12_DefOrder2 J G cf j136 j158 j159 j160 x161 x162 x163 x164 h165).symm

theorem ql_outriderlaw12_DefOrder2 (cf : CF) (j136 : K.Fn 0) (j158 : K.Fn 3) (j159 : K.Fn 3) (x161 x162 x163 x164 : AV) (h165 : Hp) : l_outriderlaw12_DefOrder2 JN GO cf j136 j158 j159 x161 x162 x163 x164 h165 = bl_outriderlaw12_DefOrder2 JN GO cf j136 j158 j159 (l_outriderlaw12_DefOrder2 JN GO cf j136 j158 j159) x161 x162 x163 x164 h165 := by
  have h1 : l_outriderlaw12_DefOrder2 JN GO cf j136 j158 j159 x161 x162 x163 x164 h165 = app 4 (loopF P JN GO cf (nT P 5) (atC P 5 [1, 1, 1, 1, 1, 1, 1, 1, 1, 0, 1, 0, 0, 1, 0, 0, 1, 0, 0]) al_outriderlaw12_DefOrder2 [3, 7, 9, 10] (fun q t H => match Nat.beq q 4 with | true => app 3 j159 (vals [3, 7, 9] t) H | false => (fun q t H => match Nat.beq q 3 with | true => app 3 j158 (vals [3, 7, 9] t) H | false => (fun q t H => match Nat.beq q 2 with | true => app 0 j136 (vals [] t) H | false => (fun _ _ _ => none) q t H) q t H) q t H) (retK P 5)) [x161, x162, x163, x164] h165 := by rw [dl_outriderlaw12_DefOrder2]; kernel_rfl
  refine h1.trans ((loopF_eq (P := P) cf (nT P 5) (atC P 5 [1, 1, 1, 1, 1, 1, 1, 1, 1, 0, 1, 0, 0, 1, 0, 0, 1, 0, 0]) al_outriderlaw12_DefOrder2 [3, 7, 9, 10] (fun q t H => match Nat.beq q 4 with | true => app 3 j159 (vals [3, 7, 9] t) H | false => (fun q t H => match Nat.beq q 3 with | true => app 3 j158 (vals [3, 7, 9] t) H | false => (fun q t H => match Nat.beq q 2 with | true => app 0 j136 (vals [] t) H | false => (fun _ _ _ => none) q t H) q t H) q t H) (retK P 5) [x161, x162, x163, x164] rfl h165).trans ((rl_outriderlaw12_DefOrder2 JN GO cf j136 j158 j159 _ x161 x162 x163 x164 h165).trans ?_))
  rw [dl_outriderlaw12_DefOrder2]

def al_outriderlaw12_DefOrder1 : An := (.sq (some [3, 7, 9]) (.sq (some [3, 7, 9, 74]) .nl (.cd .nl .nl)) (.sq (some [3, 7, 9]) (.bl (some [3, 7, 9]) (.sq none .nl (.bl (some [3, 7, 9]) (.lp [3, 7, 9, 10] (.sq (some [3, 7, 9, 10]) (.sq (some [3, 7, 9, 10, 85]) .nl (.cd .nl .nl)) (.sq (some [3, 7, 9, 10]) (.bl none (.sq (some [3, 7, 9, 10, 11]) .nl (.sq (some [3, 7, 9, 10, 115]) .nl (.cd (.sq none .nl .nl) .nl)))) .nl)))))) .nl))

noncomputable def bl_outriderlaw12_DefOrder1 (J : JT) (G : GT) (cf : CF) (j136 : K.Fn 0) (j137 : K.Fn 3) (x138 x139 x140 : AV) (h141 : Hp) : R :=
 J 3 (fun j142 =>
 J 4 (fun j143 =>
 B1 (fa 0 x138) fun v144 =>
 B1 (ld v144 h141) fun v145 =>
 B1 (lenx v145) fun v146 =>
 B1 (ilt x140 v146) fun v147 =>
 j143 x138 x139 x140 v147 h141) (fun x148 x149 x150 x151 h152 =>
 CD x151 (
 j142 x148 x149 x150 h152) (
 j136  h152))) (fun x153 x154 x155 h156 =>
 J 3 (fun j157 =>
 J 3 (fun j158 =>
 J 3 (fun j159 =>
 l_outriderlaw12_DefOrder2 J G cf j136 j158 j159 x153 x154 x155 (.int .i64 0) h156) (fun x222 x223 x224 h225 =>
 j158 x222 x223 x224 h225)) (fun x226 x227 x228 h229 =>
 j157 x226 x227 x228 h229)) (fun x230 x231 x232 h233 =>
 B1 (iadd x232 (.int .i64 1)) fun v234 =>
 j137 x230 x231 v234 h233))

noncomputable def l_outriderlaw12_DefOrder1 (J : JT) (G : GT) (cf : CF) (j136 : K.Fn 0) : K.Fn 3 := LP 3 fun j137 => fun x138 x139 x140 h141 => bl_outriderlaw12_DefOrder1 J G cf j136 j137 x138 x139 x140 h141

theorem rl_outriderlaw12_DefOrder1 (J : JT) (G : GT) (cf : CF) (j136 : K.Fn 0) (j137 : K.Fn 3) (x138 x139 x140 : AV) (h141 : Hp) : codeF P J G cf (nT P 5) (atC P 5 [1, 1, 1, 1, 1, 1, 1, 1, 1, 0, 1, 0, 0]) al_outriderlaw12_DefOrder1 (fun t H => app 3 j137 (vals [3, 7, 9] t) H) (fun q t H => match Nat.beq q 2 with | true => app 0 j136 (vals [] t) H | false => (fun _ _ _ => none) q t H) (retK P 5) (mkT (nT P 5) [3, 7, 9] [x138, x139, x140]) h141 = bl_outriderlaw12_DefOrder1 J G cf j136 j137 x138 x139 x140 h141 := by kernel_rfl

theorem dl_outriderlaw12_DefOrder1 (J : JT) (G : GT) (cf : CF) (j136 : K.Fn 0) : l_outriderlaw12_DefOrder1 J G cf j136 = loopF P J G cf (nT P 5) (atC P 5 [1, 1, 1, 1, 1, 1, 1, 1, 1, 0, 1, 0, 0]) al_outriderlaw12_DefOrder1 [3, 7, 9] (fun q t H => match Nat.beq q 2 with | true => app 0 j136 (vals [] t) H | false => (fun _ _ _ => none) q t H) (retK P 5) := by
  unfold l_outriderlaw12_DefOrder1 loopF
  refine congrArg (LP 3) ?_
  funext j137 x138 x139 x140 h141
  exact (rl_outriderlaw12_DefOrder1 J G cf j136 j137 x138 x139 x140 h141).symm

theorem ql_outriderlaw12_DefOrder1 (cf : CF) (j136 : K.Fn 0) (x138 x139 x140 : AV) (h141 : Hp) : l_outriderlaw12_DefOrder1 JN GO cf j136 x138 x139 x140 h141 = bl_outriderlaw12_DefOrder1 JN GO cf j136 (l_outriderlaw12_DefOrder1 JN GO cf j136) x138 x139 x140 h141 := by
  have h1 : l_outriderlaw12_DefOrder1 JN GO cf j136 x138 x139 x140 h141 = app 3 (loopF P JN GO cf (nT P 5) (atC P 5 [1, 1, 1, 1, 1, 1, 1, 1, 1, 0, 1, 0, 0]) al_outriderlaw12_DefOrder1 [3, 7, 9] (fun q t H => match Nat.beq q 2 with | true => app 0 j136 (vals [] t) H | false => (fun _ _ _ => none) q t H) (retK P 5)) [x138, x139, x140] h141 := by rw [dl_outriderlaw12_DefOrder1]; kernel_rfl
  refine h1.trans ((loopF_eq (P := P) cf (nT P 5) (atC P 5 [1, 1, 1, 1, 1, 1, 1, 1, 1, 0, 1, 0, 0]) al_outriderlaw12_DefOrder1 [3, 7, 9] (fun q t H => match Nat.beq q 2 with | true => app 0 j136 (vals [] t) H | false => (fun _ _ _ => none) q t H) (retK P 5) [x138, x139, x140] rfl h141).trans ((rl_outriderlaw12_DefOrder1 JN GO cf j136 _ x138 x139 x140 h141).trans ?_))
  rw [dl_outriderlaw12_DefOrder1]

noncomputable def s_outriderlaw12_DefOrder (J : JT) (G : GT) (cf : CF) (a0 : AV) (H : Hp) : R :=
 B2 (cf (.func (.func 8) [] []) [] H) fun v0 h1 =>
 B1 (unA .not v0) fun v2 =>
 CD v2 (
 some ((.bool false), h1)) (
 B1 (lens a0) fun v3 =>
 B1 (igt v3 (.int .i64 1024)) fun v4 =>
 CD v4 (
 some ((.bool true), h1)) (
 J 2 (fun j5 =>
 B2 (cf (.func (.func 9) [] []) [a0] h1) fun v6 h7 =>
 B1 (ex 0 v6) fun v8 =>
 B1 (ex 1 v6) fun v9 =>
 BN (newCells h7 [.slice0] 25 0) fun i10 h11 =>
 B1 (st 1 (.ptr i10 0) v8 h11) fun h12 =>
 j5 (.ptr i10 0) v9 h12) (fun x13 x14 h15 =>
 B1 (ine x14 (.int .i64 0)) fun v16 =>
 CD v16 (
 some ((.bool true), h15)) (
 J 3 (fun j17 =>
 B1 (lda 1 x13 h15) fun v18 =>
 B2 (cf (.func (.func 15) [] []) [v18] h15) fun v19 h20 =>
 B2 (cf (.func (.func 20) [] []) [v19] h20) fun v21 h22 =>
 B1 (ex 0 v21) fun v23 =>
 B1 (ex 1 v21) fun v24 =>
 j17 x13 v23 v24 h22) (fun x25 x26 x27 h28 =>
 J 2 (fun j29 =>
 J 3 (fun j30 =>
 B1 (unA .not x27) fun v31 =>
 G v31 false (fun k32 =>
 k32 x26 h28) (fun v33 h34 =>
 G v31 false (fun k35 =>
 B1 (lenx v33) fun v36 =>
 k35 v36 h34) (fun v37 h38 =>
 G v31 false (fun k39 =>
 B1 (fa 0 x25) fun v40 =>
 k39 v40 h38) (fun v41 h42 =>
 G v31 false (fun k43 =>
 B1 (ld v41 h42) fun v44 =>
 k43 v44 h42) (fun v45 h46 =>
 G v31 false (fun k47 =>
 B1 (lenx v45) fun v48 =>
 k47 v48 h46) (fun v49 h50 =>
 G v31 false (fun k51 =>
 B1 (ine v37 v49) fun v52 =>
 k51 v52 h50) (fun v53 h54 =>
 B1 (pk v31 (.bool true) v53) fun v55 =>
 j30 x25 x26 v55 h54) h50) h46) h42) h38) h34) h28) (fun x56 x57 x58 h59 =>
 CD x58 (
 some ((.bool false), h59)) (
 j29 x56 x57 h59))) (fun x60 x61 h62 =>
 B1 (lenx x61) fun v63 =>
 B2 (mks [(.int .i64 0)] 3 1 v63 v63 h62) fun v64 h65 =>
 J 2 (fun j66 =>
 J 2 (fun j67 =>
 l_outriderlaw12_DefOrder J G cf j67 x60 x61 v64 (.int .i64 0) h65) (fun x129 x130 h131 =>
 j66 x129 x130 h131)) (fun x132 x133 h134 =>
 J 0 (fun j135 =>
 J 0 (fun j136 =>
 l_outriderlaw12_DefOrder1 J G cf j136 x132 x133 (.int .i64 0) h134) (fun  h235 =>
 j135  h235)) (fun  h236 =>
 some ((.bool true), h236)))))))))

theorem e_outriderlaw12_DefOrder (J : JT) (G : GT) (cf : CF) (a0 : AV) (H : Hp) : callF P J G prim an cf 5 [a0] H = s_outriderlaw12_DefOrder J G cf a0 H := by kernel_rfl

theorem c_outriderlaw12_DefOrder {a0 : AV} {H : Hp} {r : AV × Hp} (h : s_outriderlaw12_DefOrder JN GO cK a0 H = some r) : cK (.func (.func 5) [] []) [a0] H = some r := callF_fix (first := []) (cap := []) ((e_outriderlaw12_DefOrder JN GO _ a0 H).trans h)

end
end Go.Proofs.YthljbjokonglhaaGreatDoor.DfK
