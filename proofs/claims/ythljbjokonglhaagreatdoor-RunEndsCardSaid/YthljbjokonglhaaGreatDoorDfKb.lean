/- Plain forms of functions, printed by a program of our own, and that the evaluator's reading of each is its plain form (of no conditions). -/
import Derived.Test.YthljbjokonglhaaGreatDoorDfK
namespace Go.Proofs.YthljbjokonglhaaGreatDoor.DfK
open Go Am Am.K DfEnv
set_option linter.unusedVariables false
set_option maxRecDepth 100000
noncomputable section
def al_def_Graph1 : An := (.sq none .nl (.sq none (.cd .nl .nl) (.sq (some [1, 2, 3, 4, 14, 15, 16, 22, 23, 24]) (.bl (some [1, 2, 3, 4, 14, 15, 16, 22, 23, 24]) (.sq none .nl (.sq (some [1, 2, 3, 4, 7, 8, 14, 15, 16, 22, 23, 24]) .nl (.sq (some [1, 2, 3, 4, 8, 14, 15, 16, 22, 23, 24, 48]) .nl (.cd .nl .nl))))) .nl)))

noncomputable def bl_def_Graph1 (J : JT) (G : GT) (cf : CF) (j20 : K.Fn 2) (j31 : K.Fn 6) (j50 : K.Fn 6) (j51 : K.Fn 10) (x52 x53 x54 x55 x56 x57 x58 x59 x60 x61 : AV) (h62 : Hp) : R :=
 B1 (ilt x61 x60) fun v63 =>
 CD v63 (
 J 10 (fun j64 =>
 J 10 (fun j65 =>
 B1 (ia 1 x59 x61) fun v66 =>
 B1 (ld v66 h62) fun v67 =>
 J 12 (fun j68 =>
 B1 (fl [(.int .i64 0), (.int .i64 0)] [(0, 1, v67), (1, 1, x55)]) fun l69 =>
 BN (newCells h62 [(.int .i64 0), (.int .i64 0)] 83 0) fun i70 h71 =>
 B1 (st 2 (.ptr i70 0) (.agg l69) h71) fun h72 =>
 j68 x52 x53 x54 x55 v67 (.ptr i70 0) x56 x57 x58 x59 x60 x61 h72) (fun x73 x74 x75 x76 x77 x78 x79 x80 x81 x82 x83 x84 h85 =>
 J 12 (fun j86 =>
 B1 (fa 0 x73) fun v87 =>
 B1 (ld v87 h85) fun v88 =>
 B1 (lenx v88) fun v89 =>
 B1 (isub v89 (.int .i64 1)) fun v90 =>
 B2 (cf (.func (.func 32) [] []) [x77, (.int .i64 0), v90] h85) fun v91 h92 =>
 G v91 true (fun k93 =>
 k93 x77 h92) (fun v94 h95 =>
 G v91 true (fun k96 =>
 k96 x76 h95) (fun v97 h98 =>
 G v91 true (fun k99 =>
 B1 (ine v94 v97) fun v100 =>
 k99 v100 h98) (fun v101 h102 =>
 B1 (pk v91 v101 (.bool false)) fun v103 =>
 G v103 true (fun k104 =>
 B1 (fa 1 x75) fun v105 =>
 k104 v105 h102) (fun v106 h107 =>
 G v103 true (fun k108 =>
 B1 (ld v106 h107) fun v109 =>
 k108 v109 h107) (fun v110 h111 =>
 G v103 true (fun k112 =>
 B1 (lda 2 x78 h111) fun v113 =>
 k112 v113 h111) (fun v114 h115 =>
 G v103 true (fun k116 =>
 B2 (cf (.func (.func 42) [] []) [v110, v114] h115) fun v117 h118 =>
 k116 v117 h118) (fun v119 h120 =>
 G v103 true (fun k121 =>
 B1 (unA .not v119) fun v122 =>
 k121 v122 h120) (fun v123 h124 =>
 B1 (pk v103 v123 (.bool false)) fun v125 =>
 j86 x73 x74 x75 x76 x78 x79 x80 x81 x82 x83 x84 v125 h124) h120) h115) h111) h107) h102) h98) h95) h92) (fun x126 x127 x128 x129 x130 x131 x132 x133 x134 x135 x136 x137 h138 =>
 CD x137 (
 B1 (fa 1 x128) fun v139 =>
 B1 (ld v139 h138) fun v140 =>
 B1 (lda 2 x130 h138) fun v141 =>
 B1 (fl [(.int .i64 0), (.int .i64 0)] [(0, 2, v141)]) fun l142 =>
 BN (newCells h138 l142 83 0) fun i143 h144 =>
 B2 (app' 83 2 [(.int .i64 0), (.int .i64 0)] false v140 (.slice i143 0 1 1 true 2) h144) fun v145 h146 =>
 B1 (fa 1 x128) fun v147 =>
 B1 (st 1 v147 v145 h146) fun h148 =>
 j65 x126 x127 x128 x129 x131 x132 x133 x134 x135 x136 h148) (
 j65 x126 x127 x128 x129 x131 x132 x133 x134 x135 x136 h138)))) (fun x149 x150 x151 x152 x153 x154 x155 x156 x157 x158 h159 =>
 j64 x149 x150 x151 x152 x153 x154 x155 x156 x157 x158 h159)) (fun x160 x161 x162 x163 x164 x165 x166 x167 x168 x169 h170 =>
 B1 (iadd x169 (.int .i64 1)) fun v171 =>
 j51 x160 x161 x162 x163 x164 x165 x166 x167 x168 v171 h170)) (
 j50 x52 x53 x54 x56 x57 x58 h62)

noncomputable def l_def_Graph1 (J : JT) (G : GT) (cf : CF) (j20 : K.Fn 2) (j31 : K.Fn 6) (j50 : K.Fn 6) : K.Fn 10 := LP 10 fun j51 => fun x52 x53 x54 x55 x56 x57 x58 x59 x60 x61 h62 => bl_def_Graph1 J G cf j20 j31 j50 j51 x52 x53 x54 x55 x56 x57 x58 x59 x60 x61 h62

theorem rl_def_Graph1 (J : JT) (G : GT) (cf : CF) (j20 : K.Fn 2) (j31 : K.Fn 6) (j50 : K.Fn 6) (j51 : K.Fn 10) (x52 x53 x54 x55 x56 x57 x58 x59 x60 x61 : AV) (h62 : Hp) : codeF P J G cf (nT P 15) (atC P 15 [1, 1, 0, 1, 0, 0, 1, 1, 0, 0, 1, 1, 0, 0]) al_def_Graph1 (fun t H => app 10 j51 (vals [1, 2, 3, 4, 14, 15, 16, 22, 23, 24] t) H) (fun q t H => match Nat.beq q 2 with | true => app 6 j50 (vals [1, 2, 3, 14, 15, 16] t) H | false => (fun q t H => match Nat.beq q 1 with | true => app 6 j31 (vals [1, 2, 3, 14, 15, 16] t) H | false => (fun q t H => match Nat.beq q 0 with | true => app 2 j20 (vals [2, 3] t) H | false => (fun _ _ _ => none) q t H) q t H) q t H) (retK P 15) (mkT (nT P 15) [1, 2, 3, 4, 14, 15, 16, 22, 23, 24] [x52, x53, x54, x55, x56, x57, x58, x59, x60, x61]) h62 = bl_def_Graph1 J G cf j20 j31 j50 j51 x52 x53 x54 x55 x56 x57 x58 x59 x60 x61 h62 := by kernel_rfl

theorem dl_def_Graph1 (J : JT) (G : GT) (cf : CF) (j20 : K.Fn 2) (j31 : K.Fn 6) (j50 : K.Fn 6) : l_def_Graph1 J G cf j20 j31 j50 = loopF P J G cf (nT P 15) (atC P 15 [1, 1, 0, 1, 0, 0, 1, 1, 0, 0, 1, 1, 0, 0]) al_def_Graph1 [1, 2, 3, 4, 14, 15, 16, 22, 23, 24] (fun q t H => match Nat.beq q 2 with | true => app 6 j50 (vals [1, 2, 3, 14, 15, 16] t) H | false => (fun q t H => match Nat.beq q 1 with | true => app 6 j31 (vals [1, 2, 3, 14, 15, 16] t) H | false => (fun q t H => match Nat.beq q 0 with | true => app 2 j20 (vals [2, 3] t) H | false => (fun _ _ _ => none) q t H) q t H) q t H) (retK P 15) := by
  unfold l_def_Graph1 loopF
  refine congrArg (LP 10) ?_
  funext j51 x52 x53 x54 x55 x56 x57 x58 x59 x60 x61 h62
  exact (rl_def_Graph1 J G cf j20 j31 j50 j51 x52 x53 x54 x55 x56 x57 x58 x59 x60 x61 h62).symm

theorem ql_def_Graph1 (cf : CF) (j20 : K.Fn 2) (j31 : K.Fn 6) (j50 : K.Fn 6) (x52 x53 x54 x55 x56 x57 x58 x59 x60 x61 : AV) (h62 : Hp) : l_def_Graph1 JN GO cf j20 j31 j50 x52 x53 x54 x55 x56 x57 x58 x59 x60 x61 h62 = bl_def_Graph1 JN GO cf j20 j31 j50 (l_def_Graph1 JN GO cf j20 j31 j50) x52 x53 x54 x55 x56 x57 x58 x59 x60 x61 h62 := by
  have h1 : l_def_Graph1 JN GO cf j20 j31 j50 x52 x53 x54 x55 x56 x57 x58 x59 x60 x61 h62 = app 10 (loopF P JN GO cf (nT P 15) (atC P 15 [1, 1, 0, 1, 0, 0, 1, 1, 0, 0, 1, 1, 0, 0]) al_def_Graph1 [1, 2, 3, 4, 14, 15, 16, 22, 23, 24] (fun q t H => match Nat.beq q 2 with | true => app 6 j50 (vals [1, 2, 3, 14, 15, 16] t) H | false => (fun q t H => match Nat.beq q 1 with | true => app 6 j31 (vals [1, 2, 3, 14, 15, 16] t) H | false => (fun q t H => match Nat.beq q 0 with | true => app 2 j20 (vals [2, 3] t) H | false => (fun _ _ _ => none) q t H) q t H) q t H) (retK P 15)) [x52, x53, x54, x55, x56, x57, x58, x59, x60, x61] h62 := by rw [dl_def_Graph1]; kernel_rfl
  refine h1.trans ((loopF_eq (P := P) cf (nT P 15) (atC P 15 [1, 1, 0, 1, 0, 0, 1, 1, 0, 0, 1, 1, 0, 0]) al_def_Graph1 [1, 2, 3, 4, 14, 15, 16, 22, 23, 24] (fun q t H => match Nat.beq q 2 with | true => app 6 j50 (vals [1, 2, 3, 14, 15, 16] t) H | false => (fun q t H => match Nat.beq q 1 with | true => app 6 j31 (vals [1, 2, 3, 14, 15, 16] t) H | false => (fun q t H => match Nat.beq q 0 with | true => app 2 j20 (vals [2, 3] t) H | false => (fun _ _ _ => none) q t H) q t H) q t H) (retK P 15) [x52, x53, x54, x55, x56, x57, x58, x59, x60, x61] rfl h62).trans ((rl_def_Graph1 JN GO cf j20 j31 j50 _ x52 x53 x54 x55 x56 x57 x58 x59 x60 x61 h62).trans ?_))
  rw [dl_def_Graph1]

def al_def_Graph : An := (.sq none .nl (.sq none (.cd .nl .nl) (.sq (some [1, 2, 3, 14, 15, 16]) (.bl (some [1, 2, 3, 14, 15, 16]) (.sq (some [1, 2, 3, 4, 5, 14, 15, 16]) .nl (.sq none .nl (.bl (some [1, 2, 3, 14, 15, 16]) (.lp [1, 2, 3, 4, 14, 15, 16, 22, 23, 24] (.sq none .nl (.sq none (.cd .nl .nl) (.sq (some [1, 2, 3, 4, 14, 15, 16, 22, 23, 24]) (.bl (some [1, 2, 3, 4, 14, 15, 16, 22, 23, 24]) (.sq none .nl (.sq (some [1, 2, 3, 4, 7, 8, 14, 15, 16, 22, 23, 24]) .nl (.sq (some [1, 2, 3, 4, 8, 14, 15, 16, 22, 23, 24, 48]) .nl (.cd .nl .nl))))) .nl)))))))) .nl)))

noncomputable def bl_def_Graph (J : JT) (G : GT) (cf : CF) (j20 : K.Fn 2) (j21 : K.Fn 6) (x22 x23 x24 x25 x26 x27 : AV) (h28 : Hp) : R :=
 B1 (ilt x27 x26) fun v29 =>
 CD v29 (
 J 6 (fun j30 =>
 J 6 (fun j31 =>
 J 8 (fun j32 =>
 B1 (ia 6 x25 x27) fun v33 =>
 B1 (lda 6 v33 h28) fun v34 =>
 BN (newCells h28 [(.str []), .slice0, (.int .i64 0), (.int .i64 0), (.int .i64 0), (.str [])] 43 0) fun i35 h36 =>
 B1 (st 6 (.ptr i35 0) v34 h36) fun h37 =>
 j32 x22 x23 x24 x27 (.ptr i35 0) x25 x26 x27 h37) (fun x38 x39 x40 x41 x42 x43 x44 x45 h46 =>
 B1 (fa 1 x42) fun v47 =>
 B1 (ld v47 h46) fun v48 =>
 B1 (lenx v48) fun v49 =>
 J 6 (fun j50 =>
 l_def_Graph1 J G cf j20 j31 j50 x38 x39 x40 x41 x43 x44 x45 v48 v49 (.int .i64 0) h46) (fun x172 x173 x174 x175 x176 x177 h178 =>
 j31 x172 x173 x174 x175 x176 x177 h178))) (fun x179 x180 x181 x182 x183 x184 h185 =>
 j30 x179 x180 x181 x182 x183 x184 h185)) (fun x186 x187 x188 x189 x190 x191 h192 =>
 B1 (iadd x191 (.int .i64 1)) fun v193 =>
 j21 x186 x187 x188 x189 x190 v193 h192)) (
 j20 x23 x24 h28)

noncomputable def l_def_Graph (J : JT) (G : GT) (cf : CF) (j20 : K.Fn 2) : K.Fn 6 := LP 6 fun j21 => fun x22 x23 x24 x25 x26 x27 h28 => bl_def_Graph J G cf j20 j21 x22 x23 x24 x25 x26 x27 h28

theorem rl_def_Graph (J : JT) (G : GT) (cf : CF) (j20 : K.Fn 2) (j21 : K.Fn 6) (x22 x23 x24 x25 x26 x27 : AV) (h28 : Hp) : codeF P J G cf (nT P 15) (atC P 15 [1, 1, 0, 1, 0, 0]) al_def_Graph (fun t H => app 6 j21 (vals [1, 2, 3, 14, 15, 16] t) H) (fun q t H => match Nat.beq q 0 with | true => app 2 j20 (vals [2, 3] t) H | false => (fun _ _ _ => none) q t H) (retK P 15) (mkT (nT P 15) [1, 2, 3, 14, 15, 16] [x22, x23, x24, x25, x26, x27]) h28 = bl_def_Graph J G cf j20 j21 x22 x23 x24 x25 x26 x27 h28 := by kernel_rfl

theorem dl_def_Graph (J : JT) (G : GT) (cf : CF) (j20 : K.Fn 2) : l_def_Graph J G cf j20 = loopF P J G cf (nT P 15) (atC P 15 [1, 1, 0, 1, 0, 0]) al_def_Graph [1, 2, 3, 14, 15, 16] (fun q t H => match Nat.beq q 0 with | true => app 2 j20 (vals [2, 3] t) H | false => (fun _ _ _ => none) q t H) (retK P 15) := by
  unfold l_def_Graph loopF
  refine congrArg (LP 6) ?_
  funext j21 x22 x23 x24 x25 x26 x27 h28
  exact (rl_def_Graph J G cf j20 j21 x22 x23 x24 x25 x26 x27 h28).symm

theorem ql_def_Graph (cf : CF) (j20 : K.Fn 2) (x22 x23 x24 x25 x26 x27 : AV) (h28 : Hp) : l_def_Graph JN GO cf j20 x22 x23 x24 x25 x26 x27 h28 = bl_def_Graph JN GO cf j20 (l_def_Graph JN GO cf j20) x22 x23 x24 x25 x26 x27 h28 := by
  have h1 : l_def_Graph JN GO cf j20 x22 x23 x24 x25 x26 x27 h28 = app 6 (loopF P JN GO cf (nT P 15) (atC P 15 [1, 1, 0, 1, 0, 0]) al_def_Graph [1, 2, 3, 14, 15, 16] (fun q t H => match Nat.beq q 0 with | true => app 2 j20 (vals [2, 3] t) H | false => (fun _ _ _ => none) q t H) (retK P 15)) [x22, x23, x24, x25, x26, x27] h28 := by rw [dl_def_Graph]; kernel_rfl
  refine h1.trans ((loopF_eq (P := P) cf (nT P 15) (atC P 15 [1, 1, 0, 1, 0, 0]) al_def_Graph [1, 2, 3, 14, 15, 16] (fun q t H => match Nat.beq q 0 with | true => app 2 j20 (vals [2, 3] t) H | false => (fun _ _ _ => none) q t H) (retK P 15) [x22, x23, x24, x25, x26, x27] rfl h28).trans ((rl_def_Graph JN GO cf j20 _ x22 x23 x24 x25 x26 x27 h28).trans ?_))
  rw [dl_def_Graph]

noncomputable def s_def_Graph (J : JT) (G : GT) (cf : CF) (a0 : AV) (H : Hp) : R :=
 BN (bx 25 a0 H) fun i0 h1 =>
 BN (newCells h1 [(.int .i64 0), .slice0] 39 0) fun i2 h3 =>
 J 3 (fun j4 =>
 B1 (fa 0 (.ptr i0 0)) fun v5 =>
 B1 (ld v5 h3) fun v6 =>
 B1 (lenx v6) fun v7 =>
 B1 (fl [(.int .i64 0), .slice0] [(0, 1, v7)]) fun l8 =>
 BN (newCells h3 [(.int .i64 0), .slice0] 39 0) fun i9 h10 =>
 B1 (st 2 (.ptr i9 0) (.agg l8) h10) fun h11 =>
 j4 (.ptr i0 0) (.ptr i2 0) (.ptr i9 0) h11) (fun x12 x13 x14 h15 =>
 J 2 (fun j16 =>
 B1 (fa 0 x12) fun v17 =>
 B1 (ld v17 h15) fun v18 =>
 B1 (lenx v18) fun v19 =>
 J 2 (fun j20 =>
 l_def_Graph J G cf j20 x12 x13 x14 v18 v19 (.int .i64 0) h15) (fun x194 x195 h196 =>
 j16 x194 x195 h196)) (fun x197 x198 h199 =>
 B1 (lda 2 x198 h199) fun v200 =>
 B1 (st 2 x197 v200 h199) fun h201 =>
 B1 (lda 2 x197 h201) fun v202 =>
 some (v202, h201)))

theorem e_def_Graph (J : JT) (G : GT) (cf : CF) (a0 : AV) (H : Hp) : callF P J G prim an cf 15 [a0] H = s_def_Graph J G cf a0 H := by kernel_rfl

theorem c_def_Graph {a0 : AV} {H : Hp} {r : AV × Hp} (h : s_def_Graph JN GO cK a0 H = some r) : cK (.func (.func 15) [] []) [a0] H = some r := callF_fix (first := []) (cap := []) ((e_def_Graph JN GO _ a0 H).trans h)

noncomputable def s_run_New (J : JT) (G : GT) (cf : CF) (a0 : AV) (H : Hp) : R :=
 BN (bx 25 a0 H) fun i0 h1 =>
 BN (newCells h1 [.slice0, (.int .i64 0), .slice0, .slice0] 47 0) fun i2 h3 =>
 J 2 (fun j4 =>
 B1 (lda 1 (.ptr i0 0) h3) fun v5 =>
 B2 (cf (.func (.func 11) [] []) [v5] h3) fun v6 h7 =>
 B1 (ine v6 (.int .i64 0)) fun v8 =>
 CD v8 (
 B1 (fl [.slice0, (.int .i64 0), .slice0, .slice0] []) fun l9 =>
 B1 (st 4 (.ptr i2 0) (.agg l9) h7) fun h10 =>
 B1 (lda 4 (.ptr i2 0) h10) fun v11 =>
 some (.tuple [v11, v6], h10)) (
 j4 (.ptr i0 0) (.ptr i2 0) h7)) (fun x12 x13 h14 =>
 J 2 (fun j15 =>
 B1 (lda 1 x12 h14) fun v16 =>
 B1 (fa 0 x12) fun v17 =>
 B1 (ld v17 h14) fun v18 =>
 B1 (lenx v18) fun v19 =>
 B2 (mks [(.int .i64 0), (.int .i64 0), (.int .i64 0), (.str [])] 51 4 v19 v19 h14) fun v20 h21 =>
 B1 (fl [.slice0, (.int .i64 0), .slice0, .slice0] [(0, 1, v16), (2, 1, v20)]) fun l22 =>
 B2 (cf (.func (.func 44) [] []) [(.agg l22)] h21) fun v23 h24 =>
 BN (newCells h24 [.slice0, (.int .i64 0), .slice0, .slice0] 47 0) fun i25 h26 =>
 B1 (st 4 (.ptr i25 0) v23 h26) fun h27 =>
 B1 (lda 1 x12 h21) fun v28 =>
 SM v16 v28 <|
 j15 x13 (.ptr i25 0) h27) (fun x29 x30 h31 =>
 B2 (cf (.func (.func 45) [] []) [x30] h31) fun v32 h33 =>
 B1 (lda 4 x30 h33) fun v34 =>
 B1 (st 4 x29 v34 h33) fun h35 =>
 B1 (lda 4 x29 h35) fun v36 =>
 some (.tuple [v36, (.int .i64 0)], h35)))

theorem e_run_New (J : JT) (G : GT) (cf : CF) (a0 : AV) (H : Hp) : callF P J G prim an cf 17 [a0] H = s_run_New J G cf a0 H := by kernel_rfl

theorem c_run_New {a0 : AV} {H : Hp} {r : AV × Hp} (h : s_run_New JN GO cK a0 H = some r) : cK (.func (.func 17) [] []) [a0] H = some r := callF_fix (first := []) (cap := []) ((e_run_New JN GO _ a0 H).trans h)

def al__run_Run_clone : An := (.sq none .nl (.sq none (.cd .nl .nl) (.sq (some [1, 2, 13, 14, 15]) (.bl none (.sq (some [1, 2, 3, 4, 13, 14, 15]) .nl .nl)) .nl)))

noncomputable def bl__run_Run_clone (J : JT) (G : GT) (cf : CF) (j28 : K.Fn 2) (j29 : K.Fn 5) (x30 x31 x32 x33 x34 : AV) (h35 : Hp) : R :=
 B1 (ilt x34 x33) fun v36 =>
 CD v36 (
 J 5 (fun j37 =>
 J 7 (fun j38 =>
 B1 (ia 6 x32 x34) fun v39 =>
 B1 (lda 6 v39 h35) fun v40 =>
 BN (newCells h35 [(.str []), .slice0, (.int .i64 0), (.int .i64 0), (.int .i64 0), (.str [])] 43 0) fun i41 h42 =>
 B1 (st 6 (.ptr i41 0) v40 h42) fun h43 =>
 j38 x30 x31 x34 (.ptr i41 0) x32 x33 x34 h43) (fun x44 x45 x46 x47 x48 x49 x50 h51 =>
 B1 (fa 0 x44) fun v52 =>
 B1 (fa 0 v52) fun v53 =>
 B1 (ld v53 h51) fun v54 =>
 B1 (fa 1 x47) fun v55 =>
 B1 (ld v55 h51) fun v56 =>
 B2 (cf (.func (.func 75) [] []) [v56] h51) fun v57 h58 =>
 B1 (ia 6 v54 x46) fun v59 =>
 B1 (fa 1 v59) fun v60 =>
 B1 (st 1 v60 v57 h58) fun h61 =>
 B1 (ld v53 h58) fun v62 =>
 SM v54 v62 <|
 j37 x44 x45 x48 x49 x50 h61)) (fun x63 x64 x65 x66 x67 h68 =>
 B1 (iadd x67 (.int .i64 1)) fun v69 =>
 j29 x63 x64 x65 x66 v69 h68)) (
 j28 x30 x31 h35)

noncomputable def l__run_Run_clone (J : JT) (G : GT) (cf : CF) (j28 : K.Fn 2) : K.Fn 5 := LP 5 fun j29 => fun x30 x31 x32 x33 x34 h35 => bl__run_Run_clone J G cf j28 j29 x30 x31 x32 x33 x34 h35

theorem rl__run_Run_clone (J : JT) (G : GT) (cf : CF) (j28 : K.Fn 2) (j29 : K.Fn 5) (x30 x31 x32 x33 x34 : AV) (h35 : Hp) : codeF P J G cf (nT P 44) (atC P 44 [1, 1, 0, 1, 0, 0]) al__run_Run_clone (fun t H => app 5 j29 (vals [1, 2, 13, 14, 15] t) H) (fun q t H => match Nat.beq q 0 with | true => app 2 j28 (vals [1, 2] t) H | false => (fun _ _ _ => none) q t H) (retK P 44) (mkT (nT P 44) [1, 2, 13, 14, 15] [x30, x31, x32, x33, x34]) h35 = bl__run_Run_clone J G cf j28 j29 x30 x31 x32 x33 x34 h35 := by kernel_rfl

theorem dl__run_Run_clone (J : JT) (G : GT) (cf : CF) (j28 : K.Fn 2) : l__run_Run_clone J G cf j28 = loopF P J G cf (nT P 44) (atC P 44 [1, 1, 0, 1, 0, 0]) al__run_Run_clone [1, 2, 13, 14, 15] (fun q t H => match Nat.beq q 0 with | true => app 2 j28 (vals [1, 2] t) H | false => (fun _ _ _ => none) q t H) (retK P 44) := by
  unfold l__run_Run_clone loopF
  refine congrArg (LP 5) ?_
  funext j29 x30 x31 x32 x33 x34 h35
  exact (rl__run_Run_clone J G cf j28 j29 x30 x31 x32 x33 x34 h35).symm

theorem ql__run_Run_clone (cf : CF) (j28 : K.Fn 2) (x30 x31 x32 x33 x34 : AV) (h35 : Hp) : l__run_Run_clone JN GO cf j28 x30 x31 x32 x33 x34 h35 = bl__run_Run_clone JN GO cf j28 (l__run_Run_clone JN GO cf j28) x30 x31 x32 x33 x34 h35 := by
  have h1 : l__run_Run_clone JN GO cf j28 x30 x31 x32 x33 x34 h35 = app 5 (loopF P JN GO cf (nT P 44) (atC P 44 [1, 1, 0, 1, 0, 0]) al__run_Run_clone [1, 2, 13, 14, 15] (fun q t H => match Nat.beq q 0 with | true => app 2 j28 (vals [1, 2] t) H | false => (fun _ _ _ => none) q t H) (retK P 44)) [x30, x31, x32, x33, x34] h35 := by rw [dl__run_Run_clone]; kernel_rfl
  refine h1.trans ((loopF_eq (P := P) cf (nT P 44) (atC P 44 [1, 1, 0, 1, 0, 0]) al__run_Run_clone [1, 2, 13, 14, 15] (fun q t H => match Nat.beq q 0 with | true => app 2 j28 (vals [1, 2] t) H | false => (fun _ _ _ => none) q t H) (retK P 44) [x30, x31, x32, x33, x34] rfl h35).trans ((rl__run_Run_clone JN GO cf j28 _ x30 x31 x32 x33 x34 h35).trans ?_))
  rw [dl__run_Run_clone]

noncomputable def s__run_Run_clone (J : JT) (G : GT) (cf : CF) (a0 : AV) (H : Hp) : R :=
 BN (bx 47 a0 H) fun i0 h1 =>
 BN (newCells h1 [.slice0, (.int .i64 0), .slice0, .slice0] 47 0) fun i2 h3 =>
 J 2 (fun j4 =>
 B1 (fa 0 (.ptr i0 0)) fun v5 =>
 B1 (fa 0 v5) fun v6 =>
 B1 (ld v6 h3) fun v7 =>
 B2 (cf (.func (.func 74) [] []) [v7] h3) fun v8 h9 =>
 B1 (fa 0 (.ptr i0 0)) fun v10 =>
 B1 (fa 0 v10) fun v11 =>
 B1 (st 1 v11 v8 h9) fun h12 =>
 j4 (.ptr i0 0) (.ptr i2 0) h12) (fun x13 x14 h15 =>
 J 2 (fun j16 =>
 J 5 (fun j17 =>
 B1 (fa 0 x13) fun v18 =>
 B1 (fa 0 v18) fun v19 =>
 B1 (ld v19 h15) fun v20 =>
 B1 (lenx v20) fun v21 =>
 j17 x13 x14 v20 v21 (.int .i64 0) h15) (fun x22 x23 x24 x25 x26 h27 =>
 J 2 (fun j28 =>
 l__run_Run_clone J G cf j28 x22 x23 x24 x25 x26 h27) (fun x70 x71 h72 =>
 j16 x70 x71 h72))) (fun x73 x74 h75 =>
 J 2 (fun j76 =>
 B1 (fa 2 x73) fun v77 =>
 B1 (ld v77 h75) fun v78 =>
 B2 (cf (.func (.func 76) [] []) [v78] h75) fun v79 h80 =>
 B1 (fa 2 x73) fun v81 =>
 B1 (st 1 v81 v79 h80) fun h82 =>
 j76 x73 x74 h82) (fun x83 x84 h85 =>
 J 2 (fun j86 =>
 B1 (fa 3 x83) fun v87 =>
 B1 (ld v87 h85) fun v88 =>
 B2 (cf (.func (.func 77) [] []) [v88] h85) fun v89 h90 =>
 B1 (fa 3 x83) fun v91 =>
 B1 (st 1 v91 v89 h90) fun h92 =>
 j86 x83 x84 h92) (fun x93 x94 h95 =>
 B1 (lda 4 x93 h95) fun v96 =>
 B1 (st 4 x94 v96 h95) fun h97 =>
 B1 (lda 4 x94 h97) fun v98 =>
 some (v98, h97)))))

theorem e__run_Run_clone (J : JT) (G : GT) (cf : CF) (a0 : AV) (H : Hp) : callF P J G prim an cf 44 [a0] H = s__run_Run_clone J G cf a0 H := by kernel_rfl

theorem c__run_Run_clone {a0 : AV} {H : Hp} {r : AV × Hp} (h : s__run_Run_clone JN GO cK a0 H = some r) : cK (.func (.func 44) [] []) [a0] H = some r := callF_fix (first := []) (cap := []) ((e__run_Run_clone JN GO _ a0 H).trans h)

def al_run_Run_settle : An := (.sq none .nl (.sq none (.cd .nl .nl) (.sq (some [1, 2, 10, 11, 12]) (.bl none (.sq (some [1, 2, 3, 4, 10, 11, 12]) .nl (.sq (some [1, 2, 3, 4, 5, 10, 11, 12]) .nl (.sq (some [1, 2, 3, 10, 11, 12]) (.sq (some [1, 2, 3, 10, 11, 12, 47]) .nl (.cd .nl .nl)) .nl)))) .nl)))

noncomputable def bl_run_Run_settle (J : JT) (G : GT) (cf : CF) (j16 : K.Fn 2) (j17 : K.Fn 5) (x18 x19 x20 x21 x22 : AV) (h23 : Hp) : R :=
 B1 (ilt x22 x21) fun v24 =>
 CD v24 (
 J 5 (fun j25 =>
 J 7 (fun j26 =>
 B1 (ia 6 x20 x22) fun v27 =>
 B1 (lda 6 v27 h23) fun v28 =>
 BN (newCells h23 [(.str []), .slice0, (.int .i64 0), (.int .i64 0), (.int .i64 0), (.str [])] 43 0) fun i29 h30 =>
 B1 (st 6 (.ptr i29 0) v28 h30) fun h31 =>
 j26 x18 x19 x22 (.ptr i29 0) x20 x21 x22 h31) (fun x32 x33 x34 x35 x36 x37 x38 h39 =>
 J 8 (fun j40 =>
 B1 (fa 1 x35) fun v41 =>
 B1 (ld v41 h39) fun v42 =>
 B2 (cf (.func (.func 48) [] []) [v42, (.func (.func 78) [] [x32])] h39) fun v43 h44 =>
 j40 x32 x33 x34 x35 v43 x36 x37 x38 h44) (fun x45 x46 x47 x48 x49 x50 x51 x52 h53 =>
 J 6 (fun j54 =>
 J 7 (fun j55 =>
 B1 (ld x45 h53) fun v56 =>
 B1 (nilA v56) fun v57 =>
 B1 (fa 2 v57) fun v58 =>
 B1 (ld v58 h53) fun v59 =>
 B1 (ia 4 v59 x47) fun v60 =>
 B1 (fa 0 v60) fun v61 =>
 B1 (ld v61 h53) fun v62 =>
 B1 (ieq v62 (.int .i64 0)) fun v63 =>
 GD2 v63 true (
 B1 (unA .not x49) fun v64 =>
 GD2 v64 true (
 B1 (fa 5 x48) fun v65 =>
 B1 (ld v65 h53) fun v66 =>
 B1 (seq v66 (.str [])) fun v67 =>
 GD2 v67 false (
 B1 (ld x45 h53) fun v68 =>
 B1 (nilA v68) fun v69 =>
 B1 (fa 3 v69) fun v70 =>
 B1 (ld v70 h53) fun v71 =>
 B1 (fa 5 x48) fun v72 =>
 B1 (ld v72 h53) fun v73 =>
 B2 (cf (.func (.func 58) [] []) [v71, v73] h53) fun v74 h75 =>
 j55 x45 x46 x47 x50 x51 x52 v74 h75) (
 j55 x45 x46 x47 x50 x51 x52 (.bool true) h53)) (
 j55 x45 x46 x47 x50 x51 x52 (.bool false) h53)) (
 j55 x45 x46 x47 x50 x51 x52 (.bool false) h53)) (fun x76 x77 x78 x79 x80 x81 x82 h83 =>
 CD x82 (
 B1 (ld x76 h83) fun v84 =>
 B1 (nilA v84) fun v85 =>
 B1 (fa 2 v85) fun v86 =>
 B1 (ld v86 h83) fun v87 =>
 B1 (ia 4 v87 x78) fun v88 =>
 B1 (fa 0 v88) fun v89 =>
 B1 (st 1 v89 (.int .i64 1) h83) fun h90 =>
 j54 x76 x77 x78 x79 x80 x81 h90) (
 j54 x76 x77 x78 x79 x80 x81 h83))) (fun x91 x92 x93 x94 x95 x96 h97 =>
 G x92 true (fun k98 =>
 B1 (ld x91 h97) fun v99 =>
 k98 v99 h97) (fun v100 h101 =>
 G x92 true (fun k102 =>
 B1 (nilA v100) fun v103 =>
 k102 v103 h101) (fun v104 h105 =>
 G x92 true (fun k106 =>
 B1 (fa 2 v104) fun v107 =>
 k106 v107 h105) (fun v108 h109 =>
 G x92 true (fun k110 =>
 B1 (ld v108 h109) fun v111 =>
 k110 v111 h109) (fun v112 h113 =>
 G x92 true (fun k114 =>
 k114 x93 h113) (fun v115 h116 =>
 G x92 true (fun k117 =>
 B1 (ia 4 v112 v115) fun v118 =>
 k117 v118 h116) (fun v119 h120 =>
 G x92 true (fun k121 =>
 B1 (fa 0 v119) fun v122 =>
 k121 v122 h120) (fun v123 h124 =>
 G x92 true (fun k125 =>
 B1 (ld v123 h124) fun v126 =>
 k125 v126 h124) (fun v127 h128 =>
 G x92 true (fun k129 =>
 B1 (ieq v127 (.int .i64 3)) fun v130 =>
 k129 v130 h128) (fun v131 h132 =>
 B1 (pk x92 v131 (.bool false)) fun v133 =>
 j25 x91 v133 x94 x95 x96 h132) h128) h124) h120) h116) h113) h109) h105) h101) h97)))) (fun x134 x135 x136 x137 x138 h139 =>
 B1 (iadd x138 (.int .i64 1)) fun v140 =>
 j17 x134 x135 x136 x137 v140 h139)) (
 j16 x18 x19 h23)

noncomputable def l_run_Run_settle (J : JT) (G : GT) (cf : CF) (j16 : K.Fn 2) : K.Fn 5 := LP 5 fun j17 => fun x18 x19 x20 x21 x22 h23 => bl_run_Run_settle J G cf j16 j17 x18 x19 x20 x21 x22 h23

theorem rl_run_Run_settle (J : JT) (G : GT) (cf : CF) (j16 : K.Fn 2) (j17 : K.Fn 5) (x18 x19 x20 x21 x22 : AV) (h23 : Hp) : codeF P J G cf (nT P 45) (atC P 45 [1, 1, 0, 1, 0, 0]) al_run_Run_settle (fun t H => app 5 j17 (vals [1, 2, 10, 11, 12] t) H) (fun q t H => match Nat.beq q 0 with | true => app 2 j16 (vals [1, 2] t) H | false => (fun _ _ _ => none) q t H) (retK P 45) (mkT (nT P 45) [1, 2, 10, 11, 12] [x18, x19, x20, x21, x22]) h23 = bl_run_Run_settle J G cf j16 j17 x18 x19 x20 x21 x22 h23 := by kernel_rfl

theorem dl_run_Run_settle (J : JT) (G : GT) (cf : CF) (j16 : K.Fn 2) : l_run_Run_settle J G cf j16 = loopF P J G cf (nT P 45) (atC P 45 [1, 1, 0, 1, 0, 0]) al_run_Run_settle [1, 2, 10, 11, 12] (fun q t H => match Nat.beq q 0 with | true => app 2 j16 (vals [1, 2] t) H | false => (fun _ _ _ => none) q t H) (retK P 45) := by
  unfold l_run_Run_settle loopF
  refine congrArg (LP 5) ?_
  funext j17 x18 x19 x20 x21 x22 h23
  exact (rl_run_Run_settle J G cf j16 j17 x18 x19 x20 x21 x22 h23).symm

theorem ql_run_Run_settle (cf : CF) (j16 : K.Fn 2) (x18 x19 x20 x21 x22 : AV) (h23 : Hp) : l_run_Run_settle JN GO cf j16 x18 x19 x20 x21 x22 h23 = bl_run_Run_settle JN GO cf j16 (l_run_Run_settle JN GO cf j16) x18 x19 x20 x21 x22 h23 := by
  have h1 : l_run_Run_settle JN GO cf j16 x18 x19 x20 x21 x22 h23 = app 5 (loopF P JN GO cf (nT P 45) (atC P 45 [1, 1, 0, 1, 0, 0]) al_run_Run_settle [1, 2, 10, 11, 12] (fun q t H => match Nat.beq q 0 with | true => app 2 j16 (vals [1, 2] t) H | false => (fun _ _ _ => none) q t H) (retK P 45)) [x18, x19, x20, x21, x22] h23 := by rw [dl_run_Run_settle]; kernel_rfl
  refine h1.trans ((loopF_eq (P := P) cf (nT P 45) (atC P 45 [1, 1, 0, 1, 0, 0]) al_run_Run_settle [1, 2, 10, 11, 12] (fun q t H => match Nat.beq q 0 with | true => app 2 j16 (vals [1, 2] t) H | false => (fun _ _ _ => none) q t H) (retK P 45) [x18, x19, x20, x21, x22] rfl h23).trans ((rl_run_Run_settle JN GO cf j16 _ x18 x19 x20 x21 x22 h23).trans ?_))
  rw [dl_run_Run_settle]

noncomputable def s_run_Run_settle (J : JT) (G : GT) (cf : CF) (a0 : AV) (H : Hp) : R :=
 BN (bx 126 a0 H) fun i0 h1 =>
 J 2 (fun j2 =>
 J 5 (fun j3 =>
 B1 (ld (.ptr i0 0) h1) fun v4 =>
 B1 (nilA v4) fun v5 =>
 B1 (fa 0 v5) fun v6 =>
 B1 (fa 0 v6) fun v7 =>
 B1 (ld v7 h1) fun v8 =>
 B1 (lenx v8) fun v9 =>
 j3 (.ptr i0 0) (.bool true) v8 v9 (.int .i64 0) h1) (fun x10 x11 x12 x13 x14 h15 =>
 J 2 (fun j16 =>
 l_run_Run_settle J G cf j16 x10 x11 x12 x13 x14 h15) (fun x141 x142 h143 =>
 j2 x141 x142 h143))) (fun x144 x145 h146 =>
 CD x145 (
 B1 (ld x144 h146) fun v147 =>
 B1 (nilA v147) fun v148 =>
 B1 (fa 1 v148) fun v149 =>
 B1 (st 1 v149 (.int .i64 1) h146) fun h150 =>
 some (.tuple [], h150)) (
 some (.tuple [], h146)))

theorem e_run_Run_settle (J : JT) (G : GT) (cf : CF) (a0 : AV) (H : Hp) : callF P J G prim an cf 45 [a0] H = s_run_Run_settle J G cf a0 H := by kernel_rfl

theorem c_run_Run_settle {a0 : AV} {H : Hp} {r : AV × Hp} (h : s_run_Run_settle JN GO cK a0 H = some r) : cK (.func (.func 45) [] []) [a0] H = some r := callF_fix (first := []) (cap := []) ((e_run_Run_settle JN GO _ a0 H).trans h)

noncomputable def s_run_Run_settle_1 (J : JT) (G : GT) (cf : CF) (a0 a1 : AV) (H : Hp) : R :=
 B1 (ld a1 H) fun v0 =>
 B1 (nilA v0) fun v1 =>
 B1 (fa 2 v1) fun v2 =>
 B1 (ld v2 H) fun v3 =>
 B1 (ia 4 v3 a0) fun v4 =>
 B1 (fa 0 v4) fun v5 =>
 B1 (ld v5 H) fun v6 =>
 B1 (ine v6 (.int .i64 3)) fun v7 =>
 some (v7, H)

theorem e_run_Run_settle_1 (J : JT) (G : GT) (cf : CF) (a0 a1 : AV) (H : Hp) : callF P J G prim an cf 78 [a0, a1] H = s_run_Run_settle_1 J G cf a0 a1 H := by kernel_rfl

theorem c_run_Run_settle_1 {a0 a1 : AV} {H : Hp} {r : AV × Hp} (h : s_run_Run_settle_1 JN GO cK a0 a1 H = some r) : cK (.func (.func 78) [] [a1]) [a0] H = some r := callF_fix (first := []) (cap := [a1]) ((e_run_Run_settle_1 JN GO _ a0 a1 H).trans h)

noncomputable def s__run_Run_may (J : JT) (G : GT) (cf : CF) (a0 a1 : AV) (H : Hp) : R :=
 BN (bx 47 a0 H) fun i0 h1 =>
 J 0 (fun j2 =>
 J 2 (fun j3 =>
 B1 (ilt a1 (.int .i64 0)) fun v4 =>
 G v4 false (fun k5 =>
 k5 a1 h1) (fun v6 h7 =>
 G v4 false (fun k8 =>
 B1 (fa 2 (.ptr i0 0)) fun v9 =>
 k8 v9 h7) (fun v10 h11 =>
 G v4 false (fun k12 =>
 B1 (ld v10 h11) fun v13 =>
 k12 v13 h11) (fun v14 h15 =>
 G v4 false (fun k16 =>
 B1 (lenx v14) fun v17 =>
 k16 v17 h15) (fun v18 h19 =>
 G v4 false (fun k20 =>
 B1 (ige v6 v18) fun v21 =>
 k20 v21 h19) (fun v22 h23 =>
 B1 (pk v4 (.bool true) v22) fun v24 =>
 j3 (.ptr i0 0) v24 h23) h19) h15) h11) h7) h1) (fun x25 x26 h27 =>
 CD x26 (
 some ((.int .i64 1), h27)) (
 B1 (fa 1 x25) fun v28 =>
 B1 (ld v28 h27) fun v29 =>
 B1 (ine v29 (.int .i64 0)) fun v30 =>
 CD v30 (
 some ((.int .i64 9), h27)) (
 j2  h27)))) (fun  h31 =>
 some ((.int .i64 0), h31))

theorem e__run_Run_may (J : JT) (G : GT) (cf : CF) (a0 a1 : AV) (H : Hp) : callF P J G prim an cf 46 [a0, a1] H = s__run_Run_may J G cf a0 a1 H := by kernel_rfl

theorem c__run_Run_may {a0 a1 : AV} {H : Hp} {r : AV × Hp} (h : s__run_Run_may JN GO cK a0 a1 H = some r) : cK (.func (.func 46) [] []) [a0, a1] H = some r := callF_fix (first := []) (cap := []) ((e__run_Run_may JN GO _ a0 a1 H).trans h)

noncomputable def s__run_Run_held (J : JT) (G : GT) (cf : CF) (a0 a1 a2 : AV) (H : Hp) : R :=
 BN (bx 47 a0 H) fun i0 h1 =>
 J 3 (fun j2 =>
 B1 (lda 4 (.ptr i0 0) h1) fun v3 =>
 B2 (cf (.func (.func 46) [] []) [v3, a1] h1) fun v4 h5 =>
 B1 (ine v4 (.int .i64 0)) fun v6 =>
 CD v6 (
 some (v4, h5)) (
 j2 a1 a2 (.ptr i0 0) h5)) (fun x7 x8 x9 h10 =>
 J 0 (fun j11 =>
 J 2 (fun j12 =>
 B1 (fa 2 x9) fun v13 =>
 B1 (ld v13 h10) fun v14 =>
 B1 (ia 4 v14 x7) fun v15 =>
 B1 (lda 4 v15 h10) fun v16 =>
 BN (newCells h10 [(.int .i64 0), (.int .i64 0), (.int .i64 0), (.str [])] 51 0) fun i17 h18 =>
 B1 (st 4 (.ptr i17 0) v16 h18) fun h19 =>
 j12 x8 (.ptr i17 0) h19) (fun x20 x21 h22 =>
 J 1 (fun j23 =>
 B1 (fa 0 x21) fun v24 =>
 B1 (ld v24 h22) fun v25 =>
 B1 (ine v25 (.int .i64 2)) fun v26 =>
 G v26 false (fun k27 =>
 B1 (fa 1 x21) fun v28 =>
 k27 v28 h22) (fun v29 h30 =>
 G v26 false (fun k31 =>
 B1 (ld v29 h30) fun v32 =>
 k31 v32 h30) (fun v33 h34 =>
 G v26 false (fun k35 =>
 k35 x20 h34) (fun v36 h37 =>
 G v26 false (fun k38 =>
 B1 (ine v33 v36) fun v39 =>
 k38 v39 h37) (fun v40 h41 =>
 B1 (pk v26 (.bool true) v40) fun v42 =>
 j23 v42 h41) h37) h34) h30) h22) (fun x43 h44 =>
 CD x43 (
 some ((.int .i64 8), h44)) (
 j11  h44)))) (fun  h45 =>
 some ((.int .i64 0), h45)))

theorem e__run_Run_held (J : JT) (G : GT) (cf : CF) (a0 a1 a2 : AV) (H : Hp) : callF P J G prim an cf 47 [a0, a1, a2] H = s__run_Run_held J G cf a0 a1 a2 H := by kernel_rfl

theorem c__run_Run_held {a0 a1 a2 : AV} {H : Hp} {r : AV × Hp} (h : s__run_Run_held JN GO cK a0 a1 a2 H = some r) : cK (.func (.func 47) [] []) [a0, a1, a2] H = some r := callF_fix (first := []) (cap := []) ((e__run_Run_held JN GO _ a0 a1 a2 H).trans h)

noncomputable def s__run_Run_Lease (J : JT) (G : GT) (cf : CF) (a0 a1 a2 a3 : AV) (H : Hp) : R :=
 BN (bx 47 a0 H) fun i0 h1 =>
 BN (newCells h1 [.slice0, (.int .i64 0), .slice0, .slice0] 47 0) fun i2 h3 =>
 J 5 (fun j4 =>
 B1 (lda 4 (.ptr i0 0) h3) fun v5 =>
 B2 (cf (.func (.func 46) [] []) [v5, a1] h3) fun v6 h7 =>
 B1 (ine v6 (.int .i64 0)) fun v8 =>
 CD v8 (
 B1 (fl [.slice0, (.int .i64 0), .slice0, .slice0] []) fun l9 =>
 B1 (st 4 (.ptr i2 0) (.agg l9) h7) fun h10 =>
 B1 (lda 4 (.ptr i2 0) h10) fun v11 =>
 some (.tuple [v11, v6], h10)) (
 j4 a1 a2 a3 (.ptr i0 0) (.ptr i2 0) h7)) (fun x12 x13 x14 x15 x16 h17 =>
 J 6 (fun j18 =>
 B1 (fa 2 x15) fun v19 =>
 B1 (ld v19 h17) fun v20 =>
 B1 (ia 4 v20 x12) fun v21 =>
 B1 (lda 4 v21 h17) fun v22 =>
 BN (newCells h17 [(.int .i64 0), (.int .i64 0), (.int .i64 0), (.str [])] 51 0) fun i23 h24 =>
 B1 (st 4 (.ptr i23 0) v22 h24) fun h25 =>
 j18 x12 x13 x14 x15 x16 (.ptr i23 0) h25) (fun x26 x27 x28 x29 x30 x31 h32 =>
 J 6 (fun j33 =>
 B1 (fa 0 x31) fun v34 =>
 B1 (ld v34 h32) fun v35 =>
 B1 (ine v35 (.int .i64 1)) fun v36 =>
 CD v36 (
 B1 (fl [.slice0, (.int .i64 0), .slice0, .slice0] []) fun l37 =>
 B1 (st 4 x30 (.agg l37) h32) fun h38 =>
 B1 (lda 4 x30 h38) fun v39 =>
 some (.tuple [v39, (.int .i64 4)], h38)) (
 J 7 (fun j40 =>
 B1 (fa 1 x31) fun v41 =>
 B1 (ld v41 h32) fun v42 =>
 B1 (iadd v42 (.int .i64 1)) fun v43 =>
 B1 (ine x27 v43) fun v44 =>
 j40 x26 x27 x28 x29 x30 x31 v44 h32) (fun x45 x46 x47 x48 x49 x50 x51 h52 =>
 CD x51 (
 B1 (fl [.slice0, (.int .i64 0), .slice0, .slice0] []) fun l53 =>
 B1 (st 4 x49 (.agg l53) h52) fun h54 =>
 B1 (lda 4 x49 h54) fun v55 =>
 some (.tuple [v55, (.int .i64 8)], h54)) (
 j33 x45 x46 x47 x48 x49 x50 h52)))) (fun x56 x57 x58 x59 x60 x61 h62 =>
 B1 (lda 4 x59 h62) fun v63 =>
 B2 (cf (.func (.func 44) [] []) [v63] h62) fun v64 h65 =>
 B1 (st 4 x59 v64 h65) fun h66 =>
 J 4 (fun j67 =>
 B1 (fa 0 x59) fun v68 =>
 B1 (fa 0 v68) fun v69 =>
 B1 (ld v69 h66) fun v70 =>
 B1 (ia 6 v70 x56) fun v71 =>
 B1 (fa 3 v71) fun v72 =>
 B1 (ld v72 h66) fun v73 =>
 B1 (iadd x58 v73) fun v74 =>
 B1 (fa 0 x61) fun v75 =>
 B1 (st 1 v75 (.int .i64 2) h66) fun h76 =>
 B1 (fa 1 x61) fun v77 =>
 B1 (st 1 v77 x57 h76) fun h78 =>
 B1 (fa 2 x61) fun v79 =>
 B1 (st 1 v79 v74 h78) fun h80 =>
 B1 (ld v69 h76) fun v81 =>
 SM v70 v81 <|
 B1 (ld v72 h76) fun v82 =>
 SM v73 v82 <|
 B1 (ld v69 h78) fun v83 =>
 SM v70 v83 <|
 B1 (ld v72 h78) fun v84 =>
 SM v73 v84 <|
 j67 x56 x59 x60 x61 h80) (fun x85 x86 x87 x88 h89 =>
 J 2 (fun j90 =>
 B1 (fa 2 x86) fun v91 =>
 B1 (ld v91 h89) fun v92 =>
 B1 (lda 4 x88 h89) fun v93 =>
 B1 (ia 4 v92 x85) fun v94 =>
 B1 (st 4 v94 v93 h89) fun h95 =>
 j90 x86 x87 h95) (fun x96 x97 h98 =>
 B1 (lda 4 x96 h98) fun v99 =>
 B1 (st 4 x97 v99 h98) fun h100 =>
 B1 (lda 4 x97 h100) fun v101 =>
 some (.tuple [v101, (.int .i64 0)], h100))))))

theorem e__run_Run_Lease (J : JT) (G : GT) (cf : CF) (a0 a1 a2 a3 : AV) (H : Hp) : callF P J G prim an cf 18 [a0, a1, a2, a3] H = s__run_Run_Lease J G cf a0 a1 a2 a3 H := by kernel_rfl

theorem c__run_Run_Lease {a0 a1 a2 a3 : AV} {H : Hp} {r : AV × Hp} (h : s__run_Run_Lease JN GO cK a0 a1 a2 a3 H = some r) : cK (.func (.func 18) [] []) [a0, a1, a2, a3] H = some r := callF_fix (first := []) (cap := []) ((e__run_Run_Lease JN GO _ a0 a1 a2 a3 H).trans h)

noncomputable def s__run_Run_Done (J : JT) (G : GT) (cf : CF) (a0 a1 a2 a3 : AV) (H : Hp) : R :=
 BN (bx 47 a0 H) fun i0 h1 =>
 BN (newCells h1 [.slice0, (.int .i64 0), .slice0, .slice0] 47 0) fun i2 h3 =>
 J 5 (fun j4 =>
 J 6 (fun j5 =>
 B1 (lda 4 (.ptr i0 0) h3) fun v6 =>
 B2 (cf (.func (.func 47) [] []) [v6, a1, a2] h3) fun v7 h8 =>
 j5 a1 a2 a3 (.ptr i0 0) (.ptr i2 0) v7 h8) (fun x9 x10 x11 x12 x13 x14 h15 =>
 B1 (ine x14 (.int .i64 0)) fun v16 =>
 CD v16 (
 B1 (fl [.slice0, (.int .i64 0), .slice0, .slice0] []) fun l17 =>
 B1 (st 4 x13 (.agg l17) h15) fun h18 =>
 B1 (lda 4 x13 h18) fun v19 =>
 some (.tuple [v19, x14], h18)) (
 j4 x9 x10 x11 x12 x13 h15))) (fun x20 x21 x22 x23 x24 h25 =>
 B1 (lda 4 x23 h25) fun v26 =>
 B2 (cf (.func (.func 44) [] []) [v26] h25) fun v27 h28 =>
 B1 (st 4 x23 v27 h28) fun h29 =>
 J 2 (fun j30 =>
 B1 (fa 2 x23) fun v31 =>
 B1 (ld v31 h29) fun v32 =>
 B1 (fl [(.int .i64 0), (.int .i64 0), (.int .i64 0), (.str [])] [(0, 1, (.int .i64 3)), (1, 1, x21), (3, 1, x22)]) fun l33 =>
 B1 (ia 4 v32 x20) fun v34 =>
 B1 (st 4 v34 (.agg l33) h29) fun h35 =>
 j30 x23 x24 h35) (fun x36 x37 h38 =>
 B2 (cf (.func (.func 45) [] []) [x36] h38) fun v39 h40 =>
 B1 (lda 4 x36 h40) fun v41 =>
 B1 (st 4 x37 v41 h40) fun h42 =>
 B1 (lda 4 x37 h42) fun v43 =>
 some (.tuple [v43, (.int .i64 0)], h42)))

theorem e__run_Run_Done (J : JT) (G : GT) (cf : CF) (a0 a1 a2 a3 : AV) (H : Hp) : callF P J G prim an cf 19 [a0, a1, a2, a3] H = s__run_Run_Done J G cf a0 a1 a2 a3 H := by kernel_rfl

theorem c__run_Run_Done {a0 a1 a2 a3 : AV} {H : Hp} {r : AV × Hp} (h : s__run_Run_Done JN GO cK a0 a1 a2 a3 H = some r) : cK (.func (.func 19) [] []) [a0, a1, a2, a3] H = some r := callF_fix (first := []) (cap := []) ((e__run_Run_Done JN GO _ a0 a1 a2 a3 H).trans h)

def al_outriderlaw16_RunEnds : An := (.sq (some [3, 5]) (.sq (some [3, 5, 33]) .nl (.cd .nl .nl)) (.sq (some [3, 5]) (.bl none (.sq (some [3, 5, 42]) .nl (.cd (.sq none .nl .nl) .nl))) .nl))

noncomputable def bl_outriderlaw16_RunEnds (J : JT) (G : GT) (cf : CF) (j33 : K.Fn 1) (j34 : K.Fn 2) (x35 x36 : AV) (h37 : Hp) : R :=
 J 2 (fun j38 =>
 J 3 (fun j39 =>
 B1 (fa 0 x35) fun v40 =>
 B1 (ld v40 h37) fun v41 =>
 B1 (lenx v41) fun v42 =>
 B1 (ilt x36 v42) fun v43 =>
 j39 x35 x36 v43 h37) (fun x44 x45 x46 h47 =>
 CD x46 (
 j38 x44 x45 h47) (
 j33 x44 h47))) (fun x48 x49 h50 =>
 J 2 (fun j51 =>
 J 3 (fun j52 =>
 B1 (fa 0 x48) fun v53 =>
 B1 (ld v53 h50) fun v54 =>
 B1 (ia 6 v54 x49) fun v55 =>
 B1 (fa 5 v55) fun v56 =>
 B1 (ld v56 h50) fun v57 =>
 B1 (sne v57 (.str [])) fun v58 =>
 j52 x48 x49 v58 h50) (fun x59 x60 x61 h62 =>
 CD x61 (
 some ((.bool true), h62)) (
 j51 x59 x60 h62))) (fun x63 x64 h65 =>
 B1 (iadd x64 (.int .i64 1)) fun v66 =>
 j34 x63 v66 h65))

noncomputable def l_outriderlaw16_RunEnds (J : JT) (G : GT) (cf : CF) (j33 : K.Fn 1) : K.Fn 2 := LP 2 fun j34 => fun x35 x36 h37 => bl_outriderlaw16_RunEnds J G cf j33 j34 x35 x36 h37

theorem rl_outriderlaw16_RunEnds (J : JT) (G : GT) (cf : CF) (j33 : K.Fn 1) (j34 : K.Fn 2) (x35 x36 : AV) (h37 : Hp) : codeF P J G cf (nT P 4) (atC P 4 [1, 1, 1, 1, 0, 1, 0, 0]) al_outriderlaw16_RunEnds (fun t H => app 2 j34 (vals [3, 5] t) H) (fun q t H => match Nat.beq q 0 with | true => app 1 j33 (vals [3] t) H | false => (fun _ _ _ => none) q t H) (retK P 4) (mkT (nT P 4) [3, 5] [x35, x36]) h37 = bl_outriderlaw16_RunEnds J G cf j33 j34 x35 x36 h37 := by kernel_rfl

theorem dl_outriderlaw16_RunEnds (J : JT) (G : GT) (cf : CF) (j33 : K.Fn 1) : l_outriderlaw16_RunEnds J G cf j33 = loopF P J G cf (nT P 4) (atC P 4 [1, 1, 1, 1, 0, 1, 0, 0]) al_outriderlaw16_RunEnds [3, 5] (fun q t H => match Nat.beq q 0 with | true => app 1 j33 (vals [3] t) H | false => (fun _ _ _ => none) q t H) (retK P 4) := by
  unfold l_outriderlaw16_RunEnds loopF
  refine congrArg (LP 2) ?_
  funext j34 x35 x36 h37
  exact (rl_outriderlaw16_RunEnds J G cf j33 j34 x35 x36 h37).symm

theorem ql_outriderlaw16_RunEnds (cf : CF) (j33 : K.Fn 1) (x35 x36 : AV) (h37 : Hp) : l_outriderlaw16_RunEnds JN GO cf j33 x35 x36 h37 = bl_outriderlaw16_RunEnds JN GO cf j33 (l_outriderlaw16_RunEnds JN GO cf j33) x35 x36 h37 := by
  have h1 : l_outriderlaw16_RunEnds JN GO cf j33 x35 x36 h37 = app 2 (loopF P JN GO cf (nT P 4) (atC P 4 [1, 1, 1, 1, 0, 1, 0, 0]) al_outriderlaw16_RunEnds [3, 5] (fun q t H => match Nat.beq q 0 with | true => app 1 j33 (vals [3] t) H | false => (fun _ _ _ => none) q t H) (retK P 4)) [x35, x36] h37 := by rw [dl_outriderlaw16_RunEnds]; kernel_rfl
  refine h1.trans ((loopF_eq (P := P) cf (nT P 4) (atC P 4 [1, 1, 1, 1, 0, 1, 0, 0]) al_outriderlaw16_RunEnds [3, 5] (fun q t H => match Nat.beq q 0 with | true => app 1 j33 (vals [3] t) H | false => (fun _ _ _ => none) q t H) (retK P 4) [x35, x36] rfl h37).trans ((rl_outriderlaw16_RunEnds JN GO cf j33 _ x35 x36 h37).trans ?_))
  rw [dl_outriderlaw16_RunEnds]

def al_outriderlaw16_RunEnds2 : An := (.sq (some [3, 6, 8, 9, 10]) (.sq (some [3, 6, 8, 9, 10, 73]) .nl (.cd .nl .nl)) (.sq (some [3, 6, 8, 9, 10]) (.bl (some [3, 6, 8, 9, 10]) (.sq (some [3, 6, 8, 9, 10, 82]) .nl (.cd .nl .nl))) .nl))

noncomputable def bl_outriderlaw16_RunEnds2 (J : JT) (G : GT) (cf : CF) (j86 : K.Fn 1) (j108 : K.Fn 3) (j141 : K.Fn 4) (j142 : K.Fn 5) (x143 x144 x145 x146 x147 : AV) (h148 : Hp) : R :=
 J 5 (fun j149 =>
 J 6 (fun j150 =>
 B1 (fa 2 x144) fun v151 =>
 B1 (ld v151 h148) fun v152 =>
 B1 (lenx v152) fun v153 =>
 B1 (ilt x147 v153) fun v154 =>
 j150 x143 x144 x145 x146 x147 v154 h148) (fun x155 x156 x157 x158 x159 x160 h161 =>
 CD x160 (
 j149 x155 x156 x157 x158 x159 h161) (
 j141 x155 x156 x157 x158 h161))) (fun x162 x163 x164 x165 x166 h167 =>
 J 5 (fun j168 =>
 J 5 (fun j169 =>
 J 6 (fun j170 =>
 B1 (fa 2 x163) fun v171 =>
 B1 (ld v171 h167) fun v172 =>
 B1 (ia 4 v172 x166) fun v173 =>
 B1 (fa 0 v173) fun v174 =>
 B1 (ld v174 h167) fun v175 =>
 B1 (ieq v175 (.int .i64 1)) fun v176 =>
 j170 x162 x163 x164 x165 x166 v176 h167) (fun x177 x178 x179 x180 x181 x182 h183 =>
 CD x182 (
 j169 x177 x178 x179 x181 x181 h183) (
 j169 x177 x178 x179 x180 x181 h183))) (fun x184 x185 x186 x187 x188 h189 =>
 j168 x184 x185 x186 x187 x188 h189)) (fun x190 x191 x192 x193 x194 h195 =>
 B1 (iadd x194 (.int .i64 1)) fun v196 =>
 j142 x190 x191 x192 x193 v196 h195))

noncomputable def l_outriderlaw16_RunEnds2 (J : JT) (G : GT) (cf : CF) (j86 : K.Fn 1) (j108 : K.Fn 3) (j141 : K.Fn 4) : K.Fn 5 := LP 5 fun j142 => fun x143 x144 x145 x146 x147 h148 => bl_outriderlaw16_RunEnds2 J G cf j86 j108 j141 j142 x143 x144 x145 x146 x147 h148

theorem rl_outriderlaw16_RunEnds2 (J : JT) (G : GT) (cf : CF) (j86 : K.Fn 1) (j108 : K.Fn 3) (j141 : K.Fn 4) (j142 : K.Fn 5) (x143 x144 x145 x146 x147 : AV) (h148 : Hp) : codeF P J G cf (nT P 4) (atC P 4 [1, 1, 1, 1, 1, 1, 1, 0, 1, 0, 0, 1, 0, 0, 1, 1, 0, 1, 0, 0]) al_outriderlaw16_RunEnds2 (fun t H => app 5 j142 (vals [3, 6, 8, 9, 10] t) H) (fun q t H => match Nat.beq q 4 with | true => app 4 j141 (vals [3, 6, 8, 9] t) H | false => (fun q t H => match Nat.beq q 3 with | true => app 3 j108 (vals [3, 6, 8] t) H | false => (fun q t H => match Nat.beq q 2 with | true => app 1 j86 (vals [6] t) H | false => (fun _ _ _ => none) q t H) q t H) q t H) (retK P 4) (mkT (nT P 4) [3, 6, 8, 9, 10] [x143, x144, x145, x146, x147]) h148 = bl_outriderlaw16_RunEnds2 J G cf j86 j108 j141 j142 x143 x144 x145 x146 x147 h148 := by kernel_rfl

theorem dl_outriderlaw16_RunEnds2 (J : JT) (G : GT) (cf : CF) (j86 : K.Fn 1) (j108 : K.Fn 3) (j141 : K.Fn 4) : l_outriderlaw16_RunEnds2 J G cf j86 j108 j141 = loopF P J G cf (nT P 4) (atC P 4 [1, 1, 1, 1, 1, 1, 1, 0, 1, 0, 0, 1, 0, 0, 1, 1, 0, 1, 0, 0]) al_outriderlaw16_RunEnds2 [3, 6, 8, 9, 10] (fun q t H => match Nat.beq q 4 with | true => app 4 j141 (vals [3, 6, 8, 9] t) H | false => (fun q t H => match Nat.beq q 3 with | true => app 3 j108 (vals [3, 6, 8] t) H | false => (fun q t H => match Nat.beq q 2 with | true => app 1 j86 (vals [6] t) H | false => (fun _ _ _ => none) q t H) q t H) q t H) (retK P 4) := by
  unfold l_outriderlaw16_RunEnds2 loopF
  refine congrArg (LP 5) ?_
  funext j142 x143 x144 x145 x146 x147 h148
  exact (rl_outriderlaw16_RunEnds2 J G cf j86 j108 j141 j142 x143 x144 x145 x146 x147 h148).symm

theorem ql_outriderlaw16_RunEnds2 (cf : CF) (j86 : K.Fn 1) (j108 : K.Fn 3) (j141 : K.Fn 4) (x143 x144 x145 x146 x147 : AV) (h148 : Hp) : l_outriderlaw16_RunEnds2 JN GO cf j86 j108 j141 x143 x144 x145 x146 x147 h148 = bl_outriderlaw16_RunEnds2 JN GO cf j86 j108 j141 (l_outriderlaw16_RunEnds2 JN GO cf j86 j108 j141) x143 x144 x145 x146 x147 h148 := by
  have h1 : l_outriderlaw16_RunEnds2 JN GO cf j86 j108 j141 x143 x144 x145 x146 x147 h148 = app 5 (loopF P JN GO cf (nT P 4) (atC P 4 [1, 1, 1, 1, 1, 1, 1, 0, 1, 0, 0, 1, 0, 0, 1, 1, 0, 1, 0, 0]) al_outriderlaw16_RunEnds2 [3, 6, 8, 9, 10] (fun q t H => match Nat.beq q 4 with | true => app 4 j141 (vals [3, 6, 8, 9] t) H | false => (fun q t H => match Nat.beq q 3 with | true => app 3 j108 (vals [3, 6, 8] t) H | false => (fun q t H => match Nat.beq q 2 with | true => app 1 j86 (vals [6] t) H | false => (fun _ _ _ => none) q t H) q t H) q t H) (retK P 4)) [x143, x144, x145, x146, x147] h148 := by rw [dl_outriderlaw16_RunEnds2]; kernel_rfl
  refine h1.trans ((loopF_eq (P := P) cf (nT P 4) (atC P 4 [1, 1, 1, 1, 1, 1, 1, 0, 1, 0, 0, 1, 0, 0, 1, 1, 0, 1, 0, 0]) al_outriderlaw16_RunEnds2 [3, 6, 8, 9, 10] (fun q t H => match Nat.beq q 4 with | true => app 4 j141 (vals [3, 6, 8, 9] t) H | false => (fun q t H => match Nat.beq q 3 with | true => app 3 j108 (vals [3, 6, 8] t) H | false => (fun q t H => match Nat.beq q 2 with | true => app 1 j86 (vals [6] t) H | false => (fun _ _ _ => none) q t H) q t H) q t H) (retK P 4) [x143, x144, x145, x146, x147] rfl h148).trans ((rl_outriderlaw16_RunEnds2 JN GO cf j86 j108 j141 _ x143 x144 x145 x146 x147 h148).trans ?_))
  rw [dl_outriderlaw16_RunEnds2]

def al_outriderlaw16_RunEnds1 : An := (.sq (some [3, 6, 8]) (.sq (some [3, 6, 8, 54]) .nl (.cd .nl .nl)) (.sq (some [3, 6, 8]) (.bl (some [3, 6, 8]) (.sq (some [3, 6, 8]) (.sq (some [3, 6, 8, 68]) .nl (.cd (.sq none .nl .nl) .nl)) (.sq none .nl (.sq (some [3, 6, 8, 9]) (.sq none .nl (.bl (some [3, 6, 8, 9]) (.lp [3, 6, 8, 9, 10] (.sq (some [3, 6, 8, 9, 10]) (.sq (some [3, 6, 8, 9, 10, 73]) .nl (.cd .nl .nl)) (.sq (some [3, 6, 8, 9, 10]) (.bl (some [3, 6, 8, 9, 10]) (.sq (some [3, 6, 8, 9, 10, 82]) .nl (.cd .nl .nl))) .nl))))) (.sq (some [3, 6, 8, 9, 11, 12]) .nl (.sq (some [3, 6, 8, 9, 12, 13, 14]) .nl (.sq (some [3, 6, 8, 13]) (.sq (some [3, 6, 8, 13, 105]) .nl (.cd (.sq none .nl .nl) .nl)) .nl))))))) .nl))

noncomputable def bl_outriderlaw16_RunEnds1 (J : JT) (G : GT) (cf : CF) (j86 : K.Fn 1) (j87 : K.Fn 3) (x88 x89 x90 : AV) (h91 : Hp) : R :=
 J 3 (fun j92 =>
 J 4 (fun j93 =>
 B1 (fa 0 x88) fun v94 =>
 B1 (ld v94 h91) fun v95 =>
 B1 (lenx v95) fun v96 =>
 B1 (ilt x90 v96) fun v97 =>
 j93 x88 x89 x90 v97 h91) (fun x98 x99 x100 x101 h102 =>
 CD x101 (
 j92 x98 x99 x100 h102) (
 j86 x99 h102))) (fun x103 x104 x105 h106 =>
 J 3 (fun j107 =>
 J 3 (fun j108 =>
 J 3 (fun j109 =>
 J 4 (fun j110 =>
 B1 (fa 2 x104) fun v111 =>
 B1 (ld v111 h106) fun v112 =>
 B1 (lenx v112) fun v113 =>
 B1 (fa 0 x103) fun v114 =>
 B1 (ld v114 h106) fun v115 =>
 B1 (lenx v115) fun v116 =>
 B1 (ine v113 v116) fun v117 =>
 G v117 false (fun k118 =>
 B1 (fa 1 x104) fun v119 =>
 k118 v119 h106) (fun v120 h121 =>
 G v117 false (fun k122 =>
 B1 (ld v120 h121) fun v123 =>
 k122 v123 h121) (fun v124 h125 =>
 G v117 false (fun k126 =>
 B1 (ine v124 (.int .i64 0)) fun v127 =>
 k126 v127 h125) (fun v128 h129 =>
 B1 (pk v117 (.bool true) v128) fun v130 =>
 j110 x103 x104 x105 v130 h129) h125) h121) h106) (fun x131 x132 x133 x134 h135 =>
 CD x134 (
 some ((.bool false), h135)) (
 j109 x131 x132 x133 h135))) (fun x136 x137 x138 h139 =>
 J 4 (fun j140 =>
 J 4 (fun j141 =>
 l_outriderlaw16_RunEnds2 J G cf j86 j108 j141 x136 x137 x138 (.int .i64 (-1)) (.int .i64 0) h139) (fun x197 x198 x199 x200 h201 =>
 j140 x197 x198 x199 x200 h201)) (fun x202 x203 x204 x205 h206 =>
 J 6 (fun j207 =>
 B1 (lda 4 x203 h206) fun v208 =>
 B2 (cf (.func (.func 18) [] []) [v208, x205, (.int .i64 1), (.int .i64 5)] h206) fun v209 h210 =>
 B1 (ex 0 v209) fun v211 =>
 B1 (ex 1 v209) fun v212 =>
 BN (newCells h210 [.slice0, (.int .i64 0), .slice0, .slice0] 47 0) fun i213 h214 =>
 B1 (st 4 (.ptr i213 0) v211 h214) fun h215 =>
 j207 x202 x203 x204 x205 (.ptr i213 0) v212 h215) (fun x216 x217 x218 x219 x220 x221 h222 =>
 J 7 (fun j223 =>
 B1 (lda 4 x220 h222) fun v224 =>
 B2 (cf (.func (.func 19) [] []) [v224, x219, (.int .i64 1), (.str [])] h222) fun v225 h226 =>
 B1 (ex 0 v225) fun v227 =>
 B1 (ex 1 v225) fun v228 =>
 BN (newCells h226 [.slice0, (.int .i64 0), .slice0, .slice0] 47 0) fun i229 h230 =>
 B1 (st 4 (.ptr i229 0) v227 h230) fun h231 =>
 j223 x216 x217 x218 x219 x221 (.ptr i229 0) v228 h231) (fun x232 x233 x234 x235 x236 x237 x238 h239 =>
 J 4 (fun j240 =>
 J 5 (fun j241 =>
 B1 (ilt x235 (.int .i64 0)) fun v242 =>
 G v242 false (fun k243 =>
 k243 x236 h239) (fun v244 h245 =>
 G v242 false (fun k246 =>
 B1 (ine v244 (.int .i64 0)) fun v247 =>
 k246 v247 h245) (fun v248 h249 =>
 B1 (pk v242 (.bool true) v248) fun v250 =>
 G v250 false (fun k251 =>
 k251 x238 h249) (fun v252 h253 =>
 G v250 false (fun k254 =>
 B1 (ine v252 (.int .i64 0)) fun v255 =>
 k254 v255 h253) (fun v256 h257 =>
 B1 (pk v250 (.bool true) v256) fun v258 =>
 j241 x232 x233 x234 x237 v258 h257) h253) h249) h245) h239) (fun x259 x260 x261 x262 x263 h264 =>
 CD x263 (
 some ((.bool false), h264)) (
 j240 x259 x260 x261 x262 h264))) (fun x265 x266 x267 x268 h269 =>
 B1 (lda 4 x268 h269) fun v270 =>
 B1 (st 4 x266 v270 h269) fun h271 =>
 j108 x265 x266 x267 h271)))))) (fun x272 x273 x274 h275 =>
 j107 x272 x273 x274 h275)) (fun x276 x277 x278 h279 =>
 B1 (iadd x278 (.int .i64 1)) fun v280 =>
 j87 x276 x277 v280 h279))

noncomputable def l_outriderlaw16_RunEnds1 (J : JT) (G : GT) (cf : CF) (j86 : K.Fn 1) : K.Fn 3 := LP 3 fun j87 => fun x88 x89 x90 h91 => bl_outriderlaw16_RunEnds1 J G cf j86 j87 x88 x89 x90 h91

theorem rl_outriderlaw16_RunEnds1 (J : JT) (G : GT) (cf : CF) (j86 : K.Fn 1) (j87 : K.Fn 3) (x88 x89 x90 : AV) (h91 : Hp) : codeF P J G cf (nT P 4) (atC P 4 [1, 1, 1, 1, 1, 1, 1, 0, 1, 0, 0]) al_outriderlaw16_RunEnds1 (fun t H => app 3 j87 (vals [3, 6, 8] t) H) (fun q t H => match Nat.beq q 2 with | true => app 1 j86 (vals [6] t) H | false => (fun _ _ _ => none) q t H) (retK P 4) (mkT (nT P 4) [3, 6, 8] [x88, x89, x90]) h91 = bl_outriderlaw16_RunEnds1 J G cf j86 j87 x88 x89 x90 h91 := by kernel_rfl

theorem dl_outriderlaw16_RunEnds1 (J : JT) (G : GT) (cf : CF) (j86 : K.Fn 1) : l_outriderlaw16_RunEnds1 J G cf j86 = loopF P J G cf (nT P 4) (atC P 4 [1, 1, 1, 1, 1, 1, 1, 0, 1, 0, 0]) al_outriderlaw16_RunEnds1 [3, 6, 8] (fun q t H => match Nat.beq q 2 with | true => app 1 j86 (vals [6] t) H | false => (fun _ _ _ => none) q t H) (retK P 4) := by
  unfold l_outriderlaw16_RunEnds1 loopF
  refine congrArg (LP 3) ?_
  funext j87 x88 x89 x90 h91
  exact (rl_outriderlaw16_RunEnds1 J G cf j86 j87 x88 x89 x90 h91).symm

theorem ql_outriderlaw16_RunEnds1 (cf : CF) (j86 : K.Fn 1) (x88 x89 x90 : AV) (h91 : Hp) : l_outriderlaw16_RunEnds1 JN GO cf j86 x88 x89 x90 h91 = bl_outriderlaw16_RunEnds1 JN GO cf j86 (l_outriderlaw16_RunEnds1 JN GO cf j86) x88 x89 x90 h91 := by
  have h1 : l_outriderlaw16_RunEnds1 JN GO cf j86 x88 x89 x90 h91 = app 3 (loopF P JN GO cf (nT P 4) (atC P 4 [1, 1, 1, 1, 1, 1, 1, 0, 1, 0, 0]) al_outriderlaw16_RunEnds1 [3, 6, 8] (fun q t H => match Nat.beq q 2 with | true => app 1 j86 (vals [6] t) H | false => (fun _ _ _ => none) q t H) (retK P 4)) [x88, x89, x90] h91 := by rw [dl_outriderlaw16_RunEnds1]; kernel_rfl
  refine h1.trans ((loopF_eq (P := P) cf (nT P 4) (atC P 4 [1, 1, 1, 1, 1, 1, 1, 0, 1, 0, 0]) al_outriderlaw16_RunEnds1 [3, 6, 8] (fun q t H => match Nat.beq q 2 with | true => app 1 j86 (vals [6] t) H | false => (fun _ _ _ => none) q t H) (retK P 4) [x88, x89, x90] rfl h91).trans ((rl_outriderlaw16_RunEnds1 JN GO cf j86 _ x88 x89 x90 h91).trans ?_))
  rw [dl_outriderlaw16_RunEnds1]

noncomputable def s_outriderlaw16_RunEnds (J : JT) (G : GT) (cf : CF) (a0 : AV) (H : Hp) : R :=
 B2 (cf (.func (.func 16) [] []) [] H) fun v0 h1 =>
 B1 (unA .not v0) fun v2 =>
 CD v2 (
 some ((.bool false), h1)) (
 J 3 (fun j3 =>
 B2 (cf (.func (.func 9) [] []) [a0] h1) fun v4 h5 =>
 B1 (ex 0 v4) fun v6 =>
 B1 (ex 1 v4) fun v7 =>
 BN (newCells h5 [.slice0] 25 0) fun i8 h9 =>
 B1 (st 1 (.ptr i8 0) v6 h9) fun h10 =>
 j3 a0 (.ptr i8 0) v7 h10) (fun x11 x12 x13 h14 =>
 J 1 (fun j15 =>
 J 2 (fun j16 =>
 B1 (lens x11) fun v17 =>
 B1 (igt v17 (.int .i64 600)) fun v18 =>
 G v18 false (fun k19 =>
 k19 x13 h14) (fun v20 h21 =>
 G v18 false (fun k22 =>
 B1 (ine v20 (.int .i64 0)) fun v23 =>
 k22 v23 h21) (fun v24 h25 =>
 B1 (pk v18 (.bool true) v24) fun v26 =>
 j16 x12 v26 h25) h21) h14) (fun x27 x28 h29 =>
 CD x28 (
 some ((.bool true), h29)) (
 j15 x27 h29))) (fun x30 h31 =>
 J 1 (fun j32 =>
 J 1 (fun j33 =>
 l_outriderlaw16_RunEnds J G cf j33 x30 (.int .i64 0) h31) (fun x67 h68 =>
 j32 x67 h68)) (fun x69 h70 =>
 J 3 (fun j71 =>
 B1 (lda 1 x69 h70) fun v72 =>
 B2 (cf (.func (.func 17) [] []) [v72] h70) fun v73 h74 =>
 B1 (ex 0 v73) fun v75 =>
 B1 (ex 1 v73) fun v76 =>
 BN (newCells h74 [.slice0, (.int .i64 0), .slice0, .slice0] 47 0) fun i77 h78 =>
 B1 (st 4 (.ptr i77 0) v75 h78) fun h79 =>
 j71 x69 (.ptr i77 0) v76 h79) (fun x80 x81 x82 h83 =>
 B1 (ine x82 (.int .i64 0)) fun v84 =>
 CD v84 (
 some ((.bool false), h83)) (
 J 1 (fun j85 =>
 J 1 (fun j86 =>
 l_outriderlaw16_RunEnds1 J G cf j86 x80 x81 (.int .i64 0) h83) (fun x281 h282 =>
 j85 x281 h282)) (fun x283 h284 =>
 B1 (fa 1 x283) fun v285 =>
 B1 (ld v285 h284) fun v286 =>
 B1 (ieq v286 (.int .i64 1)) fun v287 =>
 some (v287, h284))))))))

theorem e_outriderlaw16_RunEnds (J : JT) (G : GT) (cf : CF) (a0 : AV) (H : Hp) : callF P J G prim an cf 4 [a0] H = s_outriderlaw16_RunEnds J G cf a0 H := by kernel_rfl

theorem c_outriderlaw16_RunEnds {a0 : AV} {H : Hp} {r : AV × Hp} (h : s_outriderlaw16_RunEnds JN GO cK a0 H = some r) : cK (.func (.func 4) [] []) [a0] H = some r := callF_fix (first := []) (cap := []) ((e_outriderlaw16_RunEnds JN GO _ a0 H).trans h)

end
end Go.Proofs.YthljbjokonglhaaGreatDoor.DfK
