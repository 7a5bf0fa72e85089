/- Plain forms of functions, printed by a program of our own, and that the evaluator's reading of each is its plain form (of no conditions). -/
import Derived.Test.YthljbjokonglhaaGreatDoorDfK
namespace Go.Proofs.YthljbjokonglhaaGreatDoor.DfK
open Go Am Am.K DfEnv
set_option linter.unusedVariables false
set_option maxRecDepth 100000
noncomputable section
def al_def_Graph1 : An := (.sq none .nl (.sq none (.cd .nl .nl) (.sq (some [1, 2, 3, 4, 14, 15, 16, 22, 23, 24]) (.bl (some [1, 2, 3, 4, 14, 15, 16, 22, 23, 24]) (.sq none .nl (.sq (some [1, 2, 3, 4, 7, 8, 14, 15, 16, 22, 23, 24]) .nl (.sq (some [1, 2, 3, 4, 8, 14, 15, 16, 22, 23, 24, 48]) .nl (.cd .nl .nl))))) .nl)))

noncomputable def bl_def_Graph1 (J : JT) (G : GT) (cf : CF) (j20 : K.Fn 2) (j31 : K.Fn 6) (j50 : K.Fn 6) (j51 : K.Fn 10) (x52 x53 x54 x55 x56 x57 x58 x59 x60 x61 : AV) (h62 : Hp) : R :=
 B1 (ilt x61 x60) fun v63 =>
 CD v63 (
 J 10 (fun j64 =>
 J 10 (fun j65 =>
 B1 (ia 1 x59 x61) fun v66 =>
 B1 (ld v66 h62) fun v67 =>
 J 12 (fun j68 =>
 B1 (fl [(.int .i64 0), (.int .i64 0)] [(0, 1, v67), (1, 1, x55)]) fun l69 =>
 BN (newCells h62 [(.int .i64 0), (.int .i64 0)] 83 0) fun i70 h71 =>
 B1 (st 2 (.ptr i70 0) (.agg l69) h71) fun h72 =>
 j68 x52 x53 x54 x55 v67 (.ptr i70 0) x56 x57 x58 x59 x60 x61 h72) (fun x73 x74 x75 x76 x77 x78 x79 x80 x81 x82 x83 x84 h85 =>
 J 12 (fun j86 =>
 B1 (fa 0 x73) fun v87 =>
 B1 (ld v87 h85) fun v88 =>
 B1 (lenx v88) fun v89 =>
 B1 (isub v89 (.int .i64 1)) fun v90 =>
 B2 (cf (.func (.func 32) [] []) [x77, (.int .i64 0), v90] h85) fun v91 h92 =>
 G v91 true (fun k93 =>
 k93 x77 h92) (fun v94 h95 =>
 G v91 true (fun k96 =>
 k96 x76 h95) (fun v97 h98 =>
 G v91 true (fun k99 =>
 B1 (ine v94 v97) fun v100 =>
 k99 v100 h98) (fun v101 h102 =>
 B1 (pk v91 v101 (.bool false)) fun v103 =>
 G v103 true (fun k104 =>
 B1 (fa 1 x75) fun v105 =>
 k104 v105 h102) (fun v106 h107 =>
 G v103 true (fun k108 =>
 B1 (ld v106 h107) fun v109 =>
 k108 v109 h107) (fun v110 h111 =>
 G v103 true (fun k112 =>
 B1 (lda 2 x78 h111) fun v113 =>
 k112 v113 h111) (fun v114 h115 =>
 G v103 true (fun k116 =>
 B2 (cf (.func (.func 42) [] []) [v110, v114] h115) fun v117 h118 =>
 k116 v117 h118) (fun v119 h120 =>
 G v103 true (fun k121 =>
 B1 (unA .not v119) fun v122 =>
 k121 v122 h120) (fun v123 h124 =>
 B1 (pk v103 v123 (.bool false)) fun v125 =>
 j86 x73 x74 x75 x76 x78 x79 x80 x81 x82 x83 x84 v125 h124) h120) h115) h111) h107) h102) h98) h95) h92) (fun x126 x127 x128 x129 x130 x131 x132 x133 x134 x135 x136 x137 h138 =>
 CD x137 (
 B1 (fa 1 x128) fun v139 =>
 B1 (ld v139 h138) fun v140 =>
 B1 (lda 2 x130 h138) fun v141 =>
 B1 (fl [(.int .i64 0), (.int .i64 0)] [(0, 2, v141)]) fun l142 =>
 BN (newCells h138 l142 83 0) fun i143 h144 =>
 B2 (app' 83 2 [(.int .i64 0), (.int .i64 0)] false v140 (.slice i143 0 1 1 true 2) h144) fun v145 h146 =>
 B1 (fa 1 x128) fun v147 =>
 B1 (st 1 v147 v145 h146) fun h148 =>
 j65 x126 x127 x128 x129 x131 x132 x133 x134 x135 x136 h148) (
 j65 x126 x127 x128 x129 x131 x132 x133 x134 x135 x136 h138)))) (fun x149 x150 x151 x152 x153 x154 x155 x156 x157 x158 h159 =>
 j64 x149 x150 x151 x152 x153 x154 x155 x156 x157 x158 h159)) (fun x160 x161 x162 x163 x164 x165 x166 x167 x168 x169 h170 =>
 B1 (iadd x169 (.int .i64 1)) fun v171 =>
 j51 x160 x161 x162 x163 x164 x165 x166 x167 x168 v171 h170)) (
 j50 x52 x53 x54 x56 x57 x58 h62)

noncomputable def l_def_Graph1 (J : JT) (G : GT) (cf : CF) (j20 : K.Fn 2) (j31 : K.Fn 6) (j50 : K.Fn 6) : K.Fn 10 := LP 10 fun j51 => fun x52 x53 x54 x55 x56 x57 x58 x59 x60 x61 h62 => bl_def_Graph1 J G cf j20 j31 j50 j51 x52 x53 x54 x55 x56 x57 x58 x59 x60 x61 h62

theorem rl_def_Graph1 (J : JT) (G : GT) (cf : CF) (j20 : K.Fn 2) (j31 : K.Fn 6) (j50 : K.Fn 6) (j51 : K.Fn 10) (x52 x53 x54 x55 x56 x57 x58 x59 x60 x61 : AV) (h62 : Hp) : codeF P J G cf (nT P 15) (atC P 15 [1, 1, 0, 1, 0, 0, 1, 1, 0, 0, 1, 1, 0, 0]) al_def_Graph1 (fun t H => app 10 j51 (vals [1, 2, 3, 4, 14, 15, 16, 22, 23, 24] t) H) (fun q t H => match Nat.beq q 2 with | true => app 6 j50 (vals [1, 2, 3, 14, 15, 16] t) H | false => (fun q t H => match Nat.beq q 1 with | true => app 6 j31 (vals [1, 2, 3, 14, 15, 16] t) H | false => (fun q t H => match Nat.beq q 0 with | true => app 2 j20 (vals [2, 3] t) H | false => (fun _ _ _ => none) q t H) q t H) q t H) (retK P 15) (mkT (nT P 15) [1, 2, 3, 4, 14, 15, 16, 22, 23, 24] [x52, x53, x54, x55, x56, x57, x58, x59, x60, x61]) h62 = bl_def_Graph1 J G cf j20 j31 j50 j51 x52 x53 x54 x55 x56 x57 x58 x59 x60 x61 h62 := by kernel_rfl

theorem dl_def_Graph1 (J : JT) (G : GT) (cf : CF) (j20 : K.Fn 2) (j31 : K.Fn 6) (j50 : K.Fn 6) : l_def_Graph1 J G cf j20 j31 j50 = loopF P J G cf (nT P 15) (atC P 15 [1, 1, 0, 1, 0, 0, 1, 1, 0, 0, 1, 1, 0, 0]) al_def_Graph1 [1, 2, 3, 4, 14, 15, 16, 22, 23, 24] (fun q t H => match Nat.beq q 2 with | true => app 6 j50 (vals [1, 2, 3, 14, 15, 16] t) H | false => (fun q t H => match Nat.beq q 1 with | true => app 6 j31 (vals [1, 2, 3, 14, 15, 16] t) H | false => (fun q t H => match Nat.beq q 0 with | true => app 2 j20 (vals [2, 3] t) H | false => (fun _ _ _ => none) q t H) q t H) q t H) (retK P 15) := by
  unfold l_def_Graph1 loopF
  refine congrArg (LP 10) ?_
  funext j51 x52 x53 x54 x55 x56 x57 x58 x59 x60 x61 h62
  exact (rl_def_Graph1 J G cf j20 j31 j50 j51 x52 x53 x54 x55 x56 x57 x58 x59 x60 x61 h62).symm

theorem ql_def_Graph1 (cf : CF) (j20 : K.Fn 2) (j31 : K.Fn 6) (j50 : K.Fn 6) (x52 x53 x54 x55 x56 x57 x58 x59 x60 x61 : AV) (h62 : Hp) : l_def_Graph1 JN GO cf j20 j31 j50 x52 x53 x54 x55 x56 x57 x58 x59 x60 x61 h62 = bl_def_Graph1 JN GO cf j20 j31 j50 (l_def_Graph1 JN GO cf j20 j31 j50) x52 x53 x54 x55 x56 x57 x58 x59 x60 x61 h62 := by
  have h1 : l_def_Graph1 JN GO cf j20 j31 j50 x52 x53 x54 x55 x56 x57 x58 x59 x60 x61 h62 = app 10 (loopF P JN GO cf (nT P 15) (atC P 15 [1, 1, 0, 1, 0, 0, 1, 1, 0, 0, 1, 1, 0, 0]) al_def_Graph1 [1, 2, 3, 4, 14, 15, 16, 22, 23, 24] (fun q t H => match Nat.beq q 2 with | true => app 6 j50 (vals [1, 2, 3, 14, 15, 16] t) H | false => (fun q t H => match Nat.beq q 1 with | true => app 6 j31 (vals [1, 2, 3, 14, 15, 16] t) H | false => (fun q t H => match Nat.beq q 0 with | true => app 2 j20 (vals [2, 3] t) H | false => (fun _ _ _ => none) q t H) q t H) q t H) (retK P 15)) [x52, x53, x54, x55, x56, x57, x58, x59, x60, x61] h62 := by rw [dl_def_Graph1]; kernel_rfl
  refine h1.trans ((loopF_eq (P := P) cf (nT P 15) (atC P 15 [1, 1, 0, 1, 0, 0, 1, 1, 0, 0, 1, 1, 0, 0]) al_def_Graph1 [1, 2, 3, 4, 14, 15, 16, 22, 23, 24] (fun q t H => match Nat.beq q 2 with | true => app 6 j50 (vals [1, 2, 3, 14, 15, 16] t) H | false => (fun q t H => match Nat.beq q 1 with | true => app 6 j31 (vals [1, 2, 3, 14, 15, 16] t) H | false => (fun q t H => match Nat.beq q 0 with | true => app 2 j20 (vals [2, 3] t) H | false => (fun _ _ _ => none) q t H) q t H) q t H) (retK P 15) [x52, x53, x54, x55, x56, x57, x58, x59, x60, x61] rfl h62).trans ((rl_def_Graph1 JN GO cf j20 j31 j50 _ x52 x53 x54 x55 x56 x57 x58 x59 x60 x61 h62).trans ?_))
  rw [dl_def_Graph1]

def al_def_Graph : An := (.sq none .nl (.sq none (.cd .nl .nl) (.sq (some [1, 2, 3, 14, 15, 16]) (.bl (some [1, 2, 3, 14, 15, 16]) (.sq (some [1, 2, 3, 4, 5, 14, 15, 16]) .nl (.sq none .nl (.bl (some [1, 2, 3, 14, 15, 16]) (.lp [1, 2, 3, 4, 14, 15, 16, 22, 23, 24] (.sq none .nl (.sq none (.cd .nl .nl) (.sq (some [1, 2, 3, 4, 14, 15, 16, 22, 23, 24]) (.bl (some [1, 2, 3, 4, 14, 15, 16, 22, 23, 24]) (.sq none .nl (.sq (some [1, 2, 3, 4, 7, 8, 14, 15, 16, 22, 23, 24]) .nl (.sq (some [1, 2, 3, 4, 8, 14, 15, 16, 22, 23, 24, 48]) .nl (.cd .nl .nl))))) .nl)))))))) .nl)))

noncomputable def bl_def_Graph (J : JT) (G : GT) (cf : CF) (j20 : K.Fn 2) (j21 : K.Fn 6) (x22 x23 x24 x25 x26 x27 : AV) (h28 : Hp) : R :=
 B1 (ilt x27 x26) fun v29 =>
 CD v29 (
 J 6 (fun j30 =>
 J 6 (fun j31 =>
 J 8 (fun j32 =>
 B1 (ia 6 x25 x27) fun v33 =>
 B1 (lda 6 v33 h28) fun v34 =>
 BN (newCells h28 [(.str []), .slice0, (.int .i64 0), (.int .i64 0), (.int .i64 0), (.str [])] 43 0) fun i35 h36 =>
 B1 (st 6 (.ptr i35 0) v34 h36) fun h37 =>
 j32 x22 x23 x24 x27 (.ptr i35 0) x25 x26 x27 h37) (fun x38 x39 x40 x41 x42 x43 x44 x45 h46 =>
 B1 (fa 1 x42) fun v47 =>
 B1 (ld v47 h46) fun v48 =>
 B1 (lenx v48) fun v49 =>
 J 6 (fun j50 =>
 l_def_Graph1 J G cf j20 j31 j50 x38 x39 x40 x41 x43 x44 x45 v48 v49 (.int .i64 0) h46) (fun x172 x173 x174 x175 x176 x177 h178 =>
 j31 x172 x173 x174 x175 x176 x177 h178))) (fun x179 x180 x181 x182 x183 x184 h185 =>
 j30 x179 x180 x181 x182 x183 x184 h185)) (fun x186 x187 x188 x189 x190 x191 h192 =>
 B1 (iadd x191 (.int .i64 1)) fun v193 =>
 j21 x186 x187 x188 x189 x190 v193 h192)) (
 j20 x23 x24 h28)

noncomputable def l_def_Graph (J : JT) (G : GT) (cf : CF) (j20 : K.Fn 2) : K.Fn 6 := LP 6 fun j21 => fun x22 x23 x24 x25 x26 x27 h28 => bl_def_Graph J G cf j20 j21 x22 x23 x24 x25 x26 x27 h28

theorem rl_def_Graph (J : JT) (G : GT) (cf : CF) (j20 : K.Fn 2) (j21 : K.Fn 6) (x22 x23 x24 x25 x26 x27 : AV) (h28 : Hp) : codeF P J G cf (nT P 15) (atC P 15 [1, 1, 0, 1, 0, 0]) al_def_Graph (fun t H => app 6 j21 (vals [1, 2, 3, 14, 15, 16] t) H) (fun q t H => match Nat.beq q 0 with | true => app 2 j20 (vals [2, 3] t) H | false => (fun _ _ _ => none) q t H) (retK P 15) (mkT (nT P 15) [1, 2, 3, 14, 15, 16] [x22, x23, x24, x25, x26, x27]) h28 = bl_def_Graph J G cf j20 j21 x22 x23 x24 x25 x26 x27 h28 := by kernel_rfl

theorem dl_def_Graph (J : JT) (G : GT) (cf : CF) (j20 : K.Fn 2) : l_def_Graph J G cf j20 = loopF P J G cf (nT P 15) (atC P 15 [1, 1, 0, 1, 0, 0]) al_def_Graph [1, 2, 3, 14, 15, 16] (fun q t H => match Nat.beq q 0 with | true => app 2 j20 (vals [2, 3] t) H | false => (fun _ _ _ => none) q t H) (retK P 15) := by
  unfold l_def_Graph loopF
  refine congrArg (LP 6) ?_
  funext j21 x22 x23 x24 x25 x26 x27 h28
  exact (rl_def_Graph J G cf j20 j21 x22 x23 x24 x25 x26 x27 h28).symm

theorem ql_def_Graph (cf : CF) (j20 : K.Fn 2) (x22 x23 x24 x25 x26 x27 : AV) (h28 : Hp) : l_def_Graph JN GO cf j20 x22 x23 x24 x25 x26 x27 h28 = bl_def_Graph JN GO cf j20 (l_def_Graph JN GO cf j20) x22 x23 x24 x25 x26 x27 h28 := by
  have h1 : l_def_Graph JN GO cf j20 x22 x23 x24 x25 x26 x27 h28 = app 6 (loopF P JN GO cf (nT P 15) (atC P 15 [1, 1, 0, 1, 0, 0]) al_def_Graph [1, 2, 3, 14, 15, 16] (fun q t H => match Nat.beq q 0 with | true => app 2 j20 (vals [2, 3] t) H | false => (fun _ _ _ => none) q t H) (retK P 15)) [x22, x23, x24, x25, x26, x27] h28 := by rw [dl_def_Graph]; kernel_rfl
  refine h1.trans ((loopF_eq (P := P) cf (nT P 15) (atC P 15 [1, 1, 0, 1, 0, 0]) al_def_Graph [1, 2, 3, 14, 15, 16] (fun q t H => match Nat.beq q 0 with | true => app 2 j20 (vals [2, 3] t) H | false => (fun _ _ _ => none) q t H) (retK P 15) [x22, x23, x24, x25, x26, x27] rfl h28).trans ((rl_def_Graph JN GO cf j20 _ x22 x23 x24 x25 x26 x27 h28).trans ?_))
  rw [dl_def_Graph]

noncomputable def s_def_Graph (J : JT) (G : GT) (cf : CF) (a0 : AV) (H : Hp) : R :=
 BN (bx 25 a0 H) fun i0 h1 =>
 BN (newCells h1 [(.int .i64 0), .slice0] 39 0) fun i2 h3 =>
 J 3 (fun j4 =>
 B1 (fa 0 (.ptr i0 0)) fun v5 =>
 B1 (ld v5 h3) fun v6 =>
 B1 (lenx v6) fun v7 =>
 B1 (fl [(.int .i64 0), .slice0] [(0, 1, v7)]) fun l8 =>
 BN (newCells h3 [(.int .i64 0), .slice0] 39 0) fun i9 h10 =>
 B1 (st 2 (.ptr i9 0) (.agg l8) h10) fun h11 =>
 j4 (.ptr i0 0) (.ptr i2 0) (.ptr i9 0) h11) (fun x12 x13 x14 h15 =>
 J 2 (fun j16 =>
 B1 (fa 0 x12) fun v17 =>
 B1 (ld v17 h15) fun v18 =>
 B1 (lenx v18) fun v19 =>
 J 2 (fun j20 =>
 l_def_Graph J G cf j20 x12 x13 x14 v18 v19 (.int .i64 0) h15) (fun x194 x195 h196 =>
 j16 x194 x195 h196)) (fun x197 x198 h199 =>
 B1 (lda 2 x198 h199) fun v200 =>
 B1 (st 2 x197 v200 h199) fun h201 =>
 B1 (lda 2 x197 h201) fun v202 =>
 some (v202, h201)))

theorem e_def_Graph (J : JT) (G : GT) (cf : CF) (a0 : AV) (H : Hp) : callF P J G prim an cf 15 [a0] H = s_def_Graph J G cf a0 H := by kernel_rfl

theorem c_def_Graph {a0 : AV} {H : Hp} {r : AV × Hp} (h : s_def_Graph JN GO cK a0 H = some r) : cK (.func (.func 15) [] []) [a0] H = some r := callF_fix (first := []) (cap := []) ((e_def_Graph JN GO _ a0 H).trans h)

noncomputable def s_run_New (J : JT) (G : GT) (cf : CF) (a0 : AV) (H : Hp) : R :=
 BN (bx 25 a0 H) fun i0 h1 =>
 BN (newCells h1 [.slice0, (.int .i64 0), .slice0, .slice0] 47 0) fun i2 h3 =>
 J 2 (fun j4 =>
 B1 (lda 1 (.ptr i0 0) h3) fun v5 =>
 B2 (cf (.func (.func 11) [] []) [v5] h3) fun v6 h7 =>
 B1 (ine v6 (.int .i64 0)) fun v8 =>
 CD v8 (
 B1 (fl [.slice0, (.int .i64 0), .slice0, .slice0] []) fun l9 =>
 B1 (st 4 (.ptr i2 0) (.agg l9) h7) fun h10 =>
 B1 (lda 4 (.ptr i2 0) h10) fun v11 =>
 some (.tuple [v11, v6], h10)) (
 j4 (.ptr i0 0) (.ptr i2 0) h7)) (fun x12 x13 h14 =>
 J 2 (fun j15 =>
 B1 (lda 1 x12 h14) fun v16 =>
 B1 (fa 0 x12) fun v17 =>
 B1 (ld v17 h14) fun v18 =>
 B1 (lenx v18) fun v19 =>
 B2 (mks [(.int .i64 0), (.int .i64 0), (.int .i64 0), (.str [])] 51 4 v19 v19 h14) fun v20 h21 =>
 B1 (fl [.slice0, (.int .i64 0), .slice0, .slice0] [(0, 1, v16), (2, 1, v20)]) fun l22 =>
 B2 (cf (.func (.func 44) [] []) [(.agg l22)] h21) fun v23 h24 =>
 BN (newCells h24 [.slice0, (.int .i64 0), .slice0, .slice0] 47 0) fun i25 h26 =>
 B1 (st 4 (.ptr i25 0) v23 h26) fun h27 =>
 B1 (lda 1 x12 h21) fun v28 =>
 SM v16 v28 <|
 j15 x13 (.ptr i25 0) h27) (fun x29 x30 h31 =>
 B2 (cf (.func (.func 45) [] []) [x30] h31) fun v32 h33 =>
 B1 (lda 4 x30 h33) fun v34 =>
 B1 (st 4 x29 v34 h33) fun h35 =>
 B1 (lda 4 x29 h35) fun v36 =>
 some (.tuple [v36, (.int .i64 0)], h35)))

theorem e_run_New (J : JT) (G : GT) (cf : CF) (a0 : AV) (H : Hp) : callF P J G prim an cf 17 [a0] H = s_run_New J G cf a0 H := by kernel_rfl

theorem c_run_New {a0 : AV} {H : Hp} {r : AV × Hp} (h : s_run_New JN GO cK a0 H = some r) : cK (.func (.func 17) [] []) [a0] H = some r := callF_fix (first := []) (cap := []) ((e_run_New JN GO _ a0 H).trans h)

def al__run_Run_clone : An := (.sq none .nl (.sq none (.cd .nl .nl) (.sq (some [1, 2, 13, 14, 15]) (.bl none (.sq (some [1, 2, 3, 4, 13, 14, 15]) .nl .nl)) .nl)))

noncomputable def bl__run_Run_clone (J : JT) (G : GT) (cf : CF) (j28 : K.Fn 2) (j29 : K.Fn 5) (x30 x31 x32 x33 x34 : AV) (h35 : Hp) : R :=
 B1 (ilt x34 x33) fun v36 =>
 CD v36 (
 J 5 (fun j37 =>
 J 7 (fun j38 =>
 B1 (ia 6 x32 x34) fun v39 =>
 B1 (lda 6 v39 h35) fun v40 =>
 BN (newCells h35 [(.str []), .slice0, (.int .i64 0), (.int .i64 0), (.int .i64 0), (.str [])] 43 0) fun i41 h42 =>
 B1 (st 6 (.ptr i41 0) v40 h42) fun h43 =>
 j38 x30 x31 x34 (.ptr i41 0) x32 x33 x34 h43) (fun x44 x45 x46 x47 x48 x49 x50 h51 =>
 B1 (fa 0 x44) fun v52 =>
 B1 (fa 0 v52) fun v53 =>
 B1 (ld v53 h51) fun v54 =>
 B1 (fa 1 x47) fun v55 =>
 B1 (ld v55 h51) fun v56 =>
 B2 (cf (.func (.func 75) [] []) [v56] h51) fun v57 h58 =>
 B1 (ia 6 v54 x46) fun v59 =>
 B1 (fa 1 v59) fun v60 =>
 B1 (st 1 v60 v57 h58) fun h61 =>
 B1 (ld v53 h58) fun v62 =>
 SM v54 v62 <|
 j37 x44 x45 x48 x49 x50 h61)) (fun x63 x64 x65 x66 x67 h68 =>
 B1 (iadd x67 (.int .i64 1)) fun v69 =>
 j29 x63 x64 x65 x66 v69 h68)) (
 j28 x30 x31 h35)

noncomputable def l__run_Run_clone (J : JT) (G : GT) (cf : CF) (j28 : K.Fn 2) : K.Fn 5 := LP 5 fun j29 => fun x30 x31 x32 x33 x34 h35 => bl__run_Run_clone J G cf j28 j29 x30 x31 x32 x33 x34 h35

theorem rl__run_Run_clone (J : JT) (G : GT) (cf : CF) (j28 : K.Fn 2) (j29 : K.Fn 5) (x30 x31 x32 x33 x34 : AV) (h35 : Hp) : codeF P J G cf (nT P 44) (atC P 44 [1, 1, 0, 1, 0, 0]) al__run_Run_clone (fun t H => app 5 j29 (vals [1, 2, 13, 14, 15] t) H) (fun q t H => match Nat.beq q 0 with | true => app 2 j28 (vals [1, 2] t) H | false => (fun _ _ _ => none) q t H) (retK P 44) (mkT (nT P 44) [1, 2, 13, 14, 15] [x30, x31, x32, x33, x34]) h35 = bl__run_Run_clone J G cf j28 j29 x30 x31 x32 x33 x34 h35 := by kernel_rfl

theorem dl__run_Run_clone (J : JT) (G : GT) (cf : CF) (j28 : K.Fn 2) : l__run_Run_clone J G cf j28 = loopF P J G cf (nT P 44) (atC P 44 [1, 1, 0, 1, 0, 0]) al__run_Run_clone [1, 2, 13, 14, 15] (fun q t H => match Nat.beq q 0 with | true => app 2 j28 (vals [1, 2] t) H | false => (fun _ _ _ => none) q t H) (retK P 44) := by
  unfold l__run_Run_clone loopF
  refine congrArg (LP 5) ?_
  funext j29 x30 x31 x32 x33 x34 h35
  exact (rl__run_Run_clone J G cf j28 j29 x30 x31 x32 x33 x34 h35).symm

theorem ql__run_Run_clone (cf : CF) (j28 : K.Fn 2) (x30 x31 x32 x33 x34 : AV) (h35 : Hp) : l__run_Run_clone JN GO cf j28 x30 x31 x32 x33 x34 h35 = bl__run_Run_clone JN GO cf j28 (l__run_Run_clone JN GO cf j28) x30 x31 x32 x33 x34 h35 := by
  have h1 : l__run_Run_clone JN GO cf j28 x30 x31 x32 x33 x34 h35 = app 5 (loopF P JN GO cf (nT P 44) (atC P 44 [1, 1, 0, 1, 0, 0]) al__run_Run_clone [1, 2, 13, 14, 15] (fun q t H => match Nat.beq q 0 with | true => app 2 j28 (vals [1, 2] t) H | false => (fun _ _ _ => none) q t H) (retK P 44)) [x30, x31, x32, x33, x34] h35 := by rw [dl__run_Run_clone]; kernel_rfl
  refine h1.trans ((loopF_eq (P := P) cf (nT P 44) (atC P 44 [1, 1, 0, 1, 0, 0]) al__run_Run_clone [1, 2, 13, 14, 15] (fun q t H => match Nat.beq q 0 with | true => app 2 j28 (vals [1, 2] t) H | false => (fun _ _ _ => none) q t H) (retK P 44) [x30, x31, x32, x33, x34] rfl h35).trans ((rl__run_Run_clone JN GO cf j28 _ x30 x31 x32 x33 x34 h35).trans ?_))
  rw [dl__run_Run_clone]

noncomputable def s__run_Run_clone (J : JT) (G : GT) (cf : CF) (a0 : AV) (H : Hp) : R :=
 BN (bx 47 a0 H) fun i0 h1 =>
 BN (newCells h1 [.slice0, (.int .i64 0), .slice0, .slice0] 47 0) fun i2 h3 =>
 J 2 (fun j4 =>
 B1 (fa 0 (.ptr i0 0)) fun v5 =>
 B1 (fa 0 v5) fun v6 =>
 B1 (ld v6 h3) fun v7 =>
 B2 (cf (.func (.func 74) [] []) [v7] h3) fun v8 h9 =>
 B1 (fa 0 (.ptr i0 0)) fun v10 =>
 B1 (fa 0 v10) fun v11 =>
 B1 (st 1 v11 v8 h9) fun h12 =>
 j4 (.ptr i0 0) (.ptr i2 0) h12) (fun x13 x14 h15 =>
 J 2 (fun j16 =>
 J 5 (fun j17 =>
 B1 (fa 0 x13) fun v18 =>
 B1 (fa 0 v18) fun v19 =>
 B1 (ld v19 h15) fun v20 =>
 B1 (lenx v20) fun v21 =>
 j17 x13 x14 v20 v21 (.int .i64 0) h15) (fun x22 x23 x24 x25 x26 h27 =>
 J 2 (fun j28 =>
 l__run_Run_clone J G cf j28 x22 x23 x24 x25 x26 h27) (fun x70 x71 h72 =>
 j16 x70 x71 h72))) (fun x73 x74 h75 =>
 J 2 (fun j76 =>
 B1 (fa 2 x73) fun v77 =>
 B1 (ld v77 h75) fun v78 =>
 B2 (cf (.func (.func 76) [] []) [v78] h75) fun v79 h80 =>
 B1 (fa 2 x73) fun v81 =>
 B1 (st 1 v81 v79 h80) fun h82 =>
 j76 x73 x74 h82) (fun x83 x84 h85 =>
 J 2 (fun j86 =>
 B1 (fa 3 x83) fun v87 =>
 B1 (ld v87 h85) fun v88 =>
 B2 (cf (.func (.func 77) [] []) [v88] h85) fun v89 h90 =>
 B1 (fa 3 x83) fun v91 =>
 B1 (st 1 v91 v89 h90) fun h92 =>
 j86 x83 x84 h92) (fun x93 x94 h95 =>
 B1 (lda 4 x93 h95) fun v96 =>
 B1 (st 4 x94 v96 h95) fun h97 =>
 B1 (lda 4 x94 h97) fun v98 =>
 some (v98, h97)))))

theorem e__run_Run_clone (J : JT) (G : GT) (cf : CF) (a0 : AV) (H : Hp) : callF P J G prim an cf 44 [a0] H = s__run_Run_clone J G cf a0 H := by kernel_rfl

theorem c__run_Run_clone {a0 : AV} {H : Hp} {r : AV × Hp} (h : s__run_Run_clone JN GO cK a0 H = some r) : cK (.func (.func 44) [] []) [a0] H = some r := callF_fix (first := []) (cap := []) ((e__run_Run_clone JN GO _ a0 H).trans h)

def al_run_Run_settle : An := (.sq none .nl (.sq none (.cd .nl .nl) (.sq (some [1, 2, 10, 11, 12]) (.bl none (.sq (some [1, 2, 3, 4, 10, 11, 12]) .nl (.sq (some [1, 2, 3, 4, 5, 10, 11, 12]) .nl (.sq (some [1, 2, 3, 10, 11, 12]) (.sq (some [1, 2, 3, 10, 11, 12, 47]) .nl (.cd .nl .nl)) .nl)))) .nl)))

noncomputable def bl_run_Run_settle (J : JT) (G : GT) (cf : CF) (j16 : K.Fn 2) (j17 : K.Fn 5) (x18 x19 x20 x21 x22 : AV) (h23 : Hp) : R :=
 B1 (ilt x22 x21) fun v24 =>
 CD v24 (
 J 5 (fun j25 =>
 J 7 (fun j26 =>
 B1 (ia 6 x20 x22) fun v27 =>
 B1 (lda 6 v27 h23) fun v28 =>
 BN (newCells h23 [(.str []), .slice0, (.int .i64 0), (.int .i64 0), (.int .i64 0), (.str [])] 43 0) fun i29 h30 =>
 B1 (st 6 (.ptr i29 0) v28 h30) fun h31 =>
 j26 x18 x19 x22 (.ptr i29 0) x20 x21 x22 h31) (fun x32 x33 x34 x35 x36 x37 x38 h39 =>
 J 8 (fun j40 =>
 B1 (fa 1 x35) fun v41 =>
 B1 (ld v41 h39) fun v42 =>
 B2 (cf (.func (.func 48) [] []) [v42, (.func (.func 78) [] [x32])] h39) fun v43 h44 =>
 j40 x32 x33 x34 x35 v43 x36 x37 x38 h44) (fun x45 x46 x47 x48 x49 x50 x51 x52 h53 =>
 J 6 (fun j54 =>
 J 7 (fun j55 =>
 B1 (ld x45 h53) fun v56 =>
 B1 (nilA v56) fun v57 =>
 B1 (fa 2 v57) fun v58 =>
 B1 (ld v58 h53) fun v59 =>
 B1 (ia 4 v59 x47) fun v60 =>
 B1 (fa 0 v60) fun v61 =>
 B1 (ld v61 h53) fun v62 =>
 B1 (ieq v62 (.int .i64 0)) fun v63 =>
 GD2 v63 true (
 B1 (unA .not x49) fun v64 =>
 GD2 v64 true (
 B1 (fa 5 x48) fun v65 =>
 B1 (ld v65 h53) fun v66 =>
 B1 (seq v66 (.str [])) fun v67 =>
 GD2 v67 false (
 B1 (ld x45 h53) fun v68 =>
 B1 (nilA v68) fun v69 =>
 B1 (fa 3 v69) fun v70 =>
 B1 (ld v70 h53) fun v71 =>
 B1 (fa 5 x48) fun v72 =>
 B1 (ld v72 h53) fun v73 =>
 B2 (cf (.func (.func 58) [] []) [v71, v73] h53) fun v74 h75 =>
 j55 x45 x46 x47 x50 x51 x52 v74 h75) (
 j55 x45 x46 x47 x50 x51 x52 (.bool true) h53)) (
 j55 x45 x46 x47 x50 x51 x52 (.bool false) h53)) (
 j55 x45 x46 x47 x50 x51 x52 (.bool false) h53)) (fun x76 x77 x78 x79 x80 x81 x82 h83 =>
 CD x82 (
 B1 (ld x76 h83) fun v84 =>
 B1 (nilA v84) fun v85 =>
 B1 (fa 2 v85) fun v86 =>
 B1 (ld v86 h83) fun v87 =>
 B1 (ia 4 v87 x78) fun v88 =>
 B1 (fa 0 v88) fun v89 =>
 B1 (st 1 v89 (.int .i64 1) h83) fun h90 =>
 j54 x76 x77 x78 x79 x80 x81 h90) (
 j54 x76 x77 x78 x79 x80 x81 h83))) (fun x91 x92 x93 x94 x95 x96 h97 =>
 G x92 true (fun k98 =>
 B1 (ld x91 h97) fun v99 =>
 k98 v99 h97) (fun v100 h101 =>
 G x92 true (fun k102 =>
 B1 (nilA v100) fun v103 =>
 k102 v103 h101) (fun v104 h105 =>
 G x92 true (fun k106 =>
 B1 (fa 2 v104) fun v107 =>
 k106 v107 h105) (fun v108 h109 =>
 G x92 true (fun k110 =>
 B1 (ld v108 h109) fun v111 =>
 k110 v111 h109) (fun v112 h113 =>
 G x92 true (fun k114 =>
 k114 x93 h113) (fun v115 h116 =>
 G x92 true (fun k117 =>
 B1 (ia 4 v112 v115) fun v118 =>
 k117 v118 h116) (fun v119 h120 =>
 G x92 true (fun k121 =>
 B1 (fa 0 v119) fun v122 =>
 k121 v122 h120) (fun v123 h124 =>
 G x92 true (fun k125 =>
 B1 (ld v123 h124) fun v126 =>
 k125 v126 h124) (fun v127 h128 =>
 G x92 true (fun k129 =>
 B1 (ieq v127 (.int .i64 3)) fun v130 =>
 k129 v130 h128) (fun v131 h132 =>
 B1 (pk x92 v131 (.bool false)) fun v133 =>
 j25 x91 v133 x94 x95 x96 h132) h128) h124) h120) h116) h113) h109) h105) h101) h97)))) (fun x134 x135 x136 x137 x138 h139 =>
 B1 (iadd x138 (.int .i64 1)) fun v140 =>
 j17 x134 x135 x136 x137 v140 h139)) (
 j16 x18 x19 h23)

noncomputable def l_run_Run_settle (J : JT) (G : GT) (cf : CF) (j16 : K.Fn 2) : K.Fn 5 := LP 5 fun j17 => fun x18 x19 x20 x21 x22 h23 => bl_run_Run_settle J G cf j16 j17 x18 x19 x20 x21 x22 h23

theorem rl_run_Run_settle (J : JT) (G : GT) (cf : CF) (j16 : K.Fn 2) (j17 : K.Fn 5) (x18 x19 x20 x21 x22 : AV) (h23 : Hp) : codeF P J G cf (nT P 45) (atC P 45 [1, 1, 0, 1, 0, 0]) al_run_Run_settle (fun t H => app 5 j17 (vals [1, 2, 10, 11, 12] t) H) (fun q t H => match Nat.beq q 0 with | true => app 2 j16 (vals [1, 2] t) H | false => (fun _ _ _ => none) q t H) (retK P 45) (mkT (nT P 45) [1, 2, 10, 11, 12] [x18, x19, x20, x21, x22]) h23 = bl_run_Run_settle J G cf j16 j17 x18 x19 x20 x21 x22 h23 := by kernel_rfl

theorem dl_run_Run_settle (J : JT) (G : GT) (cf : CF) (j16 : K.Fn 2) : l_run_Run_settle J G cf j16 = loopF P J G cf (nT P 45) (atC P 45 [1, 1, 0, 1, 0, 0]) al_run_Run_settle [1, 2, 10, 11, 12] (fun q t H => match Nat.beq q 0 with | true => app 2 j16 (vals [1, 2] t) H | false => (fun _ _ _ => none) q t H) (retK P 45) := by
  unfold l_run_Run_settle loopF
  refine congrArg (LP 5) ?_
  funext j17 x18 x19 x20 x21 x22 h23
  exact (rl_run_Run_settle J G cf j16 j17 x18 x19 x20 x21 x22 h23).symm

theorem ql_run_Run_settle (cf : CF) (j16 : K.Fn 2) (x18 x19 x20 x21 x22 : AV) (h23 : Hp) : l_run_Run_settle JN GO cf j16 x18 x19 x20 x21 x22 h23 = bl_run_Run_settle JN GO cf j16 (l_run_Run_settle JN GO cf j16) x18 x19 x20 x21 x22 h23 := by
  have h1 : l_run_Run_settle JN GO cf j16 x18 x19 x20 x21 x22 h23 = app 5 (loopF P JN GO cf (nT P 45) (atC P 45 [1, 1, 0, 1, 0, 0]) al_run_Run_settle [1, 2, 10, 11, 12] (fun q t H => match Nat.beq q 0 with | true => app 2 j16 (vals [1, 2] t) H | false => (fun _ _ _ => none) q t H) (retK P 45)) [x18, x19, x20, x21, x22] h23 := by rw [dl_run_Run_settle]; kernel_rfl
  refine h1.trans ((loopF_eq (P := P) cf (nT P 45) (atC P 45 [1, 1, 0, 1, 0, 0]) al_run_Run_settle [1, 2, 10, 11, 12] (fun q t H => match Nat.beq q 0 with | true => app 2 j16 (vals [1, 2] t) H | false => (fun _ _ _ => none) q t H) (retK P 45) [x18, x19, x20, x21, x22] rfl h23).trans ((rl_run_Run_settle JN GO cf j16 _ x18 x19 x20 x21 x22 h23).trans ?_))
  rw [dl_run_Run_settle]

noncomputable def s_run_Run_settle (J : JT) (G : GT) (cf : CF) (a0 : AV) (H : Hp) : R :=
 BN (bx 126 a0 H) fun i0 h1 =>
 J 2 (fun j2 =>
 J 5 (fun j3 =>
 B1 (ld (.ptr i0 0) h1) fun v4 =>
 B1 (nilA v4) fun v5 =>
 B1 (fa 0 v5) fun v6 =>
 B1 (fa 0 v6) fun v7 =>
 B1 (ld v7 h1) fun v8 =>
 B1 (lenx v8) fun v9 =>
 j3 (.ptr i0 0) (.bool true) v8 v9 (.int .i64 0) h1) (fun x10 x11 x12 x13 x14 h15 =>
 J 2 (fun j16 =>
 l_run_Run_settle J G cf j16 x10 x11 x12 x13 x14 h15) (fun x141 x142 h143 =>
 j2 x141 x142 h143))) (fun x144 x145 h146 =>
 CD x145 (
 B1 (ld x144 h146) fun v147 =>
 B1 (nilA v147) fun v148 =>
 B1 (fa 1 v148) fun v149 =>
 B1 (st 1 v149 (.int .i64 1) h146) fun h150 =>
 some (.tuple [], h150)) (
 some (.tuple [], h146)))

theorem e_run_Run_settle (J : JT) (G : GT) (cf : CF) (a0 : AV) (H : Hp) : callF P J G prim an cf 45 [a0] H = s_run_Run_settle J G cf a0 H := by kernel_rfl

theorem c_run_Run_settle {a0 : AV} {H : Hp} {r : AV × Hp} (h : s_run_Run_settle JN GO cK a0 H = some r) : cK (.func (.func 45) [] []) [a0] H = some r := callF_fix (first := []) (cap := []) ((e_run_Run_settle JN GO _ a0 H).trans h)

noncomputable def s_run_Run_settle_1 (J : JT) (G : GT) (cf : CF) (a0 a1 : AV) (H : Hp) : R :=
 B1 (ld a1 H) fun v0 =>
 B1 (nilA v0) fun v1 =>
 B1 (fa 2 v1) fun v2 =>
 B1 (ld v2 H) fun v3 =>
 B1 (ia 4 v3 a0) fun v4 =>
 B1 (fa 0 v4) fun v5 =>
 B1 (ld v5 H) fun v6 =>
 B1 (ine v6 (.int .i64 3)) fun v7 =>
 some (v7, H)

theorem e_run_Run_settle_1 (J : JT) (G : GT) (cf : CF) (a0 a1 : AV) (H : Hp) : callF P J G prim an cf 78 [a0, a1] H = s_run_Run_settle_1 J G cf a0 a1 H := by kernel_rfl

theorem c_run_Run_settle_1 {a0 a1 : AV} {H : Hp} {r : AV × Hp} (h : s_run_Run_settle_1 JN GO cK a0 a1 H = some r) : cK (.func (.func 78) [] [a1]) [a0] H = some r := callF_fix (first := []) (cap := [a1]) ((e_run_Run_settle_1 JN GO _ a0 a1 H).trans h)

noncomputable def s__run_Run_may (J : JT) (G : GT) (cf : CF) (a0 a1 : AV) (H : Hp) : R :=
 BN (bx 47 a0 H) fun i0 h1 =>
 J 0 (fun j2 =>
 J 2 (fun j3 =>
 B1 (ilt a1 (.int .i64 0)) fun v4 =>
 G v4 false (fun k5 =>
 k5 a1 h1) (fun v6 h7 =>
 G v4 false (fun k8 =>
 B1 (fa 2 (.ptr i0 0)) fun v9 =>
 k8 v9 h7) (fun v10 h11 =>
 G v4 false (fun k12 =>
 B1 (ld v10 h11) fun v13 =>
 k12 v13 h11) (fun v14 h15 =>
 G v4 false (fun k16 =>
 B1 (lenx v14) fun v17 =>
 k16 v17 h15) (fun v18 h19 =>
 G v4 false (fun k20 =>
 B1 (ige v6 v18) fun v21 =>
 k20 v21 h19) (fun v22 h23 =>
 B1 (pk v4 (.bool true) v22) fun v24 =>
 j3 (.ptr i0 0) v24 h23) h19) h15) h11) h7) h1) (fun x25 x26 h27 =>
 CD x26 (
 some ((.int .i64 1), h27)) (
 B1 (fa 1 x25) fun v28 =>
 B1 (ld v28 h27) fun v29 =>
 B1 (ine v29 (.int .i64 0)) fun v30 =>
 CD v30 (
 some ((.int .i64 9), h27)) (
 j2  h27)))) (fun  h31 =>
 some ((.int .i64 0), h31))

theorem e__run_Run_may (J : JT) (G : GT) (cf : CF) (a0 a1 : AV) (H : Hp) : callF P J G prim an cf 46 [a0, a1] H = s__run_Run_may J G cf a0 a1 H := by kernel_rfl

theorem c__run_Run_may {a0 a1 : AV} {H : Hp} {r : AV × Hp} (h : s__run_Run_may JN GO cK a0 a1 H = some r) : cK (.func (.func 46) [] []) [a0, a1] H = some r := callF_fix (first := []) (cap := []) ((e__run_Run_may JN GO _ a0 a1 H).trans h)

noncomputable def s__run_Run_held (J : JT) (G : GT) (cf : CF) (a0 a1 a2 : AV) (H : Hp) : R :=
 BN (bx 47 a0 H) fun i0 h1 =>
 J 3 (fun j2 =>
 B1 (lda 4 (.ptr i0 0) h1) fun v3 =>
 B2 (cf (.func (.func 46) [] []) [v3, a1] h1) fun v4 h5 =>
 B1 (ine v4 (.int .i64 0)) fun v6 =>
 CD v6 (
 some (v4, h5)) (
 j2 a1 a2 (.ptr i0 0) h5)) (fun x7 x8 x9 h10 =>
 J 0 (fun j11 =>
 J 2 (fun j12 =>
 B1 (fa 2 x9) fun v13 =>
 B1 (ld v13 h10) fun v14 =>
 B1 (ia 4 v14 x7) fun v15 =>
 B1 (lda 4 v15 h10) fun v16 =>
 BN (newCells h10 [(.int .i64 0), (.int .i64 0), (.int .i64 0), (.str [])] 51 0) fun i17 h18 =>
 B1 (st 4 (.ptr i17 0) v16 h18) fun h19 =>
 j12 x8 (.ptr i17 0) h19) (fun x20 x21 h22 =>
 J 1 (fun j23 =>
 B1 (fa 0 x21) fun v24 =>
 B1 (ld v24 h22) fun v25 =>
 B1 (ine v25 (.int .i64 2)) fun v26 =>
 G v26 false (fun k27 =>
 B1 (fa 1 x21) fun v28 =>
 k27 v28 h22) (fun v29 h30 =>
 G v26 false (fun k31 =>
 B1 (ld v29 h30) fun v32 =>
 k31 v32 h30) (fun v33 h34 =>
 G v26 false (fun k35 =>
 k35 x20 h34) (fun v36 h37 =>
 G v26 false (fun k38 =>
 B1 (ine v33 v36) fun v39 =>
 k38 v39 h37) (fun v40 h41 =>
 B1 (pk v26 (.bool true) v40) fun v42 =>
 j23 v42 h41) h37) h34) h30) h22) (fun x43 h44 =>
 CD x43 (
 some ((.int .i64 8), h44)) (
 j11  h44)))) (fun  h45 =>
 some ((.int .i64 0), h45)))

theorem e__run_Run_held (J : JT) (G : GT) (cf : CF) (a0 a1 a2 : AV) (H : Hp) : callF P J G prim an cf 47 [a0, a1, a2] H = s__run_Run_held J G cf a0 a1 a2 H := by kernel_rfl

theorem c__run_Run_held {a0 a1 a2 : AV} {H : Hp} {r : AV × Hp} (h : s__run_Run_held JN GO cK a0 a1 a2 H = some r) : cK (.func (.func 47) [] []) [a0, a1, a2] H = some r := callF_fix (first := []) (cap := []) ((e__run_Run_held JN GO _ a0 a1 a2 H).trans h)

noncomputable def s__run_Run_Lease (J : JT) (G : GT) (cf : CF) (a0 a1 a2 a3 : AV) (H : Hp) : R :=
 BN (bx 47 a0 H) fun i0 h1 =>
 BN (newCells h1 [.slice0, (.int .i64 0), .slice0, .slice0] 47 0) fun i2 h3 =>
 J 5 (fun j4 =>
 B1 (lda 4 (.ptr i0 0) h3) fun v5 =>
 B2 (cf (.func (.func 46) [] []) [v5, a1] h3) fun v6 h7 =>
 B1 (ine v6 (.int .i64 0)) fun v8 =>
 CD v8 (
 B1 (fl [.slice0, (.int .i64 0), .slice0, .slice0] []) fun l9 =>
 B1 (st 4 (.ptr i2 0) (.agg l9) h7) fun h10 =>
 B1 (lda 4 (.ptr i2 0) h10) fun v11 =>
 some (.tuple [v11, v6], h10)) (
 j4 a1 a2 a3 (.ptr i0 0) (.ptr i2 0) h7)) (fun x12 x13 x14 x15 x16 h17 =>
 J 6 (fun j18 =>
 B1 (fa 2 x15) fun v19 =>
 B1 (ld v19 h17) fun v20 =>
 B1 (ia 4 v20 x12) fun v21 =>
 B1 (lda 4 v21 h17) fun v22 =>
 BN (newCells h17 [(.int .i64 0), (.int .i64 0), (.int .i64 0), (.str [])] 51 0) fun i23 h24 =>
 B1 (st 4 (.ptr i23 0) v22 h24) fun h25 =>
 j18 x12 x13 x14 x15 x16 (.ptr i23 0) h25) (fun x26 x27 x28 x29 x30 x31 h32 =>
 J 6 (fun j33 =>
 B1 (fa 0 x31) fun v34 =>
 B1 (ld v34 h32) fun v35 =>
 B1 (ine v35 (.int .i64 1)) fun v36 =>
 CD v36 (
 B1 (fl [.slice0, (.int .i64 0), .slice0, .slice0] []) fun l37 =>
 B1 (st 4 x30 (.agg l37) h32) fun h38 =>
 B1 (lda 4 x30 h38) fun v39 =>
 some (.tuple [v39, (.int .i64 4)], h38)) (
 J 7 (fun j40 =>
 B1 (fa 1 x31) fun v41 =>
 B1 (ld v41 h32) fun v42 =>
 B1 (iadd v42 (.int .i64 1)) fun v43 =>
 B1 (ine x27 v43) fun v44 =>
 j40 x26 x27 x28 x29 x30 x31 v44 h32) (fun x45 x46 x47 x48 x49 x50 x51 h52 =>
 CD x51 (
 B1 (fl [.slice0, (.int .i64 0), .slice0, .slice0] []) fun l53 =>
 B1 (st 4 x49 (.agg l53) h52) fun h54 =>
 B1 (lda 4 x49 h54) fun v55 =>
 some (.tuple [v55, (.int .i64 8)], h54)) (
 j33 x45 x46 x47 x48 x49 x50 h52)))) (fun x56 x57 x58 x59 x60 x61 h62 =>
 B1 (lda 4 x59 h62) fun v63 =>
 B2 (cf (.func (.func 44) [] []) [v63] h62) fun v64 h65 =>
 B1 (st 4 x59 v64 h65) fun h66 =>
 J 4 (fun j67 =>
 B1 (fa 0 x59) fun v68 =>
 B1 (fa 0 v68) fun v69 =>
 B1 (ld v69 h66) fun v70 =>
 B1 (ia 6 v70 x56) fun v71 =>
 B1 (fa 3 v71) fun v72 =>
 B1 (ld v72 h66) fun v73 =>
 B1 (iadd x58 v73) fun v74 =>
 B1 (fa 0 x61) fun v75 =>
 B1 (st 1 v75 (.int .i64 2) h66) fun h76 =>
 B1 (fa 1 x61) fun v77 =>
 B1 (st 1 v77 x57 h76) fun h78 =>
 B1 (fa 2 x61) fun v79 =>
 B1 (st 1 v79 v74 h78) fun h80 =>
 B1 (ld v69 h76) fun v81 =>
 SM v70 v81 <|
 B1 (ld v72 h76) fun v82 =>
 SM v73 v82 <|
 B1 (ld v69 h78) fun v83 =>
 SM v70 v83 <|
 B1 (ld v72 h78) fun v84 =>
 SM v73 v84 <|
 j67 x56 x59 x60 x61 h80) (fun x85 x86 x87 x88 h89 =>
 J 2 (fun j90 =>
 B1 (fa 2 x86) fun v91 =>
 B1 (ld v91 h89) fun v92 =>
 B1 (lda 4 x88 h89) fun v93 =>
 B1 (ia 4 v92 x85) fun v94 =>
 B1 (st 4 v94 v93 h89) fun h95 =>
 j90 x86 x87 h95) (fun x96 x97 h98 =>
 B1 (lda 4 x96 h98) fun v99 =>
 B1 (st 4 x97 v99 h98) fun h100 =>
 B1 (lda 4 x97 h100) fun v101 =>
 some (.tuple [v101, (.int .i64 0)], h100))))))

theorem e__run_Run_Lease (J : JT) (G : GT) (cf : CF) (a0 a1 a2 a3 : AV) (H : Hp) : callF P J G prim an cf 18 [a0, a1, a2, a3] H = s__run_Run_Lease J G cf a0 a1 a2 a3 H := by kernel_rfl

theorem c__run_Run_Lease {a0 a1 a2 a3 : AV} {H : Hp} {r : AV × Hp} (h : s__run_Run_Lease JN GO cK a0 a1 a2 a3 H = some r) : cK (.func (.func 18) [] []) [a0, a1, a2, a3] H = some r := callF_fix (first := []) (cap := []) ((e__run_Run_Lease JN GO _ a0 a1 a2 a3 H).trans h)

noncomputable def s_run_Run_fail (J : JT) (G : GT) (cf : CF) (a0 a1 a2 : AV) (H : Hp) : R :=
 J 4 (fun j0 =>
 B1 (nilA a0) fun v1 =>
 B1 (fa 2 v1) fun v2 =>
 B1 (ld v2 H) fun v3 =>
 B1 (ia 4 v3 a1) fun v4 =>
 B1 (nilA a0) fun v5 =>
 B1 (fa 0 v5) fun v6 =>
 B1 (fa 0 v6) fun v7 =>
 B1 (ld v7 H) fun v8 =>
 B1 (ia 6 v8 a1) fun v9 =>
 B1 (lda 6 v9 H) fun v10 =>
 BN (newCells H [(.str []), .slice0, (.int .i64 0), (.int .i64 0), (.int .i64 0), (.str [])] 43 0) fun i11 h12 =>
 B1 (st 6 (.ptr i11 0) v10 h12) fun h13 =>
 j0 a0 a2 v4 (.ptr i11 0) h13) (fun x14 x15 x16 x17 h18 =>
 J 2 (fun j19 =>
 J 5 (fun j20 =>
 B1 (nilA x16) fun v21 =>
 B1 (fa 1 v21) fun v22 =>
 B1 (ld v22 h18) fun v23 =>
 B1 (fa 2 x17) fun v24 =>
 B1 (ld v24 h18) fun v25 =>
 B1 (ile v23 v25) fun v26 =>
 j20 x14 x15 x16 x17 v26 h18) (fun x27 x28 x29 x30 x31 h32 =>
 CD x31 (
 B1 (fa 4 x30) fun v33 =>
 B1 (ld v33 h32) fun v34 =>
 B1 (nilA x29) fun v35 =>
 B1 (fa 1 v35) fun v36 =>
 B1 (ld v36 h32) fun v37 =>
 B2 (cf (.func (.func 81) [] []) [v34, v37] h32) fun v38 h39 =>
 B1 (iadd x28 v38) fun v40 =>
 B1 (nilA x29) fun v41 =>
 B1 (fa 0 v41) fun v42 =>
 B1 (st 1 v42 (.int .i64 5) h39) fun h43 =>
 B1 (nilA x29) fun v44 =>
 B1 (fa 2 v44) fun v45 =>
 B1 (st 1 v45 v40 h43) fun h46 =>
 some (.tuple [], h46)) (
 j19 x27 x29 h32))) (fun x47 x48 h49 =>
 J 1 (fun j50 =>
 B1 (nilA x48) fun v51 =>
 B1 (fa 0 v51) fun v52 =>
 B1 (st 1 v52 (.int .i64 4) h49) fun h53 =>
 B1 (nilA x48) fun v54 =>
 B1 (fa 2 v54) fun v55 =>
 B1 (st 1 v55 (.int .i64 0) h53) fun h56 =>
 j50 x47 h56) (fun x57 h58 =>
 B1 (nilA x57) fun v59 =>
 B1 (fa 1 v59) fun v60 =>
 B1 (st 1 v60 (.int .i64 2) h58) fun h61 =>
 some (.tuple [], h61))))

theorem e_run_Run_fail (J : JT) (G : GT) (cf : CF) (a0 a1 a2 : AV) (H : Hp) : callF P J G prim an cf 52 [a0, a1, a2] H = s_run_Run_fail J G cf a0 a1 a2 H := by kernel_rfl

theorem c_run_Run_fail {a0 a1 a2 : AV} {H : Hp} {r : AV × Hp} (h : s_run_Run_fail JN GO cK a0 a1 a2 H = some r) : cK (.func (.func 52) [] []) [a0, a1, a2] H = some r := callF_fix (first := []) (cap := []) ((e_run_Run_fail JN GO _ a0 a1 a2 H).trans h)

noncomputable def s__run_Run_Fail (J : JT) (G : GT) (cf : CF) (a0 a1 a2 a3 : AV) (H : Hp) : R :=
 BN (bx 47 a0 H) fun i0 h1 =>
 BN (newCells h1 [.slice0, (.int .i64 0), .slice0, .slice0] 47 0) fun i2 h3 =>
 J 4 (fun j4 =>
 J 5 (fun j5 =>
 B1 (lda 4 (.ptr i0 0) h3) fun v6 =>
 B2 (cf (.func (.func 47) [] []) [v6, a1, a2] h3) fun v7 h8 =>
 j5 a1 a3 (.ptr i0 0) (.ptr i2 0) v7 h8) (fun x9 x10 x11 x12 x13 h14 =>
 B1 (ine x13 (.int .i64 0)) fun v15 =>
 CD v15 (
 B1 (fl [.slice0, (.int .i64 0), .slice0, .slice0] []) fun l16 =>
 B1 (st 4 x12 (.agg l16) h14) fun h17 =>
 B1 (lda 4 x12 h17) fun v18 =>
 some (.tuple [v18, x13], h17)) (
 j4 x9 x10 x11 x12 h14))) (fun x19 x20 x21 x22 h23 =>
 B1 (lda 4 x21 h23) fun v24 =>
 B2 (cf (.func (.func 44) [] []) [v24] h23) fun v25 h26 =>
 B1 (st 4 x21 v25 h26) fun h27 =>
 B2 (cf (.func (.func 52) [] []) [x21, x19, x20] h27) fun v28 h29 =>
 B1 (lda 4 x21 h29) fun v30 =>
 B1 (st 4 x22 v30 h29) fun h31 =>
 B1 (lda 4 x22 h31) fun v32 =>
 some (.tuple [v32, (.int .i64 0)], h31))

theorem e__run_Run_Fail (J : JT) (G : GT) (cf : CF) (a0 a1 a2 a3 : AV) (H : Hp) : callF P J G prim an cf 21 [a0, a1, a2, a3] H = s__run_Run_Fail J G cf a0 a1 a2 a3 H := by kernel_rfl

theorem c__run_Run_Fail {a0 a1 a2 a3 : AV} {H : Hp} {r : AV × Hp} (h : s__run_Run_Fail JN GO cK a0 a1 a2 a3 H = some r) : cK (.func (.func 21) [] []) [a0, a1, a2, a3] H = some r := callF_fix (first := []) (cap := []) ((e__run_Run_Fail JN GO _ a0 a1 a2 a3 H).trans h)

def al__run_Run_Tick : An := (.sq none .nl (.sq none (.cd .nl .nl) (.sq (some [1, 2, 4, 11, 12]) (.bl (some [1, 2, 4, 11, 12]) (.sq none .nl (.sq (some [1, 2, 4, 5, 6, 11, 12]) .nl (.bl (some [1, 2, 4, 11, 12]) (.sq (some [1, 2, 4, 5, 6, 11, 12, 19]) .nl (.cd .nl (.sq (some [1, 2, 4, 5, 6, 11, 12, 31]) .nl (.cd .nl (.sq (some [1, 2, 4, 6, 11, 12, 40]) .nl (.cd .nl .nl)))))))))) .nl)))

noncomputable def bl__run_Run_Tick (J : JT) (G : GT) (cf : CF) (j12 : K.Fn 2) (j13 : K.Fn 5) (x14 x15 x16 x17 x18 : AV) (h19 : Hp) : R :=
 B1 (ilt x18 x17) fun v20 =>
 CD v20 (
 J 5 (fun j21 =>
 J 5 (fun j22 =>
 J 7 (fun j23 =>
 B1 (fa 2 x15) fun v24 =>
 B1 (ld v24 h19) fun v25 =>
 B1 (ia 4 v25 x18) fun v26 =>
 j23 x14 x15 x16 x18 v26 x17 x18 h19) (fun x27 x28 x29 x30 x31 x32 x33 h34 =>
 J 5 (fun j35 =>
 J 8 (fun j36 =>
 B1 (fa 1 x28) fun v37 =>
 B1 (ld v37 h34) fun v38 =>
 B1 (ine v38 (.int .i64 0)) fun v39 =>
 G v39 false (fun k40 =>
 k40 x31 h34) (fun v41 h42 =>
 G v39 false (fun k43 =>
 B1 (nilA v41) fun v44 =>
 k43 v44 h42) (fun v45 h46 =>
 G v39 false (fun k47 =>
 B1 (fa 2 v45) fun v48 =>
 k47 v48 h46) (fun v49 h50 =>
 G v39 false (fun k51 =>
 B1 (ld v49 h50) fun v52 =>
 k51 v52 h50) (fun v53 h54 =>
 G v39 false (fun k55 =>
 k55 x27 h54) (fun v56 h57 =>
 G v39 false (fun k58 =>
 B1 (igt v53 v56) fun v59 =>
 k58 v59 h57) (fun v60 h61 =>
 B1 (pk v39 (.bool true) v60) fun v62 =>
 j36 x27 x28 x29 x30 x31 x32 x33 v62 h61) h57) h54) h50) h46) h42) h34) (fun x63 x64 x65 x66 x67 x68 x69 x70 h71 =>
 CD x70 (
 j35 x63 x64 x65 x68 x69 h71) (
 J 8 (fun j72 =>
 B1 (nilA x67) fun v73 =>
 B1 (fa 0 v73) fun v74 =>
 B1 (ld v74 h71) fun v75 =>
 B1 (ieq v75 (.int .i64 2)) fun v76 =>
 j72 x63 x64 x65 x66 x67 x68 x69 v76 h71) (fun x77 x78 x79 x80 x81 x82 x83 x84 h85 =>
 CD x84 (
 B2 (cf (.func (.func 52) [] []) [x78, x80, x77] h85) fun v86 h87 =>
 j35 x77 x78 x79 x82 x83 h87) (
 J 7 (fun j88 =>
 B1 (nilA x81) fun v89 =>
 B1 (fa 0 v89) fun v90 =>
 B1 (ld v90 h85) fun v91 =>
 B1 (ieq v91 (.int .i64 5)) fun v92 =>
 j88 x77 x78 x79 x81 x82 x83 v92 h85) (fun x93 x94 x95 x96 x97 x98 x99 h100 =>
 CD x99 (
 B1 (nilA x96) fun v101 =>
 B1 (fa 0 v101) fun v102 =>
 B1 (st 1 v102 (.int .i64 1) h100) fun h103 =>
 B1 (nilA x96) fun v104 =>
 B1 (fa 2 v104) fun v105 =>
 B1 (st 1 v105 (.int .i64 0) h103) fun h106 =>
 j35 x93 x94 x95 x97 x98 h106) (
 j35 x93 x94 x95 x97 x98 h100))))))) (fun x107 x108 x109 x110 x111 h112 =>
 j22 x107 x108 x109 x110 x111 h112))) (fun x113 x114 x115 x116 x117 h118 =>
 j21 x113 x114 x115 x116 x117 h118)) (fun x119 x120 x121 x122 x123 h124 =>
 B1 (iadd x123 (.int .i64 1)) fun v125 =>
 j13 x119 x120 x121 x122 v125 h124)) (
 j12 x15 x16 h19)

noncomputable def l__run_Run_Tick (J : JT) (G : GT) (cf : CF) (j12 : K.Fn 2) : K.Fn 5 := LP 5 fun j13 => fun x14 x15 x16 x17 x18 h19 => bl__run_Run_Tick J G cf j12 j13 x14 x15 x16 x17 x18 h19

theorem rl__run_Run_Tick (J : JT) (G : GT) (cf : CF) (j12 : K.Fn 2) (j13 : K.Fn 5) (x14 x15 x16 x17 x18 : AV) (h19 : Hp) : codeF P J G cf (nT P 23) (atC P 23 [1, 1, 0, 1, 0, 0]) al__run_Run_Tick (fun t H => app 5 j13 (vals [1, 2, 4, 11, 12] t) H) (fun q t H => match Nat.beq q 0 with | true => app 2 j12 (vals [2, 4] t) H | false => (fun _ _ _ => none) q t H) (retK P 23) (mkT (nT P 23) [1, 2, 4, 11, 12] [x14, x15, x16, x17, x18]) h19 = bl__run_Run_Tick J G cf j12 j13 x14 x15 x16 x17 x18 h19 := by kernel_rfl

theorem dl__run_Run_Tick (J : JT) (G : GT) (cf : CF) (j12 : K.Fn 2) : l__run_Run_Tick J G cf j12 = loopF P J G cf (nT P 23) (atC P 23 [1, 1, 0, 1, 0, 0]) al__run_Run_Tick [1, 2, 4, 11, 12] (fun q t H => match Nat.beq q 0 with | true => app 2 j12 (vals [2, 4] t) H | false => (fun _ _ _ => none) q t H) (retK P 23) := by
  unfold l__run_Run_Tick loopF
  refine congrArg (LP 5) ?_
  funext j13 x14 x15 x16 x17 x18 h19
  exact (rl__run_Run_Tick J G cf j12 j13 x14 x15 x16 x17 x18 h19).symm

theorem ql__run_Run_Tick (cf : CF) (j12 : K.Fn 2) (x14 x15 x16 x17 x18 : AV) (h19 : Hp) : l__run_Run_Tick JN GO cf j12 x14 x15 x16 x17 x18 h19 = bl__run_Run_Tick JN GO cf j12 (l__run_Run_Tick JN GO cf j12) x14 x15 x16 x17 x18 h19 := by
  have h1 : l__run_Run_Tick JN GO cf j12 x14 x15 x16 x17 x18 h19 = app 5 (loopF P JN GO cf (nT P 23) (atC P 23 [1, 1, 0, 1, 0, 0]) al__run_Run_Tick [1, 2, 4, 11, 12] (fun q t H => match Nat.beq q 0 with | true => app 2 j12 (vals [2, 4] t) H | false => (fun _ _ _ => none) q t H) (retK P 23)) [x14, x15, x16, x17, x18] h19 := by rw [dl__run_Run_Tick]; kernel_rfl
  refine h1.trans ((loopF_eq (P := P) cf (nT P 23) (atC P 23 [1, 1, 0, 1, 0, 0]) al__run_Run_Tick [1, 2, 4, 11, 12] (fun q t H => match Nat.beq q 0 with | true => app 2 j12 (vals [2, 4] t) H | false => (fun _ _ _ => none) q t H) (retK P 23) [x14, x15, x16, x17, x18] rfl h19).trans ((rl__run_Run_Tick JN GO cf j12 _ x14 x15 x16 x17 x18 h19).trans ?_))
  rw [dl__run_Run_Tick]

noncomputable def s__run_Run_Tick (J : JT) (G : GT) (cf : CF) (a0 a1 : AV) (H : Hp) : R :=
 BN (bx 47 a0 H) fun i0 h1 =>
 BN (newCells h1 [.slice0, (.int .i64 0), .slice0, .slice0] 47 0) fun i2 h3 =>
 B1 (lda 4 (.ptr i0 0) h3) fun v4 =>
 B2 (cf (.func (.func 44) [] []) [v4] h3) fun v5 h6 =>
 B1 (st 4 (.ptr i0 0) v5 h6) fun h7 =>
 J 2 (fun j8 =>
 B1 (fa 2 (.ptr i0 0)) fun v9 =>
 B1 (ld v9 h7) fun v10 =>
 B1 (lenx v10) fun v11 =>
 J 2 (fun j12 =>
 l__run_Run_Tick J G cf j12 a1 (.ptr i0 0) (.ptr i2 0) v11 (.int .i64 0) h7) (fun x126 x127 h128 =>
 j8 x126 x127 h128)) (fun x129 x130 h131 =>
 B1 (lda 4 x129 h131) fun v132 =>
 B1 (st 4 x130 v132 h131) fun h133 =>
 B1 (lda 4 x130 h133) fun v134 =>
 some (v134, h133))

theorem e__run_Run_Tick (J : JT) (G : GT) (cf : CF) (a0 a1 : AV) (H : Hp) : callF P J G prim an cf 23 [a0, a1] H = s__run_Run_Tick J G cf a0 a1 H := by kernel_rfl

theorem c__run_Run_Tick {a0 a1 : AV} {H : Hp} {r : AV × Hp} (h : s__run_Run_Tick JN GO cK a0 a1 H = some r) : cK (.func (.func 23) [] []) [a0, a1] H = some r := callF_fix (first := []) (cap := []) ((e__run_Run_Tick JN GO _ a0 a1 H).trans h)

def al__run_Run_Next : An := (.sq none .nl (.sq none (.cd .nl .nl) (.sq (some [1, 4, 5, 9, 10, 11]) (.bl (some [1, 4, 5, 9, 10, 11]) (.sq none .nl (.sq (some [1, 4, 5, 7, 9, 10, 11, 37]) .nl (.cd .nl .nl)))) .nl)))

noncomputable def bl__run_Run_Next (J : JT) (G : GT) (cf : CF) (j6 : K.Fn 2) (j7 : K.Fn 6) (x8 x9 x10 x11 x12 x13 : AV) (h14 : Hp) : R :=
 B1 (ilt x13 x12) fun v15 =>
 CD v15 (
 J 6 (fun j16 =>
 J 6 (fun j17 =>
 B1 (ia 4 x11 x13) fun v18 =>
 B1 (lda 4 v18 h14) fun v19 =>
 BN (newCells h14 [(.int .i64 0), (.int .i64 0), (.int .i64 0), (.str [])] 51 0) fun i20 h21 =>
 B1 (st 4 (.ptr i20 0) v19 h21) fun h22 =>
 J 8 (fun j23 =>
 B1 (fa 1 x8) fun v24 =>
 B1 (ld v24 h22) fun v25 =>
 B1 (ieq v25 (.int .i64 0)) fun v26 =>
 G v26 true (fun k27 =>
 B1 (fa 0 (.ptr i20 0)) fun v28 =>
 k27 v28 h22) (fun v29 h30 =>
 G v26 true (fun k31 =>
 B1 (ld v29 h30) fun v32 =>
 k31 v32 h30) (fun v33 h34 =>
 G v26 true (fun k35 =>
 B1 (ieq v33 (.int .i64 2)) fun v36 =>
 k35 v36 h34) (fun v37 h38 =>
 G v26 true (fun k39 =>
 k39 v37 h38) (fun v40 h41 =>
 G v40 false (fun k42 =>
 B1 (fa 0 (.ptr i20 0)) fun v43 =>
 k42 v43 h41) (fun v44 h45 =>
 G v40 false (fun k46 =>
 B1 (ld v44 h45) fun v47 =>
 k46 v47 h45) (fun v48 h49 =>
 G v40 false (fun k50 =>
 B1 (ieq v48 (.int .i64 5)) fun v51 =>
 k50 v51 h49) (fun v52 h53 =>
 G v26 true (fun k54 =>
 B1 (pk v40 (.bool true) v52) fun v55 =>
 k54 v55 h53) (fun v56 h57 =>
 B1 (pk v26 v56 (.bool false)) fun v58 =>
 G v58 true (fun k59 =>
 k59 x10 h57) (fun v60 h61 =>
 G v58 true (fun k62 =>
 B1 (unA .not v60) fun v63 =>
 k62 v63 h61) (fun v64 h65 =>
 G v58 true (fun k66 =>
 k66 v64 h65) (fun v67 h68 =>
 G v67 false (fun k69 =>
 B1 (fa 2 (.ptr i20 0)) fun v70 =>
 k69 v70 h68) (fun v71 h72 =>
 G v67 false (fun k73 =>
 B1 (ld v71 h72) fun v74 =>
 k73 v74 h72) (fun v75 h76 =>
 G v67 false (fun k77 =>
 k77 x9 h76) (fun v78 h79 =>
 G v67 false (fun k80 =>
 B1 (ilt v75 v78) fun v81 =>
 k80 v81 h79) (fun v82 h83 =>
 G v58 true (fun k84 =>
 B1 (pk v67 (.bool true) v82) fun v85 =>
 k84 v85 h83) (fun v86 h87 =>
 B1 (pk v58 v86 (.bool false)) fun v88 =>
 j23 x8 x9 x10 (.ptr i20 0) x11 x12 x13 v88 h87) h83) h79) h76) h72) h68) h65) h61) h57) h53) h49) h45) h41) h38) h34) h30) h22) (fun x89 x90 x91 x92 x93 x94 x95 x96 h97 =>
 CD x96 (
 B1 (fa 2 x92) fun v98 =>
 B1 (ld v98 h97) fun v99 =>
 j17 x89 v99 (.bool true) x93 x94 x95 h97) (
 j17 x89 x90 x91 x93 x94 x95 h97))) (fun x100 x101 x102 x103 x104 x105 h106 =>
 j16 x100 x101 x102 x103 x104 x105 h106)) (fun x107 x108 x109 x110 x111 x112 h113 =>
 B1 (iadd x112 (.int .i64 1)) fun v114 =>
 j7 x107 x108 x109 x110 x111 v114 h113)) (
 j6 x9 x10 h14)

noncomputable def l__run_Run_Next (J : JT) (G : GT) (cf : CF) (j6 : K.Fn 2) : K.Fn 6 := LP 6 fun j7 => fun x8 x9 x10 x11 x12 x13 h14 => bl__run_Run_Next J G cf j6 j7 x8 x9 x10 x11 x12 x13 h14

theorem rl__run_Run_Next (J : JT) (G : GT) (cf : CF) (j6 : K.Fn 2) (j7 : K.Fn 6) (x8 x9 x10 x11 x12 x13 : AV) (h14 : Hp) : codeF P J G cf (nT P 22) (atC P 22 [1, 1, 0, 1, 0, 0]) al__run_Run_Next (fun t H => app 6 j7 (vals [1, 4, 5, 9, 10, 11] t) H) (fun q t H => match Nat.beq q 0 with | true => app 2 j6 (vals [4, 5] t) H | false => (fun _ _ _ => none) q t H) (retK P 22) (mkT (nT P 22) [1, 4, 5, 9, 10, 11] [x8, x9, x10, x11, x12, x13]) h14 = bl__run_Run_Next J G cf j6 j7 x8 x9 x10 x11 x12 x13 h14 := by kernel_rfl

theorem dl__run_Run_Next (J : JT) (G : GT) (cf : CF) (j6 : K.Fn 2) : l__run_Run_Next J G cf j6 = loopF P J G cf (nT P 22) (atC P 22 [1, 1, 0, 1, 0, 0]) al__run_Run_Next [1, 4, 5, 9, 10, 11] (fun q t H => match Nat.beq q 0 with | true => app 2 j6 (vals [4, 5] t) H | false => (fun _ _ _ => none) q t H) (retK P 22) := by
  unfold l__run_Run_Next loopF
  refine congrArg (LP 6) ?_
  funext j7 x8 x9 x10 x11 x12 x13 h14
  exact (rl__run_Run_Next J G cf j6 j7 x8 x9 x10 x11 x12 x13 h14).symm

theorem ql__run_Run_Next (cf : CF) (j6 : K.Fn 2) (x8 x9 x10 x11 x12 x13 : AV) (h14 : Hp) : l__run_Run_Next JN GO cf j6 x8 x9 x10 x11 x12 x13 h14 = bl__run_Run_Next JN GO cf j6 (l__run_Run_Next JN GO cf j6) x8 x9 x10 x11 x12 x13 h14 := by
  have h1 : l__run_Run_Next JN GO cf j6 x8 x9 x10 x11 x12 x13 h14 = app 6 (loopF P JN GO cf (nT P 22) (atC P 22 [1, 1, 0, 1, 0, 0]) al__run_Run_Next [1, 4, 5, 9, 10, 11] (fun q t H => match Nat.beq q 0 with | true => app 2 j6 (vals [4, 5] t) H | false => (fun _ _ _ => none) q t H) (retK P 22)) [x8, x9, x10, x11, x12, x13] h14 := by rw [dl__run_Run_Next]; kernel_rfl
  refine h1.trans ((loopF_eq (P := P) cf (nT P 22) (atC P 22 [1, 1, 0, 1, 0, 0]) al__run_Run_Next [1, 4, 5, 9, 10, 11] (fun q t H => match Nat.beq q 0 with | true => app 2 j6 (vals [4, 5] t) H | false => (fun _ _ _ => none) q t H) (retK P 22) [x8, x9, x10, x11, x12, x13] rfl h14).trans ((rl__run_Run_Next JN GO cf j6 _ x8 x9 x10 x11 x12 x13 h14).trans ?_))
  rw [dl__run_Run_Next]

noncomputable def s__run_Run_Next (J : JT) (G : GT) (cf : CF) (a0 : AV) (H : Hp) : R :=
 BN (bx 47 a0 H) fun i0 h1 =>
 J 2 (fun j2 =>
 B1 (fa 2 (.ptr i0 0)) fun v3 =>
 B1 (ld v3 h1) fun v4 =>
 B1 (lenx v4) fun v5 =>
 J 2 (fun j6 =>
 l__run_Run_Next J G cf j6 (.ptr i0 0) (.int .i64 0) (.bool false) v4 v5 (.int .i64 0) h1) (fun x115 x116 h117 =>
 j2 x115 x116 h117)) (fun x118 x119 h120 =>
 some (.tuple [x118, x119], h120))

theorem e__run_Run_Next (J : JT) (G : GT) (cf : CF) (a0 : AV) (H : Hp) : callF P J G prim an cf 22 [a0] H = s__run_Run_Next J G cf a0 H := by kernel_rfl

theorem c__run_Run_Next {a0 : AV} {H : Hp} {r : AV × Hp} (h : s__run_Run_Next JN GO cK a0 H = some r) : cK (.func (.func 22) [] []) [a0] H = some r := callF_fix (first := []) (cap := []) ((e__run_Run_Next JN GO _ a0 H).trans h)

noncomputable def s_run_Same (J : JT) (G : GT) (cf : CF) (a0 a1 : AV) (H : Hp) : R :=
 BN (bx 47 a0 H) fun i0 h1 =>
 BN (bx 47 a1 h1) fun i2 h3 =>
 B1 (fa 1 (.ptr i0 0)) fun v4 =>
 B1 (ld v4 h3) fun v5 =>
 B1 (fa 1 (.ptr i2 0)) fun v6 =>
 B1 (ld v6 h3) fun v7 =>
 B1 (ieq v5 v7) fun v8 =>
 G v8 true (fun k9 =>
 B1 (fa 2 (.ptr i0 0)) fun v10 =>
 k9 v10 h3) (fun v11 h12 =>
 G v8 true (fun k13 =>
 B1 (ld v11 h12) fun v14 =>
 k13 v14 h12) (fun v15 h16 =>
 G v8 true (fun k17 =>
 B1 (fa 2 (.ptr i2 0)) fun v18 =>
 k17 v18 h16) (fun v19 h20 =>
 G v8 true (fun k21 =>
 B1 (ld v19 h20) fun v22 =>
 k21 v22 h20) (fun v23 h24 =>
 G v8 true (fun k25 =>
 B2 (cf (.func (.func 55) [] []) [v15, v23] h24) fun v26 h27 =>
 k25 v26 h27) (fun v28 h29 =>
 B1 (pk v8 v28 (.bool false)) fun v30 =>
 G v30 true (fun k31 =>
 B1 (fa 3 (.ptr i0 0)) fun v32 =>
 k31 v32 h29) (fun v33 h34 =>
 G v30 true (fun k35 =>
 B1 (ld v33 h34) fun v36 =>
 k35 v36 h34) (fun v37 h38 =>
 G v30 true (fun k39 =>
 B1 (fa 3 (.ptr i2 0)) fun v40 =>
 k39 v40 h38) (fun v41 h42 =>
 G v30 true (fun k43 =>
 B1 (ld v41 h42) fun v44 =>
 k43 v44 h42) (fun v45 h46 =>
 G v30 true (fun k47 =>
 B2 (cf (.func (.func 56) [] []) [v37, v45] h46) fun v48 h49 =>
 k47 v48 h49) (fun v50 h51 =>
 B1 (pk v30 v50 (.bool false)) fun v52 =>
 G v52 true (fun k53 =>
 B1 (fa 0 (.ptr i0 0)) fun v54 =>
 k53 v54 h51) (fun v55 h56 =>
 G v52 true (fun k57 =>
 B1 (fa 0 v55) fun v58 =>
 k57 v58 h56) (fun v59 h60 =>
 G v52 true (fun k61 =>
 B1 (ld v59 h60) fun v62 =>
 k61 v62 h60) (fun v63 h64 =>
 G v52 true (fun k65 =>
 B1 (fa 0 (.ptr i2 0)) fun v66 =>
 k65 v66 h64) (fun v67 h68 =>
 G v52 true (fun k69 =>
 B1 (fa 0 v67) fun v70 =>
 k69 v70 h68) (fun v71 h72 =>
 G v52 true (fun k73 =>
 B1 (ld v71 h72) fun v74 =>
 k73 v74 h72) (fun v75 h76 =>
 G v52 true (fun k77 =>
 k77 (.func (.func 53) [] []) h76) (fun v78 h79 =>
 G v52 true (fun k80 =>
 B2 (cf (.func (.func 57) [] []) [v63, v75, v78] h79) fun v81 h82 =>
 k80 v81 h82) (fun v83 h84 =>
 B1 (pk v52 v83 (.bool false)) fun v85 =>
 some (v85, h84)) h79) h76) h72) h68) h64) h60) h56) h51) h46) h42) h38) h34) h29) h24) h20) h16) h12) h3

theorem e_run_Same (J : JT) (G : GT) (cf : CF) (a0 a1 : AV) (H : Hp) : callF P J G prim an cf 24 [a0, a1] H = s_run_Same J G cf a0 a1 H := by kernel_rfl

theorem c_run_Same {a0 a1 : AV} {H : Hp} {r : AV × Hp} (h : s_run_Same JN GO cK a0 a1 H = some r) : cK (.func (.func 24) [] []) [a0, a1] H = some r := callF_fix (first := []) (cap := []) ((e_run_Same JN GO _ a0 a1 H).trans h)

noncomputable def s_run_Same_1 (J : JT) (G : GT) (cf : CF) (a0 a1 : AV) (H : Hp) : R :=
 BN (bx 43 a0 H) fun i0 h1 =>
 BN (bx 43 a1 h1) fun i2 h3 =>
 B1 (fa 1 (.ptr i0 0)) fun v4 =>
 B1 (ld v4 h3) fun v5 =>
 B1 (fa 1 (.ptr i2 0)) fun v6 =>
 B1 (ld v6 h3) fun v7 =>
 B2 (cf (.func (.func 54) [] []) [v5, v7] h3) fun v8 h9 =>
 G v8 true (fun k10 =>
 B1 (fa 0 (.ptr i0 0)) fun v11 =>
 k10 v11 h9) (fun v12 h13 =>
 G v8 true (fun k14 =>
 B1 (ld v12 h13) fun v15 =>
 k14 v15 h13) (fun v16 h17 =>
 G v8 true (fun k18 =>
 B1 (fa 0 (.ptr i2 0)) fun v19 =>
 k18 v19 h17) (fun v20 h21 =>
 G v8 true (fun k22 =>
 B1 (ld v20 h21) fun v23 =>
 k22 v23 h21) (fun v24 h25 =>
 G v8 true (fun k26 =>
 B1 (seq v16 v24) fun v27 =>
 k26 v27 h25) (fun v28 h29 =>
 B1 (pk v8 v28 (.bool false)) fun v30 =>
 G v30 true (fun k31 =>
 B1 (fa 2 (.ptr i0 0)) fun v32 =>
 k31 v32 h29) (fun v33 h34 =>
 G v30 true (fun k35 =>
 B1 (ld v33 h34) fun v36 =>
 k35 v36 h34) (fun v37 h38 =>
 G v30 true (fun k39 =>
 B1 (fa 2 (.ptr i2 0)) fun v40 =>
 k39 v40 h38) (fun v41 h42 =>
 G v30 true (fun k43 =>
 B1 (ld v41 h42) fun v44 =>
 k43 v44 h42) (fun v45 h46 =>
 G v30 true (fun k47 =>
 B1 (ieq v37 v45) fun v48 =>
 k47 v48 h46) (fun v49 h50 =>
 B1 (pk v30 v49 (.bool false)) fun v51 =>
 G v51 true (fun k52 =>
 B1 (fa 3 (.ptr i0 0)) fun v53 =>
 k52 v53 h50) (fun v54 h55 =>
 G v51 true (fun k56 =>
 B1 (ld v54 h55) fun v57 =>
 k56 v57 h55) (fun v58 h59 =>
 G v51 true (fun k60 =>
 B1 (fa 3 (.ptr i2 0)) fun v61 =>
 k60 v61 h59) (fun v62 h63 =>
 G v51 true (fun k64 =>
 B1 (ld v62 h63) fun v65 =>
 k64 v65 h63) (fun v66 h67 =>
 G v51 true (fun k68 =>
 B1 (ieq v58 v66) fun v69 =>
 k68 v69 h67) (fun v70 h71 =>
 B1 (pk v51 v70 (.bool false)) fun v72 =>
 G v72 true (fun k73 =>
 B1 (fa 4 (.ptr i0 0)) fun v74 =>
 k73 v74 h71) (fun v75 h76 =>
 G v72 true (fun k77 =>
 B1 (ld v75 h76) fun v78 =>
 k77 v78 h76) (fun v79 h80 =>
 G v72 true (fun k81 =>
 B1 (fa 4 (.ptr i2 0)) fun v82 =>
 k81 v82 h80) (fun v83 h84 =>
 G v72 true (fun k85 =>
 B1 (ld v83 h84) fun v86 =>
 k85 v86 h84) (fun v87 h88 =>
 G v72 true (fun k89 =>
 B1 (ieq v79 v87) fun v90 =>
 k89 v90 h88) (fun v91 h92 =>
 B1 (pk v72 v91 (.bool false)) fun v93 =>
 G v93 true (fun k94 =>
 B1 (fa 5 (.ptr i0 0)) fun v95 =>
 k94 v95 h92) (fun v96 h97 =>
 G v93 true (fun k98 =>
 B1 (ld v96 h97) fun v99 =>
 k98 v99 h97) (fun v100 h101 =>
 G v93 true (fun k102 =>
 B1 (fa 5 (.ptr i2 0)) fun v103 =>
 k102 v103 h101) (fun v104 h105 =>
 G v93 true (fun k106 =>
 B1 (ld v104 h105) fun v107 =>
 k106 v107 h105) (fun v108 h109 =>
 G v93 true (fun k110 =>
 B1 (seq v100 v108) fun v111 =>
 k110 v111 h109) (fun v112 h113 =>
 B1 (pk v93 v112 (.bool false)) fun v114 =>
 some (v114, h113)) h109) h105) h101) h97) h92) h88) h84) h80) h76) h71) h67) h63) h59) h55) h50) h46) h42) h38) h34) h29) h25) h21) h17) h13) h9

theorem e_run_Same_1 (J : JT) (G : GT) (cf : CF) (a0 a1 : AV) (H : Hp) : callF P J G prim an cf 53 [a0, a1] H = s_run_Same_1 J G cf a0 a1 H := by kernel_rfl

theorem c_run_Same_1 {a0 a1 : AV} {H : Hp} {r : AV × Hp} (h : s_run_Same_1 JN GO cK a0 a1 H = some r) : cK (.func (.func 53) [] []) [a0, a1] H = some r := callF_fix (first := []) (cap := []) ((e_run_Same_1 JN GO _ a0 a1 H).trans h)

def al_back_Delay : An := (.sq (some [1, 5, 6]) (.sq (some [1, 5, 6, 21]) .nl (.cd .nl .nl)) (.sq none (.bl none .nl) .nl))

noncomputable def bl_back_Delay (J : JT) (G : GT) (cf : CF) (j21 : K.Fn 1) (j22 : K.Fn 3) (x23 x24 x25 : AV) (h26 : Hp) : R :=
 J 3 (fun j27 =>
 J 4 (fun j28 =>
 B1 (ilt x25 x23) fun v29 =>
 G v29 true (fun k30 =>
 k30 x24 h26) (fun v31 h32 =>
 G v29 true (fun k33 =>
 B1 (ilt v31 (.int .i64 64000)) fun v34 =>
 k33 v34 h32) (fun v35 h36 =>
 B1 (pk v29 v35 (.bool false)) fun v37 =>
 j28 x23 x24 x25 v37 h36) h32) h26) (fun x38 x39 x40 x41 h42 =>
 CD x41 (
 j27 x38 x39 x40 h42) (
 j21 x39 h42))) (fun x43 x44 x45 h46 =>
 B1 (ishl x44 (.int .u64 1)) fun v47 =>
 B2 (builtinA P .min #[2, 2] [v47, (.int .i64 64000)] h46) fun v48 h49 =>
 B1 (iadd x45 (.int .i64 1)) fun v50 =>
 j22 x43 v48 v50 h49)

noncomputable def l_back_Delay (J : JT) (G : GT) (cf : CF) (j21 : K.Fn 1) : K.Fn 3 := LP 3 fun j22 => fun x23 x24 x25 h26 => bl_back_Delay J G cf j21 j22 x23 x24 x25 h26

theorem rl_back_Delay (J : JT) (G : GT) (cf : CF) (j21 : K.Fn 1) (j22 : K.Fn 3) (x23 x24 x25 : AV) (h26 : Hp) : codeF P J G cf (nT P 81) (atC P 81 [1, 1, 1, 0, 1, 0, 0]) al_back_Delay (fun t H => app 3 j22 (vals [1, 5, 6] t) H) (fun q t H => match Nat.beq q 0 with | true => app 1 j21 (vals [5] t) H | false => (fun _ _ _ => none) q t H) (retK P 81) (mkT (nT P 81) [1, 5, 6] [x23, x24, x25]) h26 = bl_back_Delay J G cf j21 j22 x23 x24 x25 h26 := by kernel_rfl

theorem dl_back_Delay (J : JT) (G : GT) (cf : CF) (j21 : K.Fn 1) : l_back_Delay J G cf j21 = loopF P J G cf (nT P 81) (atC P 81 [1, 1, 1, 0, 1, 0, 0]) al_back_Delay [1, 5, 6] (fun q t H => match Nat.beq q 0 with | true => app 1 j21 (vals [5] t) H | false => (fun _ _ _ => none) q t H) (retK P 81) := by
  unfold l_back_Delay loopF
  refine congrArg (LP 3) ?_
  funext j22 x23 x24 x25 h26
  exact (rl_back_Delay J G cf j21 j22 x23 x24 x25 h26).symm

theorem ql_back_Delay (cf : CF) (j21 : K.Fn 1) (x23 x24 x25 : AV) (h26 : Hp) : l_back_Delay JN GO cf j21 x23 x24 x25 h26 = bl_back_Delay JN GO cf j21 (l_back_Delay JN GO cf j21) x23 x24 x25 h26 := by
  have h1 : l_back_Delay JN GO cf j21 x23 x24 x25 h26 = app 3 (loopF P JN GO cf (nT P 81) (atC P 81 [1, 1, 1, 0, 1, 0, 0]) al_back_Delay [1, 5, 6] (fun q t H => match Nat.beq q 0 with | true => app 1 j21 (vals [5] t) H | false => (fun _ _ _ => none) q t H) (retK P 81)) [x23, x24, x25] h26 := by rw [dl_back_Delay]; kernel_rfl
  refine h1.trans ((loopF_eq (P := P) cf (nT P 81) (atC P 81 [1, 1, 1, 0, 1, 0, 0]) al_back_Delay [1, 5, 6] (fun q t H => match Nat.beq q 0 with | true => app 1 j21 (vals [5] t) H | false => (fun _ _ _ => none) q t H) (retK P 81) [x23, x24, x25] rfl h26).trans ((rl_back_Delay JN GO cf j21 _ x23 x24 x25 h26).trans ?_))
  rw [dl_back_Delay]

noncomputable def s_back_Delay (J : JT) (G : GT) (cf : CF) (a0 a1 : AV) (H : Hp) : R :=
 J 2 (fun j0 =>
 J 3 (fun j1 =>
 B1 (ilt a0 (.int .i64 1)) fun v2 =>
 G v2 false (fun k3 =>
 k3 a1 H) (fun v4 h5 =>
 G v2 false (fun k6 =>
 B1 (ilt v4 (.int .i64 1)) fun v7 =>
 k6 v7 h5) (fun v8 h9 =>
 B1 (pk v2 (.bool true) v8) fun v10 =>
 j1 a0 a1 v10 h9) h5) H) (fun x11 x12 x13 h14 =>
 CD x13 (
 some ((.int .i64 0), h14)) (
 j0 x11 x12 h14))) (fun x15 x16 h17 =>
 B2 (builtinA P .min #[2, 2] [x15, (.int .i64 64000)] h17) fun v18 h19 =>
 J 1 (fun j20 =>
 J 1 (fun j21 =>
 l_back_Delay J G cf j21 x16 v18 (.int .i64 1) h19) (fun x51 h52 =>
 j20 x51 h52)) (fun x53 h54 =>
 some (x53, h54)))

theorem e_back_Delay (J : JT) (G : GT) (cf : CF) (a0 a1 : AV) (H : Hp) : callF P J G prim an cf 81 [a0, a1] H = s_back_Delay J G cf a0 a1 H := by kernel_rfl

theorem c_back_Delay {a0 a1 : AV} {H : Hp} {r : AV × Hp} (h : s_back_Delay JN GO cK a0 a1 H = some r) : cK (.func (.func 81) [] []) [a0, a1] H = some r := callF_fix (first := []) (cap := []) ((e_back_Delay JN GO _ a0 a1 H).trans h)

def al_outriderlaw16_RunRetries : An := (.sq none (.sq none .nl (.cd .nl .nl)) (.sq (some [0, 5, 6, 7, 8]) (.bl none (.sq (some [0, 5, 6, 7, 8, 9, 10]) .nl (.sq (some [0, 5, 6, 7, 8, 10, 11, 12]) .nl (.sq (some [0, 5, 6, 7, 8, 11]) (.sq (some [0, 5, 6, 7, 8, 11, 76]) .nl (.cd (.sq none .nl .nl) .nl)) (.sq (some [0, 5, 6, 7, 8, 11]) (.sq none .nl (.cd (.sq none .nl .nl) .nl)) (.sq (some [0, 5, 6, 7, 8, 11, 13, 14]) .nl (.sq (some [0, 5, 6, 7, 8, 11, 13, 14, 15]) .nl (.sq (some [0, 5, 6, 8, 11, 13]) (.sq (some [0, 5, 6, 8, 11, 13, 113]) .nl (.cd (.sq none .nl .nl) .nl)) .nl)))))))) .nl))

noncomputable def bl_outriderlaw16_RunRetries (J : JT) (G : GT) (cf : CF) (j55 : K.Fn 0) (j56 : K.Fn 5) (x57 x58 x59 x60 x61 : AV) (h62 : Hp) : R :=
 B1 (iadd x57 (.int .i64 1)) fun v63 =>
 B1 (ile x61 v63) fun v64 =>
 CD v64 (
 J 5 (fun j65 =>
 J 7 (fun j66 =>
 B1 (lda 4 x58 h62) fun v67 =>
 B2 (cf (.func (.func 18) [] []) [v67, (.int .i64 0), x61, x60] h62) fun v68 h69 =>
 B1 (ex 0 v68) fun v70 =>
 B1 (ex 1 v68) fun v71 =>
 BN (newCells h69 [.slice0, (.int .i64 0), .slice0, .slice0] 47 0) fun i72 h73 =>
 B1 (st 4 (.ptr i72 0) v70 h73) fun h74 =>
 j66 x57 x58 x59 x60 x61 (.ptr i72 0) v71 h74) (fun x75 x76 x77 x78 x79 x80 x81 h82 =>
 J 8 (fun j83 =>
 B1 (lda 4 x80 h82) fun v84 =>
 B2 (cf (.func (.func 21) [] []) [v84, (.int .i64 0), x79, x78] h82) fun v85 h86 =>
 B1 (ex 0 v85) fun v87 =>
 B1 (ex 1 v85) fun v88 =>
 BN (newCells h86 [.slice0, (.int .i64 0), .slice0, .slice0] 47 0) fun i89 h90 =>
 B1 (st 4 (.ptr i89 0) v87 h90) fun h91 =>
 j83 x75 x76 x77 x78 x79 x81 (.ptr i89 0) v88 h91) (fun x92 x93 x94 x95 x96 x97 x98 x99 h100 =>
 J 6 (fun j101 =>
 J 7 (fun j102 =>
 B1 (ine x94 (.int .i64 0)) fun v103 =>
 G v103 false (fun k104 =>
 k104 x97 h100) (fun v105 h106 =>
 G v103 false (fun k107 =>
 B1 (ine v105 (.int .i64 0)) fun v108 =>
 k107 v108 h106) (fun v109 h110 =>
 B1 (pk v103 (.bool true) v109) fun v111 =>
 G v111 false (fun k112 =>
 k112 x99 h110) (fun v113 h114 =>
 G v111 false (fun k115 =>
 B1 (ine v113 (.int .i64 0)) fun v116 =>
 k115 v116 h114) (fun v117 h118 =>
 B1 (pk v111 (.bool true) v117) fun v119 =>
 G v119 false (fun k120 =>
 B1 (fa 2 x98) fun v121 =>
 k120 v121 h118) (fun v122 h123 =>
 G v119 false (fun k124 =>
 B1 (ld v122 h123) fun v125 =>
 k124 v125 h123) (fun v126 h127 =>
 G v119 false (fun k128 =>
 B1 (lenx v126) fun v129 =>
 k128 v129 h127) (fun v130 h131 =>
 G v119 false (fun k132 =>
 B1 (ine v130 (.int .i64 1)) fun v133 =>
 k132 v133 h131) (fun v134 h135 =>
 B1 (pk v119 (.bool true) v134) fun v136 =>
 j102 x92 x93 x94 x95 x96 x98 v136 h135) h131) h127) h123) h118) h114) h110) h106) h100) (fun x137 x138 x139 x140 x141 x142 x143 h144 =>
 CD x143 (
 some ((.bool false), h144)) (
 j101 x137 x138 x139 x140 x141 x142 h144))) (fun x145 x146 x147 x148 x149 x150 h151 =>
 J 6 (fun j152 =>
 B1 (iadd x145 (.int .i64 1)) fun v153 =>
 B1 (ieq x149 v153) fun v154 =>
 CD v154 (
 B1 (fa 1 x150) fun v155 =>
 B1 (ld v155 h151) fun v156 =>
 B1 (ieq v156 (.int .i64 2)) fun v157 =>
 G v157 true (fun k158 =>
 B1 (fa 2 x150) fun v159 =>
 k158 v159 h151) (fun v160 h161 =>
 G v157 true (fun k162 =>
 B1 (ld v160 h161) fun v163 =>
 k162 v163 h161) (fun v164 h165 =>
 G v157 true (fun k166 =>
 B1 (ia 4 v164 (.int .i64 0)) fun v167 =>
 k166 v167 h165) (fun v168 h169 =>
 G v157 true (fun k170 =>
 B1 (fa 0 v168) fun v171 =>
 k170 v171 h169) (fun v172 h173 =>
 G v157 true (fun k174 =>
 B1 (ld v172 h173) fun v175 =>
 k174 v175 h173) (fun v176 h177 =>
 G v157 true (fun k178 =>
 B1 (ieq v176 (.int .i64 4)) fun v179 =>
 k178 v179 h177) (fun v180 h181 =>
 B1 (pk v157 v180 (.bool false)) fun v182 =>
 some (v182, h181)) h177) h173) h169) h165) h161) h151) (
 j152 x145 x146 x147 x148 x149 x150 h151)) (fun x183 x184 x185 x186 x187 x188 h189 =>
 J 8 (fun j190 =>
 B1 (lda 4 x188 h189) fun v191 =>
 B2 (cf (.func (.func 22) [] []) [v191] h189) fun v192 h193 =>
 B1 (ex 0 v192) fun v194 =>
 B1 (ex 1 v192) fun v195 =>
 j190 x183 x184 x185 x186 x187 x188 v194 v195 h193) (fun x196 x197 x198 x199 x200 x201 x202 x203 h204 =>
 J 9 (fun j205 =>
 B1 (lda 4 x201 h204) fun v206 =>
 B1 (isub x202 (.int .i64 1)) fun v207 =>
 B2 (cf (.func (.func 23) [] []) [v206, v207] h204) fun v208 h209 =>
 BN (newCells h209 [.slice0, (.int .i64 0), .slice0, .slice0] 47 0) fun i210 h211 =>
 B1 (st 4 (.ptr i210 0) v208 h211) fun h212 =>
 j205 x196 x197 x198 x199 x200 x201 x202 x203 (.ptr i210 0) h212) (fun x213 x214 x215 x216 x217 x218 x219 x220 x221 h222 =>
 J 6 (fun j223 =>
 J 7 (fun j224 =>
 B1 (unA .not x220) fun v225 =>
 G v225 false (fun k226 =>
 k226 x219 h222) (fun v227 h228 =>
 G v225 false (fun k229 =>
 k229 x216 h228) (fun v230 h231 =>
 G v225 false (fun k232 =>
 B1 (ile v227 v230) fun v233 =>
 k232 v233 h231) (fun v234 h235 =>
 B1 (pk v225 (.bool true) v234) fun v236 =>
 G v236 false (fun k237 =>
 B1 (lda 4 x221 h235) fun v238 =>
 k237 v238 h235) (fun v239 h240 =>
 G v236 false (fun k241 =>
 B1 (lda 4 x218 h240) fun v242 =>
 k241 v242 h240) (fun v243 h244 =>
 G v236 false (fun k245 =>
 B2 (cf (.func (.func 24) [] []) [v239, v243] h244) fun v246 h247 =>
 k245 v246 h247) (fun v248 h249 =>
 G v236 false (fun k250 =>
 B1 (unA .not v248) fun v251 =>
 k250 v251 h249) (fun v252 h253 =>
 B1 (pk v236 (.bool true) v252) fun v254 =>
 j224 x213 x214 x215 x217 x218 x219 v254 h253) h249) h244) h240) h235) h231) h228) h222) (fun x255 x256 x257 x258 x259 x260 x261 h262 =>
 CD x261 (
 some ((.bool false), h262)) (
 j223 x255 x256 x257 x258 x259 x260 h262))) (fun x263 x264 x265 x266 x267 x268 h269 =>
 B1 (lda 4 x267 h269) fun v270 =>
 B2 (cf (.func (.func 23) [] []) [v270, x268] h269) fun v271 h272 =>
 B1 (st 4 x264 v271 h272) fun h273 =>
 j65 x263 x264 x265 x268 x266 h273)))))))) (fun x274 x275 x276 x277 x278 h279 =>
 B1 (iadd x278 (.int .i64 1)) fun v280 =>
 j56 x274 x275 x276 x277 v280 h279)) (
 j55  h62)

noncomputable def l_outriderlaw16_RunRetries (J : JT) (G : GT) (cf : CF) (j55 : K.Fn 0) : K.Fn 5 := LP 5 fun j56 => fun x57 x58 x59 x60 x61 h62 => bl_outriderlaw16_RunRetries J G cf j55 j56 x57 x58 x59 x60 x61 h62

theorem rl_outriderlaw16_RunRetries (J : JT) (G : GT) (cf : CF) (j55 : K.Fn 0) (j56 : K.Fn 5) (x57 x58 x59 x60 x61 : AV) (h62 : Hp) : codeF P J G cf (nT P 6) (atC P 6 [1, 1, 1, 1, 1, 0, 1, 0, 0]) al_outriderlaw16_RunRetries (fun t H => app 5 j56 (vals [0, 5, 6, 7, 8] t) H) (fun q t H => match Nat.beq q 0 with | true => app 0 j55 (vals [] t) H | false => (fun _ _ _ => none) q t H) (retK P 6) (mkT (nT P 6) [0, 5, 6, 7, 8] [x57, x58, x59, x60, x61]) h62 = bl_outriderlaw16_RunRetries J G cf j55 j56 x57 x58 x59 x60 x61 h62 := by kernel_rfl

theorem dl_outriderlaw16_RunRetries (J : JT) (G : GT) (cf : CF) (j55 : K.Fn 0) : l_outriderlaw16_RunRetries J G cf j55 = loopF P J G cf (nT P 6) (atC P 6 [1, 1, 1, 1, 1, 0, 1, 0, 0]) al_outriderlaw16_RunRetries [0, 5, 6, 7, 8] (fun q t H => match Nat.beq q 0 with | true => app 0 j55 (vals [] t) H | false => (fun _ _ _ => none) q t H) (retK P 6) := by
  unfold l_outriderlaw16_RunRetries loopF
  refine congrArg (LP 5) ?_
  funext j56 x57 x58 x59 x60 x61 h62
  exact (rl_outriderlaw16_RunRetries J G cf j55 j56 x57 x58 x59 x60 x61 h62).symm

theorem ql_outriderlaw16_RunRetries (cf : CF) (j55 : K.Fn 0) (x57 x58 x59 x60 x61 : AV) (h62 : Hp) : l_outriderlaw16_RunRetries JN GO cf j55 x57 x58 x59 x60 x61 h62 = bl_outriderlaw16_RunRetries JN GO cf j55 (l_outriderlaw16_RunRetries JN GO cf j55) x57 x58 x59 x60 x61 h62 := by
  have h1 : l_outriderlaw16_RunRetries JN GO cf j55 x57 x58 x59 x60 x61 h62 = app 5 (loopF P JN GO cf (nT P 6) (atC P 6 [1, 1, 1, 1, 1, 0, 1, 0, 0]) al_outriderlaw16_RunRetries [0, 5, 6, 7, 8] (fun q t H => match Nat.beq q 0 with | true => app 0 j55 (vals [] t) H | false => (fun _ _ _ => none) q t H) (retK P 6)) [x57, x58, x59, x60, x61] h62 := by rw [dl_outriderlaw16_RunRetries]; kernel_rfl
  refine h1.trans ((loopF_eq (P := P) cf (nT P 6) (atC P 6 [1, 1, 1, 1, 1, 0, 1, 0, 0]) al_outriderlaw16_RunRetries [0, 5, 6, 7, 8] (fun q t H => match Nat.beq q 0 with | true => app 0 j55 (vals [] t) H | false => (fun _ _ _ => none) q t H) (retK P 6) [x57, x58, x59, x60, x61] rfl h62).trans ((rl_outriderlaw16_RunRetries JN GO cf j55 _ x57 x58 x59 x60 x61 h62).trans ?_))
  rw [dl_outriderlaw16_RunRetries]

noncomputable def s_outriderlaw16_RunRetries (J : JT) (G : GT) (cf : CF) (a0 a1 : AV) (H : Hp) : R :=
 B2 (cf (.func (.func 16) [] []) [] H) fun v0 h1 =>
 B1 (unA .not v0) fun v2 =>
 CD v2 (
 some ((.bool false), h1)) (
 J 2 (fun j3 =>
 J 3 (fun j4 =>
 B1 (ilt a0 (.int .i64 0)) fun v5 =>
 G v5 false (fun k6 =>
 k6 a0 h1) (fun v7 h8 =>
 G v5 false (fun k9 =>
 B1 (igt v7 (.int .i64 8)) fun v10 =>
 k9 v10 h8) (fun v11 h12 =>
 B1 (pk v5 (.bool true) v11) fun v13 =>
 G v13 false (fun k14 =>
 k14 a1 h12) (fun v15 h16 =>
 G v13 false (fun k17 =>
 B1 (ilt v15 (.int .i64 1)) fun v18 =>
 k17 v18 h16) (fun v19 h20 =>
 B1 (pk v13 (.bool true) v19) fun v21 =>
 G v21 false (fun k22 =>
 k22 a1 h20) (fun v23 h24 =>
 G v21 false (fun k25 =>
 B1 (igt v23 (.int .i64 1000)) fun v26 =>
 k25 v26 h24) (fun v27 h28 =>
 B1 (pk v21 (.bool true) v27) fun v29 =>
 j4 a0 a1 v29 h28) h24) h20) h16) h12) h8) h1) (fun x30 x31 x32 h33 =>
 CD x32 (
 some ((.bool true), h33)) (
 j3 x30 x31 h33))) (fun x34 x35 h36 =>
 J 3 (fun j37 =>
 B1 (fl [(.str []), .slice0, (.int .i64 0), (.int .i64 0), (.int .i64 0), (.str [])] [(0, 1, (.str [97])), (2, 1, x34), (3, 1, (.int .i64 7)), (4, 1, x35)]) fun l38 =>
 B1 (fl [(.str []), .slice0, (.int .i64 0), (.int .i64 0), (.int .i64 0), (.str [])] [(0, 6, (.agg l38))]) fun l39 =>
 BN (newCells h36 l39 43 0) fun i40 h41 =>
 B1 (fl [.slice0] [(0, 1, (.slice i40 0 1 1 true 6))]) fun l42 =>
 B2 (cf (.func (.func 17) [] []) [(.agg l42)] h41) fun v43 h44 =>
 B1 (ex 0 v43) fun v45 =>
 B1 (ex 1 v43) fun v46 =>
 BN (newCells h44 [.slice0, (.int .i64 0), .slice0, .slice0] 47 0) fun i47 h48 =>
 B1 (st 4 (.ptr i47 0) v45 h48) fun h49 =>
 j37 x34 (.ptr i47 0) v46 h49) (fun x50 x51 x52 h53 =>
 J 0 (fun j54 =>
 J 0 (fun j55 =>
 l_outriderlaw16_RunRetries J G cf j55 x50 x51 x52 (.int .i64 1) (.int .i64 1) h53) (fun  h281 =>
 j54  h281)) (fun  h282 =>
 some ((.bool false), h282)))))

theorem e_outriderlaw16_RunRetries (J : JT) (G : GT) (cf : CF) (a0 a1 : AV) (H : Hp) : callF P J G prim an cf 6 [a0, a1] H = s_outriderlaw16_RunRetries J G cf a0 a1 H := by kernel_rfl

theorem c_outriderlaw16_RunRetries {a0 a1 : AV} {H : Hp} {r : AV × Hp} (h : s_outriderlaw16_RunRetries JN GO cK a0 a1 H = some r) : cK (.func (.func 6) [] []) [a0, a1] H = some r := callF_fix (first := []) (cap := []) ((e_outriderlaw16_RunRetries JN GO _ a0 a1 H).trans h)

end
end Go.Proofs.YthljbjokonglhaaGreatDoor.DfK
