/- Plain forms of functions, printed by a program of our own, and that the evaluator's reading of each is its plain form (of no conditions). -/
import Derived.Test.YthljbjokonglhaaGreatDoorDfK
namespace Go.Proofs.YthljbjokonglhaaGreatDoor.DfK
open Go Am Am.K DfEnv
set_option linter.unusedVariables false
set_option maxRecDepth 100000
noncomputable section
def al_def_Show1 : An := (.sq none .nl (.sq none (.cd .nl .nl) (.sq (some [1, 3, 5, 6, 13, 14, 15, 22, 23, 24]) (.bl none (.sq (some [1, 3, 5, 6, 7, 8, 13, 14, 15, 22, 23, 24]) .nl (.sq (some [1, 3, 5, 6, 8, 13, 14, 15, 22, 23, 24]) (.sq none .nl (.cd .nl .nl)) .nl))) .nl)))

noncomputable def bl_def_Show1 (J : JT) (G : GT) (cf : CF) (j10 : K.Fn 1) (j20 : K.Fn 5) (j32 : K.Fn 7) (j33 : K.Fn 10) (x34 x35 x36 x37 x38 x39 x40 x41 x42 x43 : AV) (h44 : Hp) : R :=
 B1 (ilt x43 x42) fun v45 =>
 CD v45 (
 J 10 (fun j46 =>
 J 12 (fun j47 =>
 B1 (ia 1 x41 x43) fun v48 =>
 B1 (ld v48 h44) fun v49 =>
 j47 x34 x35 x36 x37 x43 v49 x38 x39 x40 x41 x42 x43 h44) (fun x50 x51 x52 x53 x54 x55 x56 x57 x58 x59 x60 x61 h62 =>
 J 11 (fun j63 =>
 B1 (ieq x54 (.int .i64 0)) fun v64 =>
 CD v64 (
 B1 (scat x53 (.str [32, 97, 102, 116, 101, 114, 61])) fun v65 =>
 j63 x50 x51 x52 v65 x55 x56 x57 x58 x59 x60 x61 h62) (
 B1 (scat x53 (.str [44])) fun v66 =>
 j63 x50 x51 x52 v66 x55 x56 x57 x58 x59 x60 x61 h62)) (fun x67 x68 x69 x70 x71 x72 x73 x74 x75 x76 x77 h78 =>
 B1 (fa 0 x67) fun v79 =>
 B1 (ld v79 h78) fun v80 =>
 B1 (ia 6 v80 x71) fun v81 =>
 B1 (fa 0 v81) fun v82 =>
 B1 (ld v82 h78) fun v83 =>
 B1 (scat x70 v83) fun v84 =>
 j46 x67 x68 x69 v84 x72 x73 x74 x75 x76 x77 h78))) (fun x85 x86 x87 x88 x89 x90 x91 x92 x93 x94 h95 =>
 B1 (iadd x94 (.int .i64 1)) fun v96 =>
 j33 x85 x86 x87 x88 x89 x90 x91 x92 x93 v96 h95)) (
 j32 x34 x35 x36 x37 x38 x39 x40 h44)

noncomputable def l_def_Show1 (J : JT) (G : GT) (cf : CF) (j10 : K.Fn 1) (j20 : K.Fn 5) (j32 : K.Fn 7) : K.Fn 10 := LP 10 fun j33 => fun x34 x35 x36 x37 x38 x39 x40 x41 x42 x43 h44 => bl_def_Show1 J G cf j10 j20 j32 j33 x34 x35 x36 x37 x38 x39 x40 x41 x42 x43 h44

theorem rl_def_Show1 (J : JT) (G : GT) (cf : CF) (j10 : K.Fn 1) (j20 : K.Fn 5) (j32 : K.Fn 7) (j33 : K.Fn 10) (x34 x35 x36 x37 x38 x39 x40 x41 x42 x43 : AV) (h44 : Hp) : codeF P J G cf (nT P 10) (atC P 10 [1, 1, 1, 0, 1, 0, 0, 1, 1, 0, 0, 1, 1, 0, 1, 0, 0]) al_def_Show1 (fun t H => app 10 j33 (vals [1, 3, 5, 6, 13, 14, 15, 22, 23, 24] t) H) (fun q t H => match Nat.beq q 2 with | true => app 7 j32 (vals [1, 3, 5, 6, 13, 14, 15] t) H | false => (fun q t H => match Nat.beq q 1 with | true => app 5 j20 (vals [1, 3, 13, 14, 15] t) H | false => (fun q t H => match Nat.beq q 0 with | true => app 1 j10 (vals [3] t) H | false => (fun _ _ _ => none) q t H) q t H) q t H) (retK P 10) (mkT (nT P 10) [1, 3, 5, 6, 13, 14, 15, 22, 23, 24] [x34, x35, x36, x37, x38, x39, x40, x41, x42, x43]) h44 = bl_def_Show1 J G cf j10 j20 j32 j33 x34 x35 x36 x37 x38 x39 x40 x41 x42 x43 h44 := by kernel_rfl

theorem dl_def_Show1 (J : JT) (G : GT) (cf : CF) (j10 : K.Fn 1) (j20 : K.Fn 5) (j32 : K.Fn 7) : l_def_Show1 J G cf j10 j20 j32 = loopF P J G cf (nT P 10) (atC P 10 [1, 1, 1, 0, 1, 0, 0, 1, 1, 0, 0, 1, 1, 0, 1, 0, 0]) al_def_Show1 [1, 3, 5, 6, 13, 14, 15, 22, 23, 24] (fun q t H => match Nat.beq q 2 with | true => app 7 j32 (vals [1, 3, 5, 6, 13, 14, 15] t) H | false => (fun q t H => match Nat.beq q 1 with | true => app 5 j20 (vals [1, 3, 13, 14, 15] t) H | false => (fun q t H => match Nat.beq q 0 with | true => app 1 j10 (vals [3] t) H | false => (fun _ _ _ => none) q t H) q t H) q t H) (retK P 10) := by
  unfold l_def_Show1 loopF
  refine congrArg (LP 10) ?_
  funext j33 x34 x35 x36 x37 x38 x39 x40 x41 x42 x43 h44
  exact (rl_def_Show1 J G cf j10 j20 j32 j33 x34 x35 x36 x37 x38 x39 x40 x41 x42 x43 h44).symm

theorem ql_def_Show1 (cf : CF) (j10 : K.Fn 1) (j20 : K.Fn 5) (j32 : K.Fn 7) (x34 x35 x36 x37 x38 x39 x40 x41 x42 x43 : AV) (h44 : Hp) : l_def_Show1 JN GO cf j10 j20 j32 x34 x35 x36 x37 x38 x39 x40 x41 x42 x43 h44 = bl_def_Show1 JN GO cf j10 j20 j32 (l_def_Show1 JN GO cf j10 j20 j32) x34 x35 x36 x37 x38 x39 x40 x41 x42 x43 h44 := by
  have h1 : l_def_Show1 JN GO cf j10 j20 j32 x34 x35 x36 x37 x38 x39 x40 x41 x42 x43 h44 = app 10 (loopF P JN GO cf (nT P 10) (atC P 10 [1, 1, 1, 0, 1, 0, 0, 1, 1, 0, 0, 1, 1, 0, 1, 0, 0]) al_def_Show1 [1, 3, 5, 6, 13, 14, 15, 22, 23, 24] (fun q t H => match Nat.beq q 2 with | true => app 7 j32 (vals [1, 3, 5, 6, 13, 14, 15] t) H | false => (fun q t H => match Nat.beq q 1 with | true => app 5 j20 (vals [1, 3, 13, 14, 15] t) H | false => (fun q t H => match Nat.beq q 0 with | true => app 1 j10 (vals [3] t) H | false => (fun _ _ _ => none) q t H) q t H) q t H) (retK P 10)) [x34, x35, x36, x37, x38, x39, x40, x41, x42, x43] h44 := by rw [dl_def_Show1]; kernel_rfl
  refine h1.trans ((loopF_eq (P := P) cf (nT P 10) (atC P 10 [1, 1, 1, 0, 1, 0, 0, 1, 1, 0, 0, 1, 1, 0, 1, 0, 0]) al_def_Show1 [1, 3, 5, 6, 13, 14, 15, 22, 23, 24] (fun q t H => match Nat.beq q 2 with | true => app 7 j32 (vals [1, 3, 5, 6, 13, 14, 15] t) H | false => (fun q t H => match Nat.beq q 1 with | true => app 5 j20 (vals [1, 3, 13, 14, 15] t) H | false => (fun q t H => match Nat.beq q 0 with | true => app 1 j10 (vals [3] t) H | false => (fun _ _ _ => none) q t H) q t H) q t H) (retK P 10) [x34, x35, x36, x37, x38, x39, x40, x41, x42, x43] rfl h44).trans ((rl_def_Show1 JN GO cf j10 j20 j32 _ x34 x35 x36 x37 x38 x39 x40 x41 x42 x43 h44).trans ?_))
  rw [dl_def_Show1]

def al_def_Show : An := (.sq none .nl (.sq none (.cd .nl .nl) (.sq (some [1, 3, 13, 14, 15]) (.bl (some [1, 3, 13, 14, 15]) (.sq none .nl (.sq none .nl (.sq (some [1, 3, 5, 6, 13, 14, 15]) (.sq none .nl (.bl (some [1, 3, 5, 6, 13, 14, 15]) (.lp [1, 3, 5, 6, 13, 14, 15, 22, 23, 24] (.sq none .nl (.sq none (.cd .nl .nl) (.sq (some [1, 3, 5, 6, 13, 14, 15, 22, 23, 24]) (.bl none (.sq (some [1, 3, 5, 6, 7, 8, 13, 14, 15, 22, 23, 24]) .nl (.sq (some [1, 3, 5, 6, 8, 13, 14, 15, 22, 23, 24]) (.sq none .nl (.cd .nl .nl)) .nl))) .nl)))))) (.sq (some [1, 3, 5, 6, 13, 14, 15]) .nl (.sq (some [1, 3, 6, 13, 14, 15]) (.sq none .nl (.cd .nl .nl)) .nl)))))) .nl)))

noncomputable def bl_def_Show (J : JT) (G : GT) (cf : CF) (j10 : K.Fn 1) (j11 : K.Fn 5) (x12 x13 x14 x15 x16 : AV) (h17 : Hp) : R :=
 B1 (ilt x16 x15) fun v18 =>
 CD v18 (
 J 5 (fun j19 =>
 J 5 (fun j20 =>
 B1 (ia 6 x14 x16) fun v21 =>
 B1 (lda 6 v21 h17) fun v22 =>
 BN (newCells h17 [(.str []), .slice0, (.int .i64 0), (.int .i64 0), (.int .i64 0), (.str [])] 43 0) fun i23 h24 =>
 B1 (st 6 (.ptr i23 0) v22 h24) fun h25 =>
 B1 (fa 0 (.ptr i23 0)) fun v26 =>
 B1 (ld v26 h25) fun v27 =>
 J 7 (fun j28 =>
 B1 (fa 1 (.ptr i23 0)) fun v29 =>
 B1 (ld v29 h25) fun v30 =>
 B1 (lenx v30) fun v31 =>
 J 7 (fun j32 =>
 l_def_Show1 J G cf j10 j20 j32 x12 x13 (.ptr i23 0) v27 x14 x15 x16 v30 v31 (.int .i64 0) h25) (fun x97 x98 x99 x100 x101 x102 x103 h104 =>
 j28 x97 x98 x99 x100 x101 x102 x103 h104)) (fun x105 x106 x107 x108 x109 x110 x111 h112 =>
 J 7 (fun j113 =>
 B1 (fa 2 x107) fun v114 =>
 B1 (ld v114 h112) fun v115 =>
 B2 (cf (.func (.func 30) [] []) [(.str [32, 114, 101, 116, 114, 121, 61]), v115, (.int .i64 0)] h112) fun v116 h117 =>
 B1 (fa 3 x107) fun v118 =>
 B1 (ld v118 h117) fun v119 =>
 B2 (cf (.func (.func 30) [] []) [(.str [32, 119, 97, 105, 116, 61]), v119, (.int .i64 10)] h117) fun v120 h121 =>
 B1 (scat v116 v120) fun v122 =>
 B1 (fa 4 x107) fun v123 =>
 B1 (ld v123 h121) fun v124 =>
 B2 (cf (.func (.func 30) [] []) [(.str [32, 98, 97, 115, 101, 61]), v124, (.int .i64 1)] h121) fun v125 h126 =>
 B1 (scat v122 v125) fun v127 =>
 B1 (scat x108 v127) fun v128 =>
 B1 (ld v118 h112) fun v129 =>
 SM v119 v129 <|
 B1 (ld v123 h112) fun v130 =>
 SM v124 v130 <|
 B1 (ld v123 h117) fun v131 =>
 SM v124 v131 <|
 j113 x105 x106 x107 v128 x109 x110 x111 h126) (fun x132 x133 x134 x135 x136 x137 x138 h139 =>
 J 6 (fun j140 =>
 B1 (fa 5 x134) fun v141 =>
 B1 (ld v141 h139) fun v142 =>
 B1 (sne v142 (.str [])) fun v143 =>
 CD v143 (
 B1 (fa 5 x134) fun v144 =>
 B1 (ld v144 h139) fun v145 =>
 B1 (scat (.str [32, 111, 110, 61]) v145) fun v146 =>
 B1 (scat x135 v146) fun v147 =>
 j140 x132 x133 v147 x136 x137 x138 h139) (
 j140 x132 x133 x135 x136 x137 x138 h139)) (fun x148 x149 x150 x151 x152 x153 h154 =>
 B1 (fl [(.str [])] [(0, 1, x150)]) fun l155 =>
 BN (newCells h154 l155 9 0) fun i156 h157 =>
 B2 (app' 9 1 [(.str [])] false x149 (.slice i156 0 1 1 true 1) h157) fun v158 h159 =>
 j20 x148 v158 x151 x152 x153 h159)))) (fun x160 x161 x162 x163 x164 h165 =>
 j19 x160 x161 x162 x163 x164 h165)) (fun x166 x167 x168 x169 x170 h171 =>
 B1 (iadd x170 (.int .i64 1)) fun v172 =>
 j11 x166 x167 x168 x169 v172 h171)) (
 j10 x13 h17)

noncomputable def l_def_Show (J : JT) (G : GT) (cf : CF) (j10 : K.Fn 1) : K.Fn 5 := LP 5 fun j11 => fun x12 x13 x14 x15 x16 h17 => bl_def_Show J G cf j10 j11 x12 x13 x14 x15 x16 h17

theorem rl_def_Show (J : JT) (G : GT) (cf : CF) (j10 : K.Fn 1) (j11 : K.Fn 5) (x12 x13 x14 x15 x16 : AV) (h17 : Hp) : codeF P J G cf (nT P 10) (atC P 10 [1, 1, 1, 0, 1, 0, 0]) al_def_Show (fun t H => app 5 j11 (vals [1, 3, 13, 14, 15] t) H) (fun q t H => match Nat.beq q 0 with | true => app 1 j10 (vals [3] t) H | false => (fun _ _ _ => none) q t H) (retK P 10) (mkT (nT P 10) [1, 3, 13, 14, 15] [x12, x13, x14, x15, x16]) h17 = bl_def_Show J G cf j10 j11 x12 x13 x14 x15 x16 h17 := by kernel_rfl

theorem dl_def_Show (J : JT) (G : GT) (cf : CF) (j10 : K.Fn 1) : l_def_Show J G cf j10 = loopF P J G cf (nT P 10) (atC P 10 [1, 1, 1, 0, 1, 0, 0]) al_def_Show [1, 3, 13, 14, 15] (fun q t H => match Nat.beq q 0 with | true => app 1 j10 (vals [3] t) H | false => (fun _ _ _ => none) q t H) (retK P 10) := by
  unfold l_def_Show loopF
  refine congrArg (LP 5) ?_
  funext j11 x12 x13 x14 x15 x16 h17
  exact (rl_def_Show J G cf j10 j11 x12 x13 x14 x15 x16 h17).symm

theorem ql_def_Show (cf : CF) (j10 : K.Fn 1) (x12 x13 x14 x15 x16 : AV) (h17 : Hp) : l_def_Show JN GO cf j10 x12 x13 x14 x15 x16 h17 = bl_def_Show JN GO cf j10 (l_def_Show JN GO cf j10) x12 x13 x14 x15 x16 h17 := by
  have h1 : l_def_Show JN GO cf j10 x12 x13 x14 x15 x16 h17 = app 5 (loopF P JN GO cf (nT P 10) (atC P 10 [1, 1, 1, 0, 1, 0, 0]) al_def_Show [1, 3, 13, 14, 15] (fun q t H => match Nat.beq q 0 with | true => app 1 j10 (vals [3] t) H | false => (fun _ _ _ => none) q t H) (retK P 10)) [x12, x13, x14, x15, x16] h17 := by rw [dl_def_Show]; kernel_rfl
  refine h1.trans ((loopF_eq (P := P) cf (nT P 10) (atC P 10 [1, 1, 1, 0, 1, 0, 0]) al_def_Show [1, 3, 13, 14, 15] (fun q t H => match Nat.beq q 0 with | true => app 1 j10 (vals [3] t) H | false => (fun _ _ _ => none) q t H) (retK P 10) [x12, x13, x14, x15, x16] rfl h17).trans ((rl_def_Show JN GO cf j10 _ x12 x13 x14 x15 x16 h17).trans ?_))
  rw [dl_def_Show]

noncomputable def s_def_Show (J : JT) (G : GT) (cf : CF) (a0 : AV) (H : Hp) : R :=
 BN (bx 25 a0 H) fun i0 h1 =>
 B1 (lda 1 (.ptr i0 0) h1) fun v2 =>
 B2 (cf (.func (.func 11) [] []) [v2] h1) fun v3 h4 =>
 B1 (ine v3 (.int .i64 0)) fun v5 =>
 CD v5 (
 some ((.str []), h4)) (
 J 1 (fun j6 =>
 B1 (fa 0 (.ptr i0 0)) fun v7 =>
 B1 (ld v7 h4) fun v8 =>
 B1 (lenx v8) fun v9 =>
 J 1 (fun j10 =>
 l_def_Show J G cf j10 (.ptr i0 0) .slice0 v8 v9 (.int .i64 0) h4) (fun x173 h174 =>
 j6 x173 h174)) (fun x175 h176 =>
 B2 (cf (.func (.func 31) [] []) [x175, (.str [59])] h176) fun v177 h178 =>
 some (v177, h178)))

theorem e_def_Show (J : JT) (G : GT) (cf : CF) (a0 : AV) (H : Hp) : callF P J G prim an cf 10 [a0] H = s_def_Show J G cf a0 H := by kernel_rfl

theorem c_def_Show {a0 : AV} {H : Hp} {r : AV × Hp} (h : s_def_Show JN GO cK a0 H = some r) : cK (.func (.func 10) [] []) [a0] H = some r := callF_fix (first := []) (cap := []) ((e_def_Show JN GO _ a0 H).trans h)

noncomputable def s_def_told (J : JT) (G : GT) (cf : CF) (a0 a1 a2 : AV) (H : Hp) : R :=
 B1 (ieq a1 a2) fun v0 =>
 CD v0 (
 some ((.str []), H)) (
 B2 (cf (.func (.func 66) [] []) [a1] H) fun v1 h2 =>
 B1 (scat a0 v1) fun v3 =>
 some (v3, h2))

theorem e_def_told (J : JT) (G : GT) (cf : CF) (a0 a1 a2 : AV) (H : Hp) : callF P J G prim an cf 30 [a0, a1, a2] H = s_def_told J G cf a0 a1 a2 H := by kernel_rfl

theorem c_def_told {a0 a1 a2 : AV} {H : Hp} {r : AV × Hp} (h : s_def_told JN GO cK a0 a1 a2 H = some r) : cK (.func (.func 30) [] []) [a0, a1, a2] H = some r := callF_fix (first := []) (cap := []) ((e_def_told JN GO _ a0 a1 a2 H).trans h)

def al_def_Graph1 : An := (.sq none .nl (.sq none (.cd .nl .nl) (.sq (some [1, 2, 3, 4, 14, 15, 16, 22, 23, 24]) (.bl (some [1, 2, 3, 4, 14, 15, 16, 22, 23, 24]) (.sq none .nl (.sq (some [1, 2, 3, 4, 7, 8, 14, 15, 16, 22, 23, 24]) .nl (.sq (some [1, 2, 3, 4, 8, 14, 15, 16, 22, 23, 24, 48]) .nl (.cd .nl .nl))))) .nl)))

noncomputable def bl_def_Graph1 (J : JT) (G : GT) (cf : CF) (j20 : K.Fn 2) (j31 : K.Fn 6) (j50 : K.Fn 6) (j51 : K.Fn 10) (x52 x53 x54 x55 x56 x57 x58 x59 x60 x61 : AV) (h62 : Hp) : R :=
 B1 (ilt x61 x60) fun v63 =>
 CD v63 (
 J 10 (fun j64 =>
 J 10 (fun j65 =>
 B1 (ia 1 x59 x61) fun v66 =>
 B1 (ld v66 h62) fun v67 =>
 J 12 (fun j68 =>
 B1 (fl [(.int .i64 0), (.int .i64 0)] [(0, 1, v67), (1, 1, x55)]) fun l69 =>
 BN (newCells h62 [(.int .i64 0), (.int .i64 0)] 83 0) fun i70 h71 =>
 B1 (st 2 (.ptr i70 0) (.agg l69) h71) fun h72 =>
 j68 x52 x53 x54 x55 v67 (.ptr i70 0) x56 x57 x58 x59 x60 x61 h72) (fun x73 x74 x75 x76 x77 x78 x79 x80 x81 x82 x83 x84 h85 =>
 J 12 (fun j86 =>
 B1 (fa 0 x73) fun v87 =>
 B1 (ld v87 h85) fun v88 =>
 B1 (lenx v88) fun v89 =>
 B1 (isub v89 (.int .i64 1)) fun v90 =>
 B2 (cf (.func (.func 32) [] []) [x77, (.int .i64 0), v90] h85) fun v91 h92 =>
 G v91 true (fun k93 =>
 k93 x77 h92) (fun v94 h95 =>
 G v91 true (fun k96 =>
 k96 x76 h95) (fun v97 h98 =>
 G v91 true (fun k99 =>
 B1 (ine v94 v97) fun v100 =>
 k99 v100 h98) (fun v101 h102 =>
 B1 (pk v91 v101 (.bool false)) fun v103 =>
 G v103 true (fun k104 =>
 B1 (fa 1 x75) fun v105 =>
 k104 v105 h102) (fun v106 h107 =>
 G v103 true (fun k108 =>
 B1 (ld v106 h107) fun v109 =>
 k108 v109 h107) (fun v110 h111 =>
 G v103 true (fun k112 =>
 B1 (lda 2 x78 h111) fun v113 =>
 k112 v113 h111) (fun v114 h115 =>
 G v103 true (fun k116 =>
 B2 (cf (.func (.func 42) [] []) [v110, v114] h115) fun v117 h118 =>
 k116 v117 h118) (fun v119 h120 =>
 G v103 true (fun k121 =>
 B1 (unA .not v119) fun v122 =>
 k121 v122 h120) (fun v123 h124 =>
 B1 (pk v103 v123 (.bool false)) fun v125 =>
 j86 x73 x74 x75 x76 x78 x79 x80 x81 x82 x83 x84 v125 h124) h120) h115) h111) h107) h102) h98) h95) h92) (fun x126 x127 x128 x129 x130 x131 x132 x133 x134 x135 x136 x137 h138 =>
 CD x137 (
 B1 (fa 1 x128) fun v139 =>
 B1 (ld v139 h138) fun v140 =>
 B1 (lda 2 x130 h138) fun v141 =>
 B1 (fl [(.int .i64 0), (.int .i64 0)] [(0, 2, v141)]) fun l142 =>
 BN (newCells h138 l142 83 0) fun i143 h144 =>
 B2 (app' 83 2 [(.int .i64 0), (.int .i64 0)] false v140 (.slice i143 0 1 1 true 2) h144) fun v145 h146 =>
 B1 (fa 1 x128) fun v147 =>
 B1 (st 1 v147 v145 h146) fun h148 =>
 j65 x126 x127 x128 x129 x131 x132 x133 x134 x135 x136 h148) (
 j65 x126 x127 x128 x129 x131 x132 x133 x134 x135 x136 h138)))) (fun x149 x150 x151 x152 x153 x154 x155 x156 x157 x158 h159 =>
 j64 x149 x150 x151 x152 x153 x154 x155 x156 x157 x158 h159)) (fun x160 x161 x162 x163 x164 x165 x166 x167 x168 x169 h170 =>
 B1 (iadd x169 (.int .i64 1)) fun v171 =>
 j51 x160 x161 x162 x163 x164 x165 x166 x167 x168 v171 h170)) (
 j50 x52 x53 x54 x56 x57 x58 h62)

noncomputable def l_def_Graph1 (J : JT) (G : GT) (cf : CF) (j20 : K.Fn 2) (j31 : K.Fn 6) (j50 : K.Fn 6) : K.Fn 10 := LP 10 fun j51 => fun x52 x53 x54 x55 x56 x57 x58 x59 x60 x61 h62 => bl_def_Graph1 J G cf j20 j31 j50 j51 x52 x53 x54 x55 x56 x57 x58 x59 x60 x61 h62

theorem rl_def_Graph1 (J : JT) (G : GT) (cf : CF) (j20 : K.Fn 2) (j31 : K.Fn 6) (j50 : K.Fn 6) (j51 : K.Fn 10) (x52 x53 x54 x55 x56 x57 x58 x59 x60 x61 : AV) (h62 : Hp) : codeF P J G cf (nT P 15) (atC P 15 [1, 1, 0, 1, 0, 0, 1, 1, 0, 0, 1, 1, 0, 0]) al_def_Graph1 (fun t H => app 10 j51 (vals [1, 2, 3, 4, 14, 15, 16, 22, 23, 24] t) H) (fun q t H => match Nat.beq q 2 with | true => app 6 j50 (vals [1, 2, 3, 14, 15, 16] t) H | false => (fun q t H => match Nat.beq q 1 with | true => app 6 j31 (vals [1, 2, 3, 14, 15, 16] t) H | false => (fun q t H => match Nat.beq q 0 with | true => app 2 j20 (vals [2, 3] t) H | false => (fun _ _ _ => none) q t H) q t H) q t H) (retK P 15) (mkT (nT P 15) [1, 2, 3, 4, 14, 15, 16, 22, 23, 24] [x52, x53, x54, x55, x56, x57, x58, x59, x60, x61]) h62 = bl_def_Graph1 J G cf j20 j31 j50 j51 x52 x53 x54 x55 x56 x57 x58 x59 x60 x61 h62 := by kernel_rfl

theorem dl_def_Graph1 (J : JT) (G : GT) (cf : CF) (j20 : K.Fn 2) (j31 : K.Fn 6) (j50 : K.Fn 6) : l_def_Graph1 J G cf j20 j31 j50 = loopF P J G cf (nT P 15) (atC P 15 [1, 1, 0, 1, 0, 0, 1, 1, 0, 0, 1, 1, 0, 0]) al_def_Graph1 [1, 2, 3, 4, 14, 15, 16, 22, 23, 24] (fun q t H => match Nat.beq q 2 with | true => app 6 j50 (vals [1, 2, 3, 14, 15, 16] t) H | false => (fun q t H => match Nat.beq q 1 with | true => app 6 j31 (vals [1, 2, 3, 14, 15, 16] t) H | false => (fun q t H => match Nat.beq q 0 with | true => app 2 j20 (vals [2, 3] t) H | false => (fun _ _ _ => none) q t H) q t H) q t H) (retK P 15) := by
  unfold l_def_Graph1 loopF
  refine congrArg (LP 10) ?_
  funext j51 x52 x53 x54 x55 x56 x57 x58 x59 x60 x61 h62
  exact (rl_def_Graph1 J G cf j20 j31 j50 j51 x52 x53 x54 x55 x56 x57 x58 x59 x60 x61 h62).symm

theorem ql_def_Graph1 (cf : CF) (j20 : K.Fn 2) (j31 : K.Fn 6) (j50 : K.Fn 6) (x52 x53 x54 x55 x56 x57 x58 x59 x60 x61 : AV) (h62 : Hp) : l_def_Graph1 JN GO cf j20 j31 j50 x52 x53 x54 x55 x56 x57 x58 x59 x60 x61 h62 = bl_def_Graph1 JN GO cf j20 j31 j50 (l_def_Graph1 JN GO cf j20 j31 j50) x52 x53 x54 x55 x56 x57 x58 x59 x60 x61 h62 := by
  have h1 : l_def_Graph1 JN GO cf j20 j31 j50 x52 x53 x54 x55 x56 x57 x58 x59 x60 x61 h62 = app 10 (loopF P JN GO cf (nT P 15) (atC P 15 [1, 1, 0, 1, 0, 0, 1, 1, 0, 0, 1, 1, 0, 0]) al_def_Graph1 [1, 2, 3, 4, 14, 15, 16, 22, 23, 24] (fun q t H => match Nat.beq q 2 with | true => app 6 j50 (vals [1, 2, 3, 14, 15, 16] t) H | false => (fun q t H => match Nat.beq q 1 with | true => app 6 j31 (vals [1, 2, 3, 14, 15, 16] t) H | false => (fun q t H => match Nat.beq q 0 with | true => app 2 j20 (vals [2, 3] t) H | false => (fun _ _ _ => none) q t H) q t H) q t H) (retK P 15)) [x52, x53, x54, x55, x56, x57, x58, x59, x60, x61] h62 := by rw [dl_def_Graph1]; kernel_rfl
  refine h1.trans ((loopF_eq (P := P) cf (nT P 15) (atC P 15 [1, 1, 0, 1, 0, 0, 1, 1, 0, 0, 1, 1, 0, 0]) al_def_Graph1 [1, 2, 3, 4, 14, 15, 16, 22, 23, 24] (fun q t H => match Nat.beq q 2 with | true => app 6 j50 (vals [1, 2, 3, 14, 15, 16] t) H | false => (fun q t H => match Nat.beq q 1 with | true => app 6 j31 (vals [1, 2, 3, 14, 15, 16] t) H | false => (fun q t H => match Nat.beq q 0 with | true => app 2 j20 (vals [2, 3] t) H | false => (fun _ _ _ => none) q t H) q t H) q t H) (retK P 15) [x52, x53, x54, x55, x56, x57, x58, x59, x60, x61] rfl h62).trans ((rl_def_Graph1 JN GO cf j20 j31 j50 _ x52 x53 x54 x55 x56 x57 x58 x59 x60 x61 h62).trans ?_))
  rw [dl_def_Graph1]

def al_def_Graph : An := (.sq none .nl (.sq none (.cd .nl .nl) (.sq (some [1, 2, 3, 14, 15, 16]) (.bl (some [1, 2, 3, 14, 15, 16]) (.sq (some [1, 2, 3, 4, 5, 14, 15, 16]) .nl (.sq none .nl (.bl (some [1, 2, 3, 14, 15, 16]) (.lp [1, 2, 3, 4, 14, 15, 16, 22, 23, 24] (.sq none .nl (.sq none (.cd .nl .nl) (.sq (some [1, 2, 3, 4, 14, 15, 16, 22, 23, 24]) (.bl (some [1, 2, 3, 4, 14, 15, 16, 22, 23, 24]) (.sq none .nl (.sq (some [1, 2, 3, 4, 7, 8, 14, 15, 16, 22, 23, 24]) .nl (.sq (some [1, 2, 3, 4, 8, 14, 15, 16, 22, 23, 24, 48]) .nl (.cd .nl .nl))))) .nl)))))))) .nl)))

noncomputable def bl_def_Graph (J : JT) (G : GT) (cf : CF) (j20 : K.Fn 2) (j21 : K.Fn 6) (x22 x23 x24 x25 x26 x27 : AV) (h28 : Hp) : R :=
 B1 (ilt x27 x26) fun v29 =>
 CD v29 (
 J 6 (fun j30 =>
 J 6 (fun j31 =>
 J 8 (fun j32 =>
 B1 (ia 6 x25 x27) fun v33 =>
 B1 (lda 6 v33 h28) fun v34 =>
 BN (newCells h28 [(.str []), .slice0, (.int .i64 0), (.int .i64 0), (.int .i64 0), (.str [])] 43 0) fun i35 h36 =>
 B1 (st 6 (.ptr i35 0) v34 h36) fun h37 =>
 j32 x22 x23 x24 x27 (.ptr i35 0) x25 x26 x27 h37) (fun x38 x39 x40 x41 x42 x43 x44 x45 h46 =>
 B1 (fa 1 x42) fun v47 =>
 B1 (ld v47 h46) fun v48 =>
 B1 (lenx v48) fun v49 =>
 J 6 (fun j50 =>
 l_def_Graph1 J G cf j20 j31 j50 x38 x39 x40 x41 x43 x44 x45 v48 v49 (.int .i64 0) h46) (fun x172 x173 x174 x175 x176 x177 h178 =>
 j31 x172 x173 x174 x175 x176 x177 h178))) (fun x179 x180 x181 x182 x183 x184 h185 =>
 j30 x179 x180 x181 x182 x183 x184 h185)) (fun x186 x187 x188 x189 x190 x191 h192 =>
 B1 (iadd x191 (.int .i64 1)) fun v193 =>
 j21 x186 x187 x188 x189 x190 v193 h192)) (
 j20 x23 x24 h28)

noncomputable def l_def_Graph (J : JT) (G : GT) (cf : CF) (j20 : K.Fn 2) : K.Fn 6 := LP 6 fun j21 => fun x22 x23 x24 x25 x26 x27 h28 => bl_def_Graph J G cf j20 j21 x22 x23 x24 x25 x26 x27 h28

theorem rl_def_Graph (J : JT) (G : GT) (cf : CF) (j20 : K.Fn 2) (j21 : K.Fn 6) (x22 x23 x24 x25 x26 x27 : AV) (h28 : Hp) : codeF P J G cf (nT P 15) (atC P 15 [1, 1, 0, 1, 0, 0]) al_def_Graph (fun t H => app 6 j21 (vals [1, 2, 3, 14, 15, 16] t) H) (fun q t H => match Nat.beq q 0 with | true => app 2 j20 (vals [2, 3] t) H | false => (fun _ _ _ => none) q t H) (retK P 15) (mkT (nT P 15) [1, 2, 3, 14, 15, 16] [x22, x23, x24, x25, x26, x27]) h28 = bl_def_Graph J G cf j20 j21 x22 x23 x24 x25 x26 x27 h28 := by kernel_rfl

theorem dl_def_Graph (J : JT) (G : GT) (cf : CF) (j20 : K.Fn 2) : l_def_Graph J G cf j20 = loopF P J G cf (nT P 15) (atC P 15 [1, 1, 0, 1, 0, 0]) al_def_Graph [1, 2, 3, 14, 15, 16] (fun q t H => match Nat.beq q 0 with | true => app 2 j20 (vals [2, 3] t) H | false => (fun _ _ _ => none) q t H) (retK P 15) := by
  unfold l_def_Graph loopF
  refine congrArg (LP 6) ?_
  funext j21 x22 x23 x24 x25 x26 x27 h28
  exact (rl_def_Graph J G cf j20 j21 x22 x23 x24 x25 x26 x27 h28).symm

theorem ql_def_Graph (cf : CF) (j20 : K.Fn 2) (x22 x23 x24 x25 x26 x27 : AV) (h28 : Hp) : l_def_Graph JN GO cf j20 x22 x23 x24 x25 x26 x27 h28 = bl_def_Graph JN GO cf j20 (l_def_Graph JN GO cf j20) x22 x23 x24 x25 x26 x27 h28 := by
  have h1 : l_def_Graph JN GO cf j20 x22 x23 x24 x25 x26 x27 h28 = app 6 (loopF P JN GO cf (nT P 15) (atC P 15 [1, 1, 0, 1, 0, 0]) al_def_Graph [1, 2, 3, 14, 15, 16] (fun q t H => match Nat.beq q 0 with | true => app 2 j20 (vals [2, 3] t) H | false => (fun _ _ _ => none) q t H) (retK P 15)) [x22, x23, x24, x25, x26, x27] h28 := by rw [dl_def_Graph]; kernel_rfl
  refine h1.trans ((loopF_eq (P := P) cf (nT P 15) (atC P 15 [1, 1, 0, 1, 0, 0]) al_def_Graph [1, 2, 3, 14, 15, 16] (fun q t H => match Nat.beq q 0 with | true => app 2 j20 (vals [2, 3] t) H | false => (fun _ _ _ => none) q t H) (retK P 15) [x22, x23, x24, x25, x26, x27] rfl h28).trans ((rl_def_Graph JN GO cf j20 _ x22 x23 x24 x25 x26 x27 h28).trans ?_))
  rw [dl_def_Graph]

noncomputable def s_def_Graph (J : JT) (G : GT) (cf : CF) (a0 : AV) (H : Hp) : R :=
 BN (bx 25 a0 H) fun i0 h1 =>
 BN (newCells h1 [(.int .i64 0), .slice0] 39 0) fun i2 h3 =>
 J 3 (fun j4 =>
 B1 (fa 0 (.ptr i0 0)) fun v5 =>
 B1 (ld v5 h3) fun v6 =>
 B1 (lenx v6) fun v7 =>
 B1 (fl [(.int .i64 0), .slice0] [(0, 1, v7)]) fun l8 =>
 BN (newCells h3 [(.int .i64 0), .slice0] 39 0) fun i9 h10 =>
 B1 (st 2 (.ptr i9 0) (.agg l8) h10) fun h11 =>
 j4 (.ptr i0 0) (.ptr i2 0) (.ptr i9 0) h11) (fun x12 x13 x14 h15 =>
 J 2 (fun j16 =>
 B1 (fa 0 x12) fun v17 =>
 B1 (ld v17 h15) fun v18 =>
 B1 (lenx v18) fun v19 =>
 J 2 (fun j20 =>
 l_def_Graph J G cf j20 x12 x13 x14 v18 v19 (.int .i64 0) h15) (fun x194 x195 h196 =>
 j16 x194 x195 h196)) (fun x197 x198 h199 =>
 B1 (lda 2 x198 h199) fun v200 =>
 B1 (st 2 x197 v200 h199) fun h201 =>
 B1 (lda 2 x197 h201) fun v202 =>
 some (v202, h201)))

theorem e_def_Graph (J : JT) (G : GT) (cf : CF) (a0 : AV) (H : Hp) : callF P J G prim an cf 15 [a0] H = s_def_Graph J G cf a0 H := by kernel_rfl

theorem c_def_Graph {a0 : AV} {H : Hp} {r : AV × Hp} (h : s_def_Graph JN GO cK a0 H = some r) : cK (.func (.func 15) [] []) [a0] H = some r := callF_fix (first := []) (cap := []) ((e_def_Graph JN GO _ a0 H).trans h)

noncomputable def s_outriderlaw12_DefBack (J : JT) (G : GT) (cf : CF) (a0 : AV) (H : Hp) : R :=
 B2 (cf (.func (.func 8) [] []) [] H) fun v0 h1 =>
 B1 (unA .not v0) fun v2 =>
 CD v2 (
 some ((.bool false), h1)) (
 B1 (lens a0) fun v3 =>
 B1 (igt v3 (.int .i64 1024)) fun v4 =>
 CD v4 (
 some ((.bool true), h1)) (
 J 3 (fun j5 =>
 B2 (cf (.func (.func 9) [] []) [a0] h1) fun v6 h7 =>
 B1 (ex 0 v6) fun v8 =>
 B1 (ex 1 v6) fun v9 =>
 BN (newCells h7 [.slice0] 25 0) fun i10 h11 =>
 B1 (st 1 (.ptr i10 0) v8 h11) fun h12 =>
 j5 a0 (.ptr i10 0) v9 h12) (fun x13 x14 x15 h16 =>
 J 2 (fun j17 =>
 B1 (ine x15 (.int .i64 0)) fun v18 =>
 CD v18 (
 B1 (fa 0 x14) fun v19 =>
 B1 (ld v19 h16) fun v20 =>
 B1 (lenx v20) fun v21 =>
 B1 (ieq v21 (.int .i64 0)) fun v22 =>
 some (v22, h16)) (
 j17 x13 x14 h16)) (fun x23 x24 h25 =>
 B1 (lda 1 x24 h25) fun v26 =>
 B2 (cf (.func (.func 10) [] []) [v26] h25) fun v27 h28 =>
 J 5 (fun j29 =>
 B2 (cf (.func (.func 9) [] []) [v27] h28) fun v30 h31 =>
 B1 (ex 0 v30) fun v32 =>
 B1 (ex 1 v30) fun v33 =>
 BN (newCells h31 [.slice0] 25 0) fun i34 h35 =>
 B1 (st 1 (.ptr i34 0) v32 h35) fun h36 =>
 j29 x23 x24 v27 (.ptr i34 0) v33 h36) (fun x37 x38 x39 x40 x41 h42 =>
 B1 (lda 1 x38 h42) fun v43 =>
 B2 (cf (.func (.func 11) [] []) [v43] h42) fun v44 h45 =>
 B1 (ieq v44 (.int .i64 0)) fun v46 =>
 GD2 v46 true (
 B1 (ieq x41 (.int .i64 0)) fun v47 =>
 GD2 v47 true (
 B1 (lda 1 x40 h45) fun v48 =>
 B2 (cf (.func (.func 13) [] []) [v48] h45) fun v49 h50 =>
 B1 (lda 1 x38 h50) fun v51 =>
 B2 (cf (.func (.func 13) [] []) [v51] h50) fun v52 h53 =>
 B2 (cf (.func (.func 12) [] []) [v49, v52] h53) fun v54 h55 =>
 GD2 v54 true (
 B1 (lda 1 x40 h55) fun v56 =>
 B2 (cf (.func (.func 10) [] []) [v56] h55) fun v57 h58 =>
 B1 (seq v57 x39) fun v59 =>
 GD2 v59 true (
 B1 (lens x39) fun v60 =>
 B1 (lens x37) fun v61 =>
 B1 (fa 0 x38) fun v62 =>
 B1 (ld v62 h58) fun v63 =>
 B1 (lenx v63) fun v64 =>
 B1 (imul (.int .i64 11) v64) fun v65 =>
 B1 (iadd v61 v65) fun v66 =>
 B1 (ile v60 v66) fun v67 =>
 GD2 v67 true (
 B1 (lda 1 x38 h58) fun v68 =>
 B2 (cf (.func (.func 15) [] []) [v68] h58) fun v69 h70 =>
 B2 (cf (.func (.func 14) [] []) [v69] h70) fun v71 h72 =>
 B1 (lenx v71) fun v73 =>
 B1 (ieq v73 (.int .i64 0)) fun v74 =>
 B1 (lda 1 x38 h45) fun v75 =>
 SM v51 v75 <|
 some (v74, h72)) (
 B1 (lda 1 x38 h45) fun v76 =>
 SM v51 v76 <|
 some ((.bool false), h58))) (
 B1 (lda 1 x38 h45) fun v77 =>
 SM v51 v77 <|
 some ((.bool false), h58))) (
 B1 (lda 1 x38 h45) fun v78 =>
 SM v51 v78 <|
 some ((.bool false), h55))) (
 some ((.bool false), h45))) (
 some ((.bool false), h45)))))))

theorem e_outriderlaw12_DefBack (J : JT) (G : GT) (cf : CF) (a0 : AV) (H : Hp) : callF P J G prim an cf 3 [a0] H = s_outriderlaw12_DefBack J G cf a0 H := by kernel_rfl

theorem c_outriderlaw12_DefBack {a0 : AV} {H : Hp} {r : AV × Hp} (h : s_outriderlaw12_DefBack JN GO cK a0 H = some r) : cK (.func (.func 3) [] []) [a0] H = some r := callF_fix (first := []) (cap := []) ((e_outriderlaw12_DefBack JN GO _ a0 H).trans h)

def al_outriderlaw12_same1 : An := (.sq (some [0, 1, 5, 6, 7, 8]) (.sq (some [0, 1, 5, 6, 7, 8, 74]) .nl (.cd .nl .nl)) (.sq (some [0, 1, 5, 6, 7, 8]) (.bl none (.sq (some [0, 1, 5, 6, 7, 8, 87]) .nl (.cd (.sq none .nl .nl) .nl))) .nl))

noncomputable def bl_outriderlaw12_same1 (J : JT) (G : GT) (cf : CF) (j13 : K.Fn 0) (j22 : K.Fn 3) (j174 : K.Fn 3) (j175 : K.Fn 6) (x176 x177 x178 x179 x180 x181 : AV) (h182 : Hp) : R :=
 J 6 (fun j183 =>
 J 7 (fun j184 =>
 B1 (fa 1 x179) fun v185 =>
 B1 (ld v185 h182) fun v186 =>
 B1 (lenx v186) fun v187 =>
 B1 (ilt x181 v187) fun v188 =>
 j184 x176 x177 x178 x179 x180 x181 v188 h182) (fun x189 x190 x191 x192 x193 x194 x195 h196 =>
 CD x195 (
 j183 x189 x190 x191 x192 x193 x194 h196) (
 j174 x189 x190 x191 h196))) (fun x197 x198 x199 x200 x201 x202 h203 =>
 J 6 (fun j204 =>
 J 7 (fun j205 =>
 B1 (fa 1 x200) fun v206 =>
 B1 (ld v206 h203) fun v207 =>
 B1 (ia 1 v207 x202) fun v208 =>
 B1 (ld v208 h203) fun v209 =>
 B1 (fa 1 x201) fun v210 =>
 B1 (ld v210 h203) fun v211 =>
 B1 (ia 1 v211 x202) fun v212 =>
 B1 (ld v212 h203) fun v213 =>
 B1 (ine v209 v213) fun v214 =>
 j205 x197 x198 x199 x200 x201 x202 v214 h203) (fun x215 x216 x217 x218 x219 x220 x221 h222 =>
 CD x221 (
 some ((.bool false), h222)) (
 j204 x215 x216 x217 x218 x219 x220 h222))) (fun x223 x224 x225 x226 x227 x228 h229 =>
 B1 (iadd x228 (.int .i64 1)) fun v230 =>
 j175 x223 x224 x225 x226 x227 v230 h229))

noncomputable def l_outriderlaw12_same1 (J : JT) (G : GT) (cf : CF) (j13 : K.Fn 0) (j22 : K.Fn 3) (j174 : K.Fn 3) : K.Fn 6 := LP 6 fun j175 => fun x176 x177 x178 x179 x180 x181 h182 => bl_outriderlaw12_same1 J G cf j13 j22 j174 j175 x176 x177 x178 x179 x180 x181 h182

theorem rl_outriderlaw12_same1 (J : JT) (G : GT) (cf : CF) (j13 : K.Fn 0) (j22 : K.Fn 3) (j174 : K.Fn 3) (j175 : K.Fn 6) (x176 x177 x178 x179 x180 x181 : AV) (h182 : Hp) : codeF P J G cf (nT P 12) (atC P 12 [1, 1, 0, 1, 0, 0, 1, 0, 0, 1, 1, 1, 0, 0]) al_outriderlaw12_same1 (fun t H => app 6 j175 (vals [0, 1, 5, 6, 7, 8] t) H) (fun q t H => match Nat.beq q 2 with | true => app 3 j174 (vals [0, 1, 5] t) H | false => (fun q t H => match Nat.beq q 1 with | true => app 3 j22 (vals [0, 1, 5] t) H | false => (fun q t H => match Nat.beq q 0 with | true => app 0 j13 (vals [] t) H | false => (fun _ _ _ => none) q t H) q t H) q t H) (retK P 12) (mkT (nT P 12) [0, 1, 5, 6, 7, 8] [x176, x177, x178, x179, x180, x181]) h182 = bl_outriderlaw12_same1 J G cf j13 j22 j174 j175 x176 x177 x178 x179 x180 x181 h182 := by kernel_rfl

theorem dl_outriderlaw12_same1 (J : JT) (G : GT) (cf : CF) (j13 : K.Fn 0) (j22 : K.Fn 3) (j174 : K.Fn 3) : l_outriderlaw12_same1 J G cf j13 j22 j174 = loopF P J G cf (nT P 12) (atC P 12 [1, 1, 0, 1, 0, 0, 1, 0, 0, 1, 1, 1, 0, 0]) al_outriderlaw12_same1 [0, 1, 5, 6, 7, 8] (fun q t H => match Nat.beq q 2 with | true => app 3 j174 (vals [0, 1, 5] t) H | false => (fun q t H => match Nat.beq q 1 with | true => app 3 j22 (vals [0, 1, 5] t) H | false => (fun q t H => match Nat.beq q 0 with | true => app 0 j13 (vals [] t) H | false => (fun _ _ _ => none) q t H) q t H) q t H) (retK P 12) := by
  unfold l_outriderlaw12_same1 loopF
  refine congrArg (LP 6) ?_
  funext j175 x176 x177 x178 x179 x180 x181 h182
  exact (rl_outriderlaw12_same1 J G cf j13 j22 j174 j175 x176 x177 x178 x179 x180 x181 h182).symm

theorem ql_outriderlaw12_same1 (cf : CF) (j13 : K.Fn 0) (j22 : K.Fn 3) (j174 : K.Fn 3) (x176 x177 x178 x179 x180 x181 : AV) (h182 : Hp) : l_outriderlaw12_same1 JN GO cf j13 j22 j174 x176 x177 x178 x179 x180 x181 h182 = bl_outriderlaw12_same1 JN GO cf j13 j22 j174 (l_outriderlaw12_same1 JN GO cf j13 j22 j174) x176 x177 x178 x179 x180 x181 h182 := by
  have h1 : l_outriderlaw12_same1 JN GO cf j13 j22 j174 x176 x177 x178 x179 x180 x181 h182 = app 6 (loopF P JN GO cf (nT P 12) (atC P 12 [1, 1, 0, 1, 0, 0, 1, 0, 0, 1, 1, 1, 0, 0]) al_outriderlaw12_same1 [0, 1, 5, 6, 7, 8] (fun q t H => match Nat.beq q 2 with | true => app 3 j174 (vals [0, 1, 5] t) H | false => (fun q t H => match Nat.beq q 1 with | true => app 3 j22 (vals [0, 1, 5] t) H | false => (fun q t H => match Nat.beq q 0 with | true => app 0 j13 (vals [] t) H | false => (fun _ _ _ => none) q t H) q t H) q t H) (retK P 12)) [x176, x177, x178, x179, x180, x181] h182 := by rw [dl_outriderlaw12_same1]; kernel_rfl
  refine h1.trans ((loopF_eq (P := P) cf (nT P 12) (atC P 12 [1, 1, 0, 1, 0, 0, 1, 0, 0, 1, 1, 1, 0, 0]) al_outriderlaw12_same1 [0, 1, 5, 6, 7, 8] (fun q t H => match Nat.beq q 2 with | true => app 3 j174 (vals [0, 1, 5] t) H | false => (fun q t H => match Nat.beq q 1 with | true => app 3 j22 (vals [0, 1, 5] t) H | false => (fun q t H => match Nat.beq q 0 with | true => app 0 j13 (vals [] t) H | false => (fun _ _ _ => none) q t H) q t H) q t H) (retK P 12) [x176, x177, x178, x179, x180, x181] rfl h182).trans ((rl_outriderlaw12_same1 JN GO cf j13 j22 j174 _ x176 x177 x178 x179 x180 x181 h182).trans ?_))
  rw [dl_outriderlaw12_same1]

def al_outriderlaw12_same : An := (.sq none (.sq none .nl (.cd .nl .nl)) (.sq (some [0, 1, 5]) (.bl (some [0, 1, 5]) (.sq (some [0, 1, 5, 6, 7]) .nl (.sq (some [0, 1, 5, 6, 7]) (.sq (some [0, 1, 5, 6, 7, 69]) .nl (.cd (.sq none .nl .nl) .nl)) (.sq none .nl (.bl (some [0, 1, 5]) (.lp [0, 1, 5, 6, 7, 8] (.sq (some [0, 1, 5, 6, 7, 8]) (.sq (some [0, 1, 5, 6, 7, 8, 74]) .nl (.cd .nl .nl)) (.sq (some [0, 1, 5, 6, 7, 8]) (.bl none (.sq (some [0, 1, 5, 6, 7, 8, 87]) .nl (.cd (.sq none .nl .nl) .nl))) .nl)))))))) .nl))

noncomputable def bl_outriderlaw12_same (J : JT) (G : GT) (cf : CF) (j13 : K.Fn 0) (j14 : K.Fn 3) (x15 x16 x17 : AV) (h18 : Hp) : R :=
 B1 (lenx x15) fun v19 =>
 B1 (ilt x17 v19) fun v20 =>
 CD v20 (
 J 3 (fun j21 =>
 J 3 (fun j22 =>
 J 5 (fun j23 =>
 B1 (ia 6 x15 x17) fun v24 =>
 B1 (lda 6 v24 h18) fun v25 =>
 B1 (ia 6 x16 x17) fun v26 =>
 B1 (lda 6 v26 h18) fun v27 =>
 BN (newCells h18 [(.str []), .slice0, (.int .i64 0), (.int .i64 0), (.int .i64 0), (.str [])] 79 0) fun i28 h29 =>
 BN (newCells h29 [(.str []), .slice0, (.int .i64 0), (.int .i64 0), (.int .i64 0), (.str [])] 79 0) fun i30 h31 =>
 B1 (st 6 (.ptr i28 0) v25 h31) fun h32 =>
 B1 (st 6 (.ptr i30 0) v27 h32) fun h33 =>
 B1 (lda 6 v26 h32) fun v34 =>
 SM v27 v34 <|
 j23 x15 x16 x17 (.ptr i28 0) (.ptr i30 0) h33) (fun x35 x36 x37 x38 x39 h40 =>
 J 5 (fun j41 =>
 J 6 (fun j42 =>
 B1 (fa 0 x38) fun v43 =>
 B1 (ld v43 h40) fun v44 =>
 B1 (fa 0 x39) fun v45 =>
 B1 (ld v45 h40) fun v46 =>
 B1 (sne v44 v46) fun v47 =>
 G v47 false (fun k48 =>
 B1 (fa 2 x38) fun v49 =>
 k48 v49 h40) (fun v50 h51 =>
 G v47 false (fun k52 =>
 B1 (ld v50 h51) fun v53 =>
 k52 v53 h51) (fun v54 h55 =>
 G v47 false (fun k56 =>
 B1 (fa 2 x39) fun v57 =>
 k56 v57 h55) (fun v58 h59 =>
 G v47 false (fun k60 =>
 B1 (ld v58 h59) fun v61 =>
 k60 v61 h59) (fun v62 h63 =>
 G v47 false (fun k64 =>
 B1 (ine v54 v62) fun v65 =>
 k64 v65 h63) (fun v66 h67 =>
 B1 (pk v47 (.bool true) v66) fun v68 =>
 G v68 false (fun k69 =>
 B1 (fa 3 x38) fun v70 =>
 k69 v70 h67) (fun v71 h72 =>
 G v68 false (fun k73 =>
 B1 (ld v71 h72) fun v74 =>
 k73 v74 h72) (fun v75 h76 =>
 G v68 false (fun k77 =>
 B1 (fa 3 x39) fun v78 =>
 k77 v78 h76) (fun v79 h80 =>
 G v68 false (fun k81 =>
 B1 (ld v79 h80) fun v82 =>
 k81 v82 h80) (fun v83 h84 =>
 G v68 false (fun k85 =>
 B1 (ine v75 v83) fun v86 =>
 k85 v86 h84) (fun v87 h88 =>
 B1 (pk v68 (.bool true) v87) fun v89 =>
 G v89 false (fun k90 =>
 B1 (fa 4 x38) fun v91 =>
 k90 v91 h88) (fun v92 h93 =>
 G v89 false (fun k94 =>
 B1 (ld v92 h93) fun v95 =>
 k94 v95 h93) (fun v96 h97 =>
 G v89 false (fun k98 =>
 B1 (fa 4 x39) fun v99 =>
 k98 v99 h97) (fun v100 h101 =>
 G v89 false (fun k102 =>
 B1 (ld v100 h101) fun v103 =>
 k102 v103 h101) (fun v104 h105 =>
 G v89 false (fun k106 =>
 B1 (ine v96 v104) fun v107 =>
 k106 v107 h105) (fun v108 h109 =>
 B1 (pk v89 (.bool true) v108) fun v110 =>
 G v110 false (fun k111 =>
 B1 (fa 5 x38) fun v112 =>
 k111 v112 h109) (fun v113 h114 =>
 G v110 false (fun k115 =>
 B1 (ld v113 h114) fun v116 =>
 k115 v116 h114) (fun v117 h118 =>
 G v110 false (fun k119 =>
 B1 (fa 5 x39) fun v120 =>
 k119 v120 h118) (fun v121 h122 =>
 G v110 false (fun k123 =>
 B1 (ld v121 h122) fun v124 =>
 k123 v124 h122) (fun v125 h126 =>
 G v110 false (fun k127 =>
 B1 (sne v117 v125) fun v128 =>
 k127 v128 h126) (fun v129 h130 =>
 B1 (pk v110 (.bool true) v129) fun v131 =>
 G v131 false (fun k132 =>
 B1 (fa 1 x38) fun v133 =>
 k132 v133 h130) (fun v134 h135 =>
 G v131 false (fun k136 =>
 B1 (ld v134 h135) fun v137 =>
 k136 v137 h135) (fun v138 h139 =>
 G v131 false (fun k140 =>
 B1 (lenx v138) fun v141 =>
 k140 v141 h139) (fun v142 h143 =>
 G v131 false (fun k144 =>
 B1 (fa 1 x39) fun v145 =>
 k144 v145 h143) (fun v146 h147 =>
 G v131 false (fun k148 =>
 B1 (ld v146 h147) fun v149 =>
 k148 v149 h147) (fun v150 h151 =>
 G v131 false (fun k152 =>
 B1 (lenx v150) fun v153 =>
 k152 v153 h151) (fun v154 h155 =>
 G v131 false (fun k156 =>
 B1 (ine v142 v154) fun v157 =>
 k156 v157 h155) (fun v158 h159 =>
 B1 (pk v131 (.bool true) v158) fun v160 =>
 j42 x35 x36 x37 x38 x39 v160 h159) h155) h151) h147) h143) h139) h135) h130) h126) h122) h118) h114) h109) h105) h101) h97) h93) h88) h84) h80) h76) h72) h67) h63) h59) h55) h51) h40) (fun x161 x162 x163 x164 x165 x166 h167 =>
 CD x166 (
 some ((.bool false), h167)) (
 j41 x161 x162 x163 x164 x165 h167))) (fun x168 x169 x170 x171 x172 h173 =>
 J 3 (fun j174 =>
 l_outriderlaw12_same1 J G cf j13 j22 j174 x168 x169 x170 x171 x172 (.int .i64 0) h173) (fun x231 x232 x233 h234 =>
 j22 x231 x232 x233 h234)))) (fun x235 x236 x237 h238 =>
 j21 x235 x236 x237 h238)) (fun x239 x240 x241 h242 =>
 B1 (iadd x241 (.int .i64 1)) fun v243 =>
 j14 x239 x240 v243 h242)) (
 j13  h18)

noncomputable def l_outriderlaw12_same (J : JT) (G : GT) (cf : CF) (j13 : K.Fn 0) : K.Fn 3 := LP 3 fun j14 => fun x15 x16 x17 h18 => bl_outriderlaw12_same J G cf j13 j14 x15 x16 x17 h18

theorem rl_outriderlaw12_same (J : JT) (G : GT) (cf : CF) (j13 : K.Fn 0) (j14 : K.Fn 3) (x15 x16 x17 : AV) (h18 : Hp) : codeF P J G cf (nT P 12) (atC P 12 [1, 1, 0, 1, 0, 0]) al_outriderlaw12_same (fun t H => app 3 j14 (vals [0, 1, 5] t) H) (fun q t H => match Nat.beq q 0 with | true => app 0 j13 (vals [] t) H | false => (fun _ _ _ => none) q t H) (retK P 12) (mkT (nT P 12) [0, 1, 5] [x15, x16, x17]) h18 = bl_outriderlaw12_same J G cf j13 j14 x15 x16 x17 h18 := by kernel_rfl

theorem dl_outriderlaw12_same (J : JT) (G : GT) (cf : CF) (j13 : K.Fn 0) : l_outriderlaw12_same J G cf j13 = loopF P J G cf (nT P 12) (atC P 12 [1, 1, 0, 1, 0, 0]) al_outriderlaw12_same [0, 1, 5] (fun q t H => match Nat.beq q 0 with | true => app 0 j13 (vals [] t) H | false => (fun _ _ _ => none) q t H) (retK P 12) := by
  unfold l_outriderlaw12_same loopF
  refine congrArg (LP 3) ?_
  funext j14 x15 x16 x17 h18
  exact (rl_outriderlaw12_same J G cf j13 j14 x15 x16 x17 h18).symm

theorem ql_outriderlaw12_same (cf : CF) (j13 : K.Fn 0) (x15 x16 x17 : AV) (h18 : Hp) : l_outriderlaw12_same JN GO cf j13 x15 x16 x17 h18 = bl_outriderlaw12_same JN GO cf j13 (l_outriderlaw12_same JN GO cf j13) x15 x16 x17 h18 := by
  have h1 : l_outriderlaw12_same JN GO cf j13 x15 x16 x17 h18 = app 3 (loopF P JN GO cf (nT P 12) (atC P 12 [1, 1, 0, 1, 0, 0]) al_outriderlaw12_same [0, 1, 5] (fun q t H => match Nat.beq q 0 with | true => app 0 j13 (vals [] t) H | false => (fun _ _ _ => none) q t H) (retK P 12)) [x15, x16, x17] h18 := by rw [dl_outriderlaw12_same]; kernel_rfl
  refine h1.trans ((loopF_eq (P := P) cf (nT P 12) (atC P 12 [1, 1, 0, 1, 0, 0]) al_outriderlaw12_same [0, 1, 5] (fun q t H => match Nat.beq q 0 with | true => app 0 j13 (vals [] t) H | false => (fun _ _ _ => none) q t H) (retK P 12) [x15, x16, x17] rfl h18).trans ((rl_outriderlaw12_same JN GO cf j13 _ x15 x16 x17 h18).trans ?_))
  rw [dl_outriderlaw12_same]

noncomputable def s_outriderlaw12_same (J : JT) (G : GT) (cf : CF) (a0 a1 : AV) (H : Hp) : R :=
 J 2 (fun j0 =>
 J 3 (fun j1 =>
 B1 (lenx a0) fun v2 =>
 B1 (lenx a1) fun v3 =>
 B1 (ine v2 v3) fun v4 =>
 j1 a0 a1 v4 H) (fun x5 x6 x7 h8 =>
 CD x7 (
 some ((.bool false), h8)) (
 j0 x5 x6 h8))) (fun x9 x10 h11 =>
 J 0 (fun j12 =>
 J 0 (fun j13 =>
 l_outriderlaw12_same J G cf j13 x9 x10 (.int .i64 0) h11) (fun  h244 =>
 j12  h244)) (fun  h245 =>
 some ((.bool true), h245)))

theorem e_outriderlaw12_same (J : JT) (G : GT) (cf : CF) (a0 a1 : AV) (H : Hp) : callF P J G prim an cf 12 [a0, a1] H = s_outriderlaw12_same J G cf a0 a1 H := by kernel_rfl

theorem c_outriderlaw12_same {a0 a1 : AV} {H : Hp} {r : AV × Hp} (h : s_outriderlaw12_same JN GO cK a0 a1 H = some r) : cK (.func (.func 12) [] []) [a0, a1] H = some r := callF_fix (first := []) (cap := []) ((e_outriderlaw12_same JN GO _ a0 a1 H).trans h)

def al_outriderlaw12_defOf : An := (.sq (some [1, 3, 4]) (.sq (some [1, 3, 4, 10]) .nl (.cd .nl .nl)) (.sq (some [1, 3, 4]) (.bl none (.sq (some [1, 3, 4, 5]) .nl .nl)) .nl))

noncomputable def bl_outriderlaw12_defOf (J : JT) (G : GT) (cf : CF) (j3 : K.Fn 1) (j4 : K.Fn 3) (x5 x6 x7 : AV) (h8 : Hp) : R :=
 J 3 (fun j9 =>
 J 4 (fun j10 =>
 B1 (fa 0 x5) fun v11 =>
 B1 (ld v11 h8) fun v12 =>
 B1 (lenx v12) fun v13 =>
 B1 (ilt x7 v13) fun v14 =>
 j10 x5 x6 x7 v14 h8) (fun x15 x16 x17 x18 h19 =>
 CD x18 (
 j9 x15 x16 x17 h19) (
 j3 x16 h19))) (fun x20 x21 x22 h23 =>
 J 3 (fun j24 =>
 J 4 (fun j25 =>
 B1 (fa 0 x20) fun v26 =>
 B1 (ld v26 h23) fun v27 =>
 B1 (ia 6 v27 x22) fun v28 =>
 B1 (lda 6 v28 h23) fun v29 =>
 BN (newCells h23 [(.str []), .slice0, (.int .i64 0), (.int .i64 0), (.int .i64 0), (.str [])] 43 0) fun i30 h31 =>
 B1 (st 6 (.ptr i30 0) v29 h31) fun h32 =>
 j25 x20 x21 x22 (.ptr i30 0) h32) (fun x33 x34 x35 x36 h37 =>
 B1 (fa 0 x36) fun v38 =>
 B1 (ld v38 h37) fun v39 =>
 B1 (fa 1 x36) fun v40 =>
 B1 (ld v40 h37) fun v41 =>
 B1 (fa 2 x36) fun v42 =>
 B1 (ld v42 h37) fun v43 =>
 B1 (fa 3 x36) fun v44 =>
 B1 (ld v44 h37) fun v45 =>
 B1 (fa 4 x36) fun v46 =>
 B1 (ld v46 h37) fun v47 =>
 B1 (fa 5 x36) fun v48 =>
 B1 (ld v48 h37) fun v49 =>
 B1 (fl [(.str []), .slice0, (.int .i64 0), (.int .i64 0), (.int .i64 0), (.str [])] [(0, 1, v39), (1, 1, v41), (2, 1, v43), (3, 1, v45), (4, 1, v47), (5, 1, v49)]) fun l50 =>
 B1 (fl [(.str []), .slice0, (.int .i64 0), (.int .i64 0), (.int .i64 0), (.str [])] [(0, 6, (.agg l50))]) fun l51 =>
 BN (newCells h37 l51 79 0) fun i52 h53 =>
 B2 (app' 79 6 [(.str []), .slice0, (.int .i64 0), (.int .i64 0), (.int .i64 0), (.str [])] false x34 (.slice i52 0 1 1 true 6) h53) fun v54 h55 =>
 j24 x33 v54 x35 h55)) (fun x56 x57 x58 h59 =>
 B1 (iadd x58 (.int .i64 1)) fun v60 =>
 j4 x56 x57 v60 h59))

noncomputable def l_outriderlaw12_defOf (J : JT) (G : GT) (cf : CF) (j3 : K.Fn 1) : K.Fn 3 := LP 3 fun j4 => fun x5 x6 x7 h8 => bl_outriderlaw12_defOf J G cf j3 j4 x5 x6 x7 h8

theorem rl_outriderlaw12_defOf (J : JT) (G : GT) (cf : CF) (j3 : K.Fn 1) (j4 : K.Fn 3) (x5 x6 x7 : AV) (h8 : Hp) : codeF P J G cf (nT P 13) (atC P 13 [1, 1, 0, 1, 0, 0]) al_outriderlaw12_defOf (fun t H => app 3 j4 (vals [1, 3, 4] t) H) (fun q t H => match Nat.beq q 0 with | true => app 1 j3 (vals [3] t) H | false => (fun _ _ _ => none) q t H) (retK P 13) (mkT (nT P 13) [1, 3, 4] [x5, x6, x7]) h8 = bl_outriderlaw12_defOf J G cf j3 j4 x5 x6 x7 h8 := by kernel_rfl

theorem dl_outriderlaw12_defOf (J : JT) (G : GT) (cf : CF) (j3 : K.Fn 1) : l_outriderlaw12_defOf J G cf j3 = loopF P J G cf (nT P 13) (atC P 13 [1, 1, 0, 1, 0, 0]) al_outriderlaw12_defOf [1, 3, 4] (fun q t H => match Nat.beq q 0 with | true => app 1 j3 (vals [3] t) H | false => (fun _ _ _ => none) q t H) (retK P 13) := by
  unfold l_outriderlaw12_defOf loopF
  refine congrArg (LP 3) ?_
  funext j4 x5 x6 x7 h8
  exact (rl_outriderlaw12_defOf J G cf j3 j4 x5 x6 x7 h8).symm

theorem ql_outriderlaw12_defOf (cf : CF) (j3 : K.Fn 1) (x5 x6 x7 : AV) (h8 : Hp) : l_outriderlaw12_defOf JN GO cf j3 x5 x6 x7 h8 = bl_outriderlaw12_defOf JN GO cf j3 (l_outriderlaw12_defOf JN GO cf j3) x5 x6 x7 h8 := by
  have h1 : l_outriderlaw12_defOf JN GO cf j3 x5 x6 x7 h8 = app 3 (loopF P JN GO cf (nT P 13) (atC P 13 [1, 1, 0, 1, 0, 0]) al_outriderlaw12_defOf [1, 3, 4] (fun q t H => match Nat.beq q 0 with | true => app 1 j3 (vals [3] t) H | false => (fun _ _ _ => none) q t H) (retK P 13)) [x5, x6, x7] h8 := by rw [dl_outriderlaw12_defOf]; kernel_rfl
  refine h1.trans ((loopF_eq (P := P) cf (nT P 13) (atC P 13 [1, 1, 0, 1, 0, 0]) al_outriderlaw12_defOf [1, 3, 4] (fun q t H => match Nat.beq q 0 with | true => app 1 j3 (vals [3] t) H | false => (fun _ _ _ => none) q t H) (retK P 13) [x5, x6, x7] rfl h8).trans ((rl_outriderlaw12_defOf JN GO cf j3 _ x5 x6 x7 h8).trans ?_))
  rw [dl_outriderlaw12_defOf]

noncomputable def s_outriderlaw12_defOf (J : JT) (G : GT) (cf : CF) (a0 : AV) (H : Hp) : R :=
 BN (bx 25 a0 H) fun i0 h1 =>
 J 1 (fun j2 =>
 J 1 (fun j3 =>
 l_outriderlaw12_defOf J G cf j3 (.ptr i0 0) .slice0 (.int .i64 0) h1) (fun x61 h62 =>
 j2 x61 h62)) (fun x63 h64 =>
 some (x63, h64))

theorem e_outriderlaw12_defOf (J : JT) (G : GT) (cf : CF) (a0 : AV) (H : Hp) : callF P J G prim an cf 13 [a0] H = s_outriderlaw12_defOf J G cf a0 H := by kernel_rfl

theorem c_outriderlaw12_defOf {a0 : AV} {H : Hp} {r : AV × Hp} (h : s_outriderlaw12_defOf JN GO cK a0 H = some r) : cK (.func (.func 13) [] []) [a0] H = some r := callF_fix (first := []) (cap := []) ((e_outriderlaw12_defOf JN GO _ a0 H).trans h)

end
end Go.Proofs.YthljbjokonglhaaGreatDoor.DfK
