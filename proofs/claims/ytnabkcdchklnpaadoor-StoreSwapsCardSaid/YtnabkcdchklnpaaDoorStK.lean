/- Plain forms of functions, printed by a program of our own, and that the evaluator's reading of each is its plain form (of no conditions). -/
import Derived.Test.YtnabkcdchklnpaaDoorStEnv
namespace Go.Proofs.YtnabkcdchklnpaaDoor.StK
open Go Am Am.K StEnv
set_option linter.unusedVariables false
set_option maxRecDepth 100000
noncomputable section
noncomputable abbrev P : Program := Tryd.prog
noncomputable def an (g : Nat) : An :=
  bif Nat.beq g 10 then (.sq none .nl (.sq (some [0]) (.sq (some [0, 9]) .nl (.cd (.sq none .nl .nl) .nl)) (.sq none .nl .nl))) else
  bif Nat.beq g 40 then (.sq none .nl (.sq none .nl .nl)) else
  bif Nat.beq g 36 then (.sq none .nl (.sq (some [0, 1, 6]) .nl (.sq (some [6]) (.bl none (.sq (some [1, 6, 13]) .nl (.cd (.sq none .nl .nl) (.sq none .nl (.cd (.sq none .nl .nl) (.sq none .nl (.cd (.sq none .nl .nl) .nl))))))) (.sq none .nl .nl)))) else
  bif Nat.beq g 37 then (.sq none .nl (.sq (some [0]) (.sq (some [0, 7]) .nl (.cd (.sq none .nl .nl) .nl)) (.sq (some [0]) .nl (.sq (some [0]) (.sq (some [0, 19]) .nl (.cd (.sq none .nl .nl) .nl)) (.sq (some []) .nl (.sq none .nl .nl)))))) else
  bif Nat.beq g 11 then (.sq none .nl (.sq (some [0, 1, 2, 7, 8]) .nl (.sq (some [0, 1, 2, 7]) (.bl none (.sq (some [0, 1, 2, 7, 8, 15]) .nl (.cd (.sq none .nl .nl) (.sq (some [0, 1, 2, 7, 23]) .nl (.cd (.sq none .nl .nl) (.sq none .nl (.cd (.sq none .nl .nl) .nl))))))) (.sq (some [2, 7]) (.sq none .nl (.cd (.sq none .nl .nl) .nl)) (.sq (some []) .nl (.sq none .nl .nl)))))) else
  bif Nat.beq g 12 then (.sq none .nl (.sq (some [0, 5, 6]) .nl (.sq (some [5]) (.bl none (.sq none .nl (.cd (.sq none .nl .nl) (.sq none .nl (.cd (.sq none .nl .nl) .nl))))) (.sq (some []) .nl (.sq none .nl .nl))))) else
  bif Nat.beq g 18 then (.sq none .nl (.sq (some [0, 2, 7, 8]) .nl (.sq (some [2, 7]) (.bl none (.sq none .nl (.cd (.sq none .nl .nl) (.sq (some [0, 2, 7, 19]) .nl (.cd (.sq none .nl .nl) (.sq none .nl (.cd (.sq none .nl .nl) .nl))))))) (.sq (some [2, 7]) .nl (.sq (some []) .nl (.sq none .nl .nl)))))) else
  bif Nat.beq g 21 then (.sq none .nl (.sq (some [0, 1, 6]) .nl (.sq (some [0, 1]) (.bl none (.sq none .nl (.cd (.sq none .nl .nl) (.sq none .nl (.cd (.sq none .nl .nl) .nl))))) (.sq (some []) .nl (.sq none .nl .nl))))) else
  bif Nat.beq g 20 then (.sq none .nl (.sq (some [0, 1, 2, 7, 8]) .nl (.sq (some [0, 1, 2, 7]) (.bl none (.sq none .nl (.cd (.sq none .nl .nl) (.sq none .nl (.cd (.sq none .nl .nl) (.sq none .nl (.cd (.sq none .nl .nl) (.sq none .nl (.cd (.sq none .nl .nl) .nl))))))))) (.sq (some [0, 1, 2, 7]) .nl (.sq (some [0, 2, 7]) .nl (.sq (some []) .nl (.sq none .nl .nl))))))) else
  bif Nat.beq g 15 then (.sq none .nl (.sq (some [6, 7]) .nl (.sq (some [6]) (.sq none .nl (.cd (.sq none .nl .nl) .nl)) (.sq none .nl .nl)))) else
  bif Nat.beq g 16 then (.sq none .nl (.sq (some []) (.sq (some [5]) .nl (.sq none .nl (.cd (.sq none .nl .nl) .nl))) (.sq none .nl .nl))) else
  bif Nat.beq g 13 then (.sq none (.sq none .nl (.cd .nl .nl)) (.sq (some [0]) (.sq none .nl (.bl (some [0]) (.lp [0, 1, 14, 15, 16] (.sq none .nl (.sq none (.cd .nl .nl) (.sq (some [0, 1, 14, 15, 16]) (.bl (some [0, 1, 14, 15, 16]) (.sq none .nl (.sq (some [0, 1, 6, 14, 15, 16]) .nl (.sq (some [0, 1, 6, 7, 14, 15, 16]) .nl (.sq none (.sq none .nl (.cd .nl .nl)) (.sq none .nl (.sq (some [0, 1, 6, 8, 14, 15, 16]) (.sq none .nl (.cd (.sq (some [0, 1, 6, 8, 14, 15, 16]) .nl .nl) .nl)) (.sq (some [0, 1, 6, 14, 15, 16]) .nl .nl)))))))) .nl)))))) (.sq none .nl .nl))) else
  bif Nat.beq g 14 then .nl else
  bif Nat.beq g 23 then (.sq none .nl (.sq none .nl .nl)) else
  bif Nat.beq g 19 then (.sq none (.sq none .nl (.cd .nl .nl)) (.sq (some [0, 2]) .nl .nl)) else
  bif Nat.beq g 38 then (.sq none .nl (.sq none (.sq none .nl (.cd (.sq none .nl .nl) .nl)) (.sq none .nl .nl))) else
  bif Nat.beq g 39 then (.sq none .nl (.sq none (.sq none .nl (.cd (.sq none .nl .nl) .nl)) (.sq none .nl .nl))) else
  bif Nat.beq g 3 then (.sq none .nl (.sq none (.sq none .nl (.cd (.sq none .nl .nl) .nl)) (.sq (some [0, 1, 2]) (.sq (some [0, 1, 2, 21]) .nl (.cd (.sq none .nl .nl) .nl)) (.sq (some [0, 1, 2, 7]) .nl (.sq (some [0, 1, 2, 7]) (.sq (some [0, 1, 2, 7, 44]) .nl (.cd (.sq none .nl .nl) .nl)) (.sq none .nl (.sq none .nl (.sq (some [0, 1, 2, 7, 9, 10]) .nl (.sq none .nl (.sq (some [0, 1, 7, 9, 10, 11]) (.sq none .nl (.cd .nl .nl)) (.sq (some [0, 1, 7, 9, 10, 11]) (.sq none .nl (.cd .nl .nl)) (.sq none .nl .nl)))))))))))) else
  bif Nat.beq g 4 then (.sq none .nl (.sq none (.sq none .nl (.cd (.sq none .nl .nl) .nl)) (.sq (some [0, 1]) (.sq (some [0, 1, 24]) .nl (.cd (.sq none .nl .nl) .nl)) (.sq (some [0, 1, 5]) .nl (.sq none (.sq none .nl (.cd (.sq none .nl .nl) .nl)) (.sq none .nl (.sq (some [1, 5, 7]) (.sq none .nl (.bl (some [1, 5, 7]) (.lp [0, 1, 5, 7, 8] (.sq none (.sq none .nl (.cd .nl .nl)) (.sq (some [0, 1, 5, 7, 8]) (.bl none (.sq (some [0, 1, 5, 7, 8]) (.sq (some [0, 1, 5, 7, 8, 43]) .nl (.cd (.sq none .nl .nl) .nl)) (.sq (some [0, 1, 5, 7, 8, 9]) .nl (.sq (some [0, 1, 5, 7, 8, 9]) (.sq (some [0, 1, 5, 7, 8, 9, 61]) .nl (.cd (.sq none .nl .nl) .nl)) (.sq (some [0, 1, 5, 7, 8]) (.sq none .nl (.cd .nl .nl)) (.sq (some [0, 1, 5, 7, 8, 76]) .nl (.cd (.sq none .nl .nl) .nl))))))) .nl))))) (.sq (some [1, 7, 10, 11]) .nl (.sq none .nl .nl))))))))) else
  bif Nat.beq g 5 then (.sq none .nl (.sq none (.sq none .nl (.cd (.sq none .nl .nl) .nl)) (.sq (some [0, 1, 2]) (.sq (some [0, 1, 2, 32]) .nl (.cd (.sq none .nl .nl) .nl)) (.sq (some [0, 1, 2, 7]) .nl (.sq (some [0, 1, 2, 7]) (.sq (some [0, 1, 2, 7, 61]) .nl (.cd (.sq none .nl .nl) .nl)) (.sq (some [0, 1, 2, 7, 9, 10]) .nl (.sq none .nl (.sq none .nl (.sq (some [0, 1, 2, 9, 10, 11, 12]) .nl (.sq none .nl .nl)))))))))) else
  bif Nat.beq g 6 then (.sq none .nl (.sq none (.sq none .nl (.cd (.sq none .nl .nl) .nl)) (.sq (some [0, 1, 2, 3]) (.sq (some [0, 1, 2, 3, 32]) .nl (.cd (.sq none .nl .nl) .nl)) (.sq (some [0, 1, 2, 3, 9]) .nl (.sq (some [0, 1, 2, 3, 9]) (.sq (some [0, 1, 2, 3, 9, 49]) .nl (.cd (.sq none .nl .nl) .nl)) (.sq none .nl (.sq none .nl (.sq (some [0, 1, 3, 9, 11]) (.sq none .nl (.cd .nl .nl)) (.sq none .nl (.sq none .nl (.sq (some [0, 1, 11, 12, 13]) .nl (.sq none .nl .nl)))))))))))) else
  .nl
noncomputable abbrev cK : CF := CK P (regK P) ext prim an

noncomputable def s_store_New (J : JT) (G : GT) (cf : CF) (a0 : AV) (H : Hp) : R :=
 J 1 (fun j0 =>
 J 2 (fun j1 =>
 B1 (ilt a0 (.int .i64 1)) fun v2 =>
 G v2 false (fun k3 =>
 k3 a0 H) (fun v4 h5 =>
 G v2 false (fun k6 =>
 B1 (igt v4 (.int .i64 16777216)) fun v7 =>
 k6 v7 h5) (fun v8 h9 =>
 B1 (pk v2 (.bool true) v8) fun v10 =>
 j1 a0 v10 h9) h5) H) (fun x11 x12 h13 =>
 CD x12 (
 some (.tuple [.ptr0, (.int .i64 1)], h13)) (
 j0 x11 h13))) (fun x14 h15 =>
 BN (mk0 h15) fun i16 h17 =>
 B1 (fl [(.int .i64 0), .map0, (.bool false), (.int .i64 0), .slice0] [(0, 1, x14), (1, 1, (.map i16))]) fun l18 =>
 BN (bx 61 (.agg l18) h17) fun i19 h20 =>
 some (.tuple [(.ptr i19 0), (.int .i64 0)], h20))

theorem e_store_New (J : JT) (G : GT) (cf : CF) (a0 : AV) (H : Hp) : callF P J G prim an cf 10 [a0] H = s_store_New J G cf a0 H := by kernel_rfl

theorem c_store_New {a0 : AV} {H : Hp} {r : AV × Hp} (h : s_store_New JN GO cK a0 H = some r) : cK (.func (.func 10) [] []) [a0] H = some r := callF_fix (first := []) (cap := []) ((e_store_New JN GO _ a0 H).trans h)

noncomputable def s_store_name (J : JT) (G : GT) (cf : CF) (a0 : AV) (H : Hp) : R :=
 B1 (sne a0 (.str [])) fun v0 =>
 G v0 true (fun k1 =>
 k1 a0 H) (fun v2 h3 =>
 G v0 true (fun k4 =>
 B1 (lens v2) fun v5 =>
 k4 v5 h3) (fun v6 h7 =>
 G v0 true (fun k8 =>
 B1 (ile v6 (.int .i64 16)) fun v9 =>
 k8 v9 h7) (fun v10 h11 =>
 B1 (pk v0 v10 (.bool false)) fun v12 =>
 G v12 true (fun k13 =>
 k13 a0 h11) (fun v14 h15 =>
 G v12 true (fun k16 =>
 B2 (cf (.func (.func 48) [] []) [v14, (.str [97, 98, 99, 100, 101, 102, 103, 104, 105, 106, 107, 108, 109, 110, 111, 112, 113, 114, 115, 116, 117, 118, 119, 120, 121, 122, 48, 49, 50, 51, 52, 53, 54, 55, 56, 57, 45])] h15) fun v17 h18 =>
 k16 v17 h18) (fun v19 h20 =>
 G v12 true (fun k21 =>
 B1 (seq v19 (.str [])) fun v22 =>
 k21 v22 h20) (fun v23 h24 =>
 B1 (pk v12 v23 (.bool false)) fun v25 =>
 some (v25, h24)) h20) h15) h11) h7) h3) H

theorem e_store_name (J : JT) (G : GT) (cf : CF) (a0 : AV) (H : Hp) : callF P J G prim an cf 40 [a0] H = s_store_name J G cf a0 H := by kernel_rfl

theorem c_store_name {a0 : AV} {H : Hp} {r : AV × Hp} (h : s_store_name JN GO cK a0 H = some r) : cK (.func (.func 40) [] []) [a0] H = some r := callF_fix (first := []) (cap := []) ((e_store_name JN GO _ a0 H).trans h)

noncomputable def s_store_Store_of (J : JT) (G : GT) (cf : CF) (a0 a1 : AV) (H : Hp) : R :=
 J 3 (fun j0 =>
 B1 (nilA a0) fun v1 =>
 B1 (fa 1 v1) fun v2 =>
 B1 (ld v2 H) fun v3 =>
 B1 (lkp .str .ptr0 false v3 a1 H) fun v4 =>
 j0 a0 a1 v4 H) (fun x5 x6 x7 h8 =>
 J 1 (fun j9 =>
 J 3 (fun j10 =>
 B1 (nilA x5) fun v11 =>
 B1 (fa 2 v11) fun v12 =>
 B1 (ld v12 h8) fun v13 =>
 j10 x6 x7 v13 h8) (fun x14 x15 x16 h17 =>
 CD x16 (
 some (.tuple [.ptr0, (.int .i64 11)], h17)) (
 B2 (cf (.func (.func 40) [] []) [x14] h17) fun v18 h19 =>
 B1 (unA .not v18) fun v20 =>
 CD v20 (
 some (.tuple [.ptr0, (.int .i64 1)], h19)) (
 B1 (eqB .eql (pe x15 .ptr0 h19)) fun v21 =>
 CD v21 (
 some (.tuple [.ptr0, (.int .i64 4)], h19)) (
 j9 x15 h19))))) (fun x22 h23 =>
 some (.tuple [x22, (.int .i64 0)], h23)))

theorem e_store_Store_of (J : JT) (G : GT) (cf : CF) (a0 a1 : AV) (H : Hp) : callF P J G prim an cf 36 [a0, a1] H = s_store_Store_of J G cf a0 a1 H := by kernel_rfl

theorem c_store_Store_of {a0 a1 : AV} {H : Hp} {r : AV × Hp} (h : s_store_Store_of JN GO cK a0 a1 H = some r) : cK (.func (.func 36) [] []) [a0, a1] H = some r := callF_fix (first := []) (cap := []) ((e_store_Store_of JN GO _ a0 a1 H).trans h)

noncomputable def s_store_Store_burn (J : JT) (G : GT) (cf : CF) (a0 : AV) (H : Hp) : R :=
 J 1 (fun j0 =>
 J 2 (fun j1 =>
 B1 (nilA a0) fun v2 =>
 B1 (fa 3 v2) fun v3 =>
 B1 (ld v3 H) fun v4 =>
 B1 (ieq v4 (.int .i64 0)) fun v5 =>
 j1 a0 v5 H) (fun x6 x7 h8 =>
 CD x7 (
 some ((.bool true), h8)) (
 j0 x6 h8))) (fun x9 h10 =>
 J 1 (fun j11 =>
 B1 (nilA x9) fun v12 =>
 B1 (fa 3 v12) fun v13 =>
 B1 (ld v13 h10) fun v14 =>
 B1 (isub v14 (.int .i64 1)) fun v15 =>
 B1 (nilA x9) fun v16 =>
 B1 (fa 3 v16) fun v17 =>
 B1 (st 1 v17 v15 h10) fun h18 =>
 j11 x9 h18) (fun x19 h20 =>
 J 1 (fun j21 =>
 J 2 (fun j22 =>
 B1 (nilA x19) fun v23 =>
 B1 (fa 3 v23) fun v24 =>
 B1 (ld v24 h20) fun v25 =>
 B1 (igt v25 (.int .i64 0)) fun v26 =>
 j22 x19 v26 h20) (fun x27 x28 h29 =>
 CD x28 (
 some ((.bool true), h29)) (
 j21 x27 h29))) (fun x30 h31 =>
 J 0 (fun j32 =>
 B1 (nilA x30) fun v33 =>
 B1 (fa 4 v33) fun v34 =>
 B1 (ld v34 h31) fun v35 =>
 B2 (cf (.func (.func 13) [] []) [x30, v35] h31) fun v36 h37 =>
 j32  h37) (fun  h38 =>
 some ((.bool false), h38)))))

theorem e_store_Store_burn (J : JT) (G : GT) (cf : CF) (a0 : AV) (H : Hp) : callF P J G prim an cf 37 [a0] H = s_store_Store_burn J G cf a0 H := by kernel_rfl

theorem c_store_Store_burn {a0 : AV} {H : Hp} {r : AV × Hp} (h : s_store_Store_burn JN GO cK a0 H = some r) : cK (.func (.func 37) [] []) [a0] H = some r := callF_fix (first := []) (cap := []) ((e_store_Store_burn JN GO _ a0 H).trans h)

noncomputable def s_store_Store_Append (J : JT) (G : GT) (cf : CF) (a0 a1 a2 : AV) (H : Hp) : R :=
 J 5 (fun j0 =>
 B2 (cf (.func (.func 36) [] []) [a0, a1] H) fun v1 h2 =>
 B1 (ex 0 v1) fun v3 =>
 B1 (ex 1 v1) fun v4 =>
 j0 a0 a1 a2 v3 v4 h2) (fun x5 x6 x7 x8 x9 h10 =>
 J 4 (fun j11 =>
 J 6 (fun j12 =>
 B1 (ine x9 (.int .i64 0)) fun v13 =>
 G v13 true (fun k14 =>
 k14 x9 h10) (fun v15 h16 =>
 G v13 true (fun k17 =>
 B1 (ine v15 (.int .i64 4)) fun v18 =>
 k17 v18 h16) (fun v19 h20 =>
 B1 (pk v13 v19 (.bool false)) fun v21 =>
 j12 x5 x6 x7 x8 x9 v21 h20) h16) h10) (fun x22 x23 x24 x25 x26 x27 h28 =>
 CD x27 (
 some (x26, h28)) (
 J 5 (fun j29 =>
 B1 (lenx x24) fun v30 =>
 B2 (cf (.func (.func 17) [] []) [x22] h28) fun v31 h32 =>
 B1 (igt v30 v31) fun v33 =>
 G v33 false (fun k34 =>
 k34 x25 h32) (fun v35 h36 =>
 G v33 false (fun k37 =>
 B1 (eqB .eql (pe v35 .ptr0 h36)) fun v38 =>
 k37 v38 h36) (fun v39 h40 =>
 G v33 false (fun k41 =>
 k41 v39 h40) (fun v42 h43 =>
 G v42 true (fun k44 =>
 k44 x22 h43) (fun v45 h46 =>
 G v42 true (fun k47 =>
 B1 (nilA v45) fun v48 =>
 k47 v48 h46) (fun v49 h50 =>
 G v42 true (fun k51 =>
 B1 (fa 1 v49) fun v52 =>
 k51 v52 h50) (fun v53 h54 =>
 G v42 true (fun k55 =>
 B1 (ld v53 h54) fun v56 =>
 k55 v56 h54) (fun v57 h58 =>
 G v42 true (fun k59 =>
 B1 (lenm v57 h58) fun v60 =>
 k59 v60 h58) (fun v61 h62 =>
 G v42 true (fun k63 =>
 B1 (ige v61 (.int .i64 64)) fun v64 =>
 k63 v64 h62) (fun v65 h66 =>
 G v33 false (fun k67 =>
 B1 (pk v42 v65 (.bool false)) fun v68 =>
 k67 v68 h66) (fun v69 h70 =>
 B1 (pk v33 (.bool true) v69) fun v71 =>
 j29 x22 x23 x24 x25 v71 h70) h66) h62) h58) h54) h50) h46) h43) h40) h36) h32) (fun x72 x73 x74 x75 x76 h77 =>
 CD x76 (
 some ((.int .i64 6), h77)) (
 B2 (cf (.func (.func 37) [] []) [x72] h77) fun v78 h79 =>
 B1 (unA .not v78) fun v80 =>
 CD v80 (
 some ((.int .i64 11), h79)) (
 j11 x72 x73 x74 x75 h79)))))) (fun x81 x82 x83 x84 h85 =>
 J 2 (fun j86 =>
 B1 (eqB .eql (pe x84 .ptr0 h85)) fun v87 =>
 CD v87 (
 B1 (fl [.slice0, (.int .i64 0)] []) fun l88 =>
 BN (bx 66 (.agg l88) h85) fun i89 h90 =>
 B1 (nilA x81) fun v91 =>
 B1 (fa 1 v91) fun v92 =>
 B1 (ld v92 h90) fun v93 =>
 B1 (mup .str v93 x82 (.ptr i89 0) h90) fun h94 =>
 j86 x83 (.ptr i89 0) h94) (
 j86 x83 x84 h85)) (fun x95 x96 h97 =>
 J 0 (fun j98 =>
 B1 (nilA x96) fun v99 =>
 B1 (fa 0 v99) fun v100 =>
 B1 (ld v100 h97) fun v101 =>
 B2 (app' 5 1 [(.int .u8 0)] false v101 x95 h97) fun v102 h103 =>
 B1 (nilA x96) fun v104 =>
 B1 (fa 0 v104) fun v105 =>
 B1 (st 1 v105 v102 h103) fun h106 =>
 j98  h106) (fun  h107 =>
 some ((.int .i64 0), h107)))))

theorem e_store_Store_Append (J : JT) (G : GT) (cf : CF) (a0 a1 a2 : AV) (H : Hp) : callF P J G prim an cf 11 [a0, a1, a2] H = s_store_Store_Append J G cf a0 a1 a2 H := by kernel_rfl

theorem c_store_Store_Append {a0 a1 a2 : AV} {H : Hp} {r : AV × Hp} (h : s_store_Store_Append JN GO cK a0 a1 a2 H = some r) : cK (.func (.func 11) [] []) [a0, a1, a2] H = some r := callF_fix (first := []) (cap := []) ((e_store_Store_Append JN GO _ a0 a1 a2 H).trans h)

noncomputable def s_store_Store_Sync (J : JT) (G : GT) (cf : CF) (a0 a1 : AV) (H : Hp) : R :=
 J 3 (fun j0 =>
 B2 (cf (.func (.func 36) [] []) [a0, a1] H) fun v1 h2 =>
 B1 (ex 0 v1) fun v3 =>
 B1 (ex 1 v1) fun v4 =>
 j0 a0 v3 v4 h2) (fun x5 x6 x7 h8 =>
 J 1 (fun j9 =>
 B1 (ine x7 (.int .i64 0)) fun v10 =>
 CD v10 (
 some (x7, h8)) (
 B2 (cf (.func (.func 37) [] []) [x5] h8) fun v11 h12 =>
 B1 (unA .not v11) fun v13 =>
 CD v13 (
 some ((.int .i64 11), h12)) (
 j9 x6 h12))) (fun x14 h15 =>
 J 0 (fun j16 =>
 B1 (nilA x14) fun v17 =>
 B1 (fa 0 v17) fun v18 =>
 B1 (ld v18 h15) fun v19 =>
 B1 (lenx v19) fun v20 =>
 B1 (nilA x14) fun v21 =>
 B1 (fa 1 v21) fun v22 =>
 B1 (st 1 v22 v20 h15) fun h23 =>
 j16  h23) (fun  h24 =>
 some ((.int .i64 0), h24))))

theorem e_store_Store_Sync (J : JT) (G : GT) (cf : CF) (a0 a1 : AV) (H : Hp) : callF P J G prim an cf 12 [a0, a1] H = s_store_Store_Sync J G cf a0 a1 H := by kernel_rfl

theorem c_store_Store_Sync {a0 a1 : AV} {H : Hp} {r : AV × Hp} (h : s_store_Store_Sync JN GO cK a0 a1 H = some r) : cK (.func (.func 12) [] []) [a0, a1] H = some r := callF_fix (first := []) (cap := []) ((e_store_Store_Sync JN GO _ a0 a1 H).trans h)

noncomputable def s_store_Store_Cut (J : JT) (G : GT) (cf : CF) (a0 a1 a2 : AV) (H : Hp) : R :=
 J 4 (fun j0 =>
 B2 (cf (.func (.func 36) [] []) [a0, a1] H) fun v1 h2 =>
 B1 (ex 0 v1) fun v3 =>
 B1 (ex 1 v1) fun v4 =>
 j0 a0 a2 v3 v4 h2) (fun x5 x6 x7 x8 h9 =>
 J 2 (fun j10 =>
 B1 (ine x8 (.int .i64 0)) fun v11 =>
 CD v11 (
 some (x8, h9)) (
 J 4 (fun j12 =>
 B1 (ilt x6 (.int .i64 0)) fun v13 =>
 G v13 false (fun k14 =>
 k14 x6 h9) (fun v15 h16 =>
 G v13 false (fun k17 =>
 k17 x7 h16) (fun v18 h19 =>
 G v13 false (fun k20 =>
 B1 (nilA v18) fun v21 =>
 k20 v21 h19) (fun v22 h23 =>
 G v13 false (fun k24 =>
 B1 (fa 0 v22) fun v25 =>
 k24 v25 h23) (fun v26 h27 =>
 G v13 false (fun k28 =>
 B1 (ld v26 h27) fun v29 =>
 k28 v29 h27) (fun v30 h31 =>
 G v13 false (fun k32 =>
 B1 (lenx v30) fun v33 =>
 k32 v33 h31) (fun v34 h35 =>
 G v13 false (fun k36 =>
 B1 (igt v15 v34) fun v37 =>
 k36 v37 h35) (fun v38 h39 =>
 B1 (pk v13 (.bool true) v38) fun v40 =>
 j12 x5 x6 x7 v40 h39) h35) h31) h27) h23) h19) h16) h9) (fun x41 x42 x43 x44 h45 =>
 CD x44 (
 some ((.int .i64 1), h45)) (
 B2 (cf (.func (.func 37) [] []) [x41] h45) fun v46 h47 =>
 B1 (unA .not v46) fun v48 =>
 CD v48 (
 some ((.int .i64 11), h47)) (
 j10 x42 x43 h47))))) (fun x49 x50 h51 =>
 J 2 (fun j52 =>
 B1 (nilA x50) fun v53 =>
 B1 (fa 0 v53) fun v54 =>
 B1 (ld v54 h51) fun v55 =>
 B1 (sll 1 v55 none (some x49) none) fun v56 =>
 B1 (nilA x50) fun v57 =>
 B1 (fa 0 v57) fun v58 =>
 B1 (st 1 v58 v56 h51) fun h59 =>
 j52 x49 x50 h59) (fun x60 x61 h62 =>
 J 0 (fun j63 =>
 B1 (nilA x61) fun v64 =>
 B1 (fa 1 v64) fun v65 =>
 B1 (ld v65 h62) fun v66 =>
 B2 (builtinA P .min #[3, 3] [v66, x60] h62) fun v67 h68 =>
 B1 (nilA x61) fun v69 =>
 B1 (fa 1 v69) fun v70 =>
 B1 (st 1 v70 v67 h68) fun h71 =>
 j63  h71) (fun  h72 =>
 some ((.int .i64 0), h72)))))

theorem e_store_Store_Cut (J : JT) (G : GT) (cf : CF) (a0 a1 a2 : AV) (H : Hp) : callF P J G prim an cf 18 [a0, a1, a2] H = s_store_Store_Cut J G cf a0 a1 a2 H := by kernel_rfl

theorem c_store_Store_Cut {a0 a1 a2 : AV} {H : Hp} {r : AV × Hp} (h : s_store_Store_Cut JN GO cK a0 a1 a2 H = some r) : cK (.func (.func 18) [] []) [a0, a1, a2] H = some r := callF_fix (first := []) (cap := []) ((e_store_Store_Cut JN GO _ a0 a1 a2 H).trans h)

noncomputable def s_store_Store_Drop (J : JT) (G : GT) (cf : CF) (a0 a1 : AV) (H : Hp) : R :=
 J 3 (fun j0 =>
 B2 (cf (.func (.func 36) [] []) [a0, a1] H) fun v1 h2 =>
 B1 (ex 0 v1) fun v3 =>
 B1 (ex 1 v1) fun v4 =>
 j0 a0 a1 v4 h2) (fun x5 x6 x7 h8 =>
 J 2 (fun j9 =>
 B1 (ine x7 (.int .i64 0)) fun v10 =>
 CD v10 (
 some (x7, h8)) (
 B2 (cf (.func (.func 37) [] []) [x5] h8) fun v11 h12 =>
 B1 (unA .not v11) fun v13 =>
 CD v13 (
 some ((.int .i64 11), h12)) (
 j9 x5 x6 h12))) (fun x14 x15 h16 =>
 J 0 (fun j17 =>
 B1 (nilA x14) fun v18 =>
 B1 (fa 1 v18) fun v19 =>
 B1 (ld v19 h16) fun v20 =>
 B1 (mdel .str v20 x15 h16) fun h21 =>
 j17  h21) (fun  h22 =>
 some ((.int .i64 0), h22))))

theorem e_store_Store_Drop (J : JT) (G : GT) (cf : CF) (a0 a1 : AV) (H : Hp) : callF P J G prim an cf 21 [a0, a1] H = s_store_Store_Drop J G cf a0 a1 H := by kernel_rfl

theorem c_store_Store_Drop {a0 a1 : AV} {H : Hp} {r : AV × Hp} (h : s_store_Store_Drop JN GO cK a0 a1 H = some r) : cK (.func (.func 21) [] []) [a0, a1] H = some r := callF_fix (first := []) (cap := []) ((e_store_Store_Drop JN GO _ a0 a1 H).trans h)

noncomputable def s_store_Store_Swap (J : JT) (G : GT) (cf : CF) (a0 a1 a2 : AV) (H : Hp) : R :=
 J 5 (fun j0 =>
 B2 (cf (.func (.func 36) [] []) [a0, a1] H) fun v1 h2 =>
 B1 (ex 0 v1) fun v3 =>
 B1 (ex 1 v1) fun v4 =>
 j0 a0 a1 a2 v3 v4 h2) (fun x5 x6 x7 x8 x9 h10 =>
 J 4 (fun j11 =>
 B1 (ieq x9 (.int .i64 11)) fun v12 =>
 CD v12 (
 some (x9, h10)) (
 B2 (cf (.func (.func 40) [] []) [x7] h10) fun v13 h14 =>
 B1 (unA .not v13) fun v15 =>
 CD v15 (
 some ((.int .i64 1), h14)) (
 B1 (ine x9 (.int .i64 0)) fun v16 =>
 CD v16 (
 some (x9, h14)) (
 B2 (cf (.func (.func 37) [] []) [x5] h14) fun v17 h18 =>
 B1 (unA .not v17) fun v19 =>
 CD v19 (
 some ((.int .i64 11), h18)) (
 j11 x5 x6 x7 x8 h18))))) (fun x20 x21 x22 x23 h24 =>
 J 4 (fun j25 =>
 B1 (nilA x23) fun v26 =>
 B1 (fa 0 v26) fun v27 =>
 B1 (ld v27 h24) fun v28 =>
 B1 (lenx v28) fun v29 =>
 B1 (nilA x23) fun v30 =>
 B1 (fa 1 v30) fun v31 =>
 B1 (st 1 v31 v29 h24) fun h32 =>
 j25 x20 x21 x22 x23 h32) (fun x33 x34 x35 x36 h37 =>
 J 3 (fun j38 =>
 B1 (nilA x33) fun v39 =>
 B1 (fa 1 v39) fun v40 =>
 B1 (ld v40 h37) fun v41 =>
 B1 (mdel .str v41 x34 h37) fun h42 =>
 j38 x33 x35 x36 h42) (fun x43 x44 x45 h46 =>
 J 0 (fun j47 =>
 B1 (nilA x43) fun v48 =>
 B1 (fa 1 v48) fun v49 =>
 B1 (ld v49 h46) fun v50 =>
 B1 (mup .str v50 x44 x45 h46) fun h51 =>
 j47  h51) (fun  h52 =>
 some ((.int .i64 0), h52))))))

theorem e_store_Store_Swap (J : JT) (G : GT) (cf : CF) (a0 a1 a2 : AV) (H : Hp) : callF P J G prim an cf 20 [a0, a1, a2] H = s_store_Store_Swap J G cf a0 a1 a2 H := by kernel_rfl

theorem c_store_Store_Swap {a0 a1 a2 : AV} {H : Hp} {r : AV × Hp} (h : s_store_Store_Swap JN GO cK a0 a1 a2 H = some r) : cK (.func (.func 20) [] []) [a0, a1, a2] H = some r := callF_fix (first := []) (cap := []) ((e_store_Store_Swap JN GO _ a0 a1 a2 H).trans h)

noncomputable def s_store_Store_Read (J : JT) (G : GT) (cf : CF) (a0 a1 : AV) (H : Hp) : R :=
 J 2 (fun j0 =>
 B2 (cf (.func (.func 36) [] []) [a0, a1] H) fun v1 h2 =>
 B1 (ex 0 v1) fun v3 =>
 B1 (ex 1 v1) fun v4 =>
 j0 v3 v4 h2) (fun x5 x6 h7 =>
 J 1 (fun j8 =>
 B1 (ine x6 (.int .i64 0)) fun v9 =>
 CD v9 (
 some (.tuple [.slice0, x6], h7)) (
 j8 x5 h7)) (fun x10 h11 =>
 B1 (nilA x10) fun v12 =>
 B1 (fa 0 v12) fun v13 =>
 B1 (ld v13 h11) fun v14 =>
 B2 (cf (.func (.func 38) [] []) [v14] h11) fun v15 h16 =>
 some (.tuple [v15, (.int .i64 0)], h16)))

theorem e_store_Store_Read (J : JT) (G : GT) (cf : CF) (a0 a1 : AV) (H : Hp) : callF P J G prim an cf 15 [a0, a1] H = s_store_Store_Read J G cf a0 a1 H := by kernel_rfl

theorem c_store_Store_Read {a0 a1 : AV} {H : Hp} {r : AV × Hp} (h : s_store_Store_Read JN GO cK a0 a1 H = some r) : cK (.func (.func 15) [] []) [a0, a1] H = some r := callF_fix (first := []) (cap := []) ((e_store_Store_Read JN GO _ a0 a1 H).trans h)

noncomputable def s_store_Store_Sure (J : JT) (G : GT) (cf : CF) (a0 a1 : AV) (H : Hp) : R :=
 J 0 (fun j0 =>
 J 1 (fun j1 =>
 B1 (nilA a0) fun v2 =>
 B1 (fa 1 v2) fun v3 =>
 B1 (ld v3 H) fun v4 =>
 B1 (lkp .str .ptr0 false v4 a1 H) fun v5 =>
 j1 v5 H) (fun x6 h7 =>
 B1 (eqB .neq (pe x6 .ptr0 h7)) fun v8 =>
 CD v8 (
 B1 (nilA x6) fun v9 =>
 B1 (fa 1 v9) fun v10 =>
 B1 (ld v10 h7) fun v11 =>
 some (v11, h7)) (
 j0  h7))) (fun  h12 =>
 some ((.int .i64 0), h12))

theorem e_store_Store_Sure (J : JT) (G : GT) (cf : CF) (a0 a1 : AV) (H : Hp) : callF P J G prim an cf 16 [a0, a1] H = s_store_Store_Sure J G cf a0 a1 H := by kernel_rfl

theorem c_store_Store_Sure {a0 a1 : AV} {H : Hp} {r : AV × Hp} (h : s_store_Store_Sure JN GO cK a0 a1 H = some r) : cK (.func (.func 16) [] []) [a0, a1] H = some r := callF_fix (first := []) (cap := []) ((e_store_Store_Sure JN GO _ a0 a1 H).trans h)

noncomputable def l_store_Store_Crash (J : JT) (G : GT) (cf : CF) (j7 : K.Fn 1) : K.Fn 5 := LP 5 fun j8 => fun x9 x10 x11 x12 x13 h14 =>
 B1 (ilt x13 x12) fun v15 =>
 CD v15 (
 J 5 (fun j16 =>
 J 5 (fun j17 =>
 B1 (ia 1 x11 x13) fun v18 =>
 B1 (ld v18 h14) fun v19 =>
 J 6 (fun j20 =>
 B1 (nilA x9) fun v21 =>
 B1 (fa 1 v21) fun v22 =>
 B1 (ld v22 h14) fun v23 =>
 B1 (lkp .str .ptr0 false v23 v19 h14) fun v24 =>
 j20 x9 x10 v24 x11 x12 x13 h14) (fun x25 x26 x27 x28 x29 x30 h31 =>
 J 7 (fun j32 =>
 B1 (nilA x27) fun v33 =>
 B1 (fa 0 v33) fun v34 =>
 B1 (ld v34 h31) fun v35 =>
 B1 (lenx v35) fun v36 =>
 B1 (nilA x27) fun v37 =>
 B1 (fa 1 v37) fun v38 =>
 B1 (ld v38 h31) fun v39 =>
 B1 (isub v36 v39) fun v40 =>
 j32 x25 x26 x27 v40 x28 x29 x30 h31) (fun x41 x42 x43 x44 x45 x46 x47 h48 =>
 B1 (ieq x44 (.int .i64 0)) fun v49 =>
 CD v49 (
 j17 x41 x42 x45 x46 x47 h48) (
 J 7 (fun j50 =>
 B1 (lenx x42) fun v51 =>
 B1 (igt v51 (.int .i64 0)) fun v52 =>
 CD v52 (
 J 7 (fun j53 =>
 B1 (ia 1 x42 (.int .i64 0)) fun v54 =>
 B1 (ld v54 h48) fun v55 =>
 B2 (builtinA P .max #[3, 3] [v55, (.int .i64 0)] h48) fun v56 h57 =>
 B2 (builtinA P .min #[3, 3] [v56, x44] h57) fun v58 h59 =>
 j53 x41 x42 x43 v58 x45 x46 x47 h59) (fun x60 x61 x62 x63 x64 x65 x66 h67 =>
 B1 (sll 1 x61 (some (.int .i64 1)) none none) fun v68 =>
 j50 x60 v68 x62 x63 x64 x65 x66 h67)) (
 j50 x41 x42 x43 (.int .i64 0) x45 x46 x47 h48)) (fun x69 x70 x71 x72 x73 x74 x75 h76 =>
 J 6 (fun j77 =>
 B1 (nilA x71) fun v78 =>
 B1 (fa 0 v78) fun v79 =>
 B1 (ld v79 h76) fun v80 =>
 B1 (nilA x71) fun v81 =>
 B1 (fa 1 v81) fun v82 =>
 B1 (ld v82 h76) fun v83 =>
 B1 (iadd v83 x72) fun v84 =>
 B1 (sll 1 v80 none (some v84) none) fun v85 =>
 B1 (nilA x71) fun v86 =>
 B1 (fa 0 v86) fun v87 =>
 B1 (st 1 v87 v85 h76) fun h88 =>
 j77 x69 x70 x71 x73 x74 x75 h88) (fun x89 x90 x91 x92 x93 x94 h95 =>
 B1 (nilA x91) fun v96 =>
 B1 (fa 0 v96) fun v97 =>
 B1 (ld v97 h95) fun v98 =>
 B1 (lenx v98) fun v99 =>
 B1 (nilA x91) fun v100 =>
 B1 (fa 1 v100) fun v101 =>
 B1 (st 1 v101 v99 h95) fun h102 =>
 j17 x89 x90 x92 x93 x94 h102)))))) (fun x103 x104 x105 x106 x107 h108 =>
 j16 x103 x104 x105 x106 x107 h108)) (fun x109 x110 x111 x112 x113 h114 =>
 B1 (iadd x113 (.int .i64 1)) fun v115 =>
 j8 x109 x110 x111 x112 v115 h114)) (
 j7 x9 h14)

theorem rl_store_Store_Crash (J : JT) (G : GT) (cf : CF) (j7 : K.Fn 1) (j8 : K.Fn 5) (x9 x10 x11 x12 x13 : AV) (h14 : Hp) : codeF P J G cf (nT P 13) (atC P 13 [1, 0, 1, 0, 0]) (.sq none .nl (.sq none (.cd .nl .nl) (.sq (some [0, 1, 14, 15, 16]) (.bl (some [0, 1, 14, 15, 16]) (.sq none .nl (.sq (some [0, 1, 6, 14, 15, 16]) .nl (.sq (some [0, 1, 6, 7, 14, 15, 16]) .nl (.sq none (.sq none .nl (.cd .nl .nl)) (.sq none .nl (.sq (some [0, 1, 6, 8, 14, 15, 16]) (.sq none .nl (.cd (.sq (some [0, 1, 6, 8, 14, 15, 16]) .nl .nl) .nl)) (.sq (some [0, 1, 6, 14, 15, 16]) .nl .nl)))))))) .nl))) (fun t H => app 5 j8 (vals [0, 1, 14, 15, 16] t) H) (fun q t H => match Nat.beq q 0 with | true => app 1 j7 (vals [0] t) H | false => (fun _ _ _ => none) q t H) (retK P 13) (mkT (nT P 13) [0, 1, 14, 15, 16] [x9, x10, x11, x12, x13]) h14 =
(B1 (ilt x13 x12) fun v15 =>
 CD v15 (
 J 5 (fun j16 =>
 J 5 (fun j17 =>
 B1 (ia 1 x11 x13) fun v18 =>
 B1 (ld v18 h14) fun v19 =>
 J 6 (fun j20 =>
 B1 (nilA x9) fun v21 =>
 B1 (fa 1 v21) fun v22 =>
 B1 (ld v22 h14) fun v23 =>
 B1 (lkp .str .ptr0 false v23 v19 h14) fun v24 =>
 j20 x9 x10 v24 x11 x12 x13 h14) (fun x25 x26 x27 x28 x29 x30 h31 =>
 J 7 (fun j32 =>
 B1 (nilA x27) fun v33 =>
 B1 (fa 0 v33) fun v34 =>
 B1 (ld v34 h31) fun v35 =>
 B1 (lenx v35) fun v36 =>
 B1 (nilA x27) fun v37 =>
 B1 (fa 1 v37) fun v38 =>
 B1 (ld v38 h31) fun v39 =>
 B1 (isub v36 v39) fun v40 =>
 j32 x25 x26 x27 v40 x28 x29 x30 h31) (fun x41 x42 x43 x44 x45 x46 x47 h48 =>
 B1 (ieq x44 (.int .i64 0)) fun v49 =>
 CD v49 (
 j17 x41 x42 x45 x46 x47 h48) (
 J 7 (fun j50 =>
 B1 (lenx x42) fun v51 =>
 B1 (igt v51 (.int .i64 0)) fun v52 =>
 CD v52 (
 J 7 (fun j53 =>
 B1 (ia 1 x42 (.int .i64 0)) fun v54 =>
 B1 (ld v54 h48) fun v55 =>
 B2 (builtinA P .max #[3, 3] [v55, (.int .i64 0)] h48) fun v56 h57 =>
 B2 (builtinA P .min #[3, 3] [v56, x44] h57) fun v58 h59 =>
 j53 x41 x42 x43 v58 x45 x46 x47 h59) (fun x60 x61 x62 x63 x64 x65 x66 h67 =>
 B1 (sll 1 x61 (some (.int .i64 1)) none none) fun v68 =>
 j50 x60 v68 x62 x63 x64 x65 x66 h67)) (
 j50 x41 x42 x43 (.int .i64 0) x45 x46 x47 h48)) (fun x69 x70 x71 x72 x73 x74 x75 h76 =>
 J 6 (fun j77 =>
 B1 (nilA x71) fun v78 =>
 B1 (fa 0 v78) fun v79 =>
 B1 (ld v79 h76) fun v80 =>
 B1 (nilA x71) fun v81 =>
 B1 (fa 1 v81) fun v82 =>
 B1 (ld v82 h76) fun v83 =>
 B1 (iadd v83 x72) fun v84 =>
 B1 (sll 1 v80 none (some v84) none) fun v85 =>
 B1 (nilA x71) fun v86 =>
 B1 (fa 0 v86) fun v87 =>
 B1 (st 1 v87 v85 h76) fun h88 =>
 j77 x69 x70 x71 x73 x74 x75 h88) (fun x89 x90 x91 x92 x93 x94 h95 =>
 B1 (nilA x91) fun v96 =>
 B1 (fa 0 v96) fun v97 =>
 B1 (ld v97 h95) fun v98 =>
 B1 (lenx v98) fun v99 =>
 B1 (nilA x91) fun v100 =>
 B1 (fa 1 v100) fun v101 =>
 B1 (st 1 v101 v99 h95) fun h102 =>
 j17 x89 x90 x92 x93 x94 h102)))))) (fun x103 x104 x105 x106 x107 h108 =>
 j16 x103 x104 x105 x106 x107 h108)) (fun x109 x110 x111 x112 x113 h114 =>
 B1 (iadd x113 (.int .i64 1)) fun v115 =>
 j8 x109 x110 x111 x112 v115 h114)) (
 j7 x9 h14)) := by kernel_rfl

theorem dl_store_Store_Crash (J : JT) (G : GT) (cf : CF) (j7 : K.Fn 1) : l_store_Store_Crash J G cf j7 = loopF P J G cf (nT P 13) (atC P 13 [1, 0, 1, 0, 0]) (.sq none .nl (.sq none (.cd .nl .nl) (.sq (some [0, 1, 14, 15, 16]) (.bl (some [0, 1, 14, 15, 16]) (.sq none .nl (.sq (some [0, 1, 6, 14, 15, 16]) .nl (.sq (some [0, 1, 6, 7, 14, 15, 16]) .nl (.sq none (.sq none .nl (.cd .nl .nl)) (.sq none .nl (.sq (some [0, 1, 6, 8, 14, 15, 16]) (.sq none .nl (.cd (.sq (some [0, 1, 6, 8, 14, 15, 16]) .nl .nl) .nl)) (.sq (some [0, 1, 6, 14, 15, 16]) .nl .nl)))))))) .nl))) [0, 1, 14, 15, 16] (fun q t H => match Nat.beq q 0 with | true => app 1 j7 (vals [0] t) H | false => (fun _ _ _ => none) q t H) (retK P 13) := by
  unfold l_store_Store_Crash loopF
  refine congrArg (LP 5) ?_
  funext j8 x9 x10 x11 x12 x13 h14
  exact (rl_store_Store_Crash J G cf j7 j8 x9 x10 x11 x12 x13 h14).symm

theorem ql_store_Store_Crash (cf : CF) (j7 : K.Fn 1) (x9 x10 x11 x12 x13 : AV) (h14 : Hp) : l_store_Store_Crash JN GO cf j7 x9 x10 x11 x12 x13 h14 =

 B1 (ilt x13 x12) fun v15 =>
 CD v15 (
 JN 5 (fun j16 =>
 JN 5 (fun j17 =>
 B1 (ia 1 x11 x13) fun v18 =>
 B1 (ld v18 h14) fun v19 =>
 JN 6 (fun j20 =>
 B1 (nilA x9) fun v21 =>
 B1 (fa 1 v21) fun v22 =>
 B1 (ld v22 h14) fun v23 =>
 B1 (lkp .str .ptr0 false v23 v19 h14) fun v24 =>
 j20 x9 x10 v24 x11 x12 x13 h14) (fun x25 x26 x27 x28 x29 x30 h31 =>
 JN 7 (fun j32 =>
 B1 (nilA x27) fun v33 =>
 B1 (fa 0 v33) fun v34 =>
 B1 (ld v34 h31) fun v35 =>
 B1 (lenx v35) fun v36 =>
 B1 (nilA x27) fun v37 =>
 B1 (fa 1 v37) fun v38 =>
 B1 (ld v38 h31) fun v39 =>
 B1 (isub v36 v39) fun v40 =>
 j32 x25 x26 x27 v40 x28 x29 x30 h31) (fun x41 x42 x43 x44 x45 x46 x47 h48 =>
 B1 (ieq x44 (.int .i64 0)) fun v49 =>
 CD v49 (
 j17 x41 x42 x45 x46 x47 h48) (
 JN 7 (fun j50 =>
 B1 (lenx x42) fun v51 =>
 B1 (igt v51 (.int .i64 0)) fun v52 =>
 CD v52 (
 JN 7 (fun j53 =>
 B1 (ia 1 x42 (.int .i64 0)) fun v54 =>
 B1 (ld v54 h48) fun v55 =>
 B2 (builtinA P .max #[3, 3] [v55, (.int .i64 0)] h48) fun v56 h57 =>
 B2 (builtinA P .min #[3, 3] [v56, x44] h57) fun v58 h59 =>
 j53 x41 x42 x43 v58 x45 x46 x47 h59) (fun x60 x61 x62 x63 x64 x65 x66 h67 =>
 B1 (sll 1 x61 (some (.int .i64 1)) none none) fun v68 =>
 j50 x60 v68 x62 x63 x64 x65 x66 h67)) (
 j50 x41 x42 x43 (.int .i64 0) x45 x46 x47 h48)) (fun x69 x70 x71 x72 x73 x74 x75 h76 =>
 JN 6 (fun j77 =>
 B1 (nilA x71) fun v78 =>
 B1 (fa 0 v78) fun v79 =>
 B1 (ld v79 h76) fun v80 =>
 B1 (nilA x71) fun v81 =>
 B1 (fa 1 v81) fun v82 =>
 B1 (ld v82 h76) fun v83 =>
 B1 (iadd v83 x72) fun v84 =>
 B1 (sll 1 v80 none (some v84) none) fun v85 =>
 B1 (nilA x71) fun v86 =>
 B1 (fa 0 v86) fun v87 =>
 B1 (st 1 v87 v85 h76) fun h88 =>
 j77 x69 x70 x71 x73 x74 x75 h88) (fun x89 x90 x91 x92 x93 x94 h95 =>
 B1 (nilA x91) fun v96 =>
 B1 (fa 0 v96) fun v97 =>
 B1 (ld v97 h95) fun v98 =>
 B1 (lenx v98) fun v99 =>
 B1 (nilA x91) fun v100 =>
 B1 (fa 1 v100) fun v101 =>
 B1 (st 1 v101 v99 h95) fun h102 =>
 j17 x89 x90 x92 x93 x94 h102)))))) (fun x103 x104 x105 x106 x107 h108 =>
 j16 x103 x104 x105 x106 x107 h108)) (fun x109 x110 x111 x112 x113 h114 =>
 B1 (iadd x113 (.int .i64 1)) fun v115 =>
 l_store_Store_Crash JN GO cf j7 x109 x110 x111 x112 v115 h114)) (
 j7 x9 h14) := by
  have h1 : l_store_Store_Crash JN GO cf j7 x9 x10 x11 x12 x13 h14 = app 5 (loopF P JN GO cf (nT P 13) (atC P 13 [1, 0, 1, 0, 0]) (.sq none .nl (.sq none (.cd .nl .nl) (.sq (some [0, 1, 14, 15, 16]) (.bl (some [0, 1, 14, 15, 16]) (.sq none .nl (.sq (some [0, 1, 6, 14, 15, 16]) .nl (.sq (some [0, 1, 6, 7, 14, 15, 16]) .nl (.sq none (.sq none .nl (.cd .nl .nl)) (.sq none .nl (.sq (some [0, 1, 6, 8, 14, 15, 16]) (.sq none .nl (.cd (.sq (some [0, 1, 6, 8, 14, 15, 16]) .nl .nl) .nl)) (.sq (some [0, 1, 6, 14, 15, 16]) .nl .nl)))))))) .nl))) [0, 1, 14, 15, 16] (fun q t H => match Nat.beq q 0 with | true => app 1 j7 (vals [0] t) H | false => (fun _ _ _ => none) q t H) (retK P 13)) [x9, x10, x11, x12, x13] h14 := by rw [dl_store_Store_Crash]; kernel_rfl
  refine h1.trans ((loopF_eq (P := P) cf (nT P 13) (atC P 13 [1, 0, 1, 0, 0]) (.sq none .nl (.sq none (.cd .nl .nl) (.sq (some [0, 1, 14, 15, 16]) (.bl (some [0, 1, 14, 15, 16]) (.sq none .nl (.sq (some [0, 1, 6, 14, 15, 16]) .nl (.sq (some [0, 1, 6, 7, 14, 15, 16]) .nl (.sq none (.sq none .nl (.cd .nl .nl)) (.sq none .nl (.sq (some [0, 1, 6, 8, 14, 15, 16]) (.sq none .nl (.cd (.sq (some [0, 1, 6, 8, 14, 15, 16]) .nl .nl) .nl)) (.sq (some [0, 1, 6, 14, 15, 16]) .nl .nl)))))))) .nl))) [0, 1, 14, 15, 16] (fun q t H => match Nat.beq q 0 with | true => app 1 j7 (vals [0] t) H | false => (fun _ _ _ => none) q t H) (retK P 13) [x9, x10, x11, x12, x13] rfl h14).trans ((rl_store_Store_Crash JN GO cf j7 _ x9 x10 x11 x12 x13 h14).trans ?_))
  rw [dl_store_Store_Crash]

noncomputable def s_store_Store_Crash (J : JT) (G : GT) (cf : CF) (a0 a1 : AV) (H : Hp) : R :=
 B1 (nilA a0) fun v0 =>
 B1 (fa 2 v0) fun v1 =>
 B1 (ld v1 H) fun v2 =>
 CD v2 (
 some (.tuple [], H)) (
 J 1 (fun j3 =>
 B2 (cf (.func (.func 22) [] []) [a0] H) fun v4 h5 =>
 B1 (lenx v4) fun v6 =>
 J 1 (fun j7 =>
 l_store_Store_Crash J G cf j7 a0 a1 v4 v6 (.int .i64 0) h5) (fun x116 h117 =>
 j3 x116 h117)) (fun x118 h119 =>
 B1 (nilA x118) fun v120 =>
 B1 (fa 2 v120) fun v121 =>
 B1 (st 1 v121 (.bool true) h119) fun h122 =>
 B1 (nilA x118) fun v123 =>
 B1 (fa 3 v123) fun v124 =>
 B1 (st 1 v124 (.int .i64 0) h122) fun h125 =>
 some (.tuple [], h125)))

theorem e_store_Store_Crash (J : JT) (G : GT) (cf : CF) (a0 a1 : AV) (H : Hp) : callF P J G prim an cf 13 [a0, a1] H = s_store_Store_Crash J G cf a0 a1 H := by kernel_rfl

theorem c_store_Store_Crash {a0 a1 : AV} {H : Hp} {r : AV × Hp} (h : s_store_Store_Crash JN GO cK a0 a1 H = some r) : cK (.func (.func 13) [] []) [a0, a1] H = some r := callF_fix (first := []) (cap := []) ((e_store_Store_Crash JN GO _ a0 a1 H).trans h)

noncomputable def s_store_Store_On (J : JT) (G : GT) (cf : CF) (a0 : AV) (H : Hp) : R :=
 B1 (nilA a0) fun v0 =>
 B1 (fa 2 v0) fun v1 =>
 B1 (st 1 v1 (.bool false) H) fun h2 =>
 some (.tuple [], h2)

theorem e_store_Store_On (J : JT) (G : GT) (cf : CF) (a0 : AV) (H : Hp) : callF P J G prim an cf 14 [a0] H = s_store_Store_On J G cf a0 H := by kernel_rfl

theorem c_store_Store_On {a0 : AV} {H : Hp} {r : AV × Hp} (h : s_store_Store_On JN GO cK a0 H = some r) : cK (.func (.func 14) [] []) [a0] H = some r := callF_fix (first := []) (cap := []) ((e_store_Store_On JN GO _ a0 H).trans h)

noncomputable def s_store_Store_Off (J : JT) (G : GT) (cf : CF) (a0 : AV) (H : Hp) : R :=
 B1 (nilA a0) fun v0 =>
 B1 (fa 2 v0) fun v1 =>
 B1 (ld v1 H) fun v2 =>
 some (v2, H)

theorem e_store_Store_Off (J : JT) (G : GT) (cf : CF) (a0 : AV) (H : Hp) : callF P J G prim an cf 23 [a0] H = s_store_Store_Off J G cf a0 H := by kernel_rfl

theorem c_store_Store_Off {a0 : AV} {H : Hp} {r : AV × Hp} (h : s_store_Store_Off JN GO cK a0 H = some r) : cK (.func (.func 23) [] []) [a0] H = some r := callF_fix (first := []) (cap := []) ((e_store_Store_Off JN GO _ a0 H).trans h)

noncomputable def s_store_Store_Fuse (J : JT) (G : GT) (cf : CF) (a0 a1 a2 : AV) (H : Hp) : R :=
 B1 (nilA a0) fun v0 =>
 B1 (fa 2 v0) fun v1 =>
 B1 (ld v1 H) fun v2 =>
 CD v2 (
 some (.tuple [], H)) (
 J 2 (fun j3 =>
 B2 (builtinA P .max #[3, 3] [a1, (.int .i64 0)] H) fun v4 h5 =>
 B1 (nilA a0) fun v6 =>
 B1 (fa 3 v6) fun v7 =>
 B1 (st 1 v7 v4 h5) fun h8 =>
 j3 a0 a2 h8) (fun x9 x10 h11 =>
 B2 (cf (.func (.func 39) [] []) [x10] h11) fun v12 h13 =>
 B1 (nilA x9) fun v14 =>
 B1 (fa 4 v14) fun v15 =>
 B1 (st 1 v15 v12 h13) fun h16 =>
 some (.tuple [], h16)))

theorem e_store_Store_Fuse (J : JT) (G : GT) (cf : CF) (a0 a1 a2 : AV) (H : Hp) : callF P J G prim an cf 19 [a0, a1, a2] H = s_store_Store_Fuse J G cf a0 a1 a2 H := by kernel_rfl

theorem c_store_Store_Fuse {a0 a1 a2 : AV} {H : Hp} {r : AV × Hp} (h : s_store_Store_Fuse JN GO cK a0 a1 a2 H = some r) : cK (.func (.func 19) [] []) [a0, a1, a2] H = some r := callF_fix (first := []) (cap := []) ((e_store_Store_Fuse JN GO _ a0 a1 a2 H).trans h)

noncomputable def s_slices_Clone___byte_byte_ (J : JT) (G : GT) (cf : CF) (a0 : AV) (H : Hp) : R :=
 IFT (gA P .eql 22 true a0 .slice0) <| B1 (binA P .eql 22 a0 .slice0 H) fun v0 =>
 CD v0 (
 some (.slice0, H)) (
 B1 (fl [] []) fun l1 =>
 BN (newCells H l1 5 0) fun i2 h3 =>
 B2 (app' 5 1 [(.int .u8 0)] false (.slice i2 0 0 0 true 1) a0 h3) fun v4 h5 =>
 some (v4, h5))

theorem e_slices_Clone___byte_byte_ (J : JT) (G : GT) (cf : CF) (a0 : AV) (H : Hp) : callF P J G prim an cf 38 [a0] H = s_slices_Clone___byte_byte_ J G cf a0 H := by kernel_rfl

theorem c_slices_Clone___byte_byte_ {a0 : AV} {H : Hp} {r : AV × Hp} (h : s_slices_Clone___byte_byte_ JN GO cK a0 H = some r) : cK (.func (.func 38) [] []) [a0] H = some r := callF_fix (first := []) (cap := []) ((e_slices_Clone___byte_byte_ JN GO _ a0 H).trans h)

noncomputable def s_slices_Clone___int_int_ (J : JT) (G : GT) (cf : CF) (a0 : AV) (H : Hp) : R :=
 IFT (gA P .eql 40 true a0 .slice0) <| B1 (binA P .eql 40 a0 .slice0 H) fun v0 =>
 CD v0 (
 some (.slice0, H)) (
 B1 (fl [] []) fun l1 =>
 BN (newCells H l1 3 0) fun i2 h3 =>
 B2 (app' 3 1 [(.int .i64 0)] false (.slice i2 0 0 0 true 1) a0 h3) fun v4 h5 =>
 some (v4, h5))

theorem e_slices_Clone___int_int_ (J : JT) (G : GT) (cf : CF) (a0 : AV) (H : Hp) : callF P J G prim an cf 39 [a0] H = s_slices_Clone___int_int_ J G cf a0 H := by kernel_rfl

theorem c_slices_Clone___int_int_ {a0 : AV} {H : Hp} {r : AV × Hp} (h : s_slices_Clone___int_int_ JN GO cK a0 H = some r) : cK (.func (.func 39) [] []) [a0] H = some r := callF_fix (first := []) (cap := []) ((e_slices_Clone___int_int_ JN GO _ a0 H).trans h)

noncomputable def s_outriderlaw5_StoreSure (J : JT) (G : GT) (cf : CF) (a0 a1 a2 : AV) (H : Hp) : R :=
 B2 (cf (.func (.func 9) [] []) [] H) fun v0 h1 =>
 B1 (unA .not v0) fun v2 =>
 CD v2 (
 some ((.bool false), h1)) (
 J 3 (fun j3 =>
 J 4 (fun j4 =>
 B1 (lenx a0) fun v5 =>
 B1 (igt v5 (.int .i64 500)) fun v6 =>
 G v6 false (fun k7 =>
 k7 a1 h1) (fun v8 h9 =>
 G v6 false (fun k10 =>
 B1 (lenx v8) fun v11 =>
 k10 v11 h9) (fun v12 h13 =>
 G v6 false (fun k14 =>
 B1 (igt v12 (.int .i64 500)) fun v15 =>
 k14 v15 h13) (fun v16 h17 =>
 B1 (pk v6 (.bool true) v16) fun v18 =>
 j4 a0 a1 a2 v18 h17) h13) h9) h1) (fun x19 x20 x21 x22 h23 =>
 CD x22 (
 some ((.bool true), h23)) (
 j3 x19 x20 x21 h23))) (fun x24 x25 x26 h27 =>
 J 4 (fun j28 =>
 B2 (cf (.func (.func 10) [] []) [(.int .i64 2000)] h27) fun v29 h30 =>
 B1 (ex 0 v29) fun v31 =>
 B1 (ex 1 v29) fun v32 =>
 j28 x24 x25 x26 v31 h30) (fun x33 x34 x35 x36 h37 =>
 J 4 (fun j38 =>
 J 5 (fun j39 =>
 B1 (eqB .eql (pe x36 .ptr0 h37)) fun v40 =>
 G v40 false (fun k41 =>
 k41 x36 h37) (fun v42 h43 =>
 G v40 false (fun k44 =>
 k44 x33 h43) (fun v45 h46 =>
 G v40 false (fun k47 =>
 B2 (cf (.func (.func 11) [] []) [v42, (.str [102]), v45] h46) fun v48 h49 =>
 k47 v48 h49) (fun v50 h51 =>
 G v40 false (fun k52 =>
 B1 (ine v50 (.int .i64 0)) fun v53 =>
 k52 v53 h51) (fun v54 h55 =>
 B1 (pk v40 (.bool true) v54) fun v56 =>
 G v56 false (fun k57 =>
 k57 x36 h55) (fun v58 h59 =>
 G v56 false (fun k60 =>
 B2 (cf (.func (.func 12) [] []) [v58, (.str [102])] h59) fun v61 h62 =>
 k60 v61 h62) (fun v63 h64 =>
 G v56 false (fun k65 =>
 B1 (ine v63 (.int .i64 0)) fun v66 =>
 k65 v66 h64) (fun v67 h68 =>
 B1 (pk v56 (.bool true) v67) fun v69 =>
 G v69 false (fun k70 =>
 k70 x36 h68) (fun v71 h72 =>
 G v69 false (fun k73 =>
 k73 x34 h72) (fun v74 h75 =>
 G v69 false (fun k76 =>
 B2 (cf (.func (.func 11) [] []) [v71, (.str [102]), v74] h75) fun v77 h78 =>
 k76 v77 h78) (fun v79 h80 =>
 G v69 false (fun k81 =>
 B1 (ine v79 (.int .i64 0)) fun v82 =>
 k81 v82 h80) (fun v83 h84 =>
 B1 (pk v69 (.bool true) v83) fun v85 =>
 j39 x33 x34 x35 x36 v85 h84) h80) h75) h72) h68) h64) h59) h55) h51) h46) h43) h37) (fun x86 x87 x88 x89 x90 h91 =>
 CD x90 (
 some ((.bool false), h91)) (
 j38 x86 x87 x88 x89 h91))) (fun x92 x93 x94 x95 h96 =>
 B1 (fl [(.int .i64 0)] [(0, 1, x94)]) fun l97 =>
 BN (newCells h96 l97 3 0) fun i98 h99 =>
 B2 (cf (.func (.func 13) [] []) [x95, (.slice i98 0 1 1 true 1)] h99) fun v100 h101 =>
 B2 (cf (.func (.func 14) [] []) [x95] h101) fun v102 h103 =>
 J 6 (fun j104 =>
 B2 (cf (.func (.func 15) [] []) [x95, (.str [102])] h103) fun v105 h106 =>
 B1 (ex 0 v105) fun v107 =>
 B1 (ex 1 v105) fun v108 =>
 j104 x92 x93 x94 x95 v107 v108 h106) (fun x109 x110 x111 x112 x113 x114 h115 =>
 J 6 (fun j116 =>
 B1 (ilt x111 (.int .i64 0)) fun v117 =>
 CD v117 (
 j116 x109 x110 x112 x113 x114 (.int .i64 0) h115) (
 j116 x109 x110 x112 x113 x114 x111 h115)) (fun x118 x119 x120 x121 x122 x123 h124 =>
 J 6 (fun j125 =>
 B1 (lenx x119) fun v126 =>
 B1 (igt x123 v126) fun v127 =>
 CD v127 (
 B1 (lenx x119) fun v128 =>
 j125 x118 x119 x120 x121 x122 v128 h124) (
 j125 x118 x119 x120 x121 x122 x123 h124)) (fun x129 x130 x131 x132 x133 x134 h135 =>
 B1 (ieq x133 (.int .i64 0)) fun v136 =>
 GD2 v136 true (
 B1 (b2s x132 h135) fun v137 =>
 B1 (b2s x129 h135) fun v138 =>
 B1 (sll 1 x130 none (some x134) none) fun v139 =>
 B1 (b2s v139 h135) fun v140 =>
 B1 (scat v138 v140) fun v141 =>
 B1 (seq v137 v141) fun v142 =>
 GD2 v142 true (
 B2 (cf (.func (.func 16) [] []) [x131, (.str [102])] h135) fun v143 h144 =>
 B1 (lenx x132) fun v145 =>
 B1 (ieq v143 v145) fun v146 =>
 B1 (lenx x132) fun v147 =>
 SM v145 v147 <|
 some (v146, h144)) (
 some ((.bool false), h135))) (
 some ((.bool false), h135)))))))))

theorem e_outriderlaw5_StoreSure (J : JT) (G : GT) (cf : CF) (a0 a1 a2 : AV) (H : Hp) : callF P J G prim an cf 3 [a0, a1, a2] H = s_outriderlaw5_StoreSure J G cf a0 a1 a2 H := by kernel_rfl

theorem c_outriderlaw5_StoreSure {a0 a1 a2 : AV} {H : Hp} {r : AV × Hp} (h : s_outriderlaw5_StoreSure JN GO cK a0 a1 a2 H = some r) : cK (.func (.func 3) [] []) [a0, a1, a2] H = some r := callF_fix (first := []) (cap := []) ((e_outriderlaw5_StoreSure JN GO _ a0 a1 a2 H).trans h)

noncomputable def l_outriderlaw5_StoreRoom (J : JT) (G : GT) (cf : CF) (j44 : K.Fn 3) : K.Fn 5 := LP 5 fun j45 => fun x46 x47 x48 x49 x50 h51 =>
 B1 (lenx x47) fun v52 =>
 B1 (ilt x50 v52) fun v53 =>
 CD v53 (
 J 5 (fun j54 =>
 J 5 (fun j55 =>
 J 6 (fun j56 =>
 B1 (ia 1 x47 x50) fun v57 =>
 B1 (ld v57 h51) fun v58 =>
 B1 (lenx v58) fun v59 =>
 B1 (igt v59 (.int .i64 1000)) fun v60 =>
 j56 x46 x47 x48 x49 x50 v60 h51) (fun x61 x62 x63 x64 x65 x66 h67 =>
 CD x66 (
 some ((.bool true), h67)) (
 j55 x61 x62 x63 x64 x65 h67))) (fun x68 x69 x70 x71 x72 h73 =>
 J 6 (fun j74 =>
 B1 (ia 1 x69 x72) fun v75 =>
 B1 (ld v75 h73) fun v76 =>
 B2 (cf (.func (.func 11) [] []) [x70, (.str [102]), v76] h73) fun v77 h78 =>
 j74 x68 x69 x70 x71 x72 v77 h78) (fun x79 x80 x81 x82 x83 x84 h85 =>
 J 6 (fun j86 =>
 J 7 (fun j87 =>
 B1 (ieq x84 (.int .i64 0)) fun v88 =>
 B1 (ia 1 x80 x83) fun v89 =>
 B1 (ld v89 h85) fun v90 =>
 B1 (lenx v90) fun v91 =>
 B1 (isub x79 x82) fun v92 =>
 B1 (ile v91 v92) fun v93 =>
 B1 (bb .neq v88 v93) fun v94 =>
 j87 x79 x80 x81 x82 x83 x84 v94 h85) (fun x95 x96 x97 x98 x99 x100 x101 h102 =>
 CD x101 (
 some ((.bool false), h102)) (
 j86 x95 x96 x97 x98 x99 x100 h102))) (fun x103 x104 x105 x106 x107 x108 h109 =>
 J 5 (fun j110 =>
 B1 (ieq x108 (.int .i64 0)) fun v111 =>
 CD v111 (
 B1 (ia 1 x104 x107) fun v112 =>
 B1 (ld v112 h109) fun v113 =>
 B1 (lenx v113) fun v114 =>
 B1 (iadd x106 v114) fun v115 =>
 j110 x103 x104 x105 v115 x107 h109) (
 j110 x103 x104 x105 x106 x107 h109)) (fun x116 x117 x118 x119 x120 h121 =>
 J 6 (fun j122 =>
 B2 (cf (.func (.func 17) [] []) [x118] h121) fun v123 h124 =>
 B1 (isub x116 x119) fun v125 =>
 B1 (ine v123 v125) fun v126 =>
 j122 x116 x117 x118 x119 x120 v126 h124) (fun x127 x128 x129 x130 x131 x132 h133 =>
 CD x132 (
 some ((.bool false), h133)) (
 j54 x127 x128 x129 x130 x131 h133))))))) (fun x134 x135 x136 x137 x138 h139 =>
 B1 (iadd x138 (.int .i64 1)) fun v140 =>
 j45 x134 x135 x136 x137 v140 h139)) (
 j44 x47 x48 x49 h51)

theorem rl_outriderlaw5_StoreRoom (J : JT) (G : GT) (cf : CF) (j44 : K.Fn 3) (j45 : K.Fn 5) (x46 x47 x48 x49 x50 : AV) (h51 : Hp) : codeF P J G cf (nT P 4) (atC P 4 [1, 1, 1, 1, 1, 1, 0, 1, 0, 0]) (.sq none (.sq none .nl (.cd .nl .nl)) (.sq (some [0, 1, 5, 7, 8]) (.bl none (.sq (some [0, 1, 5, 7, 8]) (.sq (some [0, 1, 5, 7, 8, 43]) .nl (.cd (.sq none .nl .nl) .nl)) (.sq (some [0, 1, 5, 7, 8, 9]) .nl (.sq (some [0, 1, 5, 7, 8, 9]) (.sq (some [0, 1, 5, 7, 8, 9, 61]) .nl (.cd (.sq none .nl .nl) .nl)) (.sq (some [0, 1, 5, 7, 8]) (.sq none .nl (.cd .nl .nl)) (.sq (some [0, 1, 5, 7, 8, 76]) .nl (.cd (.sq none .nl .nl) .nl))))))) .nl)) (fun t H => app 5 j45 (vals [0, 1, 5, 7, 8] t) H) (fun q t H => match Nat.beq q 0 with | true => app 3 j44 (vals [1, 5, 7] t) H | false => (fun _ _ _ => none) q t H) (retK P 4) (mkT (nT P 4) [0, 1, 5, 7, 8] [x46, x47, x48, x49, x50]) h51 =
(B1 (lenx x47) fun v52 =>
 B1 (ilt x50 v52) fun v53 =>
 CD v53 (
 J 5 (fun j54 =>
 J 5 (fun j55 =>
 J 6 (fun j56 =>
 B1 (ia 1 x47 x50) fun v57 =>
 B1 (ld v57 h51) fun v58 =>
 B1 (lenx v58) fun v59 =>
 B1 (igt v59 (.int .i64 1000)) fun v60 =>
 j56 x46 x47 x48 x49 x50 v60 h51) (fun x61 x62 x63 x64 x65 x66 h67 =>
 CD x66 (
 some ((.bool true), h67)) (
 j55 x61 x62 x63 x64 x65 h67))) (fun x68 x69 x70 x71 x72 h73 =>
 J 6 (fun j74 =>
 B1 (ia 1 x69 x72) fun v75 =>
 B1 (ld v75 h73) fun v76 =>
 B2 (cf (.func (.func 11) [] []) [x70, (.str [102]), v76] h73) fun v77 h78 =>
 j74 x68 x69 x70 x71 x72 v77 h78) (fun x79 x80 x81 x82 x83 x84 h85 =>
 J 6 (fun j86 =>
 J 7 (fun j87 =>
 B1 (ieq x84 (.int .i64 0)) fun v88 =>
 B1 (ia 1 x80 x83) fun v89 =>
 B1 (ld v89 h85) fun v90 =>
 B1 (lenx v90) fun v91 =>
 B1 (isub x79 x82) fun v92 =>
 B1 (ile v91 v92) fun v93 =>
 B1 (bb .neq v88 v93) fun v94 =>
 j87 x79 x80 x81 x82 x83 x84 v94 h85) (fun x95 x96 x97 x98 x99 x100 x101 h102 =>
 CD x101 (
 some ((.bool false), h102)) (
 j86 x95 x96 x97 x98 x99 x100 h102))) (fun x103 x104 x105 x106 x107 x108 h109 =>
 J 5 (fun j110 =>
 B1 (ieq x108 (.int .i64 0)) fun v111 =>
 CD v111 (
 B1 (ia 1 x104 x107) fun v112 =>
 B1 (ld v112 h109) fun v113 =>
 B1 (lenx v113) fun v114 =>
 B1 (iadd x106 v114) fun v115 =>
 j110 x103 x104 x105 v115 x107 h109) (
 j110 x103 x104 x105 x106 x107 h109)) (fun x116 x117 x118 x119 x120 h121 =>
 J 6 (fun j122 =>
 B2 (cf (.func (.func 17) [] []) [x118] h121) fun v123 h124 =>
 B1 (isub x116 x119) fun v125 =>
 B1 (ine v123 v125) fun v126 =>
 j122 x116 x117 x118 x119 x120 v126 h124) (fun x127 x128 x129 x130 x131 x132 h133 =>
 CD x132 (
 some ((.bool false), h133)) (
 j54 x127 x128 x129 x130 x131 h133))))))) (fun x134 x135 x136 x137 x138 h139 =>
 B1 (iadd x138 (.int .i64 1)) fun v140 =>
 j45 x134 x135 x136 x137 v140 h139)) (
 j44 x47 x48 x49 h51)) := by kernel_rfl

theorem dl_outriderlaw5_StoreRoom (J : JT) (G : GT) (cf : CF) (j44 : K.Fn 3) : l_outriderlaw5_StoreRoom J G cf j44 = loopF P J G cf (nT P 4) (atC P 4 [1, 1, 1, 1, 1, 1, 0, 1, 0, 0]) (.sq none (.sq none .nl (.cd .nl .nl)) (.sq (some [0, 1, 5, 7, 8]) (.bl none (.sq (some [0, 1, 5, 7, 8]) (.sq (some [0, 1, 5, 7, 8, 43]) .nl (.cd (.sq none .nl .nl) .nl)) (.sq (some [0, 1, 5, 7, 8, 9]) .nl (.sq (some [0, 1, 5, 7, 8, 9]) (.sq (some [0, 1, 5, 7, 8, 9, 61]) .nl (.cd (.sq none .nl .nl) .nl)) (.sq (some [0, 1, 5, 7, 8]) (.sq none .nl (.cd .nl .nl)) (.sq (some [0, 1, 5, 7, 8, 76]) .nl (.cd (.sq none .nl .nl) .nl))))))) .nl)) [0, 1, 5, 7, 8] (fun q t H => match Nat.beq q 0 with | true => app 3 j44 (vals [1, 5, 7] t) H | false => (fun _ _ _ => none) q t H) (retK P 4) := by
  unfold l_outriderlaw5_StoreRoom loopF
  refine congrArg (LP 5) ?_
  funext j45 x46 x47 x48 x49 x50 h51
  exact (rl_outriderlaw5_StoreRoom J G cf j44 j45 x46 x47 x48 x49 x50 h51).symm

theorem ql_outriderlaw5_StoreRoom (cf : CF) (j44 : K.Fn 3) (x46 x47 x48 x49 x50 : AV) (h51 : Hp) : l_outriderlaw5_StoreRoom JN GO cf j44 x46 x47 x48 x49 x50 h51 =

 B1 (lenx x47) fun v52 =>
 B1 (ilt x50 v52) fun v53 =>
 CD v53 (
 JN 5 (fun j54 =>
 JN 5 (fun j55 =>
 JN 6 (fun j56 =>
 B1 (ia 1 x47 x50) fun v57 =>
 B1 (ld v57 h51) fun v58 =>
 B1 (lenx v58) fun v59 =>
 B1 (igt v59 (.int .i64 1000)) fun v60 =>
 j56 x46 x47 x48 x49 x50 v60 h51) (fun x61 x62 x63 x64 x65 x66 h67 =>
 CD x66 (
 some ((.bool true), h67)) (
 j55 x61 x62 x63 x64 x65 h67))) (fun x68 x69 x70 x71 x72 h73 =>
 JN 6 (fun j74 =>
 B1 (ia 1 x69 x72) fun v75 =>
 B1 (ld v75 h73) fun v76 =>
 B2 (cf (.func (.func 11) [] []) [x70, (.str [102]), v76] h73) fun v77 h78 =>
 j74 x68 x69 x70 x71 x72 v77 h78) (fun x79 x80 x81 x82 x83 x84 h85 =>
 JN 6 (fun j86 =>
 JN 7 (fun j87 =>
 B1 (ieq x84 (.int .i64 0)) fun v88 =>
 B1 (ia 1 x80 x83) fun v89 =>
 B1 (ld v89 h85) fun v90 =>
 B1 (lenx v90) fun v91 =>
 B1 (isub x79 x82) fun v92 =>
 B1 (ile v91 v92) fun v93 =>
 B1 (bb .neq v88 v93) fun v94 =>
 j87 x79 x80 x81 x82 x83 x84 v94 h85) (fun x95 x96 x97 x98 x99 x100 x101 h102 =>
 CD x101 (
 some ((.bool false), h102)) (
 j86 x95 x96 x97 x98 x99 x100 h102))) (fun x103 x104 x105 x106 x107 x108 h109 =>
 JN 5 (fun j110 =>
 B1 (ieq x108 (.int .i64 0)) fun v111 =>
 CD v111 (
 B1 (ia 1 x104 x107) fun v112 =>
 B1 (ld v112 h109) fun v113 =>
 B1 (lenx v113) fun v114 =>
 B1 (iadd x106 v114) fun v115 =>
 j110 x103 x104 x105 v115 x107 h109) (
 j110 x103 x104 x105 x106 x107 h109)) (fun x116 x117 x118 x119 x120 h121 =>
 JN 6 (fun j122 =>
 B2 (cf (.func (.func 17) [] []) [x118] h121) fun v123 h124 =>
 B1 (isub x116 x119) fun v125 =>
 B1 (ine v123 v125) fun v126 =>
 j122 x116 x117 x118 x119 x120 v126 h124) (fun x127 x128 x129 x130 x131 x132 h133 =>
 CD x132 (
 some ((.bool false), h133)) (
 j54 x127 x128 x129 x130 x131 h133))))))) (fun x134 x135 x136 x137 x138 h139 =>
 B1 (iadd x138 (.int .i64 1)) fun v140 =>
 l_outriderlaw5_StoreRoom JN GO cf j44 x134 x135 x136 x137 v140 h139)) (
 j44 x47 x48 x49 h51) := by
  have h1 : l_outriderlaw5_StoreRoom JN GO cf j44 x46 x47 x48 x49 x50 h51 = app 5 (loopF P JN GO cf (nT P 4) (atC P 4 [1, 1, 1, 1, 1, 1, 0, 1, 0, 0]) (.sq none (.sq none .nl (.cd .nl .nl)) (.sq (some [0, 1, 5, 7, 8]) (.bl none (.sq (some [0, 1, 5, 7, 8]) (.sq (some [0, 1, 5, 7, 8, 43]) .nl (.cd (.sq none .nl .nl) .nl)) (.sq (some [0, 1, 5, 7, 8, 9]) .nl (.sq (some [0, 1, 5, 7, 8, 9]) (.sq (some [0, 1, 5, 7, 8, 9, 61]) .nl (.cd (.sq none .nl .nl) .nl)) (.sq (some [0, 1, 5, 7, 8]) (.sq none .nl (.cd .nl .nl)) (.sq (some [0, 1, 5, 7, 8, 76]) .nl (.cd (.sq none .nl .nl) .nl))))))) .nl)) [0, 1, 5, 7, 8] (fun q t H => match Nat.beq q 0 with | true => app 3 j44 (vals [1, 5, 7] t) H | false => (fun _ _ _ => none) q t H) (retK P 4)) [x46, x47, x48, x49, x50] h51 := by rw [dl_outriderlaw5_StoreRoom]; kernel_rfl
  refine h1.trans ((loopF_eq (P := P) cf (nT P 4) (atC P 4 [1, 1, 1, 1, 1, 1, 0, 1, 0, 0]) (.sq none (.sq none .nl (.cd .nl .nl)) (.sq (some [0, 1, 5, 7, 8]) (.bl none (.sq (some [0, 1, 5, 7, 8]) (.sq (some [0, 1, 5, 7, 8, 43]) .nl (.cd (.sq none .nl .nl) .nl)) (.sq (some [0, 1, 5, 7, 8, 9]) .nl (.sq (some [0, 1, 5, 7, 8, 9]) (.sq (some [0, 1, 5, 7, 8, 9, 61]) .nl (.cd (.sq none .nl .nl) .nl)) (.sq (some [0, 1, 5, 7, 8]) (.sq none .nl (.cd .nl .nl)) (.sq (some [0, 1, 5, 7, 8, 76]) .nl (.cd (.sq none .nl .nl) .nl))))))) .nl)) [0, 1, 5, 7, 8] (fun q t H => match Nat.beq q 0 with | true => app 3 j44 (vals [1, 5, 7] t) H | false => (fun _ _ _ => none) q t H) (retK P 4) [x46, x47, x48, x49, x50] rfl h51).trans ((rl_outriderlaw5_StoreRoom JN GO cf j44 _ x46 x47 x48 x49 x50 h51).trans ?_))
  rw [dl_outriderlaw5_StoreRoom]

noncomputable def s_outriderlaw5_StoreRoom (J : JT) (G : GT) (cf : CF) (a0 a1 : AV) (H : Hp) : R :=
 B2 (cf (.func (.func 9) [] []) [] H) fun v0 h1 =>
 B1 (unA .not v0) fun v2 =>
 CD v2 (
 some ((.bool false), h1)) (
 J 2 (fun j3 =>
 J 3 (fun j4 =>
 B1 (ilt a0 (.int .i64 1)) fun v5 =>
 G v5 false (fun k6 =>
 k6 a0 h1) (fun v7 h8 =>
 G v5 false (fun k9 =>
 B1 (igt v7 (.int .i64 3000)) fun v10 =>
 k9 v10 h8) (fun v11 h12 =>
 B1 (pk v5 (.bool true) v11) fun v13 =>
 G v13 false (fun k14 =>
 k14 a1 h12) (fun v15 h16 =>
 G v13 false (fun k17 =>
 B1 (lenx v15) fun v18 =>
 k17 v18 h16) (fun v19 h20 =>
 G v13 false (fun k21 =>
 B1 (igt v19 (.int .i64 20)) fun v22 =>
 k21 v22 h20) (fun v23 h24 =>
 B1 (pk v13 (.bool true) v23) fun v25 =>
 j4 a0 a1 v25 h24) h20) h16) h12) h8) h1) (fun x26 x27 x28 h29 =>
 CD x28 (
 some ((.bool true), h29)) (
 j3 x26 x27 h29))) (fun x30 x31 h32 =>
 J 3 (fun j33 =>
 B2 (cf (.func (.func 10) [] []) [x30] h32) fun v34 h35 =>
 B1 (ex 0 v34) fun v36 =>
 B1 (ex 1 v34) fun v37 =>
 j33 x30 x31 v36 h35) (fun x38 x39 x40 h41 =>
 B1 (eqB .eql (pe x40 .ptr0 h41)) fun v42 =>
 CD v42 (
 some ((.bool false), h41)) (
 J 3 (fun j43 =>
 J 3 (fun j44 =>
 l_outriderlaw5_StoreRoom J G cf j44 x38 x39 x40 (.int .i64 0) (.int .i64 0) h41) (fun x141 x142 x143 h144 =>
 j43 x141 x142 x143 h144)) (fun x145 x146 x147 h148 =>
 J 4 (fun j149 =>
 B2 (cf (.func (.func 15) [] []) [x146, (.str [102])] h148) fun v150 h151 =>
 B1 (ex 0 v150) fun v152 =>
 B1 (ex 1 v150) fun v153 =>
 j149 x145 x147 v152 v153 h151) (fun x154 x155 x156 x157 h158 =>
 B1 (lenx x154) fun v159 =>
 B1 (ieq v159 (.int .i64 0)) fun v160 =>
 G v160 false (fun k161 =>
 k161 x155 h158) (fun v162 h163 =>
 G v160 false (fun k164 =>
 B1 (ieq v162 (.int .i64 0)) fun v165 =>
 k164 v165 h163) (fun v166 h167 =>
 B1 (pk v160 (.bool true) v166) fun v168 =>
 G v168 false (fun k169 =>
 k169 x157 h167) (fun v170 h171 =>
 G v168 false (fun k172 =>
 B1 (ieq v170 (.int .i64 0)) fun v173 =>
 k172 v173 h171) (fun v174 h175 =>
 G v168 false (fun k176 =>
 k176 v174 h175) (fun v177 h178 =>
 G v177 true (fun k179 =>
 k179 x156 h178) (fun v180 h181 =>
 G v177 true (fun k182 =>
 B1 (lenx v180) fun v183 =>
 k182 v183 h181) (fun v184 h185 =>
 G v177 true (fun k186 =>
 k186 x155 h185) (fun v187 h188 =>
 G v177 true (fun k189 =>
 B1 (ieq v184 v187) fun v190 =>
 k189 v190 h188) (fun v191 h192 =>
 G v168 false (fun k193 =>
 B1 (pk v177 v191 (.bool false)) fun v194 =>
 k193 v194 h192) (fun v195 h196 =>
 B1 (pk v168 (.bool true) v195) fun v197 =>
 some (v197, h196)) h192) h188) h185) h181) h178) h175) h171) h167) h163) h158))))))

theorem e_outriderlaw5_StoreRoom (J : JT) (G : GT) (cf : CF) (a0 a1 : AV) (H : Hp) : callF P J G prim an cf 4 [a0, a1] H = s_outriderlaw5_StoreRoom J G cf a0 a1 H := by kernel_rfl

theorem c_outriderlaw5_StoreRoom {a0 a1 : AV} {H : Hp} {r : AV × Hp} (h : s_outriderlaw5_StoreRoom JN GO cK a0 a1 H = some r) : cK (.func (.func 4) [] []) [a0, a1] H = some r := callF_fix (first := []) (cap := []) ((e_outriderlaw5_StoreRoom JN GO _ a0 a1 H).trans h)

noncomputable def s_outriderlaw5_StoreCuts (J : JT) (G : GT) (cf : CF) (a0 a1 a2 : AV) (H : Hp) : R :=
 B2 (cf (.func (.func 9) [] []) [] H) fun v0 h1 =>
 B1 (unA .not v0) fun v2 =>
 CD v2 (
 some ((.bool false), h1)) (
 J 3 (fun j3 =>
 J 4 (fun j4 =>
 B1 (lenx a0) fun v5 =>
 B1 (igt v5 (.int .i64 300)) fun v6 =>
 G v6 false (fun k7 =>
 k7 a2 h1) (fun v8 h9 =>
 G v6 false (fun k10 =>
 B1 (lenx v8) fun v11 =>
 k10 v11 h9) (fun v12 h13 =>
 G v6 false (fun k14 =>
 B1 (igt v12 (.int .i64 300)) fun v15 =>
 k14 v15 h13) (fun v16 h17 =>
 B1 (pk v6 (.bool true) v16) fun v18 =>
 G v18 false (fun k19 =>
 k19 a1 h17) (fun v20 h21 =>
 G v18 false (fun k22 =>
 B1 (ilt v20 (.int .i64 0)) fun v23 =>
 k22 v23 h21) (fun v24 h25 =>
 B1 (pk v18 (.bool true) v24) fun v26 =>
 G v26 false (fun k27 =>
 k27 a1 h25) (fun v28 h29 =>
 G v26 false (fun k30 =>
 k30 a0 h29) (fun v31 h32 =>
 G v26 false (fun k33 =>
 B1 (lenx v31) fun v34 =>
 k33 v34 h32) (fun v35 h36 =>
 G v26 false (fun k37 =>
 B1 (igt v28 v35) fun v38 =>
 k37 v38 h36) (fun v39 h40 =>
 B1 (pk v26 (.bool true) v39) fun v41 =>
 j4 a0 a1 a2 v41 h40) h36) h32) h29) h25) h21) h17) h13) h9) h1) (fun x42 x43 x44 x45 h46 =>
 CD x45 (
 some ((.bool true), h46)) (
 j3 x42 x43 x44 h46))) (fun x47 x48 x49 h50 =>
 J 4 (fun j51 =>
 B2 (cf (.func (.func 10) [] []) [(.int .i64 1000)] h50) fun v52 h53 =>
 B1 (ex 0 v52) fun v54 =>
 B1 (ex 1 v52) fun v55 =>
 j51 x47 x48 x49 v54 h53) (fun x56 x57 x58 x59 h60 =>
 J 4 (fun j61 =>
 J 5 (fun j62 =>
 B1 (eqB .eql (pe x59 .ptr0 h60)) fun v63 =>
 G v63 false (fun k64 =>
 k64 x59 h60) (fun v65 h66 =>
 G v63 false (fun k67 =>
 k67 x56 h66) (fun v68 h69 =>
 G v63 false (fun k70 =>
 B2 (cf (.func (.func 11) [] []) [v65, (.str [102]), v68] h69) fun v71 h72 =>
 k70 v71 h72) (fun v73 h74 =>
 G v63 false (fun k75 =>
 B1 (ine v73 (.int .i64 0)) fun v76 =>
 k75 v76 h74) (fun v77 h78 =>
 B1 (pk v63 (.bool true) v77) fun v79 =>
 G v79 false (fun k80 =>
 k80 x59 h78) (fun v81 h82 =>
 G v79 false (fun k83 =>
 B2 (cf (.func (.func 12) [] []) [v81, (.str [102])] h82) fun v84 h85 =>
 k83 v84 h85) (fun v86 h87 =>
 G v79 false (fun k88 =>
 B1 (ine v86 (.int .i64 0)) fun v89 =>
 k88 v89 h87) (fun v90 h91 =>
 B1 (pk v79 (.bool true) v90) fun v92 =>
 G v92 false (fun k93 =>
 k93 x59 h91) (fun v94 h95 =>
 G v92 false (fun k96 =>
 k96 x57 h95) (fun v97 h98 =>
 G v92 false (fun k99 =>
 B2 (cf (.func (.func 18) [] []) [v94, (.str [102]), v97] h98) fun v100 h101 =>
 k99 v100 h101) (fun v102 h103 =>
 G v92 false (fun k104 =>
 B1 (ine v102 (.int .i64 0)) fun v105 =>
 k104 v105 h103) (fun v106 h107 =>
 B1 (pk v92 (.bool true) v106) fun v108 =>
 G v108 false (fun k109 =>
 k109 x59 h107) (fun v110 h111 =>
 G v108 false (fun k112 =>
 k112 x58 h111) (fun v113 h114 =>
 G v108 false (fun k115 =>
 B2 (cf (.func (.func 11) [] []) [v110, (.str [102]), v113] h114) fun v116 h117 =>
 k115 v116 h117) (fun v118 h119 =>
 G v108 false (fun k120 =>
 B1 (ine v118 (.int .i64 0)) fun v121 =>
 k120 v121 h119) (fun v122 h123 =>
 B1 (pk v108 (.bool true) v122) fun v124 =>
 j62 x56 x57 x58 x59 v124 h123) h119) h114) h111) h107) h103) h98) h95) h91) h87) h82) h78) h74) h69) h66) h60) (fun x125 x126 x127 x128 x129 h130 =>
 CD x129 (
 some ((.bool false), h130)) (
 j61 x125 x126 x127 x128 h130))) (fun x131 x132 x133 x134 h135 =>
 J 6 (fun j136 =>
 B2 (cf (.func (.func 15) [] []) [x134, (.str [102])] h135) fun v137 h138 =>
 B1 (ex 0 v137) fun v139 =>
 B1 (ex 1 v137) fun v140 =>
 j136 x131 x132 x133 x134 v139 v140 h138) (fun x141 x142 x143 x144 x145 x146 h147 =>
 B2 (cf (.func (.func 13) [] []) [x144, .slice0] h147) fun v148 h149 =>
 B2 (cf (.func (.func 14) [] []) [x144] h149) fun v150 h151 =>
 J 7 (fun j152 =>
 B2 (cf (.func (.func 15) [] []) [x144, (.str [102])] h151) fun v153 h154 =>
 B1 (ex 0 v153) fun v155 =>
 B1 (ex 1 v153) fun v156 =>
 j152 x141 x142 x143 x145 x146 v155 v156 h154) (fun x157 x158 x159 x160 x161 x162 x163 h164 =>
 B1 (ieq x161 (.int .i64 0)) fun v165 =>
 GD2 v165 true (
 B1 (ieq x163 (.int .i64 0)) fun v166 =>
 GD2 v166 true (
 B1 (b2s x160 h164) fun v167 =>
 B1 (sll 1 x157 none (some x158) none) fun v168 =>
 B1 (b2s v168 h164) fun v169 =>
 B1 (b2s x159 h164) fun v170 =>
 B1 (scat v169 v170) fun v171 =>
 B1 (seq v167 v171) fun v172 =>
 GD2 v172 true (
 B1 (b2s x162 h164) fun v173 =>
 B1 (sll 1 x157 none (some x158) none) fun v174 =>
 B1 (b2s v174 h164) fun v175 =>
 B1 (seq v173 v175) fun v176 =>
 some (v176, h164)) (
 some ((.bool false), h164))) (
 some ((.bool false), h164))) (
 some ((.bool false), h164))))))))

theorem e_outriderlaw5_StoreCuts (J : JT) (G : GT) (cf : CF) (a0 a1 a2 : AV) (H : Hp) : callF P J G prim an cf 5 [a0, a1, a2] H = s_outriderlaw5_StoreCuts J G cf a0 a1 a2 H := by kernel_rfl

theorem c_outriderlaw5_StoreCuts {a0 a1 a2 : AV} {H : Hp} {r : AV × Hp} (h : s_outriderlaw5_StoreCuts JN GO cK a0 a1 a2 H = some r) : cK (.func (.func 5) [] []) [a0, a1, a2] H = some r := callF_fix (first := []) (cap := []) ((e_outriderlaw5_StoreCuts JN GO _ a0 a1 a2 H).trans h)

noncomputable def s_outriderlaw5_StoreSwaps (J : JT) (G : GT) (cf : CF) (a0 a1 a2 a3 : AV) (H : Hp) : R :=
 B2 (cf (.func (.func 9) [] []) [] H) fun v0 h1 =>
 B1 (unA .not v0) fun v2 =>
 CD v2 (
 some ((.bool false), h1)) (
 J 4 (fun j3 =>
 J 5 (fun j4 =>
 B1 (lenx a0) fun v5 =>
 B1 (igt v5 (.int .i64 200)) fun v6 =>
 G v6 false (fun k7 =>
 k7 a1 h1) (fun v8 h9 =>
 G v6 false (fun k10 =>
 B1 (lenx v8) fun v11 =>
 k10 v11 h9) (fun v12 h13 =>
 G v6 false (fun k14 =>
 B1 (igt v12 (.int .i64 200)) fun v15 =>
 k14 v15 h13) (fun v16 h17 =>
 B1 (pk v6 (.bool true) v16) fun v18 =>
 G v18 false (fun k19 =>
 k19 a3 h17) (fun v20 h21 =>
 G v18 false (fun k22 =>
 B1 (lenx v20) fun v23 =>
 k22 v23 h21) (fun v24 h25 =>
 G v18 false (fun k26 =>
 B1 (igt v24 (.int .i64 5)) fun v27 =>
 k26 v27 h25) (fun v28 h29 =>
 B1 (pk v18 (.bool true) v28) fun v30 =>
 G v30 false (fun k31 =>
 k31 a2 h29) (fun v32 h33 =>
 G v30 false (fun k34 =>
 B1 (ilt v32 (.int .i64 1)) fun v35 =>
 k34 v35 h33) (fun v36 h37 =>
 B1 (pk v30 (.bool true) v36) fun v38 =>
 j4 a0 a1 a2 a3 v38 h37) h33) h29) h25) h21) h17) h13) h9) h1) (fun x39 x40 x41 x42 x43 h44 =>
 CD x43 (
 some ((.bool true), h44)) (
 j3 x39 x40 x41 x42 h44))) (fun x45 x46 x47 x48 h49 =>
 J 5 (fun j50 =>
 B2 (cf (.func (.func 10) [] []) [(.int .i64 1000)] h49) fun v51 h52 =>
 B1 (ex 0 v51) fun v53 =>
 B1 (ex 1 v51) fun v54 =>
 j50 x45 x46 x47 x48 v53 h52) (fun x55 x56 x57 x58 x59 h60 =>
 J 5 (fun j61 =>
 J 6 (fun j62 =>
 B1 (eqB .eql (pe x59 .ptr0 h60)) fun v63 =>
 G v63 false (fun k64 =>
 k64 x59 h60) (fun v65 h66 =>
 G v63 false (fun k67 =>
 k67 x55 h66) (fun v68 h69 =>
 G v63 false (fun k70 =>
 B2 (cf (.func (.func 11) [] []) [v65, (.str [111, 108, 100]), v68] h69) fun v71 h72 =>
 k70 v71 h72) (fun v73 h74 =>
 G v63 false (fun k75 =>
 B1 (ine v73 (.int .i64 0)) fun v76 =>
 k75 v76 h74) (fun v77 h78 =>
 B1 (pk v63 (.bool true) v77) fun v79 =>
 G v79 false (fun k80 =>
 k80 x59 h78) (fun v81 h82 =>
 G v79 false (fun k83 =>
 B2 (cf (.func (.func 12) [] []) [v81, (.str [111, 108, 100])] h82) fun v84 h85 =>
 k83 v84 h85) (fun v86 h87 =>
 G v79 false (fun k88 =>
 B1 (ine v86 (.int .i64 0)) fun v89 =>
 k88 v89 h87) (fun v90 h91 =>
 B1 (pk v79 (.bool true) v90) fun v92 =>
 j62 x55 x56 x57 x58 x59 v92 h91) h87) h82) h78) h74) h69) h66) h60) (fun x93 x94 x95 x96 x97 x98 h99 =>
 CD x98 (
 some ((.bool false), h99)) (
 j61 x93 x94 x95 x96 x97 h99))) (fun x100 x101 x102 x103 x104 h105 =>
 B2 (cf (.func (.func 19) [] []) [x104, x102, x103] h105) fun v106 h107 =>
 B2 (cf (.func (.func 11) [] []) [x104, (.str [110, 101, 119]), x101] h107) fun v108 h109 =>
 J 5 (fun j110 =>
 B1 (ieq v108 (.int .i64 0)) fun v111 =>
 CD v111 (
 B2 (cf (.func (.func 20) [] []) [x104, (.str [110, 101, 119]), (.str [111, 108, 100])] h109) fun v112 h113 =>
 j110 x100 x101 x103 x104 v112 h113) (
 j110 x100 x101 x103 x104 v108 h109)) (fun x114 x115 x116 x117 x118 h119 =>
 B2 (cf (.func (.func 13) [] []) [x117, x116] h119) fun v120 h121 =>
 B2 (cf (.func (.func 14) [] []) [x117] h121) fun v122 h123 =>
 J 5 (fun j124 =>
 B2 (cf (.func (.func 15) [] []) [x117, (.str [111, 108, 100])] h123) fun v125 h126 =>
 B1 (ex 0 v125) fun v127 =>
 B1 (ex 1 v125) fun v128 =>
 j124 x114 x115 x118 v127 v128 h126) (fun x129 x130 x131 x132 x133 h134 =>
 B1 (ieq x133 (.int .i64 0)) fun v135 =>
 G v135 true (fun k136 =>
 k136 x131 h134) (fun v137 h138 =>
 G v135 true (fun k139 =>
 B1 (ieq v137 (.int .i64 0)) fun v140 =>
 k139 v140 h138) (fun v141 h142 =>
 G v135 true (fun k143 =>
 k143 v141 h142) (fun v144 h145 =>
 G v144 true (fun k146 =>
 k146 x132 h145) (fun v147 h148 =>
 G v144 true (fun k149 =>
 B1 (b2s v147 h148) fun v150 =>
 k149 v150 h148) (fun v151 h152 =>
 G v144 true (fun k153 =>
 k153 x130 h152) (fun v154 h155 =>
 G v144 true (fun k156 =>
 B1 (b2s v154 h155) fun v157 =>
 k156 v157 h155) (fun v158 h159 =>
 G v144 true (fun k160 =>
 B1 (seq v151 v158) fun v161 =>
 k160 v161 h159) (fun v162 h163 =>
 G v135 true (fun k164 =>
 B1 (pk v144 v162 (.bool false)) fun v165 =>
 k164 v165 h163) (fun v166 h167 =>
 G v135 true (fun k168 =>
 k168 v166 h167) (fun v169 h170 =>
 G v169 false (fun k171 =>
 k171 x131 h170) (fun v172 h173 =>
 G v169 false (fun k174 =>
 B1 (ine v172 (.int .i64 0)) fun v175 =>
 k174 v175 h173) (fun v176 h177 =>
 G v169 false (fun k178 =>
 k178 v176 h177) (fun v179 h180 =>
 G v179 true (fun k181 =>
 k181 x132 h180) (fun v182 h183 =>
 G v179 true (fun k184 =>
 B1 (b2s v182 h183) fun v185 =>
 k184 v185 h183) (fun v186 h187 =>
 G v179 true (fun k188 =>
 k188 x129 h187) (fun v189 h190 =>
 G v179 true (fun k191 =>
 B1 (b2s v189 h190) fun v192 =>
 k191 v192 h190) (fun v193 h194 =>
 G v179 true (fun k195 =>
 B1 (seq v186 v193) fun v196 =>
 k195 v196 h194) (fun v197 h198 =>
 G v169 false (fun k199 =>
 B1 (pk v179 v197 (.bool false)) fun v200 =>
 k199 v200 h198) (fun v201 h202 =>
 G v135 true (fun k203 =>
 B1 (pk v169 (.bool true) v201) fun v204 =>
 k203 v204 h202) (fun v205 h206 =>
 B1 (pk v135 v205 (.bool false)) fun v207 =>
 some (v207, h206)) h202) h198) h194) h190) h187) h183) h180) h177) h173) h170) h167) h163) h159) h155) h152) h148) h145) h142) h138) h134))))))

theorem e_outriderlaw5_StoreSwaps (J : JT) (G : GT) (cf : CF) (a0 a1 a2 a3 : AV) (H : Hp) : callF P J G prim an cf 6 [a0, a1, a2, a3] H = s_outriderlaw5_StoreSwaps J G cf a0 a1 a2 a3 H := by kernel_rfl

theorem c_outriderlaw5_StoreSwaps {a0 a1 a2 a3 : AV} {H : Hp} {r : AV × Hp} (h : s_outriderlaw5_StoreSwaps JN GO cK a0 a1 a2 a3 H = some r) : cK (.func (.func 6) [] []) [a0, a1, a2, a3] H = some r := callF_fix (first := []) (cap := []) ((e_outriderlaw5_StoreSwaps JN GO _ a0 a1 a2 a3 H).trans h)

end
end Go.Proofs.YtnabkcdchklnpaaDoor.StK
