/- Plain forms of functions, printed by a program of our own, and that the evaluator's reading of each is its plain form (of no conditions). -/
import Derived.Test.YtdacjomfipkpaaaDoorSgEnv
namespace Go.Proofs.YtdacjomfipkpaaaDoor.SgK
open Go Am Am.K SgEnv
set_option linter.unusedVariables false
set_option maxRecDepth 100000
noncomputable section
noncomputable abbrev P : Program := Tryd.prog
noncomputable def an (g : Nat) : An :=
  bif Nat.beq g 53 then (.sq none .nl (.sq none .nl .nl)) else
  bif Nat.beq g 54 then (.sq none .nl (.sq none .nl .nl)) else
  bif Nat.beq g 52 then (.sq none .nl (.sq (some [3, 4]) .nl (.sq none .nl .nl))) else
  bif Nat.beq g 33 then (.sq none .nl (.sq (some [0, 1]) (.sq none .nl (.cd (.sq none .nl .nl) .nl)) (.sq (some [1, 6, 7]) .nl (.sq (some [6, 7]) (.sq none .nl (.bl (some [6, 7]) (.lp [6, 7, 18, 19, 20] (.sq none .nl (.sq none (.cd .nl .nl) (.sq (some [6, 7, 18, 19, 20]) (.bl none (.sq none .nl (.sq (some [6, 7, 18, 19, 20]) .nl .nl))) .nl)))))) (.sq none .nl .nl))))) else
  bif Nat.beq g 34 then (.sq none .nl (.sq (some [3]) .nl (.sq none .nl .nl))) else
  bif Nat.beq g 17 then (.sq none .nl (.sq (some [0, 1]) (.sq (some [0, 1, 19]) .nl (.cd (.sq none .nl .nl) .nl)) (.sq none .nl .nl))) else
  bif Nat.beq g 19 then (.sq none .nl (.sq none .nl .nl)) else
  bif Nat.beq g 20 then (.sq none .nl (.sq none .nl .nl)) else
  bif Nat.beq g 32 then (.sq none .nl (.sq (some [0]) (.sq none .nl (.bl (some [0]) (.lp [0, 1, 8, 9] (.sq none .nl (.sq none (.cd .nl .nl) (.sq (some [0, 1, 8, 9]) (.bl none (.sq none .nl .nl)) .nl)))))) (.sq none .nl .nl))) else
  bif Nat.beq g 48 then (.sq none .nl (.sq none .nl (.sq (some [3]) (.sq none .nl (.bl (some [3]) (.lp [3, 6, 7, 8] (.sq none .nl (.sq none (.cd .nl .nl) (.sq (some [3, 6, 7, 8]) (.bl none (.sq (some [3, 4, 5, 6, 7, 8]) .nl .nl)) .nl)))))) (.sq none .nl .nl)))) else
  bif Nat.beq g 18 then (.sq none .nl (.sq (some [0, 3]) (.sq none .nl (.cd (.sq none .nl .nl) .nl)) (.sq (some [0, 3, 6]) .nl (.sq (some [0, 3, 6, 7]) .nl (.sq none .nl .nl))))) else
  bif Nat.beq g 28 then (.sq none .nl (.sq (some [0, 2]) (.sq none .nl (.cd (.sq none .nl .nl) .nl)) (.sq (some [0, 2, 3]) .nl (.sq (some [0, 2, 3]) (.bl none (.sq none .nl (.cd (.sq none .nl .nl) (.sq (some [0, 2, 3, 19]) .nl (.cd (.sq none .nl .nl) .nl))))) (.sq (some [0, 2, 3, 5]) .nl (.sq (some [0, 2, 3]) (.sq (some [0, 2, 3, 42]) .nl (.cd (.sq none .nl .nl) .nl)) (.sq none .nl .nl))))))) else
  bif Nat.beq g 49 then (.sq none .nl (.sq none (.sq none .nl (.cd (.sq none .nl .nl) .nl)) (.sq none .nl .nl))) else
  bif Nat.beq g 55 then (.sq none .nl (.sq (some [0, 1]) (.sq none .nl (.cd .nl .nl)) (.sq (some [0]) (.sq (some [0, 1]) .nl (.sq none .nl (.cd .nl .nl))) (.sq none .nl .nl)))) else
  bif Nat.beq g 35 then (.sq none .nl (.sq none .nl (.sq (some [0, 3]) (.sq none .nl (.bl (some [0, 3]) (.lp [0, 3, 9, 10, 11] (.sq none .nl (.sq none (.cd .nl .nl) (.sq (some [0, 3, 9, 10, 11]) (.bl (some [0, 3, 9, 10, 11]) (.sq none .nl (.sq (some [0, 3, 9, 10, 11]) .nl (.sq none .nl (.cd .nl .nl))))) .nl)))))) (.sq none .nl (.sq (some [6]) (.sq none .nl (.bl (some [6]) (.lp [6, 25, 26, 27] (.sq none .nl (.sq none (.cd .nl .nl) (.sq (some [6, 25, 26, 27]) (.bl none (.sq none .nl .nl)) .nl)))))) (.sq none .nl .nl)))))) else
  bif Nat.beq g 14 then (.sq none .nl (.sq (some [6, 7]) (.bl (some [6, 7]) (.lp [0, 1, 2, 6, 7] (.sq none (.sq none .nl (.cd .nl .nl)) (.bl none (.sq (some [0, 1, 2, 6, 7, 8, 9, 10]) .nl (.sq (some [0, 1, 6, 7, 8, 9]) (.sq (some [0, 1, 6, 7, 8, 9, 38]) .nl (.cd .nl .nl)) (.sq (some [0, 1, 6, 7, 8, 9]) .nl (.sq none .nl .nl)))))))) (.sq none .nl .nl))) else
  bif Nat.beq g 21 then (.sq none .nl (.sq none .nl (.sq (some [3]) (.sq none .nl (.bl (some [3]) (.lp [3, 8, 9, 10] (.sq none .nl (.sq none (.cd .nl .nl) (.sq (some [3, 8, 9, 10]) (.bl (some [3, 8, 9, 10]) (.sq none .nl (.sq (some [3, 6, 7, 8, 9, 10]) .nl (.sq none .nl (.cd .nl .nl))))) .nl)))))) (.sq none .nl (.sq none .nl .nl))))) else
  bif Nat.beq g 16 then (.sq none .nl (.sq (some [0, 1]) (.sq (some [0, 1, 10]) .nl (.cd (.sq none .nl .nl) .nl)) (.sq (some []) (.sq none .nl (.bl (some []) (.lp [0, 1, 5] (.sq none (.sq none .nl (.cd .nl .nl)) (.sq (some [0, 1, 5]) (.bl none (.sq (some [0, 1, 5, 41]) .nl (.cd (.sq none .nl .nl) .nl))) .nl))))) (.sq none .nl .nl)))) else
  bif Nat.beq g 12 then (.sq none .nl (.sq (some [0]) (.sq (some [0, 11]) .nl (.cd (.sq none .nl .nl) .nl)) (.sq none .nl (.sq (some [4]) (.sq none .nl (.bl (some [4]) (.lp [0, 4, 5] (.sq none (.sq none .nl (.cd .nl .nl)) (.sq (some [0, 4, 5]) (.bl none (.sq (some [0, 4, 5]) .nl .nl)) .nl))))) (.sq none .nl .nl))))) else
  bif Nat.beq g 13 then (.sq none .nl (.sq none .nl (.sq (some [0, 4]) (.sq none .nl (.cd (.sq none .nl .nl) .nl)) (.sq (some [0, 4]) (.sq none .nl (.bl (some [0, 4]) (.lp [0, 4, 5] (.sq none (.sq none .nl (.cd .nl .nl)) (.sq (some [0, 4, 5]) (.bl none (.sq (some [0, 4, 5, 6]) .nl (.sq (some [0, 4, 5, 6]) (.sq none .nl (.cd .nl .nl)) (.sq (some [0, 4, 5, 6]) (.sq (some [0, 4, 5, 6, 36]) .nl (.cd (.sq none .nl .nl) .nl)) .nl)))) .nl))))) (.sq (some [0, 4, 7, 8]) .nl (.sq none .nl .nl)))))) else
  bif Nat.beq g 27 then (.sq none .nl (.sq none (.sq none .nl (.cd (.sq none .nl .nl) .nl)) (.sq none .nl .nl))) else
  bif Nat.beq g 15 then (.sq none .nl (.sq none .nl (.sq none .nl (.sq (some [8, 9]) (.bl (some [8, 9]) (.lp [0, 1, 2, 8, 9] (.sq none (.sq none .nl (.cd .nl .nl)) (.bl none (.sq (some [0, 1, 2, 8, 9, 10, 11, 12]) .nl (.sq (some [0, 1, 8, 9, 10, 11]) (.sq (some [0, 1, 8, 9, 10, 11, 40]) .nl (.cd .nl .nl)) (.sq (some [0, 1, 8, 9, 10, 11]) .nl (.sq none .nl .nl)))))))) (.sq none .nl .nl))))) else
  bif Nat.beq g 29 then (.sq none .nl (.sq (some [0, 2]) (.sq (some [0, 2, 15]) .nl (.cd (.sq none .nl .nl) .nl)) (.sq (some [0, 2]) (.sq (some [0, 2, 29]) .nl (.cd (.sq none .nl .nl) .nl)) (.sq (some [0, 2, 5]) .nl (.sq (some [0, 2, 5, 6]) .nl (.sq (some [0, 2, 5, 6]) (.sq (some [0, 2, 5, 6, 50]) .nl (.cd (.sq none .nl .nl) .nl)) (.sq none .nl .nl))))))) else
  bif Nat.beq g 30 then (.sq none .nl (.sq none .nl .nl)) else
  bif Nat.beq g 31 then (.sq none .nl (.sq none .nl .nl)) else
  bif Nat.beq g 50 then (.sq none .nl (.sq none .nl (.sq (some [3]) (.sq none .nl (.bl (some [3]) (.lp [0, 3, 4] (.sq none (.sq none .nl (.cd .nl .nl)) (.sq (some [0, 3, 4]) (.bl none .nl) .nl))))) (.sq none .nl .nl)))) else
  bif Nat.beq g 51 then (.sq none .nl (.sq (some [3]) .nl (.sq none .nl .nl))) else
  bif Nat.beq g 72 then (.sq none .nl (.sq (some [0, 1]) (.sq none .nl (.cd (.sq none .nl .nl) .nl)) (.sq (some [1, 6, 7]) .nl (.sq (some [6, 7]) (.sq none .nl (.bl (some [6, 7]) (.lp [1, 6, 7, 8] (.sq none (.sq none .nl (.cd .nl .nl)) (.sq (some [1, 6, 7, 8]) (.bl none (.sq (some [1, 6, 7, 8]) .nl .nl)) .nl))))) (.sq none .nl .nl))))) else
  bif Nat.beq g 95 then (.sq none .nl (.sq none .nl .nl)) else
  bif Nat.beq g 96 then (.sq none .nl (.sq none .nl .nl)) else
  bif Nat.beq g 98 then (.sq none .nl (.sq none .nl .nl)) else
  bif Nat.beq g 97 then (.sq none .nl (.sq none .nl .nl)) else
  bif Nat.beq g 4 then (.sq none .nl (.sq none (.sq none .nl (.cd (.sq none .nl .nl) .nl)) (.sq (some [0, 1, 2, 3]) (.sq (some [0, 1, 2, 3, 30]) .nl (.cd (.sq none .nl .nl) .nl)) (.sq (some [0, 1, 2, 3, 9, 10]) .nl (.sq (some [0, 1, 2, 3, 9, 10, 11, 12]) .nl (.sq (some [0, 1, 2, 3, 9, 10, 11, 12, 13, 14]) .nl (.sq (some [0, 2, 3, 9, 10, 11, 12, 13, 14, 15, 16]) .nl (.sq (some [0, 2, 3, 9, 10, 11, 12, 13, 14, 15, 16, 17, 18]) .nl (.sq (some [9, 10, 11, 12, 13, 14, 15, 16, 17, 18, 19, 20]) .nl (.sq none .nl .nl)))))))))) else
  bif Nat.beq g 5 then (.sq none .nl (.sq none (.sq none .nl (.cd (.sq none .nl .nl) .nl)) (.sq none (.sq none .nl (.cd (.sq none .nl .nl) .nl)) (.sq none .nl (.sq (some [1, 2, 3, 9]) (.sq none .nl (.bl (some [1, 2, 3, 9]) (.lp [0, 1, 2, 3, 9, 10] (.sq none (.sq none .nl (.cd .nl .nl)) (.sq (some [0, 1, 2, 3, 9, 10]) (.bl none (.sq (some [0, 1, 2, 3, 9, 10, 11, 12]) .nl (.sq (some [0, 1, 2, 3, 9, 10, 11]) (.sq (some [0, 1, 2, 3, 9, 10, 11, 55]) .nl (.cd (.sq none .nl .nl) .nl)) (.sq (some [0, 1, 2, 3, 10, 13, 14]) .nl (.sq none (.sq none .nl (.cd (.sq none .nl .nl) .nl)) .nl))))) .nl))))) (.sq (some [1, 2, 9]) (.sq (some [1, 2, 3, 9, 78]) .nl (.cd .nl .nl)) (.sq (some [1, 2, 9, 15, 16]) .nl (.sq (some [1, 2, 9, 15, 16, 17, 18]) .nl (.sq (some [1, 2, 15]) (.sq (some [1, 2, 15, 110]) .nl (.cd (.sq none .nl .nl) .nl)) (.sq (some []) (.sq none .nl (.bl (some []) (.lp [1, 2, 15, 19] (.sq none (.sq none .nl (.cd .nl .nl)) (.sq (some [1, 2, 15, 19]) (.bl none (.sq (some [1, 2, 15, 19, 156]) .nl (.cd (.sq none .nl .nl) .nl))) .nl))))) (.sq none .nl .nl))))))))))) else
  bif Nat.beq g 6 then (.sq none .nl (.sq none (.sq none .nl (.cd (.sq none .nl .nl) .nl)) (.sq (some [0, 1]) (.sq (some [0, 1, 23]) .nl (.cd (.sq none .nl .nl) .nl)) (.sq none .nl (.sq (some [0, 1, 5]) (.sq none .nl (.bl (some [0, 1, 5]) (.lp [0, 1, 5, 6] (.sq none (.sq none .nl (.cd .nl .nl)) (.sq (some [0, 1, 5, 6]) (.bl none (.sq (some [0, 1, 5, 6, 7, 8]) .nl (.sq (some [0, 1, 6, 8, 9, 10]) .nl (.sq (some [0, 1, 6, 8, 9, 10]) (.sq (some [0, 1, 6, 8, 9, 10, 53]) .nl (.cd (.sq none .nl .nl) .nl)) (.sq (some [0, 1, 6, 9]) (.sq (some [0, 1, 6, 9, 59]) .nl (.cd (.sq none .nl .nl) .nl)) .nl))))) .nl))))) (.sq (some [0, 5, 11, 12]) .nl (.sq (some [0, 11]) (.sq (some [0, 11, 80]) .nl (.cd (.sq none .nl .nl) .nl)) (.sq (some []) (.sq none .nl (.bl (some []) (.lp [0, 11, 13] (.sq none (.sq none .nl (.cd .nl .nl)) (.sq (some [0, 11, 13]) (.bl none (.sq (some [0, 11, 13, 118]) .nl (.cd (.sq none .nl .nl) .nl))) .nl))))) (.sq none .nl .nl))))))))) else
  bif Nat.beq g 7 then (.sq none .nl (.sq none (.sq none .nl (.cd (.sq none .nl .nl) .nl)) (.sq (some [0, 1]) (.sq (some [0, 1, 29]) .nl (.cd (.sq none .nl .nl) .nl)) (.sq none .nl (.sq (some [1, 5]) (.sq none .nl (.bl (some [1, 5]) (.lp [1, 5, 6] (.sq none (.sq none .nl (.cd .nl .nl)) (.sq (some [1, 5, 6]) (.bl (some [1, 5, 6]) (.sq (some [1, 5, 6, 7, 8]) .nl (.sq none .nl (.cd .nl .nl)))) .nl))))) (.sq none .nl (.sq (some [1, 9]) (.sq none .nl (.bl (some [1, 9]) (.lp [1, 5, 9, 10] (.sq none (.sq none .nl (.cd .nl .nl)) (.sq (some [1, 5, 9, 10]) (.bl (some [1, 5, 9, 10]) (.sq (some [1, 5, 9, 10, 11, 12]) .nl (.sq none .nl (.sq (some [1, 5, 9, 10, 12, 13]) (.sq none .nl (.bl (some [1, 5, 9, 10, 12, 13]) (.lp [1, 5, 9, 10, 11, 12, 13, 14] (.sq none (.sq none .nl (.cd .nl .nl)) (.sq (some [1, 5, 9, 10, 11, 12, 13, 14]) (.bl none .nl) .nl))))) (.sq (some [1, 5, 9, 10, 104]) .nl (.cd (.sq none .nl .nl) .nl)))))) .nl))))) (.sq (some []) (.sq none .nl (.bl (some []) (.lp [1, 9, 15] (.sq none (.sq none .nl (.cd .nl .nl)) (.sq (some [1, 9, 15]) (.bl (some [1, 9, 15]) (.sq (some [1, 9, 15, 17]) .nl (.sq none .nl (.sq (some [1, 9, 15, 17, 18]) (.sq none .nl (.bl (some [1, 9, 15, 17, 18]) (.lp [1, 9, 15, 17, 18, 19] (.sq none (.sq none .nl (.cd .nl .nl)) (.sq (some [1, 9, 15, 17, 18, 19]) (.bl none .nl) .nl))))) (.sq none .nl (.cd (.sq none .nl .nl) .nl)))))) .nl))))) (.sq none .nl .nl))))))))) else
  bif Nat.beq g 37 then (.sq none .nl (.sq (some [0]) (.sq none .nl (.cd (.sq none .nl .nl) .nl)) (.sq (some [0]) (.sq none .nl (.bl (some [0]) (.lp [0, 3] (.sq none (.sq none .nl (.cd .nl .nl)) (.sq (some [0, 3]) (.bl (some [0, 3]) (.sq (some [0, 3, 25]) .nl (.cd (.sq none .nl (.sq (some [0, 3]) (.sq none .nl (.bl (some [0, 3]) (.lp [0, 3, 4, 5] (.sq none (.sq none .nl (.cd .nl .nl)) (.sq (some [0, 3, 4, 5]) (.bl (some [0, 3, 4, 5]) (.sq (some [0, 3, 4, 5, 44]) .nl (.cd (.sq (some [0, 3, 4, 5]) .nl .nl) .nl))) .nl))))) (.sq none .nl (.sq none .nl .nl)))) .nl))) .nl))))) (.sq none .nl .nl)))) else
  .nl
noncomputable abbrev cK : CF := CK P (regK P) ext prim an

noncomputable def s_sum_parts (J : JT) (G : GT) (cf : CF) (a0 : AV) (H : Hp) : R :=
 B1 (iand a0 (.int .u32 65535)) fun v0 =>
 B1 (cv .i64 v0) fun v1 =>
 B1 (ishr a0 (.int .u64 16)) fun v2 =>
 B1 (cv .i64 v2) fun v3 =>
 some (.tuple [v1, v3], H)

theorem e_sum_parts (J : JT) (G : GT) (cf : CF) (a0 : AV) (H : Hp) : callF P J G prim an cf 53 [a0] H = s_sum_parts J G cf a0 H := by kernel_rfl

theorem c_sum_parts {a0 : AV} {H : Hp} {r : AV × Hp} (h : s_sum_parts JN GO cK a0 H = some r) : cK (.func (.func 53) [] []) [a0] H = some r := callF_fix (first := []) (cap := []) ((e_sum_parts JN GO _ a0 H).trans h)

noncomputable def s_sum_made (J : JT) (G : GT) (cf : CF) (a0 a1 : AV) (H : Hp) : R :=
 B1 (irem a1 (.int .i64 65521)) fun v0 =>
 B1 (iadd v0 (.int .i64 65521)) fun v1 =>
 B1 (irem v1 (.int .i64 65521)) fun v2 =>
 B1 (cv .u32 v2) fun v3 =>
 B1 (ishl v3 (.int .u64 16)) fun v4 =>
 B1 (irem a0 (.int .i64 65521)) fun v5 =>
 B1 (iadd v5 (.int .i64 65521)) fun v6 =>
 B1 (irem v6 (.int .i64 65521)) fun v7 =>
 B1 (cv .u32 v7) fun v8 =>
 B1 (ior v4 v8) fun v9 =>
 some (v9, H)

theorem e_sum_made (J : JT) (G : GT) (cf : CF) (a0 a1 : AV) (H : Hp) : callF P J G prim an cf 54 [a0, a1] H = s_sum_made J G cf a0 a1 H := by kernel_rfl

theorem c_sum_made {a0 a1 : AV} {H : Hp} {r : AV × Hp} (h : s_sum_made JN GO cK a0 a1 H = some r) : cK (.func (.func 54) [] []) [a0, a1] H = some r := callF_fix (first := []) (cap := []) ((e_sum_made JN GO _ a0 a1 H).trans h)

noncomputable def s_sum_Good (J : JT) (G : GT) (cf : CF) (a0 : AV) (H : Hp) : R :=
 J 2 (fun j0 =>
 B2 (cf (.func (.func 53) [] []) [a0] H) fun v1 h2 =>
 B1 (ex 0 v1) fun v3 =>
 B1 (ex 1 v1) fun v4 =>
 j0 v3 v4 h2) (fun x5 x6 h7 =>
 B1 (ilt x5 (.int .i64 65521)) fun v8 =>
 G v8 true (fun k9 =>
 k9 x6 h7) (fun v10 h11 =>
 G v8 true (fun k12 =>
 B1 (ilt v10 (.int .i64 65521)) fun v13 =>
 k12 v13 h11) (fun v14 h15 =>
 B1 (pk v8 v14 (.bool false)) fun v16 =>
 some (v16, h15)) h11) h7)

theorem e_sum_Good (J : JT) (G : GT) (cf : CF) (a0 : AV) (H : Hp) : callF P J G prim an cf 52 [a0] H = s_sum_Good J G cf a0 H := by kernel_rfl

theorem c_sum_Good {a0 : AV} {H : Hp} {r : AV × Hp} (h : s_sum_Good JN GO cK a0 H = some r) : cK (.func (.func 52) [] []) [a0] H = some r := callF_fix (first := []) (cap := []) ((e_sum_Good JN GO _ a0 H).trans h)

noncomputable def l_sum_On (J : JT) (G : GT) (cf : CF) (j18 : K.Fn 2) : K.Fn 5 := LP 5 fun j19 => fun x20 x21 x22 x23 x24 h25 =>
 B1 (ilt x24 x23) fun v26 =>
 CD v26 (
 J 5 (fun j27 =>
 B1 (ia 1 x22 x24) fun v28 =>
 B1 (ld v28 h25) fun v29 =>
 J 5 (fun j30 =>
 B1 (cv .i64 v29) fun v31 =>
 B1 (iadd x20 v31) fun v32 =>
 B1 (irem v32 (.int .i64 65521)) fun v33 =>
 j30 v33 x21 x22 x23 x24 h25) (fun x34 x35 x36 x37 x38 h39 =>
 B1 (iadd x35 x34) fun v40 =>
 B1 (irem v40 (.int .i64 65521)) fun v41 =>
 j27 x34 v41 x36 x37 x38 h39)) (fun x42 x43 x44 x45 x46 h47 =>
 B1 (iadd x46 (.int .i64 1)) fun v48 =>
 j19 x42 x43 x44 x45 v48 h47)) (
 j18 x20 x21 h25)

theorem rl_sum_On (J : JT) (G : GT) (cf : CF) (j18 : K.Fn 2) (j19 : K.Fn 5) (x20 x21 x22 x23 x24 : AV) (h25 : Hp) : codeF P J G cf (nT P 33) (atC P 33 [1, 1, 1, 0, 1, 0, 0]) (.sq none .nl (.sq none (.cd .nl .nl) (.sq (some [6, 7, 18, 19, 20]) (.bl none (.sq none .nl (.sq (some [6, 7, 18, 19, 20]) .nl .nl))) .nl))) (fun t H => app 5 j19 (vals [6, 7, 18, 19, 20] t) H) (fun q t H => match Nat.beq q 0 with | true => app 2 j18 (vals [6, 7] t) H | false => (fun _ _ _ => none) q t H) (retK P 33) (mkT (nT P 33) [6, 7, 18, 19, 20] [x20, x21, x22, x23, x24]) h25 =
(B1 (ilt x24 x23) fun v26 =>
 CD v26 (
 J 5 (fun j27 =>
 B1 (ia 1 x22 x24) fun v28 =>
 B1 (ld v28 h25) fun v29 =>
 J 5 (fun j30 =>
 B1 (cv .i64 v29) fun v31 =>
 B1 (iadd x20 v31) fun v32 =>
 B1 (irem v32 (.int .i64 65521)) fun v33 =>
 j30 v33 x21 x22 x23 x24 h25) (fun x34 x35 x36 x37 x38 h39 =>
 B1 (iadd x35 x34) fun v40 =>
 B1 (irem v40 (.int .i64 65521)) fun v41 =>
 j27 x34 v41 x36 x37 x38 h39)) (fun x42 x43 x44 x45 x46 h47 =>
 B1 (iadd x46 (.int .i64 1)) fun v48 =>
 j19 x42 x43 x44 x45 v48 h47)) (
 j18 x20 x21 h25)) := by kernel_rfl

theorem dl_sum_On (J : JT) (G : GT) (cf : CF) (j18 : K.Fn 2) : l_sum_On J G cf j18 = loopF P J G cf (nT P 33) (atC P 33 [1, 1, 1, 0, 1, 0, 0]) (.sq none .nl (.sq none (.cd .nl .nl) (.sq (some [6, 7, 18, 19, 20]) (.bl none (.sq none .nl (.sq (some [6, 7, 18, 19, 20]) .nl .nl))) .nl))) [6, 7, 18, 19, 20] (fun q t H => match Nat.beq q 0 with | true => app 2 j18 (vals [6, 7] t) H | false => (fun _ _ _ => none) q t H) (retK P 33) := by
  unfold l_sum_On loopF
  refine congrArg (LP 5) ?_
  funext j19 x20 x21 x22 x23 x24 h25
  exact (rl_sum_On J G cf j18 j19 x20 x21 x22 x23 x24 h25).symm

theorem ql_sum_On (cf : CF) (j18 : K.Fn 2) (x20 x21 x22 x23 x24 : AV) (h25 : Hp) : l_sum_On JN GO cf j18 x20 x21 x22 x23 x24 h25 =

 B1 (ilt x24 x23) fun v26 =>
 CD v26 (
 JN 5 (fun j27 =>
 B1 (ia 1 x22 x24) fun v28 =>
 B1 (ld v28 h25) fun v29 =>
 JN 5 (fun j30 =>
 B1 (cv .i64 v29) fun v31 =>
 B1 (iadd x20 v31) fun v32 =>
 B1 (irem v32 (.int .i64 65521)) fun v33 =>
 j30 v33 x21 x22 x23 x24 h25) (fun x34 x35 x36 x37 x38 h39 =>
 B1 (iadd x35 x34) fun v40 =>
 B1 (irem v40 (.int .i64 65521)) fun v41 =>
 j27 x34 v41 x36 x37 x38 h39)) (fun x42 x43 x44 x45 x46 h47 =>
 B1 (iadd x46 (.int .i64 1)) fun v48 =>
 l_sum_On JN GO cf j18 x42 x43 x44 x45 v48 h47)) (
 j18 x20 x21 h25) := by
  have h1 : l_sum_On JN GO cf j18 x20 x21 x22 x23 x24 h25 = app 5 (loopF P JN GO cf (nT P 33) (atC P 33 [1, 1, 1, 0, 1, 0, 0]) (.sq none .nl (.sq none (.cd .nl .nl) (.sq (some [6, 7, 18, 19, 20]) (.bl none (.sq none .nl (.sq (some [6, 7, 18, 19, 20]) .nl .nl))) .nl))) [6, 7, 18, 19, 20] (fun q t H => match Nat.beq q 0 with | true => app 2 j18 (vals [6, 7] t) H | false => (fun _ _ _ => none) q t H) (retK P 33)) [x20, x21, x22, x23, x24] h25 := by rw [dl_sum_On]; kernel_rfl
  refine h1.trans ((loopF_eq (P := P) cf (nT P 33) (atC P 33 [1, 1, 1, 0, 1, 0, 0]) (.sq none .nl (.sq none (.cd .nl .nl) (.sq (some [6, 7, 18, 19, 20]) (.bl none (.sq none .nl (.sq (some [6, 7, 18, 19, 20]) .nl .nl))) .nl))) [6, 7, 18, 19, 20] (fun q t H => match Nat.beq q 0 with | true => app 2 j18 (vals [6, 7] t) H | false => (fun _ _ _ => none) q t H) (retK P 33) [x20, x21, x22, x23, x24] rfl h25).trans ((rl_sum_On JN GO cf j18 _ x20 x21 x22 x23 x24 h25).trans ?_))
  rw [dl_sum_On]

noncomputable def s_sum_On (J : JT) (G : GT) (cf : CF) (a0 a1 : AV) (H : Hp) : R :=
 J 2 (fun j0 =>
 B2 (cf (.func (.func 52) [] []) [a0] H) fun v1 h2 =>
 B1 (unA .not v1) fun v3 =>
 CD v3 (
 some (.tuple [(.int .u32 0), (.bool false)], h2)) (
 j0 a0 a1 h2)) (fun x4 x5 h6 =>
 J 3 (fun j7 =>
 B2 (cf (.func (.func 53) [] []) [x4] h6) fun v8 h9 =>
 B1 (ex 0 v8) fun v10 =>
 B1 (ex 1 v8) fun v11 =>
 j7 x5 v10 v11 h9) (fun x12 x13 x14 h15 =>
 J 2 (fun j16 =>
 B1 (lenx x12) fun v17 =>
 J 2 (fun j18 =>
 l_sum_On J G cf j18 x13 x14 x12 v17 (.int .i64 0) h15) (fun x49 x50 h51 =>
 j16 x49 x50 h51)) (fun x52 x53 h54 =>
 B2 (cf (.func (.func 54) [] []) [x52, x53] h54) fun v55 h56 =>
 some (.tuple [v55, (.bool true)], h56))))

theorem e_sum_On (J : JT) (G : GT) (cf : CF) (a0 a1 : AV) (H : Hp) : callF P J G prim an cf 33 [a0, a1] H = s_sum_On J G cf a0 a1 H := by kernel_rfl

theorem c_sum_On {a0 a1 : AV} {H : Hp} {r : AV × Hp} (h : s_sum_On JN GO cK a0 a1 H = some r) : cK (.func (.func 33) [] []) [a0, a1] H = some r := callF_fix (first := []) (cap := []) ((e_sum_On JN GO _ a0 a1 H).trans h)

noncomputable def s_sum_Of (J : JT) (G : GT) (cf : CF) (a0 : AV) (H : Hp) : R :=
 J 1 (fun j0 =>
 B2 (cf (.func (.func 33) [] []) [(.int .u32 1), a0] H) fun v1 h2 =>
 B1 (ex 0 v1) fun v3 =>
 B1 (ex 1 v1) fun v4 =>
 j0 v3 h2) (fun x5 h6 =>
 some (x5, h6))

theorem e_sum_Of (J : JT) (G : GT) (cf : CF) (a0 : AV) (H : Hp) : callF P J G prim an cf 34 [a0] H = s_sum_Of J G cf a0 H := by kernel_rfl

theorem c_sum_Of {a0 : AV} {H : Hp} {r : AV × Hp} (h : s_sum_Of JN GO cK a0 H = some r) : cK (.func (.func 34) [] []) [a0] H = some r := callF_fix (first := []) (cap := []) ((e_sum_Of JN GO _ a0 H).trans h)

noncomputable def s_stamp_Pack (J : JT) (G : GT) (cf : CF) (a0 a1 : AV) (H : Hp) : R :=
 J 2 (fun j0 =>
 J 3 (fun j1 =>
 B1 (ilt a0 (.int .i64 0)) fun v2 =>
 G v2 false (fun k3 =>
 k3 a0 H) (fun v4 h5 =>
 G v2 false (fun k6 =>
 B1 (igt v4 (.int .i64 1048575)) fun v7 =>
 k6 v7 h5) (fun v8 h9 =>
 B1 (pk v2 (.bool true) v8) fun v10 =>
 G v10 false (fun k11 =>
 k11 a1 h9) (fun v12 h13 =>
 G v10 false (fun k14 =>
 B1 (ilt v12 (.int .i64 0)) fun v15 =>
 k14 v15 h13) (fun v16 h17 =>
 B1 (pk v10 (.bool true) v16) fun v18 =>
 G v18 false (fun k19 =>
 k19 a1 h17) (fun v20 h21 =>
 G v18 false (fun k22 =>
 B1 (igt v20 (.int .i64 17592186044415)) fun v23 =>
 k22 v23 h21) (fun v24 h25 =>
 B1 (pk v18 (.bool true) v24) fun v26 =>
 j1 a0 a1 v26 h25) h21) h17) h13) h9) h5) H) (fun x27 x28 x29 h30 =>
 CD x29 (
 some (.tuple [(.int .u64 0), (.bool false)], h30)) (
 j0 x27 x28 h30))) (fun x31 x32 h33 =>
 B1 (ishl x31 (.int .u64 44)) fun v34 =>
 B1 (ior v34 x32) fun v35 =>
 B1 (cv .u64 v35) fun v36 =>
 some (.tuple [v36, (.bool true)], h33))

theorem e_stamp_Pack (J : JT) (G : GT) (cf : CF) (a0 a1 : AV) (H : Hp) : callF P J G prim an cf 17 [a0, a1] H = s_stamp_Pack J G cf a0 a1 H := by kernel_rfl

theorem c_stamp_Pack {a0 a1 : AV} {H : Hp} {r : AV × Hp} (h : s_stamp_Pack JN GO cK a0 a1 H = some r) : cK (.func (.func 17) [] []) [a0, a1] H = some r := callF_fix (first := []) (cap := []) ((e_stamp_Pack JN GO _ a0 a1 H).trans h)

noncomputable def s__stamp_Stamp_Off (J : JT) (G : GT) (cf : CF) (a0 : AV) (H : Hp) : R :=
 B1 (iand a0 (.int .u64 17592186044415)) fun v0 =>
 B1 (cv .i64 v0) fun v1 =>
 some (v1, H)

theorem e__stamp_Stamp_Off (J : JT) (G : GT) (cf : CF) (a0 : AV) (H : Hp) : callF P J G prim an cf 19 [a0] H = s__stamp_Stamp_Off J G cf a0 H := by kernel_rfl

theorem c__stamp_Stamp_Off {a0 : AV} {H : Hp} {r : AV × Hp} (h : s__stamp_Stamp_Off JN GO cK a0 H = some r) : cK (.func (.func 19) [] []) [a0] H = some r := callF_fix (first := []) (cap := []) ((e__stamp_Stamp_Off JN GO _ a0 H).trans h)

noncomputable def s__stamp_Stamp_Epoch (J : JT) (G : GT) (cf : CF) (a0 : AV) (H : Hp) : R :=
 B1 (ishr a0 (.int .u64 44)) fun v0 =>
 B1 (cv .i64 v0) fun v1 =>
 some (v1, H)

theorem e__stamp_Stamp_Epoch (J : JT) (G : GT) (cf : CF) (a0 : AV) (H : Hp) : callF P J G prim an cf 20 [a0] H = s__stamp_Stamp_Epoch J G cf a0 H := by kernel_rfl

theorem c__stamp_Stamp_Epoch {a0 : AV} {H : Hp} {r : AV × Hp} (h : s__stamp_Stamp_Epoch JN GO cK a0 H = some r) : cK (.func (.func 20) [] []) [a0] H = some r := callF_fix (first := []) (cap := []) ((e__stamp_Stamp_Epoch JN GO _ a0 H).trans h)

noncomputable def l_frame_number (J : JT) (G : GT) (cf : CF) (j1 : K.Fn 1) : K.Fn 4 := LP 4 fun j2 => fun x3 x4 x5 x6 h7 =>
 B1 (ilt x6 x5) fun v8 =>
 CD v8 (
 J 4 (fun j9 =>
 B1 (imul (.int .i64 8) x6) fun v10 =>
 B1 (ishr x4 v10) fun v11 =>
 B1 (cv .u8 v11) fun v12 =>
 B1 (fl [(.int .u8 0)] [(0, 1, v12)]) fun l13 =>
 BN (newCells h7 l13 5 0) fun i14 h15 =>
 B2 (app' 5 1 [(.int .u8 0)] false x3 (.slice i14 0 1 1 true 1) h15) fun v16 h17 =>
 j9 v16 x4 x5 x6 h17) (fun x18 x19 x20 x21 h22 =>
 B1 (iadd x21 (.int .i64 1)) fun v23 =>
 j2 x18 x19 x20 v23 h22)) (
 j1 x3 h7)

theorem rl_frame_number (J : JT) (G : GT) (cf : CF) (j1 : K.Fn 1) (j2 : K.Fn 4) (x3 x4 x5 x6 : AV) (h7 : Hp) : codeF P J G cf (nT P 32) (atC P 32 [1, 0, 1, 0, 0]) (.sq none .nl (.sq none (.cd .nl .nl) (.sq (some [0, 1, 8, 9]) (.bl none (.sq none .nl .nl)) .nl))) (fun t H => app 4 j2 (vals [0, 1, 8, 9] t) H) (fun q t H => match Nat.beq q 0 with | true => app 1 j1 (vals [0] t) H | false => (fun _ _ _ => none) q t H) (retK P 32) (mkT (nT P 32) [0, 1, 8, 9] [x3, x4, x5, x6]) h7 =
(B1 (ilt x6 x5) fun v8 =>
 CD v8 (
 J 4 (fun j9 =>
 B1 (imul (.int .i64 8) x6) fun v10 =>
 B1 (ishr x4 v10) fun v11 =>
 B1 (cv .u8 v11) fun v12 =>
 B1 (fl [(.int .u8 0)] [(0, 1, v12)]) fun l13 =>
 BN (newCells h7 l13 5 0) fun i14 h15 =>
 B2 (app' 5 1 [(.int .u8 0)] false x3 (.slice i14 0 1 1 true 1) h15) fun v16 h17 =>
 j9 v16 x4 x5 x6 h17) (fun x18 x19 x20 x21 h22 =>
 B1 (iadd x21 (.int .i64 1)) fun v23 =>
 j2 x18 x19 x20 v23 h22)) (
 j1 x3 h7)) := by kernel_rfl

theorem dl_frame_number (J : JT) (G : GT) (cf : CF) (j1 : K.Fn 1) : l_frame_number J G cf j1 = loopF P J G cf (nT P 32) (atC P 32 [1, 0, 1, 0, 0]) (.sq none .nl (.sq none (.cd .nl .nl) (.sq (some [0, 1, 8, 9]) (.bl none (.sq none .nl .nl)) .nl))) [0, 1, 8, 9] (fun q t H => match Nat.beq q 0 with | true => app 1 j1 (vals [0] t) H | false => (fun _ _ _ => none) q t H) (retK P 32) := by
  unfold l_frame_number loopF
  refine congrArg (LP 4) ?_
  funext j2 x3 x4 x5 x6 h7
  exact (rl_frame_number J G cf j1 j2 x3 x4 x5 x6 h7).symm

theorem ql_frame_number (cf : CF) (j1 : K.Fn 1) (x3 x4 x5 x6 : AV) (h7 : Hp) : l_frame_number JN GO cf j1 x3 x4 x5 x6 h7 =

 B1 (ilt x6 x5) fun v8 =>
 CD v8 (
 JN 4 (fun j9 =>
 B1 (imul (.int .i64 8) x6) fun v10 =>
 B1 (ishr x4 v10) fun v11 =>
 B1 (cv .u8 v11) fun v12 =>
 B1 (fl [(.int .u8 0)] [(0, 1, v12)]) fun l13 =>
 BN (newCells h7 l13 5 0) fun i14 h15 =>
 B2 (app' 5 1 [(.int .u8 0)] false x3 (.slice i14 0 1 1 true 1) h15) fun v16 h17 =>
 j9 v16 x4 x5 x6 h17) (fun x18 x19 x20 x21 h22 =>
 B1 (iadd x21 (.int .i64 1)) fun v23 =>
 l_frame_number JN GO cf j1 x18 x19 x20 v23 h22)) (
 j1 x3 h7) := by
  have h1 : l_frame_number JN GO cf j1 x3 x4 x5 x6 h7 = app 4 (loopF P JN GO cf (nT P 32) (atC P 32 [1, 0, 1, 0, 0]) (.sq none .nl (.sq none (.cd .nl .nl) (.sq (some [0, 1, 8, 9]) (.bl none (.sq none .nl .nl)) .nl))) [0, 1, 8, 9] (fun q t H => match Nat.beq q 0 with | true => app 1 j1 (vals [0] t) H | false => (fun _ _ _ => none) q t H) (retK P 32)) [x3, x4, x5, x6] h7 := by rw [dl_frame_number]; kernel_rfl
  refine h1.trans ((loopF_eq (P := P) cf (nT P 32) (atC P 32 [1, 0, 1, 0, 0]) (.sq none .nl (.sq none (.cd .nl .nl) (.sq (some [0, 1, 8, 9]) (.bl none (.sq none .nl .nl)) .nl))) [0, 1, 8, 9] (fun q t H => match Nat.beq q 0 with | true => app 1 j1 (vals [0] t) H | false => (fun _ _ _ => none) q t H) (retK P 32) [x3, x4, x5, x6] rfl h7).trans ((rl_frame_number JN GO cf j1 _ x3 x4 x5 x6 h7).trans ?_))
  rw [dl_frame_number]

noncomputable def s_frame_number (J : JT) (G : GT) (cf : CF) (a0 a1 a2 : AV) (H : Hp) : R :=
 J 1 (fun j0 =>
 J 1 (fun j1 =>
 l_frame_number J G cf j1 a0 a1 a2 (.int .i64 0) H) (fun x24 h25 =>
 j0 x24 h25)) (fun x26 h27 =>
 some (x26, h27))

theorem e_frame_number (J : JT) (G : GT) (cf : CF) (a0 a1 a2 : AV) (H : Hp) : callF P J G prim an cf 32 [a0, a1, a2] H = s_frame_number J G cf a0 a1 a2 H := by kernel_rfl

theorem c_frame_number {a0 a1 a2 : AV} {H : Hp} {r : AV × Hp} (h : s_frame_number JN GO cK a0 a1 a2 H = some r) : cK (.func (.func 32) [] []) [a0, a1, a2] H = some r := callF_fix (first := []) (cap := []) ((e_frame_number JN GO _ a0 a1 a2 H).trans h)

noncomputable def l_frame_read (J : JT) (G : GT) (cf : CF) (j2 : K.Fn 1) : K.Fn 4 := LP 4 fun j3 => fun x4 x5 x6 x7 h8 =>
 B1 (ilt x7 x6) fun v9 =>
 CD v9 (
 J 4 (fun j10 =>
 J 6 (fun j11 =>
 B1 (ia 1 x5 x7) fun v12 =>
 B1 (ld v12 h8) fun v13 =>
 j11 x4 x7 v13 x5 x6 x7 h8) (fun x14 x15 x16 x17 x18 x19 h20 =>
 B1 (cv .u64 x16) fun v21 =>
 B1 (imul (.int .i64 8) x15) fun v22 =>
 B1 (ishl v21 v22) fun v23 =>
 B1 (ior x14 v23) fun v24 =>
 j10 v24 x17 x18 x19 h20)) (fun x25 x26 x27 x28 h29 =>
 B1 (iadd x28 (.int .i64 1)) fun v30 =>
 j3 x25 x26 x27 v30 h29)) (
 j2 x4 h8)

theorem rl_frame_read (J : JT) (G : GT) (cf : CF) (j2 : K.Fn 1) (j3 : K.Fn 4) (x4 x5 x6 x7 : AV) (h8 : Hp) : codeF P J G cf (nT P 48) (atC P 48 [1, 1, 0, 1, 0, 0]) (.sq none .nl (.sq none (.cd .nl .nl) (.sq (some [3, 6, 7, 8]) (.bl none (.sq (some [3, 4, 5, 6, 7, 8]) .nl .nl)) .nl))) (fun t H => app 4 j3 (vals [3, 6, 7, 8] t) H) (fun q t H => match Nat.beq q 0 with | true => app 1 j2 (vals [3] t) H | false => (fun _ _ _ => none) q t H) (retK P 48) (mkT (nT P 48) [3, 6, 7, 8] [x4, x5, x6, x7]) h8 =
(B1 (ilt x7 x6) fun v9 =>
 CD v9 (
 J 4 (fun j10 =>
 J 6 (fun j11 =>
 B1 (ia 1 x5 x7) fun v12 =>
 B1 (ld v12 h8) fun v13 =>
 j11 x4 x7 v13 x5 x6 x7 h8) (fun x14 x15 x16 x17 x18 x19 h20 =>
 B1 (cv .u64 x16) fun v21 =>
 B1 (imul (.int .i64 8) x15) fun v22 =>
 B1 (ishl v21 v22) fun v23 =>
 B1 (ior x14 v23) fun v24 =>
 j10 v24 x17 x18 x19 h20)) (fun x25 x26 x27 x28 h29 =>
 B1 (iadd x28 (.int .i64 1)) fun v30 =>
 j3 x25 x26 x27 v30 h29)) (
 j2 x4 h8)) := by kernel_rfl

theorem dl_frame_read (J : JT) (G : GT) (cf : CF) (j2 : K.Fn 1) : l_frame_read J G cf j2 = loopF P J G cf (nT P 48) (atC P 48 [1, 1, 0, 1, 0, 0]) (.sq none .nl (.sq none (.cd .nl .nl) (.sq (some [3, 6, 7, 8]) (.bl none (.sq (some [3, 4, 5, 6, 7, 8]) .nl .nl)) .nl))) [3, 6, 7, 8] (fun q t H => match Nat.beq q 0 with | true => app 1 j2 (vals [3] t) H | false => (fun _ _ _ => none) q t H) (retK P 48) := by
  unfold l_frame_read loopF
  refine congrArg (LP 4) ?_
  funext j3 x4 x5 x6 x7 h8
  exact (rl_frame_read J G cf j2 j3 x4 x5 x6 x7 h8).symm

theorem ql_frame_read (cf : CF) (j2 : K.Fn 1) (x4 x5 x6 x7 : AV) (h8 : Hp) : l_frame_read JN GO cf j2 x4 x5 x6 x7 h8 =

 B1 (ilt x7 x6) fun v9 =>
 CD v9 (
 JN 4 (fun j10 =>
 JN 6 (fun j11 =>
 B1 (ia 1 x5 x7) fun v12 =>
 B1 (ld v12 h8) fun v13 =>
 j11 x4 x7 v13 x5 x6 x7 h8) (fun x14 x15 x16 x17 x18 x19 h20 =>
 B1 (cv .u64 x16) fun v21 =>
 B1 (imul (.int .i64 8) x15) fun v22 =>
 B1 (ishl v21 v22) fun v23 =>
 B1 (ior x14 v23) fun v24 =>
 j10 v24 x17 x18 x19 h20)) (fun x25 x26 x27 x28 h29 =>
 B1 (iadd x28 (.int .i64 1)) fun v30 =>
 l_frame_read JN GO cf j2 x25 x26 x27 v30 h29)) (
 j2 x4 h8) := by
  have h1 : l_frame_read JN GO cf j2 x4 x5 x6 x7 h8 = app 4 (loopF P JN GO cf (nT P 48) (atC P 48 [1, 1, 0, 1, 0, 0]) (.sq none .nl (.sq none (.cd .nl .nl) (.sq (some [3, 6, 7, 8]) (.bl none (.sq (some [3, 4, 5, 6, 7, 8]) .nl .nl)) .nl))) [3, 6, 7, 8] (fun q t H => match Nat.beq q 0 with | true => app 1 j2 (vals [3] t) H | false => (fun _ _ _ => none) q t H) (retK P 48)) [x4, x5, x6, x7] h8 := by rw [dl_frame_read]; kernel_rfl
  refine h1.trans ((loopF_eq (P := P) cf (nT P 48) (atC P 48 [1, 1, 0, 1, 0, 0]) (.sq none .nl (.sq none (.cd .nl .nl) (.sq (some [3, 6, 7, 8]) (.bl none (.sq (some [3, 4, 5, 6, 7, 8]) .nl .nl)) .nl))) [3, 6, 7, 8] (fun q t H => match Nat.beq q 0 with | true => app 1 j2 (vals [3] t) H | false => (fun _ _ _ => none) q t H) (retK P 48) [x4, x5, x6, x7] rfl h8).trans ((rl_frame_read JN GO cf j2 _ x4 x5 x6 x7 h8).trans ?_))
  rw [dl_frame_read]

noncomputable def s_frame_read (J : JT) (G : GT) (cf : CF) (a0 : AV) (H : Hp) : R :=
 J 1 (fun j0 =>
 B1 (lenx a0) fun v1 =>
 J 1 (fun j2 =>
 l_frame_read J G cf j2 (.int .u64 0) a0 v1 (.int .i64 0) H) (fun x31 h32 =>
 j0 x31 h32)) (fun x33 h34 =>
 some (x33, h34))

theorem e_frame_read (J : JT) (G : GT) (cf : CF) (a0 : AV) (H : Hp) : callF P J G prim an cf 48 [a0] H = s_frame_read J G cf a0 H := by kernel_rfl

theorem c_frame_read {a0 : AV} {H : Hp} {r : AV × Hp} (h : s_frame_read JN GO cK a0 H = some r) : cK (.func (.func 48) [] []) [a0] H = some r := callF_fix (first := []) (cap := []) ((e_frame_read JN GO _ a0 H).trans h)

noncomputable def s_frame_Put (J : JT) (G : GT) (cf : CF) (a0 a1 : AV) (H : Hp) : R :=
 BN (bx 48 a1 H) fun i0 h1 =>
 J 2 (fun j2 =>
 B1 (fa 1 (.ptr i0 0)) fun v3 =>
 B1 (ld v3 h1) fun v4 =>
 B1 (lenx v4) fun v5 =>
 B1 (igt v5 (.int .i64 1024)) fun v6 =>
 CD v6 (
 some (.tuple [.slice0, (.int .i64 14)], h1)) (
 j2 a0 (.ptr i0 0) h1)) (fun x7 x8 h9 =>
 J 3 (fun j10 =>
 B1 (fa 1 x8) fun v11 =>
 B1 (ld v11 h9) fun v12 =>
 B1 (lenx v12) fun v13 =>
 B1 (cv .u64 v13) fun v14 =>
 B2 (cf (.func (.func 32) [] []) [.slice0, v14, (.int .i64 4)] h9) fun v15 h16 =>
 B1 (fa 0 x8) fun v17 =>
 B1 (ld v17 h16) fun v18 =>
 B2 (cf (.func (.func 32) [] []) [v15, v18, (.int .i64 8)] h16) fun v19 h20 =>
 B1 (ld v17 h9) fun v21 =>
 SM v18 v21 <|
 j10 x7 x8 v19 h20) (fun x22 x23 x24 h25 =>
 J 4 (fun j26 =>
 B2 (cf (.func (.func 34) [] []) [x24] h25) fun v27 h28 =>
 B1 (fa 1 x23) fun v29 =>
 B1 (ld v29 h28) fun v30 =>
 B2 (cf (.func (.func 33) [] []) [v27, v30] h28) fun v31 h32 =>
 B1 (ex 0 v31) fun v33 =>
 B1 (ex 1 v31) fun v34 =>
 B1 (ld v29 h25) fun v35 =>
 SM v30 v35 <|
 j26 x22 x23 x24 v33 h32) (fun x36 x37 x38 x39 h40 =>
 B1 (cv .u64 x39) fun v41 =>
 B2 (cf (.func (.func 32) [] []) [x38, v41, (.int .i64 4)] h40) fun v42 h43 =>
 B1 (fa 1 x37) fun v44 =>
 B1 (ld v44 h43) fun v45 =>
 B1 (fl [.slice0, .slice0, .slice0] [(0, 1, x36), (1, 1, v42), (2, 1, v45)]) fun l46 =>
 BN (newCells h43 l46 28 0) fun i47 h48 =>
 B2 (cf (.func (.func 35) [] []) [(.slice i47 0 3 3 true 1)] h48) fun v49 h50 =>
 B1 (ld v44 h40) fun v51 =>
 SM v45 v51 <|
 some (.tuple [v49, (.int .i64 0)], h50))))

theorem e_frame_Put (J : JT) (G : GT) (cf : CF) (a0 a1 : AV) (H : Hp) : callF P J G prim an cf 18 [a0, a1] H = s_frame_Put J G cf a0 a1 H := by kernel_rfl

theorem c_frame_Put {a0 a1 : AV} {H : Hp} {r : AV × Hp} (h : s_frame_Put JN GO cK a0 a1 H = some r) : cK (.func (.func 18) [] []) [a0, a1] H = some r := callF_fix (first := []) (cap := []) ((e_frame_Put JN GO _ a0 a1 H).trans h)

noncomputable def s_frame_Get (J : JT) (G : GT) (cf : CF) (a0 : AV) (H : Hp) : R :=
 BN (newCells H [(.int .u64 0), .slice0] 48 0) fun i0 h1 =>
 J 2 (fun j2 =>
 B1 (lenx a0) fun v3 =>
 B1 (ilt v3 (.int .i64 4)) fun v4 =>
 CD v4 (
 B1 (fl [(.int .u64 0), .slice0] []) fun l5 =>
 B1 (st 2 (.ptr i0 0) (.agg l5) h1) fun h6 =>
 B1 (lda 2 (.ptr i0 0) h6) fun v7 =>
 some (.tuple [v7, (.int .i64 0), (.int .i64 3)], h6)) (
 j2 a0 (.ptr i0 0) h1)) (fun x8 x9 h10 =>
 J 3 (fun j11 =>
 B1 (sll 1 x8 none (some (.int .i64 4)) none) fun v12 =>
 B2 (cf (.func (.func 48) [] []) [v12] h10) fun v13 h14 =>
 B1 (cv .i64 v13) fun v15 =>
 j11 x8 x9 v15 h14) (fun x16 x17 x18 h19 =>
 J 3 (fun j20 =>
 B1 (igt x18 (.int .i64 1024)) fun v21 =>
 CD v21 (
 B1 (fl [(.int .u64 0), .slice0] []) fun l22 =>
 B1 (st 2 x17 (.agg l22) h19) fun h23 =>
 B1 (lda 2 x17 h23) fun v24 =>
 some (.tuple [v24, (.int .i64 0), (.int .i64 14)], h23)) (
 J 4 (fun j25 =>
 B1 (lenx x16) fun v26 =>
 B1 (iadd (.int .i64 16) x18) fun v27 =>
 B1 (ilt v26 v27) fun v28 =>
 j25 x16 x17 x18 v28 h19) (fun x29 x30 x31 x32 h33 =>
 CD x32 (
 B1 (fl [(.int .u64 0), .slice0] []) fun l34 =>
 B1 (st 2 x30 (.agg l34) h33) fun h35 =>
 B1 (lda 2 x30 h35) fun v36 =>
 some (.tuple [v36, (.int .i64 0), (.int .i64 3)], h35)) (
 j20 x29 x30 x31 h33)))) (fun x37 x38 x39 h40 =>
 J 4 (fun j41 =>
 B1 (sll 1 x37 none (some (.int .i64 12)) none) fun v42 =>
 B2 (cf (.func (.func 34) [] []) [v42] h40) fun v43 h44 =>
 B1 (iadd (.int .i64 16) x39) fun v45 =>
 B1 (sll 1 x37 (some (.int .i64 16)) (some v45) none) fun v46 =>
 B2 (cf (.func (.func 33) [] []) [v43, v46] h44) fun v47 h48 =>
 B1 (ex 0 v47) fun v49 =>
 B1 (ex 1 v47) fun v50 =>
 B1 (sll 1 x37 (some (.int .i64 16)) (some v45) none) fun v51 =>
 SM v46 v51 <|
 j41 x37 x38 x39 v49 h48) (fun x52 x53 x54 x55 h56 =>
 J 3 (fun j57 =>
 J 4 (fun j58 =>
 B1 (cv .u64 x55) fun v59 =>
 B1 (sll 1 x52 (some (.int .i64 12)) (some (.int .i64 16)) none) fun v60 =>
 B2 (cf (.func (.func 48) [] []) [v60] h56) fun v61 h62 =>
 B1 (ine v59 v61) fun v63 =>
 j58 x52 x53 x54 v63 h62) (fun x64 x65 x66 x67 h68 =>
 CD x67 (
 B1 (fl [(.int .u64 0), .slice0] []) fun l69 =>
 B1 (st 2 x65 (.agg l69) h68) fun h70 =>
 B1 (lda 2 x65 h70) fun v71 =>
 some (.tuple [v71, (.int .i64 0), (.int .i64 2)], h70)) (
 j57 x64 x65 x66 h68))) (fun x72 x73 x74 h75 =>
 B1 (sll 1 x72 (some (.int .i64 4)) (some (.int .i64 12)) none) fun v76 =>
 B2 (cf (.func (.func 48) [] []) [v76] h75) fun v77 h78 =>
 B1 (iadd (.int .i64 16) x74) fun v79 =>
 B1 (sll 1 x72 (some (.int .i64 16)) (some v79) none) fun v80 =>
 B2 (cf (.func (.func 49) [] []) [v80] h78) fun v81 h82 =>
 B1 (fl [(.int .u64 0), .slice0] [(0, 1, v77), (1, 1, v81)]) fun l83 =>
 B1 (iadd (.int .i64 16) x74) fun v84 =>
 B1 (st 2 x73 (.agg l83) h82) fun h85 =>
 B1 (sll 1 x72 (some (.int .i64 16)) (some v79) none) fun v86 =>
 SM v80 v86 <|
 B1 (lda 2 x73 h85) fun v87 =>
 some (.tuple [v87, v84, (.int .i64 0)], h85))))))

theorem e_frame_Get (J : JT) (G : GT) (cf : CF) (a0 : AV) (H : Hp) : callF P J G prim an cf 28 [a0] H = s_frame_Get J G cf a0 H := by kernel_rfl

theorem c_frame_Get {a0 : AV} {H : Hp} {r : AV × Hp} (h : s_frame_Get JN GO cK a0 H = some r) : cK (.func (.func 28) [] []) [a0] H = some r := callF_fix (first := []) (cap := []) ((e_frame_Get JN GO _ a0 H).trans h)

noncomputable def s_slices_Clone___byte_byte_ (J : JT) (G : GT) (cf : CF) (a0 : AV) (H : Hp) : R :=
 IFT (gA P .eql 28 true a0 .slice0) <| B1 (binA P .eql 28 a0 .slice0 H) fun v0 =>
 CD v0 (
 some (.slice0, H)) (
 B1 (fl [] []) fun l1 =>
 BN (newCells H l1 5 0) fun i2 h3 =>
 B2 (app' 5 1 [(.int .u8 0)] false (.slice i2 0 0 0 true 1) a0 h3) fun v4 h5 =>
 some (v4, h5))

theorem e_slices_Clone___byte_byte_ (J : JT) (G : GT) (cf : CF) (a0 : AV) (H : Hp) : callF P J G prim an cf 49 [a0] H = s_slices_Clone___byte_byte_ J G cf a0 H := by kernel_rfl

theorem c_slices_Clone___byte_byte_ {a0 : AV} {H : Hp} {r : AV × Hp} (h : s_slices_Clone___byte_byte_ JN GO cK a0 H = some r) : cK (.func (.func 49) [] []) [a0] H = some r := callF_fix (first := []) (cap := []) ((e_slices_Clone___byte_byte_ JN GO _ a0 H).trans h)

noncomputable def s_slices_Grow___byte_byte_ (J : JT) (G : GT) (cf : CF) (a0 a1 : AV) (H : Hp) : R :=
 J 2 (fun j0 =>
 B1 (ilt a1 (.int .i64 0)) fun v1 =>
 CD v1 (
 none) (
 j0 a0 a1 H)) (fun x2 x3 h4 =>
 J 1 (fun j5 =>
 J 2 (fun j6 =>
 B2 (builtinA P .cap #[28] [x2] h4) fun v7 h8 =>
 B1 (lenx x2) fun v9 =>
 B1 (isub v7 v9) fun v10 =>
 B1 (isub x3 v10) fun v11 =>
 j6 x2 v11 h8) (fun x12 x13 h14 =>
 B1 (igt x13 (.int .i64 0)) fun v15 =>
 CD v15 (
 B2 (builtinA P .cap #[28] [x12] h14) fun v16 h17 =>
 B1 (sll 1 x12 none (some v16) none) fun v18 =>
 B2 (app' 5 1 [(.int .u8 0)] true v18 x13 h17) fun v19 h20 =>
 B1 (lenx x12) fun v21 =>
 B1 (sll 1 v19 none (some v21) none) fun v22 =>
 j5 v22 h20) (
 j5 x12 h14))) (fun x23 h24 =>
 some (x23, h24)))

theorem e_slices_Grow___byte_byte_ (J : JT) (G : GT) (cf : CF) (a0 a1 : AV) (H : Hp) : callF P J G prim an cf 55 [a0, a1] H = s_slices_Grow___byte_byte_ J G cf a0 a1 H := by kernel_rfl

theorem c_slices_Grow___byte_byte_ {a0 a1 : AV} {H : Hp} {r : AV × Hp} (h : s_slices_Grow___byte_byte_ JN GO cK a0 a1 H = some r) : cK (.func (.func 55) [] []) [a0, a1] H = some r := callF_fix (first := []) (cap := []) ((e_slices_Grow___byte_byte_ JN GO _ a0 a1 H).trans h)

noncomputable def l_slices_Concat___byte_byte_ (J : JT) (G : GT) (cf : CF) (j2 : K.Fn 2) : K.Fn 5 := LP 5 fun j3 => fun x4 x5 x6 x7 x8 h9 =>
 B1 (ilt x8 x7) fun v10 =>
 CD v10 (
 J 5 (fun j11 =>
 J 5 (fun j12 =>
 B1 (ia 1 x6 x8) fun v13 =>
 B1 (ld v13 h9) fun v14 =>
 J 5 (fun j15 =>
 B1 (lenx v14) fun v16 =>
 B1 (iadd x5 v16) fun v17 =>
 j15 x4 v17 x6 x7 x8 h9) (fun x18 x19 x20 x21 x22 h23 =>
 B1 (ilt x19 (.int .i64 0)) fun v24 =>
 CD v24 (
 none) (
 j12 x18 x19 x20 x21 x22 h23))) (fun x25 x26 x27 x28 x29 h30 =>
 j11 x25 x26 x27 x28 x29 h30)) (fun x31 x32 x33 x34 x35 h36 =>
 B1 (iadd x35 (.int .i64 1)) fun v37 =>
 j3 x31 x32 x33 x34 v37 h36)) (
 j2 x4 x5 h9)

theorem rl_slices_Concat___byte_byte_ (J : JT) (G : GT) (cf : CF) (j2 : K.Fn 2) (j3 : K.Fn 5) (x4 x5 x6 x7 x8 : AV) (h9 : Hp) : codeF P J G cf (nT P 35) (atC P 35 [1, 1, 0, 1, 0, 0]) (.sq none .nl (.sq none (.cd .nl .nl) (.sq (some [0, 3, 9, 10, 11]) (.bl (some [0, 3, 9, 10, 11]) (.sq none .nl (.sq (some [0, 3, 9, 10, 11]) .nl (.sq none .nl (.cd .nl .nl))))) .nl))) (fun t H => app 5 j3 (vals [0, 3, 9, 10, 11] t) H) (fun q t H => match Nat.beq q 0 with | true => app 2 j2 (vals [0, 3] t) H | false => (fun _ _ _ => none) q t H) (retK P 35) (mkT (nT P 35) [0, 3, 9, 10, 11] [x4, x5, x6, x7, x8]) h9 =
(B1 (ilt x8 x7) fun v10 =>
 CD v10 (
 J 5 (fun j11 =>
 J 5 (fun j12 =>
 B1 (ia 1 x6 x8) fun v13 =>
 B1 (ld v13 h9) fun v14 =>
 J 5 (fun j15 =>
 B1 (lenx v14) fun v16 =>
 B1 (iadd x5 v16) fun v17 =>
 j15 x4 v17 x6 x7 x8 h9) (fun x18 x19 x20 x21 x22 h23 =>
 B1 (ilt x19 (.int .i64 0)) fun v24 =>
 CD v24 (
 none) (
 j12 x18 x19 x20 x21 x22 h23))) (fun x25 x26 x27 x28 x29 h30 =>
 j11 x25 x26 x27 x28 x29 h30)) (fun x31 x32 x33 x34 x35 h36 =>
 B1 (iadd x35 (.int .i64 1)) fun v37 =>
 j3 x31 x32 x33 x34 v37 h36)) (
 j2 x4 x5 h9)) := by kernel_rfl

theorem dl_slices_Concat___byte_byte_ (J : JT) (G : GT) (cf : CF) (j2 : K.Fn 2) : l_slices_Concat___byte_byte_ J G cf j2 = loopF P J G cf (nT P 35) (atC P 35 [1, 1, 0, 1, 0, 0]) (.sq none .nl (.sq none (.cd .nl .nl) (.sq (some [0, 3, 9, 10, 11]) (.bl (some [0, 3, 9, 10, 11]) (.sq none .nl (.sq (some [0, 3, 9, 10, 11]) .nl (.sq none .nl (.cd .nl .nl))))) .nl))) [0, 3, 9, 10, 11] (fun q t H => match Nat.beq q 0 with | true => app 2 j2 (vals [0, 3] t) H | false => (fun _ _ _ => none) q t H) (retK P 35) := by
  unfold l_slices_Concat___byte_byte_ loopF
  refine congrArg (LP 5) ?_
  funext j3 x4 x5 x6 x7 x8 h9
  exact (rl_slices_Concat___byte_byte_ J G cf j2 j3 x4 x5 x6 x7 x8 h9).symm

theorem ql_slices_Concat___byte_byte_ (cf : CF) (j2 : K.Fn 2) (x4 x5 x6 x7 x8 : AV) (h9 : Hp) : l_slices_Concat___byte_byte_ JN GO cf j2 x4 x5 x6 x7 x8 h9 =

 B1 (ilt x8 x7) fun v10 =>
 CD v10 (
 JN 5 (fun j11 =>
 JN 5 (fun j12 =>
 B1 (ia 1 x6 x8) fun v13 =>
 B1 (ld v13 h9) fun v14 =>
 JN 5 (fun j15 =>
 B1 (lenx v14) fun v16 =>
 B1 (iadd x5 v16) fun v17 =>
 j15 x4 v17 x6 x7 x8 h9) (fun x18 x19 x20 x21 x22 h23 =>
 B1 (ilt x19 (.int .i64 0)) fun v24 =>
 CD v24 (
 none) (
 j12 x18 x19 x20 x21 x22 h23))) (fun x25 x26 x27 x28 x29 h30 =>
 j11 x25 x26 x27 x28 x29 h30)) (fun x31 x32 x33 x34 x35 h36 =>
 B1 (iadd x35 (.int .i64 1)) fun v37 =>
 l_slices_Concat___byte_byte_ JN GO cf j2 x31 x32 x33 x34 v37 h36)) (
 j2 x4 x5 h9) := by
  have h1 : l_slices_Concat___byte_byte_ JN GO cf j2 x4 x5 x6 x7 x8 h9 = app 5 (loopF P JN GO cf (nT P 35) (atC P 35 [1, 1, 0, 1, 0, 0]) (.sq none .nl (.sq none (.cd .nl .nl) (.sq (some [0, 3, 9, 10, 11]) (.bl (some [0, 3, 9, 10, 11]) (.sq none .nl (.sq (some [0, 3, 9, 10, 11]) .nl (.sq none .nl (.cd .nl .nl))))) .nl))) [0, 3, 9, 10, 11] (fun q t H => match Nat.beq q 0 with | true => app 2 j2 (vals [0, 3] t) H | false => (fun _ _ _ => none) q t H) (retK P 35)) [x4, x5, x6, x7, x8] h9 := by rw [dl_slices_Concat___byte_byte_]; kernel_rfl
  refine h1.trans ((loopF_eq (P := P) cf (nT P 35) (atC P 35 [1, 1, 0, 1, 0, 0]) (.sq none .nl (.sq none (.cd .nl .nl) (.sq (some [0, 3, 9, 10, 11]) (.bl (some [0, 3, 9, 10, 11]) (.sq none .nl (.sq (some [0, 3, 9, 10, 11]) .nl (.sq none .nl (.cd .nl .nl))))) .nl))) [0, 3, 9, 10, 11] (fun q t H => match Nat.beq q 0 with | true => app 2 j2 (vals [0, 3] t) H | false => (fun _ _ _ => none) q t H) (retK P 35) [x4, x5, x6, x7, x8] rfl h9).trans ((rl_slices_Concat___byte_byte_ JN GO cf j2 _ x4 x5 x6 x7 x8 h9).trans ?_))
  rw [dl_slices_Concat___byte_byte_]

noncomputable def l_slices_Concat___byte_byte_1 (J : JT) (G : GT) (cf : CF) (j48 : K.Fn 1) : K.Fn 4 := LP 4 fun j49 => fun x50 x51 x52 x53 h54 =>
 B1 (ilt x53 x52) fun v55 =>
 CD v55 (
 J 4 (fun j56 =>
 B1 (ia 1 x51 x53) fun v57 =>
 B1 (ld v57 h54) fun v58 =>
 B2 (app' 5 1 [(.int .u8 0)] false x50 v58 h54) fun v59 h60 =>
 j56 v59 x51 x52 x53 h60) (fun x61 x62 x63 x64 h65 =>
 B1 (iadd x64 (.int .i64 1)) fun v66 =>
 j49 x61 x62 x63 v66 h65)) (
 j48 x50 h54)

theorem rl_slices_Concat___byte_byte_1 (J : JT) (G : GT) (cf : CF) (j48 : K.Fn 1) (j49 : K.Fn 4) (x50 x51 x52 x53 : AV) (h54 : Hp) : codeF P J G cf (nT P 35) (atC P 35 [1, 1, 1, 1, 0, 1, 0, 0]) (.sq none .nl (.sq none (.cd .nl .nl) (.sq (some [6, 25, 26, 27]) (.bl none (.sq none .nl .nl)) .nl))) (fun t H => app 4 j49 (vals [6, 25, 26, 27] t) H) (fun q t H => match Nat.beq q 2 with | true => app 1 j48 (vals [6] t) H | false => (fun _ _ _ => none) q t H) (retK P 35) (mkT (nT P 35) [6, 25, 26, 27] [x50, x51, x52, x53]) h54 =
(B1 (ilt x53 x52) fun v55 =>
 CD v55 (
 J 4 (fun j56 =>
 B1 (ia 1 x51 x53) fun v57 =>
 B1 (ld v57 h54) fun v58 =>
 B2 (app' 5 1 [(.int .u8 0)] false x50 v58 h54) fun v59 h60 =>
 j56 v59 x51 x52 x53 h60) (fun x61 x62 x63 x64 h65 =>
 B1 (iadd x64 (.int .i64 1)) fun v66 =>
 j49 x61 x62 x63 v66 h65)) (
 j48 x50 h54)) := by kernel_rfl

theorem dl_slices_Concat___byte_byte_1 (J : JT) (G : GT) (cf : CF) (j48 : K.Fn 1) : l_slices_Concat___byte_byte_1 J G cf j48 = loopF P J G cf (nT P 35) (atC P 35 [1, 1, 1, 1, 0, 1, 0, 0]) (.sq none .nl (.sq none (.cd .nl .nl) (.sq (some [6, 25, 26, 27]) (.bl none (.sq none .nl .nl)) .nl))) [6, 25, 26, 27] (fun q t H => match Nat.beq q 2 with | true => app 1 j48 (vals [6] t) H | false => (fun _ _ _ => none) q t H) (retK P 35) := by
  unfold l_slices_Concat___byte_byte_1 loopF
  refine congrArg (LP 4) ?_
  funext j49 x50 x51 x52 x53 h54
  exact (rl_slices_Concat___byte_byte_1 J G cf j48 j49 x50 x51 x52 x53 h54).symm

theorem ql_slices_Concat___byte_byte_1 (cf : CF) (j48 : K.Fn 1) (x50 x51 x52 x53 : AV) (h54 : Hp) : l_slices_Concat___byte_byte_1 JN GO cf j48 x50 x51 x52 x53 h54 =

 B1 (ilt x53 x52) fun v55 =>
 CD v55 (
 JN 4 (fun j56 =>
 B1 (ia 1 x51 x53) fun v57 =>
 B1 (ld v57 h54) fun v58 =>
 B2 (app' 5 1 [(.int .u8 0)] false x50 v58 h54) fun v59 h60 =>
 j56 v59 x51 x52 x53 h60) (fun x61 x62 x63 x64 h65 =>
 B1 (iadd x64 (.int .i64 1)) fun v66 =>
 l_slices_Concat___byte_byte_1 JN GO cf j48 x61 x62 x63 v66 h65)) (
 j48 x50 h54) := by
  have h1 : l_slices_Concat___byte_byte_1 JN GO cf j48 x50 x51 x52 x53 h54 = app 4 (loopF P JN GO cf (nT P 35) (atC P 35 [1, 1, 1, 1, 0, 1, 0, 0]) (.sq none .nl (.sq none (.cd .nl .nl) (.sq (some [6, 25, 26, 27]) (.bl none (.sq none .nl .nl)) .nl))) [6, 25, 26, 27] (fun q t H => match Nat.beq q 2 with | true => app 1 j48 (vals [6] t) H | false => (fun _ _ _ => none) q t H) (retK P 35)) [x50, x51, x52, x53] h54 := by rw [dl_slices_Concat___byte_byte_1]; kernel_rfl
  refine h1.trans ((loopF_eq (P := P) cf (nT P 35) (atC P 35 [1, 1, 1, 1, 0, 1, 0, 0]) (.sq none .nl (.sq none (.cd .nl .nl) (.sq (some [6, 25, 26, 27]) (.bl none (.sq none .nl .nl)) .nl))) [6, 25, 26, 27] (fun q t H => match Nat.beq q 2 with | true => app 1 j48 (vals [6] t) H | false => (fun _ _ _ => none) q t H) (retK P 35) [x50, x51, x52, x53] rfl h54).trans ((rl_slices_Concat___byte_byte_1 JN GO cf j48 _ x50 x51 x52 x53 h54).trans ?_))
  rw [dl_slices_Concat___byte_byte_1]

noncomputable def s_slices_Concat___byte_byte_ (J : JT) (G : GT) (cf : CF) (a0 : AV) (H : Hp) : R :=
 J 2 (fun j0 =>
 B1 (lenx a0) fun v1 =>
 J 2 (fun j2 =>
 l_slices_Concat___byte_byte_ J G cf j2 a0 (.int .i64 0) a0 v1 (.int .i64 0) H) (fun x38 x39 h40 =>
 j0 x38 x39 h40)) (fun x41 x42 h43 =>
 B2 (cf (.func (.func 55) [] []) [.slice0, x42] h43) fun v44 h45 =>
 J 1 (fun j46 =>
 B1 (lenx x41) fun v47 =>
 J 1 (fun j48 =>
 l_slices_Concat___byte_byte_1 J G cf j48 v44 x41 v47 (.int .i64 0) h45) (fun x67 h68 =>
 j46 x67 h68)) (fun x69 h70 =>
 some (x69, h70)))

theorem e_slices_Concat___byte_byte_ (J : JT) (G : GT) (cf : CF) (a0 : AV) (H : Hp) : callF P J G prim an cf 35 [a0] H = s_slices_Concat___byte_byte_ J G cf a0 H := by kernel_rfl

theorem c_slices_Concat___byte_byte_ {a0 : AV} {H : Hp} {r : AV × Hp} (h : s_slices_Concat___byte_byte_ JN GO cK a0 H = some r) : cK (.func (.func 35) [] []) [a0] H = some r := callF_fix (first := []) (cap := []) ((e_slices_Concat___byte_byte_ JN GO _ a0 H).trans h)

noncomputable def l_seg_Scan (J : JT) (G : GT) (cf : CF) (j1 : K.Fn 2) : K.Fn 5 := LP 5 fun j2 => fun x3 x4 x5 x6 x7 h8 =>
 B1 (lenx x3) fun v9 =>
 B1 (ilt x7 v9) fun v10 =>
 CD v10 (
 J 8 (fun j11 =>
 B1 (sll 1 x3 (some x7) none none) fun v12 =>
 B2 (cf (.func (.func 28) [] []) [v12] h8) fun v13 h14 =>
 B1 (ex 0 v13) fun v15 =>
 B1 (ex 1 v13) fun v16 =>
 B1 (ex 2 v13) fun v17 =>
 BN (newCells h14 [(.int .u64 0), .slice0] 48 0) fun i18 h19 =>
 B1 (st 2 (.ptr i18 0) v15 h19) fun h20 =>
 j11 x3 x4 x5 x6 x7 (.ptr i18 0) v16 v17 h20) (fun x21 x22 x23 x24 x25 x26 x27 x28 h29 =>
 J 6 (fun j30 =>
 J 7 (fun j31 =>
 B1 (ine x28 (.int .i64 0)) fun v32 =>
 G v32 false (fun k33 =>
 B1 (fa 0 x26) fun v34 =>
 k33 v34 h29) (fun v35 h36 =>
 G v32 false (fun k37 =>
 B1 (ld v35 h36) fun v38 =>
 k37 v38 h36) (fun v39 h40 =>
 G v32 false (fun k41 =>
 B2 (cf (.func (.func 19) [] []) [v39] h40) fun v42 h43 =>
 k41 v42 h43) (fun v44 h45 =>
 G v32 false (fun k46 =>
 k46 x22 h45) (fun v47 h48 =>
 G v32 false (fun k49 =>
 B1 (ine v44 v47) fun v50 =>
 k49 v50 h48) (fun v51 h52 =>
 B1 (pk v32 (.bool true) v51) fun v53 =>
 G v53 false (fun k54 =>
 B1 (fa 0 x26) fun v55 =>
 k54 v55 h52) (fun v56 h57 =>
 G v53 false (fun k58 =>
 B1 (ld v56 h57) fun v59 =>
 k58 v59 h57) (fun v60 h61 =>
 G v53 false (fun k62 =>
 B2 (cf (.func (.func 20) [] []) [v60] h61) fun v63 h64 =>
 k62 v63 h64) (fun v65 h66 =>
 G v53 false (fun k67 =>
 k67 x23 h66) (fun v68 h69 =>
 G v53 false (fun k70 =>
 B1 (ilt v65 v68) fun v71 =>
 k70 v71 h69) (fun v72 h73 =>
 B1 (pk v53 (.bool true) v72) fun v74 =>
 j31 x21 x22 x24 x25 x26 x27 v74 h73) h69) h66) h61) h57) h52) h48) h45) h40) h36) h29) (fun x75 x76 x77 x78 x79 x80 x81 h82 =>
 CD x81 (
 j1 x77 x78 h82) (
 j30 x75 x76 x77 x78 x79 x80 h82))) (fun x83 x84 x85 x86 x87 x88 h89 =>
 J 6 (fun j90 =>
 B1 (lda 2 x87 h89) fun v91 =>
 B1 (fl [(.int .u64 0), .slice0] [(0, 2, v91)]) fun l92 =>
 BN (newCells h89 l92 48 0) fun i93 h94 =>
 B2 (app' 48 2 [(.int .u64 0), .slice0] false x85 (.slice i93 0 1 1 true 2) h94) fun v95 h96 =>
 j90 x83 x84 v95 x86 x87 x88 h96) (fun x97 x98 x99 x100 x101 x102 h103 =>
 B1 (iadd x100 x102) fun v104 =>
 B1 (iadd x98 (.int .i64 1)) fun v105 =>
 B1 (fa 0 x101) fun v106 =>
 B1 (ld v106 h103) fun v107 =>
 B2 (cf (.func (.func 20) [] []) [v107] h103) fun v108 h109 =>
 j2 x97 v105 v108 x99 v104 h109)))) (
 j1 x6 x7 h8)

theorem rl_seg_Scan (J : JT) (G : GT) (cf : CF) (j1 : K.Fn 2) (j2 : K.Fn 5) (x3 x4 x5 x6 x7 : AV) (h8 : Hp) : codeF P J G cf (nT P 14) (atC P 14 [1, 0, 0, 0]) (.sq none (.sq none .nl (.cd .nl .nl)) (.bl none (.sq (some [0, 1, 2, 6, 7, 8, 9, 10]) .nl (.sq (some [0, 1, 6, 7, 8, 9]) (.sq (some [0, 1, 6, 7, 8, 9, 38]) .nl (.cd .nl .nl)) (.sq (some [0, 1, 6, 7, 8, 9]) .nl (.sq none .nl .nl)))))) (fun t H => app 5 j2 (vals [0, 1, 2, 6, 7] t) H) (fun q t H => match Nat.beq q 0 with | true => app 2 j1 (vals [6, 7] t) H | false => (fun _ _ _ => none) q t H) (retK P 14) (mkT (nT P 14) [0, 1, 2, 6, 7] [x3, x4, x5, x6, x7]) h8 =
(B1 (lenx x3) fun v9 =>
 B1 (ilt x7 v9) fun v10 =>
 CD v10 (
 J 8 (fun j11 =>
 B1 (sll 1 x3 (some x7) none none) fun v12 =>
 B2 (cf (.func (.func 28) [] []) [v12] h8) fun v13 h14 =>
 B1 (ex 0 v13) fun v15 =>
 B1 (ex 1 v13) fun v16 =>
 B1 (ex 2 v13) fun v17 =>
 BN (newCells h14 [(.int .u64 0), .slice0] 48 0) fun i18 h19 =>
 B1 (st 2 (.ptr i18 0) v15 h19) fun h20 =>
 j11 x3 x4 x5 x6 x7 (.ptr i18 0) v16 v17 h20) (fun x21 x22 x23 x24 x25 x26 x27 x28 h29 =>
 J 6 (fun j30 =>
 J 7 (fun j31 =>
 B1 (ine x28 (.int .i64 0)) fun v32 =>
 G v32 false (fun k33 =>
 B1 (fa 0 x26) fun v34 =>
 k33 v34 h29) (fun v35 h36 =>
 G v32 false (fun k37 =>
 B1 (ld v35 h36) fun v38 =>
 k37 v38 h36) (fun v39 h40 =>
 G v32 false (fun k41 =>
 B2 (cf (.func (.func 19) [] []) [v39] h40) fun v42 h43 =>
 k41 v42 h43) (fun v44 h45 =>
 G v32 false (fun k46 =>
 k46 x22 h45) (fun v47 h48 =>
 G v32 false (fun k49 =>
 B1 (ine v44 v47) fun v50 =>
 k49 v50 h48) (fun v51 h52 =>
 B1 (pk v32 (.bool true) v51) fun v53 =>
 G v53 false (fun k54 =>
 B1 (fa 0 x26) fun v55 =>
 k54 v55 h52) (fun v56 h57 =>
 G v53 false (fun k58 =>
 B1 (ld v56 h57) fun v59 =>
 k58 v59 h57) (fun v60 h61 =>
 G v53 false (fun k62 =>
 B2 (cf (.func (.func 20) [] []) [v60] h61) fun v63 h64 =>
 k62 v63 h64) (fun v65 h66 =>
 G v53 false (fun k67 =>
 k67 x23 h66) (fun v68 h69 =>
 G v53 false (fun k70 =>
 B1 (ilt v65 v68) fun v71 =>
 k70 v71 h69) (fun v72 h73 =>
 B1 (pk v53 (.bool true) v72) fun v74 =>
 j31 x21 x22 x24 x25 x26 x27 v74 h73) h69) h66) h61) h57) h52) h48) h45) h40) h36) h29) (fun x75 x76 x77 x78 x79 x80 x81 h82 =>
 CD x81 (
 j1 x77 x78 h82) (
 j30 x75 x76 x77 x78 x79 x80 h82))) (fun x83 x84 x85 x86 x87 x88 h89 =>
 J 6 (fun j90 =>
 B1 (lda 2 x87 h89) fun v91 =>
 B1 (fl [(.int .u64 0), .slice0] [(0, 2, v91)]) fun l92 =>
 BN (newCells h89 l92 48 0) fun i93 h94 =>
 B2 (app' 48 2 [(.int .u64 0), .slice0] false x85 (.slice i93 0 1 1 true 2) h94) fun v95 h96 =>
 j90 x83 x84 v95 x86 x87 x88 h96) (fun x97 x98 x99 x100 x101 x102 h103 =>
 B1 (iadd x100 x102) fun v104 =>
 B1 (iadd x98 (.int .i64 1)) fun v105 =>
 B1 (fa 0 x101) fun v106 =>
 B1 (ld v106 h103) fun v107 =>
 B2 (cf (.func (.func 20) [] []) [v107] h103) fun v108 h109 =>
 j2 x97 v105 v108 x99 v104 h109)))) (
 j1 x6 x7 h8)) := by kernel_rfl

theorem dl_seg_Scan (J : JT) (G : GT) (cf : CF) (j1 : K.Fn 2) : l_seg_Scan J G cf j1 = loopF P J G cf (nT P 14) (atC P 14 [1, 0, 0, 0]) (.sq none (.sq none .nl (.cd .nl .nl)) (.bl none (.sq (some [0, 1, 2, 6, 7, 8, 9, 10]) .nl (.sq (some [0, 1, 6, 7, 8, 9]) (.sq (some [0, 1, 6, 7, 8, 9, 38]) .nl (.cd .nl .nl)) (.sq (some [0, 1, 6, 7, 8, 9]) .nl (.sq none .nl .nl)))))) [0, 1, 2, 6, 7] (fun q t H => match Nat.beq q 0 with | true => app 2 j1 (vals [6, 7] t) H | false => (fun _ _ _ => none) q t H) (retK P 14) := by
  unfold l_seg_Scan loopF
  refine congrArg (LP 5) ?_
  funext j2 x3 x4 x5 x6 x7 h8
  exact (rl_seg_Scan J G cf j1 j2 x3 x4 x5 x6 x7 h8).symm

theorem ql_seg_Scan (cf : CF) (j1 : K.Fn 2) (x3 x4 x5 x6 x7 : AV) (h8 : Hp) : l_seg_Scan JN GO cf j1 x3 x4 x5 x6 x7 h8 =

 B1 (lenx x3) fun v9 =>
 B1 (ilt x7 v9) fun v10 =>
 CD v10 (
 JN 8 (fun j11 =>
 B1 (sll 1 x3 (some x7) none none) fun v12 =>
 B2 (cf (.func (.func 28) [] []) [v12] h8) fun v13 h14 =>
 B1 (ex 0 v13) fun v15 =>
 B1 (ex 1 v13) fun v16 =>
 B1 (ex 2 v13) fun v17 =>
 BN (newCells h14 [(.int .u64 0), .slice0] 48 0) fun i18 h19 =>
 B1 (st 2 (.ptr i18 0) v15 h19) fun h20 =>
 j11 x3 x4 x5 x6 x7 (.ptr i18 0) v16 v17 h20) (fun x21 x22 x23 x24 x25 x26 x27 x28 h29 =>
 JN 6 (fun j30 =>
 JN 7 (fun j31 =>
 B1 (ine x28 (.int .i64 0)) fun v32 =>
 GO v32 false (fun k33 =>
 B1 (fa 0 x26) fun v34 =>
 k33 v34 h29) (fun v35 h36 =>
 GO v32 false (fun k37 =>
 B1 (ld v35 h36) fun v38 =>
 k37 v38 h36) (fun v39 h40 =>
 GO v32 false (fun k41 =>
 B2 (cf (.func (.func 19) [] []) [v39] h40) fun v42 h43 =>
 k41 v42 h43) (fun v44 h45 =>
 GO v32 false (fun k46 =>
 k46 x22 h45) (fun v47 h48 =>
 GO v32 false (fun k49 =>
 B1 (ine v44 v47) fun v50 =>
 k49 v50 h48) (fun v51 h52 =>
 B1 (pk v32 (.bool true) v51) fun v53 =>
 GO v53 false (fun k54 =>
 B1 (fa 0 x26) fun v55 =>
 k54 v55 h52) (fun v56 h57 =>
 GO v53 false (fun k58 =>
 B1 (ld v56 h57) fun v59 =>
 k58 v59 h57) (fun v60 h61 =>
 GO v53 false (fun k62 =>
 B2 (cf (.func (.func 20) [] []) [v60] h61) fun v63 h64 =>
 k62 v63 h64) (fun v65 h66 =>
 GO v53 false (fun k67 =>
 k67 x23 h66) (fun v68 h69 =>
 GO v53 false (fun k70 =>
 B1 (ilt v65 v68) fun v71 =>
 k70 v71 h69) (fun v72 h73 =>
 B1 (pk v53 (.bool true) v72) fun v74 =>
 j31 x21 x22 x24 x25 x26 x27 v74 h73) h69) h66) h61) h57) h52) h48) h45) h40) h36) h29) (fun x75 x76 x77 x78 x79 x80 x81 h82 =>
 CD x81 (
 j1 x77 x78 h82) (
 j30 x75 x76 x77 x78 x79 x80 h82))) (fun x83 x84 x85 x86 x87 x88 h89 =>
 JN 6 (fun j90 =>
 B1 (lda 2 x87 h89) fun v91 =>
 B1 (fl [(.int .u64 0), .slice0] [(0, 2, v91)]) fun l92 =>
 BN (newCells h89 l92 48 0) fun i93 h94 =>
 B2 (app' 48 2 [(.int .u64 0), .slice0] false x85 (.slice i93 0 1 1 true 2) h94) fun v95 h96 =>
 j90 x83 x84 v95 x86 x87 x88 h96) (fun x97 x98 x99 x100 x101 x102 h103 =>
 B1 (iadd x100 x102) fun v104 =>
 B1 (iadd x98 (.int .i64 1)) fun v105 =>
 B1 (fa 0 x101) fun v106 =>
 B1 (ld v106 h103) fun v107 =>
 B2 (cf (.func (.func 20) [] []) [v107] h103) fun v108 h109 =>
 l_seg_Scan JN GO cf j1 x97 v105 v108 x99 v104 h109)))) (
 j1 x6 x7 h8) := by
  have h1 : l_seg_Scan JN GO cf j1 x3 x4 x5 x6 x7 h8 = app 5 (loopF P JN GO cf (nT P 14) (atC P 14 [1, 0, 0, 0]) (.sq none (.sq none .nl (.cd .nl .nl)) (.bl none (.sq (some [0, 1, 2, 6, 7, 8, 9, 10]) .nl (.sq (some [0, 1, 6, 7, 8, 9]) (.sq (some [0, 1, 6, 7, 8, 9, 38]) .nl (.cd .nl .nl)) (.sq (some [0, 1, 6, 7, 8, 9]) .nl (.sq none .nl .nl)))))) [0, 1, 2, 6, 7] (fun q t H => match Nat.beq q 0 with | true => app 2 j1 (vals [6, 7] t) H | false => (fun _ _ _ => none) q t H) (retK P 14)) [x3, x4, x5, x6, x7] h8 := by rw [dl_seg_Scan]; kernel_rfl
  refine h1.trans ((loopF_eq (P := P) cf (nT P 14) (atC P 14 [1, 0, 0, 0]) (.sq none (.sq none .nl (.cd .nl .nl)) (.bl none (.sq (some [0, 1, 2, 6, 7, 8, 9, 10]) .nl (.sq (some [0, 1, 6, 7, 8, 9]) (.sq (some [0, 1, 6, 7, 8, 9, 38]) .nl (.cd .nl .nl)) (.sq (some [0, 1, 6, 7, 8, 9]) .nl (.sq none .nl .nl)))))) [0, 1, 2, 6, 7] (fun q t H => match Nat.beq q 0 with | true => app 2 j1 (vals [6, 7] t) H | false => (fun _ _ _ => none) q t H) (retK P 14) [x3, x4, x5, x6, x7] rfl h8).trans ((rl_seg_Scan JN GO cf j1 _ x3 x4 x5 x6 x7 h8).trans ?_))
  rw [dl_seg_Scan]

noncomputable def s_seg_Scan (J : JT) (G : GT) (cf : CF) (a0 a1 a2 : AV) (H : Hp) : R :=
 J 2 (fun j0 =>
 J 2 (fun j1 =>
 l_seg_Scan J G cf j1 a0 a1 a2 .slice0 (.int .i64 0) H) (fun x110 x111 h112 =>
 j0 x110 x111 h112)) (fun x113 x114 h115 =>
 some (.tuple [x113, x114], h115))

theorem e_seg_Scan (J : JT) (G : GT) (cf : CF) (a0 a1 a2 : AV) (H : Hp) : callF P J G prim an cf 14 [a0, a1, a2] H = s_seg_Scan J G cf a0 a1 a2 H := by kernel_rfl

theorem c_seg_Scan {a0 a1 a2 : AV} {H : Hp} {r : AV × Hp} (h : s_seg_Scan JN GO cK a0 a1 a2 H = some r) : cK (.func (.func 14) [] []) [a0, a1, a2] H = some r := callF_fix (first := []) (cap := []) ((e_seg_Scan JN GO _ a0 a1 a2 H).trans h)

noncomputable def l_seg_Pick (J : JT) (G : GT) (cf : CF) (j2 : K.Fn 1) : K.Fn 4 := LP 4 fun j3 => fun x4 x5 x6 x7 h8 =>
 B1 (ilt x7 x6) fun v9 =>
 CD v9 (
 J 4 (fun j10 =>
 J 4 (fun j11 =>
 B1 (ia 1 x5 x7) fun v12 =>
 B1 (ld v12 h8) fun v13 =>
 J 6 (fun j14 =>
 B2 (cf (.func (.func 11) [] []) [v13] h8) fun v15 h16 =>
 B1 (ex 0 v15) fun v17 =>
 B1 (ex 1 v15) fun v18 =>
 j14 x4 v17 v18 x5 x6 x7 h16) (fun x19 x20 x21 x22 x23 x24 h25 =>
 CD x21 (
 B1 (fl [(.int .i64 0)] [(0, 1, x20)]) fun l26 =>
 BN (newCells h25 l26 2 0) fun i27 h28 =>
 B2 (app' 2 1 [(.int .i64 0)] false x19 (.slice i27 0 1 1 true 1) h28) fun v29 h30 =>
 j11 v29 x22 x23 x24 h30) (
 j11 x19 x22 x23 x24 h25))) (fun x31 x32 x33 x34 h35 =>
 j10 x31 x32 x33 x34 h35)) (fun x36 x37 x38 x39 h40 =>
 B1 (iadd x39 (.int .i64 1)) fun v41 =>
 j3 x36 x37 x38 v41 h40)) (
 j2 x4 h8)

theorem rl_seg_Pick (J : JT) (G : GT) (cf : CF) (j2 : K.Fn 1) (j3 : K.Fn 4) (x4 x5 x6 x7 : AV) (h8 : Hp) : codeF P J G cf (nT P 21) (atC P 21 [1, 1, 0, 1, 0, 0]) (.sq none .nl (.sq none (.cd .nl .nl) (.sq (some [3, 8, 9, 10]) (.bl (some [3, 8, 9, 10]) (.sq none .nl (.sq (some [3, 6, 7, 8, 9, 10]) .nl (.sq none .nl (.cd .nl .nl))))) .nl))) (fun t H => app 4 j3 (vals [3, 8, 9, 10] t) H) (fun q t H => match Nat.beq q 0 with | true => app 1 j2 (vals [3] t) H | false => (fun _ _ _ => none) q t H) (retK P 21) (mkT (nT P 21) [3, 8, 9, 10] [x4, x5, x6, x7]) h8 =
(B1 (ilt x7 x6) fun v9 =>
 CD v9 (
 J 4 (fun j10 =>
 J 4 (fun j11 =>
 B1 (ia 1 x5 x7) fun v12 =>
 B1 (ld v12 h8) fun v13 =>
 J 6 (fun j14 =>
 B2 (cf (.func (.func 11) [] []) [v13] h8) fun v15 h16 =>
 B1 (ex 0 v15) fun v17 =>
 B1 (ex 1 v15) fun v18 =>
 j14 x4 v17 v18 x5 x6 x7 h16) (fun x19 x20 x21 x22 x23 x24 h25 =>
 CD x21 (
 B1 (fl [(.int .i64 0)] [(0, 1, x20)]) fun l26 =>
 BN (newCells h25 l26 2 0) fun i27 h28 =>
 B2 (app' 2 1 [(.int .i64 0)] false x19 (.slice i27 0 1 1 true 1) h28) fun v29 h30 =>
 j11 v29 x22 x23 x24 h30) (
 j11 x19 x22 x23 x24 h25))) (fun x31 x32 x33 x34 h35 =>
 j10 x31 x32 x33 x34 h35)) (fun x36 x37 x38 x39 h40 =>
 B1 (iadd x39 (.int .i64 1)) fun v41 =>
 j3 x36 x37 x38 v41 h40)) (
 j2 x4 h8)) := by kernel_rfl

theorem dl_seg_Pick (J : JT) (G : GT) (cf : CF) (j2 : K.Fn 1) : l_seg_Pick J G cf j2 = loopF P J G cf (nT P 21) (atC P 21 [1, 1, 0, 1, 0, 0]) (.sq none .nl (.sq none (.cd .nl .nl) (.sq (some [3, 8, 9, 10]) (.bl (some [3, 8, 9, 10]) (.sq none .nl (.sq (some [3, 6, 7, 8, 9, 10]) .nl (.sq none .nl (.cd .nl .nl))))) .nl))) [3, 8, 9, 10] (fun q t H => match Nat.beq q 0 with | true => app 1 j2 (vals [3] t) H | false => (fun _ _ _ => none) q t H) (retK P 21) := by
  unfold l_seg_Pick loopF
  refine congrArg (LP 4) ?_
  funext j3 x4 x5 x6 x7 h8
  exact (rl_seg_Pick J G cf j2 j3 x4 x5 x6 x7 h8).symm

theorem ql_seg_Pick (cf : CF) (j2 : K.Fn 1) (x4 x5 x6 x7 : AV) (h8 : Hp) : l_seg_Pick JN GO cf j2 x4 x5 x6 x7 h8 =

 B1 (ilt x7 x6) fun v9 =>
 CD v9 (
 JN 4 (fun j10 =>
 JN 4 (fun j11 =>
 B1 (ia 1 x5 x7) fun v12 =>
 B1 (ld v12 h8) fun v13 =>
 JN 6 (fun j14 =>
 B2 (cf (.func (.func 11) [] []) [v13] h8) fun v15 h16 =>
 B1 (ex 0 v15) fun v17 =>
 B1 (ex 1 v15) fun v18 =>
 j14 x4 v17 v18 x5 x6 x7 h16) (fun x19 x20 x21 x22 x23 x24 h25 =>
 CD x21 (
 B1 (fl [(.int .i64 0)] [(0, 1, x20)]) fun l26 =>
 BN (newCells h25 l26 2 0) fun i27 h28 =>
 B2 (app' 2 1 [(.int .i64 0)] false x19 (.slice i27 0 1 1 true 1) h28) fun v29 h30 =>
 j11 v29 x22 x23 x24 h30) (
 j11 x19 x22 x23 x24 h25))) (fun x31 x32 x33 x34 h35 =>
 j10 x31 x32 x33 x34 h35)) (fun x36 x37 x38 x39 h40 =>
 B1 (iadd x39 (.int .i64 1)) fun v41 =>
 l_seg_Pick JN GO cf j2 x36 x37 x38 v41 h40)) (
 j2 x4 h8) := by
  have h1 : l_seg_Pick JN GO cf j2 x4 x5 x6 x7 h8 = app 4 (loopF P JN GO cf (nT P 21) (atC P 21 [1, 1, 0, 1, 0, 0]) (.sq none .nl (.sq none (.cd .nl .nl) (.sq (some [3, 8, 9, 10]) (.bl (some [3, 8, 9, 10]) (.sq none .nl (.sq (some [3, 6, 7, 8, 9, 10]) .nl (.sq none .nl (.cd .nl .nl))))) .nl))) [3, 8, 9, 10] (fun q t H => match Nat.beq q 0 with | true => app 1 j2 (vals [3] t) H | false => (fun _ _ _ => none) q t H) (retK P 21)) [x4, x5, x6, x7] h8 := by rw [dl_seg_Pick]; kernel_rfl
  refine h1.trans ((loopF_eq (P := P) cf (nT P 21) (atC P 21 [1, 1, 0, 1, 0, 0]) (.sq none .nl (.sq none (.cd .nl .nl) (.sq (some [3, 8, 9, 10]) (.bl (some [3, 8, 9, 10]) (.sq none .nl (.sq (some [3, 6, 7, 8, 9, 10]) .nl (.sq none .nl (.cd .nl .nl))))) .nl))) [3, 8, 9, 10] (fun q t H => match Nat.beq q 0 with | true => app 1 j2 (vals [3] t) H | false => (fun _ _ _ => none) q t H) (retK P 21) [x4, x5, x6, x7] rfl h8).trans ((rl_seg_Pick JN GO cf j2 _ x4 x5 x6 x7 h8).trans ?_))
  rw [dl_seg_Pick]

noncomputable def s_seg_Pick (J : JT) (G : GT) (cf : CF) (a0 : AV) (H : Hp) : R :=
 J 1 (fun j0 =>
 B1 (lenx a0) fun v1 =>
 J 1 (fun j2 =>
 l_seg_Pick J G cf j2 .slice0 a0 v1 (.int .i64 0) H) (fun x42 h43 =>
 j0 x42 h43)) (fun x44 h45 =>
 B2 (cf (.func (.func 36) [] []) [x44] h45) fun v46 h47 =>
 B2 (cf (.func (.func 37) [] []) [x44] h47) fun v48 h49 =>
 some (v48, h49))

theorem e_seg_Pick (J : JT) (G : GT) (cf : CF) (a0 : AV) (H : Hp) : callF P J G prim an cf 21 [a0] H = s_seg_Pick J G cf a0 H := by kernel_rfl

theorem c_seg_Pick {a0 : AV} {H : Hp} {r : AV × Hp} (h : s_seg_Pick JN GO cK a0 H = some r) : cK (.func (.func 21) [] []) [a0] H = some r := callF_fix (first := []) (cap := []) ((e_seg_Pick JN GO _ a0 H).trans h)

noncomputable def l_outriderlaw6_recs (J : JT) (G : GT) (cf : CF) (j13 : K.Fn 0) : K.Fn 3 := LP 3 fun j14 => fun x15 x16 x17 h18 =>
 B1 (lenx x15) fun v19 =>
 B1 (ilt x17 v19) fun v20 =>
 CD v20 (
 J 3 (fun j21 =>
 J 4 (fun j22 =>
 B1 (ia 2 x15 x17) fun v23 =>
 B1 (fa 0 v23) fun v24 =>
 B1 (ld v24 h18) fun v25 =>
 B1 (ia 2 x16 x17) fun v26 =>
 B1 (fa 0 v26) fun v27 =>
 B1 (ld v27 h18) fun v28 =>
 B1 (ine v25 v28) fun v29 =>
 GD2 v29 false (
 B1 (ia 2 x15 x17) fun v30 =>
 B1 (fa 1 v30) fun v31 =>
 B1 (ld v31 h18) fun v32 =>
 B1 (b2s v32 h18) fun v33 =>
 B1 (ia 2 x16 x17) fun v34 =>
 B1 (fa 1 v34) fun v35 =>
 B1 (ld v35 h18) fun v36 =>
 B1 (sne v33 v36) fun v37 =>
 j22 x15 x16 x17 v37 h18) (
 j22 x15 x16 x17 (.bool true) h18)) (fun x38 x39 x40 x41 h42 =>
 CD x41 (
 some ((.bool false), h42)) (
 j21 x38 x39 x40 h42))) (fun x43 x44 x45 h46 =>
 B1 (iadd x45 (.int .i64 1)) fun v47 =>
 j14 x43 x44 v47 h46)) (
 j13  h18)

theorem rl_outriderlaw6_recs (J : JT) (G : GT) (cf : CF) (j13 : K.Fn 0) (j14 : K.Fn 3) (x15 x16 x17 : AV) (h18 : Hp) : codeF P J G cf (nT P 16) (atC P 16 [1, 1, 0, 1, 0, 0]) (.sq none (.sq none .nl (.cd .nl .nl)) (.sq (some [0, 1, 5]) (.bl none (.sq (some [0, 1, 5, 41]) .nl (.cd (.sq none .nl .nl) .nl))) .nl)) (fun t H => app 3 j14 (vals [0, 1, 5] t) H) (fun q t H => match Nat.beq q 0 with | true => app 0 j13 (vals [] t) H | false => (fun _ _ _ => none) q t H) (retK P 16) (mkT (nT P 16) [0, 1, 5] [x15, x16, x17]) h18 =
(B1 (lenx x15) fun v19 =>
 B1 (ilt x17 v19) fun v20 =>
 CD v20 (
 J 3 (fun j21 =>
 J 4 (fun j22 =>
 B1 (ia 2 x15 x17) fun v23 =>
 B1 (fa 0 v23) fun v24 =>
 B1 (ld v24 h18) fun v25 =>
 B1 (ia 2 x16 x17) fun v26 =>
 B1 (fa 0 v26) fun v27 =>
 B1 (ld v27 h18) fun v28 =>
 B1 (ine v25 v28) fun v29 =>
 GD2 v29 false (
 B1 (ia 2 x15 x17) fun v30 =>
 B1 (fa 1 v30) fun v31 =>
 B1 (ld v31 h18) fun v32 =>
 B1 (b2s v32 h18) fun v33 =>
 B1 (ia 2 x16 x17) fun v34 =>
 B1 (fa 1 v34) fun v35 =>
 B1 (ld v35 h18) fun v36 =>
 B1 (sne v33 v36) fun v37 =>
 j22 x15 x16 x17 v37 h18) (
 j22 x15 x16 x17 (.bool true) h18)) (fun x38 x39 x40 x41 h42 =>
 CD x41 (
 some ((.bool false), h42)) (
 j21 x38 x39 x40 h42))) (fun x43 x44 x45 h46 =>
 B1 (iadd x45 (.int .i64 1)) fun v47 =>
 j14 x43 x44 v47 h46)) (
 j13  h18)) := by kernel_rfl

theorem dl_outriderlaw6_recs (J : JT) (G : GT) (cf : CF) (j13 : K.Fn 0) : l_outriderlaw6_recs J G cf j13 = loopF P J G cf (nT P 16) (atC P 16 [1, 1, 0, 1, 0, 0]) (.sq none (.sq none .nl (.cd .nl .nl)) (.sq (some [0, 1, 5]) (.bl none (.sq (some [0, 1, 5, 41]) .nl (.cd (.sq none .nl .nl) .nl))) .nl)) [0, 1, 5] (fun q t H => match Nat.beq q 0 with | true => app 0 j13 (vals [] t) H | false => (fun _ _ _ => none) q t H) (retK P 16) := by
  unfold l_outriderlaw6_recs loopF
  refine congrArg (LP 3) ?_
  funext j14 x15 x16 x17 h18
  exact (rl_outriderlaw6_recs J G cf j13 j14 x15 x16 x17 h18).symm

theorem ql_outriderlaw6_recs (cf : CF) (j13 : K.Fn 0) (x15 x16 x17 : AV) (h18 : Hp) : l_outriderlaw6_recs JN GO cf j13 x15 x16 x17 h18 =

 B1 (lenx x15) fun v19 =>
 B1 (ilt x17 v19) fun v20 =>
 CD v20 (
 JN 3 (fun j21 =>
 JN 4 (fun j22 =>
 B1 (ia 2 x15 x17) fun v23 =>
 B1 (fa 0 v23) fun v24 =>
 B1 (ld v24 h18) fun v25 =>
 B1 (ia 2 x16 x17) fun v26 =>
 B1 (fa 0 v26) fun v27 =>
 B1 (ld v27 h18) fun v28 =>
 B1 (ine v25 v28) fun v29 =>
 GD2 v29 false (
 B1 (ia 2 x15 x17) fun v30 =>
 B1 (fa 1 v30) fun v31 =>
 B1 (ld v31 h18) fun v32 =>
 B1 (b2s v32 h18) fun v33 =>
 B1 (ia 2 x16 x17) fun v34 =>
 B1 (fa 1 v34) fun v35 =>
 B1 (ld v35 h18) fun v36 =>
 B1 (sne v33 v36) fun v37 =>
 j22 x15 x16 x17 v37 h18) (
 j22 x15 x16 x17 (.bool true) h18)) (fun x38 x39 x40 x41 h42 =>
 CD x41 (
 some ((.bool false), h42)) (
 j21 x38 x39 x40 h42))) (fun x43 x44 x45 h46 =>
 B1 (iadd x45 (.int .i64 1)) fun v47 =>
 l_outriderlaw6_recs JN GO cf j13 x43 x44 v47 h46)) (
 j13  h18) := by
  have h1 : l_outriderlaw6_recs JN GO cf j13 x15 x16 x17 h18 = app 3 (loopF P JN GO cf (nT P 16) (atC P 16 [1, 1, 0, 1, 0, 0]) (.sq none (.sq none .nl (.cd .nl .nl)) (.sq (some [0, 1, 5]) (.bl none (.sq (some [0, 1, 5, 41]) .nl (.cd (.sq none .nl .nl) .nl))) .nl)) [0, 1, 5] (fun q t H => match Nat.beq q 0 with | true => app 0 j13 (vals [] t) H | false => (fun _ _ _ => none) q t H) (retK P 16)) [x15, x16, x17] h18 := by rw [dl_outriderlaw6_recs]; kernel_rfl
  refine h1.trans ((loopF_eq (P := P) cf (nT P 16) (atC P 16 [1, 1, 0, 1, 0, 0]) (.sq none (.sq none .nl (.cd .nl .nl)) (.sq (some [0, 1, 5]) (.bl none (.sq (some [0, 1, 5, 41]) .nl (.cd (.sq none .nl .nl) .nl))) .nl)) [0, 1, 5] (fun q t H => match Nat.beq q 0 with | true => app 0 j13 (vals [] t) H | false => (fun _ _ _ => none) q t H) (retK P 16) [x15, x16, x17] rfl h18).trans ((rl_outriderlaw6_recs JN GO cf j13 _ x15 x16 x17 h18).trans ?_))
  rw [dl_outriderlaw6_recs]

noncomputable def s_outriderlaw6_recs (J : JT) (G : GT) (cf : CF) (a0 a1 : AV) (H : Hp) : R :=
 J 2 (fun j0 =>
 J 3 (fun j1 =>
 B1 (lenx a0) fun v2 =>
 B1 (lenx a1) fun v3 =>
 B1 (ine v2 v3) fun v4 =>
 j1 a0 a1 v4 H) (fun x5 x6 x7 h8 =>
 CD x7 (
 some ((.bool false), h8)) (
 j0 x5 x6 h8))) (fun x9 x10 h11 =>
 J 0 (fun j12 =>
 J 0 (fun j13 =>
 l_outriderlaw6_recs J G cf j13 x9 x10 (.int .i64 0) h11) (fun  h48 =>
 j12  h48)) (fun  h49 =>
 some ((.bool true), h49)))

theorem e_outriderlaw6_recs (J : JT) (G : GT) (cf : CF) (a0 a1 : AV) (H : Hp) : callF P J G prim an cf 16 [a0, a1] H = s_outriderlaw6_recs J G cf a0 a1 H := by kernel_rfl

theorem c_outriderlaw6_recs {a0 a1 : AV} {H : Hp} {r : AV × Hp} (h : s_outriderlaw6_recs JN GO cK a0 a1 H = some r) : cK (.func (.func 16) [] []) [a0, a1] H = some r := callF_fix (first := []) (cap := []) ((e_outriderlaw6_recs JN GO _ a0 a1 H).trans h)

noncomputable def l_outriderref1_SegName (J : JT) (G : GT) (cf : CF) (j17 : K.Fn 1) : K.Fn 3 := LP 3 fun j18 => fun x19 x20 x21 h22 =>
 B1 (ilt x21 (.int .i64 12)) fun v23 =>
 CD v23 (
 J 3 (fun j24 =>
 J 3 (fun j25 =>
 B1 (irem x19 (.int .i64 16)) fun v26 =>
 B1 (irem x19 (.int .i64 16)) fun v27 =>
 B1 (iadd v27 (.int .i64 1)) fun v28 =>
 B1 (sls (.str [48, 49, 50, 51, 52, 53, 54, 55, 56, 57, 97, 98, 99, 100, 101, 102]) (some v26) (some v28)) fun v29 =>
 B1 (scat v29 x20) fun v30 =>
 j25 x19 v30 x21 h22) (fun x31 x32 x33 h34 =>
 B1 (iquo x31 (.int .i64 16)) fun v35 =>
 j24 v35 x32 x33 h34)) (fun x36 x37 x38 h39 =>
 B1 (iadd x38 (.int .i64 1)) fun v40 =>
 j18 x36 x37 v40 h39)) (
 j17 x20 h22)

theorem rl_outriderref1_SegName (J : JT) (G : GT) (cf : CF) (j17 : K.Fn 1) (j18 : K.Fn 3) (x19 x20 x21 : AV) (h22 : Hp) : codeF P J G cf (nT P 12) (atC P 12 [1, 1, 1, 0, 1, 0, 0]) (.sq none (.sq none .nl (.cd .nl .nl)) (.sq (some [0, 4, 5]) (.bl none (.sq (some [0, 4, 5]) .nl .nl)) .nl)) (fun t H => app 3 j18 (vals [0, 4, 5] t) H) (fun q t H => match Nat.beq q 0 with | true => app 1 j17 (vals [4] t) H | false => (fun _ _ _ => none) q t H) (retK P 12) (mkT (nT P 12) [0, 4, 5] [x19, x20, x21]) h22 =
(B1 (ilt x21 (.int .i64 12)) fun v23 =>
 CD v23 (
 J 3 (fun j24 =>
 J 3 (fun j25 =>
 B1 (irem x19 (.int .i64 16)) fun v26 =>
 B1 (irem x19 (.int .i64 16)) fun v27 =>
 B1 (iadd v27 (.int .i64 1)) fun v28 =>
 B1 (sls (.str [48, 49, 50, 51, 52, 53, 54, 55, 56, 57, 97, 98, 99, 100, 101, 102]) (some v26) (some v28)) fun v29 =>
 B1 (scat v29 x20) fun v30 =>
 j25 x19 v30 x21 h22) (fun x31 x32 x33 h34 =>
 B1 (iquo x31 (.int .i64 16)) fun v35 =>
 j24 v35 x32 x33 h34)) (fun x36 x37 x38 h39 =>
 B1 (iadd x38 (.int .i64 1)) fun v40 =>
 j18 x36 x37 v40 h39)) (
 j17 x20 h22)) := by kernel_rfl

theorem dl_outriderref1_SegName (J : JT) (G : GT) (cf : CF) (j17 : K.Fn 1) : l_outriderref1_SegName J G cf j17 = loopF P J G cf (nT P 12) (atC P 12 [1, 1, 1, 0, 1, 0, 0]) (.sq none (.sq none .nl (.cd .nl .nl)) (.sq (some [0, 4, 5]) (.bl none (.sq (some [0, 4, 5]) .nl .nl)) .nl)) [0, 4, 5] (fun q t H => match Nat.beq q 0 with | true => app 1 j17 (vals [4] t) H | false => (fun _ _ _ => none) q t H) (retK P 12) := by
  unfold l_outriderref1_SegName loopF
  refine congrArg (LP 3) ?_
  funext j18 x19 x20 x21 h22
  exact (rl_outriderref1_SegName J G cf j17 j18 x19 x20 x21 h22).symm

theorem ql_outriderref1_SegName (cf : CF) (j17 : K.Fn 1) (x19 x20 x21 : AV) (h22 : Hp) : l_outriderref1_SegName JN GO cf j17 x19 x20 x21 h22 =

 B1 (ilt x21 (.int .i64 12)) fun v23 =>
 CD v23 (
 JN 3 (fun j24 =>
 JN 3 (fun j25 =>
 B1 (irem x19 (.int .i64 16)) fun v26 =>
 B1 (irem x19 (.int .i64 16)) fun v27 =>
 B1 (iadd v27 (.int .i64 1)) fun v28 =>
 B1 (sls (.str [48, 49, 50, 51, 52, 53, 54, 55, 56, 57, 97, 98, 99, 100, 101, 102]) (some v26) (some v28)) fun v29 =>
 B1 (scat v29 x20) fun v30 =>
 j25 x19 v30 x21 h22) (fun x31 x32 x33 h34 =>
 B1 (iquo x31 (.int .i64 16)) fun v35 =>
 j24 v35 x32 x33 h34)) (fun x36 x37 x38 h39 =>
 B1 (iadd x38 (.int .i64 1)) fun v40 =>
 l_outriderref1_SegName JN GO cf j17 x36 x37 v40 h39)) (
 j17 x20 h22) := by
  have h1 : l_outriderref1_SegName JN GO cf j17 x19 x20 x21 h22 = app 3 (loopF P JN GO cf (nT P 12) (atC P 12 [1, 1, 1, 0, 1, 0, 0]) (.sq none (.sq none .nl (.cd .nl .nl)) (.sq (some [0, 4, 5]) (.bl none (.sq (some [0, 4, 5]) .nl .nl)) .nl)) [0, 4, 5] (fun q t H => match Nat.beq q 0 with | true => app 1 j17 (vals [4] t) H | false => (fun _ _ _ => none) q t H) (retK P 12)) [x19, x20, x21] h22 := by rw [dl_outriderref1_SegName]; kernel_rfl
  refine h1.trans ((loopF_eq (P := P) cf (nT P 12) (atC P 12 [1, 1, 1, 0, 1, 0, 0]) (.sq none (.sq none .nl (.cd .nl .nl)) (.sq (some [0, 4, 5]) (.bl none (.sq (some [0, 4, 5]) .nl .nl)) .nl)) [0, 4, 5] (fun q t H => match Nat.beq q 0 with | true => app 1 j17 (vals [4] t) H | false => (fun _ _ _ => none) q t H) (retK P 12) [x19, x20, x21] rfl h22).trans ((rl_outriderref1_SegName JN GO cf j17 _ x19 x20 x21 h22).trans ?_))
  rw [dl_outriderref1_SegName]

noncomputable def s_outriderref1_SegName (J : JT) (G : GT) (cf : CF) (a0 : AV) (H : Hp) : R :=
 J 1 (fun j0 =>
 J 2 (fun j1 =>
 B1 (ilt a0 (.int .i64 0)) fun v2 =>
 G v2 false (fun k3 =>
 k3 a0 H) (fun v4 h5 =>
 G v2 false (fun k6 =>
 B1 (ige v4 (.int .i64 17592186044416)) fun v7 =>
 k6 v7 h5) (fun v8 h9 =>
 B1 (pk v2 (.bool true) v8) fun v10 =>
 j1 a0 v10 h9) h5) H) (fun x11 x12 h13 =>
 CD x12 (
 some (.tuple [(.str []), (.bool false)], h13)) (
 j0 x11 h13))) (fun x14 h15 =>
 J 1 (fun j16 =>
 J 1 (fun j17 =>
 l_outriderref1_SegName J G cf j17 x14 (.str []) (.int .i64 0) h15) (fun x41 h42 =>
 j16 x41 h42)) (fun x43 h44 =>
 B1 (scat (.str [119, 45]) x43) fun v45 =>
 some (.tuple [v45, (.bool true)], h44)))

theorem e_outriderref1_SegName (J : JT) (G : GT) (cf : CF) (a0 : AV) (H : Hp) : callF P J G prim an cf 12 [a0] H = s_outriderref1_SegName J G cf a0 H := by kernel_rfl

theorem c_outriderref1_SegName {a0 : AV} {H : Hp} {r : AV × Hp} (h : s_outriderref1_SegName JN GO cK a0 H = some r) : cK (.func (.func 12) [] []) [a0] H = some r := callF_fix (first := []) (cap := []) ((e_outriderref1_SegName JN GO _ a0 H).trans h)

noncomputable def l_outriderref1_SegParse (J : JT) (G : GT) (cf : CF) (j7 : K.Fn 2) : K.Fn 3 := LP 3 fun j8 => fun x9 x10 x11 h12 =>
 B1 (ilt x11 (.int .i64 14)) fun v13 =>
 CD v13 (
 J 3 (fun j14 =>
 J 4 (fun j15 =>
 B1 (ixs x9 x11) fun v16 =>
 B1 (cv .i64 v16) fun v17 =>
 B1 (isub v17 (.int .i64 48)) fun v18 =>
 j15 x9 x10 x11 v18 h12) (fun x19 x20 x21 x22 h23 =>
 J 4 (fun j24 =>
 B1 (ixs x19 x21) fun v25 =>
 B1 (ige v25 (.int .u8 97)) fun v26 =>
 CD v26 (
 B1 (ixs x19 x21) fun v27 =>
 B1 (cv .i64 v27) fun v28 =>
 B1 (isub v28 (.int .i64 97)) fun v29 =>
 B1 (iadd v29 (.int .i64 10)) fun v30 =>
 j24 x19 x20 x21 v30 h23) (
 j24 x19 x20 x21 x22 h23)) (fun x31 x32 x33 x34 h35 =>
 J 4 (fun j36 =>
 J 5 (fun j37 =>
 B1 (ilt x34 (.int .i64 0)) fun v38 =>
 G v38 false (fun k39 =>
 k39 x34 h35) (fun v40 h41 =>
 G v38 false (fun k42 =>
 B1 (igt v40 (.int .i64 15)) fun v43 =>
 k42 v43 h41) (fun v44 h45 =>
 B1 (pk v38 (.bool true) v44) fun v46 =>
 j37 x31 x32 x33 x34 v46 h45) h41) h35) (fun x47 x48 x49 x50 x51 h52 =>
 CD x51 (
 some (.tuple [(.int .i64 0), (.bool false)], h52)) (
 j36 x47 x48 x49 x50 h52))) (fun x53 x54 x55 x56 h57 =>
 B1 (imul x54 (.int .i64 16)) fun v58 =>
 B1 (iadd v58 x56) fun v59 =>
 j14 x53 v59 x55 h57)))) (fun x60 x61 x62 h63 =>
 B1 (iadd x62 (.int .i64 1)) fun v64 =>
 j8 x60 x61 v64 h63)) (
 j7 x9 x10 h12)

theorem rl_outriderref1_SegParse (J : JT) (G : GT) (cf : CF) (j7 : K.Fn 2) (j8 : K.Fn 3) (x9 x10 x11 : AV) (h12 : Hp) : codeF P J G cf (nT P 13) (atC P 13 [1, 1, 1, 0, 1, 0, 0]) (.sq none (.sq none .nl (.cd .nl .nl)) (.sq (some [0, 4, 5]) (.bl none (.sq (some [0, 4, 5, 6]) .nl (.sq (some [0, 4, 5, 6]) (.sq none .nl (.cd .nl .nl)) (.sq (some [0, 4, 5, 6]) (.sq (some [0, 4, 5, 6, 36]) .nl (.cd (.sq none .nl .nl) .nl)) .nl)))) .nl)) (fun t H => app 3 j8 (vals [0, 4, 5] t) H) (fun q t H => match Nat.beq q 0 with | true => app 2 j7 (vals [0, 4] t) H | false => (fun _ _ _ => none) q t H) (retK P 13) (mkT (nT P 13) [0, 4, 5] [x9, x10, x11]) h12 =
(B1 (ilt x11 (.int .i64 14)) fun v13 =>
 CD v13 (
 J 3 (fun j14 =>
 J 4 (fun j15 =>
 B1 (ixs x9 x11) fun v16 =>
 B1 (cv .i64 v16) fun v17 =>
 B1 (isub v17 (.int .i64 48)) fun v18 =>
 j15 x9 x10 x11 v18 h12) (fun x19 x20 x21 x22 h23 =>
 J 4 (fun j24 =>
 B1 (ixs x19 x21) fun v25 =>
 B1 (ige v25 (.int .u8 97)) fun v26 =>
 CD v26 (
 B1 (ixs x19 x21) fun v27 =>
 B1 (cv .i64 v27) fun v28 =>
 B1 (isub v28 (.int .i64 97)) fun v29 =>
 B1 (iadd v29 (.int .i64 10)) fun v30 =>
 j24 x19 x20 x21 v30 h23) (
 j24 x19 x20 x21 x22 h23)) (fun x31 x32 x33 x34 h35 =>
 J 4 (fun j36 =>
 J 5 (fun j37 =>
 B1 (ilt x34 (.int .i64 0)) fun v38 =>
 G v38 false (fun k39 =>
 k39 x34 h35) (fun v40 h41 =>
 G v38 false (fun k42 =>
 B1 (igt v40 (.int .i64 15)) fun v43 =>
 k42 v43 h41) (fun v44 h45 =>
 B1 (pk v38 (.bool true) v44) fun v46 =>
 j37 x31 x32 x33 x34 v46 h45) h41) h35) (fun x47 x48 x49 x50 x51 h52 =>
 CD x51 (
 some (.tuple [(.int .i64 0), (.bool false)], h52)) (
 j36 x47 x48 x49 x50 h52))) (fun x53 x54 x55 x56 h57 =>
 B1 (imul x54 (.int .i64 16)) fun v58 =>
 B1 (iadd v58 x56) fun v59 =>
 j14 x53 v59 x55 h57)))) (fun x60 x61 x62 h63 =>
 B1 (iadd x62 (.int .i64 1)) fun v64 =>
 j8 x60 x61 v64 h63)) (
 j7 x9 x10 h12)) := by kernel_rfl

theorem dl_outriderref1_SegParse (J : JT) (G : GT) (cf : CF) (j7 : K.Fn 2) : l_outriderref1_SegParse J G cf j7 = loopF P J G cf (nT P 13) (atC P 13 [1, 1, 1, 0, 1, 0, 0]) (.sq none (.sq none .nl (.cd .nl .nl)) (.sq (some [0, 4, 5]) (.bl none (.sq (some [0, 4, 5, 6]) .nl (.sq (some [0, 4, 5, 6]) (.sq none .nl (.cd .nl .nl)) (.sq (some [0, 4, 5, 6]) (.sq (some [0, 4, 5, 6, 36]) .nl (.cd (.sq none .nl .nl) .nl)) .nl)))) .nl)) [0, 4, 5] (fun q t H => match Nat.beq q 0 with | true => app 2 j7 (vals [0, 4] t) H | false => (fun _ _ _ => none) q t H) (retK P 13) := by
  unfold l_outriderref1_SegParse loopF
  refine congrArg (LP 3) ?_
  funext j8 x9 x10 x11 h12
  exact (rl_outriderref1_SegParse J G cf j7 j8 x9 x10 x11 h12).symm

theorem ql_outriderref1_SegParse (cf : CF) (j7 : K.Fn 2) (x9 x10 x11 : AV) (h12 : Hp) : l_outriderref1_SegParse JN GO cf j7 x9 x10 x11 h12 =

 B1 (ilt x11 (.int .i64 14)) fun v13 =>
 CD v13 (
 JN 3 (fun j14 =>
 JN 4 (fun j15 =>
 B1 (ixs x9 x11) fun v16 =>
 B1 (cv .i64 v16) fun v17 =>
 B1 (isub v17 (.int .i64 48)) fun v18 =>
 j15 x9 x10 x11 v18 h12) (fun x19 x20 x21 x22 h23 =>
 JN 4 (fun j24 =>
 B1 (ixs x19 x21) fun v25 =>
 B1 (ige v25 (.int .u8 97)) fun v26 =>
 CD v26 (
 B1 (ixs x19 x21) fun v27 =>
 B1 (cv .i64 v27) fun v28 =>
 B1 (isub v28 (.int .i64 97)) fun v29 =>
 B1 (iadd v29 (.int .i64 10)) fun v30 =>
 j24 x19 x20 x21 v30 h23) (
 j24 x19 x20 x21 x22 h23)) (fun x31 x32 x33 x34 h35 =>
 JN 4 (fun j36 =>
 JN 5 (fun j37 =>
 B1 (ilt x34 (.int .i64 0)) fun v38 =>
 GO v38 false (fun k39 =>
 k39 x34 h35) (fun v40 h41 =>
 GO v38 false (fun k42 =>
 B1 (igt v40 (.int .i64 15)) fun v43 =>
 k42 v43 h41) (fun v44 h45 =>
 B1 (pk v38 (.bool true) v44) fun v46 =>
 j37 x31 x32 x33 x34 v46 h45) h41) h35) (fun x47 x48 x49 x50 x51 h52 =>
 CD x51 (
 some (.tuple [(.int .i64 0), (.bool false)], h52)) (
 j36 x47 x48 x49 x50 h52))) (fun x53 x54 x55 x56 h57 =>
 B1 (imul x54 (.int .i64 16)) fun v58 =>
 B1 (iadd v58 x56) fun v59 =>
 j14 x53 v59 x55 h57)))) (fun x60 x61 x62 h63 =>
 B1 (iadd x62 (.int .i64 1)) fun v64 =>
 l_outriderref1_SegParse JN GO cf j7 x60 x61 v64 h63)) (
 j7 x9 x10 h12) := by
  have h1 : l_outriderref1_SegParse JN GO cf j7 x9 x10 x11 h12 = app 3 (loopF P JN GO cf (nT P 13) (atC P 13 [1, 1, 1, 0, 1, 0, 0]) (.sq none (.sq none .nl (.cd .nl .nl)) (.sq (some [0, 4, 5]) (.bl none (.sq (some [0, 4, 5, 6]) .nl (.sq (some [0, 4, 5, 6]) (.sq none .nl (.cd .nl .nl)) (.sq (some [0, 4, 5, 6]) (.sq (some [0, 4, 5, 6, 36]) .nl (.cd (.sq none .nl .nl) .nl)) .nl)))) .nl)) [0, 4, 5] (fun q t H => match Nat.beq q 0 with | true => app 2 j7 (vals [0, 4] t) H | false => (fun _ _ _ => none) q t H) (retK P 13)) [x9, x10, x11] h12 := by rw [dl_outriderref1_SegParse]; kernel_rfl
  refine h1.trans ((loopF_eq (P := P) cf (nT P 13) (atC P 13 [1, 1, 1, 0, 1, 0, 0]) (.sq none (.sq none .nl (.cd .nl .nl)) (.sq (some [0, 4, 5]) (.bl none (.sq (some [0, 4, 5, 6]) .nl (.sq (some [0, 4, 5, 6]) (.sq none .nl (.cd .nl .nl)) (.sq (some [0, 4, 5, 6]) (.sq (some [0, 4, 5, 6, 36]) .nl (.cd (.sq none .nl .nl) .nl)) .nl)))) .nl)) [0, 4, 5] (fun q t H => match Nat.beq q 0 with | true => app 2 j7 (vals [0, 4] t) H | false => (fun _ _ _ => none) q t H) (retK P 13) [x9, x10, x11] rfl h12).trans ((rl_outriderref1_SegParse JN GO cf j7 _ x9 x10 x11 h12).trans ?_))
  rw [dl_outriderref1_SegParse]

noncomputable def s_outriderref1_SegParse (J : JT) (G : GT) (cf : CF) (a0 : AV) (H : Hp) : R :=
 J 2 (fun j0 =>
 B1 (lens a0) fun v1 =>
 B1 (ine v1 (.int .i64 14)) fun v2 =>
 CD v2 (
 some (.tuple [(.int .i64 0), (.bool false)], H)) (
 j0 a0 (.int .i64 0) H)) (fun x3 x4 h5 =>
 J 2 (fun j6 =>
 J 2 (fun j7 =>
 l_outriderref1_SegParse J G cf j7 x3 x4 (.int .i64 2) h5) (fun x65 x66 h67 =>
 j6 x65 x66 h67)) (fun x68 x69 h70 =>
 J 4 (fun j71 =>
 B2 (cf (.func (.func 12) [] []) [x69] h70) fun v72 h73 =>
 B1 (ex 0 v72) fun v74 =>
 B1 (ex 1 v72) fun v75 =>
 j71 x68 x69 v74 v75 h73) (fun x76 x77 x78 x79 h80 =>
 G x79 true (fun k81 =>
 k81 x78 h80) (fun v82 h83 =>
 G x79 true (fun k84 =>
 k84 x76 h83) (fun v85 h86 =>
 G x79 true (fun k87 =>
 B1 (seq v82 v85) fun v88 =>
 k87 v88 h86) (fun v89 h90 =>
 B1 (pk x79 v89 (.bool false)) fun v91 =>
 B2 (cf (.func (.func 27) [] []) [v91] h90) fun v92 h93 =>
 B1 (imul x77 v92) fun v94 =>
 G x79 true (fun k95 =>
 k95 x78 h93) (fun v96 h97 =>
 G x79 true (fun k98 =>
 k98 x76 h97) (fun v99 h100 =>
 G x79 true (fun k101 =>
 B1 (seq v96 v99) fun v102 =>
 k101 v102 h100) (fun v103 h104 =>
 B1 (pk x79 v103 (.bool false)) fun v105 =>
 some (.tuple [v94, v105], h104)) h100) h97) h93) h86) h83) h80)))

theorem e_outriderref1_SegParse (J : JT) (G : GT) (cf : CF) (a0 : AV) (H : Hp) : callF P J G prim an cf 13 [a0] H = s_outriderref1_SegParse J G cf a0 H := by kernel_rfl

theorem c_outriderref1_SegParse {a0 : AV} {H : Hp} {r : AV × Hp} (h : s_outriderref1_SegParse JN GO cK a0 H = some r) : cK (.func (.func 13) [] []) [a0] H = some r := callF_fix (first := []) (cap := []) ((e_outriderref1_SegParse JN GO _ a0 H).trans h)

noncomputable def s_outriderref1_one (J : JT) (G : GT) (cf : CF) (a0 : AV) (H : Hp) : R :=
 CD a0 (
 some ((.int .i64 1), H)) (
 some ((.int .i64 0), H))

theorem e_outriderref1_one (J : JT) (G : GT) (cf : CF) (a0 : AV) (H : Hp) : callF P J G prim an cf 27 [a0] H = s_outriderref1_one J G cf a0 H := by kernel_rfl

theorem c_outriderref1_one {a0 : AV} {H : Hp} {r : AV × Hp} (h : s_outriderref1_one JN GO cK a0 H = some r) : cK (.func (.func 27) [] []) [a0] H = some r := callF_fix (first := []) (cap := []) ((e_outriderref1_one JN GO _ a0 H).trans h)

noncomputable def l_outriderref1_Scan (J : JT) (G : GT) (cf : CF) (j1 : K.Fn 2) : K.Fn 5 := LP 5 fun j2 => fun x3 x4 x5 x6 x7 h8 =>
 B1 (lenx x3) fun v9 =>
 B1 (ilt x7 v9) fun v10 =>
 CD v10 (
 J 8 (fun j11 =>
 B1 (sll 1 x3 (some x7) none none) fun v12 =>
 B2 (cf (.func (.func 29) [] []) [v12] h8) fun v13 h14 =>
 B1 (ex 0 v13) fun v15 =>
 B1 (ex 1 v13) fun v16 =>
 B1 (ex 2 v13) fun v17 =>
 BN (newCells h14 [(.int .u64 0), (.str [])] 69 0) fun i18 h19 =>
 B1 (st 2 (.ptr i18 0) v15 h19) fun h20 =>
 j11 x3 x4 x5 x6 x7 (.ptr i18 0) v16 v17 h20) (fun x21 x22 x23 x24 x25 x26 x27 x28 h29 =>
 J 6 (fun j30 =>
 J 7 (fun j31 =>
 B1 (ine x28 (.int .i64 0)) fun v32 =>
 G v32 false (fun k33 =>
 B1 (fa 0 x26) fun v34 =>
 k33 v34 h29) (fun v35 h36 =>
 G v32 false (fun k37 =>
 B1 (ld v35 h36) fun v38 =>
 k37 v38 h36) (fun v39 h40 =>
 G v32 false (fun k41 =>
 B2 (cf (.func (.func 30) [] []) [v39] h40) fun v42 h43 =>
 k41 v42 h43) (fun v44 h45 =>
 G v32 false (fun k46 =>
 k46 x22 h45) (fun v47 h48 =>
 G v32 false (fun k49 =>
 B1 (ine v44 v47) fun v50 =>
 k49 v50 h48) (fun v51 h52 =>
 B1 (pk v32 (.bool true) v51) fun v53 =>
 G v53 false (fun k54 =>
 B1 (fa 0 x26) fun v55 =>
 k54 v55 h52) (fun v56 h57 =>
 G v53 false (fun k58 =>
 B1 (ld v56 h57) fun v59 =>
 k58 v59 h57) (fun v60 h61 =>
 G v53 false (fun k62 =>
 B2 (cf (.func (.func 31) [] []) [v60] h61) fun v63 h64 =>
 k62 v63 h64) (fun v65 h66 =>
 G v53 false (fun k67 =>
 k67 x23 h66) (fun v68 h69 =>
 G v53 false (fun k70 =>
 B1 (ilt v65 v68) fun v71 =>
 k70 v71 h69) (fun v72 h73 =>
 B1 (pk v53 (.bool true) v72) fun v74 =>
 j31 x21 x22 x24 x25 x26 x27 v74 h73) h69) h66) h61) h57) h52) h48) h45) h40) h36) h29) (fun x75 x76 x77 x78 x79 x80 x81 h82 =>
 CD x81 (
 j1 x77 x78 h82) (
 j30 x75 x76 x77 x78 x79 x80 h82))) (fun x83 x84 x85 x86 x87 x88 h89 =>
 J 6 (fun j90 =>
 B1 (lda 2 x87 h89) fun v91 =>
 B1 (fl [(.int .u64 0), (.str [])] [(0, 2, v91)]) fun l92 =>
 BN (newCells h89 l92 69 0) fun i93 h94 =>
 B2 (app' 69 2 [(.int .u64 0), (.str [])] false x85 (.slice i93 0 1 1 true 2) h94) fun v95 h96 =>
 j90 x83 x84 v95 x86 x87 x88 h96) (fun x97 x98 x99 x100 x101 x102 h103 =>
 B1 (iadd x100 x102) fun v104 =>
 B1 (iadd x98 (.int .i64 1)) fun v105 =>
 B1 (fa 0 x101) fun v106 =>
 B1 (ld v106 h103) fun v107 =>
 B2 (cf (.func (.func 31) [] []) [v107] h103) fun v108 h109 =>
 j2 x97 v105 v108 x99 v104 h109)))) (
 j1 x6 x7 h8)

theorem rl_outriderref1_Scan (J : JT) (G : GT) (cf : CF) (j1 : K.Fn 2) (j2 : K.Fn 5) (x3 x4 x5 x6 x7 : AV) (h8 : Hp) : codeF P J G cf (nT P 15) (atC P 15 [1, 1, 1, 0, 0, 0]) (.sq none (.sq none .nl (.cd .nl .nl)) (.bl none (.sq (some [0, 1, 2, 8, 9, 10, 11, 12]) .nl (.sq (some [0, 1, 8, 9, 10, 11]) (.sq (some [0, 1, 8, 9, 10, 11, 40]) .nl (.cd .nl .nl)) (.sq (some [0, 1, 8, 9, 10, 11]) .nl (.sq none .nl .nl)))))) (fun t H => app 5 j2 (vals [0, 1, 2, 8, 9] t) H) (fun q t H => match Nat.beq q 0 with | true => app 2 j1 (vals [8, 9] t) H | false => (fun _ _ _ => none) q t H) (retK P 15) (mkT (nT P 15) [0, 1, 2, 8, 9] [x3, x4, x5, x6, x7]) h8 =
(B1 (lenx x3) fun v9 =>
 B1 (ilt x7 v9) fun v10 =>
 CD v10 (
 J 8 (fun j11 =>
 B1 (sll 1 x3 (some x7) none none) fun v12 =>
 B2 (cf (.func (.func 29) [] []) [v12] h8) fun v13 h14 =>
 B1 (ex 0 v13) fun v15 =>
 B1 (ex 1 v13) fun v16 =>
 B1 (ex 2 v13) fun v17 =>
 BN (newCells h14 [(.int .u64 0), (.str [])] 69 0) fun i18 h19 =>
 B1 (st 2 (.ptr i18 0) v15 h19) fun h20 =>
 j11 x3 x4 x5 x6 x7 (.ptr i18 0) v16 v17 h20) (fun x21 x22 x23 x24 x25 x26 x27 x28 h29 =>
 J 6 (fun j30 =>
 J 7 (fun j31 =>
 B1 (ine x28 (.int .i64 0)) fun v32 =>
 G v32 false (fun k33 =>
 B1 (fa 0 x26) fun v34 =>
 k33 v34 h29) (fun v35 h36 =>
 G v32 false (fun k37 =>
 B1 (ld v35 h36) fun v38 =>
 k37 v38 h36) (fun v39 h40 =>
 G v32 false (fun k41 =>
 B2 (cf (.func (.func 30) [] []) [v39] h40) fun v42 h43 =>
 k41 v42 h43) (fun v44 h45 =>
 G v32 false (fun k46 =>
 k46 x22 h45) (fun v47 h48 =>
 G v32 false (fun k49 =>
 B1 (ine v44 v47) fun v50 =>
 k49 v50 h48) (fun v51 h52 =>
 B1 (pk v32 (.bool true) v51) fun v53 =>
 G v53 false (fun k54 =>
 B1 (fa 0 x26) fun v55 =>
 k54 v55 h52) (fun v56 h57 =>
 G v53 false (fun k58 =>
 B1 (ld v56 h57) fun v59 =>
 k58 v59 h57) (fun v60 h61 =>
 G v53 false (fun k62 =>
 B2 (cf (.func (.func 31) [] []) [v60] h61) fun v63 h64 =>
 k62 v63 h64) (fun v65 h66 =>
 G v53 false (fun k67 =>
 k67 x23 h66) (fun v68 h69 =>
 G v53 false (fun k70 =>
 B1 (ilt v65 v68) fun v71 =>
 k70 v71 h69) (fun v72 h73 =>
 B1 (pk v53 (.bool true) v72) fun v74 =>
 j31 x21 x22 x24 x25 x26 x27 v74 h73) h69) h66) h61) h57) h52) h48) h45) h40) h36) h29) (fun x75 x76 x77 x78 x79 x80 x81 h82 =>
 CD x81 (
 j1 x77 x78 h82) (
 j30 x75 x76 x77 x78 x79 x80 h82))) (fun x83 x84 x85 x86 x87 x88 h89 =>
 J 6 (fun j90 =>
 B1 (lda 2 x87 h89) fun v91 =>
 B1 (fl [(.int .u64 0), (.str [])] [(0, 2, v91)]) fun l92 =>
 BN (newCells h89 l92 69 0) fun i93 h94 =>
 B2 (app' 69 2 [(.int .u64 0), (.str [])] false x85 (.slice i93 0 1 1 true 2) h94) fun v95 h96 =>
 j90 x83 x84 v95 x86 x87 x88 h96) (fun x97 x98 x99 x100 x101 x102 h103 =>
 B1 (iadd x100 x102) fun v104 =>
 B1 (iadd x98 (.int .i64 1)) fun v105 =>
 B1 (fa 0 x101) fun v106 =>
 B1 (ld v106 h103) fun v107 =>
 B2 (cf (.func (.func 31) [] []) [v107] h103) fun v108 h109 =>
 j2 x97 v105 v108 x99 v104 h109)))) (
 j1 x6 x7 h8)) := by kernel_rfl

theorem dl_outriderref1_Scan (J : JT) (G : GT) (cf : CF) (j1 : K.Fn 2) : l_outriderref1_Scan J G cf j1 = loopF P J G cf (nT P 15) (atC P 15 [1, 1, 1, 0, 0, 0]) (.sq none (.sq none .nl (.cd .nl .nl)) (.bl none (.sq (some [0, 1, 2, 8, 9, 10, 11, 12]) .nl (.sq (some [0, 1, 8, 9, 10, 11]) (.sq (some [0, 1, 8, 9, 10, 11, 40]) .nl (.cd .nl .nl)) (.sq (some [0, 1, 8, 9, 10, 11]) .nl (.sq none .nl .nl)))))) [0, 1, 2, 8, 9] (fun q t H => match Nat.beq q 0 with | true => app 2 j1 (vals [8, 9] t) H | false => (fun _ _ _ => none) q t H) (retK P 15) := by
  unfold l_outriderref1_Scan loopF
  refine congrArg (LP 5) ?_
  funext j2 x3 x4 x5 x6 x7 h8
  exact (rl_outriderref1_Scan J G cf j1 j2 x3 x4 x5 x6 x7 h8).symm

theorem ql_outriderref1_Scan (cf : CF) (j1 : K.Fn 2) (x3 x4 x5 x6 x7 : AV) (h8 : Hp) : l_outriderref1_Scan JN GO cf j1 x3 x4 x5 x6 x7 h8 =

 B1 (lenx x3) fun v9 =>
 B1 (ilt x7 v9) fun v10 =>
 CD v10 (
 JN 8 (fun j11 =>
 B1 (sll 1 x3 (some x7) none none) fun v12 =>
 B2 (cf (.func (.func 29) [] []) [v12] h8) fun v13 h14 =>
 B1 (ex 0 v13) fun v15 =>
 B1 (ex 1 v13) fun v16 =>
 B1 (ex 2 v13) fun v17 =>
 BN (newCells h14 [(.int .u64 0), (.str [])] 69 0) fun i18 h19 =>
 B1 (st 2 (.ptr i18 0) v15 h19) fun h20 =>
 j11 x3 x4 x5 x6 x7 (.ptr i18 0) v16 v17 h20) (fun x21 x22 x23 x24 x25 x26 x27 x28 h29 =>
 JN 6 (fun j30 =>
 JN 7 (fun j31 =>
 B1 (ine x28 (.int .i64 0)) fun v32 =>
 GO v32 false (fun k33 =>
 B1 (fa 0 x26) fun v34 =>
 k33 v34 h29) (fun v35 h36 =>
 GO v32 false (fun k37 =>
 B1 (ld v35 h36) fun v38 =>
 k37 v38 h36) (fun v39 h40 =>
 GO v32 false (fun k41 =>
 B2 (cf (.func (.func 30) [] []) [v39] h40) fun v42 h43 =>
 k41 v42 h43) (fun v44 h45 =>
 GO v32 false (fun k46 =>
 k46 x22 h45) (fun v47 h48 =>
 GO v32 false (fun k49 =>
 B1 (ine v44 v47) fun v50 =>
 k49 v50 h48) (fun v51 h52 =>
 B1 (pk v32 (.bool true) v51) fun v53 =>
 GO v53 false (fun k54 =>
 B1 (fa 0 x26) fun v55 =>
 k54 v55 h52) (fun v56 h57 =>
 GO v53 false (fun k58 =>
 B1 (ld v56 h57) fun v59 =>
 k58 v59 h57) (fun v60 h61 =>
 GO v53 false (fun k62 =>
 B2 (cf (.func (.func 31) [] []) [v60] h61) fun v63 h64 =>
 k62 v63 h64) (fun v65 h66 =>
 GO v53 false (fun k67 =>
 k67 x23 h66) (fun v68 h69 =>
 GO v53 false (fun k70 =>
 B1 (ilt v65 v68) fun v71 =>
 k70 v71 h69) (fun v72 h73 =>
 B1 (pk v53 (.bool true) v72) fun v74 =>
 j31 x21 x22 x24 x25 x26 x27 v74 h73) h69) h66) h61) h57) h52) h48) h45) h40) h36) h29) (fun x75 x76 x77 x78 x79 x80 x81 h82 =>
 CD x81 (
 j1 x77 x78 h82) (
 j30 x75 x76 x77 x78 x79 x80 h82))) (fun x83 x84 x85 x86 x87 x88 h89 =>
 JN 6 (fun j90 =>
 B1 (lda 2 x87 h89) fun v91 =>
 B1 (fl [(.int .u64 0), (.str [])] [(0, 2, v91)]) fun l92 =>
 BN (newCells h89 l92 69 0) fun i93 h94 =>
 B2 (app' 69 2 [(.int .u64 0), (.str [])] false x85 (.slice i93 0 1 1 true 2) h94) fun v95 h96 =>
 j90 x83 x84 v95 x86 x87 x88 h96) (fun x97 x98 x99 x100 x101 x102 h103 =>
 B1 (iadd x100 x102) fun v104 =>
 B1 (iadd x98 (.int .i64 1)) fun v105 =>
 B1 (fa 0 x101) fun v106 =>
 B1 (ld v106 h103) fun v107 =>
 B2 (cf (.func (.func 31) [] []) [v107] h103) fun v108 h109 =>
 l_outriderref1_Scan JN GO cf j1 x97 v105 v108 x99 v104 h109)))) (
 j1 x6 x7 h8) := by
  have h1 : l_outriderref1_Scan JN GO cf j1 x3 x4 x5 x6 x7 h8 = app 5 (loopF P JN GO cf (nT P 15) (atC P 15 [1, 1, 1, 0, 0, 0]) (.sq none (.sq none .nl (.cd .nl .nl)) (.bl none (.sq (some [0, 1, 2, 8, 9, 10, 11, 12]) .nl (.sq (some [0, 1, 8, 9, 10, 11]) (.sq (some [0, 1, 8, 9, 10, 11, 40]) .nl (.cd .nl .nl)) (.sq (some [0, 1, 8, 9, 10, 11]) .nl (.sq none .nl .nl)))))) [0, 1, 2, 8, 9] (fun q t H => match Nat.beq q 0 with | true => app 2 j1 (vals [8, 9] t) H | false => (fun _ _ _ => none) q t H) (retK P 15)) [x3, x4, x5, x6, x7] h8 := by rw [dl_outriderref1_Scan]; kernel_rfl
  refine h1.trans ((loopF_eq (P := P) cf (nT P 15) (atC P 15 [1, 1, 1, 0, 0, 0]) (.sq none (.sq none .nl (.cd .nl .nl)) (.bl none (.sq (some [0, 1, 2, 8, 9, 10, 11, 12]) .nl (.sq (some [0, 1, 8, 9, 10, 11]) (.sq (some [0, 1, 8, 9, 10, 11, 40]) .nl (.cd .nl .nl)) (.sq (some [0, 1, 8, 9, 10, 11]) .nl (.sq none .nl .nl)))))) [0, 1, 2, 8, 9] (fun q t H => match Nat.beq q 0 with | true => app 2 j1 (vals [8, 9] t) H | false => (fun _ _ _ => none) q t H) (retK P 15) [x3, x4, x5, x6, x7] rfl h8).trans ((rl_outriderref1_Scan JN GO cf j1 _ x3 x4 x5 x6 x7 h8).trans ?_))
  rw [dl_outriderref1_Scan]

noncomputable def s_outriderref1_Scan (J : JT) (G : GT) (cf : CF) (a0 a1 a2 : AV) (H : Hp) : R :=
 J 2 (fun j0 =>
 J 2 (fun j1 =>
 l_outriderref1_Scan J G cf j1 a0 a1 a2 .slice0 (.int .i64 0) H) (fun x110 x111 h112 =>
 j0 x110 x111 h112)) (fun x113 x114 h115 =>
 some (.tuple [x113, x114], h115))

theorem e_outriderref1_Scan (J : JT) (G : GT) (cf : CF) (a0 a1 a2 : AV) (H : Hp) : callF P J G prim an cf 15 [a0, a1, a2] H = s_outriderref1_Scan J G cf a0 a1 a2 H := by kernel_rfl

theorem c_outriderref1_Scan {a0 a1 a2 : AV} {H : Hp} {r : AV × Hp} (h : s_outriderref1_Scan JN GO cK a0 a1 a2 H = some r) : cK (.func (.func 15) [] []) [a0, a1, a2] H = some r := callF_fix (first := []) (cap := []) ((e_outriderref1_Scan JN GO _ a0 a1 a2 H).trans h)

noncomputable def s_outriderref1_GetRec (J : JT) (G : GT) (cf : CF) (a0 : AV) (H : Hp) : R :=
 BN (newCells H [(.int .u64 0), (.str [])] 69 0) fun i0 h1 =>
 J 2 (fun j2 =>
 J 3 (fun j3 =>
 B1 (lenx a0) fun v4 =>
 B1 (ige v4 (.int .i64 4)) fun v5 =>
 G v5 true (fun k6 =>
 k6 a0 h1) (fun v7 h8 =>
 G v5 true (fun k9 =>
 B1 (sll 1 v7 none (some (.int .i64 4)) none) fun v10 =>
 k9 v10 h8) (fun v11 h12 =>
 G v5 true (fun k13 =>
 B2 (cf (.func (.func 50) [] []) [v11] h12) fun v14 h15 =>
 k13 v14 h15) (fun v16 h17 =>
 G v5 true (fun k18 =>
 B1 (igt v16 (.int .u64 1024)) fun v19 =>
 k18 v19 h17) (fun v20 h21 =>
 B1 (pk v5 v20 (.bool false)) fun v22 =>
 j3 a0 (.ptr i0 0) v22 h21) h17) h12) h8) h1) (fun x23 x24 x25 h26 =>
 CD x25 (
 B1 (fl [(.int .u64 0), (.str [])] []) fun l27 =>
 B1 (st 2 x24 (.agg l27) h26) fun h28 =>
 B1 (lda 2 x24 h28) fun v29 =>
 some (.tuple [v29, (.int .i64 0), (.int .i64 14)], h28)) (
 j2 x23 x24 h26))) (fun x30 x31 h32 =>
 J 2 (fun j33 =>
 J 3 (fun j34 =>
 B1 (lenx x30) fun v35 =>
 B1 (ilt v35 (.int .i64 16)) fun v36 =>
 G v36 false (fun k37 =>
 k37 x30 h32) (fun v38 h39 =>
 G v36 false (fun k40 =>
 B1 (lenx v38) fun v41 =>
 k40 v41 h39) (fun v42 h43 =>
 G v36 false (fun k44 =>
 k44 x30 h43) (fun v45 h46 =>
 G v36 false (fun k47 =>
 B1 (sll 1 v45 none (some (.int .i64 4)) none) fun v48 =>
 k47 v48 h46) (fun v49 h50 =>
 G v36 false (fun k51 =>
 B2 (cf (.func (.func 50) [] []) [v49] h50) fun v52 h53 =>
 k51 v52 h53) (fun v54 h55 =>
 G v36 false (fun k56 =>
 B1 (cv .i64 v54) fun v57 =>
 k56 v57 h55) (fun v58 h59 =>
 G v36 false (fun k60 =>
 B1 (iadd (.int .i64 16) v58) fun v61 =>
 k60 v61 h59) (fun v62 h63 =>
 G v36 false (fun k64 =>
 B1 (ilt v42 v62) fun v65 =>
 k64 v65 h63) (fun v66 h67 =>
 B1 (pk v36 (.bool true) v66) fun v68 =>
 j34 x30 x31 v68 h67) h63) h59) h55) h50) h46) h43) h39) h32) (fun x69 x70 x71 h72 =>
 CD x71 (
 B1 (fl [(.int .u64 0), (.str [])] []) fun l73 =>
 B1 (st 2 x70 (.agg l73) h72) fun h74 =>
 B1 (lda 2 x70 h74) fun v75 =>
 some (.tuple [v75, (.int .i64 0), (.int .i64 3)], h74)) (
 j33 x69 x70 h72))) (fun x76 x77 h78 =>
 J 3 (fun j79 =>
 B1 (sll 1 x76 none (some (.int .i64 4)) none) fun v80 =>
 B2 (cf (.func (.func 50) [] []) [v80] h78) fun v81 h82 =>
 B1 (cv .i64 v81) fun v83 =>
 j79 x76 x77 v83 h82) (fun x84 x85 x86 h87 =>
 J 4 (fun j88 =>
 B1 (iadd (.int .i64 16) x86) fun v89 =>
 B1 (sll 1 x84 (some (.int .i64 16)) (some v89) none) fun v90 =>
 j88 x84 x85 x86 v90 h87) (fun x91 x92 x93 x94 h95 =>
 J 4 (fun j96 =>
 J 5 (fun j97 =>
 B1 (fl [] []) fun l98 =>
 BN (newCells h95 l98 5 0) fun i99 h100 =>
 B1 (sll 1 x91 none (some (.int .i64 12)) none) fun v101 =>
 B2 (app' 5 1 [(.int .u8 0)] false (.slice i99 0 0 0 true 1) v101 h100) fun v102 h103 =>
 B2 (app' 5 1 [(.int .u8 0)] false v102 x94 h103) fun v104 h105 =>
 B2 (cf (.func (.func 51) [] []) [v104] h105) fun v106 h107 =>
 B1 (cv .u64 v106) fun v108 =>
 B1 (sll 1 x91 (some (.int .i64 12)) (some (.int .i64 16)) none) fun v109 =>
 B2 (cf (.func (.func 50) [] []) [v109] h107) fun v110 h111 =>
 B1 (ine v108 v110) fun v112 =>
 B1 (sll 1 x91 none (some (.int .i64 12)) none) fun v113 =>
 SM v101 v113 <|
 B1 (sll 1 x91 (some (.int .i64 12)) (some (.int .i64 16)) none) fun v114 =>
 SM v109 v114 <|
 B1 (sll 1 x91 (some (.int .i64 12)) (some (.int .i64 16)) none) fun v115 =>
 SM v109 v115 <|
 B1 (sll 1 x91 (some (.int .i64 12)) (some (.int .i64 16)) none) fun v116 =>
 SM v109 v116 <|
 B1 (sll 1 x91 (some (.int .i64 12)) (some (.int .i64 16)) none) fun v117 =>
 SM v109 v117 <|
 j97 x91 x92 x93 x94 v112 h111) (fun x118 x119 x120 x121 x122 h123 =>
 CD x122 (
 B1 (fl [(.int .u64 0), (.str [])] []) fun l124 =>
 B1 (st 2 x119 (.agg l124) h123) fun h125 =>
 B1 (lda 2 x119 h125) fun v126 =>
 some (.tuple [v126, (.int .i64 0), (.int .i64 2)], h125)) (
 j96 x118 x119 x120 x121 h123))) (fun x127 x128 x129 x130 h131 =>
 B1 (sll 1 x127 (some (.int .i64 4)) (some (.int .i64 12)) none) fun v132 =>
 B2 (cf (.func (.func 50) [] []) [v132] h131) fun v133 h134 =>
 B1 (b2s x130 h134) fun v135 =>
 B1 (fl [(.int .u64 0), (.str [])] [(0, 1, v133), (1, 1, v135)]) fun l136 =>
 B1 (iadd (.int .i64 16) x129) fun v137 =>
 B1 (st 2 x128 (.agg l136) h134) fun h138 =>
 B1 (b2s x130 h131) fun v139 =>
 SM v135 v139 <|
 B1 (lda 2 x128 h138) fun v140 =>
 some (.tuple [v140, v137, (.int .i64 0)], h138))))))

theorem e_outriderref1_GetRec (J : JT) (G : GT) (cf : CF) (a0 : AV) (H : Hp) : callF P J G prim an cf 29 [a0] H = s_outriderref1_GetRec J G cf a0 H := by kernel_rfl

theorem c_outriderref1_GetRec {a0 : AV} {H : Hp} {r : AV × Hp} (h : s_outriderref1_GetRec JN GO cK a0 H = some r) : cK (.func (.func 29) [] []) [a0] H = some r := callF_fix (first := []) (cap := []) ((e_outriderref1_GetRec JN GO _ a0 H).trans h)

noncomputable def s_outriderref1_Off (J : JT) (G : GT) (cf : CF) (a0 : AV) (H : Hp) : R :=
 B1 (irem a0 (.int .u64 17592186044416)) fun v0 =>
 B1 (cv .i64 v0) fun v1 =>
 some (v1, H)

theorem e_outriderref1_Off (J : JT) (G : GT) (cf : CF) (a0 : AV) (H : Hp) : callF P J G prim an cf 30 [a0] H = s_outriderref1_Off J G cf a0 H := by kernel_rfl

theorem c_outriderref1_Off {a0 : AV} {H : Hp} {r : AV × Hp} (h : s_outriderref1_Off JN GO cK a0 H = some r) : cK (.func (.func 30) [] []) [a0] H = some r := callF_fix (first := []) (cap := []) ((e_outriderref1_Off JN GO _ a0 H).trans h)

noncomputable def s_outriderref1_Epoch (J : JT) (G : GT) (cf : CF) (a0 : AV) (H : Hp) : R :=
 B1 (iquo a0 (.int .u64 17592186044416)) fun v0 =>
 B1 (cv .i64 v0) fun v1 =>
 some (v1, H)

theorem e_outriderref1_Epoch (J : JT) (G : GT) (cf : CF) (a0 : AV) (H : Hp) : callF P J G prim an cf 31 [a0] H = s_outriderref1_Epoch J G cf a0 H := by kernel_rfl

theorem c_outriderref1_Epoch {a0 : AV} {H : Hp} {r : AV × Hp} (h : s_outriderref1_Epoch JN GO cK a0 H = some r) : cK (.func (.func 31) [] []) [a0] H = some r := callF_fix (first := []) (cap := []) ((e_outriderref1_Epoch JN GO _ a0 H).trans h)

noncomputable def l_outriderref1_value (J : JT) (G : GT) (cf : CF) (j3 : K.Fn 1) : K.Fn 3 := LP 3 fun j4 => fun x5 x6 x7 h8 =>
 B1 (ige x7 (.int .i64 0)) fun v9 =>
 CD v9 (
 J 3 (fun j10 =>
 B1 (imul x6 (.int .u64 256)) fun v11 =>
 B1 (ia 1 x5 x7) fun v12 =>
 B1 (ld v12 h8) fun v13 =>
 B1 (cv .u64 v13) fun v14 =>
 B1 (iadd v11 v14) fun v15 =>
 j10 x5 v15 x7 h8) (fun x16 x17 x18 h19 =>
 B1 (isub x18 (.int .i64 1)) fun v20 =>
 j4 x16 x17 v20 h19)) (
 j3 x6 h8)

theorem rl_outriderref1_value (J : JT) (G : GT) (cf : CF) (j3 : K.Fn 1) (j4 : K.Fn 3) (x5 x6 x7 : AV) (h8 : Hp) : codeF P J G cf (nT P 50) (atC P 50 [1, 1, 0, 1, 0, 0]) (.sq none (.sq none .nl (.cd .nl .nl)) (.sq (some [0, 3, 4]) (.bl none .nl) .nl)) (fun t H => app 3 j4 (vals [0, 3, 4] t) H) (fun q t H => match Nat.beq q 0 with | true => app 1 j3 (vals [3] t) H | false => (fun _ _ _ => none) q t H) (retK P 50) (mkT (nT P 50) [0, 3, 4] [x5, x6, x7]) h8 =
(B1 (ige x7 (.int .i64 0)) fun v9 =>
 CD v9 (
 J 3 (fun j10 =>
 B1 (imul x6 (.int .u64 256)) fun v11 =>
 B1 (ia 1 x5 x7) fun v12 =>
 B1 (ld v12 h8) fun v13 =>
 B1 (cv .u64 v13) fun v14 =>
 B1 (iadd v11 v14) fun v15 =>
 j10 x5 v15 x7 h8) (fun x16 x17 x18 h19 =>
 B1 (isub x18 (.int .i64 1)) fun v20 =>
 j4 x16 x17 v20 h19)) (
 j3 x6 h8)) := by kernel_rfl

theorem dl_outriderref1_value (J : JT) (G : GT) (cf : CF) (j3 : K.Fn 1) : l_outriderref1_value J G cf j3 = loopF P J G cf (nT P 50) (atC P 50 [1, 1, 0, 1, 0, 0]) (.sq none (.sq none .nl (.cd .nl .nl)) (.sq (some [0, 3, 4]) (.bl none .nl) .nl)) [0, 3, 4] (fun q t H => match Nat.beq q 0 with | true => app 1 j3 (vals [3] t) H | false => (fun _ _ _ => none) q t H) (retK P 50) := by
  unfold l_outriderref1_value loopF
  refine congrArg (LP 3) ?_
  funext j4 x5 x6 x7 h8
  exact (rl_outriderref1_value J G cf j3 j4 x5 x6 x7 h8).symm

theorem ql_outriderref1_value (cf : CF) (j3 : K.Fn 1) (x5 x6 x7 : AV) (h8 : Hp) : l_outriderref1_value JN GO cf j3 x5 x6 x7 h8 =

 B1 (ige x7 (.int .i64 0)) fun v9 =>
 CD v9 (
 JN 3 (fun j10 =>
 B1 (imul x6 (.int .u64 256)) fun v11 =>
 B1 (ia 1 x5 x7) fun v12 =>
 B1 (ld v12 h8) fun v13 =>
 B1 (cv .u64 v13) fun v14 =>
 B1 (iadd v11 v14) fun v15 =>
 j10 x5 v15 x7 h8) (fun x16 x17 x18 h19 =>
 B1 (isub x18 (.int .i64 1)) fun v20 =>
 l_outriderref1_value JN GO cf j3 x16 x17 v20 h19)) (
 j3 x6 h8) := by
  have h1 : l_outriderref1_value JN GO cf j3 x5 x6 x7 h8 = app 3 (loopF P JN GO cf (nT P 50) (atC P 50 [1, 1, 0, 1, 0, 0]) (.sq none (.sq none .nl (.cd .nl .nl)) (.sq (some [0, 3, 4]) (.bl none .nl) .nl)) [0, 3, 4] (fun q t H => match Nat.beq q 0 with | true => app 1 j3 (vals [3] t) H | false => (fun _ _ _ => none) q t H) (retK P 50)) [x5, x6, x7] h8 := by rw [dl_outriderref1_value]; kernel_rfl
  refine h1.trans ((loopF_eq (P := P) cf (nT P 50) (atC P 50 [1, 1, 0, 1, 0, 0]) (.sq none (.sq none .nl (.cd .nl .nl)) (.sq (some [0, 3, 4]) (.bl none .nl) .nl)) [0, 3, 4] (fun q t H => match Nat.beq q 0 with | true => app 1 j3 (vals [3] t) H | false => (fun _ _ _ => none) q t H) (retK P 50) [x5, x6, x7] rfl h8).trans ((rl_outriderref1_value JN GO cf j3 _ x5 x6 x7 h8).trans ?_))
  rw [dl_outriderref1_value]

noncomputable def s_outriderref1_value (J : JT) (G : GT) (cf : CF) (a0 : AV) (H : Hp) : R :=
 J 1 (fun j0 =>
 B1 (lenx a0) fun v1 =>
 B1 (isub v1 (.int .i64 1)) fun v2 =>
 J 1 (fun j3 =>
 l_outriderref1_value J G cf j3 a0 (.int .u64 0) v2 H) (fun x21 h22 =>
 j0 x21 h22)) (fun x23 h24 =>
 some (x23, h24))

theorem e_outriderref1_value (J : JT) (G : GT) (cf : CF) (a0 : AV) (H : Hp) : callF P J G prim an cf 50 [a0] H = s_outriderref1_value J G cf a0 H := by kernel_rfl

theorem c_outriderref1_value {a0 : AV} {H : Hp} {r : AV × Hp} (h : s_outriderref1_value JN GO cK a0 H = some r) : cK (.func (.func 50) [] []) [a0] H = some r := callF_fix (first := []) (cap := []) ((e_outriderref1_value JN GO _ a0 H).trans h)

noncomputable def s_outriderref1_Sum (J : JT) (G : GT) (cf : CF) (a0 : AV) (H : Hp) : R :=
 J 1 (fun j0 =>
 B2 (cf (.func (.func 72) [] []) [(.int .u32 1), a0] H) fun v1 h2 =>
 B1 (ex 0 v1) fun v3 =>
 B1 (ex 1 v1) fun v4 =>
 j0 v3 h2) (fun x5 h6 =>
 some (x5, h6))

theorem e_outriderref1_Sum (J : JT) (G : GT) (cf : CF) (a0 : AV) (H : Hp) : callF P J G prim an cf 51 [a0] H = s_outriderref1_Sum J G cf a0 H := by kernel_rfl

theorem c_outriderref1_Sum {a0 : AV} {H : Hp} {r : AV × Hp} (h : s_outriderref1_Sum JN GO cK a0 H = some r) : cK (.func (.func 51) [] []) [a0] H = some r := callF_fix (first := []) (cap := []) ((e_outriderref1_Sum JN GO _ a0 H).trans h)

noncomputable def l_outriderref1_On (J : JT) (G : GT) (cf : CF) (j17 : K.Fn 2) : K.Fn 4 := LP 4 fun j18 => fun x19 x20 x21 x22 h23 =>
 B1 (lenx x19) fun v24 =>
 B1 (ilt x22 v24) fun v25 =>
 CD v25 (
 J 4 (fun j26 =>
 J 4 (fun j27 =>
 B1 (ia 1 x19 x22) fun v28 =>
 B1 (ld v28 h23) fun v29 =>
 B1 (cv .u64 v29) fun v30 =>
 B1 (iadd x20 v30) fun v31 =>
 B2 (cf (.func (.func 97) [] []) [] h23) fun v32 h33 =>
 B1 (irem v31 v32) fun v34 =>
 B1 (ld v28 h33) fun v35 =>
 SM v29 v35 <|
 j27 x19 v34 x21 x22 h33) (fun x36 x37 x38 x39 h40 =>
 B1 (iadd x38 x37) fun v41 =>
 B2 (cf (.func (.func 97) [] []) [] h40) fun v42 h43 =>
 B1 (irem v41 v42) fun v44 =>
 j26 x36 x37 v44 x39 h43)) (fun x45 x46 x47 x48 h49 =>
 B1 (iadd x48 (.int .i64 1)) fun v50 =>
 j18 x45 x46 x47 v50 h49)) (
 j17 x20 x21 h23)

theorem rl_outriderref1_On (J : JT) (G : GT) (cf : CF) (j17 : K.Fn 2) (j18 : K.Fn 4) (x19 x20 x21 x22 : AV) (h23 : Hp) : codeF P J G cf (nT P 72) (atC P 72 [1, 1, 1, 0, 1, 0, 0]) (.sq none (.sq none .nl (.cd .nl .nl)) (.sq (some [1, 6, 7, 8]) (.bl none (.sq (some [1, 6, 7, 8]) .nl .nl)) .nl)) (fun t H => app 4 j18 (vals [1, 6, 7, 8] t) H) (fun q t H => match Nat.beq q 0 with | true => app 2 j17 (vals [6, 7] t) H | false => (fun _ _ _ => none) q t H) (retK P 72) (mkT (nT P 72) [1, 6, 7, 8] [x19, x20, x21, x22]) h23 =
(B1 (lenx x19) fun v24 =>
 B1 (ilt x22 v24) fun v25 =>
 CD v25 (
 J 4 (fun j26 =>
 J 4 (fun j27 =>
 B1 (ia 1 x19 x22) fun v28 =>
 B1 (ld v28 h23) fun v29 =>
 B1 (cv .u64 v29) fun v30 =>
 B1 (iadd x20 v30) fun v31 =>
 B2 (cf (.func (.func 97) [] []) [] h23) fun v32 h33 =>
 B1 (irem v31 v32) fun v34 =>
 B1 (ld v28 h33) fun v35 =>
 SM v29 v35 <|
 j27 x19 v34 x21 x22 h33) (fun x36 x37 x38 x39 h40 =>
 B1 (iadd x38 x37) fun v41 =>
 B2 (cf (.func (.func 97) [] []) [] h40) fun v42 h43 =>
 B1 (irem v41 v42) fun v44 =>
 j26 x36 x37 v44 x39 h43)) (fun x45 x46 x47 x48 h49 =>
 B1 (iadd x48 (.int .i64 1)) fun v50 =>
 j18 x45 x46 x47 v50 h49)) (
 j17 x20 x21 h23)) := by kernel_rfl

theorem dl_outriderref1_On (J : JT) (G : GT) (cf : CF) (j17 : K.Fn 2) : l_outriderref1_On J G cf j17 = loopF P J G cf (nT P 72) (atC P 72 [1, 1, 1, 0, 1, 0, 0]) (.sq none (.sq none .nl (.cd .nl .nl)) (.sq (some [1, 6, 7, 8]) (.bl none (.sq (some [1, 6, 7, 8]) .nl .nl)) .nl)) [1, 6, 7, 8] (fun q t H => match Nat.beq q 0 with | true => app 2 j17 (vals [6, 7] t) H | false => (fun _ _ _ => none) q t H) (retK P 72) := by
  unfold l_outriderref1_On loopF
  refine congrArg (LP 4) ?_
  funext j18 x19 x20 x21 x22 h23
  exact (rl_outriderref1_On J G cf j17 j18 x19 x20 x21 x22 h23).symm

theorem ql_outriderref1_On (cf : CF) (j17 : K.Fn 2) (x19 x20 x21 x22 : AV) (h23 : Hp) : l_outriderref1_On JN GO cf j17 x19 x20 x21 x22 h23 =

 B1 (lenx x19) fun v24 =>
 B1 (ilt x22 v24) fun v25 =>
 CD v25 (
 JN 4 (fun j26 =>
 JN 4 (fun j27 =>
 B1 (ia 1 x19 x22) fun v28 =>
 B1 (ld v28 h23) fun v29 =>
 B1 (cv .u64 v29) fun v30 =>
 B1 (iadd x20 v30) fun v31 =>
 B2 (cf (.func (.func 97) [] []) [] h23) fun v32 h33 =>
 B1 (irem v31 v32) fun v34 =>
 B1 (ld v28 h33) fun v35 =>
 SM v29 v35 <|
 j27 x19 v34 x21 x22 h33) (fun x36 x37 x38 x39 h40 =>
 B1 (iadd x38 x37) fun v41 =>
 B2 (cf (.func (.func 97) [] []) [] h40) fun v42 h43 =>
 B1 (irem v41 v42) fun v44 =>
 j26 x36 x37 v44 x39 h43)) (fun x45 x46 x47 x48 h49 =>
 B1 (iadd x48 (.int .i64 1)) fun v50 =>
 l_outriderref1_On JN GO cf j17 x45 x46 x47 v50 h49)) (
 j17 x20 x21 h23) := by
  have h1 : l_outriderref1_On JN GO cf j17 x19 x20 x21 x22 h23 = app 4 (loopF P JN GO cf (nT P 72) (atC P 72 [1, 1, 1, 0, 1, 0, 0]) (.sq none (.sq none .nl (.cd .nl .nl)) (.sq (some [1, 6, 7, 8]) (.bl none (.sq (some [1, 6, 7, 8]) .nl .nl)) .nl)) [1, 6, 7, 8] (fun q t H => match Nat.beq q 0 with | true => app 2 j17 (vals [6, 7] t) H | false => (fun _ _ _ => none) q t H) (retK P 72)) [x19, x20, x21, x22] h23 := by rw [dl_outriderref1_On]; kernel_rfl
  refine h1.trans ((loopF_eq (P := P) cf (nT P 72) (atC P 72 [1, 1, 1, 0, 1, 0, 0]) (.sq none (.sq none .nl (.cd .nl .nl)) (.sq (some [1, 6, 7, 8]) (.bl none (.sq (some [1, 6, 7, 8]) .nl .nl)) .nl)) [1, 6, 7, 8] (fun q t H => match Nat.beq q 0 with | true => app 2 j17 (vals [6, 7] t) H | false => (fun _ _ _ => none) q t H) (retK P 72) [x19, x20, x21, x22] rfl h23).trans ((rl_outriderref1_On JN GO cf j17 _ x19 x20 x21 x22 h23).trans ?_))
  rw [dl_outriderref1_On]

noncomputable def s_outriderref1_On (J : JT) (G : GT) (cf : CF) (a0 a1 : AV) (H : Hp) : R :=
 J 2 (fun j0 =>
 B2 (cf (.func (.func 95) [] []) [a0] H) fun v1 h2 =>
 B1 (unA .not v1) fun v3 =>
 CD v3 (
 some (.tuple [(.int .u32 0), (.bool false)], h2)) (
 j0 a0 a1 h2)) (fun x4 x5 h6 =>
 J 3 (fun j7 =>
 B2 (cf (.func (.func 96) [] []) [x4] h6) fun v8 h9 =>
 B1 (ex 0 v8) fun v10 =>
 B1 (ex 1 v8) fun v11 =>
 j7 x5 v10 v11 h9) (fun x12 x13 x14 h15 =>
 J 2 (fun j16 =>
 J 2 (fun j17 =>
 l_outriderref1_On J G cf j17 x12 x13 x14 (.int .i64 0) h15) (fun x51 x52 h53 =>
 j16 x51 x52 h53)) (fun x54 x55 h56 =>
 B2 (cf (.func (.func 98) [] []) [x54, x55] h56) fun v57 h58 =>
 some (.tuple [v57, (.bool true)], h58))))

theorem e_outriderref1_On (J : JT) (G : GT) (cf : CF) (a0 a1 : AV) (H : Hp) : callF P J G prim an cf 72 [a0, a1] H = s_outriderref1_On J G cf a0 a1 H := by kernel_rfl

theorem c_outriderref1_On {a0 a1 : AV} {H : Hp} {r : AV × Hp} (h : s_outriderref1_On JN GO cK a0 a1 H = some r) : cK (.func (.func 72) [] []) [a0, a1] H = some r := callF_fix (first := []) (cap := []) ((e_outriderref1_On JN GO _ a0 a1 H).trans h)

noncomputable def s_outriderref1_GoodSum (J : JT) (G : GT) (cf : CF) (a0 : AV) (H : Hp) : R :=
 B1 (cv .u64 a0) fun v0 =>
 B1 (irem v0 (.int .u64 65536)) fun v1 =>
 B2 (cf (.func (.func 97) [] []) [] H) fun v2 h3 =>
 B1 (ilt v1 v2) fun v4 =>
 G v4 true (fun k5 =>
 k5 a0 h3) (fun v6 h7 =>
 G v4 true (fun k8 =>
 B1 (cv .u64 v6) fun v9 =>
 k8 v9 h7) (fun v10 h11 =>
 G v4 true (fun k12 =>
 B1 (iquo v10 (.int .u64 65536)) fun v13 =>
 k12 v13 h11) (fun v14 h15 =>
 G v4 true (fun k16 =>
 B2 (cf (.func (.func 97) [] []) [] h15) fun v17 h18 =>
 k16 v17 h18) (fun v19 h20 =>
 G v4 true (fun k21 =>
 B1 (ilt v14 v19) fun v22 =>
 k21 v22 h20) (fun v23 h24 =>
 B1 (pk v4 v23 (.bool false)) fun v25 =>
 some (v25, h24)) h20) h15) h11) h7) h3

theorem e_outriderref1_GoodSum (J : JT) (G : GT) (cf : CF) (a0 : AV) (H : Hp) : callF P J G prim an cf 95 [a0] H = s_outriderref1_GoodSum J G cf a0 H := by kernel_rfl

theorem c_outriderref1_GoodSum {a0 : AV} {H : Hp} {r : AV × Hp} (h : s_outriderref1_GoodSum JN GO cK a0 H = some r) : cK (.func (.func 95) [] []) [a0] H = some r := callF_fix (first := []) (cap := []) ((e_outriderref1_GoodSum JN GO _ a0 H).trans h)

noncomputable def s_outriderref1_halves (J : JT) (G : GT) (cf : CF) (a0 : AV) (H : Hp) : R :=
 B1 (cv .u64 a0) fun v0 =>
 B1 (irem v0 (.int .u64 65536)) fun v1 =>
 B1 (cv .u64 a0) fun v2 =>
 B1 (iquo v2 (.int .u64 65536)) fun v3 =>
 some (.tuple [v1, v3], H)

theorem e_outriderref1_halves (J : JT) (G : GT) (cf : CF) (a0 : AV) (H : Hp) : callF P J G prim an cf 96 [a0] H = s_outriderref1_halves J G cf a0 H := by kernel_rfl

theorem c_outriderref1_halves {a0 : AV} {H : Hp} {r : AV × Hp} (h : s_outriderref1_halves JN GO cK a0 H = some r) : cK (.func (.func 96) [] []) [a0] H = some r := callF_fix (first := []) (cap := []) ((e_outriderref1_halves JN GO _ a0 H).trans h)

noncomputable def s_outriderref1_word (J : JT) (G : GT) (cf : CF) (a0 a1 : AV) (H : Hp) : R :=
 B1 (imul a1 (.int .u64 65536)) fun v0 =>
 B1 (iadd v0 a0) fun v1 =>
 B1 (cv .u32 v1) fun v2 =>
 some (v2, H)

theorem e_outriderref1_word (J : JT) (G : GT) (cf : CF) (a0 a1 : AV) (H : Hp) : callF P J G prim an cf 98 [a0, a1] H = s_outriderref1_word J G cf a0 a1 H := by kernel_rfl

theorem c_outriderref1_word {a0 a1 : AV} {H : Hp} {r : AV × Hp} (h : s_outriderref1_word JN GO cK a0 a1 H = some r) : cK (.func (.func 98) [] []) [a0, a1] H = some r := callF_fix (first := []) (cap := []) ((e_outriderref1_word JN GO _ a0 a1 H).trans h)

noncomputable def s_outriderref1_prime (J : JT) (G : GT) (cf : CF) (H : Hp) : R :=
 some ((.int .u64 65521), H)

theorem e_outriderref1_prime (J : JT) (G : GT) (cf : CF) (H : Hp) : callF P J G prim an cf 97 [] H = s_outriderref1_prime J G cf  H := by kernel_rfl

theorem c_outriderref1_prime {H : Hp} {r : AV × Hp} (h : s_outriderref1_prime JN GO cK  H = some r) : cK (.func (.func 97) [] []) [] H = some r := callF_fix (first := []) (cap := []) ((e_outriderref1_prime JN GO _  H).trans h)

noncomputable def s_outriderlaw6_SegSays (J : JT) (G : GT) (cf : CF) (a0 a1 a2 a3 : AV) (H : Hp) : R :=
 B2 (cf (.func (.func 9) [] []) [] H) fun v0 h1 =>
 B1 (unA .not v0) fun v2 =>
 CD v2 (
 some ((.bool false), h1)) (
 J 4 (fun j3 =>
 J 5 (fun j4 =>
 B1 (lenx a2) fun v5 =>
 B1 (igt v5 (.int .i64 2000)) fun v6 =>
 G v6 false (fun k7 =>
 k7 a1 h1) (fun v8 h9 =>
 G v6 false (fun k10 =>
 B1 (lens v8) fun v11 =>
 k10 v11 h9) (fun v12 h13 =>
 G v6 false (fun k14 =>
 B1 (igt v12 (.int .i64 100)) fun v15 =>
 k14 v15 h13) (fun v16 h17 =>
 B1 (pk v6 (.bool true) v16) fun v18 =>
 j4 a0 a1 a2 a3 v18 h17) h13) h9) h1) (fun x19 x20 x21 x22 x23 h24 =>
 CD x23 (
 some ((.bool true), h24)) (
 j3 x19 x20 x21 x22 h24))) (fun x25 x26 x27 x28 h29 =>
 J 6 (fun j30 =>
 B2 (cf (.func (.func 10) [] []) [x25] h29) fun v31 h32 =>
 B1 (ex 0 v31) fun v33 =>
 B1 (ex 1 v31) fun v34 =>
 j30 x25 x26 x27 x28 v33 v34 h32) (fun x35 x36 x37 x38 x39 x40 h41 =>
 J 8 (fun j42 =>
 B2 (cf (.func (.func 12) [] []) [x35] h41) fun v43 h44 =>
 B1 (ex 0 v43) fun v45 =>
 B1 (ex 1 v43) fun v46 =>
 j42 x35 x36 x37 x38 x39 x40 v45 v46 h44) (fun x47 x48 x49 x50 x51 x52 x53 x54 h55 =>
 J 10 (fun j56 =>
 B2 (cf (.func (.func 11) [] []) [x48] h55) fun v57 h58 =>
 B1 (ex 0 v57) fun v59 =>
 B1 (ex 1 v57) fun v60 =>
 j56 x47 x48 x49 x50 x51 x52 x53 x54 v59 v60 h58) (fun x61 x62 x63 x64 x65 x66 x67 x68 x69 x70 h71 =>
 J 11 (fun j72 =>
 B2 (cf (.func (.func 13) [] []) [x62] h71) fun v73 h74 =>
 B1 (ex 0 v73) fun v75 =>
 B1 (ex 1 v73) fun v76 =>
 j72 x61 x63 x64 x65 x66 x67 x68 x69 x70 v75 v76 h74) (fun x77 x78 x79 x80 x81 x82 x83 x84 x85 x86 x87 h88 =>
 J 13 (fun j89 =>
 B2 (cf (.func (.func 14) [] []) [x78, x77, x79] h88) fun v90 h91 =>
 B1 (ex 0 v90) fun v92 =>
 B1 (ex 1 v90) fun v93 =>
 j89 x77 x78 x79 x80 x81 x82 x83 x84 x85 x86 x87 v92 v93 h91) (fun x94 x95 x96 x97 x98 x99 x100 x101 x102 x103 x104 x105 x106 h107 =>
 J 12 (fun j108 =>
 B2 (cf (.func (.func 15) [] []) [x95, x94, x96] h107) fun v109 h110 =>
 B1 (ex 0 v109) fun v111 =>
 B1 (ex 1 v109) fun v112 =>
 j108 x97 x98 x99 x100 x101 x102 x103 x104 x105 x106 v111 v112 h110) (fun x113 x114 x115 x116 x117 x118 x119 x120 x121 x122 x123 x124 h125 =>
 B1 (bb .eql x114 x116) fun v126 =>
 G v126 true (fun k127 =>
 k127 x113 h125) (fun v128 h129 =>
 G v126 true (fun k130 =>
 k130 x115 h129) (fun v131 h132 =>
 G v126 true (fun k133 =>
 B1 (seq v128 v131) fun v134 =>
 k133 v134 h132) (fun v135 h136 =>
 B1 (pk v126 v135 (.bool false)) fun v137 =>
 G v137 true (fun k138 =>
 k138 x118 h136) (fun v139 h140 =>
 G v137 true (fun k141 =>
 k141 x120 h140) (fun v142 h143 =>
 G v137 true (fun k144 =>
 B1 (bb .eql v139 v142) fun v145 =>
 k144 v145 h143) (fun v146 h147 =>
 B1 (pk v137 v146 (.bool false)) fun v148 =>
 G v148 true (fun k149 =>
 k149 x117 h147) (fun v150 h151 =>
 G v148 true (fun k152 =>
 k152 x119 h151) (fun v153 h154 =>
 G v148 true (fun k155 =>
 B1 (ieq v150 v153) fun v156 =>
 k155 v156 h154) (fun v157 h158 =>
 B1 (pk v148 v157 (.bool false)) fun v159 =>
 G v159 true (fun k160 =>
 k160 x122 h158) (fun v161 h162 =>
 G v159 true (fun k163 =>
 k163 x124 h162) (fun v164 h165 =>
 G v159 true (fun k166 =>
 B1 (ieq v161 v164) fun v167 =>
 k166 v167 h165) (fun v168 h169 =>
 B1 (pk v159 v168 (.bool false)) fun v170 =>
 G v170 true (fun k171 =>
 k171 x121 h169) (fun v172 h173 =>
 G v170 true (fun k174 =>
 k174 x123 h173) (fun v175 h176 =>
 G v170 true (fun k177 =>
 B2 (cf (.func (.func 16) [] []) [v172, v175] h176) fun v178 h179 =>
 k177 v178 h179) (fun v180 h181 =>
 B1 (pk v170 v180 (.bool false)) fun v182 =>
 some (v182, h181)) h176) h173) h169) h165) h162) h158) h154) h151) h147) h143) h140) h136) h132) h129) h125))))))))

theorem e_outriderlaw6_SegSays (J : JT) (G : GT) (cf : CF) (a0 a1 a2 a3 : AV) (H : Hp) : callF P J G prim an cf 4 [a0, a1, a2, a3] H = s_outriderlaw6_SegSays J G cf a0 a1 a2 a3 H := by kernel_rfl

theorem c_outriderlaw6_SegSays {a0 a1 a2 a3 : AV} {H : Hp} {r : AV × Hp} (h : s_outriderlaw6_SegSays JN GO cK a0 a1 a2 a3 H = some r) : cK (.func (.func 4) [] []) [a0, a1, a2, a3] H = some r := callF_fix (first := []) (cap := []) ((e_outriderlaw6_SegSays JN GO _ a0 a1 a2 a3 H).trans h)

noncomputable def l_outriderlaw6_SegScans (J : JT) (G : GT) (cf : CF) (j6 : K.Fn 4) : K.Fn 6 := LP 6 fun j7 => fun x8 x9 x10 x11 x12 x13 h14 =>
 B1 (lenx x8) fun v15 =>
 B1 (ilt x13 v15) fun v16 =>
 CD v16 (
 J 6 (fun j17 =>
 J 8 (fun j18 =>
 B1 (ia 3 x8 x13) fun v19 =>
 B1 (fa 0 v19) fun v20 =>
 B1 (ld v20 h14) fun v21 =>
 B1 (ia 3 x8 x13) fun v22 =>
 B1 (fa 1 v22) fun v23 =>
 B1 (ld v23 h14) fun v24 =>
 B2 (cf (.func (.func 17) [] []) [v21, v24] h14) fun v25 h26 =>
 B1 (ex 0 v25) fun v27 =>
 B1 (ex 1 v25) fun v28 =>
 j18 x8 x9 x10 x11 x12 x13 v27 v28 h26) (fun x29 x30 x31 x32 x33 x34 x35 x36 h37 =>
 J 7 (fun j38 =>
 J 8 (fun j39 =>
 B1 (unA .not x36) fun v40 =>
 G v40 false (fun k41 =>
 k41 x29 h37) (fun v42 h43 =>
 G v40 false (fun k44 =>
 k44 x34 h43) (fun v45 h46 =>
 G v40 false (fun k47 =>
 B1 (ia 3 v42 v45) fun v48 =>
 k47 v48 h46) (fun v49 h50 =>
 G v40 false (fun k51 =>
 B1 (fa 2 v49) fun v52 =>
 k51 v52 h50) (fun v53 h54 =>
 G v40 false (fun k55 =>
 B1 (ld v53 h54) fun v56 =>
 k55 v56 h54) (fun v57 h58 =>
 G v40 false (fun k59 =>
 B1 (lenx v57) fun v60 =>
 k59 v60 h58) (fun v61 h62 =>
 G v40 false (fun k63 =>
 B1 (igt v61 (.int .i64 60)) fun v64 =>
 k63 v64 h62) (fun v65 h66 =>
 B1 (pk v40 (.bool true) v65) fun v67 =>
 j39 x29 x30 x31 x32 x33 x34 x35 v67 h66) h62) h58) h54) h50) h46) h43) h37) (fun x68 x69 x70 x71 x72 x73 x74 x75 h76 =>
 CD x75 (
 some ((.bool true), h76)) (
 j38 x68 x69 x70 x71 x72 x73 x74 h76))) (fun x77 x78 x79 x80 x81 x82 x83 h84 =>
 J 7 (fun j85 =>
 B1 (ia 3 x77 x82) fun v86 =>
 B1 (fa 2 v86) fun v87 =>
 B1 (ld v87 h84) fun v88 =>
 B1 (fl [(.int .u64 0), .slice0] [(0, 1, x83), (1, 1, v88)]) fun l89 =>
 B2 (cf (.func (.func 18) [] []) [x81, (.agg l89)] h84) fun v90 h91 =>
 B1 (ex 0 v90) fun v92 =>
 B1 (ex 1 v90) fun v93 =>
 j85 x77 x78 x79 x80 x82 v92 v93 h91) (fun x94 x95 x96 x97 x98 x99 x100 h101 =>
 B1 (ine x100 (.int .i64 0)) fun v102 =>
 CD v102 (
 some ((.bool false), h101)) (
 j17 x94 x95 x96 x97 x99 x98 h101))))) (fun x103 x104 x105 x106 x107 x108 h109 =>
 B1 (iadd x108 (.int .i64 1)) fun v110 =>
 j7 x103 x104 x105 x106 x107 v110 h109)) (
 j6 x9 x10 x11 x12 h14)

theorem rl_outriderlaw6_SegScans (J : JT) (G : GT) (cf : CF) (j6 : K.Fn 4) (j7 : K.Fn 6) (x8 x9 x10 x11 x12 x13 : AV) (h14 : Hp) : codeF P J G cf (nT P 5) (atC P 5 [1, 1, 1, 1, 0, 1, 0, 0]) (.sq none (.sq none .nl (.cd .nl .nl)) (.sq (some [0, 1, 2, 3, 9, 10]) (.bl none (.sq (some [0, 1, 2, 3, 9, 10, 11, 12]) .nl (.sq (some [0, 1, 2, 3, 9, 10, 11]) (.sq (some [0, 1, 2, 3, 9, 10, 11, 55]) .nl (.cd (.sq none .nl .nl) .nl)) (.sq (some [0, 1, 2, 3, 10, 13, 14]) .nl (.sq none (.sq none .nl (.cd (.sq none .nl .nl) .nl)) .nl))))) .nl)) (fun t H => app 6 j7 (vals [0, 1, 2, 3, 9, 10] t) H) (fun q t H => match Nat.beq q 0 with | true => app 4 j6 (vals [1, 2, 3, 9] t) H | false => (fun _ _ _ => none) q t H) (retK P 5) (mkT (nT P 5) [0, 1, 2, 3, 9, 10] [x8, x9, x10, x11, x12, x13]) h14 =
(B1 (lenx x8) fun v15 =>
 B1 (ilt x13 v15) fun v16 =>
 CD v16 (
 J 6 (fun j17 =>
 J 8 (fun j18 =>
 B1 (ia 3 x8 x13) fun v19 =>
 B1 (fa 0 v19) fun v20 =>
 B1 (ld v20 h14) fun v21 =>
 B1 (ia 3 x8 x13) fun v22 =>
 B1 (fa 1 v22) fun v23 =>
 B1 (ld v23 h14) fun v24 =>
 B2 (cf (.func (.func 17) [] []) [v21, v24] h14) fun v25 h26 =>
 B1 (ex 0 v25) fun v27 =>
 B1 (ex 1 v25) fun v28 =>
 j18 x8 x9 x10 x11 x12 x13 v27 v28 h26) (fun x29 x30 x31 x32 x33 x34 x35 x36 h37 =>
 J 7 (fun j38 =>
 J 8 (fun j39 =>
 B1 (unA .not x36) fun v40 =>
 G v40 false (fun k41 =>
 k41 x29 h37) (fun v42 h43 =>
 G v40 false (fun k44 =>
 k44 x34 h43) (fun v45 h46 =>
 G v40 false (fun k47 =>
 B1 (ia 3 v42 v45) fun v48 =>
 k47 v48 h46) (fun v49 h50 =>
 G v40 false (fun k51 =>
 B1 (fa 2 v49) fun v52 =>
 k51 v52 h50) (fun v53 h54 =>
 G v40 false (fun k55 =>
 B1 (ld v53 h54) fun v56 =>
 k55 v56 h54) (fun v57 h58 =>
 G v40 false (fun k59 =>
 B1 (lenx v57) fun v60 =>
 k59 v60 h58) (fun v61 h62 =>
 G v40 false (fun k63 =>
 B1 (igt v61 (.int .i64 60)) fun v64 =>
 k63 v64 h62) (fun v65 h66 =>
 B1 (pk v40 (.bool true) v65) fun v67 =>
 j39 x29 x30 x31 x32 x33 x34 x35 v67 h66) h62) h58) h54) h50) h46) h43) h37) (fun x68 x69 x70 x71 x72 x73 x74 x75 h76 =>
 CD x75 (
 some ((.bool true), h76)) (
 j38 x68 x69 x70 x71 x72 x73 x74 h76))) (fun x77 x78 x79 x80 x81 x82 x83 h84 =>
 J 7 (fun j85 =>
 B1 (ia 3 x77 x82) fun v86 =>
 B1 (fa 2 v86) fun v87 =>
 B1 (ld v87 h84) fun v88 =>
 B1 (fl [(.int .u64 0), .slice0] [(0, 1, x83), (1, 1, v88)]) fun l89 =>
 B2 (cf (.func (.func 18) [] []) [x81, (.agg l89)] h84) fun v90 h91 =>
 B1 (ex 0 v90) fun v92 =>
 B1 (ex 1 v90) fun v93 =>
 j85 x77 x78 x79 x80 x82 v92 v93 h91) (fun x94 x95 x96 x97 x98 x99 x100 h101 =>
 B1 (ine x100 (.int .i64 0)) fun v102 =>
 CD v102 (
 some ((.bool false), h101)) (
 j17 x94 x95 x96 x97 x99 x98 h101))))) (fun x103 x104 x105 x106 x107 x108 h109 =>
 B1 (iadd x108 (.int .i64 1)) fun v110 =>
 j7 x103 x104 x105 x106 x107 v110 h109)) (
 j6 x9 x10 x11 x12 h14)) := by kernel_rfl

theorem dl_outriderlaw6_SegScans (J : JT) (G : GT) (cf : CF) (j6 : K.Fn 4) : l_outriderlaw6_SegScans J G cf j6 = loopF P J G cf (nT P 5) (atC P 5 [1, 1, 1, 1, 0, 1, 0, 0]) (.sq none (.sq none .nl (.cd .nl .nl)) (.sq (some [0, 1, 2, 3, 9, 10]) (.bl none (.sq (some [0, 1, 2, 3, 9, 10, 11, 12]) .nl (.sq (some [0, 1, 2, 3, 9, 10, 11]) (.sq (some [0, 1, 2, 3, 9, 10, 11, 55]) .nl (.cd (.sq none .nl .nl) .nl)) (.sq (some [0, 1, 2, 3, 10, 13, 14]) .nl (.sq none (.sq none .nl (.cd (.sq none .nl .nl) .nl)) .nl))))) .nl)) [0, 1, 2, 3, 9, 10] (fun q t H => match Nat.beq q 0 with | true => app 4 j6 (vals [1, 2, 3, 9] t) H | false => (fun _ _ _ => none) q t H) (retK P 5) := by
  unfold l_outriderlaw6_SegScans loopF
  refine congrArg (LP 6) ?_
  funext j7 x8 x9 x10 x11 x12 x13 h14
  exact (rl_outriderlaw6_SegScans J G cf j6 j7 x8 x9 x10 x11 x12 x13 h14).symm

theorem ql_outriderlaw6_SegScans (cf : CF) (j6 : K.Fn 4) (x8 x9 x10 x11 x12 x13 : AV) (h14 : Hp) : l_outriderlaw6_SegScans JN GO cf j6 x8 x9 x10 x11 x12 x13 h14 =

 B1 (lenx x8) fun v15 =>
 B1 (ilt x13 v15) fun v16 =>
 CD v16 (
 JN 6 (fun j17 =>
 JN 8 (fun j18 =>
 B1 (ia 3 x8 x13) fun v19 =>
 B1 (fa 0 v19) fun v20 =>
 B1 (ld v20 h14) fun v21 =>
 B1 (ia 3 x8 x13) fun v22 =>
 B1 (fa 1 v22) fun v23 =>
 B1 (ld v23 h14) fun v24 =>
 B2 (cf (.func (.func 17) [] []) [v21, v24] h14) fun v25 h26 =>
 B1 (ex 0 v25) fun v27 =>
 B1 (ex 1 v25) fun v28 =>
 j18 x8 x9 x10 x11 x12 x13 v27 v28 h26) (fun x29 x30 x31 x32 x33 x34 x35 x36 h37 =>
 JN 7 (fun j38 =>
 JN 8 (fun j39 =>
 B1 (unA .not x36) fun v40 =>
 GO v40 false (fun k41 =>
 k41 x29 h37) (fun v42 h43 =>
 GO v40 false (fun k44 =>
 k44 x34 h43) (fun v45 h46 =>
 GO v40 false (fun k47 =>
 B1 (ia 3 v42 v45) fun v48 =>
 k47 v48 h46) (fun v49 h50 =>
 GO v40 false (fun k51 =>
 B1 (fa 2 v49) fun v52 =>
 k51 v52 h50) (fun v53 h54 =>
 GO v40 false (fun k55 =>
 B1 (ld v53 h54) fun v56 =>
 k55 v56 h54) (fun v57 h58 =>
 GO v40 false (fun k59 =>
 B1 (lenx v57) fun v60 =>
 k59 v60 h58) (fun v61 h62 =>
 GO v40 false (fun k63 =>
 B1 (igt v61 (.int .i64 60)) fun v64 =>
 k63 v64 h62) (fun v65 h66 =>
 B1 (pk v40 (.bool true) v65) fun v67 =>
 j39 x29 x30 x31 x32 x33 x34 x35 v67 h66) h62) h58) h54) h50) h46) h43) h37) (fun x68 x69 x70 x71 x72 x73 x74 x75 h76 =>
 CD x75 (
 some ((.bool true), h76)) (
 j38 x68 x69 x70 x71 x72 x73 x74 h76))) (fun x77 x78 x79 x80 x81 x82 x83 h84 =>
 JN 7 (fun j85 =>
 B1 (ia 3 x77 x82) fun v86 =>
 B1 (fa 2 v86) fun v87 =>
 B1 (ld v87 h84) fun v88 =>
 B1 (fl [(.int .u64 0), .slice0] [(0, 1, x83), (1, 1, v88)]) fun l89 =>
 B2 (cf (.func (.func 18) [] []) [x81, (.agg l89)] h84) fun v90 h91 =>
 B1 (ex 0 v90) fun v92 =>
 B1 (ex 1 v90) fun v93 =>
 j85 x77 x78 x79 x80 x82 v92 v93 h91) (fun x94 x95 x96 x97 x98 x99 x100 h101 =>
 B1 (ine x100 (.int .i64 0)) fun v102 =>
 CD v102 (
 some ((.bool false), h101)) (
 j17 x94 x95 x96 x97 x99 x98 h101))))) (fun x103 x104 x105 x106 x107 x108 h109 =>
 B1 (iadd x108 (.int .i64 1)) fun v110 =>
 l_outriderlaw6_SegScans JN GO cf j6 x103 x104 x105 x106 x107 v110 h109)) (
 j6 x9 x10 x11 x12 h14) := by
  have h1 : l_outriderlaw6_SegScans JN GO cf j6 x8 x9 x10 x11 x12 x13 h14 = app 6 (loopF P JN GO cf (nT P 5) (atC P 5 [1, 1, 1, 1, 0, 1, 0, 0]) (.sq none (.sq none .nl (.cd .nl .nl)) (.sq (some [0, 1, 2, 3, 9, 10]) (.bl none (.sq (some [0, 1, 2, 3, 9, 10, 11, 12]) .nl (.sq (some [0, 1, 2, 3, 9, 10, 11]) (.sq (some [0, 1, 2, 3, 9, 10, 11, 55]) .nl (.cd (.sq none .nl .nl) .nl)) (.sq (some [0, 1, 2, 3, 10, 13, 14]) .nl (.sq none (.sq none .nl (.cd (.sq none .nl .nl) .nl)) .nl))))) .nl)) [0, 1, 2, 3, 9, 10] (fun q t H => match Nat.beq q 0 with | true => app 4 j6 (vals [1, 2, 3, 9] t) H | false => (fun _ _ _ => none) q t H) (retK P 5)) [x8, x9, x10, x11, x12, x13] h14 := by rw [dl_outriderlaw6_SegScans]; kernel_rfl
  refine h1.trans ((loopF_eq (P := P) cf (nT P 5) (atC P 5 [1, 1, 1, 1, 0, 1, 0, 0]) (.sq none (.sq none .nl (.cd .nl .nl)) (.sq (some [0, 1, 2, 3, 9, 10]) (.bl none (.sq (some [0, 1, 2, 3, 9, 10, 11, 12]) .nl (.sq (some [0, 1, 2, 3, 9, 10, 11]) (.sq (some [0, 1, 2, 3, 9, 10, 11, 55]) .nl (.cd (.sq none .nl .nl) .nl)) (.sq (some [0, 1, 2, 3, 10, 13, 14]) .nl (.sq none (.sq none .nl (.cd (.sq none .nl .nl) .nl)) .nl))))) .nl)) [0, 1, 2, 3, 9, 10] (fun q t H => match Nat.beq q 0 with | true => app 4 j6 (vals [1, 2, 3, 9] t) H | false => (fun _ _ _ => none) q t H) (retK P 5) [x8, x9, x10, x11, x12, x13] rfl h14).trans ((rl_outriderlaw6_SegScans JN GO cf j6 _ x8 x9 x10 x11 x12 x13 h14).trans ?_))
  rw [dl_outriderlaw6_SegScans]

noncomputable def l_outriderlaw6_SegScans1 (J : JT) (G : GT) (cf : CF) (j218 : K.Fn 0) : K.Fn 4 := LP 4 fun j219 => fun x220 x221 x222 x223 h224 =>
 B1 (lenx x222) fun v225 =>
 B1 (ilt x223 v225) fun v226 =>
 CD v226 (
 J 4 (fun j227 =>
 J 5 (fun j228 =>
 B1 (ia 2 x222 x223) fun v229 =>
 B1 (fa 0 v229) fun v230 =>
 B1 (ld v230 h224) fun v231 =>
 B2 (cf (.func (.func 19) [] []) [v231] h224) fun v232 h233 =>
 B1 (iadd x220 x223) fun v234 =>
 B1 (ine v232 v234) fun v235 =>
 GD2 v235 false (
 B1 (ia 2 x222 x223) fun v236 =>
 B1 (fa 0 v236) fun v237 =>
 B1 (ld v237 h233) fun v238 =>
 B2 (cf (.func (.func 20) [] []) [v238] h233) fun v239 h240 =>
 B1 (ilt v239 x221) fun v241 =>
 GD2 v241 false (
 B1 (igt x223 (.int .i64 0)) fun v242 =>
 GD2 v242 true (
 B1 (ia 2 x222 x223) fun v243 =>
 B1 (fa 0 v243) fun v244 =>
 B1 (ld v244 h240) fun v245 =>
 B2 (cf (.func (.func 20) [] []) [v245] h240) fun v246 h247 =>
 B1 (isub x223 (.int .i64 1)) fun v248 =>
 B1 (ia 2 x222 v248) fun v249 =>
 B1 (fa 0 v249) fun v250 =>
 B1 (ld v250 h247) fun v251 =>
 B2 (cf (.func (.func 20) [] []) [v251] h247) fun v252 h253 =>
 B1 (ilt v246 v252) fun v254 =>
 B1 (ld v250 h240) fun v255 =>
 SM v251 v255 <|
 j228 x220 x221 x222 x223 v254 h253) (
 j228 x220 x221 x222 x223 (.bool false) h240)) (
 j228 x220 x221 x222 x223 (.bool true) h240)) (
 j228 x220 x221 x222 x223 (.bool true) h233)) (fun x256 x257 x258 x259 x260 h261 =>
 CD x260 (
 some ((.bool false), h261)) (
 j227 x256 x257 x258 x259 h261))) (fun x262 x263 x264 x265 h266 =>
 B1 (iadd x265 (.int .i64 1)) fun v267 =>
 j219 x262 x263 x264 v267 h266)) (
 j218  h224)

theorem rl_outriderlaw6_SegScans1 (J : JT) (G : GT) (cf : CF) (j218 : K.Fn 0) (j219 : K.Fn 4) (x220 x221 x222 x223 : AV) (h224 : Hp) : codeF P J G cf (nT P 5) (atC P 5 [1, 1, 1, 1, 1, 1, 1, 1, 1, 0, 1, 0, 0]) (.sq none (.sq none .nl (.cd .nl .nl)) (.sq (some [1, 2, 15, 19]) (.bl none (.sq (some [1, 2, 15, 19, 156]) .nl (.cd (.sq none .nl .nl) .nl))) .nl)) (fun t H => app 4 j219 (vals [1, 2, 15, 19] t) H) (fun q t H => match Nat.beq q 2 with | true => app 0 j218 (vals [] t) H | false => (fun _ _ _ => none) q t H) (retK P 5) (mkT (nT P 5) [1, 2, 15, 19] [x220, x221, x222, x223]) h224 =
(B1 (lenx x222) fun v225 =>
 B1 (ilt x223 v225) fun v226 =>
 CD v226 (
 J 4 (fun j227 =>
 J 5 (fun j228 =>
 B1 (ia 2 x222 x223) fun v229 =>
 B1 (fa 0 v229) fun v230 =>
 B1 (ld v230 h224) fun v231 =>
 B2 (cf (.func (.func 19) [] []) [v231] h224) fun v232 h233 =>
 B1 (iadd x220 x223) fun v234 =>
 B1 (ine v232 v234) fun v235 =>
 GD2 v235 false (
 B1 (ia 2 x222 x223) fun v236 =>
 B1 (fa 0 v236) fun v237 =>
 B1 (ld v237 h233) fun v238 =>
 B2 (cf (.func (.func 20) [] []) [v238] h233) fun v239 h240 =>
 B1 (ilt v239 x221) fun v241 =>
 GD2 v241 false (
 B1 (igt x223 (.int .i64 0)) fun v242 =>
 GD2 v242 true (
 B1 (ia 2 x222 x223) fun v243 =>
 B1 (fa 0 v243) fun v244 =>
 B1 (ld v244 h240) fun v245 =>
 B2 (cf (.func (.func 20) [] []) [v245] h240) fun v246 h247 =>
 B1 (isub x223 (.int .i64 1)) fun v248 =>
 B1 (ia 2 x222 v248) fun v249 =>
 B1 (fa 0 v249) fun v250 =>
 B1 (ld v250 h247) fun v251 =>
 B2 (cf (.func (.func 20) [] []) [v251] h247) fun v252 h253 =>
 B1 (ilt v246 v252) fun v254 =>
 B1 (ld v250 h240) fun v255 =>
 SM v251 v255 <|
 j228 x220 x221 x222 x223 v254 h253) (
 j228 x220 x221 x222 x223 (.bool false) h240)) (
 j228 x220 x221 x222 x223 (.bool true) h240)) (
 j228 x220 x221 x222 x223 (.bool true) h233)) (fun x256 x257 x258 x259 x260 h261 =>
 CD x260 (
 some ((.bool false), h261)) (
 j227 x256 x257 x258 x259 h261))) (fun x262 x263 x264 x265 h266 =>
 B1 (iadd x265 (.int .i64 1)) fun v267 =>
 j219 x262 x263 x264 v267 h266)) (
 j218  h224)) := by kernel_rfl

theorem dl_outriderlaw6_SegScans1 (J : JT) (G : GT) (cf : CF) (j218 : K.Fn 0) : l_outriderlaw6_SegScans1 J G cf j218 = loopF P J G cf (nT P 5) (atC P 5 [1, 1, 1, 1, 1, 1, 1, 1, 1, 0, 1, 0, 0]) (.sq none (.sq none .nl (.cd .nl .nl)) (.sq (some [1, 2, 15, 19]) (.bl none (.sq (some [1, 2, 15, 19, 156]) .nl (.cd (.sq none .nl .nl) .nl))) .nl)) [1, 2, 15, 19] (fun q t H => match Nat.beq q 2 with | true => app 0 j218 (vals [] t) H | false => (fun _ _ _ => none) q t H) (retK P 5) := by
  unfold l_outriderlaw6_SegScans1 loopF
  refine congrArg (LP 4) ?_
  funext j219 x220 x221 x222 x223 h224
  exact (rl_outriderlaw6_SegScans1 J G cf j218 j219 x220 x221 x222 x223 h224).symm

theorem ql_outriderlaw6_SegScans1 (cf : CF) (j218 : K.Fn 0) (x220 x221 x222 x223 : AV) (h224 : Hp) : l_outriderlaw6_SegScans1 JN GO cf j218 x220 x221 x222 x223 h224 =

 B1 (lenx x222) fun v225 =>
 B1 (ilt x223 v225) fun v226 =>
 CD v226 (
 JN 4 (fun j227 =>
 JN 5 (fun j228 =>
 B1 (ia 2 x222 x223) fun v229 =>
 B1 (fa 0 v229) fun v230 =>
 B1 (ld v230 h224) fun v231 =>
 B2 (cf (.func (.func 19) [] []) [v231] h224) fun v232 h233 =>
 B1 (iadd x220 x223) fun v234 =>
 B1 (ine v232 v234) fun v235 =>
 GD2 v235 false (
 B1 (ia 2 x222 x223) fun v236 =>
 B1 (fa 0 v236) fun v237 =>
 B1 (ld v237 h233) fun v238 =>
 B2 (cf (.func (.func 20) [] []) [v238] h233) fun v239 h240 =>
 B1 (ilt v239 x221) fun v241 =>
 GD2 v241 false (
 B1 (igt x223 (.int .i64 0)) fun v242 =>
 GD2 v242 true (
 B1 (ia 2 x222 x223) fun v243 =>
 B1 (fa 0 v243) fun v244 =>
 B1 (ld v244 h240) fun v245 =>
 B2 (cf (.func (.func 20) [] []) [v245] h240) fun v246 h247 =>
 B1 (isub x223 (.int .i64 1)) fun v248 =>
 B1 (ia 2 x222 v248) fun v249 =>
 B1 (fa 0 v249) fun v250 =>
 B1 (ld v250 h247) fun v251 =>
 B2 (cf (.func (.func 20) [] []) [v251] h247) fun v252 h253 =>
 B1 (ilt v246 v252) fun v254 =>
 B1 (ld v250 h240) fun v255 =>
 SM v251 v255 <|
 j228 x220 x221 x222 x223 v254 h253) (
 j228 x220 x221 x222 x223 (.bool false) h240)) (
 j228 x220 x221 x222 x223 (.bool true) h240)) (
 j228 x220 x221 x222 x223 (.bool true) h233)) (fun x256 x257 x258 x259 x260 h261 =>
 CD x260 (
 some ((.bool false), h261)) (
 j227 x256 x257 x258 x259 h261))) (fun x262 x263 x264 x265 h266 =>
 B1 (iadd x265 (.int .i64 1)) fun v267 =>
 l_outriderlaw6_SegScans1 JN GO cf j218 x262 x263 x264 v267 h266)) (
 j218  h224) := by
  have h1 : l_outriderlaw6_SegScans1 JN GO cf j218 x220 x221 x222 x223 h224 = app 4 (loopF P JN GO cf (nT P 5) (atC P 5 [1, 1, 1, 1, 1, 1, 1, 1, 1, 0, 1, 0, 0]) (.sq none (.sq none .nl (.cd .nl .nl)) (.sq (some [1, 2, 15, 19]) (.bl none (.sq (some [1, 2, 15, 19, 156]) .nl (.cd (.sq none .nl .nl) .nl))) .nl)) [1, 2, 15, 19] (fun q t H => match Nat.beq q 2 with | true => app 0 j218 (vals [] t) H | false => (fun _ _ _ => none) q t H) (retK P 5)) [x220, x221, x222, x223] h224 := by rw [dl_outriderlaw6_SegScans1]; kernel_rfl
  refine h1.trans ((loopF_eq (P := P) cf (nT P 5) (atC P 5 [1, 1, 1, 1, 1, 1, 1, 1, 1, 0, 1, 0, 0]) (.sq none (.sq none .nl (.cd .nl .nl)) (.sq (some [1, 2, 15, 19]) (.bl none (.sq (some [1, 2, 15, 19, 156]) .nl (.cd (.sq none .nl .nl) .nl))) .nl)) [1, 2, 15, 19] (fun q t H => match Nat.beq q 2 with | true => app 0 j218 (vals [] t) H | false => (fun _ _ _ => none) q t H) (retK P 5) [x220, x221, x222, x223] rfl h224).trans ((rl_outriderlaw6_SegScans1 JN GO cf j218 _ x220 x221 x222 x223 h224).trans ?_))
  rw [dl_outriderlaw6_SegScans1]

noncomputable def s_outriderlaw6_SegScans (J : JT) (G : GT) (cf : CF) (a0 a1 a2 a3 : AV) (H : Hp) : R :=
 B2 (cf (.func (.func 9) [] []) [] H) fun v0 h1 =>
 B1 (unA .not v0) fun v2 =>
 CD v2 (
 some ((.bool false), h1)) (
 B1 (lenx a0) fun v3 =>
 B1 (igt v3 (.int .i64 15)) fun v4 =>
 CD v4 (
 some ((.bool true), h1)) (
 J 4 (fun j5 =>
 J 4 (fun j6 =>
 l_outriderlaw6_SegScans J G cf j6 a0 a1 a2 a3 .slice0 (.int .i64 0) h1) (fun x111 x112 x113 x114 h115 =>
 j5 x111 x112 x113 x114 h115)) (fun x116 x117 x118 x119 h120 =>
 J 3 (fun j121 =>
 J 5 (fun j122 =>
 B1 (ige x118 (.int .i64 0)) fun v123 =>
 G v123 true (fun k124 =>
 k124 x118 h120) (fun v125 h126 =>
 G v123 true (fun k127 =>
 k127 x119 h126) (fun v128 h129 =>
 G v123 true (fun k130 =>
 B1 (lenx v128) fun v131 =>
 k130 v131 h129) (fun v132 h133 =>
 G v123 true (fun k134 =>
 B1 (ilt v125 v132) fun v135 =>
 k134 v135 h133) (fun v136 h137 =>
 B1 (pk v123 v136 (.bool false)) fun v138 =>
 j122 x116 x117 x118 x119 v138 h137) h133) h129) h126) h120) (fun x139 x140 x141 x142 x143 h144 =>
 CD x143 (
 B1 (sll 1 x142 none (some x141) none) fun v145 =>
 j121 x139 x140 v145 h144) (
 j121 x139 x140 x142 h144))) (fun x146 x147 x148 h149 =>
 J 5 (fun j150 =>
 B2 (cf (.func (.func 14) [] []) [x148, x146, x147] h149) fun v151 h152 =>
 B1 (ex 0 v151) fun v153 =>
 B1 (ex 1 v151) fun v154 =>
 j150 x146 x147 x148 v153 v154 h152) (fun x155 x156 x157 x158 x159 h160 =>
 J 7 (fun j161 =>
 B2 (cf (.func (.func 15) [] []) [x157, x155, x156] h160) fun v162 h163 =>
 B1 (ex 0 v162) fun v164 =>
 B1 (ex 1 v162) fun v165 =>
 j161 x155 x156 x157 x158 x159 v164 v165 h163) (fun x166 x167 x168 x169 x170 x171 x172 h173 =>
 J 3 (fun j174 =>
 J 4 (fun j175 =>
 B1 (ine x170 x172) fun v176 =>
 G v176 false (fun k177 =>
 k177 x169 h173) (fun v178 h179 =>
 G v176 false (fun k180 =>
 k180 x171 h179) (fun v181 h182 =>
 G v176 false (fun k183 =>
 B2 (cf (.func (.func 16) [] []) [v178, v181] h182) fun v184 h185 =>
 k183 v184 h185) (fun v186 h187 =>
 G v176 false (fun k188 =>
 B1 (unA .not v186) fun v189 =>
 k188 v189 h187) (fun v190 h191 =>
 B1 (pk v176 (.bool true) v190) fun v192 =>
 G v192 false (fun k193 =>
 k193 x170 h191) (fun v194 h195 =>
 G v192 false (fun k196 =>
 k196 x168 h195) (fun v197 h198 =>
 G v192 false (fun k199 =>
 B1 (lenx v197) fun v200 =>
 k199 v200 h198) (fun v201 h202 =>
 G v192 false (fun k203 =>
 B1 (igt v194 v201) fun v204 =>
 k203 v204 h202) (fun v205 h206 =>
 B1 (pk v192 (.bool true) v205) fun v207 =>
 j175 x166 x167 x169 v207 h206) h202) h198) h195) h191) h187) h182) h179) h173) (fun x208 x209 x210 x211 h212 =>
 CD x211 (
 some ((.bool false), h212)) (
 j174 x208 x209 x210 h212))) (fun x213 x214 x215 h216 =>
 J 0 (fun j217 =>
 J 0 (fun j218 =>
 l_outriderlaw6_SegScans1 J G cf j218 x213 x214 x215 (.int .i64 0) h216) (fun  h268 =>
 j217  h268)) (fun  h269 =>
 some ((.bool true), h269)))))))))

theorem e_outriderlaw6_SegScans (J : JT) (G : GT) (cf : CF) (a0 a1 a2 a3 : AV) (H : Hp) : callF P J G prim an cf 5 [a0, a1, a2, a3] H = s_outriderlaw6_SegScans J G cf a0 a1 a2 a3 H := by kernel_rfl

theorem c_outriderlaw6_SegScans {a0 a1 a2 a3 : AV} {H : Hp} {r : AV × Hp} (h : s_outriderlaw6_SegScans JN GO cK a0 a1 a2 a3 H = some r) : cK (.func (.func 5) [] []) [a0, a1, a2, a3] H = some r := callF_fix (first := []) (cap := []) ((e_outriderlaw6_SegScans JN GO _ a0 a1 a2 a3 H).trans h)

noncomputable def l_outriderlaw6_SegBehind (J : JT) (G : GT) (cf : CF) (j27 : K.Fn 3) : K.Fn 4 := LP 4 fun j28 => fun x29 x30 x31 x32 h33 =>
 B1 (lenx x29) fun v34 =>
 B1 (ilt x32 v34) fun v35 =>
 CD v35 (
 J 4 (fun j36 =>
 J 6 (fun j37 =>
 B2 (cf (.func (.func 17) [] []) [(.int .i64 3), x32] h33) fun v38 h39 =>
 B1 (ex 0 v38) fun v40 =>
 B1 (ex 1 v38) fun v41 =>
 j37 x29 x30 x31 x32 v40 v41 h39) (fun x42 x43 x44 x45 x46 x47 h48 =>
 J 6 (fun j49 =>
 B1 (ia 3 x42 x45) fun v50 =>
 B1 (fa 2 v50) fun v51 =>
 B1 (ld v51 h48) fun v52 =>
 B1 (fl [(.int .u64 0), .slice0] [(0, 1, x46), (1, 1, v52)]) fun l53 =>
 B2 (cf (.func (.func 18) [] []) [x44, (.agg l53)] h48) fun v54 h55 =>
 B1 (ex 0 v54) fun v56 =>
 B1 (ex 1 v54) fun v57 =>
 j49 x42 x43 x45 x47 v56 v57 h55) (fun x58 x59 x60 x61 x62 x63 h64 =>
 J 6 (fun j65 =>
 J 7 (fun j66 =>
 B1 (ia 3 x58 x60) fun v67 =>
 B1 (fa 2 v67) fun v68 =>
 B1 (ld v68 h64) fun v69 =>
 B1 (lenx v69) fun v70 =>
 B1 (igt v70 (.int .i64 60)) fun v71 =>
 j66 x58 x59 x60 x61 x62 x63 v71 h64) (fun x72 x73 x74 x75 x76 x77 x78 h79 =>
 CD x78 (
 some ((.bool true), h79)) (
 j65 x72 x73 x74 x75 x76 x77 h79))) (fun x80 x81 x82 x83 x84 x85 h86 =>
 J 4 (fun j87 =>
 J 5 (fun j88 =>
 B1 (unA .not x83) fun v89 =>
 G v89 false (fun k90 =>
 k90 x85 h86) (fun v91 h92 =>
 G v89 false (fun k93 =>
 B1 (ine v91 (.int .i64 0)) fun v94 =>
 k93 v94 h92) (fun v95 h96 =>
 B1 (pk v89 (.bool true) v95) fun v97 =>
 j88 x80 x81 x82 x84 v97 h96) h92) h86) (fun x98 x99 x100 x101 x102 h103 =>
 CD x102 (
 some ((.bool false), h103)) (
 j87 x98 x99 x100 x101 h103))) (fun x104 x105 x106 x107 h108 =>
 j36 x104 x105 x107 x106 h108))))) (fun x109 x110 x111 x112 h113 =>
 B1 (iadd x112 (.int .i64 1)) fun v114 =>
 j28 x109 x110 x111 v114 h113)) (
 j27 x29 x30 x31 h33)

theorem rl_outriderlaw6_SegBehind (J : JT) (G : GT) (cf : CF) (j27 : K.Fn 3) (j28 : K.Fn 4) (x29 x30 x31 x32 : AV) (h33 : Hp) : codeF P J G cf (nT P 6) (atC P 6 [1, 1, 1, 1, 0, 1, 0, 0]) (.sq none (.sq none .nl (.cd .nl .nl)) (.sq (some [0, 1, 5, 6]) (.bl none (.sq (some [0, 1, 5, 6, 7, 8]) .nl (.sq (some [0, 1, 6, 8, 9, 10]) .nl (.sq (some [0, 1, 6, 8, 9, 10]) (.sq (some [0, 1, 6, 8, 9, 10, 53]) .nl (.cd (.sq none .nl .nl) .nl)) (.sq (some [0, 1, 6, 9]) (.sq (some [0, 1, 6, 9, 59]) .nl (.cd (.sq none .nl .nl) .nl)) .nl))))) .nl)) (fun t H => app 4 j28 (vals [0, 1, 5, 6] t) H) (fun q t H => match Nat.beq q 0 with | true => app 3 j27 (vals [0, 1, 5] t) H | false => (fun _ _ _ => none) q t H) (retK P 6) (mkT (nT P 6) [0, 1, 5, 6] [x29, x30, x31, x32]) h33 =
(B1 (lenx x29) fun v34 =>
 B1 (ilt x32 v34) fun v35 =>
 CD v35 (
 J 4 (fun j36 =>
 J 6 (fun j37 =>
 B2 (cf (.func (.func 17) [] []) [(.int .i64 3), x32] h33) fun v38 h39 =>
 B1 (ex 0 v38) fun v40 =>
 B1 (ex 1 v38) fun v41 =>
 j37 x29 x30 x31 x32 v40 v41 h39) (fun x42 x43 x44 x45 x46 x47 h48 =>
 J 6 (fun j49 =>
 B1 (ia 3 x42 x45) fun v50 =>
 B1 (fa 2 v50) fun v51 =>
 B1 (ld v51 h48) fun v52 =>
 B1 (fl [(.int .u64 0), .slice0] [(0, 1, x46), (1, 1, v52)]) fun l53 =>
 B2 (cf (.func (.func 18) [] []) [x44, (.agg l53)] h48) fun v54 h55 =>
 B1 (ex 0 v54) fun v56 =>
 B1 (ex 1 v54) fun v57 =>
 j49 x42 x43 x45 x47 v56 v57 h55) (fun x58 x59 x60 x61 x62 x63 h64 =>
 J 6 (fun j65 =>
 J 7 (fun j66 =>
 B1 (ia 3 x58 x60) fun v67 =>
 B1 (fa 2 v67) fun v68 =>
 B1 (ld v68 h64) fun v69 =>
 B1 (lenx v69) fun v70 =>
 B1 (igt v70 (.int .i64 60)) fun v71 =>
 j66 x58 x59 x60 x61 x62 x63 v71 h64) (fun x72 x73 x74 x75 x76 x77 x78 h79 =>
 CD x78 (
 some ((.bool true), h79)) (
 j65 x72 x73 x74 x75 x76 x77 h79))) (fun x80 x81 x82 x83 x84 x85 h86 =>
 J 4 (fun j87 =>
 J 5 (fun j88 =>
 B1 (unA .not x83) fun v89 =>
 G v89 false (fun k90 =>
 k90 x85 h86) (fun v91 h92 =>
 G v89 false (fun k93 =>
 B1 (ine v91 (.int .i64 0)) fun v94 =>
 k93 v94 h92) (fun v95 h96 =>
 B1 (pk v89 (.bool true) v95) fun v97 =>
 j88 x80 x81 x82 x84 v97 h96) h92) h86) (fun x98 x99 x100 x101 x102 h103 =>
 CD x102 (
 some ((.bool false), h103)) (
 j87 x98 x99 x100 x101 h103))) (fun x104 x105 x106 x107 h108 =>
 j36 x104 x105 x107 x106 h108))))) (fun x109 x110 x111 x112 h113 =>
 B1 (iadd x112 (.int .i64 1)) fun v114 =>
 j28 x109 x110 x111 v114 h113)) (
 j27 x29 x30 x31 h33)) := by kernel_rfl

theorem dl_outriderlaw6_SegBehind (J : JT) (G : GT) (cf : CF) (j27 : K.Fn 3) : l_outriderlaw6_SegBehind J G cf j27 = loopF P J G cf (nT P 6) (atC P 6 [1, 1, 1, 1, 0, 1, 0, 0]) (.sq none (.sq none .nl (.cd .nl .nl)) (.sq (some [0, 1, 5, 6]) (.bl none (.sq (some [0, 1, 5, 6, 7, 8]) .nl (.sq (some [0, 1, 6, 8, 9, 10]) .nl (.sq (some [0, 1, 6, 8, 9, 10]) (.sq (some [0, 1, 6, 8, 9, 10, 53]) .nl (.cd (.sq none .nl .nl) .nl)) (.sq (some [0, 1, 6, 9]) (.sq (some [0, 1, 6, 9, 59]) .nl (.cd (.sq none .nl .nl) .nl)) .nl))))) .nl)) [0, 1, 5, 6] (fun q t H => match Nat.beq q 0 with | true => app 3 j27 (vals [0, 1, 5] t) H | false => (fun _ _ _ => none) q t H) (retK P 6) := by
  unfold l_outriderlaw6_SegBehind loopF
  refine congrArg (LP 4) ?_
  funext j28 x29 x30 x31 x32 h33
  exact (rl_outriderlaw6_SegBehind J G cf j27 j28 x29 x30 x31 x32 h33).symm

theorem ql_outriderlaw6_SegBehind (cf : CF) (j27 : K.Fn 3) (x29 x30 x31 x32 : AV) (h33 : Hp) : l_outriderlaw6_SegBehind JN GO cf j27 x29 x30 x31 x32 h33 =

 B1 (lenx x29) fun v34 =>
 B1 (ilt x32 v34) fun v35 =>
 CD v35 (
 JN 4 (fun j36 =>
 JN 6 (fun j37 =>
 B2 (cf (.func (.func 17) [] []) [(.int .i64 3), x32] h33) fun v38 h39 =>
 B1 (ex 0 v38) fun v40 =>
 B1 (ex 1 v38) fun v41 =>
 j37 x29 x30 x31 x32 v40 v41 h39) (fun x42 x43 x44 x45 x46 x47 h48 =>
 JN 6 (fun j49 =>
 B1 (ia 3 x42 x45) fun v50 =>
 B1 (fa 2 v50) fun v51 =>
 B1 (ld v51 h48) fun v52 =>
 B1 (fl [(.int .u64 0), .slice0] [(0, 1, x46), (1, 1, v52)]) fun l53 =>
 B2 (cf (.func (.func 18) [] []) [x44, (.agg l53)] h48) fun v54 h55 =>
 B1 (ex 0 v54) fun v56 =>
 B1 (ex 1 v54) fun v57 =>
 j49 x42 x43 x45 x47 v56 v57 h55) (fun x58 x59 x60 x61 x62 x63 h64 =>
 JN 6 (fun j65 =>
 JN 7 (fun j66 =>
 B1 (ia 3 x58 x60) fun v67 =>
 B1 (fa 2 v67) fun v68 =>
 B1 (ld v68 h64) fun v69 =>
 B1 (lenx v69) fun v70 =>
 B1 (igt v70 (.int .i64 60)) fun v71 =>
 j66 x58 x59 x60 x61 x62 x63 v71 h64) (fun x72 x73 x74 x75 x76 x77 x78 h79 =>
 CD x78 (
 some ((.bool true), h79)) (
 j65 x72 x73 x74 x75 x76 x77 h79))) (fun x80 x81 x82 x83 x84 x85 h86 =>
 JN 4 (fun j87 =>
 JN 5 (fun j88 =>
 B1 (unA .not x83) fun v89 =>
 GO v89 false (fun k90 =>
 k90 x85 h86) (fun v91 h92 =>
 GO v89 false (fun k93 =>
 B1 (ine v91 (.int .i64 0)) fun v94 =>
 k93 v94 h92) (fun v95 h96 =>
 B1 (pk v89 (.bool true) v95) fun v97 =>
 j88 x80 x81 x82 x84 v97 h96) h92) h86) (fun x98 x99 x100 x101 x102 h103 =>
 CD x102 (
 some ((.bool false), h103)) (
 j87 x98 x99 x100 x101 h103))) (fun x104 x105 x106 x107 h108 =>
 j36 x104 x105 x107 x106 h108))))) (fun x109 x110 x111 x112 h113 =>
 B1 (iadd x112 (.int .i64 1)) fun v114 =>
 l_outriderlaw6_SegBehind JN GO cf j27 x109 x110 x111 v114 h113)) (
 j27 x29 x30 x31 h33) := by
  have h1 : l_outriderlaw6_SegBehind JN GO cf j27 x29 x30 x31 x32 h33 = app 4 (loopF P JN GO cf (nT P 6) (atC P 6 [1, 1, 1, 1, 0, 1, 0, 0]) (.sq none (.sq none .nl (.cd .nl .nl)) (.sq (some [0, 1, 5, 6]) (.bl none (.sq (some [0, 1, 5, 6, 7, 8]) .nl (.sq (some [0, 1, 6, 8, 9, 10]) .nl (.sq (some [0, 1, 6, 8, 9, 10]) (.sq (some [0, 1, 6, 8, 9, 10, 53]) .nl (.cd (.sq none .nl .nl) .nl)) (.sq (some [0, 1, 6, 9]) (.sq (some [0, 1, 6, 9, 59]) .nl (.cd (.sq none .nl .nl) .nl)) .nl))))) .nl)) [0, 1, 5, 6] (fun q t H => match Nat.beq q 0 with | true => app 3 j27 (vals [0, 1, 5] t) H | false => (fun _ _ _ => none) q t H) (retK P 6)) [x29, x30, x31, x32] h33 := by rw [dl_outriderlaw6_SegBehind]; kernel_rfl
  refine h1.trans ((loopF_eq (P := P) cf (nT P 6) (atC P 6 [1, 1, 1, 1, 0, 1, 0, 0]) (.sq none (.sq none .nl (.cd .nl .nl)) (.sq (some [0, 1, 5, 6]) (.bl none (.sq (some [0, 1, 5, 6, 7, 8]) .nl (.sq (some [0, 1, 6, 8, 9, 10]) .nl (.sq (some [0, 1, 6, 8, 9, 10]) (.sq (some [0, 1, 6, 8, 9, 10, 53]) .nl (.cd (.sq none .nl .nl) .nl)) (.sq (some [0, 1, 6, 9]) (.sq (some [0, 1, 6, 9, 59]) .nl (.cd (.sq none .nl .nl) .nl)) .nl))))) .nl)) [0, 1, 5, 6] (fun q t H => match Nat.beq q 0 with | true => app 3 j27 (vals [0, 1, 5] t) H | false => (fun _ _ _ => none) q t H) (retK P 6) [x29, x30, x31, x32] rfl h33).trans ((rl_outriderlaw6_SegBehind JN GO cf j27 _ x29 x30 x31 x32 h33).trans ?_))
  rw [dl_outriderlaw6_SegBehind]

noncomputable def l_outriderlaw6_SegBehind1 (J : JT) (G : GT) (cf : CF) (j168 : K.Fn 0) : K.Fn 3 := LP 3 fun j169 => fun x170 x171 x172 h173 =>
 B1 (lenx x170) fun v174 =>
 B1 (ilt x172 v174) fun v175 =>
 CD v175 (
 J 3 (fun j176 =>
 J 4 (fun j177 =>
 B1 (ia 2 x171 x172) fun v178 =>
 B1 (fa 1 v178) fun v179 =>
 B1 (ld v179 h173) fun v180 =>
 B1 (b2s v180 h173) fun v181 =>
 B1 (ia 3 x170 x172) fun v182 =>
 B1 (fa 2 v182) fun v183 =>
 B1 (ld v183 h173) fun v184 =>
 B1 (b2s v184 h173) fun v185 =>
 B1 (sne v181 v185) fun v186 =>
 GD2 v186 false (
 B1 (ia 2 x171 x172) fun v187 =>
 B1 (fa 0 v187) fun v188 =>
 B1 (ld v188 h173) fun v189 =>
 B2 (cf (.func (.func 19) [] []) [v189] h173) fun v190 h191 =>
 B1 (ine v190 x172) fun v192 =>
 GD2 v192 false (
 B1 (ia 2 x171 x172) fun v193 =>
 B1 (fa 0 v193) fun v194 =>
 B1 (ld v194 h191) fun v195 =>
 B2 (cf (.func (.func 20) [] []) [v195] h191) fun v196 h197 =>
 B1 (ine v196 (.int .i64 3)) fun v198 =>
 j177 x170 x171 x172 v198 h197) (
 j177 x170 x171 x172 (.bool true) h191)) (
 j177 x170 x171 x172 (.bool true) h173)) (fun x199 x200 x201 x202 h203 =>
 CD x202 (
 some ((.bool false), h203)) (
 j176 x199 x200 x201 h203))) (fun x204 x205 x206 h207 =>
 B1 (iadd x206 (.int .i64 1)) fun v208 =>
 j169 x204 x205 v208 h207)) (
 j168  h173)

theorem rl_outriderlaw6_SegBehind1 (J : JT) (G : GT) (cf : CF) (j168 : K.Fn 0) (j169 : K.Fn 3) (x170 x171 x172 : AV) (h173 : Hp) : codeF P J G cf (nT P 6) (atC P 6 [1, 1, 1, 1, 1, 1, 1, 0, 1, 0, 0]) (.sq none (.sq none .nl (.cd .nl .nl)) (.sq (some [0, 11, 13]) (.bl none (.sq (some [0, 11, 13, 118]) .nl (.cd (.sq none .nl .nl) .nl))) .nl)) (fun t H => app 3 j169 (vals [0, 11, 13] t) H) (fun q t H => match Nat.beq q 2 with | true => app 0 j168 (vals [] t) H | false => (fun _ _ _ => none) q t H) (retK P 6) (mkT (nT P 6) [0, 11, 13] [x170, x171, x172]) h173 =
(B1 (lenx x170) fun v174 =>
 B1 (ilt x172 v174) fun v175 =>
 CD v175 (
 J 3 (fun j176 =>
 J 4 (fun j177 =>
 B1 (ia 2 x171 x172) fun v178 =>
 B1 (fa 1 v178) fun v179 =>
 B1 (ld v179 h173) fun v180 =>
 B1 (b2s v180 h173) fun v181 =>
 B1 (ia 3 x170 x172) fun v182 =>
 B1 (fa 2 v182) fun v183 =>
 B1 (ld v183 h173) fun v184 =>
 B1 (b2s v184 h173) fun v185 =>
 B1 (sne v181 v185) fun v186 =>
 GD2 v186 false (
 B1 (ia 2 x171 x172) fun v187 =>
 B1 (fa 0 v187) fun v188 =>
 B1 (ld v188 h173) fun v189 =>
 B2 (cf (.func (.func 19) [] []) [v189] h173) fun v190 h191 =>
 B1 (ine v190 x172) fun v192 =>
 GD2 v192 false (
 B1 (ia 2 x171 x172) fun v193 =>
 B1 (fa 0 v193) fun v194 =>
 B1 (ld v194 h191) fun v195 =>
 B2 (cf (.func (.func 20) [] []) [v195] h191) fun v196 h197 =>
 B1 (ine v196 (.int .i64 3)) fun v198 =>
 j177 x170 x171 x172 v198 h197) (
 j177 x170 x171 x172 (.bool true) h191)) (
 j177 x170 x171 x172 (.bool true) h173)) (fun x199 x200 x201 x202 h203 =>
 CD x202 (
 some ((.bool false), h203)) (
 j176 x199 x200 x201 h203))) (fun x204 x205 x206 h207 =>
 B1 (iadd x206 (.int .i64 1)) fun v208 =>
 j169 x204 x205 v208 h207)) (
 j168  h173)) := by kernel_rfl

theorem dl_outriderlaw6_SegBehind1 (J : JT) (G : GT) (cf : CF) (j168 : K.Fn 0) : l_outriderlaw6_SegBehind1 J G cf j168 = loopF P J G cf (nT P 6) (atC P 6 [1, 1, 1, 1, 1, 1, 1, 0, 1, 0, 0]) (.sq none (.sq none .nl (.cd .nl .nl)) (.sq (some [0, 11, 13]) (.bl none (.sq (some [0, 11, 13, 118]) .nl (.cd (.sq none .nl .nl) .nl))) .nl)) [0, 11, 13] (fun q t H => match Nat.beq q 2 with | true => app 0 j168 (vals [] t) H | false => (fun _ _ _ => none) q t H) (retK P 6) := by
  unfold l_outriderlaw6_SegBehind1 loopF
  refine congrArg (LP 3) ?_
  funext j169 x170 x171 x172 h173
  exact (rl_outriderlaw6_SegBehind1 J G cf j168 j169 x170 x171 x172 h173).symm

theorem ql_outriderlaw6_SegBehind1 (cf : CF) (j168 : K.Fn 0) (x170 x171 x172 : AV) (h173 : Hp) : l_outriderlaw6_SegBehind1 JN GO cf j168 x170 x171 x172 h173 =

 B1 (lenx x170) fun v174 =>
 B1 (ilt x172 v174) fun v175 =>
 CD v175 (
 JN 3 (fun j176 =>
 JN 4 (fun j177 =>
 B1 (ia 2 x171 x172) fun v178 =>
 B1 (fa 1 v178) fun v179 =>
 B1 (ld v179 h173) fun v180 =>
 B1 (b2s v180 h173) fun v181 =>
 B1 (ia 3 x170 x172) fun v182 =>
 B1 (fa 2 v182) fun v183 =>
 B1 (ld v183 h173) fun v184 =>
 B1 (b2s v184 h173) fun v185 =>
 B1 (sne v181 v185) fun v186 =>
 GD2 v186 false (
 B1 (ia 2 x171 x172) fun v187 =>
 B1 (fa 0 v187) fun v188 =>
 B1 (ld v188 h173) fun v189 =>
 B2 (cf (.func (.func 19) [] []) [v189] h173) fun v190 h191 =>
 B1 (ine v190 x172) fun v192 =>
 GD2 v192 false (
 B1 (ia 2 x171 x172) fun v193 =>
 B1 (fa 0 v193) fun v194 =>
 B1 (ld v194 h191) fun v195 =>
 B2 (cf (.func (.func 20) [] []) [v195] h191) fun v196 h197 =>
 B1 (ine v196 (.int .i64 3)) fun v198 =>
 j177 x170 x171 x172 v198 h197) (
 j177 x170 x171 x172 (.bool true) h191)) (
 j177 x170 x171 x172 (.bool true) h173)) (fun x199 x200 x201 x202 h203 =>
 CD x202 (
 some ((.bool false), h203)) (
 j176 x199 x200 x201 h203))) (fun x204 x205 x206 h207 =>
 B1 (iadd x206 (.int .i64 1)) fun v208 =>
 l_outriderlaw6_SegBehind1 JN GO cf j168 x204 x205 v208 h207)) (
 j168  h173) := by
  have h1 : l_outriderlaw6_SegBehind1 JN GO cf j168 x170 x171 x172 h173 = app 3 (loopF P JN GO cf (nT P 6) (atC P 6 [1, 1, 1, 1, 1, 1, 1, 0, 1, 0, 0]) (.sq none (.sq none .nl (.cd .nl .nl)) (.sq (some [0, 11, 13]) (.bl none (.sq (some [0, 11, 13, 118]) .nl (.cd (.sq none .nl .nl) .nl))) .nl)) [0, 11, 13] (fun q t H => match Nat.beq q 2 with | true => app 0 j168 (vals [] t) H | false => (fun _ _ _ => none) q t H) (retK P 6)) [x170, x171, x172] h173 := by rw [dl_outriderlaw6_SegBehind1]; kernel_rfl
  refine h1.trans ((loopF_eq (P := P) cf (nT P 6) (atC P 6 [1, 1, 1, 1, 1, 1, 1, 0, 1, 0, 0]) (.sq none (.sq none .nl (.cd .nl .nl)) (.sq (some [0, 11, 13]) (.bl none (.sq (some [0, 11, 13, 118]) .nl (.cd (.sq none .nl .nl) .nl))) .nl)) [0, 11, 13] (fun q t H => match Nat.beq q 2 with | true => app 0 j168 (vals [] t) H | false => (fun _ _ _ => none) q t H) (retK P 6) [x170, x171, x172] rfl h173).trans ((rl_outriderlaw6_SegBehind1 JN GO cf j168 _ x170 x171 x172 h173).trans ?_))
  rw [dl_outriderlaw6_SegBehind1]

noncomputable def s_outriderlaw6_SegBehind (J : JT) (G : GT) (cf : CF) (a0 a1 : AV) (H : Hp) : R :=
 B2 (cf (.func (.func 9) [] []) [] H) fun v0 h1 =>
 B1 (unA .not v0) fun v2 =>
 CD v2 (
 some ((.bool false), h1)) (
 J 2 (fun j3 =>
 J 3 (fun j4 =>
 B1 (lenx a0) fun v5 =>
 B1 (igt v5 (.int .i64 10)) fun v6 =>
 G v6 false (fun k7 =>
 k7 a1 h1) (fun v8 h9 =>
 G v6 false (fun k10 =>
 B1 (lenx v8) fun v11 =>
 k10 v11 h9) (fun v12 h13 =>
 G v6 false (fun k14 =>
 B1 (igt v12 (.int .i64 300)) fun v15 =>
 k14 v15 h13) (fun v16 h17 =>
 B1 (pk v6 (.bool true) v16) fun v18 =>
 j4 a0 a1 v18 h17) h13) h9) h1) (fun x19 x20 x21 h22 =>
 CD x21 (
 some ((.bool true), h22)) (
 j3 x19 x20 h22))) (fun x23 x24 h25 =>
 J 3 (fun j26 =>
 J 3 (fun j27 =>
 l_outriderlaw6_SegBehind J G cf j27 x23 x24 .slice0 (.int .i64 0) h25) (fun x115 x116 x117 h118 =>
 j26 x115 x116 x117 h118)) (fun x119 x120 x121 h122 =>
 J 4 (fun j123 =>
 B1 (fl [] []) fun l124 =>
 BN (newCells h122 l124 5 0) fun i125 h126 =>
 B2 (app' 5 1 [(.int .u8 0)] false (.slice i125 0 0 0 true 1) x121 h126) fun v127 h128 =>
 B2 (app' 5 1 [(.int .u8 0)] false v127 x120 h128) fun v129 h130 =>
 B2 (cf (.func (.func 14) [] []) [v129, (.int .i64 0), (.int .i64 0)] h130) fun v131 h132 =>
 B1 (ex 0 v131) fun v133 =>
 B1 (ex 1 v131) fun v134 =>
 j123 x119 x121 v133 v134 h132) (fun x135 x136 x137 x138 h139 =>
 J 2 (fun j140 =>
 J 3 (fun j141 =>
 B1 (lenx x137) fun v142 =>
 B1 (lenx x135) fun v143 =>
 B1 (ilt v142 v143) fun v144 =>
 G v144 false (fun k145 =>
 k145 x138 h139) (fun v146 h147 =>
 G v144 false (fun k148 =>
 k148 x136 h147) (fun v149 h150 =>
 G v144 false (fun k151 =>
 B1 (lenx v149) fun v152 =>
 k151 v152 h150) (fun v153 h154 =>
 G v144 false (fun k155 =>
 B1 (ilt v146 v153) fun v156 =>
 k155 v156 h154) (fun v157 h158 =>
 B1 (pk v144 (.bool true) v157) fun v159 =>
 j141 x135 x137 v159 h158) h154) h150) h147) h139) (fun x160 x161 x162 h163 =>
 CD x162 (
 some ((.bool false), h163)) (
 j140 x160 x161 h163))) (fun x164 x165 h166 =>
 J 0 (fun j167 =>
 J 0 (fun j168 =>
 l_outriderlaw6_SegBehind1 J G cf j168 x164 x165 (.int .i64 0) h166) (fun  h209 =>
 j167  h209)) (fun  h210 =>
 some ((.bool true), h210)))))))

theorem e_outriderlaw6_SegBehind (J : JT) (G : GT) (cf : CF) (a0 a1 : AV) (H : Hp) : callF P J G prim an cf 6 [a0, a1] H = s_outriderlaw6_SegBehind J G cf a0 a1 H := by kernel_rfl

theorem c_outriderlaw6_SegBehind {a0 a1 : AV} {H : Hp} {r : AV × Hp} (h : s_outriderlaw6_SegBehind JN GO cK a0 a1 H = some r) : cK (.func (.func 6) [] []) [a0, a1] H = some r := callF_fix (first := []) (cap := []) ((e_outriderlaw6_SegBehind JN GO _ a0 a1 H).trans h)

noncomputable def l_outriderlaw6_SegPicks (J : JT) (G : GT) (cf : CF) (j32 : K.Fn 2) : K.Fn 3 := LP 3 fun j33 => fun x34 x35 x36 h37 =>
 B1 (lenx x34) fun v38 =>
 B1 (ilt x36 v38) fun v39 =>
 CD v39 (
 J 3 (fun j40 =>
 J 3 (fun j41 =>
 J 5 (fun j42 =>
 B1 (ia 1 x34 x36) fun v43 =>
 B1 (ld v43 h37) fun v44 =>
 B2 (cf (.func (.func 10) [] []) [v44] h37) fun v45 h46 =>
 B1 (ex 0 v45) fun v47 =>
 B1 (ex 1 v45) fun v48 =>
 j42 x34 x35 x36 v47 v48 h46) (fun x49 x50 x51 x52 x53 h54 =>
 CD x53 (
 B1 (fl [(.str [])] [(0, 1, x52)]) fun l55 =>
 BN (newCells h54 l55 9 0) fun i56 h57 =>
 B2 (app' 9 1 [(.str [])] false x50 (.slice i56 0 1 1 true 1) h57) fun v58 h59 =>
 j41 x49 v58 x51 h59) (
 j41 x49 x50 x51 h54))) (fun x60 x61 x62 h63 =>
 j40 x60 x61 x62 h63)) (fun x64 x65 x66 h67 =>
 B1 (iadd x66 (.int .i64 1)) fun v68 =>
 j33 x64 x65 v68 h67)) (
 j32 x34 x35 h37)

theorem rl_outriderlaw6_SegPicks (J : JT) (G : GT) (cf : CF) (j32 : K.Fn 2) (j33 : K.Fn 3) (x34 x35 x36 : AV) (h37 : Hp) : codeF P J G cf (nT P 7) (atC P 7 [1, 1, 1, 1, 0, 1, 0, 0]) (.sq none (.sq none .nl (.cd .nl .nl)) (.sq (some [1, 5, 6]) (.bl (some [1, 5, 6]) (.sq (some [1, 5, 6, 7, 8]) .nl (.sq none .nl (.cd .nl .nl)))) .nl)) (fun t H => app 3 j33 (vals [1, 5, 6] t) H) (fun q t H => match Nat.beq q 0 with | true => app 2 j32 (vals [1, 5] t) H | false => (fun _ _ _ => none) q t H) (retK P 7) (mkT (nT P 7) [1, 5, 6] [x34, x35, x36]) h37 =
(B1 (lenx x34) fun v38 =>
 B1 (ilt x36 v38) fun v39 =>
 CD v39 (
 J 3 (fun j40 =>
 J 3 (fun j41 =>
 J 5 (fun j42 =>
 B1 (ia 1 x34 x36) fun v43 =>
 B1 (ld v43 h37) fun v44 =>
 B2 (cf (.func (.func 10) [] []) [v44] h37) fun v45 h46 =>
 B1 (ex 0 v45) fun v47 =>
 B1 (ex 1 v45) fun v48 =>
 j42 x34 x35 x36 v47 v48 h46) (fun x49 x50 x51 x52 x53 h54 =>
 CD x53 (
 B1 (fl [(.str [])] [(0, 1, x52)]) fun l55 =>
 BN (newCells h54 l55 9 0) fun i56 h57 =>
 B2 (app' 9 1 [(.str [])] false x50 (.slice i56 0 1 1 true 1) h57) fun v58 h59 =>
 j41 x49 v58 x51 h59) (
 j41 x49 x50 x51 h54))) (fun x60 x61 x62 h63 =>
 j40 x60 x61 x62 h63)) (fun x64 x65 x66 h67 =>
 B1 (iadd x66 (.int .i64 1)) fun v68 =>
 j33 x64 x65 v68 h67)) (
 j32 x34 x35 h37)) := by kernel_rfl

theorem dl_outriderlaw6_SegPicks (J : JT) (G : GT) (cf : CF) (j32 : K.Fn 2) : l_outriderlaw6_SegPicks J G cf j32 = loopF P J G cf (nT P 7) (atC P 7 [1, 1, 1, 1, 0, 1, 0, 0]) (.sq none (.sq none .nl (.cd .nl .nl)) (.sq (some [1, 5, 6]) (.bl (some [1, 5, 6]) (.sq (some [1, 5, 6, 7, 8]) .nl (.sq none .nl (.cd .nl .nl)))) .nl)) [1, 5, 6] (fun q t H => match Nat.beq q 0 with | true => app 2 j32 (vals [1, 5] t) H | false => (fun _ _ _ => none) q t H) (retK P 7) := by
  unfold l_outriderlaw6_SegPicks loopF
  refine congrArg (LP 3) ?_
  funext j33 x34 x35 x36 h37
  exact (rl_outriderlaw6_SegPicks J G cf j32 j33 x34 x35 x36 h37).symm

theorem ql_outriderlaw6_SegPicks (cf : CF) (j32 : K.Fn 2) (x34 x35 x36 : AV) (h37 : Hp) : l_outriderlaw6_SegPicks JN GO cf j32 x34 x35 x36 h37 =

 B1 (lenx x34) fun v38 =>
 B1 (ilt x36 v38) fun v39 =>
 CD v39 (
 JN 3 (fun j40 =>
 JN 3 (fun j41 =>
 JN 5 (fun j42 =>
 B1 (ia 1 x34 x36) fun v43 =>
 B1 (ld v43 h37) fun v44 =>
 B2 (cf (.func (.func 10) [] []) [v44] h37) fun v45 h46 =>
 B1 (ex 0 v45) fun v47 =>
 B1 (ex 1 v45) fun v48 =>
 j42 x34 x35 x36 v47 v48 h46) (fun x49 x50 x51 x52 x53 h54 =>
 CD x53 (
 B1 (fl [(.str [])] [(0, 1, x52)]) fun l55 =>
 BN (newCells h54 l55 9 0) fun i56 h57 =>
 B2 (app' 9 1 [(.str [])] false x50 (.slice i56 0 1 1 true 1) h57) fun v58 h59 =>
 j41 x49 v58 x51 h59) (
 j41 x49 x50 x51 h54))) (fun x60 x61 x62 h63 =>
 j40 x60 x61 x62 h63)) (fun x64 x65 x66 h67 =>
 B1 (iadd x66 (.int .i64 1)) fun v68 =>
 l_outriderlaw6_SegPicks JN GO cf j32 x64 x65 v68 h67)) (
 j32 x34 x35 h37) := by
  have h1 : l_outriderlaw6_SegPicks JN GO cf j32 x34 x35 x36 h37 = app 3 (loopF P JN GO cf (nT P 7) (atC P 7 [1, 1, 1, 1, 0, 1, 0, 0]) (.sq none (.sq none .nl (.cd .nl .nl)) (.sq (some [1, 5, 6]) (.bl (some [1, 5, 6]) (.sq (some [1, 5, 6, 7, 8]) .nl (.sq none .nl (.cd .nl .nl)))) .nl)) [1, 5, 6] (fun q t H => match Nat.beq q 0 with | true => app 2 j32 (vals [1, 5] t) H | false => (fun _ _ _ => none) q t H) (retK P 7)) [x34, x35, x36] h37 := by rw [dl_outriderlaw6_SegPicks]; kernel_rfl
  refine h1.trans ((loopF_eq (P := P) cf (nT P 7) (atC P 7 [1, 1, 1, 1, 0, 1, 0, 0]) (.sq none (.sq none .nl (.cd .nl .nl)) (.sq (some [1, 5, 6]) (.bl (some [1, 5, 6]) (.sq (some [1, 5, 6, 7, 8]) .nl (.sq none .nl (.cd .nl .nl)))) .nl)) [1, 5, 6] (fun q t H => match Nat.beq q 0 with | true => app 2 j32 (vals [1, 5] t) H | false => (fun _ _ _ => none) q t H) (retK P 7) [x34, x35, x36] rfl h37).trans ((rl_outriderlaw6_SegPicks JN GO cf j32 _ x34 x35 x36 h37).trans ?_))
  rw [dl_outriderlaw6_SegPicks]

noncomputable def l_outriderlaw6_SegPicks2 (J : JT) (G : GT) (cf : CF) (j78 : K.Fn 2) (j88 : K.Fn 4) (j104 : K.Fn 6) : K.Fn 8 := LP 8 fun j105 => fun x106 x107 x108 x109 x110 x111 x112 x113 h114 =>
 B1 (lenx x107) fun v115 =>
 B1 (ilt x113 v115) fun v116 =>
 CD v116 (
 J 8 (fun j117 =>
 G x112 false (fun k118 =>
 k118 x107 h114) (fun v119 h120 =>
 G x112 false (fun k121 =>
 k121 x113 h120) (fun v122 h123 =>
 G x112 false (fun k124 =>
 B1 (ia 1 v119 v122) fun v125 =>
 k124 v125 h123) (fun v126 h127 =>
 G x112 false (fun k128 =>
 B1 (ld v126 h127) fun v129 =>
 k128 v129 h127) (fun v130 h131 =>
 G x112 false (fun k132 =>
 k132 x110 h131) (fun v133 h134 =>
 G x112 false (fun k135 =>
 B1 (seq v130 v133) fun v136 =>
 k135 v136 h134) (fun v137 h138 =>
 B1 (pk x112 (.bool true) v137) fun v139 =>
 j117 x106 x107 x108 x109 x110 x111 v139 x113 h138) h134) h131) h127) h123) h120) h114) (fun x140 x141 x142 x143 x144 x145 x146 x147 h148 =>
 B1 (iadd x147 (.int .i64 1)) fun v149 =>
 j105 x140 x141 x142 x143 x144 x145 x146 v149 h148)) (
 j104 x106 x107 x108 x109 x111 x112 h114)

theorem rl_outriderlaw6_SegPicks2 (J : JT) (G : GT) (cf : CF) (j78 : K.Fn 2) (j88 : K.Fn 4) (j104 : K.Fn 6) (j105 : K.Fn 8) (x106 x107 x108 x109 x110 x111 x112 x113 : AV) (h114 : Hp) : codeF P J G cf (nT P 7) (atC P 7 [1, 1, 1, 1, 1, 1, 0, 1, 0, 0, 1, 0, 0, 1, 1, 0, 1, 0, 0]) (.sq none (.sq none .nl (.cd .nl .nl)) (.sq (some [1, 5, 9, 10, 11, 12, 13, 14]) (.bl none .nl) .nl)) (fun t H => app 8 j105 (vals [1, 5, 9, 10, 11, 12, 13, 14] t) H) (fun q t H => match Nat.beq q 4 with | true => app 6 j104 (vals [1, 5, 9, 10, 12, 13] t) H | false => (fun q t H => match Nat.beq q 3 with | true => app 4 j88 (vals [1, 5, 9, 10] t) H | false => (fun q t H => match Nat.beq q 2 with | true => app 2 j78 (vals [1, 9] t) H | false => (fun _ _ _ => none) q t H) q t H) q t H) (retK P 7) (mkT (nT P 7) [1, 5, 9, 10, 11, 12, 13, 14] [x106, x107, x108, x109, x110, x111, x112, x113]) h114 =
(B1 (lenx x107) fun v115 =>
 B1 (ilt x113 v115) fun v116 =>
 CD v116 (
 J 8 (fun j117 =>
 G x112 false (fun k118 =>
 k118 x107 h114) (fun v119 h120 =>
 G x112 false (fun k121 =>
 k121 x113 h120) (fun v122 h123 =>
 G x112 false (fun k124 =>
 B1 (ia 1 v119 v122) fun v125 =>
 k124 v125 h123) (fun v126 h127 =>
 G x112 false (fun k128 =>
 B1 (ld v126 h127) fun v129 =>
 k128 v129 h127) (fun v130 h131 =>
 G x112 false (fun k132 =>
 k132 x110 h131) (fun v133 h134 =>
 G x112 false (fun k135 =>
 B1 (seq v130 v133) fun v136 =>
 k135 v136 h134) (fun v137 h138 =>
 B1 (pk x112 (.bool true) v137) fun v139 =>
 j117 x106 x107 x108 x109 x110 x111 v139 x113 h138) h134) h131) h127) h123) h120) h114) (fun x140 x141 x142 x143 x144 x145 x146 x147 h148 =>
 B1 (iadd x147 (.int .i64 1)) fun v149 =>
 j105 x140 x141 x142 x143 x144 x145 x146 v149 h148)) (
 j104 x106 x107 x108 x109 x111 x112 h114)) := by kernel_rfl

theorem dl_outriderlaw6_SegPicks2 (J : JT) (G : GT) (cf : CF) (j78 : K.Fn 2) (j88 : K.Fn 4) (j104 : K.Fn 6) : l_outriderlaw6_SegPicks2 J G cf j78 j88 j104 = loopF P J G cf (nT P 7) (atC P 7 [1, 1, 1, 1, 1, 1, 0, 1, 0, 0, 1, 0, 0, 1, 1, 0, 1, 0, 0]) (.sq none (.sq none .nl (.cd .nl .nl)) (.sq (some [1, 5, 9, 10, 11, 12, 13, 14]) (.bl none .nl) .nl)) [1, 5, 9, 10, 11, 12, 13, 14] (fun q t H => match Nat.beq q 4 with | true => app 6 j104 (vals [1, 5, 9, 10, 12, 13] t) H | false => (fun q t H => match Nat.beq q 3 with | true => app 4 j88 (vals [1, 5, 9, 10] t) H | false => (fun q t H => match Nat.beq q 2 with | true => app 2 j78 (vals [1, 9] t) H | false => (fun _ _ _ => none) q t H) q t H) q t H) (retK P 7) := by
  unfold l_outriderlaw6_SegPicks2 loopF
  refine congrArg (LP 8) ?_
  funext j105 x106 x107 x108 x109 x110 x111 x112 x113 h114
  exact (rl_outriderlaw6_SegPicks2 J G cf j78 j88 j104 j105 x106 x107 x108 x109 x110 x111 x112 x113 h114).symm

theorem ql_outriderlaw6_SegPicks2 (cf : CF) (j78 : K.Fn 2) (j88 : K.Fn 4) (j104 : K.Fn 6) (x106 x107 x108 x109 x110 x111 x112 x113 : AV) (h114 : Hp) : l_outriderlaw6_SegPicks2 JN GO cf j78 j88 j104 x106 x107 x108 x109 x110 x111 x112 x113 h114 =

 B1 (lenx x107) fun v115 =>
 B1 (ilt x113 v115) fun v116 =>
 CD v116 (
 JN 8 (fun j117 =>
 GO x112 false (fun k118 =>
 k118 x107 h114) (fun v119 h120 =>
 GO x112 false (fun k121 =>
 k121 x113 h120) (fun v122 h123 =>
 GO x112 false (fun k124 =>
 B1 (ia 1 v119 v122) fun v125 =>
 k124 v125 h123) (fun v126 h127 =>
 GO x112 false (fun k128 =>
 B1 (ld v126 h127) fun v129 =>
 k128 v129 h127) (fun v130 h131 =>
 GO x112 false (fun k132 =>
 k132 x110 h131) (fun v133 h134 =>
 GO x112 false (fun k135 =>
 B1 (seq v130 v133) fun v136 =>
 k135 v136 h134) (fun v137 h138 =>
 B1 (pk x112 (.bool true) v137) fun v139 =>
 j117 x106 x107 x108 x109 x110 x111 v139 x113 h138) h134) h131) h127) h123) h120) h114) (fun x140 x141 x142 x143 x144 x145 x146 x147 h148 =>
 B1 (iadd x147 (.int .i64 1)) fun v149 =>
 l_outriderlaw6_SegPicks2 JN GO cf j78 j88 j104 x140 x141 x142 x143 x144 x145 x146 v149 h148)) (
 j104 x106 x107 x108 x109 x111 x112 h114) := by
  have h1 : l_outriderlaw6_SegPicks2 JN GO cf j78 j88 j104 x106 x107 x108 x109 x110 x111 x112 x113 h114 = app 8 (loopF P JN GO cf (nT P 7) (atC P 7 [1, 1, 1, 1, 1, 1, 0, 1, 0, 0, 1, 0, 0, 1, 1, 0, 1, 0, 0]) (.sq none (.sq none .nl (.cd .nl .nl)) (.sq (some [1, 5, 9, 10, 11, 12, 13, 14]) (.bl none .nl) .nl)) [1, 5, 9, 10, 11, 12, 13, 14] (fun q t H => match Nat.beq q 4 with | true => app 6 j104 (vals [1, 5, 9, 10, 12, 13] t) H | false => (fun q t H => match Nat.beq q 3 with | true => app 4 j88 (vals [1, 5, 9, 10] t) H | false => (fun q t H => match Nat.beq q 2 with | true => app 2 j78 (vals [1, 9] t) H | false => (fun _ _ _ => none) q t H) q t H) q t H) (retK P 7)) [x106, x107, x108, x109, x110, x111, x112, x113] h114 := by rw [dl_outriderlaw6_SegPicks2]; kernel_rfl
  refine h1.trans ((loopF_eq (P := P) cf (nT P 7) (atC P 7 [1, 1, 1, 1, 1, 1, 0, 1, 0, 0, 1, 0, 0, 1, 1, 0, 1, 0, 0]) (.sq none (.sq none .nl (.cd .nl .nl)) (.sq (some [1, 5, 9, 10, 11, 12, 13, 14]) (.bl none .nl) .nl)) [1, 5, 9, 10, 11, 12, 13, 14] (fun q t H => match Nat.beq q 4 with | true => app 6 j104 (vals [1, 5, 9, 10, 12, 13] t) H | false => (fun q t H => match Nat.beq q 3 with | true => app 4 j88 (vals [1, 5, 9, 10] t) H | false => (fun q t H => match Nat.beq q 2 with | true => app 2 j78 (vals [1, 9] t) H | false => (fun _ _ _ => none) q t H) q t H) q t H) (retK P 7) [x106, x107, x108, x109, x110, x111, x112, x113] rfl h114).trans ((rl_outriderlaw6_SegPicks2 JN GO cf j78 j88 j104 _ x106 x107 x108 x109 x110 x111 x112 x113 h114).trans ?_))
  rw [dl_outriderlaw6_SegPicks2]

noncomputable def l_outriderlaw6_SegPicks1 (J : JT) (G : GT) (cf : CF) (j78 : K.Fn 2) : K.Fn 4 := LP 4 fun j79 => fun x80 x81 x82 x83 h84 =>
 B1 (lenx x82) fun v85 =>
 B1 (ilt x83 v85) fun v86 =>
 CD v86 (
 J 4 (fun j87 =>
 J 4 (fun j88 =>
 J 6 (fun j89 =>
 B1 (ia 1 x82 x83) fun v90 =>
 B1 (ld v90 h84) fun v91 =>
 B2 (cf (.func (.func 10) [] []) [v91] h84) fun v92 h93 =>
 B1 (ex 0 v92) fun v94 =>
 B1 (ex 1 v92) fun v95 =>
 j89 x80 x81 x82 x83 v94 v95 h93) (fun x96 x97 x98 x99 x100 x101 h102 =>
 J 6 (fun j103 =>
 J 6 (fun j104 =>
 l_outriderlaw6_SegPicks2 J G cf j78 j88 j104 x96 x97 x98 x99 x100 x101 (.bool false) (.int .i64 0) h102) (fun x150 x151 x152 x153 x154 x155 h156 =>
 j103 x150 x151 x152 x153 x154 x155 h156)) (fun x157 x158 x159 x160 x161 x162 h163 =>
 J 5 (fun j164 =>
 B1 (unA .not x161) fun v165 =>
 GD2 v165 false (
 B1 (unA .not x162) fun v166 =>
 GD2 v166 false (
 B1 (igt x160 (.int .i64 0)) fun v167 =>
 GD2 v167 true (
 B1 (ia 1 x159 x160) fun v168 =>
 B1 (ld v168 h163) fun v169 =>
 B1 (isub x160 (.int .i64 1)) fun v170 =>
 B1 (ia 1 x159 v170) fun v171 =>
 B1 (ld v171 h163) fun v172 =>
 B1 (ile v169 v172) fun v173 =>
 j164 x157 x158 x159 x160 v173 h163) (
 j164 x157 x158 x159 x160 (.bool false) h163)) (
 j164 x157 x158 x159 x160 (.bool true) h163)) (
 j164 x157 x158 x159 x160 (.bool true) h163)) (fun x174 x175 x176 x177 x178 h179 =>
 CD x178 (
 some ((.bool false), h179)) (
 j88 x174 x175 x176 x177 h179))))) (fun x180 x181 x182 x183 h184 =>
 j87 x180 x181 x182 x183 h184)) (fun x185 x186 x187 x188 h189 =>
 B1 (iadd x188 (.int .i64 1)) fun v190 =>
 j79 x185 x186 x187 v190 h189)) (
 j78 x80 x82 h84)

theorem rl_outriderlaw6_SegPicks1 (J : JT) (G : GT) (cf : CF) (j78 : K.Fn 2) (j79 : K.Fn 4) (x80 x81 x82 x83 : AV) (h84 : Hp) : codeF P J G cf (nT P 7) (atC P 7 [1, 1, 1, 1, 1, 1, 0, 1, 0, 0]) (.sq none (.sq none .nl (.cd .nl .nl)) (.sq (some [1, 5, 9, 10]) (.bl (some [1, 5, 9, 10]) (.sq (some [1, 5, 9, 10, 11, 12]) .nl (.sq none .nl (.sq (some [1, 5, 9, 10, 12, 13]) (.sq none .nl (.bl (some [1, 5, 9, 10, 12, 13]) (.lp [1, 5, 9, 10, 11, 12, 13, 14] (.sq none (.sq none .nl (.cd .nl .nl)) (.sq (some [1, 5, 9, 10, 11, 12, 13, 14]) (.bl none .nl) .nl))))) (.sq (some [1, 5, 9, 10, 104]) .nl (.cd (.sq none .nl .nl) .nl)))))) .nl)) (fun t H => app 4 j79 (vals [1, 5, 9, 10] t) H) (fun q t H => match Nat.beq q 2 with | true => app 2 j78 (vals [1, 9] t) H | false => (fun _ _ _ => none) q t H) (retK P 7) (mkT (nT P 7) [1, 5, 9, 10] [x80, x81, x82, x83]) h84 =
(B1 (lenx x82) fun v85 =>
 B1 (ilt x83 v85) fun v86 =>
 CD v86 (
 J 4 (fun j87 =>
 J 4 (fun j88 =>
 J 6 (fun j89 =>
 B1 (ia 1 x82 x83) fun v90 =>
 B1 (ld v90 h84) fun v91 =>
 B2 (cf (.func (.func 10) [] []) [v91] h84) fun v92 h93 =>
 B1 (ex 0 v92) fun v94 =>
 B1 (ex 1 v92) fun v95 =>
 j89 x80 x81 x82 x83 v94 v95 h93) (fun x96 x97 x98 x99 x100 x101 h102 =>
 J 6 (fun j103 =>
 J 6 (fun j104 =>
 l_outriderlaw6_SegPicks2 J G cf j78 j88 j104 x96 x97 x98 x99 x100 x101 (.bool false) (.int .i64 0) h102) (fun x150 x151 x152 x153 x154 x155 h156 =>
 j103 x150 x151 x152 x153 x154 x155 h156)) (fun x157 x158 x159 x160 x161 x162 h163 =>
 J 5 (fun j164 =>
 B1 (unA .not x161) fun v165 =>
 GD2 v165 false (
 B1 (unA .not x162) fun v166 =>
 GD2 v166 false (
 B1 (igt x160 (.int .i64 0)) fun v167 =>
 GD2 v167 true (
 B1 (ia 1 x159 x160) fun v168 =>
 B1 (ld v168 h163) fun v169 =>
 B1 (isub x160 (.int .i64 1)) fun v170 =>
 B1 (ia 1 x159 v170) fun v171 =>
 B1 (ld v171 h163) fun v172 =>
 B1 (ile v169 v172) fun v173 =>
 j164 x157 x158 x159 x160 v173 h163) (
 j164 x157 x158 x159 x160 (.bool false) h163)) (
 j164 x157 x158 x159 x160 (.bool true) h163)) (
 j164 x157 x158 x159 x160 (.bool true) h163)) (fun x174 x175 x176 x177 x178 h179 =>
 CD x178 (
 some ((.bool false), h179)) (
 j88 x174 x175 x176 x177 h179))))) (fun x180 x181 x182 x183 h184 =>
 j87 x180 x181 x182 x183 h184)) (fun x185 x186 x187 x188 h189 =>
 B1 (iadd x188 (.int .i64 1)) fun v190 =>
 j79 x185 x186 x187 v190 h189)) (
 j78 x80 x82 h84)) := by kernel_rfl

theorem dl_outriderlaw6_SegPicks1 (J : JT) (G : GT) (cf : CF) (j78 : K.Fn 2) : l_outriderlaw6_SegPicks1 J G cf j78 = loopF P J G cf (nT P 7) (atC P 7 [1, 1, 1, 1, 1, 1, 0, 1, 0, 0]) (.sq none (.sq none .nl (.cd .nl .nl)) (.sq (some [1, 5, 9, 10]) (.bl (some [1, 5, 9, 10]) (.sq (some [1, 5, 9, 10, 11, 12]) .nl (.sq none .nl (.sq (some [1, 5, 9, 10, 12, 13]) (.sq none .nl (.bl (some [1, 5, 9, 10, 12, 13]) (.lp [1, 5, 9, 10, 11, 12, 13, 14] (.sq none (.sq none .nl (.cd .nl .nl)) (.sq (some [1, 5, 9, 10, 11, 12, 13, 14]) (.bl none .nl) .nl))))) (.sq (some [1, 5, 9, 10, 104]) .nl (.cd (.sq none .nl .nl) .nl)))))) .nl)) [1, 5, 9, 10] (fun q t H => match Nat.beq q 2 with | true => app 2 j78 (vals [1, 9] t) H | false => (fun _ _ _ => none) q t H) (retK P 7) := by
  unfold l_outriderlaw6_SegPicks1 loopF
  refine congrArg (LP 4) ?_
  funext j79 x80 x81 x82 x83 h84
  exact (rl_outriderlaw6_SegPicks1 J G cf j78 j79 x80 x81 x82 x83 h84).symm

theorem ql_outriderlaw6_SegPicks1 (cf : CF) (j78 : K.Fn 2) (x80 x81 x82 x83 : AV) (h84 : Hp) : l_outriderlaw6_SegPicks1 JN GO cf j78 x80 x81 x82 x83 h84 =

 B1 (lenx x82) fun v85 =>
 B1 (ilt x83 v85) fun v86 =>
 CD v86 (
 JN 4 (fun j87 =>
 JN 4 (fun j88 =>
 JN 6 (fun j89 =>
 B1 (ia 1 x82 x83) fun v90 =>
 B1 (ld v90 h84) fun v91 =>
 B2 (cf (.func (.func 10) [] []) [v91] h84) fun v92 h93 =>
 B1 (ex 0 v92) fun v94 =>
 B1 (ex 1 v92) fun v95 =>
 j89 x80 x81 x82 x83 v94 v95 h93) (fun x96 x97 x98 x99 x100 x101 h102 =>
 JN 6 (fun j103 =>
 JN 6 (fun j104 =>
 l_outriderlaw6_SegPicks2 JN GO cf j78 j88 j104 x96 x97 x98 x99 x100 x101 (.bool false) (.int .i64 0) h102) (fun x150 x151 x152 x153 x154 x155 h156 =>
 j103 x150 x151 x152 x153 x154 x155 h156)) (fun x157 x158 x159 x160 x161 x162 h163 =>
 JN 5 (fun j164 =>
 B1 (unA .not x161) fun v165 =>
 GD2 v165 false (
 B1 (unA .not x162) fun v166 =>
 GD2 v166 false (
 B1 (igt x160 (.int .i64 0)) fun v167 =>
 GD2 v167 true (
 B1 (ia 1 x159 x160) fun v168 =>
 B1 (ld v168 h163) fun v169 =>
 B1 (isub x160 (.int .i64 1)) fun v170 =>
 B1 (ia 1 x159 v170) fun v171 =>
 B1 (ld v171 h163) fun v172 =>
 B1 (ile v169 v172) fun v173 =>
 j164 x157 x158 x159 x160 v173 h163) (
 j164 x157 x158 x159 x160 (.bool false) h163)) (
 j164 x157 x158 x159 x160 (.bool true) h163)) (
 j164 x157 x158 x159 x160 (.bool true) h163)) (fun x174 x175 x176 x177 x178 h179 =>
 CD x178 (
 some ((.bool false), h179)) (
 j88 x174 x175 x176 x177 h179))))) (fun x180 x181 x182 x183 h184 =>
 j87 x180 x181 x182 x183 h184)) (fun x185 x186 x187 x188 h189 =>
 B1 (iadd x188 (.int .i64 1)) fun v190 =>
 l_outriderlaw6_SegPicks1 JN GO cf j78 x185 x186 x187 v190 h189)) (
 j78 x80 x82 h84) := by
  have h1 : l_outriderlaw6_SegPicks1 JN GO cf j78 x80 x81 x82 x83 h84 = app 4 (loopF P JN GO cf (nT P 7) (atC P 7 [1, 1, 1, 1, 1, 1, 0, 1, 0, 0]) (.sq none (.sq none .nl (.cd .nl .nl)) (.sq (some [1, 5, 9, 10]) (.bl (some [1, 5, 9, 10]) (.sq (some [1, 5, 9, 10, 11, 12]) .nl (.sq none .nl (.sq (some [1, 5, 9, 10, 12, 13]) (.sq none .nl (.bl (some [1, 5, 9, 10, 12, 13]) (.lp [1, 5, 9, 10, 11, 12, 13, 14] (.sq none (.sq none .nl (.cd .nl .nl)) (.sq (some [1, 5, 9, 10, 11, 12, 13, 14]) (.bl none .nl) .nl))))) (.sq (some [1, 5, 9, 10, 104]) .nl (.cd (.sq none .nl .nl) .nl)))))) .nl)) [1, 5, 9, 10] (fun q t H => match Nat.beq q 2 with | true => app 2 j78 (vals [1, 9] t) H | false => (fun _ _ _ => none) q t H) (retK P 7)) [x80, x81, x82, x83] h84 := by rw [dl_outriderlaw6_SegPicks1]; kernel_rfl
  refine h1.trans ((loopF_eq (P := P) cf (nT P 7) (atC P 7 [1, 1, 1, 1, 1, 1, 0, 1, 0, 0]) (.sq none (.sq none .nl (.cd .nl .nl)) (.sq (some [1, 5, 9, 10]) (.bl (some [1, 5, 9, 10]) (.sq (some [1, 5, 9, 10, 11, 12]) .nl (.sq none .nl (.sq (some [1, 5, 9, 10, 12, 13]) (.sq none .nl (.bl (some [1, 5, 9, 10, 12, 13]) (.lp [1, 5, 9, 10, 11, 12, 13, 14] (.sq none (.sq none .nl (.cd .nl .nl)) (.sq (some [1, 5, 9, 10, 11, 12, 13, 14]) (.bl none .nl) .nl))))) (.sq (some [1, 5, 9, 10, 104]) .nl (.cd (.sq none .nl .nl) .nl)))))) .nl)) [1, 5, 9, 10] (fun q t H => match Nat.beq q 2 with | true => app 2 j78 (vals [1, 9] t) H | false => (fun _ _ _ => none) q t H) (retK P 7) [x80, x81, x82, x83] rfl h84).trans ((rl_outriderlaw6_SegPicks1 JN GO cf j78 _ x80 x81 x82 x83 h84).trans ?_))
  rw [dl_outriderlaw6_SegPicks1]

noncomputable def l_outriderlaw6_SegPicks4 (J : JT) (G : GT) (cf : CF) (j198 : K.Fn 0) (j207 : K.Fn 3) (j221 : K.Fn 5) : K.Fn 6 := LP 6 fun j222 => fun x223 x224 x225 x226 x227 x228 h229 =>
 B1 (lenx x224) fun v230 =>
 B1 (ilt x228 v230) fun v231 =>
 CD v231 (
 J 6 (fun j232 =>
 GD2 x227 false (
 B1 (ia 1 x224 x228) fun v233 =>
 B1 (ld v233 h229) fun v234 =>
 B1 (ia 1 x223 x225) fun v235 =>
 B1 (ld v235 h229) fun v236 =>
 B1 (ieq v234 v236) fun v237 =>
 j232 x223 x224 x225 x226 v237 x228 h229) (
 j232 x223 x224 x225 x226 (.bool true) x228 h229)) (fun x238 x239 x240 x241 x242 x243 h244 =>
 B1 (iadd x243 (.int .i64 1)) fun v245 =>
 j222 x238 x239 x240 x241 x242 v245 h244)) (
 j221 x223 x224 x225 x226 x227 h229)

theorem rl_outriderlaw6_SegPicks4 (J : JT) (G : GT) (cf : CF) (j198 : K.Fn 0) (j207 : K.Fn 3) (j221 : K.Fn 5) (j222 : K.Fn 6) (x223 x224 x225 x226 x227 x228 : AV) (h229 : Hp) : codeF P J G cf (nT P 7) (atC P 7 [1, 1, 1, 1, 1, 1, 1, 0, 1, 0, 0, 1, 0, 0, 1, 1, 0, 1, 0, 0]) (.sq none (.sq none .nl (.cd .nl .nl)) (.sq (some [1, 9, 15, 17, 18, 19]) (.bl none .nl) .nl)) (fun t H => app 6 j222 (vals [1, 9, 15, 17, 18, 19] t) H) (fun q t H => match Nat.beq q 8 with | true => app 5 j221 (vals [1, 9, 15, 17, 18] t) H | false => (fun q t H => match Nat.beq q 7 with | true => app 3 j207 (vals [1, 9, 15] t) H | false => (fun q t H => match Nat.beq q 6 with | true => app 0 j198 (vals [] t) H | false => (fun _ _ _ => none) q t H) q t H) q t H) (retK P 7) (mkT (nT P 7) [1, 9, 15, 17, 18, 19] [x223, x224, x225, x226, x227, x228]) h229 =
(B1 (lenx x224) fun v230 =>
 B1 (ilt x228 v230) fun v231 =>
 CD v231 (
 J 6 (fun j232 =>
 GD2 x227 false (
 B1 (ia 1 x224 x228) fun v233 =>
 B1 (ld v233 h229) fun v234 =>
 B1 (ia 1 x223 x225) fun v235 =>
 B1 (ld v235 h229) fun v236 =>
 B1 (ieq v234 v236) fun v237 =>
 j232 x223 x224 x225 x226 v237 x228 h229) (
 j232 x223 x224 x225 x226 (.bool true) x228 h229)) (fun x238 x239 x240 x241 x242 x243 h244 =>
 B1 (iadd x243 (.int .i64 1)) fun v245 =>
 j222 x238 x239 x240 x241 x242 v245 h244)) (
 j221 x223 x224 x225 x226 x227 h229)) := by kernel_rfl

theorem dl_outriderlaw6_SegPicks4 (J : JT) (G : GT) (cf : CF) (j198 : K.Fn 0) (j207 : K.Fn 3) (j221 : K.Fn 5) : l_outriderlaw6_SegPicks4 J G cf j198 j207 j221 = loopF P J G cf (nT P 7) (atC P 7 [1, 1, 1, 1, 1, 1, 1, 0, 1, 0, 0, 1, 0, 0, 1, 1, 0, 1, 0, 0]) (.sq none (.sq none .nl (.cd .nl .nl)) (.sq (some [1, 9, 15, 17, 18, 19]) (.bl none .nl) .nl)) [1, 9, 15, 17, 18, 19] (fun q t H => match Nat.beq q 8 with | true => app 5 j221 (vals [1, 9, 15, 17, 18] t) H | false => (fun q t H => match Nat.beq q 7 with | true => app 3 j207 (vals [1, 9, 15] t) H | false => (fun q t H => match Nat.beq q 6 with | true => app 0 j198 (vals [] t) H | false => (fun _ _ _ => none) q t H) q t H) q t H) (retK P 7) := by
  unfold l_outriderlaw6_SegPicks4 loopF
  refine congrArg (LP 6) ?_
  funext j222 x223 x224 x225 x226 x227 x228 h229
  exact (rl_outriderlaw6_SegPicks4 J G cf j198 j207 j221 j222 x223 x224 x225 x226 x227 x228 h229).symm

theorem ql_outriderlaw6_SegPicks4 (cf : CF) (j198 : K.Fn 0) (j207 : K.Fn 3) (j221 : K.Fn 5) (x223 x224 x225 x226 x227 x228 : AV) (h229 : Hp) : l_outriderlaw6_SegPicks4 JN GO cf j198 j207 j221 x223 x224 x225 x226 x227 x228 h229 =

 B1 (lenx x224) fun v230 =>
 B1 (ilt x228 v230) fun v231 =>
 CD v231 (
 JN 6 (fun j232 =>
 GD2 x227 false (
 B1 (ia 1 x224 x228) fun v233 =>
 B1 (ld v233 h229) fun v234 =>
 B1 (ia 1 x223 x225) fun v235 =>
 B1 (ld v235 h229) fun v236 =>
 B1 (ieq v234 v236) fun v237 =>
 j232 x223 x224 x225 x226 v237 x228 h229) (
 j232 x223 x224 x225 x226 (.bool true) x228 h229)) (fun x238 x239 x240 x241 x242 x243 h244 =>
 B1 (iadd x243 (.int .i64 1)) fun v245 =>
 l_outriderlaw6_SegPicks4 JN GO cf j198 j207 j221 x238 x239 x240 x241 x242 v245 h244)) (
 j221 x223 x224 x225 x226 x227 h229) := by
  have h1 : l_outriderlaw6_SegPicks4 JN GO cf j198 j207 j221 x223 x224 x225 x226 x227 x228 h229 = app 6 (loopF P JN GO cf (nT P 7) (atC P 7 [1, 1, 1, 1, 1, 1, 1, 0, 1, 0, 0, 1, 0, 0, 1, 1, 0, 1, 0, 0]) (.sq none (.sq none .nl (.cd .nl .nl)) (.sq (some [1, 9, 15, 17, 18, 19]) (.bl none .nl) .nl)) [1, 9, 15, 17, 18, 19] (fun q t H => match Nat.beq q 8 with | true => app 5 j221 (vals [1, 9, 15, 17, 18] t) H | false => (fun q t H => match Nat.beq q 7 with | true => app 3 j207 (vals [1, 9, 15] t) H | false => (fun q t H => match Nat.beq q 6 with | true => app 0 j198 (vals [] t) H | false => (fun _ _ _ => none) q t H) q t H) q t H) (retK P 7)) [x223, x224, x225, x226, x227, x228] h229 := by rw [dl_outriderlaw6_SegPicks4]; kernel_rfl
  refine h1.trans ((loopF_eq (P := P) cf (nT P 7) (atC P 7 [1, 1, 1, 1, 1, 1, 1, 0, 1, 0, 0, 1, 0, 0, 1, 1, 0, 1, 0, 0]) (.sq none (.sq none .nl (.cd .nl .nl)) (.sq (some [1, 9, 15, 17, 18, 19]) (.bl none .nl) .nl)) [1, 9, 15, 17, 18, 19] (fun q t H => match Nat.beq q 8 with | true => app 5 j221 (vals [1, 9, 15, 17, 18] t) H | false => (fun q t H => match Nat.beq q 7 with | true => app 3 j207 (vals [1, 9, 15] t) H | false => (fun q t H => match Nat.beq q 6 with | true => app 0 j198 (vals [] t) H | false => (fun _ _ _ => none) q t H) q t H) q t H) (retK P 7) [x223, x224, x225, x226, x227, x228] rfl h229).trans ((rl_outriderlaw6_SegPicks4 JN GO cf j198 j207 j221 _ x223 x224 x225 x226 x227 x228 h229).trans ?_))
  rw [dl_outriderlaw6_SegPicks4]

noncomputable def l_outriderlaw6_SegPicks3 (J : JT) (G : GT) (cf : CF) (j198 : K.Fn 0) : K.Fn 3 := LP 3 fun j199 => fun x200 x201 x202 h203 =>
 B1 (lenx x200) fun v204 =>
 B1 (ilt x202 v204) fun v205 =>
 CD v205 (
 J 3 (fun j206 =>
 J 3 (fun j207 =>
 J 4 (fun j208 =>
 B1 (ia 1 x200 x202) fun v209 =>
 B1 (ld v209 h203) fun v210 =>
 B2 (cf (.func (.func 10) [] []) [v210] h203) fun v211 h212 =>
 B1 (ex 0 v211) fun v213 =>
 B1 (ex 1 v211) fun v214 =>
 j208 x200 x201 x202 v214 h212) (fun x215 x216 x217 x218 h219 =>
 J 5 (fun j220 =>
 J 5 (fun j221 =>
 l_outriderlaw6_SegPicks4 J G cf j198 j207 j221 x215 x216 x217 x218 (.bool false) (.int .i64 0) h219) (fun x246 x247 x248 x249 x250 h251 =>
 j220 x246 x247 x248 x249 x250 h251)) (fun x252 x253 x254 x255 x256 h257 =>
 B1 (bb .neq x255 x256) fun v258 =>
 CD v258 (
 some ((.bool false), h257)) (
 j207 x252 x253 x254 h257)))) (fun x259 x260 x261 h262 =>
 j206 x259 x260 x261 h262)) (fun x263 x264 x265 h266 =>
 B1 (iadd x265 (.int .i64 1)) fun v267 =>
 j199 x263 x264 v267 h266)) (
 j198  h203)

theorem rl_outriderlaw6_SegPicks3 (J : JT) (G : GT) (cf : CF) (j198 : K.Fn 0) (j199 : K.Fn 3) (x200 x201 x202 : AV) (h203 : Hp) : codeF P J G cf (nT P 7) (atC P 7 [1, 1, 1, 1, 1, 1, 1, 0, 1, 0, 0]) (.sq none (.sq none .nl (.cd .nl .nl)) (.sq (some [1, 9, 15]) (.bl (some [1, 9, 15]) (.sq (some [1, 9, 15, 17]) .nl (.sq none .nl (.sq (some [1, 9, 15, 17, 18]) (.sq none .nl (.bl (some [1, 9, 15, 17, 18]) (.lp [1, 9, 15, 17, 18, 19] (.sq none (.sq none .nl (.cd .nl .nl)) (.sq (some [1, 9, 15, 17, 18, 19]) (.bl none .nl) .nl))))) (.sq none .nl (.cd (.sq none .nl .nl) .nl)))))) .nl)) (fun t H => app 3 j199 (vals [1, 9, 15] t) H) (fun q t H => match Nat.beq q 6 with | true => app 0 j198 (vals [] t) H | false => (fun _ _ _ => none) q t H) (retK P 7) (mkT (nT P 7) [1, 9, 15] [x200, x201, x202]) h203 =
(B1 (lenx x200) fun v204 =>
 B1 (ilt x202 v204) fun v205 =>
 CD v205 (
 J 3 (fun j206 =>
 J 3 (fun j207 =>
 J 4 (fun j208 =>
 B1 (ia 1 x200 x202) fun v209 =>
 B1 (ld v209 h203) fun v210 =>
 B2 (cf (.func (.func 10) [] []) [v210] h203) fun v211 h212 =>
 B1 (ex 0 v211) fun v213 =>
 B1 (ex 1 v211) fun v214 =>
 j208 x200 x201 x202 v214 h212) (fun x215 x216 x217 x218 h219 =>
 J 5 (fun j220 =>
 J 5 (fun j221 =>
 l_outriderlaw6_SegPicks4 J G cf j198 j207 j221 x215 x216 x217 x218 (.bool false) (.int .i64 0) h219) (fun x246 x247 x248 x249 x250 h251 =>
 j220 x246 x247 x248 x249 x250 h251)) (fun x252 x253 x254 x255 x256 h257 =>
 B1 (bb .neq x255 x256) fun v258 =>
 CD v258 (
 some ((.bool false), h257)) (
 j207 x252 x253 x254 h257)))) (fun x259 x260 x261 h262 =>
 j206 x259 x260 x261 h262)) (fun x263 x264 x265 h266 =>
 B1 (iadd x265 (.int .i64 1)) fun v267 =>
 j199 x263 x264 v267 h266)) (
 j198  h203)) := by kernel_rfl

theorem dl_outriderlaw6_SegPicks3 (J : JT) (G : GT) (cf : CF) (j198 : K.Fn 0) : l_outriderlaw6_SegPicks3 J G cf j198 = loopF P J G cf (nT P 7) (atC P 7 [1, 1, 1, 1, 1, 1, 1, 0, 1, 0, 0]) (.sq none (.sq none .nl (.cd .nl .nl)) (.sq (some [1, 9, 15]) (.bl (some [1, 9, 15]) (.sq (some [1, 9, 15, 17]) .nl (.sq none .nl (.sq (some [1, 9, 15, 17, 18]) (.sq none .nl (.bl (some [1, 9, 15, 17, 18]) (.lp [1, 9, 15, 17, 18, 19] (.sq none (.sq none .nl (.cd .nl .nl)) (.sq (some [1, 9, 15, 17, 18, 19]) (.bl none .nl) .nl))))) (.sq none .nl (.cd (.sq none .nl .nl) .nl)))))) .nl)) [1, 9, 15] (fun q t H => match Nat.beq q 6 with | true => app 0 j198 (vals [] t) H | false => (fun _ _ _ => none) q t H) (retK P 7) := by
  unfold l_outriderlaw6_SegPicks3 loopF
  refine congrArg (LP 3) ?_
  funext j199 x200 x201 x202 h203
  exact (rl_outriderlaw6_SegPicks3 J G cf j198 j199 x200 x201 x202 h203).symm

theorem ql_outriderlaw6_SegPicks3 (cf : CF) (j198 : K.Fn 0) (x200 x201 x202 : AV) (h203 : Hp) : l_outriderlaw6_SegPicks3 JN GO cf j198 x200 x201 x202 h203 =

 B1 (lenx x200) fun v204 =>
 B1 (ilt x202 v204) fun v205 =>
 CD v205 (
 JN 3 (fun j206 =>
 JN 3 (fun j207 =>
 JN 4 (fun j208 =>
 B1 (ia 1 x200 x202) fun v209 =>
 B1 (ld v209 h203) fun v210 =>
 B2 (cf (.func (.func 10) [] []) [v210] h203) fun v211 h212 =>
 B1 (ex 0 v211) fun v213 =>
 B1 (ex 1 v211) fun v214 =>
 j208 x200 x201 x202 v214 h212) (fun x215 x216 x217 x218 h219 =>
 JN 5 (fun j220 =>
 JN 5 (fun j221 =>
 l_outriderlaw6_SegPicks4 JN GO cf j198 j207 j221 x215 x216 x217 x218 (.bool false) (.int .i64 0) h219) (fun x246 x247 x248 x249 x250 h251 =>
 j220 x246 x247 x248 x249 x250 h251)) (fun x252 x253 x254 x255 x256 h257 =>
 B1 (bb .neq x255 x256) fun v258 =>
 CD v258 (
 some ((.bool false), h257)) (
 j207 x252 x253 x254 h257)))) (fun x259 x260 x261 h262 =>
 j206 x259 x260 x261 h262)) (fun x263 x264 x265 h266 =>
 B1 (iadd x265 (.int .i64 1)) fun v267 =>
 l_outriderlaw6_SegPicks3 JN GO cf j198 x263 x264 v267 h266)) (
 j198  h203) := by
  have h1 : l_outriderlaw6_SegPicks3 JN GO cf j198 x200 x201 x202 h203 = app 3 (loopF P JN GO cf (nT P 7) (atC P 7 [1, 1, 1, 1, 1, 1, 1, 0, 1, 0, 0]) (.sq none (.sq none .nl (.cd .nl .nl)) (.sq (some [1, 9, 15]) (.bl (some [1, 9, 15]) (.sq (some [1, 9, 15, 17]) .nl (.sq none .nl (.sq (some [1, 9, 15, 17, 18]) (.sq none .nl (.bl (some [1, 9, 15, 17, 18]) (.lp [1, 9, 15, 17, 18, 19] (.sq none (.sq none .nl (.cd .nl .nl)) (.sq (some [1, 9, 15, 17, 18, 19]) (.bl none .nl) .nl))))) (.sq none .nl (.cd (.sq none .nl .nl) .nl)))))) .nl)) [1, 9, 15] (fun q t H => match Nat.beq q 6 with | true => app 0 j198 (vals [] t) H | false => (fun _ _ _ => none) q t H) (retK P 7)) [x200, x201, x202] h203 := by rw [dl_outriderlaw6_SegPicks3]; kernel_rfl
  refine h1.trans ((loopF_eq (P := P) cf (nT P 7) (atC P 7 [1, 1, 1, 1, 1, 1, 1, 0, 1, 0, 0]) (.sq none (.sq none .nl (.cd .nl .nl)) (.sq (some [1, 9, 15]) (.bl (some [1, 9, 15]) (.sq (some [1, 9, 15, 17]) .nl (.sq none .nl (.sq (some [1, 9, 15, 17, 18]) (.sq none .nl (.bl (some [1, 9, 15, 17, 18]) (.lp [1, 9, 15, 17, 18, 19] (.sq none (.sq none .nl (.cd .nl .nl)) (.sq (some [1, 9, 15, 17, 18, 19]) (.bl none .nl) .nl))))) (.sq none .nl (.cd (.sq none .nl .nl) .nl)))))) .nl)) [1, 9, 15] (fun q t H => match Nat.beq q 6 with | true => app 0 j198 (vals [] t) H | false => (fun _ _ _ => none) q t H) (retK P 7) [x200, x201, x202] rfl h203).trans ((rl_outriderlaw6_SegPicks3 JN GO cf j198 _ x200 x201 x202 h203).trans ?_))
  rw [dl_outriderlaw6_SegPicks3]

noncomputable def s_outriderlaw6_SegPicks (J : JT) (G : GT) (cf : CF) (a0 a1 : AV) (H : Hp) : R :=
 B2 (cf (.func (.func 9) [] []) [] H) fun v0 h1 =>
 B1 (unA .not v0) fun v2 =>
 CD v2 (
 some ((.bool false), h1)) (
 J 2 (fun j3 =>
 J 3 (fun j4 =>
 B1 (lenx a0) fun v5 =>
 B1 (igt v5 (.int .i64 20)) fun v6 =>
 G v6 false (fun k7 =>
 k7 a1 h1) (fun v8 h9 =>
 G v6 false (fun k10 =>
 B1 (lenx v8) fun v11 =>
 k10 v11 h9) (fun v12 h13 =>
 G v6 false (fun k14 =>
 B1 (igt v12 (.int .i64 20)) fun v15 =>
 k14 v15 h13) (fun v16 h17 =>
 B1 (pk v6 (.bool true) v16) fun v18 =>
 j4 a0 a1 v18 h17) h13) h9) h1) (fun x19 x20 x21 h22 =>
 CD x21 (
 some ((.bool true), h22)) (
 j3 x19 x20 h22))) (fun x23 x24 h25 =>
 B1 (fl [] []) fun l26 =>
 BN (newCells h25 l26 9 0) fun i27 h28 =>
 B2 (app' 9 1 [(.str [])] false (.slice i27 0 0 0 true 1) x23 h28) fun v29 h30 =>
 J 2 (fun j31 =>
 J 2 (fun j32 =>
 l_outriderlaw6_SegPicks J G cf j32 x24 v29 (.int .i64 0) h30) (fun x69 x70 h71 =>
 j31 x69 x70 h71)) (fun x72 x73 h74 =>
 B2 (cf (.func (.func 21) [] []) [x73] h74) fun v75 h76 =>
 J 2 (fun j77 =>
 J 2 (fun j78 =>
 l_outriderlaw6_SegPicks1 J G cf j78 x72 x73 v75 (.int .i64 0) h76) (fun x191 x192 h193 =>
 j77 x191 x192 h193)) (fun x194 x195 h196 =>
 J 0 (fun j197 =>
 J 0 (fun j198 =>
 l_outriderlaw6_SegPicks3 J G cf j198 x194 x195 (.int .i64 0) h196) (fun  h268 =>
 j197  h268)) (fun  h269 =>
 some ((.bool true), h269))))))

theorem e_outriderlaw6_SegPicks (J : JT) (G : GT) (cf : CF) (a0 a1 : AV) (H : Hp) : callF P J G prim an cf 7 [a0, a1] H = s_outriderlaw6_SegPicks J G cf a0 a1 H := by kernel_rfl

theorem c_outriderlaw6_SegPicks {a0 a1 : AV} {H : Hp} {r : AV × Hp} (h : s_outriderlaw6_SegPicks JN GO cK a0 a1 H = some r) : cK (.func (.func 7) [] []) [a0, a1] H = some r := callF_fix (first := []) (cap := []) ((e_outriderlaw6_SegPicks JN GO _ a0 a1 H).trans h)

noncomputable def l_slices_Compact___int64_int64_1 (J : JT) (G : GT) (cf : CF) (j6 : K.Fn 1) (j14 : K.Fn 2) (j28 : K.Fn 2) : K.Fn 4 := LP 4 fun j29 => fun x30 x31 x32 x33 h34 =>
 B1 (lenx x32) fun v35 =>
 B1 (ilt x33 v35) fun v36 =>
 CD v36 (
 J 4 (fun j37 =>
 J 4 (fun j38 =>
 J 5 (fun j39 =>
 B1 (ia 1 x32 x33) fun v40 =>
 B1 (ld v40 h34) fun v41 =>
 B1 (isub x33 (.int .i64 1)) fun v42 =>
 B1 (ia 1 x32 v42) fun v43 =>
 B1 (ld v43 h34) fun v44 =>
 B1 (ine v41 v44) fun v45 =>
 j39 x30 x31 x32 x33 v45 h34) (fun x46 x47 x48 x49 x50 h51 =>
 CD x50 (
 J 4 (fun j52 =>
 B1 (ia 1 x48 x49) fun v53 =>
 B1 (ld v53 h51) fun v54 =>
 B1 (ia 1 x46 x47) fun v55 =>
 B1 (st 1 v55 v54 h51) fun h56 =>
 j52 x46 x47 x48 x49 h56) (fun x57 x58 x59 x60 h61 =>
 B1 (iadd x58 (.int .i64 1)) fun v62 =>
 j38 x57 v62 x59 x60 h61)) (
 j38 x46 x47 x48 x49 h51))) (fun x63 x64 x65 x66 h67 =>
 j37 x63 x64 x65 x66 h67)) (fun x68 x69 x70 x71 h72 =>
 B1 (iadd x71 (.int .i64 1)) fun v73 =>
 j29 x68 x69 x70 v73 h72)) (
 j28 x30 x31 h34)

theorem rl_slices_Compact___int64_int64_1 (J : JT) (G : GT) (cf : CF) (j6 : K.Fn 1) (j14 : K.Fn 2) (j28 : K.Fn 2) (j29 : K.Fn 4) (x30 x31 x32 x33 : AV) (h34 : Hp) : codeF P J G cf (nT P 37) (atC P 37 [1, 1, 0, 1, 0, 0, 1, 0, 0, 1, 0, 1, 0, 1, 0, 0]) (.sq none (.sq none .nl (.cd .nl .nl)) (.sq (some [0, 3, 4, 5]) (.bl (some [0, 3, 4, 5]) (.sq (some [0, 3, 4, 5, 44]) .nl (.cd (.sq (some [0, 3, 4, 5]) .nl .nl) .nl))) .nl)) (fun t H => app 4 j29 (vals [0, 3, 4, 5] t) H) (fun q t H => match Nat.beq q 2 with | true => app 2 j28 (vals [0, 3] t) H | false => (fun q t H => match Nat.beq q 1 with | true => app 2 j14 (vals [0, 3] t) H | false => (fun q t H => match Nat.beq q 0 with | true => app 1 j6 (vals [0] t) H | false => (fun _ _ _ => none) q t H) q t H) q t H) (retK P 37) (mkT (nT P 37) [0, 3, 4, 5] [x30, x31, x32, x33]) h34 =
(B1 (lenx x32) fun v35 =>
 B1 (ilt x33 v35) fun v36 =>
 CD v36 (
 J 4 (fun j37 =>
 J 4 (fun j38 =>
 J 5 (fun j39 =>
 B1 (ia 1 x32 x33) fun v40 =>
 B1 (ld v40 h34) fun v41 =>
 B1 (isub x33 (.int .i64 1)) fun v42 =>
 B1 (ia 1 x32 v42) fun v43 =>
 B1 (ld v43 h34) fun v44 =>
 B1 (ine v41 v44) fun v45 =>
 j39 x30 x31 x32 x33 v45 h34) (fun x46 x47 x48 x49 x50 h51 =>
 CD x50 (
 J 4 (fun j52 =>
 B1 (ia 1 x48 x49) fun v53 =>
 B1 (ld v53 h51) fun v54 =>
 B1 (ia 1 x46 x47) fun v55 =>
 B1 (st 1 v55 v54 h51) fun h56 =>
 j52 x46 x47 x48 x49 h56) (fun x57 x58 x59 x60 h61 =>
 B1 (iadd x58 (.int .i64 1)) fun v62 =>
 j38 x57 v62 x59 x60 h61)) (
 j38 x46 x47 x48 x49 h51))) (fun x63 x64 x65 x66 h67 =>
 j37 x63 x64 x65 x66 h67)) (fun x68 x69 x70 x71 h72 =>
 B1 (iadd x71 (.int .i64 1)) fun v73 =>
 j29 x68 x69 x70 v73 h72)) (
 j28 x30 x31 h34)) := by kernel_rfl

theorem dl_slices_Compact___int64_int64_1 (J : JT) (G : GT) (cf : CF) (j6 : K.Fn 1) (j14 : K.Fn 2) (j28 : K.Fn 2) : l_slices_Compact___int64_int64_1 J G cf j6 j14 j28 = loopF P J G cf (nT P 37) (atC P 37 [1, 1, 0, 1, 0, 0, 1, 0, 0, 1, 0, 1, 0, 1, 0, 0]) (.sq none (.sq none .nl (.cd .nl .nl)) (.sq (some [0, 3, 4, 5]) (.bl (some [0, 3, 4, 5]) (.sq (some [0, 3, 4, 5, 44]) .nl (.cd (.sq (some [0, 3, 4, 5]) .nl .nl) .nl))) .nl)) [0, 3, 4, 5] (fun q t H => match Nat.beq q 2 with | true => app 2 j28 (vals [0, 3] t) H | false => (fun q t H => match Nat.beq q 1 with | true => app 2 j14 (vals [0, 3] t) H | false => (fun q t H => match Nat.beq q 0 with | true => app 1 j6 (vals [0] t) H | false => (fun _ _ _ => none) q t H) q t H) q t H) (retK P 37) := by
  unfold l_slices_Compact___int64_int64_1 loopF
  refine congrArg (LP 4) ?_
  funext j29 x30 x31 x32 x33 h34
  exact (rl_slices_Compact___int64_int64_1 J G cf j6 j14 j28 j29 x30 x31 x32 x33 h34).symm

theorem ql_slices_Compact___int64_int64_1 (cf : CF) (j6 : K.Fn 1) (j14 : K.Fn 2) (j28 : K.Fn 2) (x30 x31 x32 x33 : AV) (h34 : Hp) : l_slices_Compact___int64_int64_1 JN GO cf j6 j14 j28 x30 x31 x32 x33 h34 =

 B1 (lenx x32) fun v35 =>
 B1 (ilt x33 v35) fun v36 =>
 CD v36 (
 JN 4 (fun j37 =>
 JN 4 (fun j38 =>
 JN 5 (fun j39 =>
 B1 (ia 1 x32 x33) fun v40 =>
 B1 (ld v40 h34) fun v41 =>
 B1 (isub x33 (.int .i64 1)) fun v42 =>
 B1 (ia 1 x32 v42) fun v43 =>
 B1 (ld v43 h34) fun v44 =>
 B1 (ine v41 v44) fun v45 =>
 j39 x30 x31 x32 x33 v45 h34) (fun x46 x47 x48 x49 x50 h51 =>
 CD x50 (
 JN 4 (fun j52 =>
 B1 (ia 1 x48 x49) fun v53 =>
 B1 (ld v53 h51) fun v54 =>
 B1 (ia 1 x46 x47) fun v55 =>
 B1 (st 1 v55 v54 h51) fun h56 =>
 j52 x46 x47 x48 x49 h56) (fun x57 x58 x59 x60 h61 =>
 B1 (iadd x58 (.int .i64 1)) fun v62 =>
 j38 x57 v62 x59 x60 h61)) (
 j38 x46 x47 x48 x49 h51))) (fun x63 x64 x65 x66 h67 =>
 j37 x63 x64 x65 x66 h67)) (fun x68 x69 x70 x71 h72 =>
 B1 (iadd x71 (.int .i64 1)) fun v73 =>
 l_slices_Compact___int64_int64_1 JN GO cf j6 j14 j28 x68 x69 x70 v73 h72)) (
 j28 x30 x31 h34) := by
  have h1 : l_slices_Compact___int64_int64_1 JN GO cf j6 j14 j28 x30 x31 x32 x33 h34 = app 4 (loopF P JN GO cf (nT P 37) (atC P 37 [1, 1, 0, 1, 0, 0, 1, 0, 0, 1, 0, 1, 0, 1, 0, 0]) (.sq none (.sq none .nl (.cd .nl .nl)) (.sq (some [0, 3, 4, 5]) (.bl (some [0, 3, 4, 5]) (.sq (some [0, 3, 4, 5, 44]) .nl (.cd (.sq (some [0, 3, 4, 5]) .nl .nl) .nl))) .nl)) [0, 3, 4, 5] (fun q t H => match Nat.beq q 2 with | true => app 2 j28 (vals [0, 3] t) H | false => (fun q t H => match Nat.beq q 1 with | true => app 2 j14 (vals [0, 3] t) H | false => (fun q t H => match Nat.beq q 0 with | true => app 1 j6 (vals [0] t) H | false => (fun _ _ _ => none) q t H) q t H) q t H) (retK P 37)) [x30, x31, x32, x33] h34 := by rw [dl_slices_Compact___int64_int64_1]; kernel_rfl
  refine h1.trans ((loopF_eq (P := P) cf (nT P 37) (atC P 37 [1, 1, 0, 1, 0, 0, 1, 0, 0, 1, 0, 1, 0, 1, 0, 0]) (.sq none (.sq none .nl (.cd .nl .nl)) (.sq (some [0, 3, 4, 5]) (.bl (some [0, 3, 4, 5]) (.sq (some [0, 3, 4, 5, 44]) .nl (.cd (.sq (some [0, 3, 4, 5]) .nl .nl) .nl))) .nl)) [0, 3, 4, 5] (fun q t H => match Nat.beq q 2 with | true => app 2 j28 (vals [0, 3] t) H | false => (fun q t H => match Nat.beq q 1 with | true => app 2 j14 (vals [0, 3] t) H | false => (fun q t H => match Nat.beq q 0 with | true => app 1 j6 (vals [0] t) H | false => (fun _ _ _ => none) q t H) q t H) q t H) (retK P 37) [x30, x31, x32, x33] rfl h34).trans ((rl_slices_Compact___int64_int64_1 JN GO cf j6 j14 j28 _ x30 x31 x32 x33 h34).trans ?_))
  rw [dl_slices_Compact___int64_int64_1]

noncomputable def l_slices_Compact___int64_int64_ (J : JT) (G : GT) (cf : CF) (j6 : K.Fn 1) : K.Fn 2 := LP 2 fun j7 => fun x8 x9 h10 =>
 B1 (lenx x8) fun v11 =>
 B1 (ilt x9 v11) fun v12 =>
 CD v12 (
 J 2 (fun j13 =>
 J 2 (fun j14 =>
 J 3 (fun j15 =>
 B1 (ia 1 x8 x9) fun v16 =>
 B1 (ld v16 h10) fun v17 =>
 B1 (isub x9 (.int .i64 1)) fun v18 =>
 B1 (ia 1 x8 v18) fun v19 =>
 B1 (ld v19 h10) fun v20 =>
 B1 (ieq v17 v20) fun v21 =>
 j15 x8 x9 v21 h10) (fun x22 x23 x24 h25 =>
 CD x24 (
 B1 (sll 1 x22 (some x23) none none) fun v26 =>
 J 2 (fun j27 =>
 J 2 (fun j28 =>
 l_slices_Compact___int64_int64_1 J G cf j6 j14 j28 x22 x23 v26 (.int .i64 1) h25) (fun x74 x75 h76 =>
 j27 x74 x75 h76)) (fun x77 x78 h79 =>
 B1 (sll 1 x77 (some x78) none none) fun v80 =>
 B2 (builtinA P .clear #[53] [v80] h79) fun v81 h82 =>
 B1 (sll 1 x77 none (some x78) none) fun v83 =>
 some (v83, h82))) (
 j14 x22 x23 h25))) (fun x84 x85 h86 =>
 j13 x84 x85 h86)) (fun x87 x88 h89 =>
 B1 (iadd x88 (.int .i64 1)) fun v90 =>
 j7 x87 v90 h89)) (
 j6 x8 h10)

theorem rl_slices_Compact___int64_int64_ (J : JT) (G : GT) (cf : CF) (j6 : K.Fn 1) (j7 : K.Fn 2) (x8 x9 : AV) (h10 : Hp) : codeF P J G cf (nT P 37) (atC P 37 [1, 1, 0, 1, 0, 0]) (.sq none (.sq none .nl (.cd .nl .nl)) (.sq (some [0, 3]) (.bl (some [0, 3]) (.sq (some [0, 3, 25]) .nl (.cd (.sq none .nl (.sq (some [0, 3]) (.sq none .nl (.bl (some [0, 3]) (.lp [0, 3, 4, 5] (.sq none (.sq none .nl (.cd .nl .nl)) (.sq (some [0, 3, 4, 5]) (.bl (some [0, 3, 4, 5]) (.sq (some [0, 3, 4, 5, 44]) .nl (.cd (.sq (some [0, 3, 4, 5]) .nl .nl) .nl))) .nl))))) (.sq none .nl (.sq none .nl .nl)))) .nl))) .nl)) (fun t H => app 2 j7 (vals [0, 3] t) H) (fun q t H => match Nat.beq q 0 with | true => app 1 j6 (vals [0] t) H | false => (fun _ _ _ => none) q t H) (retK P 37) (mkT (nT P 37) [0, 3] [x8, x9]) h10 =
(B1 (lenx x8) fun v11 =>
 B1 (ilt x9 v11) fun v12 =>
 CD v12 (
 J 2 (fun j13 =>
 J 2 (fun j14 =>
 J 3 (fun j15 =>
 B1 (ia 1 x8 x9) fun v16 =>
 B1 (ld v16 h10) fun v17 =>
 B1 (isub x9 (.int .i64 1)) fun v18 =>
 B1 (ia 1 x8 v18) fun v19 =>
 B1 (ld v19 h10) fun v20 =>
 B1 (ieq v17 v20) fun v21 =>
 j15 x8 x9 v21 h10) (fun x22 x23 x24 h25 =>
 CD x24 (
 B1 (sll 1 x22 (some x23) none none) fun v26 =>
 J 2 (fun j27 =>
 J 2 (fun j28 =>
 l_slices_Compact___int64_int64_1 J G cf j6 j14 j28 x22 x23 v26 (.int .i64 1) h25) (fun x74 x75 h76 =>
 j27 x74 x75 h76)) (fun x77 x78 h79 =>
 B1 (sll 1 x77 (some x78) none none) fun v80 =>
 B2 (builtinA P .clear #[53] [v80] h79) fun v81 h82 =>
 B1 (sll 1 x77 none (some x78) none) fun v83 =>
 some (v83, h82))) (
 j14 x22 x23 h25))) (fun x84 x85 h86 =>
 j13 x84 x85 h86)) (fun x87 x88 h89 =>
 B1 (iadd x88 (.int .i64 1)) fun v90 =>
 j7 x87 v90 h89)) (
 j6 x8 h10)) := by kernel_rfl

theorem dl_slices_Compact___int64_int64_ (J : JT) (G : GT) (cf : CF) (j6 : K.Fn 1) : l_slices_Compact___int64_int64_ J G cf j6 = loopF P J G cf (nT P 37) (atC P 37 [1, 1, 0, 1, 0, 0]) (.sq none (.sq none .nl (.cd .nl .nl)) (.sq (some [0, 3]) (.bl (some [0, 3]) (.sq (some [0, 3, 25]) .nl (.cd (.sq none .nl (.sq (some [0, 3]) (.sq none .nl (.bl (some [0, 3]) (.lp [0, 3, 4, 5] (.sq none (.sq none .nl (.cd .nl .nl)) (.sq (some [0, 3, 4, 5]) (.bl (some [0, 3, 4, 5]) (.sq (some [0, 3, 4, 5, 44]) .nl (.cd (.sq (some [0, 3, 4, 5]) .nl .nl) .nl))) .nl))))) (.sq none .nl (.sq none .nl .nl)))) .nl))) .nl)) [0, 3] (fun q t H => match Nat.beq q 0 with | true => app 1 j6 (vals [0] t) H | false => (fun _ _ _ => none) q t H) (retK P 37) := by
  unfold l_slices_Compact___int64_int64_ loopF
  refine congrArg (LP 2) ?_
  funext j7 x8 x9 h10
  exact (rl_slices_Compact___int64_int64_ J G cf j6 j7 x8 x9 h10).symm

theorem ql_slices_Compact___int64_int64_ (cf : CF) (j6 : K.Fn 1) (x8 x9 : AV) (h10 : Hp) : l_slices_Compact___int64_int64_ JN GO cf j6 x8 x9 h10 =

 B1 (lenx x8) fun v11 =>
 B1 (ilt x9 v11) fun v12 =>
 CD v12 (
 JN 2 (fun j13 =>
 JN 2 (fun j14 =>
 JN 3 (fun j15 =>
 B1 (ia 1 x8 x9) fun v16 =>
 B1 (ld v16 h10) fun v17 =>
 B1 (isub x9 (.int .i64 1)) fun v18 =>
 B1 (ia 1 x8 v18) fun v19 =>
 B1 (ld v19 h10) fun v20 =>
 B1 (ieq v17 v20) fun v21 =>
 j15 x8 x9 v21 h10) (fun x22 x23 x24 h25 =>
 CD x24 (
 B1 (sll 1 x22 (some x23) none none) fun v26 =>
 JN 2 (fun j27 =>
 JN 2 (fun j28 =>
 l_slices_Compact___int64_int64_1 JN GO cf j6 j14 j28 x22 x23 v26 (.int .i64 1) h25) (fun x74 x75 h76 =>
 j27 x74 x75 h76)) (fun x77 x78 h79 =>
 B1 (sll 1 x77 (some x78) none none) fun v80 =>
 B2 (builtinA P .clear #[53] [v80] h79) fun v81 h82 =>
 B1 (sll 1 x77 none (some x78) none) fun v83 =>
 some (v83, h82))) (
 j14 x22 x23 h25))) (fun x84 x85 h86 =>
 j13 x84 x85 h86)) (fun x87 x88 h89 =>
 B1 (iadd x88 (.int .i64 1)) fun v90 =>
 l_slices_Compact___int64_int64_ JN GO cf j6 x87 v90 h89)) (
 j6 x8 h10) := by
  have h1 : l_slices_Compact___int64_int64_ JN GO cf j6 x8 x9 h10 = app 2 (loopF P JN GO cf (nT P 37) (atC P 37 [1, 1, 0, 1, 0, 0]) (.sq none (.sq none .nl (.cd .nl .nl)) (.sq (some [0, 3]) (.bl (some [0, 3]) (.sq (some [0, 3, 25]) .nl (.cd (.sq none .nl (.sq (some [0, 3]) (.sq none .nl (.bl (some [0, 3]) (.lp [0, 3, 4, 5] (.sq none (.sq none .nl (.cd .nl .nl)) (.sq (some [0, 3, 4, 5]) (.bl (some [0, 3, 4, 5]) (.sq (some [0, 3, 4, 5, 44]) .nl (.cd (.sq (some [0, 3, 4, 5]) .nl .nl) .nl))) .nl))))) (.sq none .nl (.sq none .nl .nl)))) .nl))) .nl)) [0, 3] (fun q t H => match Nat.beq q 0 with | true => app 1 j6 (vals [0] t) H | false => (fun _ _ _ => none) q t H) (retK P 37)) [x8, x9] h10 := by rw [dl_slices_Compact___int64_int64_]; kernel_rfl
  refine h1.trans ((loopF_eq (P := P) cf (nT P 37) (atC P 37 [1, 1, 0, 1, 0, 0]) (.sq none (.sq none .nl (.cd .nl .nl)) (.sq (some [0, 3]) (.bl (some [0, 3]) (.sq (some [0, 3, 25]) .nl (.cd (.sq none .nl (.sq (some [0, 3]) (.sq none .nl (.bl (some [0, 3]) (.lp [0, 3, 4, 5] (.sq none (.sq none .nl (.cd .nl .nl)) (.sq (some [0, 3, 4, 5]) (.bl (some [0, 3, 4, 5]) (.sq (some [0, 3, 4, 5, 44]) .nl (.cd (.sq (some [0, 3, 4, 5]) .nl .nl) .nl))) .nl))))) (.sq none .nl (.sq none .nl .nl)))) .nl))) .nl)) [0, 3] (fun q t H => match Nat.beq q 0 with | true => app 1 j6 (vals [0] t) H | false => (fun _ _ _ => none) q t H) (retK P 37) [x8, x9] rfl h10).trans ((rl_slices_Compact___int64_int64_ JN GO cf j6 _ x8 x9 h10).trans ?_))
  rw [dl_slices_Compact___int64_int64_]

noncomputable def s_slices_Compact___int64_int64_ (J : JT) (G : GT) (cf : CF) (a0 : AV) (H : Hp) : R :=
 J 1 (fun j0 =>
 B1 (lenx a0) fun v1 =>
 B1 (ilt v1 (.int .i64 2)) fun v2 =>
 CD v2 (
 some (a0, H)) (
 j0 a0 H)) (fun x3 h4 =>
 J 1 (fun j5 =>
 J 1 (fun j6 =>
 l_slices_Compact___int64_int64_ J G cf j6 x3 (.int .i64 1) h4) (fun x91 h92 =>
 j5 x91 h92)) (fun x93 h94 =>
 some (x93, h94)))

theorem e_slices_Compact___int64_int64_ (J : JT) (G : GT) (cf : CF) (a0 : AV) (H : Hp) : callF P J G prim an cf 37 [a0] H = s_slices_Compact___int64_int64_ J G cf a0 H := by kernel_rfl

theorem c_slices_Compact___int64_int64_ {a0 : AV} {H : Hp} {r : AV × Hp} (h : s_slices_Compact___int64_int64_ JN GO cK a0 H = some r) : cK (.func (.func 37) [] []) [a0] H = some r := callF_fix (first := []) (cap := []) ((e_slices_Compact___int64_int64_ JN GO _ a0 H).trans h)

end
end Go.Proofs.YtdacjomfipkpaaaDoor.SgK
