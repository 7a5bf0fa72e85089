/- Plain forms of functions, printed by a program of our own, and that the evaluator's reading of each is its plain form (of no conditions). -/
import Derived.Test.YtdacjomfipkpaaaDoorSgEnv
namespace Go.Proofs.YtdacjomfipkpaaaDoor.SgN
open Go Am Am.K SgEnv
set_option linter.unusedVariables false
set_option maxRecDepth 100000
noncomputable section
noncomputable abbrev P : Program := Tryd.prog
noncomputable def an (g : Nat) : An :=
  bif Nat.beq g 3 then (.sq none .nl (.sq none (.sq none .nl (.cd (.sq none .nl .nl) .nl)) (.sq (some [0, 1, 5, 6]) .nl (.sq (some [0, 1, 5, 6, 7, 8]) .nl (.sq (some [0, 1, 5, 7]) (.sq (some [0, 1, 5, 6, 7, 8, 28]) .nl (.cd (.sq none .nl .nl) .nl)) (.sq (some [0, 1, 5, 7, 9, 10]) .nl (.sq none .nl .nl))))))) else
  .nl
noncomputable abbrev cK : CF := CK P (regK P) ext prim an

noncomputable def s_outriderlaw6_SegNames (J : JT) (G : GT) (cf : CF) (a0 a1 : AV) (H : Hp) : R :=
 B2 (cf (.func (.func 9) [] []) [] H) fun v0 h1 =>
 B1 (unA .not v0) fun v2 =>
 CD v2 (
 some ((.bool false), h1)) (
 J 4 (fun j3 =>
 B2 (cf (.func (.func 10) [] []) [a0] h1) fun v4 h5 =>
 B1 (ex 0 v4) fun v6 =>
 B1 (ex 1 v4) fun v7 =>
 j3 a0 a1 v6 v7 h5) (fun x8 x9 x10 x11 h12 =>
 J 6 (fun j13 =>
 B2 (cf (.func (.func 10) [] []) [x9] h12) fun v14 h15 =>
 B1 (ex 0 v14) fun v16 =>
 B1 (ex 1 v14) fun v17 =>
 j13 x8 x9 x10 x11 v16 v17 h15) (fun x18 x19 x20 x21 x22 x23 h24 =>
 J 4 (fun j25 =>
 J 7 (fun j26 =>
 B1 (unA .not x21) fun v27 =>
 G v27 false (fun k28 =>
 k28 x23 h24) (fun v29 h30 =>
 G v27 false (fun k31 =>
 B1 (unA .not v29) fun v32 =>
 k31 v32 h30) (fun v33 h34 =>
 B1 (pk v27 (.bool true) v33) fun v35 =>
 j26 x18 x19 x20 x21 x22 x23 v35 h34) h30) h24) (fun x36 x37 x38 x39 x40 x41 x42 h43 =>
 CD x42 (
 B1 (ige x36 (.int .i64 0)) fun v44 =>
 G v44 true (fun k45 =>
 k45 x36 h43) (fun v46 h47 =>
 G v44 true (fun k48 =>
 B1 (ile v46 (.int .i64 17592186044415)) fun v49 =>
 k48 v49 h47) (fun v50 h51 =>
 B1 (pk v44 v50 (.bool false)) fun v52 =>
 B1 (bb .eql x39 v52) fun v53 =>
 G v53 true (fun k54 =>
 k54 x41 h51) (fun v55 h56 =>
 G v53 true (fun k57 =>
 k57 x37 h56) (fun v58 h59 =>
 G v53 true (fun k60 =>
 B1 (ige v58 (.int .i64 0)) fun v61 =>
 k60 v61 h59) (fun v62 h63 =>
 G v53 true (fun k64 =>
 k64 v62 h63) (fun v65 h66 =>
 G v65 true (fun k67 =>
 k67 x37 h66) (fun v68 h69 =>
 G v65 true (fun k70 =>
 B1 (ile v68 (.int .i64 17592186044415)) fun v71 =>
 k70 v71 h69) (fun v72 h73 =>
 G v53 true (fun k74 =>
 B1 (pk v65 v72 (.bool false)) fun v75 =>
 k74 v75 h73) (fun v76 h77 =>
 G v53 true (fun k78 =>
 B1 (bb .eql v55 v76) fun v79 =>
 k78 v79 h77) (fun v80 h81 =>
 B1 (pk v53 v80 (.bool false)) fun v82 =>
 some (v82, h81)) h77) h73) h69) h66) h63) h59) h56) h51) h47) h43) (
 j25 x36 x37 x38 x40 h43))) (fun x83 x84 x85 x86 h87 =>
 J 6 (fun j88 =>
 B2 (cf (.func (.func 11) [] []) [x85] h87) fun v89 h90 =>
 B1 (ex 0 v89) fun v91 =>
 B1 (ex 1 v89) fun v92 =>
 j88 x83 x84 x85 x86 v91 v92 h90) (fun x93 x94 x95 x96 x97 x98 h99 =>
 G x98 true (fun k100 =>
 k100 x97 h99) (fun v101 h102 =>
 G x98 true (fun k103 =>
 k103 x93 h102) (fun v104 h105 =>
 G x98 true (fun k106 =>
 B1 (ieq v101 v104) fun v107 =>
 k106 v107 h105) (fun v108 h109 =>
 B1 (pk x98 v108 (.bool false)) fun v110 =>
 G v110 true (fun k111 =>
 k111 x95 h109) (fun v112 h113 =>
 G v110 true (fun k114 =>
 k114 x96 h113) (fun v115 h116 =>
 G v110 true (fun k117 =>
 B1 (slt v112 v115) fun v118 =>
 k117 v118 h116) (fun v119 h120 =>
 G v110 true (fun k121 =>
 k121 x93 h120) (fun v122 h123 =>
 G v110 true (fun k124 =>
 k124 x94 h123) (fun v125 h126 =>
 G v110 true (fun k127 =>
 B1 (ilt v122 v125) fun v128 =>
 k127 v128 h126) (fun v129 h130 =>
 G v110 true (fun k131 =>
 B1 (bb .eql v119 v129) fun v132 =>
 k131 v132 h130) (fun v133 h134 =>
 B1 (pk v110 v133 (.bool false)) fun v135 =>
 G v135 true (fun k136 =>
 k136 x95 h134) (fun v137 h138 =>
 G v135 true (fun k139 =>
 B1 (lens v137) fun v140 =>
 k139 v140 h138) (fun v141 h142 =>
 G v135 true (fun k143 =>
 B1 (ieq v141 (.int .i64 14)) fun v144 =>
 k143 v144 h142) (fun v145 h146 =>
 B1 (pk v135 v145 (.bool false)) fun v147 =>
 some (v147, h146)) h142) h138) h134) h130) h126) h123) h120) h116) h113) h109) h105) h102) h99)))))

theorem e_outriderlaw6_SegNames (J : JT) (G : GT) (cf : CF) (a0 a1 : AV) (H : Hp) : callF P J G prim an cf 3 [a0, a1] H = s_outriderlaw6_SegNames J G cf a0 a1 H := by kernel_rfl

theorem c_outriderlaw6_SegNames {a0 a1 : AV} {H : Hp} {r : AV × Hp} (h : s_outriderlaw6_SegNames JN GO cK a0 a1 H = some r) : cK (.func (.func 3) [] []) [a0, a1] H = some r := callF_fix (first := []) (cap := []) ((e_outriderlaw6_SegNames JN GO _ a0 a1 H).trans h)

end
end Go.Proofs.YtdacjomfipkpaaaDoor.SgN
