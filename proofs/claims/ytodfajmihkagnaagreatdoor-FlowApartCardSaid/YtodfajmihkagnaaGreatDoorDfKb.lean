/- Plain forms of functions, printed by a program of our own, and that the evaluator's reading of each is its plain form (of no conditions). -/
import Derived.Test.YtodfajmihkagnaaGreatDoorTrimWalk
set_option linter.unusedVariables false
set_option maxRecDepth 100000
set_option linter.unusedSimpArgs false
set_option maxHeartbeats 2000000
namespace Go.Proofs.YtodfajmihkagnaaGreatDoor.DfK
open Go Am Am.K mf
noncomputable section
noncomputable def Wo (J:JT) (G:GT) (cf:CF) (a0:AV) (H:Hp):R:=
 J 0 (fun j0=>
 B1 (bZ a0 (.int .i64 1)) fun v1=>
 CD v1 (
 some ((.str [77,68]),H)) (
 B1 (bZ a0 (.int .i64 2)) fun v2=>
 CD v2 (
 some ((.str [82,77,75]),H)) (
 J 2 (fun j3=>
 B1 (bZ a0 (.int .i64 3)) fun v4=>
 CD v4 (
 j3 a0 v4 H) (
 B1 (bZ a0 (.int .i64 5)) fun v5=>
 j3 a0 v5 H)) (fun x6 x7 h8=>
 CD x7 (
 some ((.str [82,84,89]),h8)) (
 B1 (bZ x6 (.int .i64 4)) fun v9=>
 CD v9 (
 some ((.str [82,84,89,68]),h8)) (
 J 2 (fun aX=>
 B1 (bZ x6 (.int .i64 6)) fun v11=>
 CD v11 (
 aX x6 v11 h8) (
 B1 (bZ x6 (.int .i64 9)) fun v12=>
 aX x6 v12 h8)) (fun bu bF gV=>
 CD bF (
 some ((.str [78]),gV)) (
 B1 (bZ bu (.int .i64 7)) fun dH=>
 CD dH (
 some ((.str [82,77]),gV)) (
 B1 (bZ bu (.int .i64 8)) fun fx=>
 CD fx (
 some ((.str [82]),gV)) (
 j0  gV)))))))))) (fun  gW=>
 some ((.str []),gW))
theorem ak8 {a0:AV} {H:Hp} {r:AV × Hp} (h:Wo JN GO cK a0 H=some r):cK (.func (.func 48) [] []) [a0] H=some r:=aT (first:=[]) (cap:=[]) (aa0 (by kernel_rfl) h)
noncomputable def TV (J:JT) (G:GT) (cf:CF) (a0 a1 a2:AV) (H:Hp):R:=
 B1 (lY a0 a1) fun v0=>
 G v0 true (fun k1=>
 k1 a0 H) (fun v2 h3=>
 G v0 true (fun k4=>
 k4 a2 h3) (fun v5 h6=>
 G v0 true (fun k7=>
 B1 (oN v2 v5) fun v8=>
 k7 v8 h6) (fun v9 cN=>
 B1 (pk v0 v9 (.bool false)) fun v11=>
 some (v11,cN)) h6) h3) H
theorem ag5 {a0 a1 a2:AV} {H:Hp} {r:AV × Hp} (h:TV JN GO cK a0 a1 a2 H=some r):cK (.func (.func 87) [] []) [a0,a1,a2] H=some r:=aT (first:=[]) (cap:=[]) (aa0 (by kernel_rfl) h)
noncomputable def LI (J:JT) (G:GT) (cf:CF) (a0 a1:AV) (H:Hp):R:=
 BN (bx 26 a0 H) fun i0 h1=>
 J 1 (fun j2=>
 B1 (bZ a1 (.int .i32 82)) fun v3=>
 CD v3 (
 B1 (fa 1 (.ptr i0 0)) fun v4=>
 B1 (ld v4 h1) fun v5=>
 B2 (cf (.func (.func 87) [] []) [v5,(.int .i64 1),(.int .i64 64)] h1) fun v6 h7=>
 some (v6,h7)) (
 B1 (bZ a1 (.int .i32 84)) fun v8=>
 CD v8 (
 B1 (fa 2 (.ptr i0 0)) fun v9=>
 B1 (ld v9 h1) fun v10=>
 B2 (cf (.func (.func 87) [] []) [v10,(.int .i64 0),(.int .i64 15)] h1) fun v11 dP=>
 some (v11,dP)) (
 B1 (bZ a1 (.int .i32 89)) fun dN=>
 CD dN (
 B1 (fa 3 (.ptr i0 0)) fun cL=>
 B1 (ld cL h1) fun ei=>
 B2 (cf (.func (.func 87) [] []) [ei,(.int .i64 1),(.int .i64 9)] h1) fun dH dQ=>
 some (dH,dQ)) (
 B1 (bZ a1 (.int .i32 78)) fun dA=>
 CD dA (
 J 2 (fun cG=>
 B1 (fa 0 (.ptr i0 0)) fun v20=>
 B1 (ld v20 h1) fun v21=>
 B1 (bZ v21 (.int .i64 9)) fun v22=>
 CD v22 (
 cG (.ptr i0 0) (.int .i64 1048575) h1) (
 cG (.ptr i0 0) (.int .i64 1099511627776) h1)) (fun bp bI dU=>
 B1 (fa 4 bp) fun v26=>
 B1 (ld v26 dU) fun v27=>
 B1 (lY v27 (.int .i64 1)) fun v28=>
 G v28 true (fun N6=>
 B1 (fa 4 bp) fun v30=>
 N6 v30 dU) (fun v31 cU=>
 G v28 true (fun EW=>
 B1 (ld v31 cU) fun eA=>
 EW eA cU) (fun v35 mI=>
 G v28 true (fun k37=>
 k37 bI mI) (fun lf jj=>
 G v28 true (fun LX=>
 B1 (oN v35 lf) fun v41=>
 LX v41 jj) (fun eX zo=>
 B1 (pk v28 eX (.bool false)) fun v44=>
 some (v44,zo)) jj) mI) cU) dU)) (
 B1 (bZ a1 (.int .i32 77)) fun fh=>
 CD fh (
 B1 (fa 5 (.ptr i0 0)) fun v46=>
 B1 (ld v46 h1) fun ma=>
 B2 (cf (.func (.func 54) [] []) [ma] h1) fun gk oL=>
 some (gk,oL)) (
 B1 (bZ a1 (.int .i32 75)) fun jw=>
 CD jw (
 B1 (fa 6 (.ptr i0 0)) fun v51=>
 B1 (ld v51 h1) fun gi=>
 B1 (lens gi) fun v53=>
 B1 (oN v53 (.int .i64 16)) fun iA=>
 some (iA,h1)) (
 j2 (.ptr i0 0) h1))))))) (fun fH ou=>
 J 1 (fun Fl=>
 B1 (fa 0 fH) fun kL=>
 B1 (ld kL ou) fun v59=>
 B1 (bZ v59 (.int .i64 1)) fun gL=>
 CD gL (
 B1 (fa 7 fH) fun nX=>
 B1 (ld nX ou) fun jd=>
 B1 (lens jd) fun v63=>
 B1 (oN v63 (.int .i64 900)) fun v64=>
 some (v64,ou)) (
 Fl fH ou)) (fun fY fI=>
 B1 (fa 7 fY) fun mH=>
 B1 (ld mH fI) fun mZ=>
 B1 (lens mZ) fun lO=>
 B1 (oN lO (.int .i64 64)) fun v70=>
 some (v70,fI)))
theorem aip (J:JT) (G:GT) (cf:CF) (a0 a1:AV) (H:Hp):fG P J G aU an cf 52 [a0,a1] H=LI J G cf a0 a1 H:=by kernel_rfl
theorem adV {a0 a1:AV} {H:Hp} {r:AV × Hp} (h:LI JN GO cK a0 a1 H=some r):cK (.func (.func 52) [] []) [a0,a1] H=some r:=aT (first:=[]) (cap:=[]) ((aip JN GO _ a0 a1 H).trans h)
noncomputable def uD (J:JT) (G:GT) (cf:CF) (cG:K.Fn 2) (aG:K.Fn 4) (aI aE bp bI:AV) (dU:Hp):R:=
 B2 (vD bI true dU) fun v26 eP=>
 B1 (ex 0 v26) fun v28=>
 CD v28 (
 J 4 (fun vh=>
 B1 (ex 2 v26) fun v30=>
 J 4 (fun da=>
 B1 (bZ v30 (.int .i32 82)) fun v32=>
 CD v32 (
 B1 (fa 1 aI) fun eO=>
 B1 (ld eO eP) fun eA=>
 B1 (fa 1 bp) fun v35=>
 B1 (st 1 v35 eA eP) fun mI=>
 da aI aE bp bI mI) (
 B1 (bZ v30 (.int .i32 84)) fun v37=>
 CD v37 (
 B1 (fa 2 aI) fun lf=>
 B1 (ld lf eP) fun eQ=>
 B1 (fa 2 bp) fun v40=>
 B1 (st 1 v40 eQ eP) fun fP=>
 da aI aE bp bI fP) (
 B1 (bZ v30 (.int .i32 89)) fun eX=>
 CD eX (
 B1 (fa 3 aI) fun iS=>
 B1 (ld iS eP) fun v44=>
 B1 (fa 3 bp) fun fh=>
 B1 (st 1 fh v44 eP) fun iK=>
 da aI aE bp bI iK) (
 B1 (bZ v30 (.int .i32 78)) fun ma=>
 CD ma (
 B1 (fa 4 aI) fun gk=>
 B1 (ld gk eP) fun v49=>
 B1 (fa 4 bp) fun jw=>
 B1 (st 1 jw v49 eP) fun mV=>
 da aI aE bp bI mV) (
 B1 (bZ v30 (.int .i32 77)) fun gi=>
 CD gi (
 B1 (fa 5 aI) fun v53=>
 B1 (ld v53 eP) fun iA=>
 B1 (fa 5 bp) fun hU=>
 B1 (st 1 hU iA eP) fun ou=>
 da aI aE bp bI ou) (
 B1 (bZ v30 (.int .i32 75)) fun v57=>
 CD v57 (
 B1 (fa 6 aI) fun kL=>
 B1 (ld kL eP) fun v59=>
 B1 (fa 6 bp) fun gL=>
 B1 (st 1 gL v59 eP) fun iL=>
 da aI aE bp bI iL) (
 B1 (bZ v30 (.int .i32 68)) fun jd=>
 CD jd (
 B1 (fa 7 aI) fun v63=>
 B1 (ld v63 eP) fun v64=>
 B1 (fa 7 bp) fun nz=>
 B1 (st 1 nz v64 eP) fun fI=>
 da aI aE bp bI fI) (
 da aI aE bp bI eP)))))))) (fun jI jY lG kV mc=>
 vh jI jY lG kV mc)) (fun uh iF iM lC mw=>
 aG uh iF iM lC mw)) (
 cG aE bp eP)
noncomputable def Ci (J:JT) (G:GT) (cf:CF) (cG:K.Fn 2):K.Fn 4:=dT P an J G cf 49 [1,1,0,1,0,0] [2,4,5,12] (fun q t H=>match Nat.beq q 0 with | true=>app 2 cG (ax [4,5] t) H | false=>(fun _ _ _=>none) q t H)
theorem aga (J:JT) (G:GT) (cf:CF) (cG:K.Fn 2) (aG:K.Fn 4) (aI aE bp bI:AV) (dU:Hp):kT P an J G cf 49 [1,1,0,1,0,0] [2,4,5,12] (fun q t H=>match Nat.beq q 0 with | true=>app 2 cG (ax [4,5] t) H | false=>(fun _ _ _=>none) q t H) aG [aI,aE,bp,bI] dU=uD J G cf cG aG aI aE bp bI dU:=by kernel_rfl
theorem xr (cf:CF) (cG:K.Fn 2) (aI aE bp bI:AV) (dU:Hp):Ci JN GO cf cG aI aE bp bI dU=uD JN GO cf cG (Ci JN GO cf cG) aI aE bp bI dU:=aa0 (b:=app 4 (Ci JN GO cf cG) [aI,aE,bp,bI] dU) (by kernel_rfl) ((ey cf _ _ _ _ [aI,aE,bp,bI] rfl dU).trans (aga JN GO cf cG _ aI aE bp bI dU))
noncomputable def Rr (J:JT) (G:GT) (cf:CF) (a0 a1:AV) (H:Hp):R:=
 BN (bx 26 a0 H) fun i0 h1=>
 BN (aL h1 [(.int .i64 0),(.int .i64 0),(.int .i64 0),(.int .i64 0),(.int .i64 0),(.str []),(.str []),(.str [])] 26 0) fun i2 h3=>
 J 4 (fun j4=>
 B1 (fa 0 (.ptr i0 0)) fun v5=>
 B1 (ld v5 h3) fun v6=>
 B1 (fl [(.int .i64 0),(.int .i64 0),(.int .i64 0),(.int .i64 0),(.int .i64 0),(.str []),(.str []),(.str [])] [(0,1,v6)]) fun l7=>
 BN (aL h3 [(.int .i64 0),(.int .i64 0),(.int .i64 0),(.int .i64 0),(.int .i64 0),(.str []),(.str []),(.str [])] 26 0) fun i8 h9=>
 B1 (st 8 (.ptr i8 0) (.agg l7) h9) fun cN=>
 j4 a1 (.ptr i0 0) (.ptr i2 0) (.ptr i8 0) cN) (fun bL bA bu bF gV=>
 J 2 (fun aR=>
 B2 (xC P 9 bL gV) fun fx gW=>
 J 2 (fun cG=>
 Ci J G cf cG bA bu bF fx gW) (fun ft ff hZ=>
 aR ft ff hZ)) (fun nK rf sM=>
 B1 (aC 8 rf sM) fun oC=>
 B1 (st 8 nK oC sM) fun rp=>
 B1 (aC 8 nK rp) fun v85=>
 some (v85,rp)))
theorem acv (J:JT) (G:GT) (cf:CF) (a0 a1:AV) (H:Hp):fG P J G aU an cf 49 [a0,a1] H=Rr J G cf a0 a1 H:=by kernel_rfl
theorem afm {a0 a1:AV} {H:Hp} {r:AV × Hp} (h:Rr JN GO cK a0 a1 H=some r):cK (.func (.func 49) [] []) [a0,a1] H=some r:=aT (first:=[]) (cap:=[]) ((acv JN GO _ a0 a1 H).trans h)
noncomputable def J3 (J:JT) (G:GT) (cf:CF) (a0:AV) (H:Hp):R:=
 BN (bx 26 a0 H) fun i0 h1=>
 B1 (fa 0 (.ptr i0 0)) fun v2=>
 B1 (ld v2 h1) fun v3=>
 B2 (cf (.func (.func 48) [] []) [v3] h1) fun v4 h5=>
 B1 (rK v4 (.str [])) fun v6=>
 n0 v6 true (
 B1 (aC 8 (.ptr i0 0) h5) fun v7=>
 B2 (cf (.func (.func 49) [] []) [v7,v4] h5) fun v8 h9=>
 B1 (aC 8 (.ptr i0 0) h9) fun v10=>
 sS (gA P .eql 26 false v8 v10) <| B1 (eS P .eql 26 v8 v10 h9) fun v11=>
 n0 v11 true (
 B2 (cf (.func (.func 50) [] []) [v4,(.func (.func 51) [] [(.ptr i0 0)])] h9) fun v12 eZ=>
 B1 (fW .not v12) fun cL=>
 B1 (aC 8 (.ptr i0 0) h5) fun ei=>
 SM v10 ei <|
 some (cL,eZ)) (
 B1 (aC 8 (.ptr i0 0) h5) fun dH=>
 SM v10 dH <|
 some ((.bool false),h9))) (
 some ((.bool false),h5))
theorem QZ {a0:AV} {H:Hp} {r:AV × Hp} (h:J3 JN GO cK a0 H=some r):cK (.func (.func 21) [] []) [a0] H=some r:=aT (first:=[]) (cap:=[]) (aa0 (by kernel_rfl) h)
noncomputable def Ys (J:JT) (G:GT) (cf:CF) (a0 a1:AV) (H:Hp):R:=
 B1 (aC 8 a1 H) fun v0=>
 B2 (cf (.func (.func 52) [] []) [v0,a0] H) fun v1 h2=>
 B1 (fW .not v1) fun v3=>
 some (v3,h2)
theorem anm {a0 a1:AV} {H:Hp} {r:AV × Hp} (h:Ys JN GO cK a0 a1 H=some r):cK (.func (.func 51) [] [a1]) [a0] H=some r:=aT (first:=[]) (cap:=[a1]) (aa0 (by kernel_rfl) h)
noncomputable def ZJ (J:JT) (G:GT) (cf:CF) (a0:AV) (H:Hp):R:=
 B2 (gI P .max #[3,3] [a0,(.int .i64 1)] H) fun v0 h1=>
 B2 (gI P .min #[3,3] [v0,(.int .i64 128)] h1) fun v2 h3=>
 BN (xi h3) fun i4 h5=>
 B1 (fl [(.int .i64 0),.jv,.ah] [(0,1,v2),(1,1,(.map i4))]) fun l6=>
 BN (bx 136 (.agg l6) h5) fun i7 h8=>
 some ((.ptr i7 0),h8)
theorem agY {a0:AV} {H:Hp} {r:AV × Hp} (h:ZJ JN GO cK a0 H=some r):cK (.func (.func 44) [] []) [a0] H=some r:=aT (first:=[]) (cap:=[]) (aa0 (by kernel_rfl) h)
noncomputable def N5 (J:JT) (G:GT) (cf:CF) (a0 a1 a2:AV) (H:Hp):R:=
 BN (bx 80 a1 H) fun i0 h1=>
 J 3 (fun j2=>
 J 5 (fun j3=>
 B1 (aW a0) fun v4=>
 B1 (fa 1 v4) fun v5=>
 B1 (ld v5 h1) fun v6=>
 B1 (aC 2 (.ptr i0 0) h1) fun v7=>
 B1 (qb P 133 v6 v7 true h1) fun v8=>
 B1 (ex 0 v8) fun v9=>
 B1 (ex 1 v8) fun v10=>
 j3 a0 a2 (.ptr i0 0) v9 v10 h1) (fun bL bA bu bF bw bM=>
 CD bw (
 some (.tuple [bF,(.bool false)],bM)) (
 j2 bL bA bu bM))) (fun bh aF aM cx=>
 J 3 (fun fe=>
 J 4 (fun rR=>
 B1 (aW bh) fun v23=>
 B1 (fa 2 v23) fun v24=>
 B1 (ld v24 cx) fun v25=>
 B1 (aV v25) fun v26=>
 B1 (aW bh) fun v27=>
 B1 (fa 0 v27) fun v28=>
 B1 (ld v28 cx) fun v29=>
 B1 (bZ v26 v29) fun v30=>
 rR bh aF aM v30 cx) (fun bO eB cH dc iw=>
 CD dc (
 J 3 (fun vE=>
 B1 (aW bO) fun v37=>
 B1 (fa 1 v37) fun lf=>
 B1 (ld lf iw) fun eQ=>
 B1 (aW bO) fun v40=>
 B1 (fa 2 v40) fun v41=>
 B1 (ld v41 iw) fun eX=>
 B1 (ia 2 eX (.int .i64 0)) fun iS=>
 B1 (aC 2 iS iw) fun v44=>
 B2 (gI P .delete #[133,80] [eQ,v44] iw) fun fh iK=>
 vE bO eB cH iK) (fun gO gZ jz ki=>
 B1 (aW gO) fun v51=>
 B1 (fa 2 v51) fun gi=>
 B1 (ld gi ki) fun v53=>
 B1 (pM 2 v53 (some (.int .i64 1)) none none) fun iA=>
 B1 (aW gO) fun hU=>
 B1 (fa 2 hU) fun mb=>
 B1 (st 1 mb iA ki) fun nB=>
 fe gO gZ jz nB)) (
 fe bO eB cH iw))) (fun dJ db eD iL=>
 J 3 (fun PR=>
 B1 (aW dJ) fun v63=>
 B1 (fa 1 v63) fun v64=>
 B1 (ld v64 iL) fun nz=>
 B1 (aC 2 eD iL) fun jG=>
 B1 (nu P 133 nz jG db iL) fun nh=>
 PR dJ db eD nh) (fun jY lG kV mc=>
 J 1 (fun tJ=>
 B1 (aW jY) fun jO=>
 B1 (fa 2 jO) fun jq=>
 B1 (ld jq mc) fun v75=>
 B1 (aC 2 kV mc) fun v76=>
 B1 (fl [(.str []),(.str [])] [(0,2,v76)]) fun l77=>
 BN (aL mc l77 80 0) fun i78 hZ=>
 B2 (gC 80 2 [(.str []),(.str [])] false v75 (.slice i78 0 1 1 true 2) hZ) fun v80 sU=>
 B1 (aW jY) fun oq=>
 B1 (fa 2 oq) fun oC=>
 B1 (st 1 oC v80 sU) fun rp=>
 B1 (ld jq hZ) fun v85=>
 SM v75 v85 <|
 tJ lG rp) (fun pF wW=>
 some (.tuple [pF,(.bool true)],wW)))))
theorem ad1 (J:JT) (G:GT) (cf:CF) (a0 a1 a2:AV) (H:Hp):fG P J G aU an cf 33 [a0,a1,a2] H=N5 J G cf a0 a1 a2 H:=by kernel_rfl
theorem agq {a0 a1 a2:AV} {H:Hp} {r:AV × Hp} (h:N5 JN GO cK a0 a1 a2 H=some r):cK (.func (.func 33) [] []) [a0,a1,a2] H=some r:=aT (first:=[]) (cap:=[]) ((ad1 JN GO _ a0 a1 a2 H).trans h)
noncomputable def Xc (J:JT) (G:GT) (cf:CF) (a0 a1:AV) (H:Hp):R:=
 BN (bx 80 a1 H) fun i0 h1=>
 J 2 (fun j2=>
 B1 (aW a0) fun v3=>
 B1 (fa 1 v3) fun v4=>
 B1 (ld v4 h1) fun v5=>
 B1 (aC 2 (.ptr i0 0) h1) fun v6=>
 B1 (qb P 133 v5 v6 true h1) fun v7=>
 B1 (ex 0 v7) fun v8=>
 B1 (ex 1 v7) fun v9=>
 j2 v8 v9 h1) (fun cq bL dP=>
 some (.tuple [cq,bL],dP))
theorem als {a0 a1:AV} {H:Hp} {r:AV × Hp} (h:Xc JN GO cK a0 a1 H=some r):cK (.func (.func 83) [] []) [a0,a1] H=some r:=aT (first:=[]) (cap:=[]) (aa0 (by kernel_rfl) h)
noncomputable def Oc (J:JT) (G:GT) (cf:CF) (cg:K.Fn 1) (eU:K.Fn 5) (bF bw aZ bh aF:AV) (dC:Hp):R:=
 B1 (cJ aF bh) fun v20=>
 CD v20 (
 J 5 (fun fe=>
 B1 (ia 2 aZ aF) fun v22=>
 B1 (aC 2 v22 dC) fun v23=>
 BN (aL dC [(.str []),(.str [])] 80 0) fun i24 dU=>
 B1 (st 2 (.ptr i24 0) v23 dU) fun er=>
 B1 (aC 2 (.ptr i24 0) er) fun v27=>
 B1 (aW bF) fun v28=>
 B1 (fa 1 v28) fun v29=>
 B1 (ld v29 er) fun v30=>
 B1 (aC 2 (.ptr i24 0) er) fun v31=>
 B1 (qb P 133 v30 v31 false er) fun v32=>
 B1 (fl [(.str []),(.str []),(.int .i64 0)] [(0,2,v27),(2,1,v32)]) fun OU=>
 B1 (fl [(.str []),(.str []),(.int .i64 0)] [(0,3,(.agg OU))]) fun l34=>
 BN (aL er l34 82 0) fun i35 mI=>
 B2 (gC 82 3 [(.str []),(.str []),(.int .i64 0)] false bw (.slice i35 0 1 1 true 3) mI) fun v37 eT=>
 fe bF v37 aZ bh aF eT) (fun dm dd dS eK dX eL=>
 B1 (bW dX (.int .i64 1)) fun fh=>
 eU dm dd dS eK fh eL)) (
 cg bw dC)
noncomputable def Ex (J:JT) (G:GT) (cf:CF) (cg:K.Fn 1):K.Fn 5:=dT P an J G cf 32 [1,1,0,1,0,0] [0,3,9,10,11] (fun q t H=>match Nat.beq q 0 with | true=>app 1 cg (ax [3] t) H | false=>(fun _ _ _=>none) q t H)
theorem Sh (cf:CF) (cg:K.Fn 1) (bF bw aZ bh aF:AV) (dC:Hp):Ex JN GO cf cg bF bw aZ bh aF dC=Oc JN GO cf cg (Ex JN GO cf cg) bF bw aZ bh aF dC:=aa0 (b:=app 5 (Ex JN GO cf cg) [bF,bw,aZ,bh,aF] dC) (by kernel_rfl) ((ey cf 32 [1,1,0,1,0,0] [0,3,9,10,11] _ [bF,bw,aZ,bh,aF] rfl dC).trans (by kernel_rfl))
noncomputable def UO (J:JT) (G:GT) (cf:CF) (a0:AV) (H:Hp):R:=
 J 1 (fun j0=>
 J 5 (fun j1=>
 B1 (aW a0) fun v2=>
 B1 (fa 2 v2) fun v3=>
 B1 (ld v3 H) fun v4=>
 B1 (aV v4) fun v5=>
 j1 a0 .ah v4 v5 (.int .i64 0) H) (fun x6 x7 x8 x9 cq fM=>
 J 1 (fun cg=>
 Ex J G cf cg x6 x7 x8 x9 cq fM) (fun fK kB=>
 j0 fK kB))) (fun gZ oL=>
 some (gZ,oL))
theorem ama {a0:AV} {H:Hp} {r:AV × Hp} (h:UO JN GO cK a0 H=some r):cK (.func (.func 32) [] []) [a0] H=some r:=aT (first:=[]) (cap:=[]) (aa0 (by kernel_rfl) h)
noncomputable def L1 (J:JT) (G:GT) (cf:CF) (a0:AV) (H:Hp):R:=
 BN (bx 75 a0 H) fun i0 h1=>
 BN (aL h1 [.ah,(.int .i64 0),.ah,.ah] 75 0) fun i2 h3=>
 J 2 (fun j4=>
 B1 (fa 1 (.ptr i0 0)) fun v5=>
 B1 (ld v5 h3) fun v6=>
 B1 (gy v6 (.int .i64 0)) fun v7=>
 CD v7 (
 B1 (fl [.ah,(.int .i64 0),.ah,.ah] []) fun l8=>
 B1 (st 4 (.ptr i2 0) (.agg l8) h3) fun h9=>
 B1 (aC 4 (.ptr i2 0) h9) fun v10=>
 some (.tuple [v10,(.int .i64 9)],h9)) (
 j4 (.ptr i0 0) (.ptr i2 0) h3)) (fun bL bA eZ=>
 B1 (aC 4 bL eZ) fun cL=>
 B2 (cf (.func (.func 97) [] []) [cL] eZ) fun ei bM=>
 B1 (st 4 bL ei bM) fun dQ=>
 B1 (fa 1 bL) fun dA=>
 B1 (st 1 dA (.int .i64 3) dQ) fun dC=>
 B1 (aC 4 bL dC) fun v20=>
 B1 (st 4 bA v20 dC) fun kc=>
 B1 (aC 4 bA kc) fun v22=>
 some (.tuple [v22,(.int .i64 0)],kc))
theorem Zy {a0:AV} {H:Hp} {r:AV × Hp} (h:L1 JN GO cK a0 H=some r):cK (.func (.func 82) [] []) [a0] H=some r:=aT (first:=[]) (cap:=[]) (aa0 (by kernel_rfl) h)
noncomputable def aaJ (J:JT) (G:GT) (cf:CF) (H:Hp):R:=
 BN (xi H) fun i0 h1=>
 B2 (cf (.func (.func 44) [] []) [(.int .i64 128)] h1) fun v2 h3=>
 B1 (fl [(.int .i64 0),.ah,.jv,.ah,.fB] [(2,1,(.map i0)),(4,1,v2)]) fun l4=>
 BN (bx 67 (.agg l4) h3) fun i5 h6=>
 some ((.ptr i5 0),h6)
theorem adW {H:Hp} {r:AV × Hp} (h:aaJ JN GO cK  H=some r):cK (.func (.func 18) [] []) [] H=some r:=aT (first:=[]) (cap:=[]) (aa0 (by kernel_rfl) h)
noncomputable def xo (J:JT) (G:GT) (cf:CF) (a0 a1:AV) (H:Hp):R:=
 BN (bx 26 a1 H) fun i0 h1=>
 B1 (aC 8 (.ptr i0 0) h1) fun v2=>
 B2 (cf (.func (.func 21) [] []) [v2] h1) fun v3 h4=>
 B1 (fW .not v3) fun v5=>
 CD v5 (
 some ((.int .i64 1),h4)) (
 J 2 (fun j6=>
 B1 (fa 0 (.ptr i0 0)) fun v7=>
 B1 (ld v7 h4) fun v8=>
 B1 (bZ v8 (.int .i64 1)) fun v9=>
 CD v9 (
 B1 (fa 5 (.ptr i0 0)) fun v10=>
 B1 (ld v10 h4) fun v11=>
 B1 (fa 7 (.ptr i0 0)) fun v12=>
 B1 (ld v12 h4) fun dN=>
 B2 (cf (.func (.func 40) [] []) [a0,v11,dN] h4) fun cL gV=>
 some (cL,gV)) (
 B1 (bZ v8 (.int .i64 2)) fun dH=>
 CD dH (
 B1 (aC 8 (.ptr i0 0) h4) fun fx=>
 B2 (cf (.func (.func 41) [] []) [a0,fx] h4) fun dA dC=>
 some (dA,dC)) (
 B1 (bZ v8 (.int .i64 6)) fun v20=>
 CD v20 (
 B1 (fa 4 (.ptr i0 0)) fun v21=>
 B1 (ld v21 h4) fun v22=>
 B2 (cf (.func (.func 42) [] []) [a0,v22] h4) fun v23 iZ=>
 some (v23,iZ)) (
 B1 (bZ v8 (.int .i64 9)) fun v25=>
 CD v25 (
 some ((.int .i64 0),h4)) (
 j6 a0 (.ptr i0 0) h4))))) (fun cO cB gF=>
 J 2 (fun vh=>
 J 3 (fun A6=>
 B1 (fa 1 cB) fun v31=>
 B1 (ld v31 gF) fun v32=>
 B1 (aW cO) fun eO=>
 B1 (fa 3 eO) fun eA=>
 B1 (ld eA gF) fun v35=>
 B1 (aV v35) fun v36=>
 B1 (lQ v32 v36) fun v37=>
 A6 cO cB v37 gF) (fun bV dm dd fP=>
 CD dd (
 some ((.int .i64 4),fP)) (
 vh bV dm fP))) (fun eK dX eL=>
 B1 (aC 8 dX eL) fun fh=>
 B2 (cf (.func (.func 43) [] []) [eK,fh] eL) fun v46 kB=>
 some (v46,kB))))
theorem abr (J:JT) (G:GT) (cf:CF) (a0 a1:AV) (H:Hp):fG P J G aU an cf 16 [a0,a1] H=xo J G cf a0 a1 H:=by kernel_rfl
theorem Av {a0 a1:AV} {H:Hp} {r:AV × Hp} (h:xo JN GO cK a0 a1 H=some r):cK (.func (.func 16) [] []) [a0,a1] H=some r:=aT (first:=[]) (cap:=[]) ((abr JN GO _ a0 a1 H).trans h)
noncomputable def Ce (J:JT) (G:GT) (cf:CF) (a0 a1 a2:AV) (H:Hp):R:=
 J 3 (fun j0=>
 J 4 (fun j1=>
 B1 (aW a0) fun v2=>
 B1 (fa 2 v2) fun v3=>
 B1 (ld v3 H) fun v4=>
 B1 (sG .str (.str []) true v4 a1 H) fun v5=>
 B1 (ex 0 v5) fun v6=>
 B1 (ex 1 v5) fun v7=>
 j1 a0 a1 a2 v7 H) (fun x8 x9 cq bL dP=>
 CD bL (
 some ((.int .i64 5),dP)) (
 j0 x8 x9 cq dP))) (fun bu bF bw bM=>
 J 4 (fun jg=>
 B2 (cf (.func (.func 53) [] []) [bw] bM) fun dA dC=>
 B1 (ex 0 dA) fun v20=>
 B1 (ex 1 dA) fun v21=>
 BN (aL dC [.ah] 72 0) fun i22 br=>
 B1 (st 1 (.ptr i22 0) v20 br) fun iZ=>
 jg bu bF (.ptr i22 0) v21 iZ) (fun bP cO cB dY dL=>
 B1 (gy dY (.int .i64 0)) fun v30=>
 CD v30 (
 some (dY,dL)) (
 J 3 (fun da=>
 J 4 (fun gw=>
 B1 (aW bP) fun eO=>
 B1 (fa 1 eO) fun eA=>
 B1 (ld eA dL) fun v35=>
 B1 (aV v35) fun v36=>
 B1 (bZ v36 (.int .i64 16)) fun v37=>
 gw bP cO cB v37 dL) (fun bV dm dd dS ez=>
 CD dS (
 some ((.int .i64 6),ez)) (
 da bV dm dd ez))) (fun dX gD fq iK=>
 J 3 (fun xv=>
 B1 (aW dX) fun gk=>
 B1 (fa 1 gk) fun v49=>
 B1 (ld v49 iK) fun jw=>
 B1 (fl [(.str [])] [(0,1,gD)]) fun l51=>
 BN (aL iK l51 9 0) fun i52 fE=>
 B2 (gC 9 1 [(.str [])] false jw (.slice i52 0 1 1 true 1) fE) fun iA uL=>
 B1 (aW dX) fun mb=>
 B1 (fa 1 mb) fun v57=>
 B1 (st 1 v57 iA uL) fun lT=>
 xv dX gD fq lT) (fun db eD dV iR=>
 J 0 (fun K4=>
 B1 (aW db) fun v64=>
 B1 (fa 2 v64) fun nz=>
 B1 (ld nz iR) fun jG=>
 B1 (aC 1 dV iR) fun mH=>
 B2 (cf (.func (.func 55) [] []) [mH] iR) fun mZ yj=>
 B1 (tn .str jG eD mZ yj) fun wk=>
 B1 (ld nz yj) fun ng=>
 SM jG ng <|
 K4  wk) (fun  mn=>
 some ((.int .i64 0),mn)))))))
theorem agN (J:JT) (G:GT) (cf:CF) (a0 a1 a2:AV) (H:Hp):fG P J G aU an cf 40 [a0,a1,a2] H=Ce J G cf a0 a1 a2 H:=by kernel_rfl
theorem IA {a0 a1 a2:AV} {H:Hp} {r:AV × Hp} (h:Ce JN GO cK a0 a1 a2 H=some r):cK (.func (.func 40) [] []) [a0,a1,a2] H=some r:=aT (first:=[]) (cap:=[]) ((agN JN GO _ a0 a1 a2 H).trans h)
noncomputable def sN (J:JT) (G:GT) (cf:CF) (a0 a1:AV) (H:Hp):R:=
 BN (bx 26 a1 H) fun i0 h1=>
 J 4 (fun j2=>
 B1 (fa 5 (.ptr i0 0)) fun v3=>
 B1 (ld v3 h1) fun v4=>
 B2 (cf (.func (.func 56) [] []) [a0,v4] h1) fun v5 h6=>
 B1 (ex 0 v5) fun v7=>
 B1 (ex 1 v5) fun v8=>
 BN (aL h6 [.ah] 72 0) fun i9 cN=>
 B1 (st 1 (.ptr i9 0) v7 cN) fun fM=>
 j2 a0 (.ptr i0 0) (.ptr i9 0) v8 fM) (fun bA bu bF bw bM=>
 J 5 (fun jg=>
 B1 (fa 5 bu) fun dA=>
 B1 (ld dA bM) fun eN=>
 B1 (fa 6 bu) fun v20=>
 B1 (ld v20 bM) fun v21=>
 B2 (cf (.func (.func 45) [] []) [bA,eN,v21] bM) fun v22 br=>
 B1 (ex 0 v22) fun v24=>
 B1 (ex 1 v22) fun v25=>
 jg bA bu bF bw v25 br) (fun cO cB dY cP bY gz=>
 J 3 (fun gw=>
 B1 (fW .not cP) fun eO=>
 CD eO (
 some ((.int .i64 4),gz)) (
 J 4 (fun kN=>
 B1 (fa 6 cB) fun v35=>
 B1 (ld v35 gz) fun v36=>
 B1 (rK v36 (.str [])) fun v37=>
 G v37 true (fun xB=>
 xB bY gz) (fun eQ nO=>
 B1 (pk v37 eQ (.bool false)) fun v41=>
 kN cO cB dY v41 nO) gz) (fun eK dX gD fq iK=>
 CD fq (
 some ((.int .i64 5),iK)) (
 J 4 (fun xv=>
 B1 (aW eK) fun gk=>
 B1 (fa 3 gk) fun v49=>
 B1 (ld v49 iK) fun jw=>
 B1 (aV jw) fun v51=>
 B1 (bZ v51 (.int .i64 64)) fun gi=>
 xv eK dX gD gi iK) (fun ji ie fH df nB=>
 CD df (
 some ((.int .i64 6),nB)) (
 J 4 (fun j58=>
 B1 (fa 1 ie) fun v59=>
 B1 (ld v59 nB) fun gL=>
 B1 (aW ji) fun nX=>
 B1 (fa 3 nX) fun jd=>
 B1 (ld jd nB) fun v63=>
 B1 (aV v63) fun v64=>
 B1 (bW v64 (.int .i64 1)) fun nz=>
 B1 (gy gL nz) fun jG=>
 j58 ji ie fH jG nB) (fun jI jY lG kV mc=>
 CD kV (
 some ((.int .i64 1),mc)) (
 gw jI jY lG mc)))))))) (fun uh iF iM oJ=>
 J 4 (fun Mm=>
 B1 (aC 1 iM oJ) fun wC=>
 B2 (cf (.func (.func 76) [] []) [wC] oJ) fun tw hZ=>
 B1 (ex 0 tw) fun v80=>
 B1 (ex 1 tw) fun rW=>
 BN (aL hZ [.ah,(.int .i64 0),.ah,.ah] 75 0) fun i82 sW=>
 B1 (st 4 (.ptr i82 0) v80 sW) fun rp=>
 Mm uh iF (.ptr i82 0) rW rp) (fun pH pF sr nj rA=>
 B1 (gy nj (.int .i64 0)) fun sf=>
 CD sf (
 some (nj,rA)) (
 J 2 (fun j91=>
 B1 (aW pH) fun Bm=>
 B1 (fa 3 Bm) fun v93=>
 B1 (ld v93 rA) fun xY=>
 B1 (aC 4 sr rA) fun Qa=>
 B1 (fa 5 pF) fun py=>
 B1 (ld py rA) fun Gy=>
 B1 (fl [.ah,(.int .i64 0),.ah,.ah,(.str [])] [(0,4,Qa),(4,1,Gy)]) fun l98=>
 B1 (fl [.ah,(.int .i64 0),.ah,.ah,(.str [])] [(0,5,(.agg l98))]) fun l99=>
 BN (aL rA l99 77 0) fun i100 yP=>
 B2 (gC 77 5 [.ah,(.int .i64 0),.ah,.ah,(.str [])] false xY (.slice i100 0 1 1 true 5) yP) fun xW lh=>
 B1 (aW pH) fun xq=>
 B1 (fa 3 xq) fun v105=>
 B1 (st 1 v105 xW lh) fun qP=>
 B1 (ld v93 yP) fun v107=>
 SM xY v107 <|
 j91 pH pF qP) (fun mG jZ pI=>
 J 0 (fun Ih=>
 B1 (fa 6 jZ) fun xM=>
 B1 (ld xM pI) fun vM=>
 B1 (rK vM (.str [])) fun rN=>
 CD rN (
 B1 (aW mG) fun u7=>
 B1 (fa 4 u7) fun zQ=>
 B1 (ld zQ pI) fun v117=>
 B1 (fa 5 jZ) fun CW=>
 B1 (ld CW pI) fun yn=>
 B1 (fa 6 jZ) fun Et=>
 B1 (ld Et pI) fun acG=>
 B1 (fl [(.str []),(.str [])] [(0,1,yn),(1,1,acG)]) fun ajg=>
 B1 (fa 1 jZ) fun wR=>
 B1 (ld wR pI) fun v124=>
 B2 (cf (.func (.func 33) [] []) [v117,(.agg ajg),v124] pI) fun yI Qi=>
 Ih  Qi) (
 Ih  pI)) (fun  MN=>
 some ((.int .i64 0),MN))))))))
theorem ahp (J:JT) (G:GT) (cf:CF) (a0 a1:AV) (H:Hp):fG P J G aU an cf 41 [a0,a1] H=sN J G cf a0 a1 H:=by kernel_rfl
theorem vj {a0 a1:AV} {H:Hp} {r:AV × Hp} (h:sN JN GO cK a0 a1 H=some r):cK (.func (.func 41) [] []) [a0,a1] H=some r:=aT (first:=[]) (cap:=[]) ((ahp JN GO _ a0 a1 H).trans h)
noncomputable def bl_flow_Flow_tick (J:JT) (G:GT) (cf:CF) (da:K.Fn 0) (gw:K.Fn 4) (cH dc dh bQ:AV) (iB:Hp):R:=
 B1 (cJ bQ dh) fun lf=>
 CD lf (
 J 4 (fun pt=>
 B1 (aW cH) fun v40=>
 B1 (fa 3 v40) fun v41=>
 B1 (ld v41 iB) fun eX=>
 B1 (aW cH) fun iS=>
 B1 (fa 3 iS) fun v44=>
 B1 (ld v44 iB) fun fh=>
 B1 (ia 5 fh bQ) fun v46=>
 B1 (fa 0 v46) fun ma=>
 B1 (aC 4 ma iB) fun gk=>
 B2 (cf (.func (.func 77) [] []) [gk,dc] iB) fun v49 ki=>
 B1 (ia 5 eX bQ) fun v51=>
 B1 (fa 0 v51) fun gi=>
 B1 (st 4 gi v49 ki) fun fE=>
 B1 (ld v41 ki) fun iA=>
 SM eX iA <|
 pt cH dc dh bQ fE) (fun fH df dD dJ wo=>
 B1 (bW dJ (.int .i64 1)) fun gL=>
 gw fH df dD gL wo)) (
 da  iB)
noncomputable def Hr (J:JT) (G:GT) (cf:CF) (da:K.Fn 0):K.Fn 4:=dT P an J G cf 42 [1,1,1,0,1,0,0] [0,1,20,21] (fun q t H=>match Nat.beq q 0 with | true=>app 0 da (ax [] t) H | false=>(fun _ _ _=>none) q t H)
theorem Z4 (cf:CF) (da:K.Fn 0) (cH dc dh bQ:AV) (iB:Hp):Hr JN GO cf da cH dc dh bQ iB=bl_flow_Flow_tick JN GO cf da (Hr JN GO cf da) cH dc dh bQ iB:=aa0 (b:=app 4 (Hr JN GO cf da) [cH,dc,dh,bQ] iB) (by kernel_rfl) ((ey cf 42 [1,1,1,0,1,0,0] [0,1,20,21] _ [cH,dc,dh,bQ] rfl iB).trans (by kernel_rfl))
noncomputable def Nn (J:JT) (G:GT) (cf:CF) (a0 a1:AV) (H:Hp):R:=
 J 2 (fun j0=>
 J 3 (fun j1=>
 B1 (aW a0) fun v2=>
 B1 (fa 0 v2) fun v3=>
 B1 (ld v3 H) fun v4=>
 B1 (oN a1 v4) fun v5=>
 j1 a0 a1 v5 H) (fun x6 x7 x8 h9=>
 CD x8 (
 some ((.int .i64 10),h9)) (
 j0 x6 x7 h9))) (fun cq bL dP=>
 J 2 (fun eU=>
 B1 (aW cq) fun cL=>
 B1 (fa 0 cL) fun ei=>
 B1 (st 1 ei bL dP) fun bM=>
 eU cq bL bM) (fun bh aF dC=>
 J 0 (fun aG=>
 J 4 (fun fe=>
 B1 (aW bh) fun v22=>
 B1 (fa 3 v22) fun v23=>
 B1 (ld v23 dC) fun v24=>
 B1 (aV v24) fun v25=>
 fe bh aF v25 (.int .i64 0) dC) (fun cO cB dY cP kO=>
 J 0 (fun da=>
 Hr J G cf da cO cB dY cP kO) (fun  iL=>
 aG  iL))) (fun  iR=>
 some ((.int .i64 0),iR))))
theorem Z3 {a0 a1:AV} {H:Hp} {r:AV × Hp} (h:Nn JN GO cK a0 a1 H=some r):cK (.func (.func 42) [] []) [a0,a1] H=some r:=aT (first:=[]) (cap:=[]) (aa0 (by kernel_rfl) h)
noncomputable def zF (J:JT) (G:GT) (cf:CF) (a0 a1:AV) (H:Hp):R:=
 BN (bx 26 a1 H) fun i0 h1=>
 J 3 (fun j2=>
 B1 (aW a0) fun v3=>
 B1 (fa 3 v3) fun v4=>
 B1 (ld v4 h1) fun v5=>
 B1 (fa 1 (.ptr i0 0)) fun v6=>
 B1 (ld v6 h1) fun v7=>
 B1 (nG v7 (.int .i64 1)) fun v8=>
 B1 (ia 5 v5 v8) fun v9=>
 B1 (fa 0 v9) fun v10=>
 j2 a0 (.ptr i0 0) v10 h1) (fun bL bA bu jL=>
 BN (aL jL [.ah,(.int .i64 0),.ah,.ah] 75 0) fun i15 bM=>
 J 3 (fun jg=>
 B1 (fa 0 bA) fun dA=>
 B1 (ld dA bM) fun eN=>
 J 3 (fun aG=>
 B1 (bZ eN (.int .i64 3)) fun v21=>
 CD v21 (
 B1 (aW bu) fun v22=>
 B1 (aC 4 v22 bM) fun v23=>
 B1 (fa 2 bA) fun v24=>
 B1 (ld v24 bM) fun v25=>
 B1 (fa 3 bA) fun v26=>
 B1 (ld v26 bM) fun v27=>
 B1 (aW bL) fun v28=>
 B1 (fa 0 v28) fun v29=>
 B1 (ld v29 bM) fun v30=>
 B2 (cf (.func (.func 78) [] []) [v23,v25,v27,v30] bM) fun v31 cU=>
 B1 (ex 0 v31) fun eO=>
 B1 (ex 1 v31) fun eA=>
 B1 (st 4 (.ptr i15 0) eO cU) fun iw=>
 aG bu (.ptr i15 0) eA iw) (
 B1 (bZ eN (.int .i64 4)) fun v36=>
 CD v36 (
 B1 (aW bu) fun v37=>
 B1 (aC 4 v37 bM) fun lf=>
 B1 (fa 2 bA) fun eQ=>
 B1 (ld eQ bM) fun v40=>
 B1 (fa 3 bA) fun v41=>
 B1 (ld v41 bM) fun eX=>
 B1 (fa 7 bA) fun iS=>
 B1 (ld iS bM) fun v44=>
 B2 (cf (.func (.func 79) [] []) [lf,v40,eX,v44] bM) fun fh iK=>
 B1 (ex 0 fh) fun ma=>
 B1 (ex 1 fh) fun gk=>
 B1 (st 4 (.ptr i15 0) ma iK) fun oL=>
 aG bu (.ptr i15 0) gk oL) (
 B1 (bZ eN (.int .i64 5)) fun jw=>
 CD jw (
 B1 (aW bu) fun v51=>
 B1 (aC 4 v51 bM) fun gi=>
 B1 (fa 2 bA) fun v53=>
 B1 (ld v53 bM) fun iA=>
 B1 (fa 3 bA) fun hU=>
 B1 (ld hU bM) fun mb=>
 B1 (aW bL) fun v57=>
 B1 (fa 0 v57) fun kL=>
 B1 (ld kL bM) fun v59=>
 B2 (cf (.func (.func 80) [] []) [gi,iA,mb,v59] bM) fun gL iL=>
 B1 (ex 0 gL) fun jd=>
 B1 (ex 1 gL) fun v63=>
 B1 (st 4 (.ptr i15 0) jd iL) fun oD=>
 aG bu (.ptr i15 0) v63 oD) (
 B1 (bZ eN (.int .i64 7)) fun nz=>
 CD nz (
 B1 (aW bu) fun jG=>
 B1 (aC 4 jG bM) fun mH=>
 B1 (fa 5 bA) fun mZ=>
 B1 (ld mZ bM) fun lO=>
 B2 (cf (.func (.func 81) [] []) [mH,lO] bM) fun v70 mc=>
 B1 (ex 0 v70) fun v72=>
 B1 (ex 1 v70) fun jO=>
 B1 (st 4 (.ptr i15 0) v72 mc) fun yZ=>
 aG bu (.ptr i15 0) jO yZ) (
 B1 (aW bu) fun v75=>
 B1 (aC 4 v75 bM) fun v76=>
 B2 (cf (.func (.func 82) [] []) [v76] bM) fun wC xz=>
 B1 (ex 0 wC) fun uB=>
 B1 (ex 1 wC) fun v80=>
 B1 (st 4 (.ptr i15 0) uB xz) fun sU=>
 aG bu (.ptr i15 0) v80 sU))))) (fun uH mT pC pK=>
 jg uH mT pC pK)) (fun pF sr nj rA=>
 J 1 (fun KX=>
 B1 (bZ nj (.int .i64 0)) fun v91=>
 CD v91 (
 B1 (aC 4 sr rA) fun Bm=>
 B1 (aW pF) fun v93=>
 B1 (st 4 v93 Bm rA) fun Pe=>
 KX nj Pe) (
 KX nj rA)) (fun pA h96=>
 some (pA,h96))))
theorem ace (J:JT) (G:GT) (cf:CF) (a0 a1:AV) (H:Hp):fG P J G aU an cf 43 [a0,a1] H=zF J G cf a0 a1 H:=by kernel_rfl
theorem GU {a0 a1:AV} {H:Hp} {r:AV × Hp} (h:zF JN GO cK a0 a1 H=some r):cK (.func (.func 43) [] []) [a0,a1] H=some r:=aT (first:=[]) (cap:=[]) ((ace JN GO _ a0 a1 H).trans h)
noncomputable def Qr (J:JT) (G:GT) (cf:CF) (a0 a1:AV) (H:Hp):R:=
 BN (aL H [.ah] 72 0) fun i0 h1=>
 J 3 (fun j2=>
 B1 (aW a0) fun v3=>
 B1 (fa 2 v3) fun v4=>
 B1 (ld v4 h1) fun v5=>
 B1 (sG .str (.str []) true v5 a1 h1) fun v6=>
 B1 (ex 0 v6) fun v7=>
 B1 (ex 1 v6) fun v8=>
 j2 (.ptr i0 0) v7 v8 h1) (fun x9 cq bL dP=>
 J 2 (fun eU=>
 B1 (fW .not bL) fun cL=>
 CD cL (
 B1 (fl [.ah] []) fun l15=>
 B1 (st 1 x9 (.agg l15) dP) fun bM=>
 B1 (aC 1 x9 bM) fun fx=>
 some (.tuple [fx,(.bool false)],bM)) (
 eU x9 cq dP)) (fun aF aM cx=>
 J 2 (fun fe=>
 B2 (cf (.func (.func 53) [] []) [aM] cx) fun v22 br=>
 B1 (ex 0 v22) fun v24=>
 B1 (ex 1 v22) fun v25=>
 BN (aL br [.ah] 72 0) fun i26 eP=>
 B1 (st 1 (.ptr i26 0) v24 eP) fun gF=>
 fe aF (.ptr i26 0) gF) (fun cP bY gz=>
 B1 (aC 1 bY gz) fun v32=>
 B1 (st 1 cP v32 gz) fun pg=>
 B1 (aC 1 cP pg) fun eA=>
 some (.tuple [eA,(.bool true)],pg))))
theorem WK {a0 a1:AV} {H:Hp} {r:AV × Hp} (h:Qr JN GO cK a0 a1 H=some r):cK (.func (.func 56) [] []) [a0,a1] H=some r:=aT (first:=[]) (cap:=[]) (aa0 (by kernel_rfl) h)
noncomputable def Th (J:JT) (G:GT) (cf:CF) (a0 a1 a2:AV) (H:Hp):R:=
 B1 (aW a0) fun v0=>
 B1 (fa 4 v0) fun v1=>
 B1 (ld v1 H) fun v2=>
 B1 (fl [(.str []),(.str [])] [(0,1,a1),(1,1,a2)]) fun l3=>
 B2 (cf (.func (.func 83) [] []) [v2,(.agg l3)] H) fun v4 h5=>
 B1 (ex 0 v4) fun v6=>
 B1 (ex 1 v4) fun v7=>
 some (.tuple [v6,v7],h5)
theorem ahE {a0 a1 a2:AV} {H:Hp} {r:AV × Hp} (h:Th JN GO cK a0 a1 a2 H=some r):cK (.func (.func 45) [] []) [a0,a1,a2] H=some r:=aT (first:=[]) (cap:=[]) (aa0 (by kernel_rfl) h)
noncomputable def BY (J:JT) (G:GT) (cf:CF) (a0 a1:AV) (H:Hp):R:=
 BN (bx 27 a0 H) fun i0 h1=>
 BN (bx 27 a1 h1) fun i2 h3=>
 B1 (ld (.ptr i0 0) h3) fun v4=>
 B1 (aW v4) fun v5=>
 B1 (fa 0 v5) fun v6=>
 B1 (ld v6 h3) fun v7=>
 B1 (ld (.ptr i2 0) h3) fun v8=>
 B1 (aW v8) fun v9=>
 B1 (fa 0 v9) fun v10=>
 B1 (ld v10 h3) fun v11=>
 B1 (bZ v7 v11) fun v12=>
 n0 v12 true (
 B1 (ld (.ptr i0 0) h3) fun dN=>
 B1 (aW dN) fun cL=>
 B1 (fa 1 cL) fun ei=>
 B1 (ld ei h3) fun dH=>
 B1 (ld (.ptr i2 0) h3) fun fx=>
 B1 (aW fx) fun dA=>
 B1 (fa 1 dA) fun eN=>
 B1 (ld eN h3) fun v20=>
 B2 (cf (.func (.func 37) [] []) [dH,v20,(.func (.func 34) [] [(.ptr i0 0),(.ptr i2 0)])] h3) fun v21 jc=>
 n0 v21 true (
 B1 (ld (.ptr i0 0) jc) fun v23=>
 B1 (aW v23) fun v24=>
 B1 (fa 3 v24) fun v25=>
 B1 (ld v25 jc) fun v26=>
 B1 (ld (.ptr i2 0) jc) fun v27=>
 B1 (aW v27) fun v28=>
 B1 (fa 3 v28) fun v29=>
 B1 (ld v29 jc) fun v30=>
 B2 (cf (.func (.func 38) [] []) [v26,v30,(.func (.func 35) [] [])] jc) fun v31 cU=>
 n0 v31 true (
 B1 (ld (.ptr i0 0) cU) fun eO=>
 B1 (aW eO) fun eA=>
 B1 (fa 4 eA) fun v35=>
 B1 (ld v35 cU) fun v36=>
 B2 (cf (.func (.func 32) [] []) [v36] cU) fun v37 eT=>
 B1 (ld (.ptr i2 0) eT) fun eQ=>
 B1 (aW eQ) fun v40=>
 B1 (fa 4 v40) fun v41=>
 B1 (ld v41 eT) fun eX=>
 B2 (cf (.func (.func 32) [] []) [eX] eT) fun iS eL=>
 B2 (cf (.func (.func 39) [] []) [v37,iS] eL) fun fh iK=>
 B1 (ld (.ptr i2 0) cU) fun ma=>
 SM eQ ma <|
 B1 (ld v41 cU) fun gk=>
 SM eX gk <|
 some (fh,iK)) (
 some ((.bool false),cU))) (
 some ((.bool false),jc))) (
 some ((.bool false),h3))
theorem ajT (J:JT) (G:GT) (cf:CF) (a0 a1:AV) (H:Hp):fG P J G aU an cf 15 [a0,a1] H=BY J G cf a0 a1 H:=by kernel_rfl
theorem Kx {a0 a1:AV} {H:Hp} {r:AV × Hp} (h:BY JN GO cK a0 a1 H=some r):cK (.func (.func 15) [] []) [a0,a1] H=some r:=aT (first:=[]) (cap:=[]) ((ajT JN GO _ a0 a1 H).trans h)
noncomputable def S6 (J:JT) (G:GT) (cf:CF) (a0 a1 a2 a3:AV) (H:Hp):R:=
 B1 (seq a0 a1) fun v0=>
 n0 v0 true (
 B1 (ld a2 H) fun v1=>
 B1 (aW v1) fun v2=>
 B1 (fa 2 v2) fun v3=>
 B1 (ld v3 H) fun v4=>
 B1 (sG .str (.str []) false v4 a0 H) fun v5=>
 B1 (ld a3 H) fun v6=>
 B1 (aW v6) fun v7=>
 B1 (fa 2 v7) fun v8=>
 B1 (ld v8 H) fun v9=>
 B1 (sG .str (.str []) false v9 a1 H) fun v10=>
 B1 (seq v5 v10) fun v11=>
 some (v11,H)) (
 some ((.bool false),H))
theorem aeI {a0 a1 a2 a3:AV} {H:Hp} {r:AV × Hp} (h:S6 JN GO cK a0 a1 a2 a3 H=some r):cK (.func (.func 34) [] [a2,a3]) [a0,a1] H=some r:=aT (first:=[]) (cap:=[a2,a3]) (aa0 (by kernel_rfl) h)
noncomputable def MP (J:JT) (G:GT) (cf:CF) (a0 a1:AV) (H:Hp):R:=
 BN (bx 77 a0 H) fun i0 h1=>
 BN (bx 77 a1 h1) fun i2 h3=>
 B1 (fa 4 (.ptr i0 0)) fun v4=>
 B1 (ld v4 h3) fun v5=>
 B1 (fa 4 (.ptr i2 0)) fun v6=>
 B1 (ld v6 h3) fun v7=>
 B1 (seq v5 v7) fun v8=>
 G v8 true (fun k9=>
 B1 (fa 0 (.ptr i0 0)) fun v10=>
 k9 v10 h3) (fun v11 dP=>
 G v8 true (fun ED=>
 B1 (aC 4 v11 dP) fun cL=>
 ED cL dP) (fun ei bM=>
 G v8 true (fun QW=>
 B1 (fa 0 (.ptr i2 0)) fun dA=>
 QW dA bM) (fun eN cx=>
 G v8 true (fun Hc=>
 B1 (aC 4 eN cx) fun v22=>
 Hc v22 cx) (fun v23 iZ=>
 G v8 true (fun Hw=>
 B2 (cf (.func (.func 36) [] []) [ei,v23] iZ) fun v26 eP=>
 Hw v26 eP) (fun v28 dL=>
 B1 (pk v8 v28 (.bool false)) fun v30=>
 some (v30,dL)) iZ) cx) bM) dP) h3
theorem Yi {a0 a1:AV} {H:Hp} {r:AV × Hp} (h:MP JN GO cK a0 a1 H=some r):cK (.func (.func 35) [] []) [a0,a1] H=some r:=aT (first:=[]) (cap:=[]) (aa0 (by kernel_rfl) h)
noncomputable def bl_flow_All (J:JT) (G:GT) (cf:CF) (j4:K.Fn 1) (j5:K.Fn 4) (x6 x7 x8 x9:AV) (cN:Hp):R:=
 B1 (cJ x9 x8) fun v11=>
 CD v11 (
 J 4 (fun cg=>
 B1 (ia 8 x7 x9) fun dN=>
 B1 (aC 8 dN cN) fun cL=>
 BN (aL cN [(.int .i64 0),(.int .i64 0),(.int .i64 0),(.int .i64 0),(.int .i64 0),(.str []),(.str []),(.str [])] 26 0) fun i15 bM=>
 B1 (st 8 (.ptr i15 0) cL bM) fun dQ=>
 B1 (aC 8 (.ptr i15 0) dQ) fun dA=>
 B2 (cf (.func (.func 16) [] []) [x6,dA] dQ) fun eN cx=>
 cg x6 x7 x8 x9 cx) (fun aI aE bp bI dU=>
 B1 (bW bI (.int .i64 1)) fun v26=>
 j5 aI aE bp v26 dU)) (
 j4 x6 cN)
noncomputable def Eo (J:JT) (G:GT) (cf:CF) (j4:K.Fn 1):K.Fn 4:=dT P an J G cf 13 [1,1,0,1,0,0] [3,7,8,9] (fun q t H=>match Nat.beq q 0 with | true=>app 1 j4 (ax [3] t) H | false=>(fun _ _ _=>none) q t H)
theorem UU (cf:CF) (j4:K.Fn 1) (x6 x7 x8 x9:AV) (cN:Hp):Eo JN GO cf j4 x6 x7 x8 x9 cN=bl_flow_All JN GO cf j4 (Eo JN GO cf j4) x6 x7 x8 x9 cN:=aa0 (b:=app 4 (Eo JN GO cf j4) [x6,x7,x8,x9] cN) (by kernel_rfl) ((ey cf 13 [1,1,0,1,0,0] [3,7,8,9] _ [x6,x7,x8,x9] rfl cN).trans (by kernel_rfl))
noncomputable def Zm (J:JT) (G:GT) (cf:CF) (a0:AV) (H:Hp):R:=
 B2 (cf (.func (.func 18) [] []) [] H) fun v0 h1=>
 J 1 (fun j2=>
 B1 (aV a0) fun v3=>
 J 1 (fun j4=>
 Eo J G cf j4 v0 a0 v3 (.int .i64 0) h1) (fun cB gF=>
 j2 cB gF)) (fun cP kO=>
 some (cP,kO))
theorem agH {a0:AV} {H:Hp} {r:AV × Hp} (h:Zm JN GO cK a0 H=some r):cK (.func (.func 13) [] []) [a0] H=some r:=aT (first:=[]) (cap:=[]) (aa0 (by kernel_rfl) h)
noncomputable def bl_slices_EqualFunc___string___string_string_string_ (J:JT) (G:GT) (cf:CF) (aR:K.Fn 0) (jg:K.Fn 5) (aF aM bB aI aE:AV) (br:Hp):R:=
 B1 (cJ aE aI) fun v24=>
 CD v24 (
 J 5 (fun xZ=>
 J 7 (fun xK=>
 B1 (ia 1 bB aE) fun v27=>
 B1 (ld v27 br) fun v28=>
 xK aF aM aE v28 bB aI aE br) (fun cP bY bO eB cH dc dh mI=>
 J 7 (fun GB=>
 B1 (ia 1 cP bO) fun lf=>
 B1 (ld lf mI) fun eQ=>
 GB cP bY eB eQ cH dc dh mI) (fun dd dS eK dX gD fq fK kB=>
 J 6 (fun j48=>
 B2 (cf dS [eK,dX] kB) fun v49 ki=>
 B1 (fW .not v49) fun v51=>
 j48 dd dS gD fq fK v51 ki) (fun fO ji ie fH df dD lT=>
 CD dD (
 some ((.bool false),lT)) (
 xZ fO ji ie fH df lT))))) (fun db eD dV iX gx oD=>
 B1 (bW gx (.int .i64 1)) fun nz=>
 jg db eD dV iX nz oD)) (
 aR  br)
noncomputable def FM (J:JT) (G:GT) (cf:CF) (aR:K.Fn 0):K.Fn 5:=dT P an J G cf 37 [1,1,0,1,0,0] [1,2,15,16,17] (fun q t H=>match Nat.beq q 0 with | true=>app 0 aR (ax [] t) H | false=>(fun _ _ _=>none) q t H)
theorem Oe (cf:CF) (aR:K.Fn 0) (aF aM bB aI aE:AV) (br:Hp):FM JN GO cf aR aF aM bB aI aE br=bl_slices_EqualFunc___string___string_string_string_ JN GO cf aR (FM JN GO cf aR) aF aM bB aI aE br:=aa0 (b:=app 5 (FM JN GO cf aR) [aF,aM,bB,aI,aE] br) (by kernel_rfl) ((ey cf 37 [1,1,0,1,0,0] [1,2,15,16,17] _ [aF,aM,bB,aI,aE] rfl br).trans (by kernel_rfl))
noncomputable def OY (J:JT) (G:GT) (cf:CF) (a0 a1 a2:AV) (H:Hp):R:=
 J 3 (fun j0=>
 J 4 (fun j1=>
 B1 (aV a0) fun v2=>
 B1 (aV a1) fun v3=>
 B1 (gy v2 v3) fun v4=>
 j1 a0 a1 a2 v4 H) (fun x5 x6 x7 x8 h9=>
 CD x8 (
 some ((.bool false),h9)) (
 j0 x5 x6 x7 h9))) (fun cq bL bA eZ=>
 J 0 (fun bR=>
 B1 (aV cq) fun ei=>
 J 0 (fun aR=>
 FM J G cf aR bL bA cq ei (.int .i64 0) eZ) (fun  fI=>
 bR  fI)) (fun  nh=>
 some ((.bool true),nh)))
theorem WJ {a0 a1 a2:AV} {H:Hp} {r:AV × Hp} (h:OY JN GO cK a0 a1 a2 H=some r):cK (.func (.func 37) [] []) [a0,a1,a2] H=some r:=aT (first:=[]) (cap:=[]) (aa0 (by kernel_rfl) h)
noncomputable def bl_slices_EqualFunc___flow_one___flow_one_flow_one_flow_one_ (J:JT) (G:GT) (cf:CF) (aR:K.Fn 0) (jg:K.Fn 5) (aF aM bB aI aE:AV) (br:Hp):R:=
 B1 (cJ aE aI) fun v24=>
 CD v24 (
 J 5 (fun xZ=>
 J 7 (fun xK=>
 B1 (ia 5 bB aE) fun v27=>
 B1 (aC 5 v27 br) fun v28=>
 BN (aL br [.ah,(.int .i64 0),.ah,.ah,(.str [])] 77 0) fun i29 kO=>
 B1 (st 5 (.ptr i29 0) v28 kO) fun gz=>
 xK aF aM aE (.ptr i29 0) bB aI aE gz) (fun eB cH dc dh bQ bT bV jj=>
 J 7 (fun qD=>
 B1 (ia 5 eB dc) fun v41=>
 B1 (aC 5 v41 jj) fun eX=>
 BN (aL jj [.ah,(.int .i64 0),.ah,.ah,(.str [])] 77 0) fun i43 eL=>
 B1 (st 5 (.ptr i43 0) eX eL) fun jX=>
 qD eB cH dh (.ptr i43 0) bQ bT bV jX) (fun fK gO gZ jz kH jM fO fE=>
 J 6 (fun dW=>
 B1 (aC 5 gZ fE) fun hU=>
 B1 (aC 5 jz fE) fun mb=>
 B2 (cf gO [hU,mb] fE) fun v57 lT=>
 B1 (fW .not v57) fun v59=>
 dW fK gO kH jM fO v59 lT) (fun eD dV iX gx fL fY fI=>
 CD fY (
 some ((.bool false),fI)) (
 xZ eD dV iX gx fL fI))))) (fun jI jY lG kV pT mn=>
 B1 (bW pT (.int .i64 1)) fun jO=>
 jg jI jY lG kV jO mn)) (
 aR  br)
noncomputable def Ht (J:JT) (G:GT) (cf:CF) (aR:K.Fn 0):K.Fn 5:=dT P an J G cf 38 [1,1,0,1,0,0] [1,2,15,16,17] (fun q t H=>match Nat.beq q 0 with | true=>app 0 aR (ax [] t) H | false=>(fun _ _ _=>none) q t H)
theorem af6 (J:JT) (G:GT) (cf:CF) (aR:K.Fn 0) (jg:K.Fn 5) (aF aM bB aI aE:AV) (br:Hp):kT P an J G cf 38 [1,1,0,1,0,0] [1,2,15,16,17] (fun q t H=>match Nat.beq q 0 with | true=>app 0 aR (ax [] t) H | false=>(fun _ _ _=>none) q t H) jg [aF,aM,bB,aI,aE] br=bl_slices_EqualFunc___flow_one___flow_one_flow_one_flow_one_ J G cf aR jg aF aM bB aI aE br:=by kernel_rfl
theorem Lv (cf:CF) (aR:K.Fn 0) (aF aM bB aI aE:AV) (br:Hp):Ht JN GO cf aR aF aM bB aI aE br=bl_slices_EqualFunc___flow_one___flow_one_flow_one_flow_one_ JN GO cf aR (Ht JN GO cf aR) aF aM bB aI aE br:=aa0 (b:=app 5 (Ht JN GO cf aR) [aF,aM,bB,aI,aE] br) (by kernel_rfl) ((ey cf _ _ _ _ [aF,aM,bB,aI,aE] rfl br).trans (af6 JN GO cf aR _ aF aM bB aI aE br))
noncomputable def Kr (J:JT) (G:GT) (cf:CF) (a0 a1 a2:AV) (H:Hp):R:=
 J 3 (fun j0=>
 J 4 (fun j1=>
 B1 (aV a0) fun v2=>
 B1 (aV a1) fun v3=>
 B1 (gy v2 v3) fun v4=>
 j1 a0 a1 a2 v4 H) (fun x5 x6 x7 x8 h9=>
 CD x8 (
 some ((.bool false),h9)) (
 j0 x5 x6 x7 h9))) (fun cq bL bA eZ=>
 J 0 (fun bR=>
 B1 (aV cq) fun ei=>
 J 0 (fun aR=>
 Ht J G cf aR bL bA cq ei (.int .i64 0) eZ) (fun  yZ=>
 bR  yZ)) (fun  oJ=>
 some ((.bool true),oJ)))
theorem abM (J:JT) (G:GT) (cf:CF) (a0 a1 a2:AV) (H:Hp):fG P J G aU an cf 38 [a0,a1,a2] H=Kr J G cf a0 a1 a2 H:=by kernel_rfl
theorem SY {a0 a1 a2:AV} {H:Hp} {r:AV × Hp} (h:Kr JN GO cK a0 a1 a2 H=some r):cK (.func (.func 38) [] []) [a0,a1,a2] H=some r:=aT (first:=[]) (cap:=[]) ((abM JN GO _ a0 a1 a2 H).trans h)
noncomputable def bl_slices_Equal___keys_Entry_keys_Entry_ (J:JT) (G:GT) (cf:CF) (bR:K.Fn 0) (fZ:K.Fn 4) (aZ bh aF aM:AV) (cx:Hp):R:=
 B1 (cJ aM aF) fun v21=>
 CD v21 (
 J 4 (fun rR=>
 J 5 (fun ef=>
 B1 (ia 3 aZ aM) fun v24=>
 B1 (aC 3 v24 cx) fun v25=>
 B1 (ia 3 bh aM) fun v26=>
 B1 (aC 3 v26 cx) fun v27=>
 sS (gA P .neq 82 false v25 v27) <| B1 (eS P .neq 82 v25 v27 cx) fun v28=>
 ef aZ bh aF aM v28 cx) (fun cP bY bO eB cH fQ=>
 CD cH (
 some ((.bool false),fQ)) (
 rR cP bY bO eB fQ))) (fun dh bQ bT bV jj=>
 B1 (bW bV (.int .i64 1)) fun v40=>
 fZ dh bQ bT v40 jj)) (
 bR  cx)
noncomputable def DV (J:JT) (G:GT) (cf:CF) (bR:K.Fn 0):K.Fn 4:=dT P an J G cf 39 [1,1,0,1,0,0] [0,1,12,13] (fun q t H=>match Nat.beq q 0 with | true=>app 0 bR (ax [] t) H | false=>(fun _ _ _=>none) q t H)
theorem Zf (cf:CF) (bR:K.Fn 0) (aZ bh aF aM:AV) (cx:Hp):DV JN GO cf bR aZ bh aF aM cx=bl_slices_Equal___keys_Entry_keys_Entry_ JN GO cf bR (DV JN GO cf bR) aZ bh aF aM cx:=aa0 (b:=app 4 (DV JN GO cf bR) [aZ,bh,aF,aM] cx) (by kernel_rfl) ((ey cf 39 [1,1,0,1,0,0] [0,1,12,13] _ [aZ,bh,aF,aM] rfl cx).trans (by kernel_rfl))
noncomputable def Wc (J:JT) (G:GT) (cf:CF) (a0 a1:AV) (H:Hp):R:=
 J 2 (fun j0=>
 J 3 (fun j1=>
 B1 (aV a0) fun v2=>
 B1 (aV a1) fun v3=>
 B1 (gy v2 v3) fun v4=>
 j1 a0 a1 v4 H) (fun x5 x6 x7 h8=>
 CD x7 (
 some ((.bool false),h8)) (
 j0 x5 x6 h8))) (fun x9 cq fM=>
 J 0 (fun cg=>
 B1 (aV x9) fun dN=>
 J 0 (fun bR=>
 DV J G cf bR x9 cq dN (.int .i64 0) fM) (fun  fP=>
 cg  fP)) (fun  ez=>
 some ((.bool true),ez)))
theorem ab5 {a0 a1:AV} {H:Hp} {r:AV × Hp} (h:Wc JN GO cK a0 a1 H=some r):cK (.func (.func 39) [] []) [a0,a1] H=some r:=aT (first:=[]) (cap:=[]) (aa0 (by kernel_rfl) h)
noncomputable def Ri (J:JT) (G:GT) (cf:CF) (a0:AV) (H:Hp):R:=
 sS (gA P .eql 64 true a0 .ah) <| B1 (eS P .eql 64 a0 .ah H) fun v0=>
 CD v0 (
 some (.ah,H)) (
 B1 (fl [] []) fun l1=>
 BN (aL H l1 77 0) fun i2 h3=>
 B2 (gC 77 5 [.ah,(.int .i64 0),.ah,.ah,(.str [])] false (.slice i2 0 0 0 true 5) a0 h3) fun v4 h5=>
 some (v4,h5))
theorem UQ {a0:AV} {H:Hp} {r:AV × Hp} (h:Ri JN GO cK a0 H=some r):cK (.func (.func 31) [] []) [a0] H=some r:=aT (first:=[]) (cap:=[]) (aa0 (by kernel_rfl) h)
noncomputable def Lu (J:JT) (G:GT) (cf:CF) (a0:AV) (H:Hp):R:=
 BN (bx 26 a0 H) fun i0 h1=>
 B1 (fa 5 (.ptr i0 0)) fun v2=>
 B1 (ld v2 h1) fun v3=>
 B1 (lens v3) fun v4=>
 B1 (lQ v4 (.int .i64 40)) fun v5=>
 G v5 false (fun k6=>
 B1 (fa 6 (.ptr i0 0)) fun v7=>
 k6 v7 h1) (fun v8 h9=>
 G v5 false (fun uw=>
 B1 (ld v8 h9) fun v11=>
 uw v11 h9) (fun v12 eZ=>
 G v5 false (fun Aq=>
 B1 (lens v12) fun ei=>
 Aq ei eZ) (fun dH dQ=>
 G v5 false (fun Hu=>
 B1 (lQ dH (.int .i64 40)) fun eN=>
 Hu eN dQ) (fun v20 kc=>
 B1 (pk v5 (.bool true) v20) fun v22=>
 G v22 false (fun Rh=>
 B1 (fa 7 (.ptr i0 0)) fun v24=>
 Rh v24 kc) (fun v25 er=>
 G v22 false (fun MS=>
 B1 (ld v25 er) fun v28=>
 MS v28 er) (fun v29 kO=>
 G v22 false (fun uR=>
 B1 (lens v29) fun v32=>
 uR v32 kO) (fun eO fQ=>
 G v22 false (fun rT=>
 B1 (lQ eO (.int .i64 950)) fun v36=>
 rT v36 fQ) (fun v37 eT=>
 B1 (pk v22 (.bool true) v37) fun eQ=>
 some (eQ,eT)) fQ) kO) er) kc) dQ) eZ) h9) h1
theorem Rj {a0:AV} {H:Hp} {r:AV × Hp} (h:Lu JN GO cK a0 H=some r):cK (.func (.func 12) [] []) [a0] H=some r:=aT (first:=[]) (cap:=[]) (aa0 (by kernel_rfl) h)
noncomputable def bl_flow_Flow_Clone (J:JT) (G:GT) (cf:CF) (dW:K.Fn 1) (q8:K.Fn 4) (df dD dJ db:AV) (mA:Hp):R:=
 B1 (cJ db dJ) fun nX=>
 CD nX (
 J 4 (fun PR=>
 B1 (ia 3 dD db) fun v63=>
 B1 (aC 3 v63 mA) fun v64=>
 BN (aL mA [(.str []),(.str []),(.int .i64 0)] 82 0) fun i65 fI=>
 B1 (st 3 (.ptr i65 0) v64 fI) fun nh=>
 B1 (aW df) fun mZ=>
 B1 (fa 4 mZ) fun lO=>
 B1 (ld lO nh) fun v70=>
 B1 (fa 0 (.ptr i65 0)) fun ng=>
 B1 (aC 2 ng nh) fun v72=>
 B1 (fa 2 (.ptr i65 0)) fun jO=>
 B1 (ld jO nh) fun jq=>
 B2 (cf (.func (.func 33) [] []) [v70,v72,jq] nh) fun v75 mw=>
 PR df dD dJ db mw) (fun ft ff pn nK sU=>
 B1 (bW nK (.int .i64 1)) fun oq=>
 q8 ft ff pn oq sU)) (
 dW df mA)
noncomputable def HL (J:JT) (G:GT) (cf:CF) (dW:K.Fn 1):K.Fn 4:=dT P an J G cf 14 [1,1,1,1,1,1,0,1,0,0] [3,52,53,54] (fun q t H=>match Nat.beq q 2 with | true=>app 1 dW (ax [3] t) H | false=>(fun _ _ _=>none) q t H)
theorem ahf (J:JT) (G:GT) (cf:CF) (dW:K.Fn 1) (q8:K.Fn 4) (df dD dJ db:AV) (mA:Hp):kT P an J G cf 14 [1,1,1,1,1,1,0,1,0,0] [3,52,53,54] (fun q t H=>match Nat.beq q 2 with | true=>app 1 dW (ax [3] t) H | false=>(fun _ _ _=>none) q t H) q8 [df,dD,dJ,db] mA=bl_flow_Flow_Clone J G cf dW q8 df dD dJ db mA:=by kernel_rfl
theorem VQ (cf:CF) (dW:K.Fn 1) (df dD dJ db:AV) (mA:Hp):HL JN GO cf dW df dD dJ db mA=bl_flow_Flow_Clone JN GO cf dW (HL JN GO cf dW) df dD dJ db mA:=aa0 (b:=app 4 (HL JN GO cf dW) [df,dD,dJ,db] mA) (by kernel_rfl) ((ey cf _ _ _ _ [df,dD,dJ,db] rfl mA).trans (ahf JN GO cf dW _ df dD dJ db mA))
noncomputable def OC (J:JT) (G:GT) (cf:CF) (a0:AV) (H:Hp):R:=
 B2 (cf (.func (.func 18) [] []) [] H) fun v0 h1=>
 J 2 (fun j2=>
 B1 (aW a0) fun v3=>
 B1 (fa 0 v3) fun v4=>
 B1 (ld v4 h1) fun v5=>
 B1 (aW v0) fun v6=>
 B1 (fa 0 v6) fun v7=>
 B1 (st 1 v7 v5 h1) fun h8=>
 j2 a0 v0 h8) (fun x9 cq fM=>
 J 2 (fun cg=>
 B1 (aW x9) fun dN=>
 B1 (fa 1 dN) fun cL=>
 B1 (ld cL fM) fun ei=>
 B2 (cf (.func (.func 30) [] []) [ei] fM) fun dH dQ=>
 B1 (aW cq) fun dA=>
 B1 (fa 1 dA) fun eN=>
 B1 (st 1 eN dH dQ) fun cx=>
 cg x9 cq cx) (fun aI aE br=>
 J 2 (fun DQ=>
 B1 (C7 2 aE aI br) fun dU=>
 DQ aI aE dU) (fun cO cB gF=>
 J 2 (fun vh=>
 B1 (aW cO) fun v30=>
 B1 (fa 3 v30) fun v31=>
 B1 (ld v31 gF) fun v32=>
 B2 (cf (.func (.func 31) [] []) [v32] gF) fun eO fQ=>
 B1 (aW cB) fun v35=>
 B1 (fa 3 v35) fun v36=>
 B1 (st 1 v36 eO fQ) fun iB=>
 vh cO cB iB) (fun bV dm nO=>
 J 1 (fun Q8=>
 J 4 (fun j42=>
 B1 (aW bV) fun iS=>
 B1 (fa 4 iS) fun v44=>
 B1 (ld v44 nO) fun fh=>
 B2 (cf (.func (.func 32) [] []) [fh] nO) fun v46 kB=>
 B1 (aV v46) fun gk=>
 j42 dm v46 gk (.int .i64 0) kB) (fun jz kH jM fO fE=>
 J 1 (fun dW=>
 HL J G cf dW jz kH jM fO fE) (fun mT rp=>
 Q8 mT rp))) (fun pH Ae=>
 some (pH,Ae))))))
theorem anG (J:JT) (G:GT) (cf:CF) (a0:AV) (H:Hp):fG P J G aU an cf 14 [a0] H=OC J G cf a0 H:=by kernel_rfl
theorem adz {a0:AV} {H:Hp} {r:AV × Hp} (h:OC JN GO cK a0 H=some r):cK (.func (.func 14) [] []) [a0] H=some r:=aT (first:=[]) (cap:=[]) ((anG JN GO _ a0 H).trans h)
noncomputable def bl_outriderlaw18_FlowApart (J:JT) (G:GT) (cf:CF) (gH:K.Fn 2) (iC:K.Fn 3) (cP bY bO:AV) (cU:Hp):R:=
 B1 (aV cP) fun eO=>
 B1 (cJ bO eO) fun eA=>
 CD eA (
 J 3 (fun dI=>
 J 4 (fun vE=>
 B1 (ia 8 cP bO) fun v37=>
 B1 (aC 8 v37 cU) fun lf=>
 B2 (cf (.func (.func 12) [] []) [lf] cU) fun eQ nO=>
 vE cP bY bO eQ nO) (fun dS eK dX gD jX=>
 CD gD (
 some ((.bool true),jX)) (
 dI dS eK dX jX))) (fun fK gO gZ oL=>
 B1 (bW gZ (.int .i64 1)) fun jw=>
 iC fK gO jw oL)) (
 gH cP bY cU)
noncomputable def Cv (J:JT) (G:GT) (cf:CF) (gH:K.Fn 2):K.Fn 3:=dT P an J G cf 3 [1,1,1,0,1,0,0] [0,1,5] (fun q t H=>match Nat.beq q 0 with | true=>app 2 gH (ax [0,1] t) H | false=>(fun _ _ _=>none) q t H)
theorem ag7 (J:JT) (G:GT) (cf:CF) (gH:K.Fn 2) (iC:K.Fn 3) (cP bY bO:AV) (cU:Hp):kT P an J G cf 3 [1,1,1,0,1,0,0] [0,1,5] (fun q t H=>match Nat.beq q 0 with | true=>app 2 gH (ax [0,1] t) H | false=>(fun _ _ _=>none) q t H) iC [cP,bY,bO] cU=bl_outriderlaw18_FlowApart J G cf gH iC cP bY bO cU:=by kernel_rfl
theorem KC (cf:CF) (gH:K.Fn 2) (cP bY bO:AV) (cU:Hp):Cv JN GO cf gH cP bY bO cU=bl_outriderlaw18_FlowApart JN GO cf gH (Cv JN GO cf gH) cP bY bO cU:=aa0 (b:=app 3 (Cv JN GO cf gH) [cP,bY,bO] cU) (by kernel_rfl) ((ey cf _ _ _ _ [cP,bY,bO] rfl cU).trans (ag7 JN GO cf gH _ cP bY bO cU))
noncomputable def bl_outriderlaw18_FlowApart1 (J:JT) (G:GT) (cf:CF) (mK:K.Fn 2) (QP:K.Fn 5) (ku lW xh Cp nE:AV) (qP:Hp):R:=
 B1 (aV ku) fun v107=>
 B1 (cJ nE v107) fun xy=>
 CD xy (
 J 5 (fun aln=>
 J 5 (fun abv=>
 J 6 (fun Ih=>
 B1 (ia 8 ku nE) fun xM=>
 B1 (aC 8 xM qP) fun vM=>
 B2 (cf (.func (.func 12) [] []) [vM] qP) fun rN CO=>
 Ih ku lW xh Cp nE rN CO) (fun AK wY vF uz su rP Y1=>
 CD rP (
 some ((.bool true),Y1)) (
 abv AK wY vF uz su Y1))) (fun wD Ap El ja iT Ba=>
 B1 (ia 8 wD iT) fun N0=>
 B1 (aC 8 N0 Ba) fun v130=>
 B2 (cf (.func (.func 16) [] []) [ja,v130] Ba) fun v131 Bv=>
 aln wD Ap El ja iT Bv)) (fun uI uU qd qK vg Co=>
 B1 (bW vg (.int .i64 1)) fun v139=>
 QP uI uU qd qK v139 Co)) (
 mK lW xh qP)
noncomputable def Cc (J:JT) (G:GT) (cf:CF) (mK:K.Fn 2):K.Fn 5:=dT P an J G cf 3 [1,1,1,1,1,1,1,0,1,0,0] [1,6,7,8,9] (fun q t H=>match Nat.beq q 2 with | true=>app 2 mK (ax [6,7] t) H | false=>(fun _ _ _=>none) q t H)
theorem JS (cf:CF) (mK:K.Fn 2) (ku lW xh Cp nE:AV) (qP:Hp):Cc JN GO cf mK ku lW xh Cp nE qP=bl_outriderlaw18_FlowApart1 JN GO cf mK (Cc JN GO cf mK) ku lW xh Cp nE qP:=aa0 (b:=app 5 (Cc JN GO cf mK) [ku,lW,xh,Cp,nE] qP) (by kernel_rfl) ((ey cf 3 [1,1,1,1,1,1,1,0,1,0,0] [1,6,7,8,9] _ [ku,lW,xh,Cp,nE] rfl qP).trans (by kernel_rfl))
noncomputable def AZ (J:JT) (G:GT) (cf:CF) (a0 a1:AV) (H:Hp):R:=
 B2 (cf (.func (.func 11) [] []) [] H) fun v0 h1=>
 B1 (fW .not v0) fun v2=>
 CD v2 (
 some ((.bool false),h1)) (
 J 2 (fun j3=>
 J 3 (fun j4=>
 B1 (aV a0) fun v5=>
 B1 (lQ v5 (.int .i64 30)) fun v6=>
 G v6 false (fun k7=>
 k7 a1 h1) (fun v8 h9=>
 G v6 false (fun uw=>
 B1 (aV v8) fun v11=>
 uw v11 h9) (fun v12 eZ=>
 G v6 false (fun Aq=>
 B1 (lQ v12 (.int .i64 20)) fun ei=>
 Aq ei eZ) (fun dH dQ=>
 B1 (pk v6 (.bool true) dH) fun dA=>
 j4 a0 a1 dA dQ) eZ) h9) h1) (fun aM bB aI jc=>
 CD aI (
 some ((.bool true),jc)) (
 j3 aM bB jc))) (fun bp bI dU=>
 J 2 (fun xK=>
 J 2 (fun gH=>
 Cv J G cf gH bp bI (.int .i64 0) dU) (fun jM fO fE=>
 xK jM fO fE)) (fun ie fH ou=>
 J 3 (fun Fl=>
 B2 (cf (.func (.func 13) [] []) [ie] ou) fun kL wo=>
 B2 (cf (.func (.func 13) [] []) [ie] wo) fun gL iL=>
 Fl fH kL gL iL) (fun iX gx fL lM=>
 B2 (cf (.func (.func 14) [] []) [gx] lM) fun jG nh=>
 J 4 (fun Ek=>
 J 5 (fun BM=>
 B1 (AJ .eql (pe jG .fB nh)) fun v70=>
 G v70 false (fun Lz=>
 Lz jG nh) (fun v72 Bj=>
 G v70 false (fun k74=>
 k74 gx Bj) (fun v75 mw=>
 G v70 false (fun Eh=>
 B2 (cf (.func (.func 15) [] []) [v72,v75] mw) fun tw hZ=>
 Eh tw hZ) (fun v80 sU=>
 G v70 false (fun k82=>
 B1 (fW .not v80) fun oC=>
 k82 oC sU) (fun zM pK=>
 B1 (pk v70 (.bool true) zM) fun wB=>
 BM iX gx fL jG wB pK) sU) mw) Bj) nh) (fun sr nj yd Gv CM tG=>
 CD CM (
 some ((.bool false),tG)) (
 Ek sr nj yd Gv tG))) (fun qu oK pA qN th=>
 J 2 (fun LB=>
 J 2 (fun mK=>
 Cc J G cf mK qu oK pA qN (.int .i64 0) th) (fun Nc EF ajV=>
 LB Nc EF ajV)) (fun Pu Fk ajw=>
 B2 (cf (.func (.func 15) [] []) [Pu,Fk] ajw) fun v146 LH=>
 some (v146,LH)))))))
theorem anU (J:JT) (G:GT) (cf:CF) (a0 a1:AV) (H:Hp):fG P J G aU an cf 3 [a0,a1] H=AZ J G cf a0 a1 H:=by kernel_rfl
theorem HE {a0 a1:AV} {H:Hp} {r:AV × Hp} (h:AZ JN GO cK a0 a1 H=some r):cK (.func (.func 3) [] []) [a0,a1] H=some r:=aT (first:=[]) (cap:=[]) ((anU JN GO _ a0 a1 H).trans h)
end
noncomputable section
end
namespace Cw
noncomputable section
def cAt:List Nat->Code->Code
 | [],c=>c
 | 0::p,.seq a _=>cAt p a
 | _::p,.seq _ b=>cAt p b
 | _::p,.block _ b=>cAt p b
 | _::p,.loop b=>cAt p b
 | _::_,c=>c
def opsOf:Code->Array Oper
 | .region _ ops _=>ops
 | _ => #[]
def body:Code:=((P.funcs[14]?).bind (·.body)).getD .skip
def cc:Code:=cAt [1,1,1,1,0] body
def o1:Array Oper:=opsOf (cAt [0] cc)
def lb:Code:=cAt [1,0,0] cc
def o2:Array Oper:=opsOf (cAt [0] lb)
def o3:Array Oper:=opsOf (cAt [1,1,0,0] lb)
def o4:Array Oper:=opsOf (cAt [1,1,0,1] lb)
theorem body_eq:body = .seq (cAt [0] body) (.seq (cAt [1,0] body) (.seq (cAt [1,1,0] body) (.seq (cAt [1,1,1,0] body) (.seq cc (cAt [1,1,1,1,1] body))))):=by kernel_rfl
theorem cc_eq:∃ i1 i2 i3 i4,cc = .seq (.region i1 o1 false) (.block 0 (.loop (.seq (.region i2 o2 false) (.seq (.cond (.tmp 30) .skip (.exit 0)) (.block 1 (.seq (.region i3 o3 false) (.region i4 o4 false))))))):=⟨4,5,6,7,by kernel_rfl⟩
theorem s1:o1.size=5:=by kernel_rfl
theorem s2:o2.size=2:=by kernel_rfl
theorem s3:o3.size=5:=by kernel_rfl
theorem s4:o4.size=7:=by kernel_rfl
end
section
variable (f c it p k v x y:AV)
abbrev A0:Tm:=cY 69 [0,3] [f,c]
abbrev A1:Tm:=(A0 f c).put 34 24 f
abbrev A2:Tm:=(A1 f c).put 34 25 f
abbrev A3:Tm:=(A2 f c).put 34 26 p
abbrev A4:Tm:=(A3 f c p).put 34 27 v
abbrev A5:Tm:=(A4 f c p v).put 34 28 it
abbrev tL:Tm:=cY 69 [0,3,28] [f,c,it]
abbrev B1':Tm:=(tL f c it).put 34 29 x
abbrev B2' (b:Bool):Tm:=(B1' f c it x).put 34 30 (.bool b)
abbrev C1:Tm:=(B2' f c it x true).put 34 31 y
abbrev C2:Tm:=(C1 f c it x y).put 34 32 k
abbrev C3:Tm:=(C2 f c it k x y).put 34 33 v
abbrev C4:Tm:=(C3 f c it k v x y).put 34 4 k
abbrev C5:Tm:=(C4 f c it k v x y).put 34 5 v
abbrev D1:Tm:=(C5 f c it k v x y).put 34 34 c
abbrev D2:Tm:=(D1 f c it k v x y).put 34 35 c
abbrev D3:Tm:=(D2 f c it k v x y).put 34 36 p
abbrev D4 (m:AV):Tm:=(D3 f c it p k v x y).put 34 37 m
abbrev D5 (m:AV):Tm:=(D4 f c it p k v x y m).put 34 38 k
abbrev D6 (m:AV):Tm:=(D5 f c it p k v x y m).put 34 39 v
end
def At (H:Hp) (cm fm q:Nat) (l:List ME) (Hx:Hp):Prop:=Hx.next=H.next+1/\∀ i,Hx.h.get i=if i=fm then none else if i=cm then some (.map (jR q l) (q+l.length)) else H.h.get i
theorem hno:rC P ig:=fun g args H v H' h=>by cases h
theorem get_i {ops:Array Oper} {n i:Nat} (h:ops.size=n) (hi:i<n):ops[i]? = some (ops[i]'(by omega)):=aeC _
section
variable {F:Nat->Prop} {W:World} {e e':Em} {H H':Hp} {w w':World} {G:Nat}
theorem back {F':Nat->Prop} (hR:RH G F W e H w) (h:RH G F' w e' H' w') (hF:∀ k,F k->F' k):RH G F W e' H' w':=
 h.DU (fun k hk=>⟨(h.frame k (hF k hk)).1,(h.frame k (hF k hk)).2.trans (hR.frame k hk).2⟩) (fun i o hi hw q=>(h.obj i o hi).2.choose_spec.2.2 hw (hF _ q)) (h.os.trans hR.os) (h.tape.trans hR.tape) (h.output.trans hR.output) (afo hR.size h.size)
theorem fwd {F':Nat->Prop} (hR:RH G F W e H w) (h1:∀ k,F' k->k<w.heap.size) (h2:∀ i o,H.h.get i=some o->wr o=true\/e.n G<=e.b i->¬ F' (e.b i)):RH G F' w e H w:=
 hR.DU (fun k hk=>⟨h1 k hk,rfl⟩) h2 rfl rfl rfl (abe _)
end
theorem fwd3 {F:Nat->Prop} {W:World} {e:Em} {H:Hp} {w:World} {G r s:Nat} (hR:RH G F W e H w) (hr:r<w.heap.size) (hs:s<w.heap.size) (h:∀ i o,H.h.get i=some o->e.b i≠r/\e.b i≠s):RH G (fun k=>F k\/k=r\/k=s) w e H w:=by
 refine fwd hR (fun k hk => ?_) fun i o hi hw hq => ?_
 ·rcases hk with hk | rfl | rfl
  ·exact (hR.frame k hk).1
  ·exact hr
  ·exact hs
 ·rcases hq with hq | hq | hq
  ·exact (hR.obj i o hi).2.choose_spec.2.2 hw hq
  ·exact (h i o hi).1 hq
  ·exact (h i o hi).2 hq
theorem mem_zip {α β:Type}:∀ {a:List α} {b:List β} {y:β},b.length=a.length->y∈b->∃ x,(x,y)∈a.zip b
 | [],[],y,_,h=>by cases h
 | [],_::_,y,h,_=>by simp at h
 | x::a,[],y,h,_=>by simp at h
 | x::a,z::b,y,h,hy=>by
  rcases abn.1 hy with rfl | hy
  ·exact⟨x,.head _⟩
  ·obtain⟨u,hu⟩:=mem_zip (a:=a) (b:=b) (by simpa using h) hy
   exact⟨u,.tail _ hu⟩
theorem map_fst_zip {α β:Type}:∀ {a:List α} {b:List β},b.length=a.length->(a.zip b).map (·.1)=a/\(a.zip b).map (·.2)=b
 | [],[],_=>⟨rfl,rfl⟩
 | [],_::_,h=>by simp at h
 | x::a,[],h=>by simp at h
 | x::a,z::b,h=>by
  obtain⟨h1,h2⟩:=map_fst_zip (a:=a) (b:=b) (by simpa using h)
  exact⟨by rw[List.zip_cons_cons,acJ,h1],by rw[List.zip_cons_cons,acJ,h2]⟩
theorem mapUpd_eq:P.underlying 63=some (.map 9 9):=by kernel_rfl
theorem kt_eq:rj P 9=some .str:=by kernel_rfl
theorem mup_at {H:Hp} {i c:Nat} {es:List ME} {k:List Nat} (h:H.h.get i=some (.map es c)) (hk:∀ e∈es,∃ q,e.key = .str q/\q≠k) (v:AV):nu P 63 (.map i) (.str k) v H=some (Am.setObj H i (.map (es++[⟨.str k,v,c⟩]) (c+1))):=by
 refine Q0 mapUpd_eq kt_eq ?_
 unfold tn
 simp only[h,Lo es 0 hk]
theorem fin {G:Nat} {F:Nat->Prop} {W:World} {e:Em} {H Hx:Hp} {w:World} {cm fm q z c0:Nat} {es L:List ME} {fs:List MapEntry} {nC:Array MapEntry} (hR:RH G F W e Hx w) (hA:At H cm fm q L Hx) (hp:L.Perm es) (aH:cm≠fm) (g1:H.h.get cm=some (.map [] q)) (g2:H.h.get fm=some (.map es z)) (hf:fm<e.N) (hb:w.heap[e.b fm]? = some (.map nC c0))
  (Bl:fs.Perm nC.toList) (hM:gK e es fs) (hn:(fs.map (·.born)).Nodup) (hbr:∀ x∈fs,x.born<c0) (hF:¬ F (e.b fm)) (sV:∀ i o,Hx.h.get i=some o->e.b i≠e.b fm):RH G F W e ⟨H.h.bX cm (.map (jR q es) (q+es.length)),H.next+1⟩ w:=by
 have eG:∀ i o,(H.h.bX cm (.map (jR q es) (q+es.length))).get i=some o->(i=fm/\o = .map es z)\/(i=cm/\i≠fm/\o = .map (jR q es) (q+es.length)/\Hx.h.get i=some (.map (jR q L) (q+L.length)))\/(i≠fm/\i≠cm/\Hx.h.get i=some o):=by
  intro i o hi
  rw[Tr.yw _ _ _ _ (by rw[g1];rfl)] at hi
  have hx:=hA.2 i
  by_cases h1:i=fm
  ·left
   rw[if_neg (by rw[h1];exact fun q=>aH q.symm),h1,g2] at hi
   exact⟨h1,(acy hi).symm⟩
  ·right
   rw[if_neg h1] at hx
   by_cases h2:i=cm
   ·left
    rw[if_pos h2] at hi hx
    exact⟨h2,h1,(acy hi).symm,hx⟩
   ·right
    rw[if_neg h2] at hi hx
    exact⟨h1,h2,hx.trans hi⟩
 have hdom:∀ i o,(H.h.bX cm (.map (jR q es) (q+es.length))).get i=some o->i≠fm->∃ o',Hx.h.get i=some o'/\wr o'=wr o:=by
  intro i o hi hf'
  rcases eG i o hi with⟨h1,_⟩ | ⟨_,_,rfl,h3⟩ | ⟨_,_,h3⟩
  ·exact absurd h1 hf'
  ·exact⟨_,h3,rfl⟩
  ·exact⟨_,h3,rfl⟩
 refine⟨hR.N.trans hA.1,fun i o hi => ?_,fun i j oi oj hi hj hw he => ?_,hR.pf,hR.frame,hR.os,hR.tape,hR.output,hR.size,hR.kE⟩
 ·rcases eG i o hi with⟨rfl,rfl⟩ | ⟨_,_,rfl,h3⟩ | ⟨_,_,h3⟩
  ·exact⟨hf,_,hb,.map _ _ _ _ fs Bl hM hn hbr,fun _=>hF⟩
  ·obtain⟨h4,ob,h5,h6,h7⟩:=hR.obj i _ h3
   refine⟨h4,ob,h5,?_,h7⟩
   cases h6 with
   | map _ _ es1 c1 fs1 hp1 hM1 kg Ns=>
   obtain⟨fs2,k1,k2⟩:=gK.perm hp ((RN q).1 hM1)
   exact .map _ _ _ _ fs2 (k1.trans hp1) ((RN q).2 k2) ((k1.map _).nodup_iff.2 kg) fun x hx=>Ns x (k1.mem_iff.1 hx)
  ·exact hR.obj i o h3
 ·by_cases h1:i=fm<;>by_cases h2:j=fm
  ·exact h1.trans h2.symm
  ·obtain⟨o',h3,_⟩:=hdom j oj hj h2
   exact absurd (he.symm.trans (by rw[h1])) (sV j o' h3)
  ·obtain⟨o',h3,_⟩:=hdom i oi hi h1
   exact absurd (he.trans (by rw[h2])) (sV i o' h3)
  ·obtain⟨o',h3,h4⟩:=hdom i oi hi h1
   obtain⟨o'',h5,_⟩:=hdom j oj hj h2
   exact hR.inj i j _ _ h3 h5 (by rw[h4];exact hw) he
set_option maxHeartbeats 8000000 in
theorem copyOne:Xg P 69 cc [0,3] (MD 2 3 0):=by
 intro t H H2 hp F W e a w Q hR hT hQ
 obtain⟨ci,co,fi,fo,cm,fm,q,es,z,hc,hf,l1,l2,g1,g2,hs,aH,rfl⟩:=ad8 hp
 have hv:ax [0,3] t=[.ptr fi fo,.ptr ci co]:=by
  show[tg t 0,tg t 3]=_
  rw[hf,hc]
 have hT0:=hT.sD (lv:=[0,3]) (by decide)
 rw[hv] at hT0
 simp only[hv] at hQ
 obtain⟨i1,i2,i3,i4,ik⟩:=cc_eq
 rw[ik]
 clear ik hv hT hp
 refine wp_seq (wp_region ?_)
 rw[s1,show List.range 5=[0,1,2,3,4] from rfl]
 refine ot hno (get_i s1 (i:=0) (by decide)) (by kernel_rfl) (v := .ptr fi fo) (H':=H) (t':=A1 (.ptr fi fo) (.ptr ci co)) (by kernel_rfl) (by kernel_rfl) hR hT0 fun e1 a1 w1 le1 oO qI gr => ?_
 refine ot hno (get_i s1 (i:=1) (by decide)) (by kernel_rfl) (v := .ptr fi fo) (H':=H) (t':=A2 (.ptr fi fo) (.ptr ci co)) (by kernel_rfl) (by kernel_rfl) oO qI fun e2 a2 w2 le2 gJ mF qg => ?_
 refine ot hno (get_i s1 (i:=2) (by decide)) (by kernel_rfl) (v := .ptr fi (fo+2)) (H':=H) (t':=A3 (.ptr fi fo) (.ptr ci co) (.ptr fi (fo+2))) (by kernel_rfl) (by kernel_rfl) gJ mF fun e3 a3 w3 le3 qt uq vV => ?_
 have hl:oU P ig (A3 (.ptr fi fo) (.ptr ci co) (.ptr fi (fo+2))) (o1[3]'(by rw[s1];decide)) H=(cellAt H fi (fo+2)).map (fun v=>(v,H)):=by kernel_rfl
 rw[l2] at hl
 refine ot hno (get_i s1 (i:=3) (by decide)) (by kernel_rfl) (v := .map fm) (H':=H) (t':=A4 (.ptr fi fo) (.ptr ci co) (.ptr fi (fo+2)) (.map fm)) hl (by kernel_rfl) qt uq fun e4 a4 w4 le4 kY yt hd4 => ?_
 clear hl
 have le04:=Em.le_trans (Em.le_trans (Em.le_trans le1 le2) le3) le4
 have hd04:=hd4.trans (vV.trans (qg.trans gr))
 clear hR oO gJ qt hT0 qI mF uq le1 le2 le3 le4 gr qg vV hd4
 have hm:=VR.ev kY yt.1 (.tmp 27)
 rw[show ev P.globals.size (A4 (.ptr fi fo) (.ptr ci co) (.ptr fi (fo+2)) (.map fm)) (.tmp 27) = .map fm from by kernel_rfl] at hm
 obtain⟨Kn,hm27⟩:=hm.C8
 obtain⟨_,ob,hb,eg,hnF⟩:=kY.obj fm _ g2
 have hnF:=hnF (.inl rfl)
 cases eg with
 | map _ _ nC c0 fs Bl hM hn hbr=>
 have hold:∀ x∈nC.toList,x.born<c0:=fun x hx=>hbr x (Bl.mem_iff.2 hx)
 have gQ:(nC.toList.map (·.born)).Nodup:=(Bl.map _).nodup_iff.1 hn
 obtain⟨e5,le5,i5,b5,d5,zk⟩:=kY.new (o := .sI (some fm) c0 [] c0) (i:=H.next) (H':=⟨H.h.put 34 H.next (.sI (some fm) c0 [] c0),H.next+1⟩) rfl (ob := .mapIter (some (e4.b fm)) c0 #[] c0) (fun e' hle hd=>by
  rw[<- (hle.2 fm Kn).1];exact .sI fm c0 [] c0 (ac8 Kn hle.1) hd)
 refine KY (get_i s1 (i:=4) (by decide)) (by kernel_rfl) (v' := .pointer (some ⟨w4.heap.size,0,none⟩)) (w':=w4.alloc (.mapIter (some (e4.b fm)) c0 #[] c0)) (adk (ty:=63) (x := .tmp 27) (by kernel_rfl) (by rw[hm27];exact run_range_map w4 _ _ _ _ nC c0 mapUpd_eq hb)) ?_
 have hT5:=((yt.mono le5).put (dst:=some 28) (v := .ptr H.next 0) (t':=A5 (.ptr fi fo) (.ptr ci co) (.ptr H.next 0) (.ptr fi (fo+2)) (.map fm)) (by kernel_rfl) (VR.NC b5 i5 d5)).sD (lv:=[0,3,28]) (by decide)
 rw[show ax [0,3,28] (A5 (.ptr fi fo) (.ptr ci co) (.ptr H.next 0) (.ptr fi (fo+2)) (.map fm))=[.ptr fi fo,.ptr ci co,.ptr H.next 0] from by kernel_rfl] at hT5
 have PY:(o1[4]'(by rw[s1];decide)).dst=some 28:=by kernel_rfl
 rw[PY]
 have zk:RH P.globals.size F W e5 ⟨H.h.put 34 H.next (.sI (some fm) c0 [] c0),H.next+1⟩ (w4.alloc (.mapIter (some (e4.b fm)) c0 #[] c0)):=zk
 generalize hw5:w4.alloc (.mapIter (some (e4.b fm)) c0 #[] c0)=w5 at *
 have Br:(a4.put (some 28) (.pointer (some ⟨w4.heap.size,0,none⟩))).defers=a.defers:=hd04
 generalize a4.put (some 28) (.pointer (some ⟨w4.heap.size,0,none⟩))=a5 at *
 have hN4:e4.N=H.next:=kY.N
 have fu:∀ i,i<H.next->e5.b i=e4.b i:=fun i hi=>(le5.2 i (by omega)).1
 have hgN:H.h.get H.next=none:=by
  cases hq:H.h.get H.next with
  | none=>rfl
  | some o=>have:=(kY.obj H.next o hq).1;omega
 have aQ:∀ i o,H.h.get i=some o->i<H.next/\e4.b i<w4.heap.size:=fun i o hi=>by
  obtain⟨h1,oZ,h2,_⟩:=kY.obj i o hi
  exact⟨by omega,(ab6.1 h2).1⟩
 have SZ:e4.b fm<w4.heap.size:=(aQ fm _ g2).2
 have vc:fm<H.next:=(aQ fm _ g2).1
 have hAt:At H cm fm q [] ⟨((H.h.put 34 H.next (.sI (some fm) c0 [] c0)).del H.next).del fm,H.next+1⟩:=by
  refine⟨rfl,fun i => ?_⟩
  show (((H.h.put 34 H.next (.sI (some fm) c0 [] c0)).del H.next).del fm).get i=_
  rw[Tr.GZ,Tr.GZ,Tr.put,Tr.fj]
  by_cases h1:i=fm
  ·rw[if_pos h1,if_pos h1]
  rw[if_neg h1,if_neg h1]
  by_cases h2:i=H.next
  ·rw[if_pos h2]
   have h3:i≠cm:=fun q=>by have:=(aQ cm _ g1).1;omega
   rw[if_neg h3,h2,hgN]
  rw[if_neg h2,if_neg h2]
  by_cases h3:i=cm
  ·rw[if_pos h3,h3,g1];rfl
  ·rw[if_neg h3]
 have hR5x:=(zk.del H.next).del fm
 have hit5:w5.heap[e5.b H.next]? = some (.mapIter (some (e5.b fm)) c0 #[] c0):=by
  rw[b5,fu fm vc,<-hw5];exact heap_alloc_new _ _
 have hmp5:w5.heap[e5.b fm]? = some (.map nC c0):=by
  rw[fu fm vc,<-hw5,heap_alloc_old _ _ SZ];exact hb
 have hsep5:∀ i o,((((H.h.put 34 H.next (.sI (some fm) c0 [] c0)).del H.next).del fm).get i=some o)->e5.b i≠e5.b H.next/\e5.b i≠e5.b fm:=by
  intro i o hi
  rw[hAt.2 i] at hi
  have jh:i≠fm/\∃ o',H.h.get i=some o':=by
   split at hi
   ·cases hi
   ·rename_i h1
    refine⟨h1,?_⟩
    split at hi
    ·rename_i h2;exact⟨_,h2▸g1⟩
    ·exact⟨o,hi⟩
  obtain⟨h1,o',h2⟩:=jh
  obtain⟨h3,h4⟩:=aQ i o' h2
  rw[b5,fu i h3,fu fm vc]
  refine⟨by omega,fun q=>h1 ((kY.inj fm i _ o' g2 h2 (.inl rfl) q.symm).symm)⟩
 have hFit:¬ F (e5.b H.next):=fun q=>by rw[b5] at q;have:=(kY.frame _ q).1;omega
 have hFfm:¬ F (e5.b fm):=by rw[fu fm vc];exact hnF
 have yz:e5.b fm≠e5.b H.next:=by rw[b5,fu fm vc];omega
 have Ej:=map_fst_zip (a:=es) (b:=fs) hM.1
 have hVR5:∀ x∈es.zip fs,VR e5 x.1.key x.2.key/\VR e5 x.1.val x.2.val:=by
  intro x hx
  obtain⟨i,hi⟩:=List.mem_iff_getElem?.1 hx
  rw[List.getElem?_zip_eq_some] at hi
  obtain⟨h1,h2⟩:=hM.2 i x.1 x.2 hi.1 hi.2
  exact⟨h1.mono le5,h2.mono le5⟩
 have lu:cellAt H ci (co+2)=some (.map cm):=l1
 have hci:ci≠cm/\ci≠fm:=by
  unfold cellAt at lu
  refine⟨fun q => ?_,fun q => ?_⟩
  ·rw[q,g1] at lu;cases lu
  ·rw[q,g2] at lu;cases lu
 obtain⟨hpw,hks⟩:=ZP hs
 show (Code.block 0 _).wp P Q a5 w5
 refine wp_block (P1 ?_)
 clear kY yt hm hm27 hb hnF zk hw5 hd04 fu hN4
 have le0:=Em.le_trans le04 le5
 clear le04 le5 b5 SZ aQ
 have key:∀ (n:Nat) (rest done:List (ME × MapEntry)) (seen:Array Nat) (e5:Em) (a5:Act) (w5:World) (Hx:Hp),rest.length=n->(es.zip fs).Perm (done++rest)->seen.toList=done.map (·.2.born)->At H cm fm q (done.map (·.1)) Hx->RH P.globals.size F W e5 Hx w5->lZ e5 69 (tL (.ptr fi fo) (.ptr ci co) (.ptr H.next 0)) a5->a5.defers=a.defers->e.le e5->
   w5.heap[e5.b H.next]? = some (.mapIter (some (e5.b fm)) c0 seen c0)->w5.heap[e5.b fm]? = some (.map nC c0)->(∀ i o,Hx.h.get i=some o->e5.b i≠e5.b H.next/\e5.b i≠e5.b fm)->¬ F (e5.b H.next)->¬ F (e5.b fm)->e5.b fm≠e5.b H.next->(∀ x∈es.zip fs,VR e5 x.1.key x.2.key/\VR e5 x.1.val x.2.val)->e5.d H.next=0->H.next<e5.N->fm<e5.N->
   xd P (.seq (.region i2 o2 false) (.seq (.cond (.tmp 30) .skip (.exit 0)) (.block 1 (.seq (.region i3 o3 false) (.region i4 o4 false))))) (Exit.inBlock 0 Q) a5 w5:=by
  intro n
  induction n using Nat.strongRecOn with
  | ind n ih=>
  intro rest done seen e5 a5 w5 Hx hlen lI hseen hAt hR hT hd le hit hmp sV hFit hFfm yz hVR Be zf hfN
  have hJ:e5.b H.next<w5.heap.size:=(ab6.1 hit).1
  have ll:e5.b fm<w5.heap.size:=(ab6.1 hmp).1
  have lr:((done++rest).map (·.2.born)).Nodup:=by
   have:((es.zip fs).map (·.2.born)).Nodup:=by
    rw[show (fun x:ME × MapEntry=>x.2.born)=(fun y:MapEntry=>y.born) ∘ (fun x:ME × MapEntry=>x.2) from rfl,<-aiB,Ej.2];exact hn
   exact (lI.map _).nodup_iff.1 this
  refine PV (wp_seq (wp_region ?_))
  rw[s2,show List.range 2=[0,1] from rfl]
  have hv28:=VR.ev hR hT.1 (.tmp 28)
  rw[show ev P.globals.size (tL (.ptr fi fo) (.ptr ci co) (.ptr H.next 0)) (.tmp 28) = .ptr H.next 0 from by kernel_rfl] at hv28
  obtain⟨o,_,ho,hv28⟩:=hv28.p8
  have AS:o=0:=by rw[Be] at ho;omega
  subst AS
  have hop0:(o2[0]'(by rw[s2];decide)).op = .next (.tmp 28) false:=by kernel_rfl
  have hdst0:(o2[0]'(by rw[s2];decide)).dst=some 29:=by kernel_rfl
  rcases ahQ (P:=P) w5 (o2[0]'(by rw[s2];decide)).type (e5.b H.next) (e5.b fm) c0 seen nC hit hmp hold with⟨h0,iV⟩ | ⟨x,hx,nn,iV⟩
  ·refine KY (get_i s2 (i:=0) (by decide)) (by kernel_rfl) (Z0 hop0 (by rw[hv28];exact iV)) ?_
   rw[hdst0]
   have hRf:=fwd3 hR hJ ll sV
   have qI:=hT.put (dst:=some 29) (v := .tuple [.bool false]) (t':=B1' (.ptr fi fo) (.ptr ci co) (.ptr H.next 0) (.tuple [.bool false])) (by kernel_rfl) (VR.tuple' (aP.cons (.bool false) (aP.nil e5)))
   refine ot hno (get_i s2 (i:=1) (by decide)) (by kernel_rfl) (v := .bool false) (H':=Hx) (t':=B2' (.ptr fi fo) (.ptr ci co) (.ptr H.next 0) (.tuple [.bool false]) false) (by kernel_rfl) (by kernel_rfl) hRf qI fun e6 a6 w6 le6 hR6 AY BT => ?_
   show (Code.seq _ _).wp P _ a6 w6
   have hb30:=VR.ev hR6 AY.1 (.tmp 30)
   rw[show ev P.globals.size (B2' (.ptr fi fo) (.ptr ci co) (.ptr H.next 0) (.tuple [.bool false]) false) (.tmp 30) = .bool false from by kernel_rfl] at hb30
   refine wp_seq (wp_cond_false hb30.so (wp_exit ?_))
   show (if 0=0 then Q .normal a6 w6 else Q (.exit 0) a6 w6)
   rw[if_pos rfl]
   have hrest:rest=[]:=by
    cases hr:rest with
    | nil=>rfl
    | cons y r=>
     exfalso
     have hy:y∈es.zip fs:=lI.mem_iff.2 (by rw[hr];simp)
     have hy1:y.2∈nC.toList:=Bl.mem_iff.1 (List.of_mem_zip hy).2
     have hy2:y.2.born∉seen.toList:=by
      rw[hseen]
      rw[adu,aem] at lr
      exact fun q=>lr.2.2 _ q _ (by rw[hr];simp) rfl
     have hy3:y.2∈(leftOf nC seen).toList:=by
      unfold leftOf
      rw[Array.toList_filter,List.mem_filter]
      refine⟨hy1,?_⟩
      rw[ain]
      cases hc:seen.contains y.2.born with
      | false=>rfl
      | true=>exact absurd (by simpa using hc) hy2
     have:(leftOf nC seen).toList.length=0:=by simpa using h0
     rw[List.length_eq_zero_iff] at this
     rw[this] at hy3;cases hy3
   subst hrest
   rw[agh] at lI
   have hbf:e6.b fm=e5.b fm:=(le6.2 fm hfN).1
   have hRx:=back hR hR6 fun k hk => .inl hk
   have hT7:=AY.sD (lv:=[0,3]) (by decide)
   rw[show ax [0,3] (B2' (.ptr fi fo) (.ptr ci co) (.ptr H.next 0) (.tuple [.bool false]) false)=[.ptr fi fo,.ptr ci co] from by kernel_rfl] at hT7
   refine hQ e6 a6 w6 (Em.le_trans le le6) (fin hRx hAt ?_ aH g1 g2 (ac8 hfN le6.1) ?_ Bl ⟨hM.1,fun i m m' h1 h2 => ?_⟩ hn hbr (by rw[hbf];exact hFfm) fun i o hi => ?_) hT7 (BT.trans hd)
   ·have:=(lI.map (·.1)).symm
    rw[Ej.1] at this
    exact this
   ·rw[hbf,(hR6.frame _ (.inr (.inr rfl))).2];exact hmp
   ·have hz:=hVR (m,m') (List.mem_iff_getElem?.2 ⟨i,by rw[List.getElem?_zip_eq_some];exact⟨h1,h2⟩⟩)
    exact⟨hz.1.mono le6,hz.2.mono le6⟩
   ·rw[(le6.2 i (hR.obj i o hi).1).1,hbf]
    exact (sV i o hi).2
  ·have eC:=mem_left hx
   have kR:x∈nC.toList:=eC.1
   have nQ:x.born∉seen.toList:=by
    have:=eC.2
    intro q
    simp at this q
    exact this q
   obtain⟨m,hmx⟩:=mem_zip hM.1 (Bl.mem_iff.2 kR)
   have hmr:(m,x)∈rest:=by
    rcases abP.1 (lI.mem_iff.1 hmx) with h | h
    ·exact absurd (by rw[hseen];exact acI.2 ⟨_,h,rfl⟩) nQ
    ·exact h
   obtain⟨r1,r2,hr⟩:=List.append_of_mem hmr
   obtain⟨k,hk⟩:=hks m (List.of_mem_zip hmx).1
   obtain⟨vk,vv⟩:=hVR _ hmx
   simp only at vk vv
   refine KY (get_i s2 (i:=0) (by decide)) (by kernel_rfl) (Z0 hop0 (by rw[hv28];exact iV)) ?_
   rw[hdst0]
   have oO:=hR.agd (.mapIter (some (e5.b fm)) c0 (seen.push x.born) c0) hFit (fun i o hi=>(sV i o hi).1) nn
   generalize xI:({ w5 with drawn:=nn,heap:=w5.heap.setIfInBounds (e5.b H.next) (.mapIter (some (e5.b fm)) c0 (seen.push x.born) c0) }:World)=w1 at *
   have hit1:w1.heap[e5.b H.next]? = some (.mapIter (some (e5.b fm)) c0 (seen.push x.born) c0):=by rw[<-xI];exact afd hJ
   have hmp1:w1.heap[e5.b fm]? = some (.map nC c0):=by rw[<-xI];show (w5.heap.setIfInBounds _ _)[_]? = _;rw[adP yz.symm];exact hmp
   have hbl1:e5.b H.next<w1.heap.size:=(ab6.1 hit1).1
   have IF:e5.b fm<w1.heap.size:=(ab6.1 hmp1).1
   have hRf:=fwd3 oO hbl1 IF sV
   have qI:=hT.put (dst:=some 29) (v := .tuple [.bool true,m.key,m.val]) (t':=B1' (.ptr fi fo) (.ptr ci co) (.ptr H.next 0) (.tuple [.bool true,m.key,m.val])) (by kernel_rfl) (VR.tuple' (aP.cons (.bool true) (aP.cons vk (aP.cons vv (aP.nil e5)))))
   refine ot hno (get_i s2 (i:=1) (by decide)) (by kernel_rfl) (v := .bool true) (H':=Hx) (t':=B2' (.ptr fi fo) (.ptr ci co) (.ptr H.next 0) (.tuple [.bool true,m.key,m.val]) true) (by kernel_rfl) (by kernel_rfl) hRf qI fun e2 a2 w2 le2 gJ mF qg => ?_
   show (Code.seq _ _).wp P _ a2 w2
   have hb30:=VR.ev gJ mF.1 (.tmp 30)
   rw[show ev P.globals.size (B2' (.ptr fi fo) (.ptr ci co) (.ptr H.next 0) (.tuple [.bool true,m.key,m.val]) true) (.tmp 30) = .bool true from by kernel_rfl] at hb30
   refine wp_seq (wp_cond_true hb30.so (wp_skip ?_))
   show (Code.block 1 _).wp P _ a2 w2
   refine wp_block (wp_seq (wp_region ?_))
   rw[s3,show List.range 5=[0,1,2,3,4] from rfl]
   have hv28':=VR.ev gJ mF.1 (.tmp 28)
   rw[show ev P.globals.size (B2' (.ptr fi fo) (.ptr ci co) (.ptr H.next 0) (.tuple [.bool true,m.key,m.val]) true) (.tmp 28) = .ptr H.next 0 from by kernel_rfl] at hv28'
   obtain⟨o',_,fA,hv28'⟩:=hv28'.p8
   have hbi2:=le2.2 H.next zf
   have hbf2:=le2.2 fm hfN
   have AS:o'=0:=by rw[hbi2.2.1,Be] at fA;omega
   subst AS
   have Gq:(o3[0]'(by rw[s3];decide)).op = .entry (.tmp 28):=by kernel_rfl
   have hdst3:(o3[0]'(by rw[s3];decide)).dst=some 31:=by kernel_rfl
   have hit2:w2.heap[e5.b H.next]? = some (.mapIter (some (e5.b fm)) c0 (seen.push x.born) c0):=(gJ.frame _ (.inr (.inl rfl))).2.trans hit1
   have hmp2:w2.heap[e5.b fm]? = some (.map nC c0):=(gJ.frame _ (.inr (.inr rfl))).2.trans hmp1
   refine KY (get_i s3 (i:=0) (by decide)) (by kernel_rfl) (aia Gq (by rw[hv28',hbi2.1];exact acO w2 _ _ c0 seen nC x hit2 hmp2 kR gQ)) ?_
   rw[hdst3]
   have uq:=mF.put (dst:=some 31) (v := .tuple [m.key,m.val]) (t':=C1 (.ptr fi fo) (.ptr ci co) (.ptr H.next 0) (.tuple [.bool true,m.key,m.val]) (.tuple [m.key,m.val])) (by kernel_rfl) (VR.tuple' (aP.cons (vk.mono le2) (aP.cons (vv.mono le2) (aP.nil e2))))
   have vV:(a2.put (some 31) (.tuple #[x.key,x.val])).defers=a.defers:=qg.trans hd
   generalize hX:AV.tuple [.bool true,m.key,m.val]=X at *
   refine ot hno (get_i s3 (i:=1) (by decide)) (by kernel_rfl) (v:=m.key) (H':=Hx) (t':=C2 (.ptr fi fo) (.ptr ci co) (.ptr H.next 0) m.key X (.tuple [m.key,m.val])) (by kernel_rfl) (by kernel_rfl) gJ uq fun e3 a3 w3 le3 qt yt hd4 => ?_
   refine ot hno (get_i s3 (i:=2) (by decide)) (by kernel_rfl) (v:=m.val) (H':=Hx) (t':=C3 (.ptr fi fo) (.ptr ci co) (.ptr H.next 0) m.key m.val X (.tuple [m.key,m.val])) (by kernel_rfl) (by kernel_rfl) qt yt fun e4 a4 w4 le4 kY hT5 Br => ?_
   refine ot hno (get_i s3 (i:=3) (by decide)) (by kernel_rfl) (v:=m.key) (H':=Hx) (t':=C4 (.ptr fi fo) (.ptr ci co) (.ptr H.next 0) m.key m.val X (.tuple [m.key,m.val])) (by kernel_rfl) (by kernel_rfl) kY hT5 fun e6 a6 w6 le6 hR6 AY BT => ?_
   refine ot hno (get_i s3 (i:=4) (by decide)) (by kernel_rfl) (v:=m.val) (H':=Hx) (t':=C5 (.ptr fi fo) (.ptr ci co) (.ptr H.next 0) m.key m.val X (.tuple [m.key,m.val])) (by kernel_rfl) (by kernel_rfl) hR6 AY fun e7 a7 w7 le7 hR7 hT7 hd7 => ?_
   have le27:=Em.le_trans le2 (Em.le_trans le3 (Em.le_trans le4 (Em.le_trans le6 le7)))
   have hd37:=hd7.trans (BT.trans (Br.trans (hd4.trans vV)))
   clear gJ qt kY hR6 qI mF uq yt hT5 AY le3 le4 le6 le7 qg vV hd4 Br BT hd7 hb30 hv28'
   show (Code.region i4 o4 false).wp P _ a7 w7
   refine wp_region ?_
   rw[s4,show List.range 7=[0,1,2,3,4,5,6] from rfl]
   generalize AV.tuple [m.key,m.val]=Y at *
   refine ot hno (get_i s4 (i:=0) (by decide)) (by kernel_rfl) (v := .ptr ci co) (H':=Hx) (t':=D1 (.ptr fi fo) (.ptr ci co) (.ptr H.next 0) m.key m.val X Y) (by kernel_rfl) (by kernel_rfl) hR7 hT7 fun e8 a8 w8 le8 hR8 hT8 hd8 => ?_
   refine ot hno (get_i s4 (i:=1) (by decide)) (by kernel_rfl) (v := .ptr ci co) (H':=Hx) (t':=D2 (.ptr fi fo) (.ptr ci co) (.ptr H.next 0) m.key m.val X Y) (by kernel_rfl) (by kernel_rfl) hR8 hT8 fun e9 a9 w9 le9 hR9 hT9 hd9 => ?_
   refine ot hno (get_i s4 (i:=2) (by decide)) (by kernel_rfl) (v := .ptr ci (co+2)) (H':=Hx) (t':=D3 (.ptr fi fo) (.ptr ci co) (.ptr H.next 0) (.ptr ci (co+2)) m.key m.val X Y) (by kernel_rfl) (by kernel_rfl) hR9 hT9 fun ea aa wa lea hRa hTa hda => ?_
   have hl:oU P ig (D3 (.ptr fi fo) (.ptr ci co) (.ptr H.next 0) (.ptr ci (co+2)) m.key m.val X Y) (o4[3]'(by rw[s4];decide)) Hx=(cellAt Hx ci (co+2)).map (fun v=>(v,Hx)):=by kernel_rfl
   have AW:cellAt Hx ci (co+2)=some (.map cm):=by
    have hg:=hAt.2 ci
    rw[if_neg hci.2,if_neg hci.1] at hg
    unfold cellAt at lu ⊢
    rw[hg];exact lu
   rw[AW] at hl
   refine ot hno (get_i s4 (i:=3) (by decide)) (by kernel_rfl) (v := .map cm) (H':=Hx) (t':=D4 (.ptr fi fo) (.ptr ci co) (.ptr H.next 0) (.ptr ci (co+2)) m.key m.val X Y (.map cm)) hl (by kernel_rfl) hRa hTa fun eb ab wb leb hRb hTb hdb => ?_
   refine ot hno (get_i s4 (i:=4) (by decide)) (by kernel_rfl) (v:=m.key) (H':=Hx) (t':=D5 (.ptr fi fo) (.ptr ci co) (.ptr H.next 0) (.ptr ci (co+2)) m.key m.val X Y (.map cm)) (by kernel_rfl) (by kernel_rfl) hRb hTb fun ec ac wc lec hRc hTc hdc => ?_
   refine ot hno (get_i s4 (i:=5) (by decide)) (by kernel_rfl) (v:=m.val) (H':=Hx) (t':=D6 (.ptr fi fo) (.ptr ci co) (.ptr H.next 0) (.ptr ci (co+2)) m.key m.val X Y (.map cm)) (by kernel_rfl) (by kernel_rfl) hRc hTc fun ed ad wd led hRd hTd JJ => ?_
   have Cq:Hx.h.get cm=some (.map (jR q (done.map (·.1))) (q+(done.map (·.1)).length)):=by
    have hg:=hAt.2 cm
    rw[if_neg aH,if_pos rfl] at hg
    exact hg
   have xb:(done++rest).Pairwise (fun a b=>BC a.1 b.1):=by
    refine (lI.pairwise_iff (fun {a b} h=>h.symm)).1 ?_
    have:((es.zip fs).map (·.1)).Pairwise BC:=by rw[Ej.1];exact hpw
    rw[List.pairwise_map] at this
    exact this
   have hmu:=mup_at (k:=k) Cq (fun y hy=>by
    obtain⟨u,hu,rm⟩:=Ua _ _ _ hy
    obtain⟨d,gr,rfl⟩:=acI.1 hu
    rw[List.pairwise_append] at xb
    obtain⟨k1,k2,h1,h2,h3⟩:=xb.2.2 d gr (m,x) hmr
    rw[rm]
    refine⟨k1,h1,fun q=>h3 ?_⟩
    rw[q]
    have:=h2.symm.trans hk
    exact AV.str.inj this) m.val
   have hl6:oU P ig (D6 (.ptr fi fo) (.ptr ci co) (.ptr H.next 0) (.ptr ci (co+2)) m.key m.val X Y (.map cm)) (o4[6]'(by rw[s4];decide)) Hx=(nu P 63 (.map cm) m.key m.val Hx).map (fun H=>(bS,H)):=by kernel_rfl
   rw[hk,hmu] at hl6
   rw[<-hk] at hl6
   refine ot hno (get_i s4 (i:=6) (by decide)) (by kernel_rfl) (v:=bS) (H':=Am.setObj Hx cm (.map (jR q (done.map (·.1))++[⟨.str k,m.val,q+(done.map (·.1)).length⟩]) (q+(done.map (·.1)).length+1))) (t':=D6 (.ptr fi fo) (.ptr ci co) (.ptr H.next 0) (.ptr ci (co+2)) m.key m.val X Y (.map cm)) (by rw[<-hk];exact hl6) (by kernel_rfl) hRd hTd fun ee ae we lee hRe hTe hde => ?_
   show xd P _ _ ae we
   have leT:=Em.le_trans le27 (Em.le_trans le8 (Em.le_trans le9 (Em.le_trans lea (Em.le_trans leb (Em.le_trans lec (Em.le_trans led lee))))))
   have hdT:=hde.trans (JJ.trans (hdc.trans (hdb.trans (hda.trans (hd9.trans (hd8.trans hd37))))))
   have hTk:=hTe.sD (lv:=[0,3,28]) (by decide)
   rw[show ax [0,3,28] (D6 (.ptr fi fo) (.ptr ci co) (.ptr H.next 0) (.ptr ci (co+2)) m.key m.val X Y (.map cm))=[.ptr fi fo,.ptr ci co,.ptr H.next 0] from by kernel_rfl] at hTk
   have Al:=leT.2 H.next zf
   have hbf:=leT.2 fm hfN
   have hRn:=back oO hRe fun k hk => .inl hk
   have hfr1:=(hRe.frame _ (.inr (.inl rfl))).2
   have hfr2:=(hRe.frame _ (.inr (.inr rfl))).2
   have hAt':At H cm fm q ((done++[(m,x)]).map (·.1)) (Am.setObj Hx cm (.map (jR q (done.map (·.1))++[⟨.str k,m.val,q+(done.map (·.1)).length⟩]) (q+(done.map (·.1)).length+1))):=by
    refine⟨hAt.1,fun i => ?_⟩
    show (Hx.h.bX cm _).get i=_
    rw[Tr.yw _ _ _ _ (by rw[Cq];rfl),hAt.2 i]
    by_cases h1:i=cm
    ·rw[if_pos h1,if_neg (by rw[h1];exact aH),if_pos h1,adu,acJ,List.map_nil,Xh,aby,hk];rfl
    ·simp only[if_neg h1]
   refine ih (r1++r2).length (by rw[<-hlen,hr];simp) (r1++r2) (done++[(m,x)]) (seen.push x.born) ee ae we _ rfl ?_ ?_ hAt' hRn hTk hdT (Em.le_trans le leT) ?_ ?_ (fun i o hi => ?_) ?_ ?_ ?_ (fun y hy => ?_) ?_ (ac8 zf leT.1) (ac8 hfN leT.1)
   ·refine lI.trans ?_
    rw[hr,aea]
    refine (List.perm_append_left_iff done).2 ?_
    exact aiY
   ·rw[Array.toList_push,hseen,adu];rfl
   ·rw[Al.1,hbf.1,hfr1];exact hit1
   ·rw[hbf.1,hfr2];exact hmp1
   ·have hdm:∃ o',Hx.h.get i=some o':=by
     have h1:(Hx.h.bX cm _).get i=some o:=hi
     rw[Tr.yw _ _ _ _ (by rw[Cq];rfl)] at h1
     split at h1
     ·rename_i h2;exact⟨_,h2▸Cq⟩
     ·exact⟨o,h1⟩
    obtain⟨o',fA⟩:=hdm
    rw[(leT.2 i (oO.obj i o' fA).1).1,Al.1,hbf.1]
    exact sV i o' fA
   ·rw[Al.1];exact hFit
   ·rw[hbf.1];exact hFfm
   ·rw[Al.1,hbf.1];exact yz
   ·exact⟨(hVR y hy).1.mono leT,(hVR y hy).2.mono leT⟩
   ·rw[Al.2.1];exact Be
 exact key _ (es.zip fs) [] #[] e5 a5 w5 _ rfl (List.Perm.refl _) rfl hAt hR5x hT5 Br le0 hit5 hmp5 hsep5 hFit hFfm yz hVR5 d5 i5 (Nat.lt_trans vc i5)
end Cw
end Go.Proofs.YtodfajmihkagnaaGreatDoor.DfK
