/- Laws that the proof uses. -/
import Derived.Test.YtodfajmihkagnaaGreatDoorTrimWalk
set_option linter.unusedVariables false
set_option maxRecDepth 100000
namespace Go.Proofs.YtodfajmihkagnaaGreatDoor.DfK
open Go Am Am.K lN
noncomputable section
noncomputable def Z1 (J:JT)(G:GT)(cf:CF)(a0:AV)(H:Hp):R:=
 J 0 (fun j0=>
 B1 (cl a0 (.int .i64 1)) fun v1=>
 CD v1 (
 some ((.str [77,68]),H)) (
 B1 (cl a0 (.int .i64 2)) fun v2=>
 CD v2 (
 some ((.str [82,77,75]),H)) (
 J 2 (fun j3=>
 B1 (cl a0 (.int .i64 3)) fun v4=>
 CD v4 (
 j3 a0 v4 H) (
 B1 (cl a0 (.int .i64 5)) fun v5=>
 j3 a0 v5 H)) (fun x6 x7 h8=>
 CD x7 (
 some ((.str [82,84,89]),h8)) (
 B1 (cl x6 (.int .i64 4)) fun v9=>
 CD v9 (
 some ((.str [82,84,89,68]),h8)) (
 J 2 (fun aX=>
 B1 (cl x6 (.int .i64 6)) fun v11=>
 CD v11 (
 aX x6 v11 h8) (
 B1 (cl x6 (.int .i64 9)) fun v12=>
 aX x6 v12 h8)) (fun br bH gY=>
 CD bH (
 some ((.str [78]),gY)) (
 B1 (cl br (.int .i64 7)) fun dN=>
 CD dN (
 some ((.str [82,77]),gY)) (
 B1 (cl br (.int .i64 8)) fun fG=>
 CD fG (
 some ((.str [82]),gY)) (
 j0  gY)))))))))) (fun  ik=>
 some ((.str []),ik))
theorem awA {a0:AV}{H:Hp}{r:AV × Hp}(h:Z1 JN GO cK a0 H=some r):cK (.func (.func 48) [] []) [a0] H=some r:=aO (first:=[]) (cap:=[]) (aaK (by kernel_rfl) h)
noncomputable def adj (J:JT)(G:GT)(cf:CF)(a0 a1 a2:AV)(H:Hp):R:=
 B1 (mH a0 a1) fun v0=>
 G v0 true (fun k1=>
 k1 a0 H) (fun v2 h3=>
 G v0 true (fun k4=>
 k4 a2 h3) (fun v5 h6=>
 G v0 true (fun k7=>
 B1 (oJ v2 v5) fun v8=>
 k7 v8 h6) (fun v9 cL=>
 B1 (pk v0 v9 (.bool false)) fun v11=>
 some (v11,cL)) h6) h3) H
theorem ako {a0 a1 a2:AV}{H:Hp}{r:AV × Hp}(h:adj JN GO cK a0 a1 a2 H=some r):cK (.func (.func 87) [] []) [a0,a1,a2] H=some r:=aO (first:=[]) (cap:=[]) (aaK (by kernel_rfl) h)
noncomputable def RC (J:JT)(G:GT)(cf:CF)(a0 a1:AV)(H:Hp):R:=
 BN (bx 26 a0 H) fun i0 h1=>
 J 1 (fun j2=>
 B1 (cl a1 (.int .i32 82)) fun v3=>
 CD v3 (
 B1 (fa 1 (.ptr i0 0)) fun v4=>
 B1 (ld v4 h1) fun v5=>
 B2 (cf (.func (.func 87) [] []) [v5,(.int .i64 1),(.int .i64 64)] h1) fun v6 h7=>
 some (v6,h7)) (
 B1 (cl a1 (.int .i32 84)) fun v8=>
 CD v8 (
 B1 (fa 2 (.ptr i0 0)) fun v9=>
 B1 (ld v9 h1) fun v10=>
 B2 (cf (.func (.func 87) [] []) [v10,(.int .i64 0),(.int .i64 15)] h1) fun v11 di=>
 some (v11,di)) (
 B1 (cl a1 (.int .i32 89)) fun dV=>
 CD dV (
 B1 (fa 3 (.ptr i0 0)) fun cN=>
 B1 (ld cN h1) fun dZ=>
 B2 (cf (.func (.func 87) [] []) [dZ,(.int .i64 1),(.int .i64 9)] h1) fun dN dO=>
 some (dN,dO)) (
 B1 (cl a1 (.int .i32 78)) fun dA=>
 CD dA (
 J 2 (fun cF=>
 B1 (fa 0 (.ptr i0 0)) fun v20=>
 B1 (ld v20 h1) fun v21=>
 B1 (cl v21 (.int .i64 9)) fun v22=>
 CD v22 (
 cF (.ptr i0 0) (.int .i64 1048575) h1) (
 cF (.ptr i0 0) (.int .i64 1099511627776) h1)) (fun bp bM dP=>
 B1 (fa 4 bp) fun v26=>
 B1 (ld v26 dP) fun v27=>
 B1 (mH v27 (.int .i64 1)) fun v28=>
 G v28 true (fun IM=>
 B1 (fa 4 bp) fun v30=>
 IM v30 dP) (fun v31 cW=>
 G v28 true (fun Jd=>
 B1 (ld v31 cW) fun eC=>
 Jd eC cW) (fun v35 nL=>
 G v28 true (fun k37=>
 k37 bM nL) (fun iv kc=>
 G v28 true (fun Sp=>
 B1 (oJ v35 iv) fun v41=>
 Sp v41 kc) (fun eM Bq=>
 B1 (pk v28 eM (.bool false)) fun v44=>
 some (v44,Bq)) kc) nL) cW) dP)) (
 B1 (cl a1 (.int .i32 77)) fun eS=>
 CD eS (
 B1 (fa 5 (.ptr i0 0)) fun v46=>
 B1 (ld v46 h1) fun kD=>
 B2 (cf (.func (.func 54) [] []) [kD] h1) fun fS np=>
 some (fS,np)) (
 B1 (cl a1 (.int .i32 75)) fun fN=>
 CD fN (
 B1 (fa 6 (.ptr i0 0)) fun v51=>
 B1 (ld v51 h1) fun fI=>
 B1 (lens fI) fun v53=>
 B1 (oJ v53 (.int .i64 16)) fun iR=>
 some (iR,h1)) (
 j2 (.ptr i0 0) h1))))))) (fun fR oq=>
 J 1 (fun Ui=>
 B1 (fa 0 fR) fun nb=>
 B1 (ld nb oq) fun v59=>
 B1 (cl v59 (.int .i64 1)) fun fW=>
 CD fW (
 B1 (fa 7 fR) fun nQ=>
 B1 (ld nQ oq) fun iE=>
 B1 (lens iE) fun v63=>
 B1 (oJ v63 (.int .i64 900)) fun v64=>
 some (v64,oq)) (
 Ui fR oq)) (fun fO eI=>
 B1 (fa 7 fO) fun lX=>
 B1 (ld lX eI) fun nX=>
 B1 (lens nX) fun mT=>
 B1 (oJ mT (.int .i64 64)) fun v70=>
 some (v70,eI)))
theorem aio (J:JT)(G:GT)(cf:CF)(a0 a1:AV)(H:Hp):fB P J G aR an cf 52 [a0,a1] H=RC J G cf a0 a1 H:=by kernel_rfl
theorem aqy {a0 a1:AV}{H:Hp}{r:AV × Hp}(h:RC JN GO cK a0 a1 H=some r):cK (.func (.func 52) [] []) [a0,a1] H=some r:=aO (first:=[]) (cap:=[]) ((aio JN GO _ a0 a1 H).trans h)
noncomputable def wC (J:JT)(G:GT)(cf:CF)(cF:K.Fn 2)(aD:K.Fn 4)(aJ aE bp bM:AV)(dP:Hp):R:=
 B2 (ye bM true dP) fun v26 eX=>
 B1 (ex 0 v26) fun v28=>
 CD v28 (
 J 4 (fun Ax=>
 B1 (ex 2 v26) fun v30=>
 J 4 (fun db=>
 B1 (cl v30 (.int .i32 82)) fun v32=>
 CD v32 (
 B1 (fa 1 aJ) fun fC=>
 B1 (ld fC eX) fun eC=>
 B1 (fa 1 bp) fun v35=>
 B1 (st 1 v35 eC eX) fun nL=>
 db aJ aE bp bM nL) (
 B1 (cl v30 (.int .i32 84)) fun v37=>
 CD v37 (
 B1 (fa 2 aJ) fun iv=>
 B1 (ld iv eX) fun eJ=>
 B1 (fa 2 bp) fun v40=>
 B1 (st 1 v40 eJ eX) fun dH=>
 db aJ aE bp bM dH) (
 B1 (cl v30 (.int .i32 89)) fun eM=>
 CD eM (
 B1 (fa 3 aJ) fun jg=>
 B1 (ld jg eX) fun v44=>
 B1 (fa 3 bp) fun eS=>
 B1 (st 1 eS v44 eX) fun gV=>
 db aJ aE bp bM gV) (
 B1 (cl v30 (.int .i32 78)) fun kD=>
 CD kD (
 B1 (fa 4 aJ) fun fS=>
 B1 (ld fS eX) fun v49=>
 B1 (fa 4 bp) fun fN=>
 B1 (st 1 fN v49 eX) fun oa=>
 db aJ aE bp bM oa) (
 B1 (cl v30 (.int .i32 77)) fun fI=>
 CD fI (
 B1 (fa 5 aJ) fun v53=>
 B1 (ld v53 eX) fun iR=>
 B1 (fa 5 bp) fun gH=>
 B1 (st 1 gH iR eX) fun oq=>
 db aJ aE bp bM oq) (
 B1 (cl v30 (.int .i32 75)) fun v57=>
 CD v57 (
 B1 (fa 6 aJ) fun nb=>
 B1 (ld nb eX) fun v59=>
 B1 (fa 6 bp) fun fW=>
 B1 (st 1 fW v59 eX) fun jj=>
 db aJ aE bp bM jj) (
 B1 (cl v30 (.int .i32 68)) fun iE=>
 CD iE (
 B1 (fa 7 aJ) fun v63=>
 B1 (ld v63 eX) fun v64=>
 B1 (fa 7 bp) fun lB=>
 B1 (st 1 lB v64 eX) fun eI=>
 db aJ aE bp bM eI) (
 db aJ aE bp bM eX)))))))) (fun jf gU jz jO lZ=>
 Ax jf gU jz jO lZ)) (fun tS fU gT jX lf=>
 aD tS fU gT jX lf)) (
 cF aE bp eX)
noncomputable def EM (J:JT)(G:GT)(cf:CF)(cF:K.Fn 2):K.Fn 4:=dB P an J G cf 49 [1,1,0,1,0,0] [2,4,5,12] (fun q t H=>match Nat.beq q 0 with | true=>app 2 cF (aw [4,5] t) H | false=>(fun _ _ _=>none) q t H)
theorem ase (J:JT)(G:GT)(cf:CF)(cF:K.Fn 2)(aD:K.Fn 4)(aJ aE bp bM:AV)(dP:Hp):jb P an J G cf 49 [1,1,0,1,0,0] [2,4,5,12] (fun q t H=>match Nat.beq q 0 with | true=>app 2 cF (aw [4,5] t) H | false=>(fun _ _ _=>none) q t H) aD [aJ,aE,bp,bM] dP=wC J G cf cF aD aJ aE bp bM dP:=by kernel_rfl
theorem Ab (cf:CF)(cF:K.Fn 2)(aJ aE bp bM:AV)(dP:Hp):EM JN GO cf cF aJ aE bp bM dP=wC JN GO cf cF (EM JN GO cf cF) aJ aE bp bM dP:=aaK (b:=app 4 (EM JN GO cf cF) [aJ,aE,bp,bM] dP) (by kernel_rfl) ((dQ cf _ _ _ _ [aJ,aE,bp,bM] rfl dP).trans (ase JN GO cf cF _ aJ aE bp bM dP))
noncomputable def UM (J:JT)(G:GT)(cf:CF)(a0 a1:AV)(H:Hp):R:=
 BN (bx 26 a0 H) fun i0 h1=>
 BN (aC h1 [(.int .i64 0),(.int .i64 0),(.int .i64 0),(.int .i64 0),(.int .i64 0),(.str []),(.str []),(.str [])] 26 0) fun i2 h3=>
 J 4 (fun j4=>
 B1 (fa 0 (.ptr i0 0)) fun v5=>
 B1 (ld v5 h3) fun v6=>
 B1 (fl [(.int .i64 0),(.int .i64 0),(.int .i64 0),(.int .i64 0),(.int .i64 0),(.str []),(.str []),(.str [])] [(0,1,v6)]) fun l7=>
 BN (aC h3 [(.int .i64 0),(.int .i64 0),(.int .i64 0),(.int .i64 0),(.int .i64 0),(.str []),(.str []),(.str [])] 26 0) fun i8 h9=>
 B1 (st 8 (.ptr i8 0) (.agg l7) h9) fun cL=>
 j4 a1 (.ptr i0 0) (.ptr i2 0) (.ptr i8 0) cL) (fun bO bF br bH gY=>
 J 2 (fun aP=>
 B2 (zH P 9 bO gY) fun fG ik=>
 J 2 (fun cF=>
 EM J G cf cF bF br bH fG ik) (fun fQ fL iY=>
 aP fQ fL iY)) (fun qw sW uR=>
 B1 (az 8 sW uR) fun mX=>
 B1 (st 8 qw mX uR) fun qH=>
 B1 (az 8 qw qH) fun v85=>
 some (v85,qH)))
theorem aoE (J:JT)(G:GT)(cf:CF)(a0 a1:AV)(H:Hp):fB P J G aR an cf 49 [a0,a1] H=UM J G cf a0 a1 H:=by kernel_rfl
theorem apj {a0 a1:AV}{H:Hp}{r:AV × Hp}(h:UM JN GO cK a0 a1 H=some r):cK (.func (.func 49) [] []) [a0,a1] H=some r:=aO (first:=[]) (cap:=[]) ((aoE JN GO _ a0 a1 H).trans h)
noncomputable def Lp (J:JT)(G:GT)(cf:CF)(a0:AV)(H:Hp):R:=
 BN (bx 26 a0 H) fun i0 h1=>
 B1 (fa 0 (.ptr i0 0)) fun v2=>
 B1 (ld v2 h1) fun v3=>
 B2 (cf (.func (.func 48) [] []) [v3] h1) fun v4 h5=>
 B1 (qL v4 (.str [])) fun v6=>
 gZ v6 true (
 B1 (az 8 (.ptr i0 0) h5) fun v7=>
 B2 (cf (.func (.func 49) [] []) [v7,v4] h5) fun v8 h9=>
 B1 (az 8 (.ptr i0 0) h9) fun v10=>
 xc (gA P .eql 26 false v8 v10) <| B1 (fe P .eql 26 v8 v10 h9) fun v11=>
 gZ v11 true (
 B2 (cf (.func (.func 50) [] []) [v4,(.func (.func 51) [] [(.ptr i0 0)])] h9) fun v12 eR=>
 B1 (eu .not v12) fun cN=>
 B1 (az 8 (.ptr i0 0) h5) fun dZ=>
 SM v10 dZ <|
 some (cN,eR)) (
 B1 (az 8 (.ptr i0 0) h5) fun dN=>
 SM v10 dN <|
 some ((.bool false),h9))) (
 some ((.bool false),h5))
theorem PV {a0:AV}{H:Hp}{r:AV × Hp}(h:Lp JN GO cK a0 H=some r):cK (.func (.func 21) [] []) [a0] H=some r:=aO (first:=[]) (cap:=[]) (aaK (by kernel_rfl) h)
noncomputable def Zp (J:JT)(G:GT)(cf:CF)(a0 a1:AV)(H:Hp):R:=
 B1 (az 8 a1 H) fun v0=>
 B2 (cf (.func (.func 52) [] []) [v0,a0] H) fun v1 h2=>
 B1 (eu .not v1) fun v3=>
 some (v3,h2)
theorem aqn {a0 a1:AV}{H:Hp}{r:AV × Hp}(h:Zp JN GO cK a0 a1 H=some r):cK (.func (.func 51) [] [a1]) [a0] H=some r:=aO (first:=[]) (cap:=[a1]) (aaK (by kernel_rfl) h)
noncomputable def ada (J:JT)(G:GT)(cf:CF)(a0:AV)(H:Hp):R:=
 B2 (gS P .max #[3,3] [a0,(.int .i64 1)] H) fun v0 h1=>
 B2 (gS P .min #[3,3] [v0,(.int .i64 128)] h1) fun v2 h3=>
 BN (zW h3) fun i4 h5=>
 B1 (fl [(.int .i64 0),.jZ,.ae] [(0,1,v2),(1,1,(.map i4))]) fun l6=>
 BN (bx 136 (.agg l6) h5) fun i7 h8=>
 some ((.ptr i7 0),h8)
theorem akJ {a0:AV}{H:Hp}{r:AV × Hp}(h:ada JN GO cK a0 H=some r):cK (.func (.func 44) [] []) [a0] H=some r:=aO (first:=[]) (cap:=[]) (aaK (by kernel_rfl) h)
noncomputable def MO (J:JT)(G:GT)(cf:CF)(a0 a1 a2:AV)(H:Hp):R:=
 BN (bx 80 a1 H) fun i0 h1=>
 J 3 (fun j2=>
 J 5 (fun j3=>
 B1 (aT a0) fun v4=>
 B1 (fa 1 v4) fun v5=>
 B1 (ld v5 h1) fun v6=>
 B1 (az 2 (.ptr i0 0) h1) fun v7=>
 B1 (rH P 133 v6 v7 true h1) fun v8=>
 B1 (ex 0 v8) fun v9=>
 B1 (ex 1 v8) fun v10=>
 j3 a0 a2 (.ptr i0 0) v9 v10 h1) (fun bO bF br bH bu bJ=>
 CD bu (
 some (.tuple [bH,(.bool false)],bJ)) (
 j2 bO bF br bJ))) (fun bc aB aL cC=>
 J 3 (fun eQ=>
 J 4 (fun sY=>
 B1 (aT bc) fun v23=>
 B1 (fa 2 v23) fun v24=>
 B1 (ld v24 cC) fun v25=>
 B1 (aK v25) fun v26=>
 B1 (aT bc) fun v27=>
 B1 (fa 0 v27) fun v28=>
 B1 (ld v28 cC) fun v29=>
 B1 (cl v26 v29) fun v30=>
 sY bc aB aL v30 cC) (fun bP eD cO dq iM=>
 CD dq (
 J 3 (fun xw=>
 B1 (aT bP) fun v37=>
 B1 (fa 1 v37) fun iv=>
 B1 (ld iv iM) fun eJ=>
 B1 (aT bP) fun v40=>
 B1 (fa 2 v40) fun v41=>
 B1 (ld v41 iM) fun eM=>
 B1 (ia 2 eM (.int .i64 0)) fun jg=>
 B1 (az 2 jg iM) fun v44=>
 B2 (gS P .delete #[133,80] [eJ,v44] iM) fun eS gV=>
 xw bP eD cO gV) (fun hJ ir kT jW=>
 B1 (aT hJ) fun v51=>
 B1 (fa 2 v51) fun fI=>
 B1 (ld fI jW) fun v53=>
 B1 (qE 2 v53 (some (.int .i64 1)) none none) fun iR=>
 B1 (aT hJ) fun gH=>
 B1 (fa 2 gH) fun kN=>
 B1 (st 1 kN iR jW) fun oW=>
 eQ hJ ir kT oW)) (
 eQ bP eD cO iM))) (fun fj eA eh jj=>
 J 3 (fun j62=>
 B1 (aT fj) fun v63=>
 B1 (fa 1 v63) fun v64=>
 B1 (ld v64 jj) fun lB=>
 B1 (az 2 eh jj) fun mu=>
 B1 (pZ P 133 lB mu eA jj) fun Ae=>
 j62 fj eA eh Ae) (fun gU jz jO lZ=>
 J 1 (fun se=>
 B1 (aT gU) fun jo=>
 B1 (fa 2 jo) fun kV=>
 B1 (ld kV lZ) fun v75=>
 B1 (az 2 jO lZ) fun v76=>
 B1 (fl [(.str []),(.str [])] [(0,2,v76)]) fun l77=>
 BN (aC lZ l77 80 0) fun i78 iY=>
 B2 (eV 80 2 [(.str []),(.str [])] false v75 (.slice i78 0 1 1 true 2) iY) fun v80 CP=>
 B1 (aT gU) fun mS=>
 B1 (fa 2 mS) fun mX=>
 B1 (st 1 mX v80 CP) fun qH=>
 B1 (ld kV iY) fun v85=>
 SM v75 v85 <|
 se jz qH) (fun oX nh=>
 some (.tuple [oX,(.bool true)],nh)))))
theorem arn (J:JT)(G:GT)(cf:CF)(a0 a1 a2:AV)(H:Hp):fB P J G aR an cf 33 [a0,a1,a2] H=MO J G cf a0 a1 a2 H:=by kernel_rfl
theorem ab0 {a0 a1 a2:AV}{H:Hp}{r:AV × Hp}(h:MO JN GO cK a0 a1 a2 H=some r):cK (.func (.func 33) [] []) [a0,a1,a2] H=some r:=aO (first:=[]) (cap:=[]) ((arn JN GO _ a0 a1 a2 H).trans h)
noncomputable def ZJ (J:JT)(G:GT)(cf:CF)(a0 a1:AV)(H:Hp):R:=
 BN (bx 80 a1 H) fun i0 h1=>
 J 2 (fun j2=>
 B1 (aT a0) fun v3=>
 B1 (fa 1 v3) fun v4=>
 B1 (ld v4 h1) fun v5=>
 B1 (az 2 (.ptr i0 0) h1) fun v6=>
 B1 (rH P 133 v5 v6 true h1) fun v7=>
 B1 (ex 0 v7) fun v8=>
 B1 (ex 1 v7) fun v9=>
 j2 v8 v9 h1) (fun cZ bO di=>
 some (.tuple [cZ,bO],di))
theorem af0 {a0 a1:AV}{H:Hp}{r:AV × Hp}(h:ZJ JN GO cK a0 a1 H=some r):cK (.func (.func 83) [] []) [a0,a1] H=some r:=aO (first:=[]) (cap:=[]) (aaK (by kernel_rfl) h)
noncomputable def PW (J:JT)(G:GT)(cf:CF)(cG:K.Fn 1)(eY:K.Fn 5)(bH bu aS bc aB:AV)(dm:Hp):R:=
 B1 (bX aB bc) fun v20=>
 CD v20 (
 J 5 (fun eQ=>
 B1 (ia 2 aS aB) fun v22=>
 B1 (az 2 v22 dm) fun v23=>
 BN (aC dm [(.str []),(.str [])] 80 0) fun i24 dP=>
 B1 (st 2 (.ptr i24 0) v23 dP) fun eg=>
 B1 (az 2 (.ptr i24 0) eg) fun v27=>
 B1 (aT bH) fun v28=>
 B1 (fa 1 v28) fun v29=>
 B1 (ld v29 eg) fun v30=>
 B1 (az 2 (.ptr i24 0) eg) fun v31=>
 B1 (rH P 133 v30 v31 false eg) fun v32=>
 B1 (fl [(.str []),(.str []),(.int .i64 0)] [(0,2,v27),(2,1,v32)]) fun P5=>
 B1 (fl [(.str []),(.str []),(.int .i64 0)] [(0,3,(.agg P5))]) fun l34=>
 BN (aC eg l34 82 0) fun i35 nL=>
 B2 (eV 82 3 [(.str []),(.str []),(.int .i64 0)] false bu (.slice i35 0 1 1 true 3) nL) fun v37 eW=>
 eQ bH v37 aS bc aB eW) (fun cH cj dS eP dY e8=>
 B1 (bU dY (.int .i64 1)) fun eS=>
 eY cH cj dS eP eS e8)) (
 cG bu dm)
noncomputable def Jj (J:JT)(G:GT)(cf:CF)(cG:K.Fn 1):K.Fn 5:=dB P an J G cf 32 [1,1,0,1,0,0] [0,3,9,10,11] (fun q t H=>match Nat.beq q 0 with | true=>app 1 cG (aw [3] t) H | false=>(fun _ _ _=>none) q t H)
theorem Xy (cf:CF)(cG:K.Fn 1)(bH bu aS bc aB:AV)(dm:Hp):Jj JN GO cf cG bH bu aS bc aB dm=PW JN GO cf cG (Jj JN GO cf cG) bH bu aS bc aB dm:=aaK (b:=app 5 (Jj JN GO cf cG) [bH,bu,aS,bc,aB] dm) (by kernel_rfl) ((dQ cf 32 [1,1,0,1,0,0] [0,3,9,10,11] _ [bH,bu,aS,bc,aB] rfl dm).trans (by kernel_rfl))
noncomputable def ad1 (J:JT)(G:GT)(cf:CF)(a0:AV)(H:Hp):R:=
 J 1 (fun j0=>
 J 5 (fun j1=>
 B1 (aT a0) fun v2=>
 B1 (fa 2 v2) fun v3=>
 B1 (ld v3 H) fun v4=>
 B1 (aK v4) fun v5=>
 j1 a0 .ae v4 v5 (.int .i64 0) H) (fun x6 x7 x8 x9 cZ gq=>
 J 1 (fun cG=>
 Jj J G cf cG x6 x7 x8 x9 cZ gq) (fun fV mo=>
 j0 fV mo))) (fun ir np=>
 some (ir,np))
theorem ahV {a0:AV}{H:Hp}{r:AV × Hp}(h:ad1 JN GO cK a0 H=some r):cK (.func (.func 32) [] []) [a0] H=some r:=aO (first:=[]) (cap:=[]) (aaK (by kernel_rfl) h)
noncomputable def SQ (J:JT)(G:GT)(cf:CF)(a0:AV)(H:Hp):R:=
 BN (bx 75 a0 H) fun i0 h1=>
 BN (aC h1 [.ae,(.int .i64 0),.ae,.ae] 75 0) fun i2 h3=>
 J 2 (fun j4=>
 B1 (fa 1 (.ptr i0 0)) fun v5=>
 B1 (ld v5 h3) fun v6=>
 B1 (eT v6 (.int .i64 0)) fun v7=>
 CD v7 (
 B1 (fl [.ae,(.int .i64 0),.ae,.ae] []) fun l8=>
 B1 (st 4 (.ptr i2 0) (.agg l8) h3) fun h9=>
 B1 (az 4 (.ptr i2 0) h9) fun v10=>
 some (.tuple [v10,(.int .i64 9)],h9)) (
 j4 (.ptr i0 0) (.ptr i2 0) h3)) (fun bO bF eR=>
 B1 (az 4 bO eR) fun cN=>
 B2 (cf (.func (.func 97) [] []) [cN] eR) fun dZ bJ=>
 B1 (st 4 bO dZ bJ) fun dO=>
 B1 (fa 1 bO) fun dA=>
 B1 (st 1 dA (.int .i64 3) dO) fun dm=>
 B1 (az 4 bO dm) fun v20=>
 B1 (st 4 bF v20 dm) fun lA=>
 B1 (az 4 bF lA) fun v22=>
 some (.tuple [v22,(.int .i64 0)],lA))
theorem adF {a0:AV}{H:Hp}{r:AV × Hp}(h:SQ JN GO cK a0 H=some r):cK (.func (.func 82) [] []) [a0] H=some r:=aO (first:=[]) (cap:=[]) (aaK (by kernel_rfl) h)
noncomputable def ZE (J:JT)(G:GT)(cf:CF)(a0:AV)(H:Hp):R:=
 BN (bx 75 a0 H) fun i0 h1=>
 BN (aC h1 [.ae,(.int .i64 0),.ae,.ae] 75 0) fun i2 h3=>
 B1 (az 4 (.ptr i0 0) h3) fun v4=>
 B2 (cf (.func (.func 97) [] []) [v4] h3) fun v5 h6=>
 B1 (st 4 (.ptr i2 0) v5 h6) fun h7=>
 B1 (az 4 (.ptr i2 0) h7) fun v8=>
 some (v8,h7)
theorem atf {a0:AV}{H:Hp}{r:AV × Hp}(h:ZE JN GO cK a0 H=some r):cK (.func (.func 58) [] []) [a0] H=some r:=aO (first:=[]) (cap:=[]) (aaK (by kernel_rfl) h)
noncomputable def X6 (J:JT)(G:GT)(cf:CF)(H:Hp):R:=
 BN (zW H) fun i0 h1=>
 B2 (cf (.func (.func 44) [] []) [(.int .i64 128)] h1) fun v2 h3=>
 B1 (fl [(.int .i64 0),.ae,.jZ,.ae,.dR] [(2,1,(.map i0)),(4,1,v2)]) fun l4=>
 BN (bx 67 (.agg l4) h3) fun i5 h6=>
 some ((.ptr i5 0),h6)
theorem air {H:Hp}{r:AV × Hp}(h:X6 JN GO cK  H=some r):cK (.func (.func 18) [] []) [] H=some r:=aO (first:=[]) (cap:=[]) (aaK (by kernel_rfl) h)
noncomputable def yX (J:JT)(G:GT)(cf:CF)(a0 a1:AV)(H:Hp):R:=
 BN (bx 26 a1 H) fun i0 h1=>
 B1 (az 8 (.ptr i0 0) h1) fun v2=>
 B2 (cf (.func (.func 21) [] []) [v2] h1) fun v3 h4=>
 B1 (eu .not v3) fun v5=>
 CD v5 (
 some ((.int .i64 1),h4)) (
 J 2 (fun j6=>
 B1 (fa 0 (.ptr i0 0)) fun v7=>
 B1 (ld v7 h4) fun v8=>
 B1 (cl v8 (.int .i64 1)) fun v9=>
 CD v9 (
 B1 (fa 5 (.ptr i0 0)) fun v10=>
 B1 (ld v10 h4) fun v11=>
 B1 (fa 7 (.ptr i0 0)) fun v12=>
 B1 (ld v12 h4) fun dV=>
 B2 (cf (.func (.func 40) [] []) [a0,v11,dV] h4) fun cN gY=>
 some (cN,gY)) (
 B1 (cl v8 (.int .i64 2)) fun dN=>
 CD dN (
 B1 (az 8 (.ptr i0 0) h4) fun fG=>
 B2 (cf (.func (.func 41) [] []) [a0,fG] h4) fun dA dm=>
 some (dA,dm)) (
 B1 (cl v8 (.int .i64 6)) fun v20=>
 CD v20 (
 B1 (fa 4 (.ptr i0 0)) fun v21=>
 B1 (ld v21 h4) fun v22=>
 B2 (cf (.func (.func 42) [] []) [a0,v22] h4) fun v23 ic=>
 some (v23,ic)) (
 B1 (cl v8 (.int .i64 9)) fun v25=>
 CD v25 (
 some ((.int .i64 0),h4)) (
 j6 a0 (.ptr i0 0) h4))))) (fun dc cY gQ=>
 J 2 (fun Ax=>
 J 3 (fun C8=>
 B1 (fa 1 cY) fun v31=>
 B1 (ld v31 gQ) fun v32=>
 B1 (aT dc) fun fC=>
 B1 (fa 3 fC) fun eC=>
 B1 (ld eC gQ) fun v35=>
 B1 (aK v35) fun v36=>
 B1 (jA v32 v36) fun v37=>
 C8 dc cY v37 gQ) (fun bQ cH cj dH=>
 CD cj (
 some ((.int .i64 4),dH)) (
 Ax bQ cH dH))) (fun eP dY e8=>
 B1 (az 8 dY e8) fun eS=>
 B2 (cf (.func (.func 43) [] []) [eP,eS] e8) fun v46 mo=>
 some (v46,mo))))
theorem atS (J:JT)(G:GT)(cf:CF)(a0 a1:AV)(H:Hp):fB P J G aR an cf 16 [a0,a1] H=yX J G cf a0 a1 H:=by kernel_rfl
theorem CJ {a0 a1:AV}{H:Hp}{r:AV × Hp}(h:yX JN GO cK a0 a1 H=some r):cK (.func (.func 16) [] []) [a0,a1] H=some r:=aO (first:=[]) (cap:=[]) ((atS JN GO _ a0 a1 H).trans h)
noncomputable def FQ (J:JT)(G:GT)(cf:CF)(a0 a1 a2:AV)(H:Hp):R:=
 J 3 (fun j0=>
 J 4 (fun j1=>
 B1 (aT a0) fun v2=>
 B1 (fa 2 v2) fun v3=>
 B1 (ld v3 H) fun v4=>
 B1 (qI .str (.str []) true v4 a1 H) fun v5=>
 B1 (ex 0 v5) fun v6=>
 B1 (ex 1 v5) fun v7=>
 j1 a0 a1 a2 v7 H) (fun x8 x9 cZ bO di=>
 CD bO (
 some ((.int .i64 5),di)) (
 j0 x8 x9 cZ di))) (fun br bH bu bJ=>
 J 4 (fun jq=>
 B2 (cf (.func (.func 53) [] []) [bu] bJ) fun dA dm=>
 B1 (ex 0 dA) fun v20=>
 B1 (ex 1 dA) fun v21=>
 BN (aC dm [.ae] 72 0) fun i22 bB=>
 B1 (st 1 (.ptr i22 0) v20 bB) fun ic=>
 jq br bH (.ptr i22 0) v21 ic) (fun bS dc cY dT dF=>
 B1 (eT dT (.int .i64 0)) fun v30=>
 CD v30 (
 some (dT,dF)) (
 J 3 (fun db=>
 J 4 (fun gF=>
 B1 (aT bS) fun fC=>
 B1 (fa 1 fC) fun eC=>
 B1 (ld eC dF) fun v35=>
 B1 (aK v35) fun v36=>
 B1 (cl v36 (.int .i64 16)) fun v37=>
 gF bS dc cY v37 dF) (fun bQ cH cj dS dW=>
 CD dS (
 some ((.int .i64 6),dW)) (
 db bQ cH cj dW))) (fun dY gX fy gV=>
 J 3 (fun zF=>
 B1 (aT dY) fun fS=>
 B1 (fa 1 fS) fun v49=>
 B1 (ld v49 gV) fun fN=>
 B1 (fl [(.str [])] [(0,1,gX)]) fun l51=>
 BN (aC gV l51 9 0) fun i52 fT=>
 B2 (eV 9 1 [(.str [])] false fN (.slice i52 0 1 1 true 1) fT) fun iR xm=>
 B1 (aT dY) fun kN=>
 B1 (fa 1 kN) fun v57=>
 B1 (st 1 v57 iR xm) fun iG=>
 zF dY gX fy iG) (fun eA eh dL gz=>
 J 0 (fun Ms=>
 B1 (aT eA) fun v64=>
 B1 (fa 2 v64) fun lB=>
 B1 (ld lB gz) fun mu=>
 B1 (az 1 dL gz) fun lX=>
 B2 (cf (.func (.func 55) [] []) [lX] gz) fun nX A7=>
 B1 (wP .str mu eh nX A7) fun qo=>
 B1 (ld lB A7) fun qc=>
 SM mu qc <|
 Ms  qo) (fun  me=>
 some ((.int .i64 0),me)))))))
theorem amG (J:JT)(G:GT)(cf:CF)(a0 a1 a2:AV)(H:Hp):fB P J G aR an cf 40 [a0,a1,a2] H=FQ J G cf a0 a1 a2 H:=by kernel_rfl
theorem Lv {a0 a1 a2:AV}{H:Hp}{r:AV × Hp}(h:FQ JN GO cK a0 a1 a2 H=some r):cK (.func (.func 40) [] []) [a0,a1,a2] H=some r:=aO (first:=[]) (cap:=[]) ((amG JN GO _ a0 a1 a2 H).trans h)
noncomputable def vo (J:JT)(G:GT)(cf:CF)(a0 a1:AV)(H:Hp):R:=
 BN (bx 26 a1 H) fun i0 h1=>
 J 4 (fun j2=>
 B1 (fa 5 (.ptr i0 0)) fun v3=>
 B1 (ld v3 h1) fun v4=>
 B2 (cf (.func (.func 56) [] []) [a0,v4] h1) fun v5 h6=>
 B1 (ex 0 v5) fun v7=>
 B1 (ex 1 v5) fun v8=>
 BN (aC h6 [.ae] 72 0) fun i9 cL=>
 B1 (st 1 (.ptr i9 0) v7 cL) fun gq=>
 j2 a0 (.ptr i0 0) (.ptr i9 0) v8 gq) (fun bF br bH bu bJ=>
 J 5 (fun jq=>
 B1 (fa 5 br) fun dA=>
 B1 (ld dA bJ) fun eZ=>
 B1 (fa 6 br) fun v20=>
 B1 (ld v20 bJ) fun v21=>
 B2 (cf (.func (.func 45) [] []) [bF,eZ,v21] bJ) fun v22 bB=>
 B1 (ex 0 v22) fun v24=>
 B1 (ex 1 v22) fun v25=>
 jq bF br bH bu v25 bB) (fun dc cY dT cP cn gf=>
 J 3 (fun gF=>
 B1 (eu .not cP) fun fC=>
 CD fC (
 some ((.int .i64 4),gf)) (
 J 4 (fun ju=>
 B1 (fa 6 cY) fun v35=>
 B1 (ld v35 gf) fun v36=>
 B1 (qL v36 (.str [])) fun v37=>
 G v37 true (fun xi=>
 xi cn gf) (fun eJ rF=>
 B1 (pk v37 eJ (.bool false)) fun v41=>
 ju dc cY dT v41 rF) gf) (fun eP dY gX fy gV=>
 CD fy (
 some ((.int .i64 5),gV)) (
 J 4 (fun zF=>
 B1 (aT eP) fun fS=>
 B1 (fa 3 fS) fun v49=>
 B1 (ld v49 gV) fun fN=>
 B1 (aK fN) fun v51=>
 B1 (cl v51 (.int .i64 64)) fun fI=>
 zF eP dY gX fI gV) (fun jE iN fR ep oW=>
 CD ep (
 some ((.int .i64 6),oW)) (
 J 4 (fun j58=>
 B1 (fa 1 iN) fun v59=>
 B1 (ld v59 oW) fun fW=>
 B1 (aT jE) fun nQ=>
 B1 (fa 3 nQ) fun iE=>
 B1 (ld iE oW) fun v63=>
 B1 (aK v63) fun v64=>
 B1 (bU v64 (.int .i64 1)) fun lB=>
 B1 (eT fW lB) fun mu=>
 j58 jE iN fR mu oW) (fun jf gU jz jO lZ=>
 CD jO (
 some ((.int .i64 1),lZ)) (
 gF jf gU jz lZ)))))))) (fun tS fU gT nB=>
 J 4 (fun Ij=>
 B1 (az 1 gT nB) fun vd=>
 B2 (cf (.func (.func 76) [] []) [vd] nB) fun qh iY=>
 B1 (ex 0 qh) fun v80=>
 B1 (ex 1 qh) fun kE=>
 BN (aC iY [.ae,(.int .i64 0),.ae,.ae] 75 0) fun i82 qG=>
 B1 (st 4 (.ptr i82 0) v80 qG) fun qH=>
 Ij tS fU (.ptr i82 0) kE qH) (fun qg oX wq qb qX=>
 B1 (eT qb (.int .i64 0)) fun pE=>
 CD pE (
 some (qb,qX)) (
 J 2 (fun j91=>
 B1 (aT qg) fun yM=>
 B1 (fa 3 yM) fun v93=>
 B1 (ld v93 qX) fun tn=>
 B1 (az 4 wq qX) fun Jf=>
 B1 (fa 5 oX) fun lF=>
 B1 (ld lF qX) fun Dl=>
 B1 (fl [.ae,(.int .i64 0),.ae,.ae,(.str [])] [(0,4,Jf),(4,1,Dl)]) fun l98=>
 B1 (fl [.ae,(.int .i64 0),.ae,.ae,(.str [])] [(0,5,(.agg l98))]) fun l99=>
 BN (aC qX l99 77 0) fun i100 tc=>
 B2 (eV 77 5 [.ae,(.int .i64 0),.ae,.ae,(.str [])] false tn (.slice i100 0 1 1 true 5) tc) fun uo mz=>
 B1 (aT qg) fun tD=>
 B1 (fa 3 tD) fun v105=>
 B1 (st 1 v105 uo mz) fun Dw=>
 B1 (ld v93 tc) fun v107=>
 SM tn v107 <|
 j91 qg oX Dw) (fun nV kW qm=>
 J 0 (fun BI=>
 B1 (fa 6 kW) fun B8=>
 B1 (ld B8 qm) fun vc=>
 B1 (qL vc (.str [])) fun xg=>
 CD xg (
 B1 (aT nV) fun sB=>
 B1 (fa 4 sB) fun yU=>
 B1 (ld yU qm) fun v117=>
 B1 (fa 5 kW) fun xQ=>
 B1 (ld xQ qm) fun Bb=>
 B1 (fa 6 kW) fun Ci=>
 B1 (ld Ci qm) fun I1=>
 B1 (fl [(.str []),(.str [])] [(0,1,Bb),(1,1,I1)]) fun awx=>
 B1 (fa 1 kW) fun w7=>
 B1 (ld w7 qm) fun v124=>
 B2 (cf (.func (.func 33) [] []) [v117,(.agg awx),v124] qm) fun yg Hk=>
 BI  Hk) (
 BI  qm)) (fun  P1=>
 some ((.int .i64 0),P1))))))))
theorem awS (J:JT)(G:GT)(cf:CF)(a0 a1:AV)(H:Hp):fB P J G aR an cf 41 [a0,a1] H=vo J G cf a0 a1 H:=by kernel_rfl
theorem xx {a0 a1:AV}{H:Hp}{r:AV × Hp}(h:vo JN GO cK a0 a1 H=some r):cK (.func (.func 41) [] []) [a0,a1] H=some r:=aO (first:=[]) (cap:=[]) ((awS JN GO _ a0 a1 H).trans h)
noncomputable def Vn (J:JT)(G:GT)(cf:CF)(db:K.Fn 0)(gF:K.Fn 4)(cO dq bZ bw:AV)(gr:Hp):R:=
 B1 (bX bw bZ) fun iv=>
 CD iv (
 J 4 (fun pY=>
 B1 (aT cO) fun v40=>
 B1 (fa 3 v40) fun v41=>
 B1 (ld v41 gr) fun eM=>
 B1 (aT cO) fun jg=>
 B1 (fa 3 jg) fun v44=>
 B1 (ld v44 gr) fun eS=>
 B1 (ia 5 eS bw) fun v46=>
 B1 (fa 0 v46) fun kD=>
 B1 (az 4 kD gr) fun fS=>
 B2 (cf (.func (.func 77) [] []) [fS,dq] gr) fun v49 jW=>
 B1 (ia 5 eM bw) fun v51=>
 B1 (fa 0 v51) fun fI=>
 B1 (st 4 fI v49 jW) fun fT=>
 B1 (ld v41 jW) fun iR=>
 SM eM iR <|
 pY cO dq bZ bw fT) (fun fR ep eN fj A8=>
 B1 (bU fj (.int .i64 1)) fun fW=>
 gF fR ep eN fW A8)) (
 db  gr)
noncomputable def G0 (J:JT)(G:GT)(cf:CF)(db:K.Fn 0):K.Fn 4:=dB P an J G cf 42 [1,1,1,0,1,0,0] [0,1,20,21] (fun q t H=>match Nat.beq q 0 with | true=>app 0 db (aw [] t) H | false=>(fun _ _ _=>none) q t H)
theorem WC (cf:CF)(db:K.Fn 0)(cO dq bZ bw:AV)(gr:Hp):G0 JN GO cf db cO dq bZ bw gr=Vn JN GO cf db (G0 JN GO cf db) cO dq bZ bw gr:=aaK (b:=app 4 (G0 JN GO cf db) [cO,dq,bZ,bw] gr) (by kernel_rfl) ((dQ cf 42 [1,1,1,0,1,0,0] [0,1,20,21] _ [cO,dq,bZ,bw] rfl gr).trans (by kernel_rfl))
noncomputable def PZ (J:JT)(G:GT)(cf:CF)(a0 a1:AV)(H:Hp):R:=
 J 2 (fun j0=>
 J 3 (fun j1=>
 B1 (aT a0) fun v2=>
 B1 (fa 0 v2) fun v3=>
 B1 (ld v3 H) fun v4=>
 B1 (oJ a1 v4) fun v5=>
 j1 a0 a1 v5 H) (fun x6 x7 x8 h9=>
 CD x8 (
 some ((.int .i64 10),h9)) (
 j0 x6 x7 h9))) (fun cZ bO di=>
 J 2 (fun eY=>
 B1 (aT cZ) fun cN=>
 B1 (fa 0 cN) fun dZ=>
 B1 (st 1 dZ bO di) fun bJ=>
 eY cZ bO bJ) (fun bc aB dm=>
 J 0 (fun aD=>
 J 4 (fun eQ=>
 B1 (aT bc) fun v22=>
 B1 (fa 3 v22) fun v23=>
 B1 (ld v23 dm) fun v24=>
 B1 (aK v24) fun v25=>
 eQ bc aB v25 (.int .i64 0) dm) (fun dc cY dT cP mi=>
 J 0 (fun db=>
 G0 J G cf db dc cY dT cP mi) (fun  jj=>
 aD  jj))) (fun  gz=>
 some ((.int .i64 0),gz))))
theorem X7 {a0 a1:AV}{H:Hp}{r:AV × Hp}(h:PZ JN GO cK a0 a1 H=some r):cK (.func (.func 42) [] []) [a0,a1] H=some r:=aO (first:=[]) (cap:=[]) (aaK (by kernel_rfl) h)
noncomputable def CA (J:JT)(G:GT)(cf:CF)(a0 a1:AV)(H:Hp):R:=
 BN (bx 26 a1 H) fun i0 h1=>
 J 3 (fun j2=>
 B1 (aT a0) fun v3=>
 B1 (fa 3 v3) fun v4=>
 B1 (ld v4 h1) fun v5=>
 B1 (fa 1 (.ptr i0 0)) fun v6=>
 B1 (ld v6 h1) fun v7=>
 B1 (nW v7 (.int .i64 1)) fun v8=>
 B1 (ia 5 v5 v8) fun v9=>
 B1 (fa 0 v9) fun v10=>
 j2 a0 (.ptr i0 0) v10 h1) (fun bO bF br ki=>
 BN (aC ki [.ae,(.int .i64 0),.ae,.ae] 75 0) fun i15 bJ=>
 J 3 (fun jq=>
 B1 (fa 0 bF) fun dA=>
 B1 (ld dA bJ) fun eZ=>
 J 3 (fun aD=>
 B1 (cl eZ (.int .i64 3)) fun v21=>
 CD v21 (
 B1 (aT br) fun v22=>
 B1 (az 4 v22 bJ) fun v23=>
 B1 (fa 2 bF) fun v24=>
 B1 (ld v24 bJ) fun v25=>
 B1 (fa 3 bF) fun v26=>
 B1 (ld v26 bJ) fun v27=>
 B1 (aT bO) fun v28=>
 B1 (fa 0 v28) fun v29=>
 B1 (ld v29 bJ) fun v30=>
 B2 (cf (.func (.func 78) [] []) [v23,v25,v27,v30] bJ) fun v31 cW=>
 B1 (ex 0 v31) fun fC=>
 B1 (ex 1 v31) fun eC=>
 B1 (st 4 (.ptr i15 0) fC cW) fun iM=>
 aD br (.ptr i15 0) eC iM) (
 B1 (cl eZ (.int .i64 4)) fun v36=>
 CD v36 (
 B1 (aT br) fun v37=>
 B1 (az 4 v37 bJ) fun iv=>
 B1 (fa 2 bF) fun eJ=>
 B1 (ld eJ bJ) fun v40=>
 B1 (fa 3 bF) fun v41=>
 B1 (ld v41 bJ) fun eM=>
 B1 (fa 7 bF) fun jg=>
 B1 (ld jg bJ) fun v44=>
 B2 (cf (.func (.func 79) [] []) [iv,v40,eM,v44] bJ) fun eS gV=>
 B1 (ex 0 eS) fun kD=>
 B1 (ex 1 eS) fun fS=>
 B1 (st 4 (.ptr i15 0) kD gV) fun np=>
 aD br (.ptr i15 0) fS np) (
 B1 (cl eZ (.int .i64 5)) fun fN=>
 CD fN (
 B1 (aT br) fun v51=>
 B1 (az 4 v51 bJ) fun fI=>
 B1 (fa 2 bF) fun v53=>
 B1 (ld v53 bJ) fun iR=>
 B1 (fa 3 bF) fun gH=>
 B1 (ld gH bJ) fun kN=>
 B1 (aT bO) fun v57=>
 B1 (fa 0 v57) fun nb=>
 B1 (ld nb bJ) fun v59=>
 B2 (cf (.func (.func 80) [] []) [fI,iR,kN,v59] bJ) fun fW jj=>
 B1 (ex 0 fW) fun iE=>
 B1 (ex 1 fW) fun v63=>
 B1 (st 4 (.ptr i15 0) iE jj) fun pW=>
 aD br (.ptr i15 0) v63 pW) (
 B1 (cl eZ (.int .i64 7)) fun lB=>
 CD lB (
 B1 (aT br) fun mu=>
 B1 (az 4 mu bJ) fun lX=>
 B1 (fa 5 bF) fun nX=>
 B1 (ld nX bJ) fun mT=>
 B2 (cf (.func (.func 81) [] []) [lX,mT] bJ) fun v70 lZ=>
 B1 (ex 0 v70) fun v72=>
 B1 (ex 1 v70) fun jo=>
 B1 (st 4 (.ptr i15 0) v72 lZ) fun wK=>
 aD br (.ptr i15 0) jo wK) (
 B1 (aT br) fun v75=>
 B1 (az 4 v75 bJ) fun v76=>
 B2 (cf (.func (.func 82) [] []) [v76] bJ) fun vd va=>
 B1 (ex 0 vd) fun mf=>
 B1 (ex 1 vd) fun v80=>
 B1 (st 4 (.ptr i15 0) mf va) fun CP=>
 aD br (.ptr i15 0) v80 CP))))) (fun uu nU pg pw=>
 jq uu nU pg pw)) (fun oX wq qb qX=>
 J 1 (fun Of=>
 B1 (cl qb (.int .i64 0)) fun v91=>
 CD v91 (
 B1 (az 4 wq qX) fun yM=>
 B1 (aT oX) fun v93=>
 B1 (st 4 v93 yM qX) fun To=>
 Of qb To) (
 Of qb qX)) (fun qd Cm=>
 some (qd,Cm))))
theorem aji (J:JT)(G:GT)(cf:CF)(a0 a1:AV)(H:Hp):fB P J G aR an cf 43 [a0,a1] H=CA J G cf a0 a1 H:=by kernel_rfl
theorem JX {a0 a1:AV}{H:Hp}{r:AV × Hp}(h:CA JN GO cK a0 a1 H=some r):cK (.func (.func 43) [] []) [a0,a1] H=some r:=aO (first:=[]) (cap:=[]) ((aji JN GO _ a0 a1 H).trans h)
noncomputable def ZZ (J:JT)(G:GT)(cf:CF)(a0:AV)(H:Hp):R:=
 B1 (aT a0) fun v0=>
 B1 (fa 1 v0) fun v1=>
 B1 (ld v1 H) fun v2=>
 B2 (cf (.func (.func 30) [] []) [v2] H) fun v3 h4=>
 some (v3,h4)
theorem aqP {a0:AV}{H:Hp}{r:AV × Hp}(h:ZZ JN GO cK a0 H=some r):cK (.func (.func 59) [] []) [a0] H=some r:=aO (first:=[]) (cap:=[]) (aaK (by kernel_rfl) h)
noncomputable def Qv (J:JT)(G:GT)(cf:CF)(a0 a1:AV)(H:Hp):R:=
 BN (aC H [.ae] 72 0) fun i0 h1=>
 J 3 (fun j2=>
 B1 (aT a0) fun v3=>
 B1 (fa 2 v3) fun v4=>
 B1 (ld v4 h1) fun v5=>
 B1 (qI .str (.str []) true v5 a1 h1) fun v6=>
 B1 (ex 0 v6) fun v7=>
 B1 (ex 1 v6) fun v8=>
 j2 (.ptr i0 0) v7 v8 h1) (fun x9 cZ bO di=>
 J 2 (fun eY=>
 B1 (eu .not bO) fun cN=>
 CD cN (
 B1 (fl [.ae] []) fun l15=>
 B1 (st 1 x9 (.agg l15) di) fun bJ=>
 B1 (az 1 x9 bJ) fun fG=>
 some (.tuple [fG,(.bool false)],bJ)) (
 eY x9 cZ di)) (fun aB aL cC=>
 J 2 (fun eQ=>
 B2 (cf (.func (.func 53) [] []) [aL] cC) fun v22 bB=>
 B1 (ex 0 v22) fun v24=>
 B1 (ex 1 v22) fun v25=>
 BN (aC bB [.ae] 72 0) fun i26 eX=>
 B1 (st 1 (.ptr i26 0) v24 eX) fun gQ=>
 eQ aB (.ptr i26 0) gQ) (fun cP cn gf=>
 B1 (az 1 cn gf) fun v32=>
 B1 (st 1 cP v32 gf) fun mI=>
 B1 (az 1 cP mI) fun eC=>
 some (.tuple [eC,(.bool true)],mI))))
theorem aeB {a0 a1:AV}{H:Hp}{r:AV × Hp}(h:Qv JN GO cK a0 a1 H=some r):cK (.func (.func 56) [] []) [a0,a1] H=some r:=aO (first:=[]) (cap:=[]) (aaK (by kernel_rfl) h)
noncomputable def aeq (J:JT)(G:GT)(cf:CF)(a0 a1 a2:AV)(H:Hp):R:=
 B1 (aT a0) fun v0=>
 B1 (fa 4 v0) fun v1=>
 B1 (ld v1 H) fun v2=>
 B1 (fl [(.str []),(.str [])] [(0,1,a1),(1,1,a2)]) fun l3=>
 B2 (cf (.func (.func 83) [] []) [v2,(.agg l3)] H) fun v4 h5=>
 B1 (ex 0 v4) fun v6=>
 B1 (ex 1 v4) fun v7=>
 some (.tuple [v6,v7],h5)
theorem ar3 {a0 a1 a2:AV}{H:Hp}{r:AV × Hp}(h:aeq JN GO cK a0 a1 a2 H=some r):cK (.func (.func 45) [] []) [a0,a1,a2] H=some r:=aO (first:=[]) (cap:=[]) (aaK (by kernel_rfl) h)
noncomputable def ab8 (J:JT)(G:GT)(cf:CF)(a0:AV)(H:Hp):R:=
 B1 (aT a0) fun v0=>
 B1 (fa 4 v0) fun v1=>
 B1 (ld v1 H) fun v2=>
 B2 (cf (.func (.func 32) [] []) [v2] H) fun v3 h4=>
 some (v3,h4)
theorem apv {a0:AV}{H:Hp}{r:AV × Hp}(h:ab8 JN GO cK a0 H=some r):cK (.func (.func 60) [] []) [a0] H=some r:=aO (first:=[]) (cap:=[]) (aaK (by kernel_rfl) h)
noncomputable def Mk (J:JT)(G:GT)(cf:CF)(kP:K.Fn 3)(ju:K.Fn 6)(bZ bw bI bQ cH cj:AV)(dH:Hp):R:=
 B1 (bX cj cH) fun eM=>
 CD eM (
 J 6 (fun Vi=>
 B1 (ia 1 bQ cj) fun v44=>
 B1 (ld v44 dH) fun eS=>
 B1 (fa 2 bI) fun v46=>
 B1 (ld v46 dH) fun kD=>
 B1 (aT bZ) fun fS=>
 B1 (fa 2 fS) fun v49=>
 B1 (ld v49 dH) fun fN=>
 B1 (qI .str (.str []) false fN eS dH) fun v51=>
 B1 (fl [(.str [])] [(0,1,v51)]) fun l52=>
 BN (aC dH l52 9 0) fun i53 nu=>
 B2 (eV 9 1 [(.str [])] false kD (.slice i53 0 1 1 true 1) nu) fun gH oq=>
 B1 (fa 2 bI) fun v57=>
 B1 (st 1 v57 gH oq) fun iG=>
 B1 (ld v46 nu) fun v59=>
 SM kD v59 <|
 Vi bZ bw bI bQ cH cj iG) (fun eh dL jD iw fX fO eI=>
 B1 (bU fO (.int .i64 1)) fun lX=>
 ju eh dL jD iw fX lX eI)) (
 kP bZ bw bI dH)
noncomputable def Kw (J:JT)(G:GT)(cf:CF)(kP:K.Fn 3):K.Fn 6:=dB P an J G cf 23 [1,1,0,1,0,0] [0,2,3,20,21,22] (fun q t H=>match Nat.beq q 0 with | true=>app 3 kP (aw [0,2,3] t) H | false=>(fun _ _ _=>none) q t H)
theorem amz (J:JT)(G:GT)(cf:CF)(kP:K.Fn 3)(ju:K.Fn 6)(bZ bw bI bQ cH cj:AV)(dH:Hp):jb P an J G cf 23 [1,1,0,1,0,0] [0,2,3,20,21,22] (fun q t H=>match Nat.beq q 0 with | true=>app 3 kP (aw [0,2,3] t) H | false=>(fun _ _ _=>none) q t H) ju [bZ,bw,bI,bQ,cH,cj] dH=Mk J G cf kP ju bZ bw bI bQ cH cj dH:=by kernel_rfl
theorem aaE (cf:CF)(kP:K.Fn 3)(bZ bw bI bQ cH cj:AV)(dH:Hp):Kw JN GO cf kP bZ bw bI bQ cH cj dH=Mk JN GO cf kP (Kw JN GO cf kP) bZ bw bI bQ cH cj dH:=aaK (b:=app 6 (Kw JN GO cf kP) [bZ,bw,bI,bQ,cH,cj] dH) (by kernel_rfl) ((dQ cf _ _ _ _ [bZ,bw,bI,bQ,cH,cj] rfl dH).trans (amz JN GO cf kP _ bZ bw bI bQ cH cj dH))
noncomputable def LG (J:JT)(G:GT)(cf:CF)(mK:K.Fn 2)(Ea:K.Fn 5)(rq oI iZ jI iQ:AV)(iC:Hp):R:=
 B1 (bX iQ jI) fun lF=>
 CD lF (
 J 5 (fun gR=>
 B1 (ia 5 iZ iQ) fun xE=>
 B1 (az 5 xE iC) fun wu=>
 BN (aC iC [.ae,(.int .i64 0),.ae,.ae,(.str [])] 77 0) fun i100 tc=>
 B1 (st 5 (.ptr i100 0) wu tc) fun zf=>
 J 6 (fun vk=>
 B1 (fa 3 oI) fun tD=>
 B1 (ld tD zf) fun v105=>
 B1 (fa 0 (.ptr i100 0)) fun Ac=>
 B1 (az 4 Ac zf) fun v107=>
 B2 (cf (.func (.func 58) [] []) [v107] zf) fun vD zk=>
 B1 (fl [.ae,(.int .i64 0),.ae,.ae] [(0,4,vD)]) fun ar9=>
 BN (aC zk ar9 75 0) fun i111 we=>
 B2 (eV 75 4 [.ae,(.int .i64 0),.ae,.ae] false v105 (.slice i111 0 1 1 true 4) we) fun vc qD=>
 B1 (fa 3 oI) fun sB=>
 B1 (st 1 sB vc qD) fun zQ=>
 B1 (ld tD zk) fun v117=>
 SM v105 v117 <|
 B1 (ld tD we) fun xQ=>
 SM v105 xQ <|
 vk rq oI (.ptr i100 0) iZ jI iQ zQ) (fun rO qN tR tH yY yO zY=>
 B1 (fa 4 qN) fun Ia=>
 B1 (ld Ia zY) fun v127=>
 B1 (fa 4 tR) fun Qn=>
 B1 (ld Qn zY) fun Py=>
 B1 (fl [(.str [])] [(0,1,Py)]) fun av1=>
 BN (aC zY av1 9 0) fun i131 EE=>
 B2 (eV 9 1 [(.str [])] false v127 (.slice i131 0 1 1 true 1) EE) fun CG tt=>
 B1 (fa 4 qN) fun GX=>
 B1 (st 1 GX CG tt) fun akf=>
 gR rO qN tH yY yO akf)) (fun my nj tV pM G4 awT=>
 B1 (bU G4 (.int .i64 1)) fun v143=>
 Ea my nj tV pM v143 awT)) (
 mK rq oI iC)
noncomputable def JQ (J:JT)(G:GT)(cf:CF)(mK:K.Fn 2):K.Fn 5:=dB P an J G cf 23 [1,1,1,0,1,0,0] [2,3,41,42,43] (fun q t H=>match Nat.beq q 2 with | true=>app 2 mK (aw [2,3] t) H | false=>(fun _ _ _=>none) q t H)
theorem aiV (J:JT)(G:GT)(cf:CF)(mK:K.Fn 2)(Ea:K.Fn 5)(rq oI iZ jI iQ:AV)(iC:Hp):jb P an J G cf 23 [1,1,1,0,1,0,0] [2,3,41,42,43] (fun q t H=>match Nat.beq q 2 with | true=>app 2 mK (aw [2,3] t) H | false=>(fun _ _ _=>none) q t H) Ea [rq,oI,iZ,jI,iQ] iC=LG J G cf mK Ea rq oI iZ jI iQ iC:=by kernel_rfl
theorem YN (cf:CF)(mK:K.Fn 2)(rq oI iZ jI iQ:AV)(iC:Hp):JQ JN GO cf mK rq oI iZ jI iQ iC=LG JN GO cf mK (JQ JN GO cf mK) rq oI iZ jI iQ iC:=aaK (b:=app 5 (JQ JN GO cf mK) [rq,oI,iZ,jI,iQ] iC) (by kernel_rfl) ((dQ cf _ _ _ _ [rq,oI,iZ,jI,iQ] rfl iC).trans (aiV JN GO cf mK _ rq oI iZ jI iQ iC))
noncomputable def RY (J:JT)(G:GT)(cf:CF)(a0:AV)(H:Hp):R:=
 BN (aC H [(.int .i64 0),.ae,.ae,.ae,.ae,.ae] 50 0) fun i0 h1=>
 J 3 (fun j2=>
 B1 (aT a0) fun v3=>
 B1 (fa 0 v3) fun v4=>
 B1 (ld v4 h1) fun v5=>
 B2 (cf (.func (.func 59) [] []) [a0] h1) fun v6 h7=>
 B2 (cf (.func (.func 60) [] []) [a0] h7) fun v8 h9=>
 B1 (fl [(.int .i64 0),.ae,.ae,.ae,.ae,.ae] [(0,1,v5),(1,1,v6),(5,1,v8)]) fun l10=>
 BN (aC h9 [(.int .i64 0),.ae,.ae,.ae,.ae,.ae] 50 0) fun i11 di=>
 B1 (st 6 (.ptr i11 0) (.agg l10) di) fun eR=>
 B1 (ld v4 h7) fun cN=>
 SM v5 cN <|
 B1 (ld v4 h9) fun dZ=>
 SM v5 dZ <|
 j2 a0 (.ptr i0 0) (.ptr i11 0) eR) (fun aS bc aB dm=>
 J 3 (fun aD=>
 J 6 (fun eQ=>
 B1 (aT aS) fun v22=>
 B1 (fa 1 v22) fun v23=>
 B1 (ld v23 dm) fun v24=>
 B1 (aK v24) fun v25=>
 eQ aS bc aB v24 v25 (.int .i64 0) dm) (fun dc cY dT cP cn bP cW=>
 J 3 (fun kP=>
 Kw J G cf kP dc cY dT cP cn bP cW) (fun gU jz jO lZ=>
 aD gU jz jO lZ))) (fun tS fU gT nB=>
 J 2 (fun Ij=>
 J 5 (fun RE=>
 B1 (aT tS) fun qh=>
 B1 (fa 3 qh) fun mf=>
 B1 (ld mf nB) fun v80=>
 B1 (aK v80) fun kE=>
 RE fU gT v80 kE (.int .i64 0) nB) (fun uu nU pg qg oX nh=>
 J 2 (fun mK=>
 JQ J G cf mK uu nU pg qg oX nh) (fun Jq HQ uH=>
 Ij Jq HQ uH))) (fun CT BX Fp=>
 B1 (az 6 BX Fp) fun Jb=>
 B1 (st 6 CT Jb Fp) fun Ko=>
 B1 (az 6 CT Ko) fun v152=>
 some (v152,Ko))))
theorem anX (J:JT)(G:GT)(cf:CF)(a0:AV)(H:Hp):fB P J G aR an cf 23 [a0] H=RY J G cf a0 H:=by kernel_rfl
theorem akt {a0:AV}{H:Hp}{r:AV × Hp}(h:RY JN GO cK a0 H=some r):cK (.func (.func 23) [] []) [a0] H=some r:=aO (first:=[]) (cap:=[]) ((anX JN GO _ a0 H).trans h)
noncomputable def DE (J:JT)(G:GT)(cf:CF)(a0 a1:AV)(H:Hp):R:=
 BN (bx 27 a0 H) fun i0 h1=>
 BN (bx 27 a1 h1) fun i2 h3=>
 B1 (ld (.ptr i0 0) h3) fun v4=>
 B1 (aT v4) fun v5=>
 B1 (fa 0 v5) fun v6=>
 B1 (ld v6 h3) fun v7=>
 B1 (ld (.ptr i2 0) h3) fun v8=>
 B1 (aT v8) fun v9=>
 B1 (fa 0 v9) fun v10=>
 B1 (ld v10 h3) fun v11=>
 B1 (cl v7 v11) fun v12=>
 gZ v12 true (
 B1 (ld (.ptr i0 0) h3) fun dV=>
 B1 (aT dV) fun cN=>
 B1 (fa 1 cN) fun dZ=>
 B1 (ld dZ h3) fun dN=>
 B1 (ld (.ptr i2 0) h3) fun fG=>
 B1 (aT fG) fun dA=>
 B1 (fa 1 dA) fun eZ=>
 B1 (ld eZ h3) fun v20=>
 B2 (cf (.func (.func 37) [] []) [dN,v20,(.func (.func 34) [] [(.ptr i0 0),(.ptr i2 0)])] h3) fun v21 jw=>
 gZ v21 true (
 B1 (ld (.ptr i0 0) jw) fun v23=>
 B1 (aT v23) fun v24=>
 B1 (fa 3 v24) fun v25=>
 B1 (ld v25 jw) fun v26=>
 B1 (ld (.ptr i2 0) jw) fun v27=>
 B1 (aT v27) fun v28=>
 B1 (fa 3 v28) fun v29=>
 B1 (ld v29 jw) fun v30=>
 B2 (cf (.func (.func 38) [] []) [v26,v30,(.func (.func 35) [] [])] jw) fun v31 cW=>
 gZ v31 true (
 B1 (ld (.ptr i0 0) cW) fun fC=>
 B1 (aT fC) fun eC=>
 B1 (fa 4 eC) fun v35=>
 B1 (ld v35 cW) fun v36=>
 B2 (cf (.func (.func 32) [] []) [v36] cW) fun v37 eW=>
 B1 (ld (.ptr i2 0) eW) fun eJ=>
 B1 (aT eJ) fun v40=>
 B1 (fa 4 v40) fun v41=>
 B1 (ld v41 eW) fun eM=>
 B2 (cf (.func (.func 32) [] []) [eM] eW) fun jg e8=>
 B2 (cf (.func (.func 39) [] []) [v37,jg] e8) fun eS gV=>
 B1 (ld (.ptr i2 0) cW) fun kD=>
 SM eJ kD <|
 B1 (ld v41 cW) fun fS=>
 SM eM fS <|
 some (eS,gV)) (
 some ((.bool false),cW))) (
 some ((.bool false),jw))) (
 some ((.bool false),h3))
theorem aqN (J:JT)(G:GT)(cf:CF)(a0 a1:AV)(H:Hp):fB P J G aR an cf 15 [a0,a1] H=DE J G cf a0 a1 H:=by kernel_rfl
theorem KL {a0 a1:AV}{H:Hp}{r:AV × Hp}(h:DE JN GO cK a0 a1 H=some r):cK (.func (.func 15) [] []) [a0,a1] H=some r:=aO (first:=[]) (cap:=[]) ((aqN JN GO _ a0 a1 H).trans h)
noncomputable def Z7 (J:JT)(G:GT)(cf:CF)(a0 a1 a2 a3:AV)(H:Hp):R:=
 B1 (seq a0 a1) fun v0=>
 gZ v0 true (
 B1 (ld a2 H) fun v1=>
 B1 (aT v1) fun v2=>
 B1 (fa 2 v2) fun v3=>
 B1 (ld v3 H) fun v4=>
 B1 (qI .str (.str []) false v4 a0 H) fun v5=>
 B1 (ld a3 H) fun v6=>
 B1 (aT v6) fun v7=>
 B1 (fa 2 v7) fun v8=>
 B1 (ld v8 H) fun v9=>
 B1 (qI .str (.str []) false v9 a1 H) fun v10=>
 B1 (seq v5 v10) fun v11=>
 some (v11,H)) (
 some ((.bool false),H))
theorem aue {a0 a1 a2 a3:AV}{H:Hp}{r:AV × Hp}(h:Z7 JN GO cK a0 a1 a2 a3 H=some r):cK (.func (.func 34) [] [a2,a3]) [a0,a1] H=some r:=aO (first:=[]) (cap:=[a2,a3]) (aaK (by kernel_rfl) h)
noncomputable def Ua (J:JT)(G:GT)(cf:CF)(a0 a1:AV)(H:Hp):R:=
 BN (bx 77 a0 H) fun i0 h1=>
 BN (bx 77 a1 h1) fun i2 h3=>
 B1 (fa 4 (.ptr i0 0)) fun v4=>
 B1 (ld v4 h3) fun v5=>
 B1 (fa 4 (.ptr i2 0)) fun v6=>
 B1 (ld v6 h3) fun v7=>
 B1 (seq v5 v7) fun v8=>
 G v8 true (fun k9=>
 B1 (fa 0 (.ptr i0 0)) fun v10=>
 k9 v10 h3) (fun v11 di=>
 G v8 true (fun C6=>
 B1 (az 4 v11 di) fun cN=>
 C6 cN di) (fun dZ bJ=>
 G v8 true (fun Jl=>
 B1 (fa 0 (.ptr i2 0)) fun dA=>
 Jl dA bJ) (fun eZ cC=>
 G v8 true (fun BS=>
 B1 (az 4 eZ cC) fun v22=>
 BS v22 cC) (fun v23 ic=>
 G v8 true (fun BU=>
 B2 (cf (.func (.func 36) [] []) [dZ,v23] ic) fun v26 eX=>
 BU v26 eX) (fun v28 dF=>
 B1 (pk v8 v28 (.bool false)) fun v30=>
 some (v30,dF)) ic) cC) bJ) di) h3
theorem aa2 {a0 a1:AV}{H:Hp}{r:AV × Hp}(h:Ua JN GO cK a0 a1 H=some r):cK (.func (.func 35) [] []) [a0,a1] H=some r:=aO (first:=[]) (cap:=[]) (aaK (by kernel_rfl) h)
noncomputable def bl_flow_All (J:JT)(G:GT)(cf:CF)(j4:K.Fn 1)(j5:K.Fn 4)(x6 x7 x8 x9:AV)(cL:Hp):R:=
 B1 (bX x9 x8) fun v11=>
 CD v11 (
 J 4 (fun cG=>
 B1 (ia 8 x7 x9) fun dV=>
 B1 (az 8 dV cL) fun cN=>
 BN (aC cL [(.int .i64 0),(.int .i64 0),(.int .i64 0),(.int .i64 0),(.int .i64 0),(.str []),(.str []),(.str [])] 26 0) fun i15 bJ=>
 B1 (st 8 (.ptr i15 0) cN bJ) fun dO=>
 B1 (az 8 (.ptr i15 0) dO) fun dA=>
 B2 (cf (.func (.func 16) [] []) [x6,dA] dO) fun eZ cC=>
 cG x6 x7 x8 x9 cC) (fun aJ aE bp bM dP=>
 B1 (bU bM (.int .i64 1)) fun v26=>
 j5 aJ aE bp v26 dP)) (
 j4 x6 cL)
noncomputable def J0 (J:JT)(G:GT)(cf:CF)(j4:K.Fn 1):K.Fn 4:=dB P an J G cf 13 [1,1,0,1,0,0] [3,7,8,9] (fun q t H=>match Nat.beq q 0 with | true=>app 1 j4 (aw [3] t) H | false=>(fun _ _ _=>none) q t H)
theorem aec (cf:CF)(j4:K.Fn 1)(x6 x7 x8 x9:AV)(cL:Hp):J0 JN GO cf j4 x6 x7 x8 x9 cL=bl_flow_All JN GO cf j4 (J0 JN GO cf j4) x6 x7 x8 x9 cL:=aaK (b:=app 4 (J0 JN GO cf j4) [x6,x7,x8,x9] cL) (by kernel_rfl) ((dQ cf 13 [1,1,0,1,0,0] [3,7,8,9] _ [x6,x7,x8,x9] rfl cL).trans (by kernel_rfl))
noncomputable def Xe (J:JT)(G:GT)(cf:CF)(a0:AV)(H:Hp):R:=
 B2 (cf (.func (.func 18) [] []) [] H) fun v0 h1=>
 J 1 (fun j2=>
 B1 (aK a0) fun v3=>
 J 1 (fun j4=>
 J0 J G cf j4 v0 a0 v3 (.int .i64 0) h1) (fun cY gQ=>
 j2 cY gQ)) (fun cP mi=>
 some (cP,mi))
theorem alP {a0:AV}{H:Hp}{r:AV × Hp}(h:Xe JN GO cK a0 H=some r):cK (.func (.func 13) [] []) [a0] H=some r:=aO (first:=[]) (cap:=[]) (aaK (by kernel_rfl) h)
noncomputable def AI (J:JT)(G:GT)(cf:CF)(iy:K.Fn 2)(zt:K.Fn 5)(lC my nj tV pM:AV)(oF:Hp):R:=
 B1 (bX pM tV) fun zA=>
 CD zA (
 J 5 (fun ap8=>
 J 7 (fun amn=>
 B1 (ia 1 nj pM) fun v145=>
 B1 (ld v145 oF) fun v146=>
 amn lC my pM v146 nj tV pM oF) (fun CT BX Aw zD pF oQ w8 Bg=>
 J 8 (fun awP=>
 B1 (fa 2 CT) fun Ht=>
 B1 (ld Ht Bg) fun v157=>
 B1 (ia 1 v157 Aw) fun RZ=>
 B1 (ld RZ Bg) fun v159=>
 B2 (cf (.func (.func 53) [] []) [v159] Bg) fun v160 QJ=>
 B1 (ex 0 v160) fun v162=>
 B1 (ex 1 v160) fun X4=>
 BN (aC QJ [.ae] 72 0) fun i164 Ec=>
 B1 (st 1 (.ptr i164 0) v162 Ec) fun R0=>
 awP CT BX Aw zD (.ptr i164 0) pF oQ w8 R0) (fun vT yb Br Fe Mr xo uI yx uA=>
 J 6 (fun Ur=>
 B2 (cf (.func (.func 54) [] []) [Fe] uA) fun C0 wJ=>
 B1 (eu .not C0) fun SY=>
 gZ SY false (
 B1 (az 1 Mr wJ) fun QA=>
 B2 (cf (.func (.func 55) [] []) [QA] wJ) fun Sf ES=>
 B1 (fa 2 vT) fun v183=>
 B1 (ld v183 ES) fun CR=>
 B1 (ia 1 CR Br) fun KJ=>
 B1 (ld KJ ES) fun HJ=>
 B1 (qL Sf HJ) fun Rt=>
 gZ Rt false (
 B1 (fa 2 vT) fun Vu=>
 B1 (ld Vu ES) fun UF=>
 B1 (ia 1 UF Br) fun PB=>
 B1 (ld PB ES) fun af7=>
 B2 (cf (.func (.func 40) [] []) [yb,Fe,af7] ES) fun aoH UZ=>
 B1 (eT aoH (.int .i64 0)) fun v194=>
 B1 (ld v183 wJ) fun afY=>
 SM CR afY <|
 B1 (ld KJ wJ) fun v196=>
 SM HJ v196 <|
 Ur vT yb xo uI yx v194 UZ) (
 B1 (ld v183 wJ) fun akD=>
 SM CR akD <|
 B1 (ld KJ wJ) fun v198=>
 SM HJ v198 <|
 Ur vT yb xo uI yx (.bool true) ES)) (
 Ur vT yb xo uI yx (.bool true) wJ)) (fun Sk HE Ja GC Sg aoN adw=>
 CD aoN (
 some (.tuple [.dR,(.int .i64 2)],adw)) (
 ap8 Sk HE Ja GC Sg adw))))) (fun GB Ul F0 Pv afX ah0=>
 B1 (bU afX (.int .i64 1)) fun v212=>
 zt GB Ul F0 Pv v212 ah0)) (
 iy lC my oF)
noncomputable def C7 (J:JT)(G:GT)(cf:CF)(iy:K.Fn 2):K.Fn 5:=dB P an J G cf 22 [1,1,1,1,0,1,0,0] [1,4,62,63,64] (fun q t H=>match Nat.beq q 0 with | true=>app 2 iy (aw [1,4] t) H | false=>(fun _ _ _=>none) q t H)
theorem akG (J:JT)(G:GT)(cf:CF)(iy:K.Fn 2)(zt:K.Fn 5)(lC my nj tV pM:AV)(oF:Hp):jb P an J G cf 22 [1,1,1,1,0,1,0,0] [1,4,62,63,64] (fun q t H=>match Nat.beq q 0 with | true=>app 2 iy (aw [1,4] t) H | false=>(fun _ _ _=>none) q t H) zt [lC,my,nj,tV,pM] oF=AI J G cf iy zt lC my nj tV pM oF:=by kernel_rfl
theorem abG (cf:CF)(iy:K.Fn 2)(lC my nj tV pM:AV)(oF:Hp):C7 JN GO cf iy lC my nj tV pM oF=AI JN GO cf iy (C7 JN GO cf iy) lC my nj tV pM oF:=aaK (b:=app 5 (C7 JN GO cf iy) [lC,my,nj,tV,pM] oF) (by kernel_rfl) ((dQ cf _ _ _ _ [lC,my,nj,tV,pM] rfl oF).trans (akG JN GO cf iy _ lC my nj tV pM oF))
noncomputable def Cj (J:JT)(G:GT)(cf:CF)(jr:K.Fn 2)(Fb:K.Fn 5)(wL wR xf wI tA:AV)(rU:Hp):R:=
 B1 (bX tA wI) fun awh=>
 CD awh (
 J 5 (fun apx=>
 J 7 (fun asR=>
 B1 (ia 4 xf tA) fun v234=>
 B1 (az 4 v234 rU) fun ai7=>
 BN (aC rU [.ae,(.int .i64 0),.ae,.ae] 75 0) fun i236 aog=>
 B1 (st 4 (.ptr i236 0) ai7 aog) fun Ki=>
 asR wL wR tA (.ptr i236 0) xf wI tA Ki) (fun acu V3 adp aob ajN ajv ann S9=>
 J 9 (fun aud=>
 B1 (fa 4 acu) fun Ut=>
 B1 (ld Ut S9) fun P7=>
 B1 (ia 1 P7 adp) fun QE=>
 B1 (ld QE S9) fun auZ=>
 B2 (cf (.func (.func 56) [] []) [V3,auZ] S9) fun LZ au1=>
 B1 (ex 0 LZ) fun asA=>
 B1 (ex 1 LZ) fun anH=>
 BN (aC au1 [.ae] 72 0) fun i256 am0=>
 B1 (st 1 (.ptr i256 0) asA am0) fun asz=>
 aud acu V3 adp aob (.ptr i256 0) anH ajN ajv ann asz) (fun auC Uf Sn N0 PL Pp ajx as2 aqf Kz=>
 J 7 (fun apa=>
 J 8 (fun alh=>
 B1 (eu .not Pp) fun It=>
 G It false (fun avM=>
 B1 (az 4 N0 Kz) fun agW=>
 avM agW Kz) (fun ags Qh=>
 G It false (fun ai9=>
 B1 (az 1 PL Qh) fun aoY=>
 ai9 aoY Qh) (fun alR aeZ=>
 G It false (fun apS=>
 B2 (cf (.func (.func 57) [] []) [ags,alR] aeZ) fun anb agk=>
 apS anb agk) (fun aur aeN=>
 G It false (fun aoK=>
 B1 (eu .not aur) fun arZ=>
 aoK arZ aeN) (fun anm asg=>
 B1 (pk It (.bool true) anm) fun aup=>
 alh auC Uf Sn N0 ajx as2 aqf aup asg) aeN) aeZ) Qh) Kz) (fun aqz aiJ ajB alM avE aqX akq aiQ aeP=>
 CD aiQ (
 some (.tuple [.dR,(.int .i64 2)],aeP)) (
 apa aqz aiJ ajB alM avE aqX akq aeP))) (fun WN U6 alB awG agx aqd asX Js=>
 B1 (aT U6) fun av3=>
 B1 (fa 3 av3) fun QF=>
 B1 (ld QF Js) fun O3=>
 B1 (az 4 awG Js) fun af6=>
 B2 (cf (.func (.func 58) [] []) [af6] Js) fun agr KU=>
 B1 (fa 4 WN) fun aaR=>
 B1 (ld aaR KU) fun Y4=>
 B1 (ia 1 Y4 alB) fun aas=>
 B1 (ld aas KU) fun afU=>
 B1 (fl [.ae,(.int .i64 0),.ae,.ae,(.str [])] [(0,4,agr),(4,1,afU)]) fun auD=>
 B1 (fl [.ae,(.int .i64 0),.ae,.ae,(.str [])] [(0,5,(.agg auD))]) fun agd=>
 BN (aC KU agd 77 0) fun asN YO=>
 B2 (eV 77 5 [.ae,(.int .i64 0),.ae,.ae,(.str [])] false O3 (.slice asN 0 1 1 true 5) YO) fun agz asv=>
 B1 (aT U6) fun auX=>
 B1 (fa 3 auX) fun ang=>
 B1 (st 1 ang agz asv) fun aiP=>
 B1 (ld QF KU) fun ah9=>
 SM O3 ah9 <|
 B1 (ld aaR Js) fun arx=>
 SM Y4 arx <|
 B1 (ld aas Js) fun arH=>
 SM afU arH <|
 B1 (ld QF YO) fun aps=>
 SM O3 aps <|
 apx WN U6 agx aqd asX aiP)))) (fun asI al4 arL atQ akv awk=>
 B1 (bU akv (.int .i64 1)) fun alf=>
 Fb asI al4 arL atQ alf awk)) (
 jr wL wR rU)
noncomputable def CN (J:JT)(G:GT)(cf:CF)(jr:K.Fn 2):K.Fn 5:=dB P an J G cf 22 [1,1,1,1,1,0,1,0,0] [1,4,104,105,106] (fun q t H=>match Nat.beq q 2 with | true=>app 2 jr (aw [1,4] t) H | false=>(fun _ _ _=>none) q t H)
theorem awo (J:JT)(G:GT)(cf:CF)(jr:K.Fn 2)(Fb:K.Fn 5)(wL wR xf wI tA:AV)(rU:Hp):jb P an J G cf 22 [1,1,1,1,1,0,1,0,0] [1,4,104,105,106] (fun q t H=>match Nat.beq q 2 with | true=>app 2 jr (aw [1,4] t) H | false=>(fun _ _ _=>none) q t H) Fb [wL,wR,xf,wI,tA] rU=Cj J G cf jr Fb wL wR xf wI tA rU:=by kernel_rfl
theorem Yd (cf:CF)(jr:K.Fn 2)(wL wR xf wI tA:AV)(rU:Hp):CN JN GO cf jr wL wR xf wI tA rU=Cj JN GO cf jr (CN JN GO cf jr) wL wR xf wI tA rU:=aaK (b:=app 5 (CN JN GO cf jr) [wL,wR,xf,wI,tA] rU) (by kernel_rfl) ((dQ cf _ _ _ _ [wL,wR,xf,wI,tA] rfl rU).trans (awo JN GO cf jr _ wL wR xf wI tA rU))
noncomputable def uV (J:JT)(G:GT)(cf:CF)(fF:K.Fn 1)(LQ:K.Fn 4)(pB rz rm qB:AV)(uD:Hp):R:=
 B1 (bX qB rm) fun anv=>
 CD anv (
 J 4 (fun af3=>
 B1 (ia 3 rz qB) fun agT=>
 B1 (az 3 agT uD) fun awv=>
 BN (aC uD [(.str []),(.str []),(.int .i64 0)] 82 0) fun uT ahE=>
 B1 (st 3 (.ptr uT 0) awv ahE) fun rS=>
 J 5 (fun atv=>
 J 6 (fun IQ=>
 B1 (fa 2 (.ptr uT 0)) fun atP=>
 B1 (ld atP rS) fun atA=>
 B1 (bX atA (.int .i64 1)) fun ant=>
 gZ ant false (
 B1 (fa 2 (.ptr uT 0)) fun aoM=>
 B1 (ld aoM rS) fun aka=>
 B1 (aT pB) fun aws=>
 B1 (fa 3 aws) fun aqD=>
 B1 (ld aqD rS) fun an8=>
 B1 (aK an8) fun avS=>
 B1 (jA aka avS) fun asm=>
 gZ asm false (
 B1 (aT pB) fun aop=>
 B1 (fa 3 aop) fun amV=>
 B1 (ld amV rS) fun agI=>
 B1 (fa 2 (.ptr uT 0)) fun avK=>
 B1 (ld avK rS) fun agU=>
 B1 (nW agU (.int .i64 1)) fun amb=>
 B1 (ia 5 agI amb) fun aol=>
 B1 (fa 4 aol) fun arQ=>
 B1 (ld arQ rS) fun aoa=>
 B1 (fa 0 (.ptr uT 0)) fun akZ=>
 B1 (fa 0 akZ) fun anN=>
 B1 (ld anN rS) fun anD=>
 B1 (qL aoa anD) fun awg=>
 gZ awg false (
 B1 (fa 0 (.ptr uT 0)) fun aoI=>
 B1 (fa 1 aoI) fun ap5=>
 B1 (ld ap5 rS) fun al6=>
 B1 (seq al6 (.str [])) fun alS=>
 gZ alS false (
 B1 (fa 0 (.ptr uT 0)) fun amB=>
 B1 (fa 1 amB) fun aix=>
 B1 (ld aix rS) fun ahe=>
 B1 (lens ahe) fun anI=>
 B1 (jA anI (.int .i64 16)) fun aoP=>
 IQ pB (.ptr uT 0) rz rm qB aoP rS) (
 IQ pB (.ptr uT 0) rz rm qB (.bool true) rS)) (
 IQ pB (.ptr uT 0) rz rm qB (.bool true) rS)) (
 IQ pB (.ptr uT 0) rz rm qB (.bool true) rS)) (
 IQ pB (.ptr uT 0) rz rm qB (.bool true) rS)) (fun anP aly ajj apD apA atb ad6=>
 CD atb (
 some (.tuple [.dR,(.int .i64 2)],ad6)) (
 atv anP aly ajj apD apA ad6))) (fun aaj Wo au6 avP am5 NW=>
 J 5 (fun aiK=>
 B1 (aT aaj) fun at6=>
 B1 (fa 4 at6) fun awN=>
 B1 (ld awN NW) fun atl=>
 B1 (fa 0 Wo) fun aqU=>
 B1 (az 2 aqU NW) fun anV=>
 B1 (fa 2 Wo) fun avh=>
 B1 (ld avh NW) fun aqM=>
 B2 (cf (.func (.func 33) [] []) [atl,anV,aqM] NW) fun Xt ahK=>
 B1 (ex 0 Xt) fun axf=>
 B1 (ex 1 Xt) fun atJ=>
 aiK aaj atJ au6 avP am5 ahK) (fun ag6 apk agS arN ah1 YH=>
 B1 (eu .not apk) fun aoq=>
 CD aoq (
 some (.tuple [.dR,(.int .i64 2)],YH)) (
 af3 ag6 agS arN ah1 YH)))) (fun anY anU awa alx av6=>
 B1 (bU alx (.int .i64 1)) fun al8=>
 LQ anY anU awa al8 av6)) (
 fF pB uD)
noncomputable def zL (J:JT)(G:GT)(cf:CF)(fF:K.Fn 1):K.Fn 4:=dB P an J G cf 22 [1,1,1,1,1,1,0,1,0,0] [4,148,149,150] (fun q t H=>match Nat.beq q 4 with | true=>app 1 fF (aw [4] t) H | false=>(fun _ _ _=>none) q t H)
theorem ajq (J:JT)(G:GT)(cf:CF)(fF:K.Fn 1)(LQ:K.Fn 4)(pB rz rm qB:AV)(uD:Hp):jb P an J G cf 22 [1,1,1,1,1,1,0,1,0,0] [4,148,149,150] (fun q t H=>match Nat.beq q 4 with | true=>app 1 fF (aw [4] t) H | false=>(fun _ _ _=>none) q t H) LQ [pB,rz,rm,qB] uD=uV J G cf fF LQ pB rz rm qB uD:=by kernel_rfl
theorem afa (cf:CF)(fF:K.Fn 1)(pB rz rm qB:AV)(uD:Hp):zL JN GO cf fF pB rz rm qB uD=uV JN GO cf fF (zL JN GO cf fF) pB rz rm qB uD:=aaK (b:=app 4 (zL JN GO cf fF) [pB,rz,rm,qB] uD) (by kernel_rfl) ((dQ cf _ _ _ _ [pB,rz,rm,qB] rfl uD).trans (ajq JN GO cf fF _ pB rz rm qB uD))
noncomputable def uX (J:JT)(G:GT)(cf:CF)(a0:AV)(H:Hp):R:=
 BN (bx 50 a0 H) fun i0 h1=>
 B2 (cf (.func (.func 18) [] []) [] h1) fun v2 h3=>
 J 2 (fun j4=>
 J 3 (fun j5=>
 B1 (fa 0 (.ptr i0 0)) fun v6=>
 B1 (ld v6 h3) fun v7=>
 B1 (bX v7 (.int .i64 0)) fun v8=>
 G v8 false (fun k9=>
 B1 (fa 0 (.ptr i0 0)) fun v10=>
 k9 v10 h3) (fun v11 di=>
 G v8 false (fun C6=>
 B1 (ld v11 di) fun cN=>
 C6 cN di) (fun dZ bJ=>
 G v8 false (fun Jl=>
 B1 (jA dZ (.int .i64 1099511627776)) fun dA=>
 Jl dA bJ) (fun eZ cC=>
 B1 (pk v8 (.bool true) eZ) fun v21=>
 G v21 false (fun Iv=>
 B1 (fa 1 (.ptr i0 0)) fun v23=>
 Iv v23 cC) (fun v24 dP=>
 G v21 false (fun Ck=>
 B1 (ld v24 dP) fun v27=>
 Ck v27 dP) (fun v28 dF=>
 G v21 false (fun IF=>
 B1 (aK v28) fun v31=>
 IF v31 dF) (fun v32 mI=>
 G v21 false (fun KD=>
 B1 (fa 2 (.ptr i0 0)) fun v35=>
 KD v35 mI) (fun v36 gr=>
 G v21 false (fun xi=>
 B1 (ld v36 gr) fun eJ=>
 xi eJ gr) (fun v40 dH=>
 G v21 false (fun B4=>
 B1 (aK v40) fun jg=>
 B4 jg dH) (fun v44 jF=>
 G v21 false (fun KC=>
 B1 (eT v32 v44) fun kD=>
 KC kD jF) (fun fS np=>
 B1 (pk v21 (.bool true) fS) fun fN=>
 G fN false (fun HW=>
 B1 (fa 3 (.ptr i0 0)) fun fI=>
 HW fI np) (fun v53 nu=>
 G fN false (fun I2=>
 B1 (ld v53 nu) fun kN=>
 I2 kN nu) (fun v57 iG=>
 G fN false (fun Dm=>
 B1 (aK v57) fun fW=>
 Dm fW iG) (fun nQ gz=>
 G fN false (fun vh=>
 B1 (fa 4 (.ptr i0 0)) fun v64=>
 vh v64 gz) (fun lB eI=>
 G fN false (fun k67=>
 B1 (ld lB eI) fun nX=>
 k67 nX eI) (fun mT qo=>
 G fN false (fun Pr=>
 B1 (aK mT) fun v72=>
 Pr v72 qo) (fun jo wK=>
 G fN false (fun U1=>
 B1 (eT nQ jo) fun v76=>
 U1 v76 wK) (fun vd va=>
 B1 (pk fN (.bool true) vd) fun mf=>
 G mf false (fun JV=>
 B1 (fa 3 (.ptr i0 0)) fun kE=>
 JV kE va) (fun mS qG=>
 G mf false (fun GH=>
 B1 (ld mS qG) fun v85=>
 GH v85 qG) (fun sK nh=>
 G mf false (fun G3=>
 B1 (aK sK) fun tI=>
 G3 tI nh) (fun pE wh=>
 G mf false (fun Pg=>
 B1 (jA pE (.int .i64 64)) fun v93=>
 Pg v93 wh) (fun tn iC=>
 B1 (pk mf (.bool true) tn) fun lF=>
 G lF false (fun PU=>
 B1 (fa 5 (.ptr i0 0)) fun xE=>
 PU xE iC) (fun wu uP=>
 G lF false (fun k101=>
 B1 (ld wu uP) fun uo=>
 k101 uo uP) (fun vC CX=>
 G lF false (fun k105=>
 B1 (aK vC) fun Ac=>
 k105 Ac CX) (fun v107 Mz=>
 G lF false (fun akz=>
 B1 (jA v107 (.int .i64 128)) fun JD=>
 akz JD Mz) (fun yL we=>
 B1 (pk lF (.bool true) yL) fun vc=>
 j5 (.ptr i0 0) v2 vc we) Mz) CX) uP) iC) wh) nh) qG) va) wK) qo) eI) gz) iG) nu) np) jF) dH) gr) mI) dF) dP) cC) bJ) di) h3) (fun mQ oz mY ou=>
 CD mY (
 some (.tuple [.dR,(.int .i64 2)],ou)) (
 j4 mQ oz ou))) (fun wS rO Bw=>
 J 2 (fun avZ=>
 B1 (fa 0 wS) fun tK=>
 B1 (ld tK Bw) fun w7=>
 B1 (aT rO) fun v124=>
 B1 (fa 0 v124) fun yg=>
 B1 (st 1 yg w7 Bw) fun Hk=>
 avZ wS rO Hk) (fun gW il yP=>
 J 2 (fun aii=>
 B1 (fa 1 gW) fun v131=>
 B1 (ld v131 yP) fun Fw=>
 B1 (aK Fw) fun CG=>
 J 2 (fun iy=>
 C7 J G cf iy gW il Fw CG (.int .i64 0) yP) (fun SI ao4 asj=>
 aii SI ao4 asj)) (fun Yf vf aeH=>
 J 2 (fun asE=>
 B1 (fa 3 Yf) fun as8=>
 B1 (ld as8 aeH) fun ab9=>
 B1 (aK ab9) fun v222=>
 J 2 (fun jr=>
 CN J G cf jr Yf vf ab9 v222 (.int .i64 0) aeH) (fun auF awt ajn=>
 asE auF awt ajn)) (fun alX amD VH=>
 J 1 (fun avF=>
 B1 (fa 5 alX) fun agC=>
 B1 (ld agC VH) fun WK=>
 B1 (aK WK) fun aqx=>
 J 1 (fun fF=>
 zL J G cf fF amD WK aqx (.int .i64 0) VH) (fun ao3 as6=>
 avF ao3 as6)) (fun asb awe=>
 some (.tuple [asb,(.int .i64 0)],awe))))))
theorem aod (J:JT)(G:GT)(cf:CF)(a0:AV)(H:Hp):fB P J G aR an cf 22 [a0] H=uX J G cf a0 H:=by kernel_rfl
theorem xV {a0:AV}{H:Hp}{r:AV × Hp}(h:uX JN GO cK a0 H=some r):cK (.func (.func 22) [] []) [a0] H=some r:=aO (first:=[]) (cap:=[]) ((aod JN GO _ a0 H).trans h)
noncomputable def aeg (J:JT)(G:GT)(cf:CF)(a0 a1 a2:AV)(H:Hp):R:=
 B1 (mH a0 a1) fun v0=>
 G v0 true (fun k1=>
 k1 a0 H) (fun v2 h3=>
 G v0 true (fun k4=>
 k4 a2 h3) (fun v5 h6=>
 G v0 true (fun k7=>
 B1 (oJ v2 v5) fun v8=>
 k7 v8 h6) (fun v9 cL=>
 B1 (pk v0 v9 (.bool false)) fun v11=>
 some (v11,cL)) h6) h3) H
theorem aoj {a0 a1 a2:AV}{H:Hp}{r:AV × Hp}(h:aeg JN GO cK a0 a1 a2 H=some r):cK (.func (.func 93) [] []) [a0,a1,a2] H=some r:=aO (first:=[]) (cap:=[]) (aaK (by kernel_rfl) h)
noncomputable def uy (J:JT)(G:GT)(cf:CF)(lS:K.Fn 2)(BI:K.Fn 5)(iW ig mQ oz mY:AV)(ou:Hp):R:=
 B1 (bX mY oz) fun xQ=>
 CD xQ (
 J 5 (fun VC=>
 J 7 (fun aun=>
 B1 (ia 4 mQ mY) fun I1=>
 B1 (az 4 I1 ou) fun tK=>
 BN (aC ou [(.int .i64 0),(.int .i64 0),(.int .i64 0),(.str [])] 132 0) fun i123 wc=>
 B1 (st 4 (.ptr i123 0) tK wc) fun zY=>
 aun iW ig mY (.ptr i123 0) mQ oz mY zY) (fun jk gW il jK jx mc ji lR=>
 J 8 (fun iy=>
 B1 (fa 0 jK) fun GX=>
 B1 (ld GX lR) fun Hf=>
 B1 (cl Hf (.int .i64 2)) fun xO=>
 G xO false (fun alI=>
 B1 (fa 0 jK) fun v139=>
 alI v139 lR) (fun vG oF=>
 G xO false (fun arB=>
 B1 (ld vG oF) fun v143=>
 arB v143 oF) (fun Ji Wc=>
 G xO false (fun amW=>
 B1 (cl Ji (.int .i64 5)) fun zp=>
 amW zp Wc) (fun v148 Fp=>
 B1 (pk xO (.bool true) v148) fun Jb=>
 iy jk gW il jK Jb jx mc ji Fp) Wc) oF) lR) (fun pF oQ w8 vR PM xh tO tN Eu=>
 J 6 (fun Cz=>
 B1 (fa 0 vR) fun HR=>
 B1 (ld HR Eu) fun v162=>
 B2 (cf (.func (.func 93) [] []) [v162,(.int .i64 0),(.int .i64 5)] Eu) fun X4 Kb=>
 B1 (eu .not X4) fun ahp=>
 gZ ahp false (
 B1 (fa 1 vR) fun avt=>
 B1 (ld avt Kb) fun v167=>
 B1 (fa 0 oQ) fun v168=>
 B1 (ld v168 Kb) fun auR=>
 B1 (ia 6 auR w8) fun SC=>
 B1 (fa 2 SC) fun v171=>
 B1 (ld v171 Kb) fun Rk=>
 B1 (bU Rk (.int .i64 1)) fun v173=>
 B2 (cf (.func (.func 93) [] []) [v167,(.int .i64 0),v173] Kb) fun apI uA=>
 B1 (eu .not apI) fun ai0=>
 gZ ai0 false (
 B1 (fa 3 vR) fun C0=>
 B1 (ld C0 uA) fun anl=>
 B1 (lens anl) fun SY=>
 B1 (jA SY (.int .i64 64)) fun QA=>
 gZ QA false (
 B1 (fa 2 vR) fun Sf=>
 B1 (ld Sf uA) fun v182=>
 B1 (bX v182 (.int .i64 0)) fun v183=>
 gZ v183 false (
 B1 (fa 2 vR) fun CR=>
 B1 (ld CR uA) fun KJ=>
 B1 (jA KJ (.int .i64 1099511691776)) fun HJ=>
 gZ HJ false (
 B1 (eu .not PM) fun Rt=>
 gZ Rt true (
 B1 (fa 2 vR) fun Vu=>
 B1 (ld Vu uA) fun UF=>
 B1 (eT UF (.int .i64 0)) fun PB=>
 Cz pF oQ xh tO tN PB uA) (
 Cz pF oQ xh tO tN (.bool false) uA)) (
 Cz pF oQ xh tO tN (.bool true) uA)) (
 Cz pF oQ xh tO tN (.bool true) uA)) (
 Cz pF oQ xh tO tN (.bool true) uA)) (
 Cz pF oQ xh tO tN (.bool true) uA)) (
 Cz pF oQ xh tO tN (.bool true) Kb)) (fun Jv PY aoD Te HV O2 aeF=>
 CD O2 (
 some ((.bool false),aeF)) (
 VC Jv PY aoD Te HV aeF))))) (fun IA Sk HE Ja GC avH=>
 B1 (bU GC (.int .i64 1)) fun apT=>
 BI IA Sk HE Ja apT avH)) (
 lS iW ig ou)
noncomputable def FF (J:JT)(G:GT)(cf:CF)(lS:K.Fn 2):K.Fn 5:=dB P an J G cf 57 [1,1,1,1,1,0,1,0,0] [2,3,48,49,50] (fun q t H=>match Nat.beq q 0 with | true=>app 2 lS (aw [2,3] t) H | false=>(fun _ _ _=>none) q t H)
theorem aow (J:JT)(G:GT)(cf:CF)(lS:K.Fn 2)(BI:K.Fn 5)(iW ig mQ oz mY:AV)(ou:Hp):jb P an J G cf 57 [1,1,1,1,1,0,1,0,0] [2,3,48,49,50] (fun q t H=>match Nat.beq q 0 with | true=>app 2 lS (aw [2,3] t) H | false=>(fun _ _ _=>none) q t H) BI [iW,ig,mQ,oz,mY] ou=uy J G cf lS BI iW ig mQ oz mY ou:=by kernel_rfl
theorem TK (cf:CF)(lS:K.Fn 2)(iW ig mQ oz mY:AV)(ou:Hp):FF JN GO cf lS iW ig mQ oz mY ou=uy JN GO cf lS (FF JN GO cf lS) iW ig mQ oz mY ou:=aaK (b:=app 5 (FF JN GO cf lS) [iW,ig,mQ,oz,mY] ou) (by kernel_rfl) ((dQ cf _ _ _ _ [iW,ig,mQ,oz,mY] rfl ou).trans (aow JN GO cf lS _ iW ig mQ oz mY ou))
noncomputable def Ca (J:JT)(G:GT)(cf:CF)(mg:K.Fn 0)(NB:K.Fn 5)(vf yl wD wF ui:AV)(vn:Hp):R:=
 B1 (bX ui wF) fun atX=>
 CD atX (
 J 5 (fun Fb=>
 J 7 (fun ajX=>
 B1 (ia 1 wD ui) fun v226=>
 B1 (ld v226 vn) fun v227=>
 BN (aC vn [(.str [])] 9 0) fun i228 ama=>
 B1 (st 1 (.ptr i228 0) v227 ama) fun rU=>
 ajX vf yl ui (.ptr i228 0) wD wF ui rU) (fun Mn Nd alg Qm Sb Pf Uj Ki=>
 J 6 (fun UG=>
 B1 (fa 3 Mn) fun ak3=>
 B1 (ld ak3 Ki) fun ahH=>
 B1 (qE 1 ahH none (some alg) none) fun amT=>
 B1 (ld Qm Ki) fun avm=>
 B2 (cf (.func (.func 94) [] []) [amT,avm] Ki) fun agP IC=>
 gZ agP false (
 B1 (ld Qm IC) fun av5=>
 B1 (seq av5 (.str [])) fun ate=>
 gZ ate false (
 B1 (fa 0 Nd) fun Ut=>
 B1 (ld Ut IC) fun P7=>
 B2 (cf (.func (.func 95) [] []) [P7,(.func (.func 96) [] [Qm])] IC) fun QE auu=>
 B1 (eu .not QE) fun LZ=>
 UG Mn Nd Sb Pf Uj LZ auu) (
 UG Mn Nd Sb Pf Uj (.bool true) IC)) (
 UG Mn Nd Sb Pf Uj (.bool true) IC)) (fun al0 avR arF alo ale auP aaP=>
 CD auP (
 some ((.bool false),aaP)) (
 Fb al0 avR arF alo ale aaP)))) (fun Uf Sn N0 PL Pp agv=>
 B1 (bU Pp (.int .i64 1)) fun aiF=>
 NB Uf Sn N0 PL aiF agv)) (
 mg  vn)
noncomputable def Hs (J:JT)(G:GT)(cf:CF)(mg:K.Fn 0):K.Fn 5:=dB P an J G cf 57 [1,1,1,1,1,1,0,1,0,0] [2,3,107,108,109] (fun q t H=>match Nat.beq q 2 with | true=>app 0 mg (aw [] t) H | false=>(fun _ _ _=>none) q t H)
theorem ajr (J:JT)(G:GT)(cf:CF)(mg:K.Fn 0)(NB:K.Fn 5)(vf yl wD wF ui:AV)(vn:Hp):jb P an J G cf 57 [1,1,1,1,1,1,0,1,0,0] [2,3,107,108,109] (fun q t H=>match Nat.beq q 2 with | true=>app 0 mg (aw [] t) H | false=>(fun _ _ _=>none) q t H) NB [vf,yl,wD,wF,ui] vn=Ca J G cf mg NB vf yl wD wF ui vn:=by kernel_rfl
theorem JP (cf:CF)(mg:K.Fn 0)(vf yl wD wF ui:AV)(vn:Hp):Hs JN GO cf mg vf yl wD wF ui vn=Ca JN GO cf mg (Hs JN GO cf mg) vf yl wD wF ui vn:=aaK (b:=app 5 (Hs JN GO cf mg) [vf,yl,wD,wF,ui] vn) (by kernel_rfl) ((dQ cf _ _ _ _ [vf,yl,wD,wF,ui] rfl vn).trans (ajr JN GO cf mg _ vf yl wD wF ui vn))
noncomputable def Bc (J:JT)(G:GT)(cf:CF)(a0 a1:AV)(H:Hp):R:=
 BN (bx 75 a0 H) fun i0 h1=>
 BN (bx 72 a1 h1) fun i2 h3=>
 J 4 (fun j4=>
 B1 (az 1 (.ptr i2 0) h3) fun v5=>
 B2 (cf (.func (.func 76) [] []) [v5] h3) fun v6 h7=>
 B1 (ex 0 v6) fun v8=>
 B1 (ex 1 v6) fun v9=>
 BN (aC h7 [.ae,(.int .i64 0),.ae,.ae] 75 0) fun i10 gq=>
 B1 (st 4 (.ptr i10 0) v8 gq) fun di=>
 j4 (.ptr i0 0) (.ptr i2 0) (.ptr i10 0) v9 di) (fun br bH bu aS dO=>
 J 3 (fun zw=>
 J 4 (fun cF=>
 B1 (eT aS (.int .i64 0)) fun v20=>
 G v20 false (fun BS=>
 B1 (fa 1 br) fun v22=>
 BS v22 dO) (fun v23 ic=>
 G v20 false (fun BU=>
 B1 (ld v23 ic) fun v26=>
 BU v26 ic) (fun v27 gQ=>
 G v20 false (fun IM=>
 B2 (cf (.func (.func 93) [] []) [v27,(.int .i64 0),(.int .i64 3)] gQ) fun v30 gf=>
 IM v30 gf) (fun v32 mI=>
 G v20 false (fun KD=>
 B1 (eu .not v32) fun v35=>
 KD v35 mI) (fun v36 gr=>
 B1 (pk v20 (.bool true) v36) fun iv=>
 G iv false (fun zM=>
 B1 (fa 2 br) fun v40=>
 zM v40 gr) (fun v41 dW=>
 G iv false (fun wO=>
 B1 (ld v41 dW) fun v44=>
 wO v44 dW) (fun eS gV=>
 G iv false (fun Cx=>
 B1 (aK eS) fun fS=>
 Cx fS gV) (fun v49 jW=>
 G iv false (fun HW=>
 B1 (fa 0 bH) fun fI=>
 HW fI jW) (fun v53 nu=>
 G iv false (fun I2=>
 B1 (ld v53 nu) fun kN=>
 I2 kN nu) (fun v57 iG=>
 G iv false (fun Dm=>
 B1 (aK v57) fun fW=>
 Dm fW iG) (fun nQ gz=>
 G iv false (fun vh=>
 B1 (eT v49 nQ) fun v64=>
 vh v64 gz) (fun lB eI=>
 B1 (pk iv (.bool true) lB) fun lX=>
 cF br bH bu lX eI) gz) iG) nu) jW) gV) dW) gr) mI) gQ) ic) dO) (fun gU jz jO pV me=>
 CD pV (
 some ((.bool false),me)) (
 zw gU jz jO me))) (fun fU gT jX lf=>
 J 3 (fun RE=>
 B1 (fa 1 fU) fun qh=>
 B1 (ld qh lf) fun mf=>
 B1 (fa 2 fU) fun v80=>
 B1 (ld v80 lf) fun kE=>
 B1 (fa 3 fU) fun mS=>
 B1 (ld mS lf) fun mX=>
 B1 (fa 1 jX) fun Dr=>
 B1 (st 1 Dr mf lf) fun pw=>
 B1 (fa 2 jX) fun sK=>
 B1 (st 1 sK kE pw) fun nh=>
 B1 (fa 3 jX) fun yQ=>
 B1 (st 1 yQ mX nh) fun qX=>
 B1 (ld v80 pw) fun pE=>
 SM kE pE <|
 B1 (ld mS pw) fun v91=>
 SM mX v91 <|
 B1 (ld mS nh) fun yM=>
 SM mX yM <|
 RE fU gT jX qX) (fun jI iQ qd Cm=>
 J 2 (fun gR=>
 B1 (az 4 qd Cm) fun xE=>
 B1 (az 4 jI Cm) fun wu=>
 B2 (cf (.func (.func 36) [] []) [xE,wu] Cm) fun CZ tc=>
 B1 (eu .not CZ) fun uo=>
 CD uo (
 some ((.bool false),tc)) (
 gR jI iQ tc)) (fun En Qw uO=>
 J 2 (fun mB=>
 B1 (fa 2 En) fun v107=>
 B1 (ld v107 uO) fun vD=>
 B1 (aK vD) fun v109=>
 J 2 (fun lS=>
 FF J G cf lS En Qw vD v109 (.int .i64 0) uO) (fun QY GB ajL=>
 mB QY GB ajL)) (fun F0 Pv Xv=>
 J 0 (fun aoS=>
 B1 (fa 3 F0) fun v212=>
 B1 (ld v212 Xv) fun aai=>
 B1 (aK aai) fun avl=>
 J 0 (fun mg=>
 Hs J G cf mg F0 Pv aai avl (.int .i64 0) Xv) (fun  amS=>
 aoS  amS)) (fun  Kz=>
 some ((.bool true),Kz)))))))
theorem anT (J:JT)(G:GT)(cf:CF)(a0 a1:AV)(H:Hp):fB P J G aR an cf 57 [a0,a1] H=Bc J G cf a0 a1 H:=by kernel_rfl
theorem FD {a0 a1:AV}{H:Hp}{r:AV × Hp}(h:Bc JN GO cK a0 a1 H=some r):cK (.func (.func 57) [] []) [a0,a1] H=some r:=aO (first:=[]) (cap:=[]) ((anT JN GO _ a0 a1 H).trans h)
noncomputable def afl (J:JT)(G:GT)(cf:CF)(a0 a1:AV)(H:Hp):R:=
 BN (bx 99 a0 H) fun i0 h1=>
 B1 (fa 5 (.ptr i0 0)) fun v2=>
 B1 (ld v2 h1) fun v3=>
 B1 (ld a1 h1) fun v4=>
 B1 (seq v3 v4) fun v5=>
 some (v5,h1)
theorem ahn {a0 a1:AV}{H:Hp}{r:AV × Hp}(h:afl JN GO cK a0 a1 H=some r):cK (.func (.func 96) [] [a1]) [a0] H=some r:=aO (first:=[]) (cap:=[a1]) (aaK (by kernel_rfl) h)
noncomputable def bl_slices_EqualFunc___string___string_string_string_ (J:JT)(G:GT)(cf:CF)(aP:K.Fn 0)(jq:K.Fn 5)(aB aL bG aJ aE:AV)(bB:Hp):R:=
 B1 (bX aE aJ) fun v24=>
 CD v24 (
 J 5 (fun zo=>
 J 7 (fun zG=>
 B1 (ia 1 bG aE) fun v27=>
 B1 (ld v27 bB) fun v28=>
 zG aB aL aE v28 bG aJ aE bB) (fun cP cn bP eD cO dq bZ nL=>
 J 7 (fun Hi=>
 B1 (ia 1 cP bP) fun iv=>
 B1 (ld iv nL) fun eJ=>
 Hi cP cn eD eJ cO dq bZ nL) (fun cj dS eP dY gX fy fV mo=>
 J 6 (fun j48=>
 B2 (cf dS [eP,dY] mo) fun v49 jW=>
 B1 (eu .not v49) fun v51=>
 j48 cj dS gX fy fV v51 jW) (fun gD jE iN fR ep eN iG=>
 CD eN (
 some ((.bool false),iG)) (
 zo gD jE iN fR ep iG))))) (fun eA eh dL jD iw pW=>
 B1 (bU iw (.int .i64 1)) fun lB=>
 jq eA eh dL jD lB pW)) (
 aP  bB)
noncomputable def IL (J:JT)(G:GT)(cf:CF)(aP:K.Fn 0):K.Fn 5:=dB P an J G cf 37 [1,1,0,1,0,0] [1,2,15,16,17] (fun q t H=>match Nat.beq q 0 with | true=>app 0 aP (aw [] t) H | false=>(fun _ _ _=>none) q t H)
theorem Tc (cf:CF)(aP:K.Fn 0)(aB aL bG aJ aE:AV)(bB:Hp):IL JN GO cf aP aB aL bG aJ aE bB=bl_slices_EqualFunc___string___string_string_string_ JN GO cf aP (IL JN GO cf aP) aB aL bG aJ aE bB:=aaK (b:=app 5 (IL JN GO cf aP) [aB,aL,bG,aJ,aE] bB) (by kernel_rfl) ((dQ cf 37 [1,1,0,1,0,0] [1,2,15,16,17] _ [aB,aL,bG,aJ,aE] rfl bB).trans (by kernel_rfl))
noncomputable def Vq (J:JT)(G:GT)(cf:CF)(a0 a1 a2:AV)(H:Hp):R:=
 J 3 (fun j0=>
 J 4 (fun j1=>
 B1 (aK a0) fun v2=>
 B1 (aK a1) fun v3=>
 B1 (eT v2 v3) fun v4=>
 j1 a0 a1 a2 v4 H) (fun x5 x6 x7 x8 h9=>
 CD x8 (
 some ((.bool false),h9)) (
 j0 x5 x6 x7 h9))) (fun cZ bO bF eR=>
 J 0 (fun bY=>
 B1 (aK cZ) fun dZ=>
 J 0 (fun aP=>
 IL J G cf aP bO bF cZ dZ (.int .i64 0) eR) (fun  eI=>
 bY  eI)) (fun  Ae=>
 some ((.bool true),Ae)))
theorem afS {a0 a1 a2:AV}{H:Hp}{r:AV × Hp}(h:Vq JN GO cK a0 a1 a2 H=some r):cK (.func (.func 37) [] []) [a0,a1,a2] H=some r:=aO (first:=[]) (cap:=[]) (aaK (by kernel_rfl) h)
noncomputable def bl_slices_EqualFunc___flow_one___flow_one_flow_one_flow_one_ (J:JT)(G:GT)(cf:CF)(aP:K.Fn 0)(jq:K.Fn 5)(aB aL bG aJ aE:AV)(bB:Hp):R:=
 B1 (bX aE aJ) fun v24=>
 CD v24 (
 J 5 (fun zo=>
 J 7 (fun zG=>
 B1 (ia 5 bG aE) fun v27=>
 B1 (az 5 v27 bB) fun v28=>
 BN (aC bB [.ae,(.int .i64 0),.ae,.ae,(.str [])] 77 0) fun i29 mi=>
 B1 (st 5 (.ptr i29 0) v28 mi) fun gf=>
 zG aB aL aE (.ptr i29 0) bG aJ aE gf) (fun eD cO dq bZ bw bI bQ kc=>
 J 7 (fun sU=>
 B1 (ia 5 eD dq) fun v41=>
 B1 (az 5 v41 kc) fun eM=>
 BN (aC kc [.ae,(.int .i64 0),.ae,.ae,(.str [])] 77 0) fun i43 e8=>
 B1 (st 5 (.ptr i43 0) eM e8) fun jF=>
 sU eD cO bZ (.ptr i43 0) bw bI bQ jF) (fun fV hJ ir kT mU ml gD fT=>
 J 6 (fun jh=>
 B1 (az 5 ir fT) fun gH=>
 B1 (az 5 kT fT) fun kN=>
 B2 (cf hJ [gH,kN] fT) fun v57 iG=>
 B1 (eu .not v57) fun v59=>
 jh fV hJ mU ml gD v59 iG) (fun eh dL jD iw fX fO eI=>
 CD fO (
 some ((.bool false),eI)) (
 zo eh dL jD iw fX eI))))) (fun jf gU jz jO pV me=>
 B1 (bU pV (.int .i64 1)) fun jo=>
 jq jf gU jz jO jo me)) (
 aP  bB)
noncomputable def JH (J:JT)(G:GT)(cf:CF)(aP:K.Fn 0):K.Fn 5:=dB P an J G cf 38 [1,1,0,1,0,0] [1,2,15,16,17] (fun q t H=>match Nat.beq q 0 with | true=>app 0 aP (aw [] t) H | false=>(fun _ _ _=>none) q t H)
theorem aiN (J:JT)(G:GT)(cf:CF)(aP:K.Fn 0)(jq:K.Fn 5)(aB aL bG aJ aE:AV)(bB:Hp):jb P an J G cf 38 [1,1,0,1,0,0] [1,2,15,16,17] (fun q t H=>match Nat.beq q 0 with | true=>app 0 aP (aw [] t) H | false=>(fun _ _ _=>none) q t H) jq [aB,aL,bG,aJ,aE] bB=bl_slices_EqualFunc___flow_one___flow_one_flow_one_flow_one_ J G cf aP jq aB aL bG aJ aE bB:=by kernel_rfl
theorem QZ (cf:CF)(aP:K.Fn 0)(aB aL bG aJ aE:AV)(bB:Hp):JH JN GO cf aP aB aL bG aJ aE bB=bl_slices_EqualFunc___flow_one___flow_one_flow_one_flow_one_ JN GO cf aP (JH JN GO cf aP) aB aL bG aJ aE bB:=aaK (b:=app 5 (JH JN GO cf aP) [aB,aL,bG,aJ,aE] bB) (by kernel_rfl) ((dQ cf _ _ _ _ [aB,aL,bG,aJ,aE] rfl bB).trans (aiN JN GO cf aP _ aB aL bG aJ aE bB))
noncomputable def Nn (J:JT)(G:GT)(cf:CF)(a0 a1 a2:AV)(H:Hp):R:=
 J 3 (fun j0=>
 J 4 (fun j1=>
 B1 (aK a0) fun v2=>
 B1 (aK a1) fun v3=>
 B1 (eT v2 v3) fun v4=>
 j1 a0 a1 a2 v4 H) (fun x5 x6 x7 x8 h9=>
 CD x8 (
 some ((.bool false),h9)) (
 j0 x5 x6 x7 h9))) (fun cZ bO bF eR=>
 J 0 (fun bY=>
 B1 (aK cZ) fun dZ=>
 J 0 (fun aP=>
 JH J G cf aP bO bF cZ dZ (.int .i64 0) eR) (fun  wK=>
 bY  wK)) (fun  nB=>
 some ((.bool true),nB)))
theorem ahQ (J:JT)(G:GT)(cf:CF)(a0 a1 a2:AV)(H:Hp):fB P J G aR an cf 38 [a0,a1,a2] H=Nn J G cf a0 a1 a2 H:=by kernel_rfl
theorem aal {a0 a1 a2:AV}{H:Hp}{r:AV × Hp}(h:Nn JN GO cK a0 a1 a2 H=some r):cK (.func (.func 38) [] []) [a0,a1,a2] H=some r:=aO (first:=[]) (cap:=[]) ((ahQ JN GO _ a0 a1 a2 H).trans h)
noncomputable def bl_slices_Equal___keys_Entry_keys_Entry_ (J:JT)(G:GT)(cf:CF)(bY:K.Fn 0)(gu:K.Fn 4)(aS bc aB aL:AV)(cC:Hp):R:=
 B1 (bX aL aB) fun v21=>
 CD v21 (
 J 4 (fun sY=>
 J 5 (fun ec=>
 B1 (ia 3 aS aL) fun v24=>
 B1 (az 3 v24 cC) fun v25=>
 B1 (ia 3 bc aL) fun v26=>
 B1 (az 3 v26 cC) fun v27=>
 xc (gA P .neq 82 false v25 v27) <| B1 (fe P .neq 82 v25 v27 cC) fun v28=>
 ec aS bc aB aL v28 cC) (fun cP cn bP eD cO gE=>
 CD cO (
 some ((.bool false),gE)) (
 sY cP cn bP eD gE))) (fun bZ bw bI bQ kc=>
 B1 (bU bQ (.int .i64 1)) fun v40=>
 gu bZ bw bI v40 kc)) (
 bY  cC)
noncomputable def Kk (J:JT)(G:GT)(cf:CF)(bY:K.Fn 0):K.Fn 4:=dB P an J G cf 39 [1,1,0,1,0,0] [0,1,12,13] (fun q t H=>match Nat.beq q 0 with | true=>app 0 bY (aw [] t) H | false=>(fun _ _ _=>none) q t H)
theorem aex (cf:CF)(bY:K.Fn 0)(aS bc aB aL:AV)(cC:Hp):Kk JN GO cf bY aS bc aB aL cC=bl_slices_Equal___keys_Entry_keys_Entry_ JN GO cf bY (Kk JN GO cf bY) aS bc aB aL cC:=aaK (b:=app 4 (Kk JN GO cf bY) [aS,bc,aB,aL] cC) (by kernel_rfl) ((dQ cf 39 [1,1,0,1,0,0] [0,1,12,13] _ [aS,bc,aB,aL] rfl cC).trans (by kernel_rfl))
noncomputable def abh (J:JT)(G:GT)(cf:CF)(a0 a1:AV)(H:Hp):R:=
 J 2 (fun j0=>
 J 3 (fun j1=>
 B1 (aK a0) fun v2=>
 B1 (aK a1) fun v3=>
 B1 (eT v2 v3) fun v4=>
 j1 a0 a1 v4 H) (fun x5 x6 x7 h8=>
 CD x7 (
 some ((.bool false),h8)) (
 j0 x5 x6 h8))) (fun x9 cZ gq=>
 J 0 (fun cG=>
 B1 (aK x9) fun dV=>
 J 0 (fun bY=>
 Kk J G cf bY x9 cZ dV (.int .i64 0) gq) (fun  dH=>
 cG  dH)) (fun  dW=>
 some ((.bool true),dW)))
theorem awl {a0 a1:AV}{H:Hp}{r:AV × Hp}(h:abh JN GO cK a0 a1 H=some r):cK (.func (.func 39) [] []) [a0,a1] H=some r:=aO (first:=[]) (cap:=[]) (aaK (by kernel_rfl) h)
noncomputable def bl_outriderlaw18_FlowStates (J:JT)(G:GT)(cf:CF)(gM:K.Fn 2)(iX:K.Fn 3)(cP cn bP:AV)(cW:Hp):R:=
 B1 (aK cP) fun fC=>
 B1 (bX bP fC) fun eC=>
 CD eC (
 J 3 (fun dI=>
 J 4 (fun xw=>
 B1 (ia 8 cP bP) fun v37=>
 B1 (az 8 v37 cW) fun iv=>
 B2 (cf (.func (.func 12) [] []) [iv] cW) fun eJ rF=>
 xw cP cn bP eJ rF) (fun dS eP dY gX jF=>
 CD gX (
 some ((.bool true),jF)) (
 dI dS eP dY jF))) (fun fV hJ ir np=>
 B1 (bU ir (.int .i64 1)) fun fN=>
 iX fV hJ fN np)) (
 gM cP cn cW)
noncomputable def Ej (J:JT)(G:GT)(cf:CF)(gM:K.Fn 2):K.Fn 3:=dB P an J G cf 6 [1,1,1,0,1,0,0] [0,1,5] (fun q t H=>match Nat.beq q 0 with | true=>app 2 gM (aw [0,1] t) H | false=>(fun _ _ _=>none) q t H)
theorem auy (J:JT)(G:GT)(cf:CF)(gM:K.Fn 2)(iX:K.Fn 3)(cP cn bP:AV)(cW:Hp):jb P an J G cf 6 [1,1,1,0,1,0,0] [0,1,5] (fun q t H=>match Nat.beq q 0 with | true=>app 2 gM (aw [0,1] t) H | false=>(fun _ _ _=>none) q t H) iX [cP,cn,bP] cW=bl_outriderlaw18_FlowStates J G cf gM iX cP cn bP cW:=by kernel_rfl
theorem Mf (cf:CF)(gM:K.Fn 2)(cP cn bP:AV)(cW:Hp):Ej JN GO cf gM cP cn bP cW=bl_outriderlaw18_FlowStates JN GO cf gM (Ej JN GO cf gM) cP cn bP cW:=aaK (b:=app 3 (Ej JN GO cf gM) [cP,cn,bP] cW) (by kernel_rfl) ((dQ cf _ _ _ _ [cP,cn,bP] rfl cW).trans (auy JN GO cf gM _ cP cn bP cW))
noncomputable def bl_outriderlaw18_FlowStates1 (J:JT)(G:GT)(cf:CF)(lL:K.Fn 0)(Mo:K.Fn 4)(lj mq iW ig:AV)(qD:Hp):R:=
 B1 (aK lj) fun sB=>
 B1 (bX ig sB) fun yU=>
 CD yU (
 J 4 (fun anz=>
 J 4 (fun avQ=>
 J 5 (fun VC=>
 B1 (ia 8 lj ig) fun Ci=>
 B1 (az 8 Ci qD) fun I1=>
 B2 (cf (.func (.func 12) [] []) [I1] qD) fun tK Aq=>
 VC lj mq iW ig tK Aq) (fun yO I7 jk gW il yP=>
 CD il (
 some ((.bool true),yP)) (
 avQ yO I7 jk gW yP))) (fun jx mc ji sA tt=>
 J 5 (fun zt=>
 B1 (ia 8 jx sA) fun Hf=>
 B1 (az 8 Hf tt) fun xO=>
 B2 (cf (.func (.func 16) [] []) [mc,xO] tt) fun v138 wE=>
 B1 (ia 8 jx sA) fun vG=>
 B1 (az 8 vG wE) fun v141=>
 B2 (cf (.func (.func 16) [] []) [ji,v141] wE) fun zA Co=>
 B1 (eT v138 zA) fun Ji=>
 gZ Ji false (
 B2 (cf (.func (.func 15) [] []) [mc,ji] Co) fun v145 uH=>
 B1 (eu .not v145) fun zp=>
 B1 (az 8 vG tt) fun v148=>
 SM v141 v148 <|
 zt jx mc ji sA zp uH) (
 B1 (az 8 vG tt) fun Hw=>
 SM v141 Hw <|
 zt jx mc ji sA (.bool true) Co)) (fun zD pF oQ w8 vR LB=>
 CD vR (
 some ((.bool false),LB)) (
 anz zD pF oQ w8 LB)))) (fun xh tO tN SR h160=>
 B1 (bU SR (.int .i64 1)) fun HR=>
 Mo xh tO tN HR h160)) (
 lL  qD)
noncomputable def DG (J:JT)(G:GT)(cf:CF)(lL:K.Fn 0):K.Fn 4:=dB P an J G cf 6 [1,1,1,1,1,1,1,0,1,0,0] [1,6,7,9] (fun q t H=>match Nat.beq q 2 with | true=>app 0 lL (aw [] t) H | false=>(fun _ _ _=>none) q t H)
theorem akd (J:JT)(G:GT)(cf:CF)(lL:K.Fn 0)(Mo:K.Fn 4)(lj mq iW ig:AV)(qD:Hp):jb P an J G cf 6 [1,1,1,1,1,1,1,0,1,0,0] [1,6,7,9] (fun q t H=>match Nat.beq q 2 with | true=>app 0 lL (aw [] t) H | false=>(fun _ _ _=>none) q t H) Mo [lj,mq,iW,ig] qD=bl_outriderlaw18_FlowStates1 J G cf lL Mo lj mq iW ig qD:=by kernel_rfl
theorem M5 (cf:CF)(lL:K.Fn 0)(lj mq iW ig:AV)(qD:Hp):DG JN GO cf lL lj mq iW ig qD=bl_outriderlaw18_FlowStates1 JN GO cf lL (DG JN GO cf lL) lj mq iW ig qD:=aaK (b:=app 4 (DG JN GO cf lL) [lj,mq,iW,ig] qD) (by kernel_rfl) ((dQ cf _ _ _ _ [lj,mq,iW,ig] rfl qD).trans (akd JN GO cf lL _ lj mq iW ig qD))
noncomputable def Dx (J:JT)(G:GT)(cf:CF)(a0 a1:AV)(H:Hp):R:=
 B2 (cf (.func (.func 11) [] []) [] H) fun v0 h1=>
 B1 (eu .not v0) fun v2=>
 CD v2 (
 some ((.bool false),h1)) (
 J 2 (fun j3=>
 J 3 (fun j4=>
 B1 (aK a0) fun v5=>
 B1 (jA v5 (.int .i64 40)) fun v6=>
 G v6 false (fun k7=>
 k7 a1 h1) (fun v8 h9=>
 G v6 false (fun xn=>
 B1 (aK v8) fun v11=>
 xn v11 h9) (fun v12 eR=>
 G v6 false (fun zZ=>
 B1 (jA v12 (.int .i64 20)) fun dZ=>
 zZ dZ eR) (fun dN dO=>
 B1 (pk v6 (.bool true) dN) fun dA=>
 j4 a0 a1 dA dO) eR) h9) h1) (fun aL bG aJ jw=>
 CD aJ (
 some ((.bool true),jw)) (
 j3 aL bG jw))) (fun bp bM dP=>
 J 2 (fun zG=>
 J 2 (fun gM=>
 Ej J G cf gM bp bM (.int .i64 0) dP) (fun ml gD fT=>
 zG ml gD fT)) (fun iN fR oq=>
 B2 (cf (.func (.func 13) [] []) [iN] oq) fun v57 iG=>
 J 4 (fun j59=>
 B2 (cf (.func (.func 23) [] []) [v57] iG) fun fW jj=>
 B2 (cf (.func (.func 22) [] []) [fW] jj) fun iE vV=>
 B1 (ex 0 iE) fun v64=>
 B1 (ex 1 iE) fun lB=>
 j59 fR v57 v64 lB vV) (fun qu jf gU jz qo=>
 J 3 (fun kR=>
 J 4 (fun se=>
 B1 (eT jz (.int .i64 0)) fun jo=>
 G jo false (fun k74=>
 k74 gU qo) (fun v75 lf=>
 G jo false (fun Hj=>
 B1 (BT .eql (pe v75 .dR lf)) fun qh=>
 Hj qh lf) (fun mf vJ=>
 B1 (pk jo (.bool true) mf) fun kE=>
 G kE false (fun A6=>
 A6 jf vJ) (fun mX qH=>
 G kE false (fun UA=>
 UA gU qH) (fun sK nh=>
 G kE false (fun G3=>
 B2 (cf (.func (.func 15) [] []) [mX,sK] nh) fun tI xt=>
 G3 tI xt) (fun v91 u7=>
 G kE false (fun Eh=>
 B1 (eu .not v91) fun tn=>
 Eh tn u7) (fun Jf Cm=>
 B1 (pk kE (.bool true) Jf) fun Dl=>
 se qu jf gU Dl Cm) u7) nh) qH) vJ) lf) qo) (fun vj nR sH pJ zf=>
 CD pJ (
 some ((.bool false),zf)) (
 kR vj nR sH zf))) (fun En Qw w9 Dw=>
 J 0 (fun VA=>
 J 0 (fun lL=>
 DG J G cf lL En Qw w9 (.int .i64 0) Dw) (fun  M4=>
 VA  M4)) (fun  akV=>
 some ((.bool true),akV)))))))
theorem ajR (J:JT)(G:GT)(cf:CF)(a0 a1:AV)(H:Hp):fB P J G aR an cf 6 [a0,a1] H=Dx J G cf a0 a1 H:=by kernel_rfl
theorem IE {a0 a1:AV}{H:Hp}{r:AV × Hp}(h:Dx JN GO cK a0 a1 H=some r):cK (.func (.func 6) [] []) [a0,a1] H=some r:=aO (first:=[]) (cap:=[]) ((ajR JN GO _ a0 a1 H).trans h)
noncomputable def K0 (J:JT)(G:GT)(cf:CF)(a0:AV)(H:Hp):R:=
 BN (bx 26 a0 H) fun i0 h1=>
 B1 (fa 5 (.ptr i0 0)) fun v2=>
 B1 (ld v2 h1) fun v3=>
 B1 (lens v3) fun v4=>
 B1 (jA v4 (.int .i64 40)) fun v5=>
 G v5 false (fun k6=>
 B1 (fa 6 (.ptr i0 0)) fun v7=>
 k6 v7 h1) (fun v8 h9=>
 G v5 false (fun xn=>
 B1 (ld v8 h9) fun v11=>
 xn v11 h9) (fun v12 eR=>
 G v5 false (fun zZ=>
 B1 (lens v12) fun dZ=>
 zZ dZ eR) (fun dN dO=>
 G v5 false (fun J5=>
 B1 (jA dN (.int .i64 40)) fun eZ=>
 J5 eZ dO) (fun v20 lA=>
 B1 (pk v5 (.bool true) v20) fun v22=>
 G v22 false (fun SL=>
 B1 (fa 7 (.ptr i0 0)) fun v24=>
 SL v24 lA) (fun v25 eg=>
 G v22 false (fun Sr=>
 B1 (ld v25 eg) fun v28=>
 Sr v28 eg) (fun v29 mi=>
 G v22 false (fun wM=>
 B1 (lens v29) fun v32=>
 wM v32 mi) (fun fC gE=>
 G v22 false (fun tZ=>
 B1 (jA fC (.int .i64 950)) fun v36=>
 tZ v36 gE) (fun v37 eW=>
 B1 (pk v22 (.bool true) v37) fun eJ=>
 some (eJ,eW)) gE) mi) eg) lA) dO) eR) h9) h1
theorem Tl {a0:AV}{H:Hp}{r:AV × Hp}(h:K0 JN GO cK a0 H=some r):cK (.func (.func 12) [] []) [a0] H=some r:=aO (first:=[]) (cap:=[]) (aaK (by kernel_rfl) h)
end
noncomputable section
end
end Go.Proofs.YtodfajmihkagnaaGreatDoor.DfK

