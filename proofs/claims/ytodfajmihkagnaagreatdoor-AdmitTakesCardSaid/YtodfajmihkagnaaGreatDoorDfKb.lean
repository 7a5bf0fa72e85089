/- Laws that the proof uses. -/
import Derived.Test.YtodfajmihkagnaaGreatDoorTrimWalk
set_option maxHeartbeats 8000000
set_option linter.unusedVariables false
set_option maxRecDepth 100000
set_option linter.unusedSimpArgs false
namespace Go.Proofs.YtodfajmihkagnaaGreatDoor.DfK
open Go Am Am.K jY
noncomputable section
noncomputable def abP (J:JT)(G:GT)(cf:CF)(a0:AV)(H:Hp):R:=
 J 0 (fun j0=>
 B1 (bG a0 (.int .i64 1)) fun v1=>
 CD v1 (
 some ((.str [77,68]),H)) (
 B1 (bG a0 (.int .i64 2)) fun v2=>
 CD v2 (
 some ((.str [82,77,75]),H)) (
 J 2 (fun j3=>
 B1 (bG a0 (.int .i64 3)) fun v4=>
 CD v4 (
 j3 a0 v4 H) (
 B1 (bG a0 (.int .i64 5)) fun v5=>
 j3 a0 v5 H)) (fun x6 x7 h8=>
 CD x7 (
 some ((.str [82,84,89]),h8)) (
 B1 (bG x6 (.int .i64 4)) fun v9=>
 CD v9 (
 some ((.str [82,84,89,68]),h8)) (
 J 2 (fun aD=>
 B1 (bG x6 (.int .i64 6)) fun v11=>
 CD v11 (
 aD x6 v11 h8) (
 B1 (bG x6 (.int .i64 9)) fun v12=>
 aD x6 v12 h8)) (fun aP bg eU=>
 CD bg (
 some ((.str [78]),eU)) (
 B1 (bG aP (.int .i64 7)) fun cW=>
 CD cW (
 some ((.str [82,77]),eU)) (
 B1 (bG aP (.int .i64 8)) fun eN=>
 CD eN (
 some ((.str [82]),eU)) (
 j0  eU)))))))))) (fun  fe=>
 some ((.str []),fe))
theorem afM {a0:AV}{H:Hp}{r:AV × Hp}(h:abP JN GO cK a0 H=some r):cK (.func (.func 48) [] []) [a0] H=some r:=aT (first:=[]) (cap:=[]) (aaw (by kernel_rfl) h)
noncomputable def Xh (J:JT)(G:GT)(cf:CF)(a0 a1 a2:AV)(H:Hp):R:=
 B1 (lJ a0 a1) fun v0=>
 G v0 true (fun k1=>
 k1 a0 H) (fun v2 h3=>
 G v0 true (fun k4=>
 k4 a2 h3) (fun v5 h6=>
 G v0 true (fun k7=>
 B1 (nZ v2 v5) fun v8=>
 k7 v8 h6) (fun v9 bW=>
 B1 (pk v0 v9 (.bool false)) fun v11=>
 some (v11,bW)) h6) h3) H
theorem aei {a0 a1 a2:AV}{H:Hp}{r:AV × Hp}(h:Xh JN GO cK a0 a1 a2 H=some r):cK (.func (.func 87) [] []) [a0,a1,a2] H=some r:=aT (first:=[]) (cap:=[]) (aaw (by kernel_rfl) h)
noncomputable def Pr (J:JT)(G:GT)(cf:CF)(a0 a1:AV)(H:Hp):R:=
 BN (bx 26 a0 H) fun i0 h1=>
 J 1 (fun j2=>
 B1 (bG a1 (.int .i32 82)) fun v3=>
 CD v3 (
 B1 (fa 1 (.ptr i0 0)) fun v4=>
 B1 (ld v4 h1) fun v5=>
 B2 (cf (.func (.func 87) [] []) [v5,(.int .i64 1),(.int .i64 64)] h1) fun v6 h7=>
 some (v6,h7)) (
 B1 (bG a1 (.int .i32 84)) fun v8=>
 CD v8 (
 B1 (fa 2 (.ptr i0 0)) fun v9=>
 B1 (ld v9 h1) fun v10=>
 B2 (cf (.func (.func 87) [] []) [v10,(.int .i64 0),(.int .i64 15)] h1) fun v11 dU=>
 some (v11,dU)) (
 B1 (bG a1 (.int .i32 89)) fun dJ=>
 CD dJ (
 B1 (fa 3 (.ptr i0 0)) fun cI=>
 B1 (ld cI h1) fun gf=>
 B2 (cf (.func (.func 87) [] []) [gf,(.int .i64 1),(.int .i64 9)] h1) fun cW dL=>
 some (cW,dL)) (
 B1 (bG a1 (.int .i32 78)) fun dO=>
 CD dO (
 J 2 (fun bL=>
 B1 (fa 0 (.ptr i0 0)) fun v20=>
 B1 (ld v20 h1) fun v21=>
 B1 (bG v21 (.int .i64 9)) fun v22=>
 CD v22 (
 bL (.ptr i0 0) (.int .i64 1048575) h1) (
 bL (.ptr i0 0) (.int .i64 1099511627776) h1)) (fun bf bB dX=>
 B1 (fa 4 bf) fun v26=>
 B1 (ld v26 dX) fun v27=>
 B1 (lJ v27 (.int .i64 1)) fun v28=>
 G v28 true (fun Po=>
 B1 (fa 4 bf) fun v30=>
 Po v30 dX) (fun v31 eK=>
 G v28 true (fun Hm=>
 B1 (ld v31 eK) fun eg=>
 Hm eg eK) (fun v35 mH=>
 G v28 true (fun Eb=>
 Eb bB mH) (fun iF p7=>
 G v28 true (fun MF=>
 B1 (nZ v35 iF) fun v41=>
 MF v41 p7) (fun fx sM=>
 B1 (pk v28 fx (.bool false)) fun v44=>
 some (v44,sM)) p7) mH) eK) dX)) (
 B1 (bG a1 (.int .i32 77)) fun fA=>
 CD fA (
 B1 (fa 5 (.ptr i0 0)) fun v46=>
 B1 (ld v46 h1) fun jq=>
 B2 (cf (.func (.func 54) [] []) [jq] h1) fun gL rz=>
 some (gL,rz)) (
 B1 (bG a1 (.int .i32 75)) fun jo=>
 CD jo (
 B1 (fa 6 (.ptr i0 0)) fun v51=>
 B1 (ld v51 h1) fun jf=>
 B1 (lens jf) fun v53=>
 B1 (nZ v53 (.int .i64 16)) fun iN=>
 some (iN,h1)) (
 j2 (.ptr i0 0) h1))))))) (fun dF mK=>
 J 1 (fun Ao=>
 B1 (fa 0 dF) fun mc=>
 B1 (ld mc mK) fun v59=>
 B1 (bG v59 (.int .i64 1)) fun fI=>
 CD fI (
 B1 (fa 7 dF) fun lU=>
 B1 (ld lU mK) fun gV=>
 B1 (lens gV) fun v63=>
 B1 (nZ v63 (.int .i64 900)) fun v64=>
 some (v64,mK)) (
 Ao dF mK)) (fun ft fW=>
 B1 (fa 7 ft) fun oy=>
 B1 (ld oy fW) fun ma=>
 B1 (lens ma) fun kR=>
 B1 (nZ kR (.int .i64 64)) fun v70=>
 some (v70,fW)))
theorem afO (J:JT)(G:GT)(cf:CF)(a0 a1:AV)(H:Hp):fQ P J G aR an cf 52 [a0,a1] H=Pr J G cf a0 a1 H:=by kernel_rfl
theorem al1 {a0 a1:AV}{H:Hp}{r:AV × Hp}(h:Pr JN GO cK a0 a1 H=some r):cK (.func (.func 52) [] []) [a0,a1] H=some r:=aT (first:=[]) (cap:=[]) ((afO JN GO _ a0 a1 H).trans h)
noncomputable def ur (J:JT)(G:GT)(cf:CF)(bL:K.Fn 2)(aF:K.Fn 4)(aX aM bf bB:AV)(dX:Hp):R:=
 B2 (vV bB true dX) fun v26 eR=>
 B1 (ex 0 v26) fun v28=>
 CD v28 (
 J 4 (fun jw=>
 B1 (ex 2 v26) fun v30=>
 J 4 (fun cu=>
 B1 (bG v30 (.int .i32 82)) fun v32=>
 CD v32 (
 B1 (fa 1 aX) fun fy=>
 B1 (ld fy eR) fun eg=>
 B1 (fa 1 bf) fun v35=>
 B1 (st 1 v35 eg eR) fun mH=>
 cu aX aM bf bB mH) (
 B1 (bG v30 (.int .i32 84)) fun v37=>
 CD v37 (
 B1 (fa 2 aX) fun iF=>
 B1 (ld iF eR) fun eJ=>
 B1 (fa 2 bf) fun v40=>
 B1 (st 1 v40 eJ eR) fun iz=>
 cu aX aM bf bB iz) (
 B1 (bG v30 (.int .i32 89)) fun fx=>
 CD fx (
 B1 (fa 3 aX) fun gm=>
 B1 (ld gm eR) fun v44=>
 B1 (fa 3 bf) fun fA=>
 B1 (st 1 fA v44 eR) fun jj=>
 cu aX aM bf bB jj) (
 B1 (bG v30 (.int .i32 78)) fun jq=>
 CD jq (
 B1 (fa 4 aX) fun gL=>
 B1 (ld gL eR) fun v49=>
 B1 (fa 4 bf) fun jo=>
 B1 (st 1 jo v49 eR) fun np=>
 cu aX aM bf bB np) (
 B1 (bG v30 (.int .i32 77)) fun jf=>
 CD jf (
 B1 (fa 5 aX) fun v53=>
 B1 (ld v53 eR) fun iN=>
 B1 (fa 5 bf) fun jz=>
 B1 (st 1 jz iN eR) fun mK=>
 cu aX aM bf bB mK) (
 B1 (bG v30 (.int .i32 75)) fun v57=>
 CD v57 (
 B1 (fa 6 aX) fun mc=>
 B1 (ld mc eR) fun v59=>
 B1 (fa 6 bf) fun fI=>
 B1 (st 1 fI v59 eR) fun gM=>
 cu aX aM bf bB gM) (
 B1 (bG v30 (.int .i32 68)) fun gV=>
 CD gV (
 B1 (fa 7 aX) fun v63=>
 B1 (ld v63 eR) fun v64=>
 B1 (fa 7 bf) fun nK=>
 B1 (st 1 nK v64 eR) fun fW=>
 cu aX aM bf bB fW) (
 cu aX aM bf bB eR)))))))) (fun iB jE mo lZ kM=>
 jw iB jE mo lZ kM)) (fun rA gS iJ lj wi=>
 aF rA gS iJ lj wi)) (
 bL aM bf eR)
noncomputable def Cl (J:JT)(G:GT)(cf:CF)(bL:K.Fn 2):K.Fn 4:=eu P an J G cf 49 [1,1,0,1,0,0] [2,4,5,12] (fun q t H=>match Nat.beq q 0 with | true=>app 2 bL (ax [4,5] t) H | false=>(fun _ _ _=>none) q t H)
theorem alT (J:JT)(G:GT)(cf:CF)(bL:K.Fn 2)(aF:K.Fn 4)(aX aM bf bB:AV)(dX:Hp):lh P an J G cf 49 [1,1,0,1,0,0] [2,4,5,12] (fun q t H=>match Nat.beq q 0 with | true=>app 2 bL (ax [4,5] t) H | false=>(fun _ _ _=>none) q t H) aF [aX,aM,bf,bB] dX=ur J G cf bL aF aX aM bf bB dX:=by kernel_rfl
theorem wT (cf:CF)(bL:K.Fn 2)(aX aM bf bB:AV)(dX:Hp):Cl JN GO cf bL aX aM bf bB dX=ur JN GO cf bL (Cl JN GO cf bL) aX aM bf bB dX:=aaw (b:=app 4 (Cl JN GO cf bL) [aX,aM,bf,bB] dX) (by kernel_rfl) ((eS cf _ _ _ _ [aX,aM,bf,bB] rfl dX).trans (alT JN GO cf bL _ aX aM bf bB dX))
noncomputable def PD (J:JT)(G:GT)(cf:CF)(a0 a1:AV)(H:Hp):R:=
 BN (bx 26 a0 H) fun i0 h1=>
 BN (aE h1 [(.int .i64 0),(.int .i64 0),(.int .i64 0),(.int .i64 0),(.int .i64 0),(.str []),(.str []),(.str [])] 26 0) fun i2 h3=>
 J 4 (fun j4=>
 B1 (fa 0 (.ptr i0 0)) fun v5=>
 B1 (ld v5 h3) fun v6=>
 B1 (fl [(.int .i64 0),(.int .i64 0),(.int .i64 0),(.int .i64 0),(.int .i64 0),(.str []),(.str []),(.str [])] [(0,1,v6)]) fun l7=>
 BN (aE h3 [(.int .i64 0),(.int .i64 0),(.int .i64 0),(.int .i64 0),(.int .i64 0),(.str []),(.str []),(.str [])] 26 0) fun i8 h9=>
 B1 (st 8 (.ptr i8 0) (.agg l7) h9) fun bW=>
 j4 a1 (.ptr i0 0) (.ptr i2 0) (.ptr i8 0) bW) (fun bp aZ aP bg eU=>
 J 2 (fun dA=>
 B2 (xF P 9 bp eU) fun eN fe=>
 J 2 (fun bL=>
 Cl J G cf bL aZ aP bg eN fe) (fun fq fg iZ=>
 dA fq fg iZ)) (fun nL qF su=>
 B1 (aA 8 qF su) fun rM=>
 B1 (st 8 nL rM su) fun xX=>
 B1 (aA 8 nL xX) fun v85=>
 some (v85,xX)))
theorem aj7 (J:JT)(G:GT)(cf:CF)(a0 a1:AV)(H:Hp):fQ P J G aR an cf 49 [a0,a1] H=PD J G cf a0 a1 H:=by kernel_rfl
theorem amj {a0 a1:AV}{H:Hp}{r:AV × Hp}(h:PD JN GO cK a0 a1 H=some r):cK (.func (.func 49) [] []) [a0,a1] H=some r:=aT (first:=[]) (cap:=[]) ((aj7 JN GO _ a0 a1 H).trans h)
noncomputable def Lv (J:JT)(G:GT)(cf:CF)(a0:AV)(H:Hp):R:=
 BN (bx 26 a0 H) fun i0 h1=>
 B1 (fa 0 (.ptr i0 0)) fun v2=>
 B1 (ld v2 h1) fun v3=>
 B2 (cf (.func (.func 48) [] []) [v3] h1) fun v4 h5=>
 B1 (qH v4 (.str [])) fun v6=>
 rF v6 true (
 B1 (aA 8 (.ptr i0 0) h5) fun v7=>
 B2 (cf (.func (.func 49) [] []) [v7,v4] h5) fun v8 h9=>
 B1 (aA 8 (.ptr i0 0) h9) fun v10=>
 qE (gA P .eql 26 false v8 v10) <| B1 (eA P .eql 26 v8 v10 h9) fun v11=>
 rF v11 true (
 B2 (cf (.func (.func 50) [] []) [v4,(.func (.func 51) [] [(.ptr i0 0)])] h9) fun v12 iP=>
 B1 (fT .not v12) fun cI=>
 B1 (aA 8 (.ptr i0 0) h5) fun gf=>
 SM v10 gf <|
 some (cI,iP)) (
 B1 (aA 8 (.ptr i0 0) h5) fun cW=>
 SM v10 cW <|
 some ((.bool false),h9))) (
 some ((.bool false),h5))
theorem Qt {a0:AV}{H:Hp}{r:AV × Hp}(h:Lv JN GO cK a0 H=some r):cK (.func (.func 21) [] []) [a0] H=some r:=aT (first:=[]) (cap:=[]) (aaw (by kernel_rfl) h)
noncomputable def V0 (J:JT)(G:GT)(cf:CF)(a0 a1:AV)(H:Hp):R:=
 B1 (aA 8 a1 H) fun v0=>
 B2 (cf (.func (.func 52) [] []) [v0,a0] H) fun v1 h2=>
 B1 (fT .not v1) fun v3=>
 some (v3,h2)
theorem amT {a0 a1:AV}{H:Hp}{r:AV × Hp}(h:V0 JN GO cK a0 a1 H=some r):cK (.func (.func 51) [] [a1]) [a0] H=some r:=aT (first:=[]) (cap:=[a1]) (aaw (by kernel_rfl) h)
noncomputable def Yw (J:JT)(G:GT)(cf:CF)(a0:AV)(H:Hp):R:=
 B2 (gG P .max #[3,3] [a0,(.int .i64 1)] H) fun v0 h1=>
 B2 (gG P .min #[3,3] [v0,(.int .i64 128)] h1) fun v2 h3=>
 BN (xc h3) fun i4 h5=>
 B1 (fl [(.int .i64 0),.ja,.ah] [(0,1,v2),(1,1,(.map i4))]) fun l6=>
 BN (bx 136 (.agg l6) h5) fun i7 h8=>
 some ((.ptr i7 0),h8)
theorem ajn {a0:AV}{H:Hp}{r:AV × Hp}(h:Yw JN GO cK a0 H=some r):cK (.func (.func 44) [] []) [a0] H=some r:=aT (first:=[]) (cap:=[]) (aaw (by kernel_rfl) h)
noncomputable def Nq (J:JT)(G:GT)(cf:CF)(a0 a1 a2:AV)(H:Hp):R:=
 BN (bx 80 a1 H) fun i0 h1=>
 J 3 (fun j2=>
 J 5 (fun j3=>
 B1 (aV a0) fun v4=>
 B1 (fa 1 v4) fun v5=>
 B1 (ld v5 h1) fun v6=>
 B1 (aA 2 (.ptr i0 0) h1) fun v7=>
 B1 (pZ P 133 v6 v7 true h1) fun v8=>
 B1 (ex 0 v8) fun v9=>
 B1 (ex 1 v8) fun v10=>
 j3 a0 a2 (.ptr i0 0) v9 v10 h1) (fun bp aZ aP bg br bE=>
 CD br (
 some (.tuple [bg,(.bool false)],bE)) (
 j2 bp aZ aP bE))) (fun bY bF df pC=>
 J 3 (fun eX=>
 J 4 (fun EM=>
 B1 (aV bY) fun v23=>
 B1 (fa 2 v23) fun v24=>
 B1 (ld v24 pC) fun v25=>
 B1 (bq v25) fun v26=>
 B1 (aV bY) fun v27=>
 B1 (fa 0 v27) fun v28=>
 B1 (ld v28 pC) fun v29=>
 B1 (bG v26 v29) fun v30=>
 EM bY bF df v30 pC) (fun bP eE cj bM dS=>
 CD bM (
 J 3 (fun vX=>
 B1 (aV bP) fun v37=>
 B1 (fa 1 v37) fun iF=>
 B1 (ld iF dS) fun eJ=>
 B1 (aV bP) fun v40=>
 B1 (fa 2 v40) fun v41=>
 B1 (ld v41 dS) fun fx=>
 B1 (ia 2 fx (.int .i64 0)) fun gm=>
 B1 (aA 2 gm dS) fun v44=>
 B2 (gG P .delete #[133,80] [eJ,v44] dS) fun fA jj=>
 vX bP eE cj jj) (fun gi fM fK lg=>
 B1 (aV gi) fun v51=>
 B1 (fa 2 v51) fun jf=>
 B1 (ld jf lg) fun v53=>
 B1 (qq 2 v53 (some (.int .i64 1)) none none) fun iN=>
 B1 (aV gi) fun jz=>
 B1 (fa 2 jz) fun kO=>
 B1 (st 1 kO iN lg) fun jx=>
 eX gi fM fK jx)) (
 eX bP eE cj dS))) (fun du cN eT gM=>
 J 3 (fun Sw=>
 B1 (aV du) fun v63=>
 B1 (fa 1 v63) fun v64=>
 B1 (ld v64 gM) fun nK=>
 B1 (aA 2 eT gM) fun mB=>
 B1 (nH P 133 nK mB cN gM) fun wI=>
 Sw du cN eT wI) (fun jE mo lZ kM=>
 J 1 (fun sZ=>
 B1 (aV jE) fun kU=>
 B1 (fa 2 kU) fun kG=>
 B1 (ld kG kM) fun v75=>
 B1 (aA 2 lZ kM) fun v76=>
 B1 (fl [(.str []),(.str [])] [(0,2,v76)]) fun l77=>
 BN (aE kM l77 80 0) fun i78 iZ=>
 B2 (gw 80 2 [(.str []),(.str [])] false v75 (.slice i78 0 1 1 true 2) iZ) fun v80 wE=>
 B1 (aV jE) fun mV=>
 B1 (fa 2 mV) fun rM=>
 B1 (st 1 rM v80 wE) fun xX=>
 B1 (ld kG iZ) fun v85=>
 SM v75 v85 <|
 sZ mo xX) (fun oN tO=>
 some (.tuple [oN,(.bool true)],tO)))))
theorem agF (J:JT)(G:GT)(cf:CF)(a0 a1 a2:AV)(H:Hp):fQ P J G aR an cf 33 [a0,a1,a2] H=Nq J G cf a0 a1 a2 H:=by kernel_rfl
theorem aj5 {a0 a1 a2:AV}{H:Hp}{r:AV × Hp}(h:Nq JN GO cK a0 a1 a2 H=some r):cK (.func (.func 33) [] []) [a0,a1,a2] H=some r:=aT (first:=[]) (cap:=[]) ((agF JN GO _ a0 a1 a2 H).trans h)
noncomputable def Z6 (J:JT)(G:GT)(cf:CF)(a0 a1:AV)(H:Hp):R:=
 BN (bx 80 a1 H) fun i0 h1=>
 J 2 (fun j2=>
 B1 (aV a0) fun v3=>
 B1 (fa 1 v3) fun v4=>
 B1 (ld v4 h1) fun v5=>
 B1 (aA 2 (.ptr i0 0) h1) fun v6=>
 B1 (pZ P 133 v5 v6 true h1) fun v7=>
 B1 (ex 0 v7) fun v8=>
 B1 (ex 1 v7) fun v9=>
 j2 v8 v9 h1) (fun cl bp dU=>
 some (.tuple [cl,bp],dU))
theorem aiM {a0 a1:AV}{H:Hp}{r:AV × Hp}(h:Z6 JN GO cK a0 a1 H=some r):cK (.func (.func 83) [] []) [a0,a1] H=some r:=aT (first:=[]) (cap:=[]) (aaw (by kernel_rfl) h)
noncomputable def R0 (J:JT)(G:GT)(cf:CF)(cH:K.Fn 1)(eQ:K.Fn 5)(bg br bJ bY bF:AV)(cY:Hp):R:=
 B1 (cB bF bY) fun v20=>
 CD v20 (
 J 5 (fun eX=>
 B1 (ia 2 bJ bF) fun v22=>
 B1 (aA 2 v22 cY) fun v23=>
 BN (aE cY [(.str []),(.str [])] 80 0) fun i24 dX=>
 B1 (st 2 (.ptr i24 0) v23 dX) fun dD=>
 B1 (aA 2 (.ptr i24 0) dD) fun v27=>
 B1 (aV bg) fun v28=>
 B1 (fa 1 v28) fun v29=>
 B1 (ld v29 dD) fun v30=>
 B1 (aA 2 (.ptr i24 0) dD) fun v31=>
 B1 (pZ P 133 v30 v31 false dD) fun v32=>
 B1 (fl [(.str []),(.str []),(.int .i64 0)] [(0,2,v27),(2,1,v32)]) fun Q1=>
 B1 (fl [(.str []),(.str []),(.int .i64 0)] [(0,3,(.agg Q1))]) fun l34=>
 BN (aE dD l34 82 0) fun i35 mH=>
 B2 (gw 82 3 [(.str []),(.str []),(.int .i64 0)] false br (.slice i35 0 1 1 true 3) mH) fun v37 fV=>
 eX bg v37 bJ bY bF fV) (fun cJ cG dE eL dQ dT=>
 B1 (bS dQ (.int .i64 1)) fun fA=>
 eQ cJ cG dE eL fA dT)) (
 cH br cY)
noncomputable def Ii (J:JT)(G:GT)(cf:CF)(cH:K.Fn 1):K.Fn 5:=eu P an J G cf 32 [1,1,0,1,0,0] [0,3,9,10,11] (fun q t H=>match Nat.beq q 0 with | true=>app 1 cH (ax [3] t) H | false=>(fun _ _ _=>none) q t H)
theorem Yj (cf:CF)(cH:K.Fn 1)(bg br bJ bY bF:AV)(cY:Hp):Ii JN GO cf cH bg br bJ bY bF cY=R0 JN GO cf cH (Ii JN GO cf cH) bg br bJ bY bF cY:=aaw (b:=app 5 (Ii JN GO cf cH) [bg,br,bJ,bY,bF] cY) (by kernel_rfl) ((eS cf 32 [1,1,0,1,0,0] [0,3,9,10,11] _ [bg,br,bJ,bY,bF] rfl cY).trans (by kernel_rfl))
noncomputable def TY (J:JT)(G:GT)(cf:CF)(a0:AV)(H:Hp):R:=
 J 1 (fun j0=>
 J 5 (fun j1=>
 B1 (aV a0) fun v2=>
 B1 (fa 2 v2) fun v3=>
 B1 (ld v3 H) fun v4=>
 B1 (bq v4) fun v5=>
 j1 a0 .ah v4 v5 (.int .i64 0) H) (fun x6 x7 x8 x9 cl gY=>
 J 1 (fun cH=>
 Ii J G cf cH x6 x7 x8 x9 cl gY) (fun iI kj=>
 j0 iI kj))) (fun fM rz=>
 some (fM,rz))
theorem ajt {a0:AV}{H:Hp}{r:AV × Hp}(h:TY JN GO cK a0 H=some r):cK (.func (.func 32) [] []) [a0] H=some r:=aT (first:=[]) (cap:=[]) (aaw (by kernel_rfl) h)
noncomputable def OP (J:JT)(G:GT)(cf:CF)(a0:AV)(H:Hp):R:=
 BN (bx 75 a0 H) fun i0 h1=>
 BN (aE h1 [.ah,(.int .i64 0),.ah,.ah] 75 0) fun i2 h3=>
 J 2 (fun j4=>
 B1 (fa 1 (.ptr i0 0)) fun v5=>
 B1 (ld v5 h3) fun v6=>
 B1 (hY v6 (.int .i64 0)) fun v7=>
 CD v7 (
 B1 (fl [.ah,(.int .i64 0),.ah,.ah] []) fun l8=>
 B1 (st 4 (.ptr i2 0) (.agg l8) h3) fun h9=>
 B1 (aA 4 (.ptr i2 0) h9) fun v10=>
 some (.tuple [v10,(.int .i64 9)],h9)) (
 j4 (.ptr i0 0) (.ptr i2 0) h3)) (fun bp aZ iP=>
 B1 (aA 4 bp iP) fun cI=>
 B2 (cf (.func (.func 97) [] []) [cI] iP) fun gf bE=>
 B1 (st 4 bp gf bE) fun dL=>
 B1 (fa 1 bp) fun dO=>
 B1 (st 1 dO (.int .i64 3) dL) fun cY=>
 B1 (aA 4 bp cY) fun v20=>
 B1 (st 4 aZ v20 cY) fun kX=>
 B1 (aA 4 aZ kX) fun v22=>
 some (.tuple [v22,(.int .i64 0)],kX))
theorem Va {a0:AV}{H:Hp}{r:AV × Hp}(h:OP JN GO cK a0 H=some r):cK (.func (.func 82) [] []) [a0] H=some r:=aT (first:=[]) (cap:=[]) (aaw (by kernel_rfl) h)
noncomputable def W8 (J:JT)(G:GT)(cf:CF)(a0:AV)(H:Hp):R:=
 BN (bx 75 a0 H) fun i0 h1=>
 BN (aE h1 [.ah,(.int .i64 0),.ah,.ah] 75 0) fun i2 h3=>
 B1 (aA 4 (.ptr i0 0) h3) fun v4=>
 B2 (cf (.func (.func 97) [] []) [v4] h3) fun v5 h6=>
 B1 (st 4 (.ptr i2 0) v5 h6) fun h7=>
 B1 (aA 4 (.ptr i2 0) h7) fun v8=>
 some (v8,h7)
theorem anj {a0:AV}{H:Hp}{r:AV × Hp}(h:W8 JN GO cK a0 H=some r):cK (.func (.func 58) [] []) [a0] H=some r:=aT (first:=[]) (cap:=[]) (aaw (by kernel_rfl) h)
noncomputable def XF (J:JT)(G:GT)(cf:CF)(H:Hp):R:=
 BN (xc H) fun i0 h1=>
 B2 (cf (.func (.func 44) [] []) [(.int .i64 128)] h1) fun v2 h3=>
 B1 (fl [(.int .i64 0),.ah,.ja,.ah,.fB] [(2,1,(.map i0)),(4,1,v2)]) fun l4=>
 BN (bx 67 (.agg l4) h3) fun i5 h6=>
 some ((.ptr i5 0),h6)
theorem ajE {H:Hp}{r:AV × Hp}(h:XF JN GO cK  H=some r):cK (.func (.func 18) [] []) [] H=some r:=aT (first:=[]) (cap:=[]) (aaw (by kernel_rfl) h)
noncomputable def xU (J:JT)(G:GT)(cf:CF)(a0 a1:AV)(H:Hp):R:=
 BN (bx 26 a1 H) fun i0 h1=>
 B1 (aA 8 (.ptr i0 0) h1) fun v2=>
 B2 (cf (.func (.func 21) [] []) [v2] h1) fun v3 h4=>
 B1 (fT .not v3) fun v5=>
 CD v5 (
 some ((.int .i64 1),h4)) (
 J 2 (fun j6=>
 B1 (fa 0 (.ptr i0 0)) fun v7=>
 B1 (ld v7 h4) fun v8=>
 B1 (bG v8 (.int .i64 1)) fun v9=>
 CD v9 (
 B1 (fa 5 (.ptr i0 0)) fun v10=>
 B1 (ld v10 h4) fun v11=>
 B1 (fa 7 (.ptr i0 0)) fun v12=>
 B1 (ld v12 h4) fun dJ=>
 B2 (cf (.func (.func 40) [] []) [a0,v11,dJ] h4) fun cI eU=>
 some (cI,eU)) (
 B1 (bG v8 (.int .i64 2)) fun cW=>
 CD cW (
 B1 (aA 8 (.ptr i0 0) h4) fun eN=>
 B2 (cf (.func (.func 41) [] []) [a0,eN] h4) fun dO cY=>
 some (dO,cY)) (
 B1 (bG v8 (.int .i64 6)) fun v20=>
 CD v20 (
 B1 (fa 4 (.ptr i0 0)) fun v21=>
 B1 (ld v21 h4) fun v22=>
 B2 (cf (.func (.func 42) [] []) [a0,v22] h4) fun v23 jh=>
 some (v23,jh)) (
 B1 (bG v8 (.int .i64 9)) fun v25=>
 CD v25 (
 some ((.int .i64 0),h4)) (
 j6 a0 (.ptr i0 0) h4))))) (fun bT bN gO=>
 J 2 (fun jw=>
 J 3 (fun xR=>
 B1 (fa 1 bN) fun v31=>
 B1 (ld v31 gO) fun v32=>
 B1 (aV bT) fun fy=>
 B1 (fa 3 fy) fun eg=>
 B1 (ld eg gO) fun v35=>
 B1 (bq v35) fun v36=>
 B1 (lE v32 v36) fun v37=>
 xR bT bN v37 gO) (fun cF cJ cG iz=>
 CD cG (
 some ((.int .i64 4),iz)) (
 jw cF cJ iz))) (fun eL dQ dT=>
 B1 (aA 8 dQ dT) fun fA=>
 B2 (cf (.func (.func 43) [] []) [eL,fA] dT) fun v46 kj=>
 some (v46,kj))))
theorem ahV (J:JT)(G:GT)(cf:CF)(a0 a1:AV)(H:Hp):fQ P J G aR an cf 16 [a0,a1] H=xU J G cf a0 a1 H:=by kernel_rfl
theorem Be {a0 a1:AV}{H:Hp}{r:AV × Hp}(h:xU JN GO cK a0 a1 H=some r):cK (.func (.func 16) [] []) [a0,a1] H=some r:=aT (first:=[]) (cap:=[]) ((ahV JN GO _ a0 a1 H).trans h)
noncomputable def BG (J:JT)(G:GT)(cf:CF)(a0 a1 a2:AV)(H:Hp):R:=
 J 3 (fun j0=>
 J 4 (fun j1=>
 B1 (aV a0) fun v2=>
 B1 (fa 2 v2) fun v3=>
 B1 (ld v3 H) fun v4=>
 B1 (uz .str (.str []) true v4 a1 H) fun v5=>
 B1 (ex 0 v5) fun v6=>
 B1 (ex 1 v5) fun v7=>
 j1 a0 a1 a2 v7 H) (fun x8 x9 cl bp dU=>
 CD bp (
 some ((.int .i64 5),dU)) (
 j0 x8 x9 cl dU))) (fun aP bg br bE=>
 J 4 (fun mg=>
 B2 (cf (.func (.func 53) [] []) [br] bE) fun dO cY=>
 B1 (ex 0 dO) fun v20=>
 B1 (ex 1 dO) fun v21=>
 BN (aE cY [.ah] 72 0) fun i22 cp=>
 B1 (st 1 (.ptr i22 0) v20 cp) fun jh=>
 mg aP bg (.ptr i22 0) v21 jh) (fun bC bT bN cZ dR=>
 B1 (hY cZ (.int .i64 0)) fun v30=>
 CD v30 (
 some (cZ,dR)) (
 J 3 (fun cu=>
 J 4 (fun gu=>
 B1 (aV bC) fun fy=>
 B1 (fa 1 fy) fun eg=>
 B1 (ld eg dR) fun v35=>
 B1 (bq v35) fun v36=>
 B1 (bG v36 (.int .i64 16)) fun v37=>
 gu bC bT bN v37 dR) (fun cF cJ cG dE gD=>
 CD dE (
 some ((.int .i64 6),gD)) (
 cu cF cJ cG gD))) (fun dQ iH fD jj=>
 J 3 (fun xg=>
 B1 (aV dQ) fun gL=>
 B1 (fa 1 gL) fun v49=>
 B1 (ld v49 jj) fun jo=>
 B1 (fl [(.str [])] [(0,1,iH)]) fun l51=>
 BN (aE jj l51 9 0) fun i52 ik=>
 B2 (gw 9 1 [(.str [])] false jo (.slice i52 0 1 1 true 1) ik) fun iN jW=>
 B1 (aV dQ) fun kO=>
 B1 (fa 1 kO) fun v57=>
 B1 (st 1 v57 iN jW) fun qN=>
 xg dQ iH fD qN) (fun cN eT dZ fY=>
 J 0 (fun K9=>
 B1 (aV cN) fun v64=>
 B1 (fa 2 v64) fun nK=>
 B1 (ld nK fY) fun mB=>
 B1 (aA 1 dZ fY) fun oy=>
 B2 (cf (.func (.func 55) [] []) [oy] fY) fun ma tv=>
 B1 (th .str mB eT ma tv) fun qn=>
 B1 (ld nK tv) fun oL=>
 SM mB oL <|
 K9  qn) (fun  tW=>
 some ((.int .i64 0),tW)))))))
theorem afv (J:JT)(G:GT)(cf:CF)(a0 a1 a2:AV)(H:Hp):fQ P J G aR an cf 40 [a0,a1,a2] H=BG J G cf a0 a1 a2 H:=by kernel_rfl
theorem JY {a0 a1 a2:AV}{H:Hp}{r:AV × Hp}(h:BG JN GO cK a0 a1 a2 H=some r):cK (.func (.func 40) [] []) [a0,a1,a2] H=some r:=aT (first:=[]) (cap:=[]) ((afv JN GO _ a0 a1 a2 H).trans h)
noncomputable def sO (J:JT)(G:GT)(cf:CF)(a0 a1:AV)(H:Hp):R:=
 BN (bx 26 a1 H) fun i0 h1=>
 J 4 (fun j2=>
 B1 (fa 5 (.ptr i0 0)) fun v3=>
 B1 (ld v3 h1) fun v4=>
 B2 (cf (.func (.func 56) [] []) [a0,v4] h1) fun v5 h6=>
 B1 (ex 0 v5) fun v7=>
 B1 (ex 1 v5) fun v8=>
 BN (aE h6 [.ah] 72 0) fun i9 bW=>
 B1 (st 1 (.ptr i9 0) v7 bW) fun gY=>
 j2 a0 (.ptr i0 0) (.ptr i9 0) v8 gY) (fun aZ aP bg br bE=>
 J 5 (fun mg=>
 B1 (fa 5 aP) fun dO=>
 B1 (ld dO bE) fun gC=>
 B1 (fa 6 aP) fun v20=>
 B1 (ld v20 bE) fun v21=>
 B2 (cf (.func (.func 45) [] []) [aZ,gC,v21] bE) fun v22 cp=>
 B1 (ex 0 v22) fun v24=>
 B1 (ex 1 v22) fun v25=>
 mg aZ aP bg br v25 cp) (fun bT bN cZ eP di gx=>
 J 3 (fun gu=>
 B1 (fT .not eP) fun fy=>
 CD fy (
 some ((.int .i64 4),gx)) (
 J 4 (fun kN=>
 B1 (fa 6 bN) fun v35=>
 B1 (ld v35 gx) fun v36=>
 B1 (qH v36 (.str [])) fun v37=>
 G v37 true (fun xD=>
 xD di gx) (fun eJ kI=>
 B1 (pk v37 eJ (.bool false)) fun v41=>
 kN bT bN cZ v41 kI) gx) (fun eL dQ iH fD jj=>
 CD fD (
 some ((.int .i64 5),jj)) (
 J 4 (fun xg=>
 B1 (aV eL) fun gL=>
 B1 (fa 3 gL) fun v49=>
 B1 (ld v49 jj) fun jo=>
 B1 (bq jo) fun v51=>
 B1 (bG v51 (.int .i64 64)) fun jf=>
 xg eL dQ iH jf jj) (fun dY dG dF cL jx=>
 CD cL (
 some ((.int .i64 6),jx)) (
 J 4 (fun Hs=>
 B1 (fa 1 dG) fun v59=>
 B1 (ld v59 jx) fun fI=>
 B1 (aV dY) fun lU=>
 B1 (fa 3 lU) fun gV=>
 B1 (ld gV jx) fun v63=>
 B1 (bq v63) fun v64=>
 B1 (bS v64 (.int .i64 1)) fun nK=>
 B1 (hY fI nK) fun mB=>
 Hs dY dG dF mB jx) (fun iB jE mo lZ kM=>
 CD lZ (
 some ((.int .i64 1),kM)) (
 gu iB jE mo kM)))))))) (fun rA gS iJ si=>
 J 4 (fun QV=>
 B1 (aA 1 iJ si) fun qg=>
 B2 (cf (.func (.func 76) [] []) [qg] si) fun uU iZ=>
 B1 (ex 0 uU) fun v80=>
 B1 (ex 1 uU) fun oq=>
 BN (aE iZ [.ah,(.int .i64 0),.ah,.ah] 75 0) fun i82 oU=>
 B1 (st 4 (.ptr i82 0) v80 oU) fun xX=>
 QV rA gS (.ptr i82 0) oq xX) (fun pz oN uy oJ sd=>
 B1 (hY oJ (.int .i64 0)) fun qe=>
 CD qe (
 some (oJ,sd)) (
 J 2 (fun j91=>
 B1 (aV pz) fun pF=>
 B1 (fa 3 pF) fun v93=>
 B1 (ld v93 sd) fun xQ=>
 B1 (aA 4 uy sd) fun NG=>
 B1 (fa 5 oN) fun qz=>
 B1 (ld qz sd) fun DV=>
 B1 (fl [.ah,(.int .i64 0),.ah,.ah,(.str [])] [(0,4,NG),(4,1,DV)]) fun l98=>
 B1 (fl [.ah,(.int .i64 0),.ah,.ah,(.str [])] [(0,5,(.agg l98))]) fun l99=>
 BN (aE sd l99 77 0) fun i100 HK=>
 B2 (gw 77 5 [.ah,(.int .i64 0),.ah,.ah,(.str [])] false xQ (.slice i100 0 1 1 true 5) HK) fun rY kb=>
 B1 (aV pz) fun wK=>
 B1 (fa 3 wK) fun v105=>
 B1 (st 1 v105 rY kb) fun wO=>
 B1 (ld v93 HK) fun v107=>
 SM xQ v107 <|
 j91 pz oN wO) (fun na iC oZ=>
 J 0 (fun W9=>
 B1 (fa 6 iC) fun AR=>
 B1 (ld AR oZ) fun yu=>
 B1 (qH yu (.str [])) fun qa=>
 CD qa (
 B1 (aV na) fun wq=>
 B1 (fa 4 wq) fun xT=>
 B1 (ld xT oZ) fun v117=>
 B1 (fa 5 iC) fun zf=>
 B1 (ld zf oZ) fun rb=>
 B1 (fa 6 iC) fun Ar=>
 B1 (ld Ar oZ) fun PY=>
 B1 (fl [(.str []),(.str [])] [(0,1,rb),(1,1,PY)]) fun ad2=>
 B1 (fa 1 iC) fun ql=>
 B1 (ld ql oZ) fun v124=>
 B2 (cf (.func (.func 33) [] []) [v117,(.agg ad2),v124] oZ) fun yX zy=>
 W9  zy) (
 W9  oZ)) (fun  OH=>
 some ((.int .i64 0),OH))))))))
theorem ap8 (J:JT)(G:GT)(cf:CF)(a0 a1:AV)(H:Hp):fQ P J G aR an cf 41 [a0,a1] H=sO J G cf a0 a1 H:=by kernel_rfl
theorem vf {a0 a1:AV}{H:Hp}{r:AV × Hp}(h:sO JN GO cK a0 a1 H=some r):cK (.func (.func 41) [] []) [a0,a1] H=some r:=aT (first:=[]) (cap:=[]) ((ap8 JN GO _ a0 a1 H).trans h)
noncomputable def bl_flow_Flow_tick (J:JT)(G:GT)(cf:CF)(cu:K.Fn 0)(gu:K.Fn 4)(cj bM dV bU:AV)(ir:Hp):R:=
 B1 (cB bU dV) fun iF=>
 CD iF (
 J 4 (fun pn=>
 B1 (aV cj) fun v40=>
 B1 (fa 3 v40) fun v41=>
 B1 (ld v41 ir) fun fx=>
 B1 (aV cj) fun gm=>
 B1 (fa 3 gm) fun v44=>
 B1 (ld v44 ir) fun fA=>
 B1 (ia 5 fA bU) fun v46=>
 B1 (fa 0 v46) fun jq=>
 B1 (aA 4 jq ir) fun gL=>
 B2 (cf (.func (.func 77) [] []) [gL,bM] ir) fun v49 lg=>
 B1 (ia 5 fx bU) fun v51=>
 B1 (fa 0 v51) fun jf=>
 B1 (st 4 jf v49 lg) fun ik=>
 B1 (ld v41 lg) fun iN=>
 SM fx iN <|
 pn cj bM dV bU ik) (fun dF cL dd du GU=>
 B1 (bS du (.int .i64 1)) fun fI=>
 gu dF cL dd fI GU)) (
 cu  ir)
noncomputable def Hq (J:JT)(G:GT)(cf:CF)(cu:K.Fn 0):K.Fn 4:=eu P an J G cf 42 [1,1,1,0,1,0,0] [0,1,20,21] (fun q t H=>match Nat.beq q 0 with | true=>app 0 cu (ax [] t) H | false=>(fun _ _ _=>none) q t H)
theorem Wp (cf:CF)(cu:K.Fn 0)(cj bM dV bU:AV)(ir:Hp):Hq JN GO cf cu cj bM dV bU ir=bl_flow_Flow_tick JN GO cf cu (Hq JN GO cf cu) cj bM dV bU ir:=aaw (b:=app 4 (Hq JN GO cf cu) [cj,bM,dV,bU] ir) (by kernel_rfl) ((eS cf 42 [1,1,1,0,1,0,0] [0,1,20,21] _ [cj,bM,dV,bU] rfl ir).trans (by kernel_rfl))
noncomputable def LV (J:JT)(G:GT)(cf:CF)(a0 a1:AV)(H:Hp):R:=
 J 2 (fun j0=>
 J 3 (fun j1=>
 B1 (aV a0) fun v2=>
 B1 (fa 0 v2) fun v3=>
 B1 (ld v3 H) fun v4=>
 B1 (nZ a1 v4) fun v5=>
 j1 a0 a1 v5 H) (fun x6 x7 x8 h9=>
 CD x8 (
 some ((.int .i64 10),h9)) (
 j0 x6 x7 h9))) (fun cl bp dU=>
 J 2 (fun eQ=>
 B1 (aV cl) fun cI=>
 B1 (fa 0 cI) fun gf=>
 B1 (st 1 gf bp dU) fun bE=>
 eQ cl bp bE) (fun bY bF cY=>
 J 0 (fun aF=>
 J 4 (fun eX=>
 B1 (aV bY) fun v22=>
 B1 (fa 3 v22) fun v23=>
 B1 (ld v23 cY) fun v24=>
 B1 (bq v24) fun v25=>
 eX bY bF v25 (.int .i64 0) cY) (fun bT bN cZ eP jU=>
 J 0 (fun cu=>
 Hq J G cf cu bT bN cZ eP jU) (fun  gM=>
 aF  gM))) (fun  fY=>
 some ((.int .i64 0),fY))))
theorem Ue {a0 a1:AV}{H:Hp}{r:AV × Hp}(h:LV JN GO cK a0 a1 H=some r):cK (.func (.func 42) [] []) [a0,a1] H=some r:=aT (first:=[]) (cap:=[]) (aaw (by kernel_rfl) h)
noncomputable def zM (J:JT)(G:GT)(cf:CF)(a0 a1:AV)(H:Hp):R:=
 BN (bx 26 a1 H) fun i0 h1=>
 J 3 (fun j2=>
 B1 (aV a0) fun v3=>
 B1 (fa 3 v3) fun v4=>
 B1 (ld v4 h1) fun v5=>
 B1 (fa 1 (.ptr i0 0)) fun v6=>
 B1 (ld v6 h1) fun v7=>
 B1 (mY v7 (.int .i64 1)) fun v8=>
 B1 (ia 5 v5 v8) fun v9=>
 B1 (fa 0 v9) fun v10=>
 j2 a0 (.ptr i0 0) v10 h1) (fun bp aZ aP eC=>
 BN (aE eC [.ah,(.int .i64 0),.ah,.ah] 75 0) fun i15 bE=>
 J 3 (fun mg=>
 B1 (fa 0 aZ) fun dO=>
 B1 (ld dO bE) fun gC=>
 J 3 (fun aF=>
 B1 (bG gC (.int .i64 3)) fun v21=>
 CD v21 (
 B1 (aV aP) fun v22=>
 B1 (aA 4 v22 bE) fun v23=>
 B1 (fa 2 aZ) fun v24=>
 B1 (ld v24 bE) fun v25=>
 B1 (fa 3 aZ) fun v26=>
 B1 (ld v26 bE) fun v27=>
 B1 (aV bp) fun v28=>
 B1 (fa 0 v28) fun v29=>
 B1 (ld v29 bE) fun v30=>
 B2 (cf (.func (.func 78) [] []) [v23,v25,v27,v30] bE) fun v31 eK=>
 B1 (ex 0 v31) fun fy=>
 B1 (ex 1 v31) fun eg=>
 B1 (st 4 (.ptr i15 0) fy eK) fun dS=>
 aF aP (.ptr i15 0) eg dS) (
 B1 (bG gC (.int .i64 4)) fun v36=>
 CD v36 (
 B1 (aV aP) fun v37=>
 B1 (aA 4 v37 bE) fun iF=>
 B1 (fa 2 aZ) fun eJ=>
 B1 (ld eJ bE) fun v40=>
 B1 (fa 3 aZ) fun v41=>
 B1 (ld v41 bE) fun fx=>
 B1 (fa 7 aZ) fun gm=>
 B1 (ld gm bE) fun v44=>
 B2 (cf (.func (.func 79) [] []) [iF,v40,fx,v44] bE) fun fA jj=>
 B1 (ex 0 fA) fun jq=>
 B1 (ex 1 fA) fun gL=>
 B1 (st 4 (.ptr i15 0) jq jj) fun rz=>
 aF aP (.ptr i15 0) gL rz) (
 B1 (bG gC (.int .i64 5)) fun jo=>
 CD jo (
 B1 (aV aP) fun v51=>
 B1 (aA 4 v51 bE) fun jf=>
 B1 (fa 2 aZ) fun v53=>
 B1 (ld v53 bE) fun iN=>
 B1 (fa 3 aZ) fun jz=>
 B1 (ld jz bE) fun kO=>
 B1 (aV bp) fun v57=>
 B1 (fa 0 v57) fun mc=>
 B1 (ld mc bE) fun v59=>
 B2 (cf (.func (.func 80) [] []) [jf,iN,kO,v59] bE) fun fI gM=>
 B1 (ex 0 fI) fun gV=>
 B1 (ex 1 fI) fun v63=>
 B1 (st 4 (.ptr i15 0) gV gM) fun tR=>
 aF aP (.ptr i15 0) v63 tR) (
 B1 (bG gC (.int .i64 7)) fun nK=>
 CD nK (
 B1 (aV aP) fun mB=>
 B1 (aA 4 mB bE) fun oy=>
 B1 (fa 5 aZ) fun ma=>
 B1 (ld ma bE) fun kR=>
 B2 (cf (.func (.func 81) [] []) [oy,kR] bE) fun v70 kM=>
 B1 (ex 0 v70) fun v72=>
 B1 (ex 1 v70) fun kU=>
 B1 (st 4 (.ptr i15 0) v72 kM) fun wW=>
 aF aP (.ptr i15 0) kU wW) (
 B1 (aV aP) fun v75=>
 B1 (aA 4 v75 bE) fun v76=>
 B2 (cf (.func (.func 82) [] []) [v76] bE) fun qg xi=>
 B1 (ex 0 qg) fun pg=>
 B1 (ex 1 qg) fun v80=>
 B1 (st 4 (.ptr i15 0) pg xi) fun wE=>
 aF aP (.ptr i15 0) v80 wE))))) (fun uc mT pj rH=>
 mg uc mT pj rH)) (fun oN uy oJ sd=>
 J 1 (fun KY=>
 B1 (bG oJ (.int .i64 0)) fun v91=>
 CD v91 (
 B1 (aA 4 uy sd) fun pF=>
 B1 (aV oN) fun v93=>
 B1 (st 4 v93 pF sd) fun Ol=>
 KY oJ Ol) (
 KY oJ sd)) (fun mq Fx=>
 some (mq,Fx))))
theorem ao2 (J:JT)(G:GT)(cf:CF)(a0 a1:AV)(H:Hp):fQ P J G aR an cf 43 [a0,a1] H=zM J G cf a0 a1 H:=by kernel_rfl
theorem GM {a0 a1:AV}{H:Hp}{r:AV × Hp}(h:zM JN GO cK a0 a1 H=some r):cK (.func (.func 43) [] []) [a0,a1] H=some r:=aT (first:=[]) (cap:=[]) ((ao2 JN GO _ a0 a1 H).trans h)
noncomputable def QW (J:JT)(G:GT)(cf:CF)(a0 a1:AV)(H:Hp):R:=
 BN (aE H [.ah] 72 0) fun i0 h1=>
 J 3 (fun j2=>
 B1 (aV a0) fun v3=>
 B1 (fa 2 v3) fun v4=>
 B1 (ld v4 h1) fun v5=>
 B1 (uz .str (.str []) true v5 a1 h1) fun v6=>
 B1 (ex 0 v6) fun v7=>
 B1 (ex 1 v6) fun v8=>
 j2 (.ptr i0 0) v7 v8 h1) (fun x9 cl bp dU=>
 J 2 (fun eQ=>
 B1 (fT .not bp) fun cI=>
 CD cI (
 B1 (fl [.ah] []) fun Qj=>
 B1 (st 1 x9 (.agg Qj) dU) fun bE=>
 B1 (aA 1 x9 bE) fun eN=>
 some (.tuple [eN,(.bool false)],bE)) (
 eQ x9 cl dU)) (fun bF df pC=>
 J 2 (fun eX=>
 B2 (cf (.func (.func 53) [] []) [df] pC) fun v22 cp=>
 B1 (ex 0 v22) fun v24=>
 B1 (ex 1 v22) fun v25=>
 BN (aE cp [.ah] 72 0) fun i26 eR=>
 B1 (st 1 (.ptr i26 0) v24 eR) fun gO=>
 eX bF (.ptr i26 0) gO) (fun eP di gx=>
 B1 (aA 1 di gx) fun v32=>
 B1 (st 1 eP v32 gx) fun oK=>
 B1 (aA 1 eP oK) fun eg=>
 some (.tuple [eg,(.bool true)],oK))))
theorem W3 {a0 a1:AV}{H:Hp}{r:AV × Hp}(h:QW JN GO cK a0 a1 H=some r):cK (.func (.func 56) [] []) [a0,a1] H=some r:=aT (first:=[]) (cap:=[]) (aaw (by kernel_rfl) h)
noncomputable def SY (J:JT)(G:GT)(cf:CF)(a0:AV)(H:Hp):R:=
 B1 (aV a0) fun v0=>
 B1 (fa 3 v0) fun v1=>
 B1 (ld v1 H) fun v2=>
 B1 (bq v2) fun v3=>
 some (v3,H)
theorem ahC {a0:AV}{H:Hp}{r:AV × Hp}(h:SY JN GO cK a0 H=some r):cK (.func (.func 29) [] []) [a0] H=some r:=aT (first:=[]) (cap:=[]) (aaw (by kernel_rfl) h)
noncomputable def IE (J:JT)(G:GT)(cf:CF)(a0 a1:AV)(H:Hp):R:=
 BN (aE H [.ah,(.int .i64 0),.ah,.ah] 75 0) fun i0 h1=>
 J 3 (fun j2=>
 J 4 (fun j3=>
 B1 (cB a1 (.int .i64 1)) fun v4=>
 G v4 false (fun k5=>
 k5 a1 h1) (fun v6 h7=>
 G v4 false (fun k8=>
 k8 a0 h7) (fun v9 bW=>
 G v4 false (fun Aq=>
 B1 (aV v9) fun v12=>
 Aq v12 bW) (fun dJ eC=>
 G v4 false (fun xN=>
 B1 (fa 3 dJ) fun cW=>
 xN cW eC) (fun eN fe=>
 G v4 false (fun QH=>
 B1 (ld eN fe) fun v20=>
 QH v20 fe) (fun v21 lY=>
 G v4 false (fun GI=>
 B1 (bq v21) fun v24=>
 GI v24 lY) (fun v25 dD=>
 G v4 false (fun Gt=>
 B1 (lE v6 v25) fun v28=>
 Gt v28 dD) (fun v29 jU=>
 B1 (pk v4 (.bool true) v29) fun v31=>
 j3 a0 a1 (.ptr i0 0) v31 jU) dD) lY) fe) eC) bW) h7) h1) (fun eE cj bM dV mH=>
 CD dV (
 B1 (fl [.ah,(.int .i64 0),.ah,.ah] []) fun HU=>
 B1 (st 4 bM (.agg HU) mH) fun fV=>
 B1 (aA 4 bM fV) fun eJ=>
 some (.tuple [eJ,(.str []),(.bool false)],fV)) (
 j2 eE cj bM mH))) (fun cG dE eL sM=>
 J 2 (fun j44=>
 B1 (aV cG) fun fA=>
 B1 (fa 3 fA) fun v46=>
 B1 (ld v46 sM) fun jq=>
 B1 (mY dE (.int .i64 1)) fun gL=>
 B1 (ia 5 jq gL) fun v49=>
 B1 (aA 5 v49 sM) fun jo=>
 BN (aE sM [.ah,(.int .i64 0),.ah,.ah,(.str [])] 77 0) fun i51 nC=>
 B1 (st 5 (.ptr i51 0) jo nC) fun ik=>
 j44 eL (.ptr i51 0) ik) (fun dG dF mK=>
 B1 (fa 0 dF) fun v57=>
 B1 (aA 4 v57 mK) fun mc=>
 B2 (cf (.func (.func 58) [] []) [mc] mK) fun v59 lH=>
 B1 (fa 4 dF) fun lU=>
 B1 (ld lU lH) fun gV=>
 B1 (st 4 dG v59 lH) fun sf=>
 B1 (ld lU mK) fun v64=>
 SM gV v64 <|
 B1 (ld lU sf) fun nK=>
 SM gV nK <|
 B1 (aA 4 dG sf) fun mB=>
 some (.tuple [mB,gV,(.bool true)],sf)))
theorem anH (J:JT)(G:GT)(cf:CF)(a0 a1:AV)(H:Hp):fQ P J G aR an cf 46 [a0,a1] H=IE J G cf a0 a1 H:=by kernel_rfl
theorem SJ {a0 a1:AV}{H:Hp}{r:AV × Hp}(h:IE JN GO cK a0 a1 H=some r):cK (.func (.func 46) [] []) [a0,a1] H=some r:=aT (first:=[]) (cap:=[]) ((anH JN GO _ a0 a1 H).trans h)
noncomputable def aaT (J:JT)(G:GT)(cf:CF)(a0 a1 a2:AV)(H:Hp):R:=
 B1 (aV a0) fun v0=>
 B1 (fa 4 v0) fun v1=>
 B1 (ld v1 H) fun v2=>
 B1 (fl [(.str []),(.str [])] [(0,1,a1),(1,1,a2)]) fun l3=>
 B2 (cf (.func (.func 83) [] []) [v2,(.agg l3)] H) fun v4 h5=>
 B1 (ex 0 v4) fun v6=>
 B1 (ex 1 v4) fun v7=>
 some (.tuple [v6,v7],h5)
theorem amn {a0 a1 a2:AV}{H:Hp}{r:AV × Hp}(h:aaT JN GO cK a0 a1 a2 H=some r):cK (.func (.func 45) [] []) [a0,a1,a2] H=some r:=aT (first:=[]) (cap:=[]) (aaw (by kernel_rfl) h)
noncomputable def bl_flow_Flow_First1 (J:JT)(G:GT)(cf:CF)(aD:K.Fn 0)(fH:K.Fn 3)(js:K.Fn 3)(yH:K.Fn 8)(gi fM fK gh fS ez dY dG:AV)(jW:Hp):R:=
 B1 (cB dG dY) fun kO=>
 CD kO (
 J 8 (fun Ao=>
 J 10 (fun Hs=>
 B1 (ia 4 ez dG) fun v59=>
 B1 (aA 4 v59 jW) fun fI=>
 BN (aE jW [(.int .i64 0),(.int .i64 0),(.int .i64 0),(.str [])] 132 0) fun i61 fY=>
 B1 (st 4 (.ptr i61 0) fI fY) fun sf=>
 Hs gi fM dG (.ptr i61 0) fK gh fS ez dY dG sf) (fun fU ft mu iB jE mo lZ rN rA gS wW=>
 J 11 (fun j75=>
 B1 (fa 0 ft) fun v76=>
 B1 (fa 1 v76) fun qg=>
 B1 (ld qg wW) fun uU=>
 B1 (bG uU (.int .i64 0)) fun pg=>
 G pg true (fun Od=>
 B1 (fa 0 iB) fun oq=>
 Od oq wW) (fun mV oU=>
 G pg true (fun FE=>
 B1 (ld mV oU) fun v85=>
 FE v85 oU) (fun yb tO=>
 G pg true (fun Rq=>
 B1 (bG yb (.int .i64 1)) fun qo=>
 Rq qo tO) (fun qe vJ=>
 B1 (pk pg qe (.bool false)) fun pF=>
 j75 fU ft mu iB jE mo lZ rN rA gS pF vJ) tO) oU) wW) (fun nU lS mq oW od ri lM qU nN qj PF yF=>
 CD PF (
 B1 (bS nU (.int .i64 1)) fun v105=>
 B1 (fa 1 oW) fun AS=>
 B1 (ld AS yF) fun v107=>
 B1 (bS v107 (.int .i64 1)) fun uA=>
 some (.tuple [v105,mq,uA,(.bool true)],yF)) (
 Ao nU lS od ri lM qU nN qj yF)))) (fun iC pU pX uJ uq tt xx wL wD=>
 B1 (bS wL (.int .i64 1)) fun zf=>
 yH iC pU pX uJ uq tt xx zf wD)) (
 js fK gh fS jW)
noncomputable def BT (J:JT)(G:GT)(cf:CF)(aD:K.Fn 0)(fH:K.Fn 3)(js:K.Fn 3):K.Fn 8:=eu P an J G cf 28 [1,0,1,0,0,1,1,0,0,1,1,0,0] [6,7,13,14,15,22,23,24] (fun q t H=>match Nat.beq q 2 with | true=>app 3 js (ax [13,14,15] t) H | false=>(fun q t H=>match Nat.beq q 1 with | true=>app 3 fH (ax [13,14,15] t) H | false=>(fun q t H=>match Nat.beq q 0 with | true=>app 0 aD (ax [] t) H | false=>(fun _ _ _=>none) q t H) q t H) q t H)
theorem alL (J:JT)(G:GT)(cf:CF)(aD:K.Fn 0)(fH:K.Fn 3)(js:K.Fn 3)(yH:K.Fn 8)(gi fM fK gh fS ez dY dG:AV)(jW:Hp):lh P an J G cf 28 [1,0,1,0,0,1,1,0,0,1,1,0,0] [6,7,13,14,15,22,23,24] (fun q t H=>match Nat.beq q 2 with | true=>app 3 js (ax [13,14,15] t) H | false=>(fun q t H=>match Nat.beq q 1 with | true=>app 3 fH (ax [13,14,15] t) H | false=>(fun q t H=>match Nat.beq q 0 with | true=>app 0 aD (ax [] t) H | false=>(fun _ _ _=>none) q t H) q t H) q t H) yH [gi,fM,fK,gh,fS,ez,dY,dG] jW=bl_flow_Flow_First1 J G cf aD fH js yH gi fM fK gh fS ez dY dG jW:=by kernel_rfl
theorem Bk (cf:CF)(aD:K.Fn 0)(fH:K.Fn 3)(js:K.Fn 3)(gi fM fK gh fS ez dY dG:AV)(jW:Hp):BT JN GO cf aD fH js gi fM fK gh fS ez dY dG jW=bl_flow_Flow_First1 JN GO cf aD fH js (BT JN GO cf aD fH js) gi fM fK gh fS ez dY dG jW:=aaw (b:=app 8 (BT JN GO cf aD fH js) [gi,fM,fK,gh,fS,ez,dY,dG] jW) (by kernel_rfl) ((eS cf _ _ _ _ [gi,fM,fK,gh,fS,ez,dY,dG] rfl jW).trans (alL JN GO cf aD fH js _ gi fM fK gh fS ez dY dG jW))
noncomputable def bl_flow_Flow_First (J:JT)(G:GT)(cf:CF)(aD:K.Fn 0)(ly:K.Fn 3)(aZ aP bg:AV)(eU:Hp):R:=
 B1 (cB bg aP) fun cW=>
 CD cW (
 J 3 (fun mg=>
 J 3 (fun fH=>
 J 5 (fun bL=>
 B1 (ia 5 aZ bg) fun v20=>
 B1 (aA 5 v20 eU) fun v21=>
 BN (aE eU [.ah,(.int .i64 0),.ah,.ah,(.str [])] 77 0) fun i22 cp=>
 B1 (st 5 (.ptr i22 0) v21 cp) fun jh=>
 bL bg (.ptr i22 0) aZ aP bg jh) (fun bC bT bN cZ eP jU=>
 J 8 (fun cu=>
 B1 (fa 0 bT) fun v32=>
 B1 (fa 2 v32) fun fy=>
 B1 (ld fy jU) fun eg=>
 B1 (bq eg) fun v35=>
 cu bC bT bN cZ eP eg v35 (.int .i64 0) jU) (fun bU cC cF cJ cG dE eL dQ dT=>
 J 3 (fun js=>
 BT J G cf aD fH js bU cC cF cJ cG dE eL dQ dT) (fun ub sj sw amx=>
 fH ub sj sw amx)))) (fun wR AZ Fl zy=>
 mg wR AZ Fl zy)) (fun iu iw jb Fg=>
 B1 (bS jb (.int .i64 1)) fun v131=>
 ly iu iw v131 Fg)) (
 aD  eU)
noncomputable def Dv (J:JT)(G:GT)(cf:CF)(aD:K.Fn 0):K.Fn 3:=eu P an J G cf 28 [1,0,1,0,0] [13,14,15] (fun q t H=>match Nat.beq q 0 with | true=>app 0 aD (ax [] t) H | false=>(fun _ _ _=>none) q t H)
theorem KH (cf:CF)(aD:K.Fn 0)(aZ aP bg:AV)(eU:Hp):Dv JN GO cf aD aZ aP bg eU=bl_flow_Flow_First JN GO cf aD (Dv JN GO cf aD) aZ aP bg eU:=aaw (b:=app 3 (Dv JN GO cf aD) [aZ,aP,bg] eU) (by kernel_rfl) ((eS cf 28 [1,0,1,0,0] [13,14,15] _ [aZ,aP,bg] rfl eU).trans (by kernel_rfl))
noncomputable def P9 (J:JT)(G:GT)(cf:CF)(a0:AV)(H:Hp):R:=
 J 0 (fun j0=>
 J 3 (fun j1=>
 B1 (aV a0) fun v2=>
 B1 (fa 3 v2) fun v3=>
 B1 (ld v3 H) fun v4=>
 B1 (bq v4) fun v5=>
 j1 v4 v5 (.int .i64 0) H) (fun x6 x7 x8 h9=>
 J 0 (fun aD=>
 Dv J G cf aD x6 x7 x8 h9) (fun  wo=>
 j0  wo))) (fun  lL=>
 some (.tuple [(.int .i64 0),(.int .i64 0),(.int .i64 0),(.bool false)],lL))
theorem Sy {a0:AV}{H:Hp}{r:AV × Hp}(h:P9 JN GO cK a0 H=some r):cK (.func (.func 28) [] []) [a0] H=some r:=aT (first:=[]) (cap:=[]) (aaw (by kernel_rfl) h)
noncomputable def bl_flow_All (J:JT)(G:GT)(cf:CF)(j4:K.Fn 1)(j5:K.Fn 4)(x6 x7 x8 x9:AV)(bW:Hp):R:=
 B1 (cB x9 x8) fun v11=>
 CD v11 (
 J 4 (fun cH=>
 B1 (ia 8 x7 x9) fun dJ=>
 B1 (aA 8 dJ bW) fun cI=>
 BN (aE bW [(.int .i64 0),(.int .i64 0),(.int .i64 0),(.int .i64 0),(.int .i64 0),(.str []),(.str []),(.str [])] 26 0) fun i15 bE=>
 B1 (st 8 (.ptr i15 0) cI bE) fun dL=>
 B1 (aA 8 (.ptr i15 0) dL) fun dO=>
 B2 (cf (.func (.func 16) [] []) [x6,dO] dL) fun gC pC=>
 cH x6 x7 x8 x9 pC) (fun aX aM bf bB dX=>
 B1 (bS bB (.int .i64 1)) fun v26=>
 j5 aX aM bf v26 dX)) (
 j4 x6 bW)
noncomputable def EG (J:JT)(G:GT)(cf:CF)(j4:K.Fn 1):K.Fn 4:=eu P an J G cf 13 [1,1,0,1,0,0] [3,7,8,9] (fun q t H=>match Nat.beq q 0 with | true=>app 1 j4 (ax [3] t) H | false=>(fun _ _ _=>none) q t H)
theorem ZL (cf:CF)(j4:K.Fn 1)(x6 x7 x8 x9:AV)(bW:Hp):EG JN GO cf j4 x6 x7 x8 x9 bW=bl_flow_All JN GO cf j4 (EG JN GO cf j4) x6 x7 x8 x9 bW:=aaw (b:=app 4 (EG JN GO cf j4) [x6,x7,x8,x9] bW) (by kernel_rfl) ((eS cf 13 [1,1,0,1,0,0] [3,7,8,9] _ [x6,x7,x8,x9] rfl bW).trans (by kernel_rfl))
noncomputable def VJ (J:JT)(G:GT)(cf:CF)(a0:AV)(H:Hp):R:=
 B2 (cf (.func (.func 18) [] []) [] H) fun v0 h1=>
 J 1 (fun j2=>
 B1 (bq a0) fun v3=>
 J 1 (fun j4=>
 EG J G cf j4 v0 a0 v3 (.int .i64 0) h1) (fun bN gO=>
 j2 bN gO)) (fun eP jU=>
 some (eP,jU))
theorem aiD {a0:AV}{H:Hp}{r:AV × Hp}(h:VJ JN GO cK a0 H=some r):cK (.func (.func 13) [] []) [a0] H=some r:=aT (first:=[]) (cap:=[]) (aaw (by kernel_rfl) h)
noncomputable def MZ (J:JT)(G:GT)(cf:CF)(a0:AV)(H:Hp):R:=
 qE (gA P .eql 64 true a0 .ah) <| B1 (eA P .eql 64 a0 .ah H) fun v0=>
 CD v0 (
 some (.ah,H)) (
 B1 (fl [] []) fun l1=>
 BN (aE H l1 77 0) fun i2 h3=>
 B2 (gw 77 5 [.ah,(.int .i64 0),.ah,.ah,(.str [])] false (.slice i2 0 0 0 true 5) a0 h3) fun v4 h5=>
 some (v4,h5))
theorem VN {a0:AV}{H:Hp}{r:AV × Hp}(h:MZ JN GO cK a0 H=some r):cK (.func (.func 31) [] []) [a0] H=some r:=aT (first:=[]) (cap:=[]) (aaw (by kernel_rfl) h)
noncomputable def Iq (J:JT)(G:GT)(cf:CF)(a0 a1 a2:AV)(H:Hp):R:=
 BN (bx 37 a1 H) fun i0 h1=>
 BN (aE h1 [(.int .i64 0),(.int .i64 0),(.int .i64 0),(.int .i64 0),(.int .i64 0),(.str []),(.str []),(.str [])] 26 0) fun i2 h3=>
 BN (aE h3 [(.int .i64 0),(.int .i64 0),(.int .i64 0),(.int .i64 0),(.int .i64 0),(.str [])] 39 0) fun i4 h5=>
 J 5 (fun j6=>
 B1 (fa 0 (.ptr i0 0)) fun v7=>
 B1 (ld v7 h5) fun v8=>
 J 5 (fun j9=>
 B1 (bG v8 (.int .i64 1)) fun v10=>
 CD v10 (
 B1 (fa 6 (.ptr i0 0)) fun v11=>
 B1 (ld v11 h5) fun v12=>
 B1 (fa 8 (.ptr i0 0)) fun dJ=>
 B1 (ld dJ h5) fun cI=>
 B1 (fl [(.int .i64 0),(.int .i64 0),(.int .i64 0),(.int .i64 0),(.int .i64 0),(.str []),(.str []),(.str [])] [(0,1,(.int .i64 1)),(5,1,v12),(7,1,cI)]) fun Qj=>
 B1 (st 8 (.ptr i2 0) (.agg Qj) h5) fun bE=>
 j9 a0 a2 (.ptr i0 0) (.ptr i2 0) (.ptr i4 0) bE) (
 B1 (bG v8 (.int .i64 2)) fun eN=>
 CD eN (
 J 5 (fun fH=>
 J 7 (fun bL=>
 B1 (fa 6 (.ptr i0 0)) fun v20=>
 B1 (ld v20 h5) fun v21=>
 B1 (fa 7 (.ptr i0 0)) fun v22=>
 B1 (ld v22 h5) fun v23=>
 B2 (cf (.func (.func 45) [] []) [a0,v21,v23] h5) fun v24 dX=>
 B1 (ex 0 v24) fun v26=>
 B1 (ex 1 v24) fun v27=>
 bL a0 a2 (.ptr i0 0) (.ptr i2 0) (.ptr i4 0) v26 v27 dX) (fun cZ eP di bP eE cj bM dS=>
 J 7 (fun vX=>
 G bM true (fun Eb=>
 B1 (fa 7 di) fun iF=>
 Eb iF dS) (fun eJ kI=>
 G bM true (fun Ig=>
 B1 (ld eJ kI) fun fx=>
 Ig fx kI) (fun gm dT=>
 G bM true (fun Om=>
 B1 (qH gm (.str [])) fun v46=>
 Om v46 dT) (fun jq mE=>
 B1 (pk bM jq (.bool false)) fun v49=>
 vX cZ eP di bP eE cj v49 mE) dT) kI) dS) (fun gh fS ez dY dG dF cL jx=>
 CD cL (
 B1 (fl [(.int .i64 0),(.int .i64 0),(.int .i64 0),(.int .i64 0),(.int .i64 0),(.str []),(.str []),(.str [])] []) fun l58=>
 B1 (fl [(.int .i64 0),(.int .i64 0),(.int .i64 0),(.int .i64 0),(.int .i64 0),(.str [])] [(1,1,dF)]) fun l59=>
 B1 (st 8 dY (.agg l58) jx) fun lH=>
 B1 (st 6 dG (.agg l59) lH) fun gM=>
 B1 (aA 8 dY gM) fun gV=>
 B1 (aA 6 dG gM) fun v63=>
 some (.tuple [gV,v63,(.bool false)],gM)) (
 fH gh fS ez dY dG jx)))) (fun fU ft mu iB jE tv=>
 B2 (cf (.func (.func 29) [] []) [fU] tv) fun v70 kM=>
 B1 (bS v70 (.int .i64 1)) fun v72=>
 B2 (gG P .min #[3,3] [v72,(.int .i64 64)] kM) fun kU wW=>
 B1 (fa 6 mu) fun v75=>
 B1 (ld v75 kM) fun v76=>
 B1 (fa 7 mu) fun qg=>
 B1 (ld qg kM) fun uU=>
 B1 (fl [(.int .i64 0),(.int .i64 0),(.int .i64 0),(.int .i64 0),(.int .i64 0),(.str []),(.str []),(.str [])] [(0,1,(.int .i64 2)),(1,1,kU),(5,1,v76),(6,1,uU)]) fun l79=>
 B1 (st 8 iB (.agg l79) kM) fun vj=>
 B1 (ld v75 tv) fun oq=>
 SM v76 oq <|
 B1 (ld qg tv) fun mV=>
 SM uU mV <|
 j9 fU ft mu iB jE vj)) (
 B1 (bG v8 (.int .i64 3)) fun rM=>
 CD rM (
 J 9 (fun Sa=>
 B2 (cf (.func (.func 28) [] []) [a0] h5) fun v85 sL=>
 B1 (ex 0 v85) fun v87=>
 B1 (ex 1 v85) fun uS=>
 B1 (ex 2 v85) fun qo=>
 B1 (ex 3 v85) fun qe=>
 Sa a0 a2 (.ptr i0 0) (.ptr i2 0) (.ptr i4 0) v87 uS qo qe sL) (fun CH mj nU lS mq oW od ri lM qK=>
 J 8 (fun N1=>
 B1 (fT .not lM) fun rY=>
 CD rY (
 B1 (fl [(.int .i64 0),(.int .i64 0),(.int .i64 0),(.int .i64 0),(.int .i64 0),(.str []),(.str []),(.str [])] []) fun Rs=>
 B1 (fl [(.int .i64 0),(.int .i64 0),(.int .i64 0),(.int .i64 0),(.int .i64 0),(.str [])] [(0,1,(.int .i64 4))]) fun HI=>
 B1 (st 8 lS (.agg Rs) qK) fun u6=>
 B1 (st 6 mq (.agg HI) u6) fun wO=>
 B1 (aA 8 lS wO) fun v107=>
 B1 (aA 6 mq wO) fun uA=>
 some (.tuple [v107,uA,(.bool false)],wO)) (
 N1 CH mj nU lS mq oW od ri qK)) (fun iC pU pX uJ uq tt xx wL wD=>
 J 9 (fun ape=>
 B2 (cf (.func (.func 46) [] []) [iC,tt] wD) fun rb zz=>
 B1 (ex 0 rb) fun PY=>
 B1 (ex 1 rb) fun za=>
 B1 (ex 2 rb) fun ql=>
 BN (aE zz [.ah,(.int .i64 0),.ah,.ah] 75 0) fun i124 DX=>
 B1 (st 4 (.ptr i124 0) PY DX) fun zy=>
 ape iC pU pX uJ uq tt xx wL (.ptr i124 0) zy) (fun iu iw jb jX nE ki tC tX pK LH=>
 J 8 (fun ad1=>
 B1 (fl [(.int .i64 0),(.int .i64 0),(.int .i64 0),(.int .i64 0),(.int .i64 0),(.str []),(.str []),(.str [])] [(0,1,(.int .i64 3)),(1,1,ki),(2,1,tC),(3,1,tX)]) fun ako=>
 B1 (st 8 jX (.agg ako) LH) fun vU=>
 ad1 iu iw jb jX nE tC tX pK vU) (fun QY DI A7 GC xV xY yV En y8=>
 B1 (fa 0 En) fun HM=>
 B1 (fa 0 HM) fun Ma=>
 B1 (ld Ma y8) fun OX=>
 B1 (ia 6 OX xY) fun v152=>
 B1 (fa 0 v152) fun Qd=>
 B1 (ld Qd y8) fun v154=>
 B1 (fl [(.int .i64 0),(.int .i64 0),(.int .i64 0),(.int .i64 0),(.int .i64 0),(.str [])] [(2,1,xY),(3,1,yV),(4,1,DI),(5,1,v154)]) fun QA=>
 B1 (st 6 xV (.agg QA) y8) fun IY=>
 j9 QY DI A7 GC xV IY))))) (
 B1 (bG v8 (.int .i64 4)) fun v157=>
 CD v157 (
 B1 (fa 1 (.ptr i0 0)) fun yd=>
 B1 (ld yd h5) fun v159=>
 B1 (fa 2 (.ptr i0 0)) fun v160=>
 B1 (ld v160 h5) fun FQ=>
 B1 (fa 3 (.ptr i0 0)) fun v162=>
 B1 (ld v162 h5) fun ag5=>
 B1 (fa 8 (.ptr i0 0)) fun v164=>
 B1 (ld v164 h5) fun OA=>
 B1 (fl [(.int .i64 0),(.int .i64 0),(.int .i64 0),(.int .i64 0),(.int .i64 0),(.str []),(.str []),(.str [])] [(0,1,(.int .i64 4)),(1,1,v159),(2,1,FQ),(3,1,ag5),(7,1,OA)]) fun ajz=>
 B1 (st 8 (.ptr i2 0) (.agg ajz) h5) fun afy=>
 j9 a0 a2 (.ptr i0 0) (.ptr i2 0) (.ptr i4 0) afy) (
 B1 (bG v8 (.int .i64 5)) fun v168=>
 CD v168 (
 B1 (fa 1 (.ptr i0 0)) fun Nr=>
 B1 (ld Nr h5) fun QS=>
 B1 (fa 2 (.ptr i0 0)) fun v171=>
 B1 (ld v171 h5) fun Nw=>
 B1 (fa 3 (.ptr i0 0)) fun v173=>
 B1 (ld v173 h5) fun KI=>
 B1 (fl [(.int .i64 0),(.int .i64 0),(.int .i64 0),(.int .i64 0),(.int .i64 0),(.str []),(.str []),(.str [])] [(0,1,(.int .i64 5)),(1,1,QS),(2,1,Nw),(3,1,KI)]) fun ai2=>
 B1 (st 8 (.ptr i2 0) (.agg ai2) h5) fun HT=>
 j9 a0 a2 (.ptr i0 0) (.ptr i2 0) (.ptr i4 0) HT) (
 B1 (bG v8 (.int .i64 6)) fun zx=>
 CD zx (
 B1 (fa 4 (.ptr i0 0)) fun Sj=>
 B1 (ld Sj h5) fun acZ=>
 B1 (fl [(.int .i64 0),(.int .i64 0),(.int .i64 0),(.int .i64 0),(.int .i64 0),(.str []),(.str []),(.str [])] [(0,1,(.int .i64 6)),(4,1,acZ)]) fun anE=>
 B1 (st 8 (.ptr i2 0) (.agg anE) h5) fun Nj=>
 j9 a0 a2 (.ptr i0 0) (.ptr i2 0) (.ptr i4 0) Nj) (
 B1 (bG v8 (.int .i64 7)) fun v182=>
 CD v182 (
 B1 (fa 1 (.ptr i0 0)) fun v183=>
 B1 (ld v183 h5) fun P4=>
 B1 (fa 6 (.ptr i0 0)) fun akG=>
 B1 (ld akG h5) fun Lz=>
 B1 (fl [(.int .i64 0),(.int .i64 0),(.int .i64 0),(.int .i64 0),(.int .i64 0),(.str []),(.str []),(.str [])] [(0,1,(.int .i64 7)),(1,1,P4),(5,1,Lz)]) fun l187=>
 B1 (st 8 (.ptr i2 0) (.agg l187) h5) fun acS=>
 j9 a0 a2 (.ptr i0 0) (.ptr i2 0) (.ptr i4 0) acS) (
 B1 (bG v8 (.int .i64 8)) fun PG=>
 CD PG (
 B1 (fa 1 (.ptr i0 0)) fun Sr=>
 B1 (ld Sr h5) fun ain=>
 B1 (fl [(.int .i64 0),(.int .i64 0),(.int .i64 0),(.int .i64 0),(.int .i64 0),(.str []),(.str []),(.str [])] [(0,1,(.int .i64 8)),(1,1,ain)]) fun agS=>
 B1 (st 8 (.ptr i2 0) (.agg agS) h5) fun PZ=>
 j9 a0 a2 (.ptr i0 0) (.ptr i2 0) (.ptr i4 0) PZ) (
 B1 (bG v8 (.int .i64 9)) fun v194=>
 CD v194 (
 J 2 (fun akA=>
 J 4 (fun ahp=>
 B1 (fa 1 (.ptr i0 0)) fun aga=>
 B1 (ld aga h5) fun v198=>
 B2 (cf (.func (.func 47) [] []) [a0,v198] h5) fun an8 aeA=>
 ahp (.ptr i0 0) (.ptr i2 0) (.ptr i4 0) an8 aeA) (fun Ea zw Ew ZR GQ=>
 B1 (qH ZR (.str [])) fun v206=>
 CD v206 (
 B1 (fl [(.int .i64 0),(.int .i64 0),(.int .i64 0),(.int .i64 0),(.int .i64 0),(.str []),(.str []),(.str [])] []) fun akY=>
 B1 (fa 1 Ea) fun v208=>
 B1 (ld v208 GQ) fun YL=>
 B1 (fl [(.int .i64 0),(.int .i64 0),(.int .i64 0),(.int .i64 0),(.int .i64 0),(.str [])] [(1,1,YL),(5,1,ZR)]) fun akd=>
 B1 (st 8 zw (.agg akY) GQ) fun TJ=>
 B1 (st 6 Ew (.agg akd) TJ) fun FC=>
 B1 (ld v208 TJ) fun acu=>
 SM YL acu <|
 B1 (aA 8 zw FC) fun an6=>
 B1 (aA 6 Ew FC) fun alU=>
 some (.tuple [an6,alU,(.bool false)],FC)) (
 akA zw Ew GQ))) (fun V4 aaI ajg=>
 B1 (fl [(.int .i64 0),(.int .i64 0),(.int .i64 0),(.int .i64 0),(.int .i64 0),(.str []),(.str []),(.str [])] []) fun ajP=>
 B1 (fl [(.int .i64 0),(.int .i64 0),(.int .i64 0),(.int .i64 0),(.int .i64 0),(.str [])] [(0,1,(.int .i64 4))]) fun aod=>
 B1 (st 8 V4 (.agg ajP) ajg) fun amN=>
 B1 (st 6 aaI (.agg aod) amN) fun Pq=>
 B1 (aA 8 V4 Pq) fun agW=>
 B1 (aA 6 aaI Pq) fun ajG=>
 some (.tuple [agW,ajG,(.bool false)],Pq))) (
 B1 (fl [(.int .i64 0),(.int .i64 0),(.int .i64 0),(.int .i64 0),(.int .i64 0),(.str []),(.str []),(.str [])] []) fun ajr=>
 B1 (fl [(.int .i64 0),(.int .i64 0),(.int .i64 0),(.int .i64 0),(.int .i64 0),(.str [])] [(0,1,(.int .i64 1))]) fun aeW=>
 B1 (st 8 (.ptr i2 0) (.agg ajr) h5) fun aiq=>
 B1 (st 6 (.ptr i4 0) (.agg aeW) aiq) fun Rb=>
 B1 (aA 8 (.ptr i2 0) Rb) fun v229=>
 B1 (aA 6 (.ptr i4 0) Rb) fun afJ=>
 some (.tuple [v229,afJ,(.bool false)],Rb))))))))))) (fun ac2 am4 aiC alj afj apI=>
 j6 ac2 am4 aiC alj afj apI)) (fun aeo akF LW adz akq NC=>
 J 3 (fun amU=>
 J 4 (fun ad4=>
 B1 (fa 0 LW) fun apO=>
 B1 (ld apO NC) fun ahg=>
 B1 (bG ahg (.int .i64 4)) fun KB=>
 G KB false (fun aor=>
 B1 (fa 0 LW) fun aeS=>
 aor aeS NC) (fun anf Ry=>
 G KB false (fun k252=>
 B1 (ld anf Ry) fun v253=>
 k252 v253 Ry) (fun aiE Yg=>
 G KB false (fun aiW=>
 B1 (bG aiE (.int .i64 5)) fun v257=>
 aiW v257 Yg) (fun aev SU=>
 B1 (pk KB (.bool true) aev) fun Fh=>
 G Fh true (fun ae3=>
 B1 (fa 5 LW) fun v262=>
 ae3 v262 SU) (fun akE NH=>
 G Fh true (fun k265=>
 B1 (ld akE NH) fun ahO=>
 k265 ahO NH) (fun anZ Xc=>
 G Fh true (fun ajO=>
 ajO akF Xc) (fun ajs aaQ=>
 G Fh true (fun ajd=>
 B1 (hY anZ ajs) fun v273=>
 ajd v273 aaQ) (fun agv aie=>
 B1 (pk Fh agv (.bool false)) fun ade=>
 ad4 aeo adz akq ade aie) aaQ) Xc) NH) SU) Yg) Ry) NC) (fun ajR R2 OY afW Tu=>
 CD afW (
 B1 (fl [(.int .i64 0),(.int .i64 0),(.int .i64 0),(.int .i64 0),(.int .i64 0),(.str []),(.str []),(.str [])] []) fun ajS=>
 B1 (fl [(.int .i64 0),(.int .i64 0),(.int .i64 0),(.int .i64 0),(.int .i64 0),(.str [])] [(0,1,(.int .i64 8))]) fun ahT=>
 B1 (st 8 R2 (.agg ajS) Tu) fun aid=>
 B1 (st 6 OY (.agg ahT) aid) fun M3=>
 B1 (aA 8 R2 M3) fun ahP=>
 B1 (aA 6 OY M3) fun aib=>
 some (.tuple [ahP,aib,(.bool false)],M3)) (
 amU ajR R2 OY Tu))) (fun afe QI ahn Zn=>
 J 2 (fun agm=>
 J 3 (fun aco=>
 B2 (cf (.func (.func 14) [] []) [afe] Zn) fun af1 aa6=>
 B1 (aA 8 QI aa6) fun abS=>
 B2 (cf (.func (.func 16) [] []) [af1,abS] aa6) fun akk aiG=>
 B1 (aA 8 QI Zn) fun am6=>
 SM abS am6 <|
 aco QI ahn akk aiG) (fun Mh NO aav Vx=>
 B1 (hY aav (.int .i64 0)) fun afX=>
 CD afX (
 B1 (fl [(.int .i64 0),(.int .i64 0),(.int .i64 0),(.int .i64 0),(.int .i64 0),(.str []),(.str []),(.str [])] []) fun acO=>
 B1 (fl [(.int .i64 0),(.int .i64 0),(.int .i64 0),(.int .i64 0),(.int .i64 0),(.str [])] [(0,1,aav)]) fun acq=>
 B1 (st 8 Mh (.agg acO) Vx) fun h307=>
 B1 (st 6 NO (.agg acq) h307) fun QK=>
 B1 (aA 8 Mh QK) fun ai8=>
 B1 (aA 6 NO QK) fun adv=>
 some (.tuple [ai8,adv,(.bool false)],QK)) (
 agm Mh NO Vx))) (fun LB Gy V1=>
 B1 (fa 1 LB) fun af8=>
 B1 (ld af8 V1) fun afD=>
 B1 (fa 1 Gy) fun aoe=>
 B1 (st 1 aoe afD V1) fun Qk=>
 B1 (aA 8 LB Qk) fun akP=>
 B1 (aA 6 Gy Qk) fun acf=>
 B1 (st 8 LB akP Qk) fun aal=>
 B1 (st 6 Gy acf aal) fun OJ=>
 B1 (aA 6 Gy aal) fun afY=>
 SM acf afY <|
 B1 (aA 8 LB OJ) fun adJ=>
 B1 (aA 6 Gy OJ) fun agT=>
 some (.tuple [adJ,agT,(.bool true)],OJ))))
theorem aoI (J:JT)(G:GT)(cf:CF)(a0 a1 a2:AV)(H:Hp):fQ P J G aR an cf 20 [a0,a1,a2] H=Iq J G cf a0 a1 a2 H:=by kernel_rfl
theorem aoB {a0 a1 a2:AV}{H:Hp}{r:AV × Hp}(h:Iq JN GO cK a0 a1 a2 H=some r):cK (.func (.func 20) [] []) [a0,a1,a2] H=some r:=aT (first:=[]) (cap:=[]) ((aoI JN GO _ a0 a1 a2 H).trans h)
noncomputable def bl_admit_Show (J:JT)(G:GT)(cf:CF)(jw:K.Fn 1)(xR:K.Fn 4)(bP eE cj bM:AV)(dS:Hp):R:=
 B1 (cB bM cj) fun v36=>
 CD v36 (
 J 4 (fun HX=>
 B1 (ia 4 eE bM) fun iF=>
 B1 (aA 4 iF dS) fun eJ=>
 BN (aE dS [(.int .i64 0),(.int .i64 0),(.int .i64 0),(.str [])] 132 0) fun i40 iz=>
 B1 (st 4 (.ptr i40 0) eJ iz) fun gD=>
 B1 (fa 0 (.ptr i40 0)) fun gm=>
 B1 (ld gm gD) fun v44=>
 B2 (cf (.func (.func 84) [] []) [v44] gD) fun fA jj=>
 B1 (oI fA (.str [46])) fun jq=>
 B1 (fa 1 (.ptr i40 0)) fun gL=>
 B1 (ld gL jj) fun v49=>
 B2 (cf (.func (.func 84) [] []) [v49] jj) fun jo np=>
 B1 (oI jq jo) fun jf=>
 B1 (fl [(.str [])] [(0,1,jf)]) fun Mx=>
 BN (aE np Mx 9 0) fun i54 jW=>
 B2 (gw 9 1 [(.str [])] false bP (.slice i54 0 1 1 true 1) jW) fun kO jx=>
 B1 (ld gL gD) fun mc=>
 SM v49 mc <|
 HX kO eE cj bM jx) (fun cN eT dZ lC sf=>
 B1 (bS lC (.int .i64 1)) fun v64=>
 xR cN eT dZ v64 sf)) (
 jw bP dS)
noncomputable def HO (J:JT)(G:GT)(cf:CF)(jw:K.Fn 1):K.Fn 4:=eu P an J G cf 47 [1,1,1,1,0,1,0,0] [8,26,27,28] (fun q t H=>match Nat.beq q 0 with | true=>app 1 jw (ax [8] t) H | false=>(fun _ _ _=>none) q t H)
theorem Yv (cf:CF)(jw:K.Fn 1)(bP eE cj bM:AV)(dS:Hp):HO JN GO cf jw bP eE cj bM dS=bl_admit_Show JN GO cf jw (HO JN GO cf jw) bP eE cj bM dS:=aaw (b:=app 4 (HO JN GO cf jw) [bP,eE,cj,bM] dS) (by kernel_rfl) ((eS cf 47 [1,1,1,1,0,1,0,0] [8,26,27,28] _ [bP,eE,cj,bM] rfl dS).trans (by kernel_rfl))
noncomputable def Rc (J:JT)(G:GT)(cf:CF)(a0 a1:AV)(H:Hp):R:=
 J 3 (fun j0=>
 B2 (cf (.func (.func 46) [] []) [a0,a1] H) fun v1 h2=>
 B1 (ex 0 v1) fun v3=>
 B1 (ex 1 v1) fun v4=>
 B1 (ex 2 v1) fun v5=>
 BN (aE h2 [.ah,(.int .i64 0),.ah,.ah] 75 0) fun i6 h7=>
 B1 (st 4 (.ptr i6 0) v3 h7) fun h8=>
 j0 (.ptr i6 0) v4 v5 h8) (fun x9 cl bp dU=>
 B1 (fT .not bp) fun dJ=>
 CD dJ (
 some ((.str []),dU)) (
 J 2 (fun AE=>
 B1 (fa 1 x9) fun gf=>
 B1 (ld gf dU) fun cW=>
 B2 (cf (.func (.func 84) [] []) [cW] dU) fun eN fe=>
 B1 (fl [(.str []),(.str [])] [(0,1,cl),(1,1,eN)]) fun l19=>
 BN (aE fe l19 9 0) fun i20 kX=>
 AE x9 (.slice i20 0 2 2 true 1) kX) (fun aM bf jh=>
 J 1 (fun D8=>
 B1 (fa 2 aM) fun v26=>
 B1 (ld v26 jh) fun v27=>
 B1 (bq v27) fun v28=>
 J 1 (fun jw=>
 HO J G cf jw bf v27 v28 (.int .i64 0) jh) (fun ft fW=>
 D8 ft fW)) (fun iB xw=>
 B2 (cf (.func (.func 85) [] []) [iB,(.str [32])] xw) fun kR qn=>
 some (kR,qn)))))
theorem aaB {a0 a1:AV}{H:Hp}{r:AV × Hp}(h:Rc JN GO cK a0 a1 H=some r):cK (.func (.func 47) [] []) [a0,a1] H=some r:=aT (first:=[]) (cap:=[]) (aaw (by kernel_rfl) h)
noncomputable def bl_flow_Flow_Clone (J:JT)(G:GT)(cf:CF)(ey:K.Fn 1)(qW:K.Fn 4)(cL dd du cN:AV)(lH:Hp):R:=
 B1 (cB cN du) fun lU=>
 CD lU (
 J 4 (fun Sw=>
 B1 (ia 3 dd cN) fun v63=>
 B1 (aA 3 v63 lH) fun v64=>
 BN (aE lH [(.str []),(.str []),(.int .i64 0)] 82 0) fun i65 fW=>
 B1 (st 3 (.ptr i65 0) v64 fW) fun wI=>
 B1 (aV cL) fun ma=>
 B1 (fa 4 ma) fun kR=>
 B1 (ld kR wI) fun v70=>
 B1 (fa 0 (.ptr i65 0)) fun oL=>
 B1 (aA 2 oL wI) fun v72=>
 B1 (fa 2 (.ptr i65 0)) fun kU=>
 B1 (ld kU wI) fun kG=>
 B2 (cf (.func (.func 33) [] []) [v70,v72,kG] wI) fun v75 wi=>
 Sw cL dd du cN wi) (fun fq fg py nL wE=>
 B1 (bS nL (.int .i64 1)) fun mV=>
 qW fq fg py mV wE)) (
 ey cL lH)
noncomputable def F9 (J:JT)(G:GT)(cf:CF)(ey:K.Fn 1):K.Fn 4:=eu P an J G cf 14 [1,1,1,1,1,1,0,1,0,0] [3,52,53,54] (fun q t H=>match Nat.beq q 2 with | true=>app 1 ey (ax [3] t) H | false=>(fun _ _ _=>none) q t H)
theorem aew (J:JT)(G:GT)(cf:CF)(ey:K.Fn 1)(qW:K.Fn 4)(cL dd du cN:AV)(lH:Hp):lh P an J G cf 14 [1,1,1,1,1,1,0,1,0,0] [3,52,53,54] (fun q t H=>match Nat.beq q 2 with | true=>app 1 ey (ax [3] t) H | false=>(fun _ _ _=>none) q t H) qW [cL,dd,du,cN] lH=bl_flow_Flow_Clone J G cf ey qW cL dd du cN lH:=by kernel_rfl
theorem YK (cf:CF)(ey:K.Fn 1)(cL dd du cN:AV)(lH:Hp):F9 JN GO cf ey cL dd du cN lH=bl_flow_Flow_Clone JN GO cf ey (F9 JN GO cf ey) cL dd du cN lH:=aaw (b:=app 4 (F9 JN GO cf ey) [cL,dd,du,cN] lH) (by kernel_rfl) ((eS cf _ _ _ _ [cL,dd,du,cN] rfl lH).trans (aew JN GO cf ey _ cL dd du cN lH))
noncomputable def NR (J:JT)(G:GT)(cf:CF)(a0:AV)(H:Hp):R:=
 B2 (cf (.func (.func 18) [] []) [] H) fun v0 h1=>
 J 2 (fun j2=>
 B1 (aV a0) fun v3=>
 B1 (fa 0 v3) fun v4=>
 B1 (ld v4 h1) fun v5=>
 B1 (aV v0) fun v6=>
 B1 (fa 0 v6) fun v7=>
 B1 (st 1 v7 v5 h1) fun h8=>
 j2 a0 v0 h8) (fun x9 cl gY=>
 J 2 (fun cH=>
 B1 (aV x9) fun dJ=>
 B1 (fa 1 dJ) fun cI=>
 B1 (ld cI gY) fun gf=>
 B2 (cf (.func (.func 30) [] []) [gf] gY) fun cW dL=>
 B1 (aV cl) fun dO=>
 B1 (fa 1 dO) fun gC=>
 B1 (st 1 gC cW dL) fun pC=>
 cH x9 cl pC) (fun aX aM cp=>
 J 2 (fun Gd=>
 B1 (Cb 2 aM aX cp) fun dX=>
 Gd aX aM dX) (fun bT bN gO=>
 J 2 (fun jw=>
 B1 (aV bT) fun v30=>
 B1 (fa 3 v30) fun v31=>
 B1 (ld v31 gO) fun v32=>
 B2 (cf (.func (.func 31) [] []) [v32] gO) fun fy mS=>
 B1 (aV bN) fun v35=>
 B1 (fa 3 v35) fun v36=>
 B1 (st 1 v36 fy mS) fun ir=>
 jw bT bN ir) (fun cF cJ kI=>
 J 1 (fun Q0=>
 J 4 (fun j42=>
 B1 (aV cF) fun gm=>
 B1 (fa 4 gm) fun v44=>
 B1 (ld v44 kI) fun fA=>
 B2 (cf (.func (.func 32) [] []) [fA] kI) fun v46 kj=>
 B1 (bq v46) fun gL=>
 j42 cJ v46 gL (.int .i64 0) kj) (fun fK gh fS ez ik=>
 J 1 (fun ey=>
 F9 J G cf ey fK gh fS ez ik) (fun mT xX=>
 Q0 mT xX))) (fun pz sL=>
 some (pz,sL))))))
theorem aln (J:JT)(G:GT)(cf:CF)(a0:AV)(H:Hp):fQ P J G aR an cf 14 [a0] H=NR J G cf a0 H:=by kernel_rfl
theorem af4 {a0:AV}{H:Hp}{r:AV × Hp}(h:NR JN GO cK a0 H=some r):cK (.func (.func 14) [] []) [a0] H=some r:=aT (first:=[]) (cap:=[]) ((aln JN GO _ a0 H).trans h)
noncomputable def bl_outriderlaw20_AdmitTakes (J:JT)(G:GT)(cf:CF)(j8:K.Fn 0)(j9:K.Fn 4)(cl bp aZ aP:AV)(eC:Hp):R:=
 B1 (bq cl) fun gf=>
 B1 (cB aP gf) fun cW=>
 CD cW (
 J 4 (fun mg=>
 J 4 (fun fH=>
 J 5 (fun bL=>
 B1 (ia 9 cl aP) fun v20=>
 B1 (aA 9 v20 eC) fun v21=>
 B2 (cf (.func (.func 19) [] []) [v21] eC) fun v22 cp=>
 bL cl bp aZ aP v22 cp) (fun bB bC bT bN cZ dR=>
 CD cZ (
 some ((.bool true),dR)) (
 fH bB bC bT bN dR))) (fun di bP eE cj mS=>
 J 7 (fun dc=>
 B1 (ia 9 di cj) fun v36=>
 B1 (aA 9 v36 mS) fun v37=>
 B2 (cf (.func (.func 20) [] []) [eE,v37,bP] mS) fun iF p7=>
 B1 (ex 0 iF) fun v40=>
 B1 (ex 1 iF) fun v41=>
 B1 (ex 2 iF) fun fx=>
 BN (aE p7 [(.int .i64 0),(.int .i64 0),(.int .i64 0),(.int .i64 0),(.int .i64 0),(.str []),(.str []),(.str [])] 26 0) fun i43 dT=>
 BN (aE dT [(.int .i64 0),(.int .i64 0),(.int .i64 0),(.int .i64 0),(.int .i64 0),(.str [])] 39 0) fun i45 jj=>
 B1 (st 8 (.ptr i43 0) v40 jj) fun kj=>
 B1 (st 6 (.ptr i45 0) v41 kj) fun mE=>
 dc di bP eE cj (.ptr i43 0) (.ptr i45 0) fx mE) (fun fK gh fS ez dY dG dF mK=>
 J 6 (fun Ao=>
 J 7 (fun Hs=>
 G dF true (fun EO=>
 B1 (fa 0 dG) fun fI=>
 EO fI mK) (fun lU fY=>
 G dF true (fun Qm=>
 B1 (ld lU fY) fun v64=>
 Qm v64 fY) (fun nK fW=>
 G dF true (fun k67=>
 B1 (hY nK (.int .i64 0)) fun ma=>
 k67 ma fW) (fun kR qn=>
 G dF true (fun OS=>
 OS kR qn) (fun v72 yg=>
 G v72 false (fun k74=>
 B1 (aA 8 dY yg) fun v75=>
 k74 v75 yg) (fun v76 wM=>
 G v72 false (fun N9=>
 B2 (cf (.func (.func 21) [] []) [v76] wM) fun pg vj=>
 N9 pg vj) (fun oq su=>
 G v72 false (fun k83=>
 B1 (fT .not oq) fun zJ=>
 k83 zJ su) (fun v85 sL=>
 G dF true (fun k87=>
 B1 (pk v72 (.bool true) v85) fun uS=>
 k87 uS sL) (fun qo uR=>
 G dF true (fun k91=>
 k91 qo uR) (fun pF Jb=>
 G pF false (fun k94=>
 k94 fS Jb) (fun NG Fx=>
 G pF false (fun RZ=>
 B1 (aA 8 dY Fx) fun Dk=>
 RZ Dk Fx) (fun Fe qK=>
 G pF false (fun k101=>
 B2 (cf (.func (.func 16) [] []) [NG,Fe] qK) fun rY kb=>
 k101 rY kb) (fun wK u6=>
 G pF false (fun Se=>
 B1 (hY wK (.int .i64 0)) fun v107=>
 Se v107 u6) (fun uA Da=>
 G dF true (fun Nd=>
 B1 (pk pF (.bool true) uA) fun AQ=>
 Nd AQ Da) (fun AR wJ=>
 B1 (pk dF AR (.bool false)) fun qa=>
 G qa false (fun aiR=>
 aiR dF wJ) (fun xT wD=>
 G qa false (fun k118=>
 B1 (fT .not xT) fun rb=>
 k118 rb wD) (fun Ar Ap=>
 G qa false (fun k122=>
 k122 Ar Ap) (fun ql sy=>
 G ql true (fun Ss=>
 B1 (aA 8 dY sy) fun Fu=>
 Ss Fu sy) (fun v127 A6=>
 G ql true (fun Oz=>
 B1 (fl [(.int .i64 0),(.int .i64 0),(.int .i64 0),(.int .i64 0),(.int .i64 0),(.str []),(.str []),(.str [])] []) fun alC=>
 Oz (.agg alC) A6) (fun v131 wo=>
 G ql true (fun aiX=>
 qE (gA P .neq 26 false v127 v131) <| B1 (eA P .neq 26 v127 v131 wo) fun Eg=>
 aiX Eg wo) (fun Pv LH=>
 G qa false (fun apG=>
 B1 (pk ql Pv (.bool false)) fun v138=>
 apG v138 LH) (fun v139 acV=>
 B1 (pk qa (.bool true) v139) fun v141=>
 Hs fK gh fS ez dG dF v141 acV) LH) wo) A6) sy) Ap) wD) wJ) Da) u6) qK) Fx) Jb) uR) sL) su) wM) yg) qn) fW) fY) mK) (fun A7 GC xV xY yV En Ei Lh=>
 CD Ei (
 some ((.bool false),Lh)) (
 Ao A7 GC xV xY yV En Lh))) (fun Bh AD Ah AW zS MK IY=>
 J 5 (fun am3=>
 B1 (fT .not MK) fun yd=>
 G yd true (fun L9=>
 B1 (fa 0 zS) fun v160=>
 L9 v160 IY) (fun FQ BS=>
 G yd true (fun OI=>
 B1 (ld FQ BS) fun v164=>
 OI v164 BS) (fun OA Km=>
 G yd true (fun k167=>
 B1 (hY OA (.int .i64 0)) fun v168=>
 k167 v168 Km) (fun Nr Fj=>
 B1 (pk yd Nr (.bool false)) fun v171=>
 G v171 true (fun aed=>
 B1 (aA 6 zS Fj) fun v173=>
 aed v173 Fj) (fun KI Zj=>
 G v171 true (fun acr=>
 B1 (fa 0 zS) fun zx=>
 acr zx Zj) (fun Sj EN=>
 G v171 true (fun k180=>
 B1 (ld Sj EN) fun acw=>
 k180 acw EN) (fun v182 Kz=>
 G v171 true (fun acy=>
 B1 (fl [(.int .i64 0),(.int .i64 0),(.int .i64 0),(.int .i64 0),(.int .i64 0),(.str [])] [(0,1,v182)]) fun apT=>
 acy (.agg apT) Kz) (fun Lz Q3=>
 G v171 true (fun amk=>
 qE (gA P .neq 39 false KI Lz) <| B1 (eA P .neq 39 KI Lz Q3) fun PG=>
 amk PG Q3) (fun Sr apg=>
 B1 (pk v171 Sr (.bool false)) fun acz=>
 am3 Bh AD Ah AW acz apg) Q3) Kz) EN) Zj) Fj) Km) BS) IY) (fun agJ Qg Hj Rf BM UR=>
 CD BM (
 some ((.bool false),UR)) (
 mg agJ Qg Hj Rf UR)))))) (fun akJ Mn Ea zw h203=>
 B1 (bS zw (.int .i64 1)) fun ajc=>
 j9 akJ Mn Ea ajc h203)) (
 j8  eC)
noncomputable def BR (J:JT)(G:GT)(cf:CF)(j8:K.Fn 0):K.Fn 4:=eu P an J G cf 4 [1,1,1,1,0,1,0,0] [0,1,5,6] (fun q t H=>match Nat.beq q 0 with | true=>app 0 j8 (ax [] t) H | false=>(fun _ _ _=>none) q t H)
theorem ah2 (J:JT)(G:GT)(cf:CF)(j8:K.Fn 0)(j9:K.Fn 4)(cl bp aZ aP:AV)(eC:Hp):lh P an J G cf 4 [1,1,1,1,0,1,0,0] [0,1,5,6] (fun q t H=>match Nat.beq q 0 with | true=>app 0 j8 (ax [] t) H | false=>(fun _ _ _=>none) q t H) j9 [cl,bp,aZ,aP] eC=bl_outriderlaw20_AdmitTakes J G cf j8 j9 cl bp aZ aP eC:=by kernel_rfl
theorem zj (cf:CF)(j8:K.Fn 0)(cl bp aZ aP:AV)(eC:Hp):BR JN GO cf j8 cl bp aZ aP eC=bl_outriderlaw20_AdmitTakes JN GO cf j8 (BR JN GO cf j8) cl bp aZ aP eC:=aaw (b:=app 4 (BR JN GO cf j8) [cl,bp,aZ,aP] eC) (by kernel_rfl) ((eS cf _ _ _ _ [cl,bp,aZ,aP] rfl eC).trans (ah2 JN GO cf j8 _ cl bp aZ aP eC))
noncomputable def LD (J:JT)(G:GT)(cf:CF)(a0 a1:AV)(H:Hp):R:=
 B2 (cf (.func (.func 17) [] []) [] H) fun v0 h1=>
 B1 (fT .not v0) fun v2=>
 CD v2 (
 some ((.bool false),h1)) (
 B1 (bq a0) fun v3=>
 B1 (lE v3 (.int .i64 50)) fun v4=>
 CD v4 (
 some ((.bool true),h1)) (
 B2 (cf (.func (.func 18) [] []) [] h1) fun v5 h6=>
 J 0 (fun j7=>
 J 0 (fun j8=>
 BR J G cf j8 a0 a1 v5 (.int .i64 0) h6) (fun  GQ=>
 j7  GQ)) (fun  h206=>
 some ((.bool true),h206))))
theorem alV (J:JT)(G:GT)(cf:CF)(a0 a1:AV)(H:Hp):fQ P J G aR an cf 4 [a0,a1] H=LD J G cf a0 a1 H:=by kernel_rfl
theorem abR {a0 a1:AV}{H:Hp}{r:AV × Hp}(h:LD JN GO cK a0 a1 H=some r):cK (.func (.func 4) [] []) [a0,a1] H=some r:=aT (first:=[]) (cap:=[]) ((alV JN GO _ a0 a1 H).trans h)
noncomputable def JL (J:JT)(G:GT)(cf:CF)(a0:AV)(H:Hp):R:=
 BN (bx 37 a0 H) fun i0 h1=>
 B1 (fa 6 (.ptr i0 0)) fun v2=>
 B1 (ld v2 h1) fun v3=>
 B1 (lens v3) fun v4=>
 B1 (lE v4 (.int .i64 40)) fun v5=>
 G v5 false (fun k6=>
 B1 (fa 7 (.ptr i0 0)) fun v7=>
 k6 v7 h1) (fun v8 h9=>
 G v5 false (fun zY=>
 B1 (ld v8 h9) fun v11=>
 zY v11 h9) (fun v12 iP=>
 G v5 false (fun PH=>
 B1 (lens v12) fun gf=>
 PH gf iP) (fun cW dL=>
 G v5 false (fun Sn=>
 B1 (lE cW (.int .i64 40)) fun gC=>
 Sn gC dL) (fun v20 kX=>
 B1 (pk v5 (.bool true) v20) fun v22=>
 G v22 false (fun GI=>
 B1 (fa 8 (.ptr i0 0)) fun v24=>
 GI v24 kX) (fun v25 dD=>
 G v22 false (fun Gt=>
 B1 (ld v25 dD) fun v28=>
 Gt v28 dD) (fun v29 jU=>
 G v22 false (fun AM=>
 B1 (lens v29) fun v32=>
 AM v32 jU) (fun fy mS=>
 G v22 false (fun xu=>
 B1 (lE fy (.int .i64 950)) fun v36=>
 xu v36 mS) (fun v37 fV=>
 B1 (pk v22 (.bool true) v37) fun eJ=>
 some (eJ,fV)) mS) jU) dD) kX) dL) iP) h9) h1
theorem Nl {a0:AV}{H:Hp}{r:AV × Hp}(h:JL JN GO cK a0 H=some r):cK (.func (.func 19) [] []) [a0] H=some r:=aT (first:=[]) (cap:=[]) (aaw (by kernel_rfl) h)
noncomputable def Mr (J:JT)(G:GT)(cf:CF)(H:Hp):R:=
 B1 (fl [(.int .i64 0),(.int .i64 0),(.int .i64 0),(.int .i64 0),(.int .i64 0),(.str []),(.str []),(.str [])] [(0,1,(.int .i64 1)),(5,1,(.str [100])),(7,1,(.str [97]))]) fun l0=>
 B1 (fl [(.int .i64 0),(.int .i64 0),(.int .i64 0),(.int .i64 0),(.int .i64 0),(.str []),(.str []),(.str [])] [(0,8,(.agg l0))]) fun l1=>
 BN (aE H l1 26 0) fun i2 h3=>
 B2 (cf (.func (.func 13) [] []) [(.slice i2 0 1 1 true 8)] h3) fun v4 h5=>
 J 4 (fun j6=>
 B1 (fl [(.int .i64 0),(.int .i64 0),(.int .i64 0),(.int .i64 0),(.int .i64 0),(.int .i64 0),(.str []),(.str []),(.str [])] [(0,1,(.int .i64 2)),(6,1,(.str [100]))]) fun l7=>
 B2 (cf (.func (.func 20) [] []) [v4,(.agg l7),(.int .i64 4)] h5) fun v8 h9=>
 B1 (ex 0 v8) fun v10=>
 B1 (ex 1 v8) fun v11=>
 B1 (ex 2 v8) fun v12=>
 BN (aE h9 [(.int .i64 0),(.int .i64 0),(.int .i64 0),(.int .i64 0),(.int .i64 0),(.str []),(.str []),(.str [])] 26 0) fun i13 eC=>
 BN (aE eC [(.int .i64 0),(.int .i64 0),(.int .i64 0),(.int .i64 0),(.int .i64 0),(.str [])] 39 0) fun i15 bE=>
 B1 (st 8 (.ptr i13 0) v10 bE) fun dL=>
 B1 (st 6 (.ptr i15 0) v11 dL) fun fe=>
 j6 v4 (.ptr i13 0) (.ptr i15 0) v12 fe) (fun df da aX aM cp=>
 G aM true (fun k24=>
 B1 (aA 6 aX cp) fun v25=>
 k24 v25 cp) (fun v26 eR=>
 G aM true (fun k28=>
 B1 (fl [(.int .i64 0),(.int .i64 0),(.int .i64 0),(.int .i64 0),(.int .i64 0),(.str [])] [(1,1,(.int .i64 1))]) fun l29=>
 k28 (.agg l29) eR) (fun v30 gx=>
 G aM true (fun k32=>
 qE (gA P .eql 39 false v26 v30) <| B1 (eA P .eql 39 v26 v30 gx) fun fy=>
 k32 fy gx) (fun eg dS=>
 B1 (pk aM eg (.bool false)) fun v36=>
 G v36 true (fun Eb=>
 B1 (aA 8 da dS) fun iF=>
 Eb iF dS) (fun eJ kI=>
 G v36 true (fun Ig=>
 B1 (fl [(.int .i64 0),(.int .i64 0),(.int .i64 0),(.int .i64 0),(.int .i64 0),(.str []),(.str []),(.str [])] [(0,1,(.int .i64 2)),(1,1,(.int .i64 1)),(5,1,(.str [100]))]) fun l42=>
 Ig (.agg l42) kI) (fun gm dT=>
 G v36 true (fun Om=>
 qE (gA P .eql 26 false eJ gm) <| B1 (eA P .eql 26 eJ gm dT) fun v46=>
 Om v46 dT) (fun jq mE=>
 B1 (pk v36 jq (.bool false)) fun v49=>
 G v49 true (fun k50=>
 k50 df mE) (fun v51 nC=>
 G v49 true (fun Rr=>
 B2 (cf (.func (.func 29) [] []) [v51] nC) fun iN jW=>
 Rr iN jW) (fun kO jx=>
 G v49 true (fun EF=>
 B1 (bG kO (.int .i64 0)) fun v59=>
 EF v59 jx) (fun fI gM=>
 B1 (pk v49 fI (.bool false)) fun gV=>
 some (gV,gM)) jx) nC) mE) dT) kI) dS) gx) eR) cp)
theorem aiz (J:JT)(G:GT)(cf:CF)(H:Hp):fQ P J G aR an cf 17 [] H=Mr J G cf  H:=by kernel_rfl
theorem an4 {H:Hp}{r:AV × Hp}(h:Mr JN GO cK  H=some r):cK (.func (.func 17) [] []) [] H=some r:=aT (first:=[]) (cap:=[]) ((aiz JN GO _  H).trans h)
end
noncomputable section
end
namespace Cw
noncomputable section
def cAt:List Nat->Code->Code
 | [],c=>c
 | 0::p,.seq a _=>cAt p a
 | _::p,.seq _ b=>cAt p b
 | _::p,.block _ b=>cAt p b
 | _::p,.loop b=>cAt p b
 | _::_,c=>c
def opsOf:Code->Array Oper
 | .region _ ops _=>ops
 | _ => #[]
def body:Code:=((P.funcs[14]?).bind (·.body)).getD .skip
def cc:Code:=cAt [1,1,1,1,0] body
def o1:Array Oper:=opsOf (cAt [0] cc)
def lb:Code:=cAt [1,0,0] cc
def o2:Array Oper:=opsOf (cAt [0] lb)
def o3:Array Oper:=opsOf (cAt [1,1,0,0] lb)
def o4:Array Oper:=opsOf (cAt [1,1,0,1] lb)
theorem body_eq:body = .seq (cAt [0] body) (.seq (cAt [1,0] body) (.seq (cAt [1,1,0] body) (.seq (cAt [1,1,1,0] body) (.seq cc (cAt [1,1,1,1,1] body))))):=by kernel_rfl
theorem cc_eq:∃ i1 i2 i3 i4,cc = .seq (.region i1 o1 false) (.block 0 (.loop (.seq (.region i2 o2 false) (.seq (.cond (.tmp 30) .skip (.exit 0)) (.block 1 (.seq (.region i3 o3 false) (.region i4 o4 false))))))):=⟨4,5,6,7,by kernel_rfl⟩
theorem s1:o1.size=5:=by kernel_rfl
theorem s2:o2.size=2:=by kernel_rfl
theorem s3:o3.size=5:=by kernel_rfl
theorem s4:o4.size=7:=by kernel_rfl
end
section
variable (f c it p k v x y:AV)
abbrev A0:Tm:=cw 69 [0,3] [f,c]
abbrev A1:Tm:=(A0 f c).put 34 24 f
abbrev A2:Tm:=(A1 f c).put 34 25 f
abbrev A3:Tm:=(A2 f c).put 34 26 p
abbrev A4:Tm:=(A3 f c p).put 34 27 v
abbrev A5:Tm:=(A4 f c p v).put 34 28 it
abbrev tL:Tm:=cw 69 [0,3,28] [f,c,it]
abbrev B1':Tm:=(tL f c it).put 34 29 x
abbrev B2' (b:Bool):Tm:=(B1' f c it x).put 34 30 (.bool b)
abbrev C1:Tm:=(B2' f c it x true).put 34 31 y
abbrev C2:Tm:=(C1 f c it x y).put 34 32 k
abbrev C3:Tm:=(C2 f c it k x y).put 34 33 v
abbrev C4:Tm:=(C3 f c it k v x y).put 34 4 k
abbrev C5:Tm:=(C4 f c it k v x y).put 34 5 v
abbrev D1:Tm:=(C5 f c it k v x y).put 34 34 c
abbrev D2:Tm:=(D1 f c it k v x y).put 34 35 c
abbrev D3:Tm:=(D2 f c it k v x y).put 34 36 p
abbrev D4 (m:AV):Tm:=(D3 f c it p k v x y).put 34 37 m
abbrev D5 (m:AV):Tm:=(D4 f c it p k v x y m).put 34 38 k
abbrev D6 (m:AV):Tm:=(D5 f c it p k v x y m).put 34 39 v
end
def At (H:Hp)(cm fm q:Nat)(l:List ME)(Hx:Hp):Prop:=Hx.next=H.next+1/\∀ i,Hx.h.get i=if i=fm then none else if i=cm then some (.map (jI q l) (q+l.length)) else H.h.get i
theorem hno:rX P hU:=fun g args H v H' h=>by cases h
theorem get_i {ops:Array Oper}{n i:Nat}(h:ops.size=n)(hi:i<n):ops[i]? = some (ops[i]'(by omega)):=afn _
section
variable {F:Nat->Prop}{W:World}{e e':Em}{H H':Hp}{w w':World}{G:Nat}
theorem back {F':Nat->Prop}(hR:RH G F W e H w)(h:RH G F' w e' H' w')(hF:∀ k,F k->F' k):RH G F W e' H' w':=
 h.Fa (fun k hk=>⟨(h.frame k (hF k hk)).1,(h.frame k (hF k hk)).2.trans (hR.frame k hk).2⟩) (fun i o hi hw q=>(h.obj i o hi).2.choose_spec.2.2 hw (hF _ q)) (h.os.trans hR.os) (h.tape.trans hR.tape) (h.output.trans hR.output) (agr hR.size h.size)
theorem fwd {F':Nat->Prop}(hR:RH G F W e H w)(h1:∀ k,F' k->k<w.heap.size)(h2:∀ i o,H.h.get i=some o->wr o=true\/e.n G<=e.b i->¬ F' (e.b i)):RH G F' w e H w:=
 hR.Fa (fun k hk=>⟨h1 k hk,rfl⟩) h2 rfl rfl rfl (aaH _)
end
theorem fwd3 {F:Nat->Prop}{W:World}{e:Em}{H:Hp}{w:World}{G r s:Nat}(hR:RH G F W e H w)(hr:r<w.heap.size)(hs:s<w.heap.size)(h:∀ i o,H.h.get i=some o->e.b i≠r/\e.b i≠s):RH G (fun k=>F k\/k=r\/k=s) w e H w:=by
 refine fwd hR (fun k hk => ?_) fun i o hi hw hq => ?_
 ·rcases hk with hk | rfl | rfl
  ·exact (hR.frame k hk).1
  ·exact hr
  ·exact hs
 ·rcases hq with hq | hq | hq
  ·exact (hR.obj i o hi).2.choose_spec.2.2 hw hq
  ·exact (h i o hi).1 hq
  ·exact (h i o hi).2 hq
theorem mem_zip {α β:Type}:∀ {a:List α} {b:List β} {y:β},b.length=a.length->y∈b->∃ x,(x,y)∈a.zip b
 | [],[],y,_,h=>by cases h
 | [],_::_,y,h,_=>by simp at h
 | x::a,[],y,h,_=>by simp at h
 | x::a,z::b,y,h,hy=>by
  rcases aaY.1 hy with rfl | hy
  ·exact⟨x,.head _⟩
  ·obtain⟨u,hu⟩:=mem_zip (a:=a) (b:=b) (by simpa using h) hy
   exact⟨u,.tail _ hu⟩
theorem map_fst_zip {α β:Type}:∀ {a:List α} {b:List β},b.length=a.length->(a.zip b).map (·.1)=a/\(a.zip b).map (·.2)=b
 | [],[],_=>⟨rfl,rfl⟩
 | [],_::_,h=>by simp at h
 | x::a,[],h=>by simp at h
 | x::a,z::b,h=>by
  obtain⟨h1,h2⟩:=map_fst_zip (a:=a) (b:=b) (by simpa using h)
  exact⟨by rw[List.zip_cons_cons,adK,h1],by rw[List.zip_cons_cons,adK,h2]⟩
theorem mapUpd_eq:P.underlying 63=some (.map 9 9):=by kernel_rfl
theorem kt_eq:qX P 9=some .str:=by kernel_rfl
theorem mup_at {H:Hp}{i c:Nat}{es:List ME}{k:List Nat}(h:H.h.get i=some (.map es c))(hk:∀ e∈es,∃ q,e.key = .str q/\q≠k)(v:AV):nH P 63 (.map i) (.str k) v H=some (Am.setObj H i (.map (es++[⟨.str k,v,c⟩]) (c+1))):=by
 refine Qz mapUpd_eq kt_eq ?_
 unfold th
 simp only[h,Jg es 0 hk]
theorem fin {G:Nat}{F:Nat->Prop}{W:World}{e:Em}{H Hx:Hp}{w:World}{cm fm q z c0:Nat}{es L:List ME}{fs:List MapEntry}{nI:Array MapEntry}(hR:RH G F W e Hx w)(hA:At H cm fm q L Hx)(hp:L.Perm es)(aO:cm≠fm)(g1:H.h.get cm=some (.map [] q))(g2:H.h.get fm=some (.map es z))(hf:fm<e.N)(hb:w.heap[e.b fm]? = some (.map nI c0))
  (Bs:fs.Perm nI.toList) (hM:gH e es fs) (hn:(fs.map (·.born)).Nodup) (hbr:∀ x∈fs,x.born<c0) (hF:¬ F (e.b fm)) (sK:∀ i o,Hx.h.get i=some o->e.b i≠e.b fm):RH G F W e ⟨H.h.bO cm (.map (jI q es) (q+es.length)),H.next+1⟩ w:=by
 have eB:∀ i o,(H.h.bO cm (.map (jI q es) (q+es.length))).get i=some o->(i=fm/\o = .map es z)\/(i=cm/\i≠fm/\o = .map (jI q es) (q+es.length)/\Hx.h.get i=some (.map (jI q L) (q+L.length)))\/(i≠fm/\i≠cm/\Hx.h.get i=some o):=by
  intro i o hi
  rw[Tr.ye _ _ _ _ (by rw[g1];rfl)] at hi
  have hx:=hA.2 i
  by_cases h1:i=fm
  ·left
   rw[if_neg (by rw[h1];exact fun q=>aO q.symm),h1,g2] at hi
   exact⟨h1,(adw hi).symm⟩
  ·right
   rw[if_neg h1] at hx
   by_cases h2:i=cm
   ·left
    rw[if_pos h2] at hi hx
    exact⟨h2,h1,(adw hi).symm,hx⟩
   ·right
    rw[if_neg h2] at hi hx
    exact⟨h1,h2,hx.trans hi⟩
 have hdom:∀ i o,(H.h.bO cm (.map (jI q es) (q+es.length))).get i=some o->i≠fm->∃ o',Hx.h.get i=some o'/\wr o'=wr o:=by
  intro i o hi hf'
  rcases eB i o hi with⟨h1,_⟩ | ⟨_,_,rfl,h3⟩ | ⟨_,_,h3⟩
  ·exact absurd h1 hf'
  ·exact⟨_,h3,rfl⟩
  ·exact⟨_,h3,rfl⟩
 refine⟨hR.N.trans hA.1,fun i o hi => ?_,fun i j oi oj hi hj hw he => ?_,hR.pY,hR.frame,hR.os,hR.tape,hR.output,hR.size,hR.lA⟩
 ·rcases eB i o hi with⟨rfl,rfl⟩ | ⟨_,_,rfl,h3⟩ | ⟨_,_,h3⟩
  ·exact⟨hf,_,hb,.map _ _ _ _ fs Bs hM hn hbr,fun _=>hF⟩
  ·obtain⟨h4,ob,h5,h6,h7⟩:=hR.obj i _ h3
   refine⟨h4,ob,h5,?_,h7⟩
   cases h6 with
   | map _ _ es1 c1 fs1 UU hM1 jJ uQ=>
   obtain⟨fs2,k1,k2⟩:=gH.perm hp ((WY q).1 hM1)
   exact .map _ _ _ _ fs2 (k1.trans UU) ((WY q).2 k2) ((k1.map _).nodup_iff.2 jJ) fun x hx=>uQ x (k1.mem_iff.1 hx)
  ·exact hR.obj i o h3
 ·by_cases h1:i=fm<;>by_cases h2:j=fm
  ·exact h1.trans h2.symm
  ·obtain⟨o',h3,_⟩:=hdom j oj hj h2
   exact absurd (he.symm.trans (by rw[h1])) (sK j o' h3)
  ·obtain⟨o',h3,_⟩:=hdom i oi hi h1
   exact absurd (he.trans (by rw[h2])) (sK i o' h3)
  ·obtain⟨o',h3,h4⟩:=hdom i oi hi h1
   obtain⟨o'',h5,_⟩:=hdom j oj hj h2
   exact hR.inj i j _ _ h3 h5 (by rw[h4];exact hw) he
theorem copyOne:WX P 69 cc [0,3] (Qf 2 3 0):=by
 intro t H H2 hp F W e a w Q hR hT hQ
 obtain⟨ci,co,fi,fo,cm,fm,q,es,z,hc,hf,l1,l2,g1,g2,hs,aO,rfl⟩:=af5 hp
 have hv:ax [0,3] t=[.ptr fi fo,.ptr ci co]:=by
  show[tg t 0,tg t 3]=_
  rw[hf,hc]
 have hT0:=hT.rJ (lv:=[0,3]) (by decide)
 rw[hv] at hT0
 simp only[hv] at hQ
 obtain⟨i1,i2,i3,i4,gZ⟩:=cc_eq
 rw[gZ]
 clear gZ hv hT hp
 refine wp_seq (wp_region ?_)
 rw[s1,show List.range 5=[0,1,2,3,4] from rfl]
 refine om hno (get_i s1 (i:=0) (by decide)) (by kernel_rfl) (v := .ptr fi fo) (H':=H) (t':=A1 (.ptr fi fo) (.ptr ci co)) (by kernel_rfl) (by kernel_rfl) hR hT0 fun e1 a1 w1 le1 oh qR gp => ?_
 refine om hno (get_i s1 (i:=1) (by decide)) (by kernel_rfl) (v := .ptr fi fo) (H':=H) (t':=A2 (.ptr fi fo) (.ptr ci co)) (by kernel_rfl) (by kernel_rfl) oh qR fun e2 a2 w2 le2 gN mX pG => ?_
 refine om hno (get_i s1 (i:=2) (by decide)) (by kernel_rfl) (v := .ptr fi (fo+2)) (H':=H) (t':=A3 (.ptr fi fo) (.ptr ci co) (.ptr fi (fo+2))) (by kernel_rfl) (by kernel_rfl) gN mX fun e3 a3 w3 le3 pI uB vP => ?_
 have hl:pB P hU (A3 (.ptr fi fo) (.ptr ci co) (.ptr fi (fo+2))) (o1[3]'(by rw[s1];decide)) H=(cellAt H fi (fo+2)).map (fun v=>(v,H)):=by kernel_rfl
 rw[l2] at hl
 refine om hno (get_i s1 (i:=3) (by decide)) (by kernel_rfl) (v := .map fm) (H':=H) (t':=A4 (.ptr fi fo) (.ptr ci co) (.ptr fi (fo+2)) (.map fm)) hl (by kernel_rfl) pI uB fun e4 a4 w4 le4 kB yM hd4 => ?_
 clear hl
 have le04:=Em.le_trans (Em.le_trans (Em.le_trans le1 le2) le3) le4
 have hd04:=hd4.trans (vP.trans (pG.trans gp))
 clear hR oh gN pI hT0 qR mX uB le1 le2 le3 le4 gp pG vP hd4
 have hm:=VR.ev kB yM.1 (.tmp 27)
 rw[show ev P.globals.size (A4 (.ptr fi fo) (.ptr ci co) (.ptr fi (fo+2)) (.map fm)) (.tmp 27) = .map fm from by kernel_rfl] at hm
 obtain⟨J8,hm27⟩:=hm.CX
 obtain⟨_,ob,hb,dK,hnF⟩:=kB.obj fm _ g2
 have hnF:=hnF (.inl rfl)
 cases dK with
 | map _ _ nI c0 fs Bs hM hn hbr=>
 have hold:∀ x∈nI.toList,x.born<c0:=fun x hx=>hbr x (Bs.mem_iff.2 hx)
 have gU:(nI.toList.map (·.born)).Nodup:=(Bs.map _).nodup_iff.1 hn
 obtain⟨e5,le5,i5,b5,d5,yO⟩:=kB.new (o := .tj (some fm) c0 [] c0) (i:=H.next) (H':=⟨H.h.put 34 H.next (.tj (some fm) c0 [] c0),H.next+1⟩) rfl (ob := .mapIter (some (e4.b fm)) c0 #[] c0) (fun e' hle hd=>by
  rw[<- (hle.2 fm J8).1];exact .tj fm c0 [] c0 (adW J8 hle.1) hd)
 refine Kr (get_i s1 (i:=4) (by decide)) (by kernel_rfl) (v' := .pointer (some ⟨w4.heap.size,0,none⟩)) (w':=w4.alloc (.mapIter (some (e4.b fm)) c0 #[] c0)) (apQ (ty:=63) (x := .tmp 27) (by kernel_rfl) (by rw[hm27];exact run_range_map w4 _ _ _ _ nI c0 mapUpd_eq hb)) ?_
 have hT5:=((yM.mono le5).put (dst:=some 28) (v := .ptr H.next 0) (t':=A5 (.ptr fi fo) (.ptr ci co) (.ptr H.next 0) (.ptr fi (fo+2)) (.map fm)) (by kernel_rfl) (VR.Mz b5 i5 d5)).rJ (lv:=[0,3,28]) (by decide)
 rw[show ax [0,3,28] (A5 (.ptr fi fo) (.ptr ci co) (.ptr H.next 0) (.ptr fi (fo+2)) (.map fm))=[.ptr fi fo,.ptr ci co,.ptr H.next 0] from by kernel_rfl] at hT5
 have OG:(o1[4]'(by rw[s1];decide)).dst=some 28:=by kernel_rfl
 rw[OG]
 have yO:RH P.globals.size F W e5 ⟨H.h.put 34 H.next (.tj (some fm) c0 [] c0),H.next+1⟩ (w4.alloc (.mapIter (some (e4.b fm)) c0 #[] c0)):=yO
 generalize hw5:w4.alloc (.mapIter (some (e4.b fm)) c0 #[] c0)=w5 at *
 have zg:(a4.put (some 28) (.pointer (some ⟨w4.heap.size,0,none⟩))).defers=a.defers:=hd04
 generalize a4.put (some 28) (.pointer (some ⟨w4.heap.size,0,none⟩))=a5 at *
 have hN4:e4.N=H.next:=kB.N
 have eZ:∀ i,i<H.next->e5.b i=e4.b i:=fun i hi=>(le5.2 i (by omega)).1
 have hgN:H.h.get H.next=none:=by
  cases hq:H.h.get H.next with
  | none=>rfl
  | some o=>have:=(kB.obj H.next o hq).1;omega
 have aI:∀ i o,H.h.get i=some o->i<H.next/\e4.b i<w4.heap.size:=fun i o hi=>by
  obtain⟨h1,oO,h2,_⟩:=kB.obj i o hi
  exact⟨by omega,(acH.1 h2).1⟩
 have TQ:e4.b fm<w4.heap.size:=(aI fm _ g2).2
 have vt:fm<H.next:=(aI fm _ g2).1
 have hAt:At H cm fm q [] ⟨((H.h.put 34 H.next (.tj (some fm) c0 [] c0)).del H.next).del fm,H.next+1⟩:=by
  refine⟨rfl,fun i => ?_⟩
  show (((H.h.put 34 H.next (.tj (some fm) c0 [] c0)).del H.next).del fm).get i=_
  rw[Tr.HW,Tr.HW,Tr.put,Tr.fj]
  by_cases h1:i=fm
  ·rw[if_pos h1,if_pos h1]
  rw[if_neg h1,if_neg h1]
  by_cases h2:i=H.next
  ·rw[if_pos h2]
   have h3:i≠cm:=fun q=>by have:=(aI cm _ g1).1;omega
   rw[if_neg h3,h2,hgN]
  rw[if_neg h2,if_neg h2]
  by_cases h3:i=cm
  ·rw[if_pos h3,h3,g1];rfl
  ·rw[if_neg h3]
 have hR5x:=(yO.del H.next).del fm
 have hit5:w5.heap[e5.b H.next]? = some (.mapIter (some (e5.b fm)) c0 #[] c0):=by
  rw[b5,eZ fm vt,<-hw5];exact heap_alloc_new _ _
 have hmp5:w5.heap[e5.b fm]? = some (.map nI c0):=by
  rw[eZ fm vt,<-hw5,heap_alloc_old _ _ TQ];exact hb
 have hsep5:∀ i o,((((H.h.put 34 H.next (.tj (some fm) c0 [] c0)).del H.next).del fm).get i=some o)->e5.b i≠e5.b H.next/\e5.b i≠e5.b fm:=by
  intro i o hi
  rw[hAt.2 i] at hi
  have iS:i≠fm/\∃ o',H.h.get i=some o':=by
   split at hi
   ·cases hi
   ·rename_i h1
    refine⟨h1,?_⟩
    split at hi
    ·rename_i h2;exact⟨_,h2▸g1⟩
    ·exact⟨o,hi⟩
  obtain⟨h1,o',h2⟩:=iS
  obtain⟨h3,h4⟩:=aI i o' h2
  rw[b5,eZ i h3,eZ fm vt]
  refine⟨by omega,fun q=>h1 ((kB.inj fm i _ o' g2 h2 (.inl rfl) q.symm).symm)⟩
 have hFit:¬ F (e5.b H.next):=fun q=>by rw[b5] at q;have:=(kB.frame _ q).1;omega
 have hFfm:¬ F (e5.b fm):=by rw[eZ fm vt];exact hnF
 have zp:e5.b fm≠e5.b H.next:=by rw[b5,eZ fm vt];omega
 have Ic:=map_fst_zip (a:=es) (b:=fs) hM.1
 have hVR5:∀ x∈es.zip fs,VR e5 x.1.key x.2.key/\VR e5 x.1.val x.2.val:=by
  intro x hx
  obtain⟨i,hi⟩:=List.mem_iff_getElem?.1 hx
  rw[List.getElem?_zip_eq_some] at hi
  obtain⟨h1,h2⟩:=hM.2 i x.1 x.2 hi.1 hi.2
  exact⟨h1.mono le5,h2.mono le5⟩
 have kW:cellAt H ci (co+2)=some (.map cm):=l1
 have hci:ci≠cm/\ci≠fm:=by
  unfold cellAt at kW
  refine⟨fun q => ?_,fun q => ?_⟩
  ·rw[q,g1] at kW;cases kW
  ·rw[q,g2] at kW;cases kW
 obtain⟨hpw,hks⟩:=abm hs
 show (Code.block 0 _).wp P Q a5 w5
 refine wp_block (Nb ?_)
 clear kB yM hm hm27 hb hnF yO hw5 hd04 eZ hN4
 have le0:=Em.le_trans le04 le5
 clear le04 le5 b5 TQ aI
 have key:∀ (n:Nat) (rest done:List (ME × MapEntry)) (seen:Array Nat) (e5:Em) (a5:Act) (w5:World) (Hx:Hp),rest.length=n->(es.zip fs).Perm (done++rest)->seen.toList=done.map (·.2.born)->At H cm fm q (done.map (·.1)) Hx->RH P.globals.size F W e5 Hx w5->lR e5 69 (tL (.ptr fi fo) (.ptr ci co) (.ptr H.next 0)) a5->a5.defers=a.defers->e.le e5->
   w5.heap[e5.b H.next]? = some (.mapIter (some (e5.b fm)) c0 seen c0)->w5.heap[e5.b fm]? = some (.map nI c0)->(∀ i o,Hx.h.get i=some o->e5.b i≠e5.b H.next/\e5.b i≠e5.b fm)->¬ F (e5.b H.next)->¬ F (e5.b fm)->e5.b fm≠e5.b H.next->(∀ x∈es.zip fs,VR e5 x.1.key x.2.key/\VR e5 x.1.val x.2.val)->e5.d H.next=0->H.next<e5.N->fm<e5.N->
   xm P (.seq (.region i2 o2 false) (.seq (.cond (.tmp 30) .skip (.exit 0)) (.block 1 (.seq (.region i3 o3 false) (.region i4 o4 false))))) (Exit.inBlock 0 Q) a5 w5:=by
  intro n
  induction n using Nat.strongRecOn with
  | ind n ih=>
  intro rest done seen e5 a5 w5 Hx hlen la hseen hAt hR hT hd le hit hmp sK hFit hFfm zp hVR Ay zq hfN
  have gj:e5.b H.next<w5.heap.size:=(acH.1 hit).1
  have kY:e5.b fm<w5.heap.size:=(acH.1 hmp).1
  have ll:((done++rest).map (·.2.born)).Nodup:=by
   have:((es.zip fs).map (·.2.born)).Nodup:=by
    rw[show (fun x:ME × MapEntry=>x.2.born)=(fun y:MapEntry=>y.born) ∘ (fun x:ME × MapEntry=>x.2) from rfl,<-akI,Ic.2];exact hn
   exact (la.map _).nodup_iff.1 this
  refine QE (wp_seq (wp_region ?_))
  rw[s2,show List.range 2=[0,1] from rfl]
  have hv28:=VR.ev hR hT.1 (.tmp 28)
  rw[show ev P.globals.size (tL (.ptr fi fo) (.ptr ci co) (.ptr H.next 0)) (.tmp 28) = .ptr H.next 0 from by kernel_rfl] at hv28
  obtain⟨o,_,ho,hv28⟩:=hv28.qd
  have AK:o=0:=by rw[Ay] at ho;omega
  subst AK
  have hop0:(o2[0]'(by rw[s2];decide)).op = .next (.tmp 28) false:=by kernel_rfl
  have hdst0:(o2[0]'(by rw[s2];decide)).dst=some 29:=by kernel_rfl
  rcases ae7 (P:=P) w5 (o2[0]'(by rw[s2];decide)).type (e5.b H.next) (e5.b fm) c0 seen nI hit hmp hold with⟨h0,iR⟩ | ⟨x,hx,nn,iR⟩
  ·refine Kr (get_i s2 (i:=0) (by decide)) (by kernel_rfl) (ZO hop0 (by rw[hv28];exact iR)) ?_
   rw[hdst0]
   have hRf:=fwd3 hR gj kY sK
   have qR:=hT.put (dst:=some 29) (v := .tuple [.bool false]) (t':=B1' (.ptr fi fo) (.ptr ci co) (.ptr H.next 0) (.tuple [.bool false])) (by kernel_rfl) (VR.tuple' (aQ.cons (.bool false) (aQ.nil e5)))
   refine om hno (get_i s2 (i:=1) (by decide)) (by kernel_rfl) (v := .bool false) (H':=Hx) (t':=B2' (.ptr fi fo) (.ptr ci co) (.ptr H.next 0) (.tuple [.bool false]) false) (by kernel_rfl) (by kernel_rfl) hRf qR fun e6 a6 w6 le6 hR6 AG DB => ?_
   show (Code.seq _ _).wp P _ a6 w6
   have hb30:=VR.ev hR6 AG.1 (.tmp 30)
   rw[show ev P.globals.size (B2' (.ptr fi fo) (.ptr ci co) (.ptr H.next 0) (.tuple [.bool false]) false) (.tmp 30) = .bool false from by kernel_rfl] at hb30
   refine wp_seq (wp_cond_false hb30.rQ (wp_exit ?_))
   show (if 0=0 then Q .normal a6 w6 else Q (.exit 0) a6 w6)
   rw[if_pos rfl]
   have hrest:rest=[]:=by
    cases hr:rest with
    | nil=>rfl
    | cons y r=>
     exfalso
     have hy:y∈es.zip fs:=la.mem_iff.2 (by rw[hr];simp)
     have hy1:y.2∈nI.toList:=Bs.mem_iff.1 (List.of_mem_zip hy).2
     have hy2:y.2.born∉seen.toList:=by
      rw[hseen]
      rw[ad8,aff] at ll
      exact fun q=>ll.2.2 _ q _ (by rw[hr];simp) rfl
     have hy3:y.2∈(leftOf nI seen).toList:=by
      unfold leftOf
      rw[Array.toList_filter,List.mem_filter]
      refine⟨hy1,?_⟩
      rw[aj3]
      cases hc:seen.contains y.2.born with
      | false=>rfl
      | true=>exact absurd (by simpa using hc) hy2
     have:(leftOf nI seen).toList.length=0:=by simpa using h0
     rw[List.length_eq_zero_iff] at this
     rw[this] at hy3;cases hy3
   subst hrest
   rw[ahD] at la
   have hbf:e6.b fm=e5.b fm:=(le6.2 fm hfN).1
   have hRx:=back hR hR6 fun k hk => .inl hk
   have hT7:=AG.rJ (lv:=[0,3]) (by decide)
   rw[show ax [0,3] (B2' (.ptr fi fo) (.ptr ci co) (.ptr H.next 0) (.tuple [.bool false]) false)=[.ptr fi fo,.ptr ci co] from by kernel_rfl] at hT7
   refine hQ e6 a6 w6 (Em.le_trans le le6) (fin hRx hAt ?_ aO g1 g2 (adW hfN le6.1) ?_ Bs ⟨hM.1,fun i m m' h1 h2 => ?_⟩ hn hbr (by rw[hbf];exact hFfm) fun i o hi => ?_) hT7 (DB.trans hd)
   ·have:=(la.map (·.1)).symm
    rw[Ic.1] at this
    exact this
   ·rw[hbf,(hR6.frame _ (.inr (.inr rfl))).2];exact hmp
   ·have hz:=hVR (m,m') (List.mem_iff_getElem?.2 ⟨i,by rw[List.getElem?_zip_eq_some];exact⟨h1,h2⟩⟩)
    exact⟨hz.1.mono le6,hz.2.mono le6⟩
   ·rw[(le6.2 i (hR.obj i o hi).1).1,hbf]
    exact (sK i o hi).2
  ·have dH:=mem_left hx
   have jN:x∈nI.toList:=dH.1
   have oC:x.born∉seen.toList:=by
    have:=dH.2
    intro q
    simp at this q
    exact this q
   obtain⟨m,hmx⟩:=mem_zip hM.1 (Bs.mem_iff.2 jN)
   have hmr:(m,x)∈rest:=by
    rcases abV.1 (la.mem_iff.1 hmx) with h | h
    ·exact absurd (by rw[hseen];exact adD.2 ⟨_,h,rfl⟩) oC
    ·exact h
   obtain⟨r1,r2,hr⟩:=List.append_of_mem hmr
   obtain⟨k,hk⟩:=hks m (List.of_mem_zip hmx).1
   obtain⟨vk,vv⟩:=hVR _ hmx
   simp only at vk vv
   refine Kr (get_i s2 (i:=0) (by decide)) (by kernel_rfl) (ZO hop0 (by rw[hv28];exact iR)) ?_
   rw[hdst0]
   have oh:=hR.apJ (.mapIter (some (e5.b fm)) c0 (seen.push x.born) c0) hFit (fun i o hi=>(sK i o hi).1) nn
   generalize xJ:({ w5 with drawn:=nn,heap:=w5.heap.setIfInBounds (e5.b H.next) (.mapIter (some (e5.b fm)) c0 (seen.push x.born) c0) }:World)=w1 at *
   have hit1:w1.heap[e5.b H.next]? = some (.mapIter (some (e5.b fm)) c0 (seen.push x.born) c0):=by rw[<-xJ];exact agc gj
   have hmp1:w1.heap[e5.b fm]? = some (.map nI c0):=by rw[<-xJ];show (w5.heap.setIfInBounds _ _)[_]? = _;rw[aeE zp.symm];exact hmp
   have hbl1:e5.b H.next<w1.heap.size:=(acH.1 hit1).1
   have IQ:e5.b fm<w1.heap.size:=(acH.1 hmp1).1
   have hRf:=fwd3 oh hbl1 IQ sK
   have qR:=hT.put (dst:=some 29) (v := .tuple [.bool true,m.key,m.val]) (t':=B1' (.ptr fi fo) (.ptr ci co) (.ptr H.next 0) (.tuple [.bool true,m.key,m.val])) (by kernel_rfl) (VR.tuple' (aQ.cons (.bool true) (aQ.cons vk (aQ.cons vv (aQ.nil e5)))))
   refine om hno (get_i s2 (i:=1) (by decide)) (by kernel_rfl) (v := .bool true) (H':=Hx) (t':=B2' (.ptr fi fo) (.ptr ci co) (.ptr H.next 0) (.tuple [.bool true,m.key,m.val]) true) (by kernel_rfl) (by kernel_rfl) hRf qR fun e2 a2 w2 le2 gN mX pG => ?_
   show (Code.seq _ _).wp P _ a2 w2
   have hb30:=VR.ev gN mX.1 (.tmp 30)
   rw[show ev P.globals.size (B2' (.ptr fi fo) (.ptr ci co) (.ptr H.next 0) (.tuple [.bool true,m.key,m.val]) true) (.tmp 30) = .bool true from by kernel_rfl] at hb30
   refine wp_seq (wp_cond_true hb30.rQ (wp_skip ?_))
   show (Code.block 1 _).wp P _ a2 w2
   refine wp_block (wp_seq (wp_region ?_))
   rw[s3,show List.range 5=[0,1,2,3,4] from rfl]
   have hv28':=VR.ev gN mX.1 (.tmp 28)
   rw[show ev P.globals.size (B2' (.ptr fi fo) (.ptr ci co) (.ptr H.next 0) (.tuple [.bool true,m.key,m.val]) true) (.tmp 28) = .ptr H.next 0 from by kernel_rfl] at hv28'
   obtain⟨o',_,fE,hv28'⟩:=hv28'.qd
   have hbi2:=le2.2 H.next zq
   have hbf2:=le2.2 fm hfN
   have AK:o'=0:=by rw[hbi2.2.1,Ay] at fE;omega
   subst AK
   have HL:(o3[0]'(by rw[s3];decide)).op = .entry (.tmp 28):=by kernel_rfl
   have hdst3:(o3[0]'(by rw[s3];decide)).dst=some 31:=by kernel_rfl
   have hit2:w2.heap[e5.b H.next]? = some (.mapIter (some (e5.b fm)) c0 (seen.push x.born) c0):=(gN.frame _ (.inr (.inl rfl))).2.trans hit1
   have hmp2:w2.heap[e5.b fm]? = some (.map nI c0):=(gN.frame _ (.inr (.inr rfl))).2.trans hmp1
   refine Kr (get_i s3 (i:=0) (by decide)) (by kernel_rfl) (amO HL (by rw[hv28',hbi2.1];exact ahQ w2 _ _ c0 seen nI x hit2 hmp2 jN gU)) ?_
   rw[hdst3]
   have uB:=mX.put (dst:=some 31) (v := .tuple [m.key,m.val]) (t':=C1 (.ptr fi fo) (.ptr ci co) (.ptr H.next 0) (.tuple [.bool true,m.key,m.val]) (.tuple [m.key,m.val])) (by kernel_rfl) (VR.tuple' (aQ.cons (vk.mono le2) (aQ.cons (vv.mono le2) (aQ.nil e2))))
   have vP:(a2.put (some 31) (.tuple #[x.key,x.val])).defers=a.defers:=pG.trans hd
   generalize hX:AV.tuple [.bool true,m.key,m.val]=X at *
   refine om hno (get_i s3 (i:=1) (by decide)) (by kernel_rfl) (v:=m.key) (H':=Hx) (t':=C2 (.ptr fi fo) (.ptr ci co) (.ptr H.next 0) m.key X (.tuple [m.key,m.val])) (by kernel_rfl) (by kernel_rfl) gN uB fun e3 a3 w3 le3 pI yM hd4 => ?_
   refine om hno (get_i s3 (i:=2) (by decide)) (by kernel_rfl) (v:=m.val) (H':=Hx) (t':=C3 (.ptr fi fo) (.ptr ci co) (.ptr H.next 0) m.key m.val X (.tuple [m.key,m.val])) (by kernel_rfl) (by kernel_rfl) pI yM fun e4 a4 w4 le4 kB hT5 zg => ?_
   refine om hno (get_i s3 (i:=3) (by decide)) (by kernel_rfl) (v:=m.key) (H':=Hx) (t':=C4 (.ptr fi fo) (.ptr ci co) (.ptr H.next 0) m.key m.val X (.tuple [m.key,m.val])) (by kernel_rfl) (by kernel_rfl) kB hT5 fun e6 a6 w6 le6 hR6 AG DB => ?_
   refine om hno (get_i s3 (i:=4) (by decide)) (by kernel_rfl) (v:=m.val) (H':=Hx) (t':=C5 (.ptr fi fo) (.ptr ci co) (.ptr H.next 0) m.key m.val X (.tuple [m.key,m.val])) (by kernel_rfl) (by kernel_rfl) hR6 AG fun e7 a7 w7 le7 hR7 hT7 hd7 => ?_
   have le27:=Em.le_trans le2 (Em.le_trans le3 (Em.le_trans le4 (Em.le_trans le6 le7)))
   have hd37:=hd7.trans (DB.trans (zg.trans (hd4.trans vP)))
   clear gN pI kB hR6 qR mX uB yM hT5 AG le3 le4 le6 le7 pG vP hd4 zg DB hd7 hb30 hv28'
   show (Code.region i4 o4 false).wp P _ a7 w7
   refine wp_region ?_
   rw[s4,show List.range 7=[0,1,2,3,4,5,6] from rfl]
   generalize AV.tuple [m.key,m.val]=Y at *
   refine om hno (get_i s4 (i:=0) (by decide)) (by kernel_rfl) (v := .ptr ci co) (H':=Hx) (t':=D1 (.ptr fi fo) (.ptr ci co) (.ptr H.next 0) m.key m.val X Y) (by kernel_rfl) (by kernel_rfl) hR7 hT7 fun e8 a8 w8 le8 hR8 hT8 hd8 => ?_
   refine om hno (get_i s4 (i:=1) (by decide)) (by kernel_rfl) (v := .ptr ci co) (H':=Hx) (t':=D2 (.ptr fi fo) (.ptr ci co) (.ptr H.next 0) m.key m.val X Y) (by kernel_rfl) (by kernel_rfl) hR8 hT8 fun e9 a9 w9 le9 hR9 hT9 hd9 => ?_
   refine om hno (get_i s4 (i:=2) (by decide)) (by kernel_rfl) (v := .ptr ci (co+2)) (H':=Hx) (t':=D3 (.ptr fi fo) (.ptr ci co) (.ptr H.next 0) (.ptr ci (co+2)) m.key m.val X Y) (by kernel_rfl) (by kernel_rfl) hR9 hT9 fun ea aa wa lea hRa hTa hda => ?_
   have hl:pB P hU (D3 (.ptr fi fo) (.ptr ci co) (.ptr H.next 0) (.ptr ci (co+2)) m.key m.val X Y) (o4[3]'(by rw[s4];decide)) Hx=(cellAt Hx ci (co+2)).map (fun v=>(v,Hx)):=by kernel_rfl
   have Au:cellAt Hx ci (co+2)=some (.map cm):=by
    have hg:=hAt.2 ci
    rw[if_neg hci.2,if_neg hci.1] at hg
    unfold cellAt at kW ⊢
    rw[hg];exact kW
   rw[Au] at hl
   refine om hno (get_i s4 (i:=3) (by decide)) (by kernel_rfl) (v := .map cm) (H':=Hx) (t':=D4 (.ptr fi fo) (.ptr ci co) (.ptr H.next 0) (.ptr ci (co+2)) m.key m.val X Y (.map cm)) hl (by kernel_rfl) hRa hTa fun eb ab wb leb hRb hTb hdb => ?_
   refine om hno (get_i s4 (i:=4) (by decide)) (by kernel_rfl) (v:=m.key) (H':=Hx) (t':=D5 (.ptr fi fo) (.ptr ci co) (.ptr H.next 0) (.ptr ci (co+2)) m.key m.val X Y (.map cm)) (by kernel_rfl) (by kernel_rfl) hRb hTb fun ec ac wc lec hRc hTc hdc => ?_
   refine om hno (get_i s4 (i:=5) (by decide)) (by kernel_rfl) (v:=m.val) (H':=Hx) (t':=D6 (.ptr fi fo) (.ptr ci co) (.ptr H.next 0) (.ptr ci (co+2)) m.key m.val X Y (.map cm)) (by kernel_rfl) (by kernel_rfl) hRc hTc fun ed ad wd led hRd hTd Ix => ?_
   have CM:Hx.h.get cm=some (.map (jI q (done.map (·.1))) (q+(done.map (·.1)).length)):=by
    have hg:=hAt.2 cm
    rw[if_neg aO,if_pos rfl] at hg
    exact hg
   have xP:(done++rest).Pairwise (fun a b=>Dt a.1 b.1):=by
    refine (la.pairwise_iff (fun {a b} h=>h.symm)).1 ?_
    have:((es.zip fs).map (·.1)).Pairwise Dt:=by rw[Ic.1];exact hpw
    rw[List.pairwise_map] at this
    exact this
   have hmu:=mup_at (k:=k) CM (fun y hy=>by
    obtain⟨u,hu,qY⟩:=Wn _ _ _ hy
    obtain⟨d,gp,rfl⟩:=adD.1 hu
    rw[List.pairwise_append] at xP
    obtain⟨k1,k2,h1,h2,h3⟩:=xP.2.2 d gp (m,x) hmr
    rw[qY]
    refine⟨k1,h1,fun q=>h3 ?_⟩
    rw[q]
    have:=h2.symm.trans hk
    exact AV.str.inj this) m.val
   have hl6:pB P hU (D6 (.ptr fi fo) (.ptr ci co) (.ptr H.next 0) (.ptr ci (co+2)) m.key m.val X Y (.map cm)) (o4[6]'(by rw[s4];decide)) Hx=(nH P 63 (.map cm) m.key m.val Hx).map (fun H=>(bK,H)):=by kernel_rfl
   rw[hk,hmu] at hl6
   rw[<-hk] at hl6
   refine om hno (get_i s4 (i:=6) (by decide)) (by kernel_rfl) (v:=bK) (H':=Am.setObj Hx cm (.map (jI q (done.map (·.1))++[⟨.str k,m.val,q+(done.map (·.1)).length⟩]) (q+(done.map (·.1)).length+1))) (t':=D6 (.ptr fi fo) (.ptr ci co) (.ptr H.next 0) (.ptr ci (co+2)) m.key m.val X Y (.map cm)) (by rw[<-hk];exact hl6) (by kernel_rfl) hRd hTd fun ee ae we lee hRe hTe hde => ?_
   show xm P _ _ ae we
   have leT:=Em.le_trans le27 (Em.le_trans le8 (Em.le_trans le9 (Em.le_trans lea (Em.le_trans leb (Em.le_trans lec (Em.le_trans led lee))))))
   have hdT:=hde.trans (Ix.trans (hdc.trans (hdb.trans (hda.trans (hd9.trans (hd8.trans hd37))))))
   have hTk:=hTe.rJ (lv:=[0,3,28]) (by decide)
   rw[show ax [0,3,28] (D6 (.ptr fi fo) (.ptr ci co) (.ptr H.next 0) (.ptr ci (co+2)) m.key m.val X Y (.map cm))=[.ptr fi fo,.ptr ci co,.ptr H.next 0] from by kernel_rfl] at hTk
   have zH:=leT.2 H.next zq
   have hbf:=leT.2 fm hfN
   have hRn:=back oh hRe fun k hk => .inl hk
   have hfr1:=(hRe.frame _ (.inr (.inl rfl))).2
   have hfr2:=(hRe.frame _ (.inr (.inr rfl))).2
   have hAt':At H cm fm q ((done++[(m,x)]).map (·.1)) (Am.setObj Hx cm (.map (jI q (done.map (·.1))++[⟨.str k,m.val,q+(done.map (·.1)).length⟩]) (q+(done.map (·.1)).length+1))):=by
    refine⟨hAt.1,fun i => ?_⟩
    show (Hx.h.bO cm _).get i=_
    rw[Tr.ye _ _ _ _ (by rw[CM];rfl),hAt.2 i]
    by_cases h1:i=cm
    ·rw[if_pos h1,if_neg (by rw[h1];exact aO),if_pos h1,ad8,adK,List.map_nil,Vh,aa0,hk];rfl
    ·simp only[if_neg h1]
   refine ih (r1++r2).length (by rw[<-hlen,hr];simp) (r1++r2) (done++[(m,x)]) (seen.push x.born) ee ae we _ rfl ?_ ?_ hAt' hRn hTk hdT (Em.le_trans le leT) ?_ ?_ (fun i o hi => ?_) ?_ ?_ ?_ (fun y hy => ?_) ?_ (adW zq leT.1) (adW hfN leT.1)
   ·refine la.trans ?_
    rw[hr,ae9]
    refine (List.perm_append_left_iff done).2 ?_
    exact akM
   ·rw[Array.toList_push,hseen,ad8];rfl
   ·rw[zH.1,hbf.1,hfr1];exact hit1
   ·rw[hbf.1,hfr2];exact hmp1
   ·have hdm:∃ o',Hx.h.get i=some o':=by
     have h1:(Hx.h.bO cm _).get i=some o:=hi
     rw[Tr.ye _ _ _ _ (by rw[CM];rfl)] at h1
     split at h1
     ·rename_i h2;exact⟨_,h2▸CM⟩
     ·exact⟨o,h1⟩
    obtain⟨o',fE⟩:=hdm
    rw[(leT.2 i (oh.obj i o' fE).1).1,zH.1,hbf.1]
    exact sK i o' fE
   ·rw[zH.1];exact hFit
   ·rw[hbf.1];exact hFfm
   ·rw[zH.1,hbf.1];exact zp
   ·exact⟨(hVR y hy).1.mono leT,(hVR y hy).2.mono leT⟩
   ·rw[zH.2.1];exact Ay
 exact key _ (es.zip fs) [] #[] e5 a5 w5 _ rfl (List.Perm.refl _) rfl hAt hR5x hT5 zg le0 hit5 hmp5 hsep5 hFit hFfm zp hVR5 d5 i5 (Nat.lt_trans vt i5)
end Cw
end Go.Proofs.YtodfajmihkagnaaGreatDoor.DfK
