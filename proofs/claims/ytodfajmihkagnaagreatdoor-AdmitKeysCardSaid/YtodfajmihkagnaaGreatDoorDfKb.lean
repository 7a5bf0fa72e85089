/- Laws that the proof uses. -/
import Derived.Test.YtodfajmihkagnaaGreatDoorTrimWalk
set_option maxHeartbeats 8000000
set_option linter.unusedVariables false
set_option maxRecDepth 100000
set_option linter.unusedSimpArgs false
namespace Go.Proofs.YtodfajmihkagnaaGreatDoor.DfK
open Go Am Am.K kb
noncomputable section
noncomputable def UM (J:JT)(G:GT)(cf:CF)(a0:AV)(H:Hp):R:=
 J 0 (fun j0=>
 B1 (bF a0 (.int .i64 1)) fun v1=>
 CD v1 (
 some ((.str [77,68]),H)) (
 B1 (bF a0 (.int .i64 2)) fun v2=>
 CD v2 (
 some ((.str [82,77,75]),H)) (
 J 2 (fun j3=>
 B1 (bF a0 (.int .i64 3)) fun v4=>
 CD v4 (
 j3 a0 v4 H) (
 B1 (bF a0 (.int .i64 5)) fun v5=>
 j3 a0 v5 H)) (fun x6 x7 h8=>
 CD x7 (
 some ((.str [82,84,89]),h8)) (
 B1 (bF x6 (.int .i64 4)) fun v9=>
 CD v9 (
 some ((.str [82,84,89,68]),h8)) (
 J 2 (fun aD=>
 B1 (bF x6 (.int .i64 6)) fun v11=>
 CD v11 (
 aD x6 v11 h8) (
 B1 (bF x6 (.int .i64 9)) fun v12=>
 aD x6 v12 h8)) (fun ba bf eV=>
 CD bf (
 some ((.str [78]),eV)) (
 B1 (bF ba (.int .i64 7)) fun c8=>
 CD c8 (
 some ((.str [82,77]),eV)) (
 B1 (bF ba (.int .i64 8)) fun eH=>
 CD eH (
 some ((.str [82]),eV)) (
 j0  eV)))))))))) (fun  eY=>
 some ((.str []),eY))
theorem ani {a0:AV}{H:Hp}{r:AV × Hp}(h:UM JN GO cK a0 H=some r):cK (.func (.func 48) [] []) [a0] H=some r:=aS (first:=[]) (cap:=[]) (aal (by kernel_rfl) h)
noncomputable def WZ (J:JT)(G:GT)(cf:CF)(a0 a1 a2:AV)(H:Hp):R:=
 B1 (lS a0 a1) fun v0=>
 G v0 true (fun k1=>
 k1 a0 H) (fun v2 h3=>
 G v0 true (fun k4=>
 k4 a2 h3) (fun v5 h6=>
 G v0 true (fun k7=>
 B1 (oh v2 v5) fun v8=>
 k7 v8 h6) (fun v9 bU=>
 B1 (pk v0 v9 (.bool false)) fun v11=>
 some (v11,bU)) h6) h3) H
theorem agX {a0 a1 a2:AV}{H:Hp}{r:AV × Hp}(h:WZ JN GO cK a0 a1 a2 H=some r):cK (.func (.func 87) [] []) [a0,a1,a2] H=some r:=aS (first:=[]) (cap:=[]) (aal (by kernel_rfl) h)
noncomputable def OF (J:JT)(G:GT)(cf:CF)(a0 a1:AV)(H:Hp):R:=
 BN (bx 26 a0 H) fun i0 h1=>
 J 1 (fun j2=>
 B1 (bF a1 (.int .i32 82)) fun v3=>
 CD v3 (
 B1 (fa 1 (.ptr i0 0)) fun v4=>
 B1 (ld v4 h1) fun v5=>
 B2 (cf (.func (.func 87) [] []) [v5,(.int .i64 1),(.int .i64 64)] h1) fun v6 h7=>
 some (v6,h7)) (
 B1 (bF a1 (.int .i32 84)) fun v8=>
 CD v8 (
 B1 (fa 2 (.ptr i0 0)) fun v9=>
 B1 (ld v9 h1) fun v10=>
 B2 (cf (.func (.func 87) [] []) [v10,(.int .i64 0),(.int .i64 15)] h1) fun v11 dT=>
 some (v11,dT)) (
 B1 (bF a1 (.int .i32 89)) fun dN=>
 CD dN (
 B1 (fa 3 (.ptr i0 0)) fun cI=>
 B1 (ld cI h1) fun gE=>
 B2 (cf (.func (.func 87) [] []) [gE,(.int .i64 1),(.int .i64 9)] h1) fun c8 dI=>
 some (c8,dI)) (
 B1 (bF a1 (.int .i32 78)) fun dy=>
 CD dy (
 J 2 (fun bO=>
 B1 (fa 0 (.ptr i0 0)) fun v20=>
 B1 (ld v20 h1) fun v21=>
 B1 (bF v21 (.int .i64 9)) fun v22=>
 CD v22 (
 bO (.ptr i0 0) (.int .i64 1048575) h1) (
 bO (.ptr i0 0) (.int .i64 1099511627776) h1)) (fun bc bC dC=>
 B1 (fa 4 bc) fun v26=>
 B1 (ld v26 dC) fun v27=>
 B1 (lS v27 (.int .i64 1)) fun v28=>
 G v28 true (fun Pm=>
 B1 (fa 4 bc) fun v30=>
 Pm v30 dC) (fun v31 eF=>
 G v28 true (fun Fj=>
 B1 (ld v31 eF) fun dJ=>
 Fj dJ eF) (fun v35 na=>
 G v28 true (fun Fo=>
 Fo bC na) (fun jK rQ=>
 G v28 true (fun Pg=>
 B1 (oh v35 jK) fun v41=>
 Pg v41 rQ) (fun fw qG=>
 B1 (pk v28 fw (.bool false)) fun v44=>
 some (v44,qG)) rQ) na) eF) dC)) (
 B1 (bF a1 (.int .i32 77)) fun fB=>
 CD fB (
 B1 (fa 5 (.ptr i0 0)) fun v46=>
 B1 (ld v46 h1) fun je=>
 B2 (cf (.func (.func 54) [] []) [je] h1) fun gB sB=>
 some (gB,sB)) (
 B1 (bF a1 (.int .i32 75)) fun ij=>
 CD ij (
 B1 (fa 6 (.ptr i0 0)) fun v51=>
 B1 (ld v51 h1) fun iG=>
 B1 (lens iG) fun v53=>
 B1 (oh v53 (.int .i64 16)) fun iy=>
 some (iy,h1)) (
 j2 (.ptr i0 0) h1))))))) (fun fy nL=>
 J 1 (fun Hf=>
 B1 (fa 0 fy) fun lN=>
 B1 (ld lN nL) fun v59=>
 B1 (bF v59 (.int .i64 1)) fun fW=>
 CD fW (
 B1 (fa 7 fy) fun mR=>
 B1 (ld mR nL) fun gM=>
 B1 (lens gM) fun v63=>
 B1 (oh v63 (.int .i64 900)) fun v64=>
 some (v64,nL)) (
 Hf fy nL)) (fun eO fV=>
 B1 (fa 7 eO) fun nX=>
 B1 (ld nX fV) fun mE=>
 B1 (lens mE) fun jo=>
 B1 (oh jo (.int .i64 64)) fun v70=>
 some (v70,fV)))
theorem aeV (J:JT)(G:GT)(cf:CF)(a0 a1:AV)(H:Hp):fK P J G aQ an cf 52 [a0,a1] H=OF J G cf a0 a1 H:=by kernel_rfl
theorem amB {a0 a1:AV}{H:Hp}{r:AV × Hp}(h:OF JN GO cK a0 a1 H=some r):cK (.func (.func 52) [] []) [a0,a1] H=some r:=aS (first:=[]) (cap:=[]) ((aeV JN GO _ a0 a1 H).trans h)
noncomputable def uM (J:JT)(G:GT)(cf:CF)(bO:K.Fn 2)(aF:K.Fn 4)(aU aN bc bC:AV)(dC:Hp):R:=
 B2 (u6 bC true dC) fun v26 eQ=>
 B1 (ex 0 v26) fun v28=>
 CD v28 (
 J 4 (fun jw=>
 B1 (ex 2 v26) fun v30=>
 J 4 (fun cn=>
 B1 (bF v30 (.int .i32 82)) fun v32=>
 CD v32 (
 B1 (fa 1 aU) fun fM=>
 B1 (ld fM eQ) fun dJ=>
 B1 (fa 1 bc) fun v35=>
 B1 (st 1 v35 dJ eQ) fun na=>
 cn aU aN bc bC na) (
 B1 (bF v30 (.int .i32 84)) fun v37=>
 CD v37 (
 B1 (fa 2 aU) fun jK=>
 B1 (ld jK eQ) fun eM=>
 B1 (fa 2 bc) fun v40=>
 B1 (st 1 v40 eM eQ) fun gR=>
 cn aU aN bc bC gR) (
 B1 (bF v30 (.int .i32 89)) fun fw=>
 CD fw (
 B1 (fa 3 aU) fun gu=>
 B1 (ld gu eQ) fun v44=>
 B1 (fa 3 bc) fun fB=>
 B1 (st 1 fB v44 eQ) fun jj=>
 cn aU aN bc bC jj) (
 B1 (bF v30 (.int .i32 78)) fun je=>
 CD je (
 B1 (fa 4 aU) fun gB=>
 B1 (ld gB eQ) fun v49=>
 B1 (fa 4 bc) fun ij=>
 B1 (st 1 ij v49 eQ) fun ml=>
 cn aU aN bc bC ml) (
 B1 (bF v30 (.int .i32 77)) fun iG=>
 CD iG (
 B1 (fa 5 aU) fun v53=>
 B1 (ld v53 eQ) fun iy=>
 B1 (fa 5 bc) fun jD=>
 B1 (st 1 jD iy eQ) fun nL=>
 cn aU aN bc bC nL) (
 B1 (bF v30 (.int .i32 75)) fun v57=>
 CD v57 (
 B1 (fa 6 aU) fun lN=>
 B1 (ld lN eQ) fun v59=>
 B1 (fa 6 bc) fun fW=>
 B1 (st 1 fW v59 eQ) fun gD=>
 cn aU aN bc bC gD) (
 B1 (bF v30 (.int .i32 68)) fun gM=>
 CD gM (
 B1 (fa 7 aU) fun v63=>
 B1 (ld v63 eQ) fun v64=>
 B1 (fa 7 bc) fun pw=>
 B1 (st 1 pw v64 eQ) fun fV=>
 cn aU aN bc bC fV) (
 cn aU aN bc bC eQ)))))))) (fun iA jU mf lW kT=>
 jw iA jU mf lW kT)) (fun sM gY iH ll rR=>
 aF sM gY iH ll rR)) (
 bO aN bc eQ)
noncomputable def CS (J:JT)(G:GT)(cf:CF)(bO:K.Fn 2):K.Fn 4:=dZ P an J G cf 49 [1,1,0,1,0,0] [2,4,5,12] (fun q t H=>match Nat.beq q 0 with | true=>app 2 bO (ax [4,5] t) H | false=>(fun _ _ _=>none) q t H)
theorem adP (J:JT)(G:GT)(cf:CF)(bO:K.Fn 2)(aF:K.Fn 4)(aU aN bc bC:AV)(dC:Hp):lB P an J G cf 49 [1,1,0,1,0,0] [2,4,5,12] (fun q t H=>match Nat.beq q 0 with | true=>app 2 bO (ax [4,5] t) H | false=>(fun _ _ _=>none) q t H) aF [aU,aN,bc,bC] dC=uM J G cf bO aF aU aN bc bC dC:=by kernel_rfl
theorem xr (cf:CF)(bO:K.Fn 2)(aU aN bc bC:AV)(dC:Hp):CS JN GO cf bO aU aN bc bC dC=uM JN GO cf bO (CS JN GO cf bO) aU aN bc bC dC:=aal (b:=app 4 (CS JN GO cf bO) [aU,aN,bc,bC] dC) (by kernel_rfl) ((eU cf _ _ _ _ [aU,aN,bc,bC] rfl dC).trans (adP JN GO cf bO _ aU aN bc bC dC))
noncomputable def N2 (J:JT)(G:GT)(cf:CF)(a0 a1:AV)(H:Hp):R:=
 BN (bx 26 a0 H) fun i0 h1=>
 BN (aE h1 [(.int .i64 0),(.int .i64 0),(.int .i64 0),(.int .i64 0),(.int .i64 0),(.str []),(.str []),(.str [])] 26 0) fun i2 h3=>
 J 4 (fun j4=>
 B1 (fa 0 (.ptr i0 0)) fun v5=>
 B1 (ld v5 h3) fun v6=>
 B1 (fl [(.int .i64 0),(.int .i64 0),(.int .i64 0),(.int .i64 0),(.int .i64 0),(.str []),(.str []),(.str [])] [(0,1,v6)]) fun l7=>
 BN (aE h3 [(.int .i64 0),(.int .i64 0),(.int .i64 0),(.int .i64 0),(.int .i64 0),(.str []),(.str []),(.str [])] 26 0) fun i8 h9=>
 B1 (st 8 (.ptr i8 0) (.agg l7) h9) fun bU=>
 j4 a1 (.ptr i0 0) (.ptr i2 0) (.ptr i8 0) bU) (fun bG bo ba bf eV=>
 J 2 (fun dB=>
 B2 (xy P 9 bG eV) fun eH eY=>
 J 2 (fun bO=>
 CS J G cf bO bo ba bf eH eY) (fun fc fe iJ=>
 dB fc fe iJ)) (fun nq qI vE=>
 B1 (aA 8 qI vE) fun pQ=>
 B1 (st 8 nq pQ vE) fun yC=>
 B1 (aA 8 nq yC) fun v85=>
 some (v85,yC)))
theorem amx (J:JT)(G:GT)(cf:CF)(a0 a1:AV)(H:Hp):fK P J G aQ an cf 49 [a0,a1] H=N2 J G cf a0 a1 H:=by kernel_rfl
theorem aei {a0 a1:AV}{H:Hp}{r:AV × Hp}(h:N2 JN GO cK a0 a1 H=some r):cK (.func (.func 49) [] []) [a0,a1] H=some r:=aS (first:=[]) (cap:=[]) ((amx JN GO _ a0 a1 H).trans h)
noncomputable def K6 (J:JT)(G:GT)(cf:CF)(a0:AV)(H:Hp):R:=
 BN (bx 26 a0 H) fun i0 h1=>
 B1 (fa 0 (.ptr i0 0)) fun v2=>
 B1 (ld v2 h1) fun v3=>
 B2 (cf (.func (.func 48) [] []) [v3] h1) fun v4 h5=>
 B1 (qN v4 (.str [])) fun v6=>
 sG v6 true (
 B1 (aA 8 (.ptr i0 0) h5) fun v7=>
 B2 (cf (.func (.func 49) [] []) [v7,v4] h5) fun v8 h9=>
 B1 (aA 8 (.ptr i0 0) h9) fun v10=>
 sJ (gA P .eql 26 false v8 v10) <| B1 (eG P .eql 26 v8 v10 h9) fun v11=>
 sG v11 true (
 B2 (cf (.func (.func 50) [] []) [v4,(.func (.func 51) [] [(.ptr i0 0)])] h9) fun v12 iP=>
 B1 (fX .not v12) fun cI=>
 B1 (aA 8 (.ptr i0 0) h5) fun gE=>
 SM v10 gE <|
 some (cI,iP)) (
 B1 (aA 8 (.ptr i0 0) h5) fun c8=>
 SM v10 c8 <|
 some ((.bool false),h9))) (
 some ((.bool false),h5))
theorem My {a0:AV}{H:Hp}{r:AV × Hp}(h:K6 JN GO cK a0 H=some r):cK (.func (.func 21) [] []) [a0] H=some r:=aS (first:=[]) (cap:=[]) (aal (by kernel_rfl) h)
noncomputable def Sz (J:JT)(G:GT)(cf:CF)(a0 a1:AV)(H:Hp):R:=
 B1 (aA 8 a1 H) fun v0=>
 B2 (cf (.func (.func 52) [] []) [v0,a0] H) fun v1 h2=>
 B1 (fX .not v1) fun v3=>
 some (v3,h2)
theorem amu {a0 a1:AV}{H:Hp}{r:AV × Hp}(h:Sz JN GO cK a0 a1 H=some r):cK (.func (.func 51) [] [a1]) [a0] H=some r:=aS (first:=[]) (cap:=[a1]) (aal (by kernel_rfl) h)
noncomputable def abJ (J:JT)(G:GT)(cf:CF)(a0:AV)(H:Hp):R:=
 B2 (gp P .max #[3,3] [a0,(.int .i64 1)] H) fun v0 h1=>
 B2 (gp P .min #[3,3] [v0,(.int .i64 128)] h1) fun v2 h3=>
 BN (xj h3) fun i4 h5=>
 B1 (fl [(.int .i64 0),.jk,.ah] [(0,1,v2),(1,1,(.map i4))]) fun l6=>
 BN (bx 136 (.agg l6) h5) fun i7 h8=>
 some ((.ptr i7 0),h8)
theorem ajE {a0:AV}{H:Hp}{r:AV × Hp}(h:abJ JN GO cK a0 H=some r):cK (.func (.func 44) [] []) [a0] H=some r:=aS (first:=[]) (cap:=[]) (aal (by kernel_rfl) h)
noncomputable def Nu (J:JT)(G:GT)(cf:CF)(a0 a1 a2:AV)(H:Hp):R:=
 BN (bx 80 a1 H) fun i0 h1=>
 J 3 (fun j2=>
 J 5 (fun j3=>
 B1 (aV a0) fun v4=>
 B1 (fa 1 v4) fun v5=>
 B1 (ld v5 h1) fun v6=>
 B1 (aA 2 (.ptr i0 0) h1) fun v7=>
 B1 (qo P 133 v6 v7 true h1) fun v8=>
 B1 (ex 0 v8) fun v9=>
 B1 (ex 1 v8) fun v10=>
 j3 a0 a2 (.ptr i0 0) v9 v10 h1) (fun bG bo ba bf bp bD=>
 CD bp (
 some (.tuple [bf,(.bool false)],bD)) (
 j2 bG bo ba bD))) (fun bW bE df pn=>
 J 3 (fun eP=>
 J 4 (fun FU=>
 B1 (aV bW) fun v23=>
 B1 (fa 2 v23) fun v24=>
 B1 (ld v24 pn) fun v25=>
 B1 (bq v25) fun v26=>
 B1 (aV bW) fun v27=>
 B1 (fa 0 v27) fun v28=>
 B1 (ld v28 pn) fun v29=>
 B1 (bF v26 v29) fun v30=>
 FU bW bE df v30 pn) (fun bZ eT cw bM dS=>
 CD bM (
 J 3 (fun vp=>
 B1 (aV bZ) fun v37=>
 B1 (fa 1 v37) fun jK=>
 B1 (ld jK dS) fun eM=>
 B1 (aV bZ) fun v40=>
 B1 (fa 2 v40) fun v41=>
 B1 (ld v41 dS) fun fw=>
 B1 (ia 2 fw (.int .i64 0)) fun gu=>
 B1 (aA 2 gu dS) fun v44=>
 B2 (gp P .delete #[133,80] [eM,v44] dS) fun fB jj=>
 vp bZ eT cw jj) (fun fQ fF fS mY=>
 B1 (aV fQ) fun v51=>
 B1 (fa 2 v51) fun iG=>
 B1 (ld iG mY) fun v53=>
 B1 (qi 2 v53 (some (.int .i64 1)) none none) fun iy=>
 B1 (aV fQ) fun jD=>
 B1 (fa 2 jD) fun kU=>
 B1 (st 1 kU iy mY) fun jv=>
 eP fQ fF fS jv)) (
 eP bZ eT cw dS))) (fun dd cJ eR gD=>
 J 3 (fun RZ=>
 B1 (aV dd) fun v63=>
 B1 (fa 1 v63) fun v64=>
 B1 (ld v64 gD) fun pw=>
 B1 (aA 2 eR gD) fun ma=>
 B1 (nF P 133 pw ma cJ gD) fun xm=>
 RZ dd cJ eR xm) (fun jU mf lW kT=>
 J 1 (fun tv=>
 B1 (aV jU) fun kP=>
 B1 (fa 2 kP) fun jO=>
 B1 (ld jO kT) fun v75=>
 B1 (aA 2 lW kT) fun v76=>
 B1 (fl [(.str []),(.str [])] [(0,2,v76)]) fun l77=>
 BN (aE kT l77 80 0) fun i78 iJ=>
 B2 (gg 80 2 [(.str []),(.str [])] false v75 (.slice i78 0 1 1 true 2) iJ) fun v80 tw=>
 B1 (aV jU) fun mM=>
 B1 (fa 2 mM) fun pQ=>
 B1 (st 1 pQ v80 tw) fun yC=>
 B1 (ld jO iJ) fun v85=>
 SM v75 v85 <|
 tv mf yC) (fun pG tD=>
 some (.tuple [pG,(.bool true)],tD)))))
theorem anc (J:JT)(G:GT)(cf:CF)(a0 a1 a2:AV)(H:Hp):fK P J G aQ an cf 33 [a0,a1,a2] H=Nu J G cf a0 a1 a2 H:=by kernel_rfl
theorem ahD {a0 a1 a2:AV}{H:Hp}{r:AV × Hp}(h:Nu JN GO cK a0 a1 a2 H=some r):cK (.func (.func 33) [] []) [a0,a1,a2] H=some r:=aS (first:=[]) (cap:=[]) ((anc JN GO _ a0 a1 a2 H).trans h)
noncomputable def Zd (J:JT)(G:GT)(cf:CF)(a0 a1:AV)(H:Hp):R:=
 BN (bx 80 a1 H) fun i0 h1=>
 J 2 (fun j2=>
 B1 (aV a0) fun v3=>
 B1 (fa 1 v3) fun v4=>
 B1 (ld v4 h1) fun v5=>
 B1 (aA 2 (.ptr i0 0) h1) fun v6=>
 B1 (qo P 133 v5 v6 true h1) fun v7=>
 B1 (ex 0 v7) fun v8=>
 B1 (ex 1 v7) fun v9=>
 j2 v8 v9 h1) (fun dA bG dT=>
 some (.tuple [dA,bG],dT))
theorem al7 {a0 a1:AV}{H:Hp}{r:AV × Hp}(h:Zd JN GO cK a0 a1 H=some r):cK (.func (.func 83) [] []) [a0,a1] H=some r:=aS (first:=[]) (cap:=[]) (aal (by kernel_rfl) h)
noncomputable def L0 (J:JT)(G:GT)(cf:CF)(cH:K.Fn 1)(eN:K.Fn 5)(bf bp bH bW bE:AV)(cU:Hp):R:=
 B1 (cx bE bW) fun v20=>
 CD v20 (
 J 5 (fun eP=>
 B1 (ia 2 bH bE) fun v22=>
 B1 (aA 2 v22 cU) fun v23=>
 BN (aE cU [(.str []),(.str [])] 80 0) fun i24 dC=>
 B1 (st 2 (.ptr i24 0) v23 dC) fun dW=>
 B1 (aA 2 (.ptr i24 0) dW) fun v27=>
 B1 (aV bf) fun v28=>
 B1 (fa 1 v28) fun v29=>
 B1 (ld v29 dW) fun v30=>
 B1 (aA 2 (.ptr i24 0) dW) fun v31=>
 B1 (qo P 133 v30 v31 false dW) fun v32=>
 B1 (fl [(.str []),(.str []),(.int .i64 0)] [(0,2,v27),(2,1,v32)]) fun P1=>
 B1 (fl [(.str []),(.str []),(.int .i64 0)] [(0,3,(.agg P1))]) fun l34=>
 BN (aE dW l34 82 0) fun i35 na=>
 B2 (gg 82 3 [(.str []),(.str []),(.int .i64 0)] false bp (.slice i35 0 1 1 true 3) na) fun v37 fL=>
 eP bf v37 bH bW bE fL) (fun cF cp dD eI dP ef=>
 B1 (bS dP (.int .i64 1)) fun fB=>
 eN cF cp dD eI fB ef)) (
 cH bp cU)
noncomputable def Er (J:JT)(G:GT)(cf:CF)(cH:K.Fn 1):K.Fn 5:=dZ P an J G cf 32 [1,1,0,1,0,0] [0,3,9,10,11] (fun q t H=>match Nat.beq q 0 with | true=>app 1 cH (ax [3] t) H | false=>(fun _ _ _=>none) q t H)
theorem Ui (cf:CF)(cH:K.Fn 1)(bf bp bH bW bE:AV)(cU:Hp):Er JN GO cf cH bf bp bH bW bE cU=L0 JN GO cf cH (Er JN GO cf cH) bf bp bH bW bE cU:=aal (b:=app 5 (Er JN GO cf cH) [bf,bp,bH,bW,bE] cU) (by kernel_rfl) ((eU cf 32 [1,1,0,1,0,0] [0,3,9,10,11] _ [bf,bp,bH,bW,bE] rfl cU).trans (by kernel_rfl))
noncomputable def Zk (J:JT)(G:GT)(cf:CF)(a0:AV)(H:Hp):R:=
 J 1 (fun j0=>
 J 5 (fun j1=>
 B1 (aV a0) fun v2=>
 B1 (fa 2 v2) fun v3=>
 B1 (ld v3 H) fun v4=>
 B1 (bq v4) fun v5=>
 j1 a0 .ah v4 v5 (.int .i64 0) H) (fun x6 x7 x8 x9 dA gU=>
 J 1 (fun cH=>
 Er J G cf cH x6 x7 x8 x9 dA gU) (fun iM ka=>
 j0 iM ka))) (fun fF sB=>
 some (fF,sB))
theorem agn {a0:AV}{H:Hp}{r:AV × Hp}(h:Zk JN GO cK a0 H=some r):cK (.func (.func 32) [] []) [a0] H=some r:=aS (first:=[]) (cap:=[]) (aal (by kernel_rfl) h)
noncomputable def Pd (J:JT)(G:GT)(cf:CF)(a0:AV)(H:Hp):R:=
 BN (bx 75 a0 H) fun i0 h1=>
 BN (aE h1 [.ah,(.int .i64 0),.ah,.ah] 75 0) fun i2 h3=>
 J 2 (fun j4=>
 B1 (fa 1 (.ptr i0 0)) fun v5=>
 B1 (ld v5 h3) fun v6=>
 B1 (il v6 (.int .i64 0)) fun v7=>
 CD v7 (
 B1 (fl [.ah,(.int .i64 0),.ah,.ah] []) fun l8=>
 B1 (st 4 (.ptr i2 0) (.agg l8) h3) fun h9=>
 B1 (aA 4 (.ptr i2 0) h9) fun v10=>
 some (.tuple [v10,(.int .i64 9)],h9)) (
 j4 (.ptr i0 0) (.ptr i2 0) h3)) (fun bG bo iP=>
 B1 (aA 4 bG iP) fun cI=>
 B2 (cf (.func (.func 97) [] []) [cI] iP) fun gE bD=>
 B1 (st 4 bG gE bD) fun dI=>
 B1 (fa 1 bG) fun dy=>
 B1 (st 1 dy (.int .i64 3) dI) fun cU=>
 B1 (aA 4 bG cU) fun v20=>
 B1 (st 4 bo v20 cU) fun lg=>
 B1 (aA 4 bo lg) fun v22=>
 some (.tuple [v22,(.int .i64 0)],lg))
theorem TL {a0:AV}{H:Hp}{r:AV × Hp}(h:Pd JN GO cK a0 H=some r):cK (.func (.func 82) [] []) [a0] H=some r:=aS (first:=[]) (cap:=[]) (aal (by kernel_rfl) h)
noncomputable def Wz (J:JT)(G:GT)(cf:CF)(a0:AV)(H:Hp):R:=
 BN (bx 75 a0 H) fun i0 h1=>
 BN (aE h1 [.ah,(.int .i64 0),.ah,.ah] 75 0) fun i2 h3=>
 B1 (aA 4 (.ptr i0 0) h3) fun v4=>
 B2 (cf (.func (.func 97) [] []) [v4] h3) fun v5 h6=>
 B1 (st 4 (.ptr i2 0) v5 h6) fun h7=>
 B1 (aA 4 (.ptr i2 0) h7) fun v8=>
 some (v8,h7)
theorem aj6 {a0:AV}{H:Hp}{r:AV × Hp}(h:Wz JN GO cK a0 H=some r):cK (.func (.func 58) [] []) [a0] H=some r:=aS (first:=[]) (cap:=[]) (aal (by kernel_rfl) h)
noncomputable def Vn (J:JT)(G:GT)(cf:CF)(H:Hp):R:=
 BN (xj H) fun i0 h1=>
 B2 (cf (.func (.func 44) [] []) [(.int .i64 128)] h1) fun v2 h3=>
 B1 (fl [(.int .i64 0),.ah,.jk,.ah,.fD] [(2,1,(.map i0)),(4,1,v2)]) fun l4=>
 BN (bx 67 (.agg l4) h3) fun i5 h6=>
 some ((.ptr i5 0),h6)
theorem aco {H:Hp}{r:AV × Hp}(h:Vn JN GO cK  H=some r):cK (.func (.func 18) [] []) [] H=some r:=aS (first:=[]) (cap:=[]) (aal (by kernel_rfl) h)
noncomputable def wQ (J:JT)(G:GT)(cf:CF)(a0 a1:AV)(H:Hp):R:=
 BN (bx 26 a1 H) fun i0 h1=>
 B1 (aA 8 (.ptr i0 0) h1) fun v2=>
 B2 (cf (.func (.func 21) [] []) [v2] h1) fun v3 h4=>
 B1 (fX .not v3) fun v5=>
 CD v5 (
 some ((.int .i64 1),h4)) (
 J 2 (fun j6=>
 B1 (fa 0 (.ptr i0 0)) fun v7=>
 B1 (ld v7 h4) fun v8=>
 B1 (bF v8 (.int .i64 1)) fun v9=>
 CD v9 (
 B1 (fa 5 (.ptr i0 0)) fun v10=>
 B1 (ld v10 h4) fun v11=>
 B1 (fa 7 (.ptr i0 0)) fun v12=>
 B1 (ld v12 h4) fun dN=>
 B2 (cf (.func (.func 40) [] []) [a0,v11,dN] h4) fun cI eV=>
 some (cI,eV)) (
 B1 (bF v8 (.int .i64 2)) fun c8=>
 CD c8 (
 B1 (aA 8 (.ptr i0 0) h4) fun eH=>
 B2 (cf (.func (.func 41) [] []) [a0,eH] h4) fun dy cU=>
 some (dy,cU)) (
 B1 (bF v8 (.int .i64 6)) fun v20=>
 CD v20 (
 B1 (fa 4 (.ptr i0 0)) fun v21=>
 B1 (ld v21 h4) fun v22=>
 B2 (cf (.func (.func 42) [] []) [a0,v22] h4) fun v23 jh=>
 some (v23,jh)) (
 B1 (bF v8 (.int .i64 9)) fun v25=>
 CD v25 (
 some ((.int .i64 0),h4)) (
 j6 a0 (.ptr i0 0) h4))))) (fun bX bT gH=>
 J 2 (fun jw=>
 J 3 (fun wP=>
 B1 (fa 1 bT) fun v31=>
 B1 (ld v31 gH) fun v32=>
 B1 (aV bX) fun fM=>
 B1 (fa 3 fM) fun dJ=>
 B1 (ld dJ gH) fun v35=>
 B1 (bq v35) fun v36=>
 B1 (mU v32 v36) fun v37=>
 wP bX bT v37 gH) (fun cG cF cp gR=>
 CD cp (
 some ((.int .i64 4),gR)) (
 jw cG cF gR))) (fun eI dP ef=>
 B1 (aA 8 dP ef) fun fB=>
 B2 (cf (.func (.func 43) [] []) [eI,fB] ef) fun v46 ka=>
 some (v46,ka))))
theorem age (J:JT)(G:GT)(cf:CF)(a0 a1:AV)(H:Hp):fK P J G aQ an cf 16 [a0,a1] H=wQ J G cf a0 a1 H:=by kernel_rfl
theorem Bx {a0 a1:AV}{H:Hp}{r:AV × Hp}(h:wQ JN GO cK a0 a1 H=some r):cK (.func (.func 16) [] []) [a0,a1] H=some r:=aS (first:=[]) (cap:=[]) ((age JN GO _ a0 a1 H).trans h)
noncomputable def BS (J:JT)(G:GT)(cf:CF)(a0 a1 a2:AV)(H:Hp):R:=
 J 3 (fun j0=>
 J 4 (fun j1=>
 B1 (aV a0) fun v2=>
 B1 (fa 2 v2) fun v3=>
 B1 (ld v3 H) fun v4=>
 B1 (ue .str (.str []) true v4 a1 H) fun v5=>
 B1 (ex 0 v5) fun v6=>
 B1 (ex 1 v5) fun v7=>
 j1 a0 a1 a2 v7 H) (fun x8 x9 dA bG dT=>
 CD bG (
 some ((.int .i64 5),dT)) (
 j0 x8 x9 dA dT))) (fun ba bf bp bD=>
 J 4 (fun nI=>
 B2 (cf (.func (.func 53) [] []) [bp] bD) fun dy cU=>
 B1 (ex 0 dy) fun v20=>
 B1 (ex 1 dy) fun v21=>
 BN (aE cU [.ah] 72 0) fun i22 cB=>
 B1 (st 1 (.ptr i22 0) v20 cB) fun jh=>
 nI ba bf (.ptr i22 0) v21 jh) (fun bB bX bT dh dR=>
 B1 (il dh (.int .i64 0)) fun v30=>
 CD v30 (
 some (dh,dR)) (
 J 3 (fun cn=>
 J 4 (fun gm=>
 B1 (aV bB) fun fM=>
 B1 (fa 1 fM) fun dJ=>
 B1 (ld dJ dR) fun v35=>
 B1 (bq v35) fun v36=>
 B1 (bF v36 (.int .i64 16)) fun v37=>
 gm bB bX bT v37 dR) (fun cG cF cp dD gj=>
 CD dD (
 some ((.int .i64 6),gj)) (
 cn cG cF cp gj))) (fun dP iK fC jj=>
 J 3 (fun xI=>
 B1 (aV dP) fun gB=>
 B1 (fa 1 gB) fun v49=>
 B1 (ld v49 jj) fun ij=>
 B1 (fl [(.str [])] [(0,1,iK)]) fun l51=>
 BN (aE jj l51 9 0) fun i52 ir=>
 B2 (gg 9 1 [(.str [])] false ij (.slice i52 0 1 1 true 1) ir) fun iy kj=>
 B1 (aV dP) fun kU=>
 B1 (fa 1 kU) fun v57=>
 B1 (st 1 v57 iy kj) fun pj=>
 xI dP iK fC pj) (fun cJ eR dK hY=>
 J 0 (fun I3=>
 B1 (aV cJ) fun v64=>
 B1 (fa 2 v64) fun pw=>
 B1 (ld pw hY) fun ma=>
 B1 (aA 1 dK hY) fun nX=>
 B2 (cf (.func (.func 55) [] []) [nX] hY) fun mE tS=>
 B1 (tT .str ma eR mE tS) fun tW=>
 B1 (ld pw tS) fun nP=>
 SM ma nP <|
 I3  tW) (fun  pg=>
 some ((.int .i64 0),pg)))))))
theorem afP (J:JT)(G:GT)(cf:CF)(a0 a1 a2:AV)(H:Hp):fK P J G aQ an cf 40 [a0,a1,a2] H=BS J G cf a0 a1 a2 H:=by kernel_rfl
theorem JK {a0 a1 a2:AV}{H:Hp}{r:AV × Hp}(h:BS JN GO cK a0 a1 a2 H=some r):cK (.func (.func 40) [] []) [a0,a1,a2] H=some r:=aS (first:=[]) (cap:=[]) ((afP JN GO _ a0 a1 a2 H).trans h)
noncomputable def sV (J:JT)(G:GT)(cf:CF)(a0 a1:AV)(H:Hp):R:=
 BN (bx 26 a1 H) fun i0 h1=>
 J 4 (fun j2=>
 B1 (fa 5 (.ptr i0 0)) fun v3=>
 B1 (ld v3 h1) fun v4=>
 B2 (cf (.func (.func 56) [] []) [a0,v4] h1) fun v5 h6=>
 B1 (ex 0 v5) fun v7=>
 B1 (ex 1 v5) fun v8=>
 BN (aE h6 [.ah] 72 0) fun i9 bU=>
 B1 (st 1 (.ptr i9 0) v7 bU) fun gU=>
 j2 a0 (.ptr i0 0) (.ptr i9 0) v8 gU) (fun bo ba bf bp bD=>
 J 5 (fun nI=>
 B1 (fa 5 ba) fun dy=>
 B1 (ld dy bD) fun gW=>
 B1 (fa 6 ba) fun v20=>
 B1 (ld v20 bD) fun v21=>
 B2 (cf (.func (.func 45) [] []) [bo,gW,v21] bD) fun v22 cB=>
 B1 (ex 0 v22) fun v24=>
 B1 (ex 1 v22) fun v25=>
 nI bo ba bf bp v25 cB) (fun bX bT dh eK dE gh=>
 J 3 (fun gm=>
 B1 (fX .not eK) fun fM=>
 CD fM (
 some ((.int .i64 4),gh)) (
 J 4 (fun kM=>
 B1 (fa 6 bT) fun v35=>
 B1 (ld v35 gh) fun v36=>
 B1 (qN v36 (.str [])) fun v37=>
 G v37 true (fun xq=>
 xq dE gh) (fun eM kB=>
 B1 (pk v37 eM (.bool false)) fun v41=>
 kM bX bT dh v41 kB) gh) (fun eI dP iK fC jj=>
 CD fC (
 some ((.int .i64 5),jj)) (
 J 4 (fun xI=>
 B1 (aV eI) fun gB=>
 B1 (fa 3 gB) fun v49=>
 B1 (ld v49 jj) fun ij=>
 B1 (bq ij) fun v51=>
 B1 (bF v51 (.int .i64 64)) fun iG=>
 xI eI dP iK iG jj) (fun eL dU fy cL jv=>
 CD cL (
 some ((.int .i64 6),jv)) (
 J 4 (fun QT=>
 B1 (fa 1 dU) fun v59=>
 B1 (ld v59 jv) fun fW=>
 B1 (aV eL) fun mR=>
 B1 (fa 3 mR) fun gM=>
 B1 (ld gM jv) fun v63=>
 B1 (bq v63) fun v64=>
 B1 (bS v64 (.int .i64 1)) fun pw=>
 B1 (il fW pw) fun ma=>
 QT eL dU fy ma jv) (fun iA jU mf lW kT=>
 CD lW (
 some ((.int .i64 1),kT)) (
 gm iA jU mf kT)))))))) (fun sM gY iH rS=>
 J 4 (fun OD=>
 B1 (aA 1 iH rS) fun pU=>
 B2 (cf (.func (.func 76) [] []) [pU] rS) fun rT iJ=>
 B1 (ex 0 rT) fun v80=>
 B1 (ex 1 rT) fun pW=>
 BN (aE iJ [.ah,(.int .i64 0),.ah,.ah] 75 0) fun i82 py=>
 B1 (st 4 (.ptr i82 0) v80 py) fun yC=>
 OD sM gY (.ptr i82 0) pW yC) (fun oX pG se nf si=>
 B1 (il nf (.int .i64 0)) fun qa=>
 CD qa (
 some (nf,si)) (
 J 2 (fun j91=>
 B1 (aV oX) fun wG=>
 B1 (fa 3 wG) fun v93=>
 B1 (ld v93 si) fun xf=>
 B1 (aA 4 se si) fun v95=>
 B1 (fa 5 pG) fun qE=>
 B1 (ld qE si) fun GI=>
 B1 (fl [.ah,(.int .i64 0),.ah,.ah,(.str [])] [(0,4,v95),(4,1,GI)]) fun l98=>
 B1 (fl [.ah,(.int .i64 0),.ah,.ah,(.str [])] [(0,5,(.agg l98))]) fun l99=>
 BN (aE si l99 77 0) fun i100 AU=>
 B2 (gg 77 5 [.ah,(.int .i64 0),.ah,.ah,(.str [])] false xf (.slice i100 0 1 1 true 5) AU) fun rG lf=>
 B1 (aV oX) fun xY=>
 B1 (fa 3 xY) fun v105=>
 B1 (st 1 v105 rG lf) fun uo=>
 B1 (ld v93 AU) fun v107=>
 SM xf v107 <|
 j91 oX pG uo) (fun mC gP po=>
 J 0 (fun abl=>
 B1 (fa 6 gP) fun FC=>
 B1 (ld FC po) fun zr=>
 B1 (qN zr (.str [])) fun xt=>
 CD xt (
 B1 (aV mC) fun vu=>
 B1 (fa 4 vu) fun AM=>
 B1 (ld AM po) fun v117=>
 B1 (fa 5 gP) fun rB=>
 B1 (ld rB po) fun sR=>
 B1 (fa 6 gP) fun zK=>
 B1 (ld zK po) fun Fz=>
 B1 (fl [(.str []),(.str [])] [(0,1,sR),(1,1,Fz)]) fun agz=>
 B1 (fa 1 gP) fun wz=>
 B1 (ld wz po) fun v124=>
 B2 (cf (.func (.func 33) [] []) [v117,(.agg agz),v124] po) fun vO vi=>
 abl  vi) (
 abl  po)) (fun  Ru=>
 some ((.int .i64 0),Ru))))))))
theorem alA (J:JT)(G:GT)(cf:CF)(a0 a1:AV)(H:Hp):fK P J G aQ an cf 41 [a0,a1] H=sV J G cf a0 a1 H:=by kernel_rfl
theorem vJ {a0 a1:AV}{H:Hp}{r:AV × Hp}(h:sV JN GO cK a0 a1 H=some r):cK (.func (.func 41) [] []) [a0,a1] H=some r:=aS (first:=[]) (cap:=[]) ((alA JN GO _ a0 a1 H).trans h)
noncomputable def bl_flow_Flow_tick (J:JT)(G:GT)(cf:CF)(cn:K.Fn 0)(gm:K.Fn 4)(cw bM dG bN:AV)(iw:Hp):R:=
 B1 (cx bN dG) fun jK=>
 CD jK (
 J 4 (fun oQ=>
 B1 (aV cw) fun v40=>
 B1 (fa 3 v40) fun v41=>
 B1 (ld v41 iw) fun fw=>
 B1 (aV cw) fun gu=>
 B1 (fa 3 gu) fun v44=>
 B1 (ld v44 iw) fun fB=>
 B1 (ia 5 fB bN) fun v46=>
 B1 (fa 0 v46) fun je=>
 B1 (aA 4 je iw) fun gB=>
 B2 (cf (.func (.func 77) [] []) [gB,bM] iw) fun v49 mY=>
 B1 (ia 5 fw bN) fun v51=>
 B1 (fa 0 v51) fun iG=>
 B1 (st 4 iG v49 mY) fun ir=>
 B1 (ld v41 mY) fun iy=>
 SM fw iy <|
 oQ cw bM dG bN ir) (fun fy cL db dd AS=>
 B1 (bS dd (.int .i64 1)) fun fW=>
 gm fy cL db fW AS)) (
 cn  iw)
noncomputable def G2 (J:JT)(G:GT)(cf:CF)(cn:K.Fn 0):K.Fn 4:=dZ P an J G cf 42 [1,1,1,0,1,0,0] [0,1,20,21] (fun q t H=>match Nat.beq q 0 with | true=>app 0 cn (ax [] t) H | false=>(fun _ _ _=>none) q t H)
theorem ab9 (cf:CF)(cn:K.Fn 0)(cw bM dG bN:AV)(iw:Hp):G2 JN GO cf cn cw bM dG bN iw=bl_flow_Flow_tick JN GO cf cn (G2 JN GO cf cn) cw bM dG bN iw:=aal (b:=app 4 (G2 JN GO cf cn) [cw,bM,dG,bN] iw) (by kernel_rfl) ((eU cf 42 [1,1,1,0,1,0,0] [0,1,20,21] _ [cw,bM,dG,bN] rfl iw).trans (by kernel_rfl))
noncomputable def P8 (J:JT)(G:GT)(cf:CF)(a0 a1:AV)(H:Hp):R:=
 J 2 (fun j0=>
 J 3 (fun j1=>
 B1 (aV a0) fun v2=>
 B1 (fa 0 v2) fun v3=>
 B1 (ld v3 H) fun v4=>
 B1 (oh a1 v4) fun v5=>
 j1 a0 a1 v5 H) (fun x6 x7 x8 h9=>
 CD x8 (
 some ((.int .i64 10),h9)) (
 j0 x6 x7 h9))) (fun dA bG dT=>
 J 2 (fun eN=>
 B1 (aV dA) fun cI=>
 B1 (fa 0 cI) fun gE=>
 B1 (st 1 gE bG dT) fun bD=>
 eN dA bG bD) (fun bW bE cU=>
 J 0 (fun aF=>
 J 4 (fun eP=>
 B1 (aV bW) fun v22=>
 B1 (fa 3 v22) fun v23=>
 B1 (ld v23 cU) fun v24=>
 B1 (bq v24) fun v25=>
 eP bW bE v25 (.int .i64 0) cU) (fun bX bT dh eK lE=>
 J 0 (fun cn=>
 G2 J G cf cn bX bT dh eK lE) (fun  gD=>
 aF  gD))) (fun  hY=>
 some ((.int .i64 0),hY))))
theorem acb {a0 a1:AV}{H:Hp}{r:AV × Hp}(h:P8 JN GO cK a0 a1 H=some r):cK (.func (.func 42) [] []) [a0,a1] H=some r:=aS (first:=[]) (cap:=[]) (aal (by kernel_rfl) h)
noncomputable def Bs (J:JT)(G:GT)(cf:CF)(a0 a1:AV)(H:Hp):R:=
 BN (bx 26 a1 H) fun i0 h1=>
 J 3 (fun j2=>
 B1 (aV a0) fun v3=>
 B1 (fa 3 v3) fun v4=>
 B1 (ld v4 h1) fun v5=>
 B1 (fa 1 (.ptr i0 0)) fun v6=>
 B1 (ld v6 h1) fun v7=>
 B1 (mI v7 (.int .i64 1)) fun v8=>
 B1 (ia 5 v5 v8) fun v9=>
 B1 (fa 0 v9) fun v10=>
 j2 a0 (.ptr i0 0) v10 h1) (fun bG bo ba ie=>
 BN (aE ie [.ah,(.int .i64 0),.ah,.ah] 75 0) fun i15 bD=>
 J 3 (fun nI=>
 B1 (fa 0 bo) fun dy=>
 B1 (ld dy bD) fun gW=>
 J 3 (fun aF=>
 B1 (bF gW (.int .i64 3)) fun v21=>
 CD v21 (
 B1 (aV ba) fun v22=>
 B1 (aA 4 v22 bD) fun v23=>
 B1 (fa 2 bo) fun v24=>
 B1 (ld v24 bD) fun v25=>
 B1 (fa 3 bo) fun v26=>
 B1 (ld v26 bD) fun v27=>
 B1 (aV bG) fun v28=>
 B1 (fa 0 v28) fun v29=>
 B1 (ld v29 bD) fun v30=>
 B2 (cf (.func (.func 78) [] []) [v23,v25,v27,v30] bD) fun v31 eF=>
 B1 (ex 0 v31) fun fM=>
 B1 (ex 1 v31) fun dJ=>
 B1 (st 4 (.ptr i15 0) fM eF) fun dS=>
 aF ba (.ptr i15 0) dJ dS) (
 B1 (bF gW (.int .i64 4)) fun v36=>
 CD v36 (
 B1 (aV ba) fun v37=>
 B1 (aA 4 v37 bD) fun jK=>
 B1 (fa 2 bo) fun eM=>
 B1 (ld eM bD) fun v40=>
 B1 (fa 3 bo) fun v41=>
 B1 (ld v41 bD) fun fw=>
 B1 (fa 7 bo) fun gu=>
 B1 (ld gu bD) fun v44=>
 B2 (cf (.func (.func 79) [] []) [jK,v40,fw,v44] bD) fun fB jj=>
 B1 (ex 0 fB) fun je=>
 B1 (ex 1 fB) fun gB=>
 B1 (st 4 (.ptr i15 0) je jj) fun sB=>
 aF ba (.ptr i15 0) gB sB) (
 B1 (bF gW (.int .i64 5)) fun ij=>
 CD ij (
 B1 (aV ba) fun v51=>
 B1 (aA 4 v51 bD) fun iG=>
 B1 (fa 2 bo) fun v53=>
 B1 (ld v53 bD) fun iy=>
 B1 (fa 3 bo) fun jD=>
 B1 (ld jD bD) fun kU=>
 B1 (aV bG) fun v57=>
 B1 (fa 0 v57) fun lN=>
 B1 (ld lN bD) fun v59=>
 B2 (cf (.func (.func 80) [] []) [iG,iy,kU,v59] bD) fun fW gD=>
 B1 (ex 0 fW) fun gM=>
 B1 (ex 1 fW) fun v63=>
 B1 (st 4 (.ptr i15 0) gM gD) fun sW=>
 aF ba (.ptr i15 0) v63 sW) (
 B1 (bF gW (.int .i64 7)) fun pw=>
 CD pw (
 B1 (aV ba) fun ma=>
 B1 (aA 4 ma bD) fun nX=>
 B1 (fa 5 bo) fun mE=>
 B1 (ld mE bD) fun jo=>
 B2 (cf (.func (.func 81) [] []) [nX,jo] bD) fun v70 kT=>
 B1 (ex 0 v70) fun v72=>
 B1 (ex 1 v70) fun kP=>
 B1 (st 4 (.ptr i15 0) v72 kT) fun xV=>
 aF ba (.ptr i15 0) kP xV) (
 B1 (aV ba) fun v75=>
 B1 (aA 4 v75 bD) fun v76=>
 B2 (cf (.func (.func 82) [] []) [v76] bD) fun pU xg=>
 B1 (ex 0 pU) fun qR=>
 B1 (ex 1 pU) fun v80=>
 B1 (st 4 (.ptr i15 0) qR xg) fun tw=>
 aF ba (.ptr i15 0) v80 tw))))) (fun uv mB pt qm=>
 nI uv mB pt qm)) (fun pG se nf si=>
 J 1 (fun JQ=>
 B1 (bF nf (.int .i64 0)) fun v91=>
 CD v91 (
 B1 (aA 4 se si) fun wG=>
 B1 (aV pG) fun v93=>
 B1 (st 4 v93 wG si) fun NH=>
 JQ nf NH) (
 JQ nf si)) (fun kI h96=>
 some (kI,h96))))
theorem ao5 (J:JT)(G:GT)(cf:CF)(a0 a1:AV)(H:Hp):fK P J G aQ an cf 43 [a0,a1] H=Bs J G cf a0 a1 H:=by kernel_rfl
theorem FH {a0 a1:AV}{H:Hp}{r:AV × Hp}(h:Bs JN GO cK a0 a1 H=some r):cK (.func (.func 43) [] []) [a0,a1] H=some r:=aS (first:=[]) (cap:=[]) ((ao5 JN GO _ a0 a1 H).trans h)
noncomputable def L4 (J:JT)(G:GT)(cf:CF)(a0 a1:AV)(H:Hp):R:=
 BN (aE H [.ah] 72 0) fun i0 h1=>
 J 3 (fun j2=>
 B1 (aV a0) fun v3=>
 B1 (fa 2 v3) fun v4=>
 B1 (ld v4 h1) fun v5=>
 B1 (ue .str (.str []) true v5 a1 h1) fun v6=>
 B1 (ex 0 v6) fun v7=>
 B1 (ex 1 v6) fun v8=>
 j2 (.ptr i0 0) v7 v8 h1) (fun x9 dA bG dT=>
 J 2 (fun eN=>
 B1 (fX .not bG) fun cI=>
 CD cI (
 B1 (fl [.ah] []) fun QY=>
 B1 (st 1 x9 (.agg QY) dT) fun bD=>
 B1 (aA 1 x9 bD) fun eH=>
 some (.tuple [eH,(.bool false)],bD)) (
 eN x9 dA dT)) (fun bE df pn=>
 J 2 (fun eP=>
 B2 (cf (.func (.func 53) [] []) [df] pn) fun v22 cB=>
 B1 (ex 0 v22) fun v24=>
 B1 (ex 1 v22) fun v25=>
 BN (aE cB [.ah] 72 0) fun i26 eQ=>
 B1 (st 1 (.ptr i26 0) v24 eQ) fun gH=>
 eP bE (.ptr i26 0) gH) (fun eK dE gh=>
 B1 (aA 1 dE gh) fun v32=>
 B1 (st 1 eK v32 gh) fun ns=>
 B1 (aA 1 eK ns) fun dJ=>
 some (.tuple [dJ,(.bool true)],ns))))
theorem YK {a0 a1:AV}{H:Hp}{r:AV × Hp}(h:L4 JN GO cK a0 a1 H=some r):cK (.func (.func 56) [] []) [a0,a1] H=some r:=aS (first:=[]) (cap:=[]) (aal (by kernel_rfl) h)
noncomputable def X0 (J:JT)(G:GT)(cf:CF)(a0:AV)(H:Hp):R:=
 B1 (aV a0) fun v0=>
 B1 (fa 3 v0) fun v1=>
 B1 (ld v1 H) fun v2=>
 B1 (bq v2) fun v3=>
 some (v3,H)
theorem aoP {a0:AV}{H:Hp}{r:AV × Hp}(h:X0 JN GO cK a0 H=some r):cK (.func (.func 29) [] []) [a0] H=some r:=aS (first:=[]) (cap:=[]) (aal (by kernel_rfl) h)
noncomputable def Iq (J:JT)(G:GT)(cf:CF)(a0 a1:AV)(H:Hp):R:=
 BN (aE H [.ah,(.int .i64 0),.ah,.ah] 75 0) fun i0 h1=>
 J 3 (fun j2=>
 J 4 (fun j3=>
 B1 (cx a1 (.int .i64 1)) fun v4=>
 G v4 false (fun k5=>
 k5 a1 h1) (fun v6 h7=>
 G v4 false (fun k8=>
 k8 a0 h7) (fun v9 bU=>
 G v4 false (fun Aa=>
 B1 (aV v9) fun v12=>
 Aa v12 bU) (fun dN ie=>
 G v4 false (fun wJ=>
 B1 (fa 3 dN) fun c8=>
 wJ c8 ie) (fun eH eY=>
 G v4 false (fun HC=>
 B1 (ld eH eY) fun v20=>
 HC v20 eY) (fun v21 lR=>
 G v4 false (fun PF=>
 B1 (bq v21) fun v24=>
 PF v24 lR) (fun v25 dW=>
 G v4 false (fun Fv=>
 B1 (mU v6 v25) fun v28=>
 Fv v28 dW) (fun v29 lE=>
 B1 (pk v4 (.bool true) v29) fun v31=>
 j3 a0 a1 (.ptr i0 0) v31 lE) dW) lR) eY) ie) bU) h7) h1) (fun eT cw bM dG na=>
 CD dG (
 B1 (fl [.ah,(.int .i64 0),.ah,.ah] []) fun Hg=>
 B1 (st 4 bM (.agg Hg) na) fun fL=>
 B1 (aA 4 bM fL) fun eM=>
 some (.tuple [eM,(.str []),(.bool false)],fL)) (
 j2 eT cw bM na))) (fun cp dD eI qG=>
 J 2 (fun j44=>
 B1 (aV cp) fun fB=>
 B1 (fa 3 fB) fun v46=>
 B1 (ld v46 qG) fun je=>
 B1 (mI dD (.int .i64 1)) fun gB=>
 B1 (ia 5 je gB) fun v49=>
 B1 (aA 5 v49 qG) fun ij=>
 BN (aE qG [.ah,(.int .i64 0),.ah,.ah,(.str [])] 77 0) fun i51 nO=>
 B1 (st 5 (.ptr i51 0) ij nO) fun ir=>
 j44 eI (.ptr i51 0) ir) (fun dU fy nL=>
 B1 (fa 0 fy) fun v57=>
 B1 (aA 4 v57 nL) fun lN=>
 B2 (cf (.func (.func 58) [] []) [lN] nL) fun v59 kL=>
 B1 (fa 4 fy) fun mR=>
 B1 (ld mR kL) fun gM=>
 B1 (st 4 dU v59 kL) fun sK=>
 B1 (ld mR nL) fun v64=>
 SM gM v64 <|
 B1 (ld mR sK) fun pw=>
 SM gM pw <|
 B1 (aA 4 dU sK) fun ma=>
 some (.tuple [ma,gM,(.bool true)],sK)))
theorem adY (J:JT)(G:GT)(cf:CF)(a0 a1:AV)(H:Hp):fK P J G aQ an cf 46 [a0,a1] H=Iq J G cf a0 a1 H:=by kernel_rfl
theorem XJ {a0 a1:AV}{H:Hp}{r:AV × Hp}(h:Iq JN GO cK a0 a1 H=some r):cK (.func (.func 46) [] []) [a0,a1] H=some r:=aS (first:=[]) (cap:=[]) ((adY JN GO _ a0 a1 H).trans h)
noncomputable def aaT (J:JT)(G:GT)(cf:CF)(a0 a1 a2:AV)(H:Hp):R:=
 B1 (aV a0) fun v0=>
 B1 (fa 4 v0) fun v1=>
 B1 (ld v1 H) fun v2=>
 B1 (fl [(.str []),(.str [])] [(0,1,a1),(1,1,a2)]) fun l3=>
 B2 (cf (.func (.func 83) [] []) [v2,(.agg l3)] H) fun v4 h5=>
 B1 (ex 0 v4) fun v6=>
 B1 (ex 1 v4) fun v7=>
 some (.tuple [v6,v7],h5)
theorem aiC {a0 a1 a2:AV}{H:Hp}{r:AV × Hp}(h:aaT JN GO cK a0 a1 a2 H=some r):cK (.func (.func 45) [] []) [a0,a1,a2] H=some r:=aS (first:=[]) (cap:=[]) (aal (by kernel_rfl) h)
noncomputable def bl_flow_Flow_First1 (J:JT)(G:GT)(cf:CF)(aD:K.Fn 0)(fZ:K.Fn 3)(jz:K.Fn 3)(yH:K.Fn 8)(fQ fF fS gK gJ eD eL dU:AV)(kj:Hp):R:=
 B1 (cx dU eL) fun kU=>
 CD kU (
 J 8 (fun Hf=>
 J 10 (fun QT=>
 B1 (ia 4 eD dU) fun v59=>
 B1 (aA 4 v59 kj) fun fW=>
 BN (aE kj [(.int .i64 0),(.int .i64 0),(.int .i64 0),(.str [])] 132 0) fun i61 hY=>
 B1 (st 4 (.ptr i61 0) fW hY) fun sK=>
 QT fQ fF dU (.ptr i61 0) fS gK gJ eD eL dU sK) (fun fq eO my iA jU mf lW sF sM gY xV=>
 J 11 (fun j75=>
 B1 (fa 0 eO) fun v76=>
 B1 (fa 1 v76) fun pU=>
 B1 (ld pU xV) fun rT=>
 B1 (bF rT (.int .i64 0)) fun qR=>
 G qR true (fun OP=>
 B1 (fa 0 iA) fun pW=>
 OP pW xV) (fun mM py=>
 G qR true (fun GH=>
 B1 (ld mM py) fun v85=>
 GH v85 py) (fun vn tD=>
 G qR true (fun MH=>
 B1 (bF vn (.int .i64 1)) fun rA=>
 MH rA tD) (fun qa wo=>
 B1 (pk qR qa (.bool false)) fun wG=>
 j75 fq eO my iA jU mf lW sF sM gY wG wo) tD) py) xV) (fun mX kq kI mG nZ qB lM qX oN qu RN yp=>
 CD RN (
 B1 (bS mX (.int .i64 1)) fun v105=>
 B1 (fa 1 mG) fun zz=>
 B1 (ld zz yp) fun v107=>
 B1 (bS v107 (.int .i64 1)) fun wH=>
 some (.tuple [v105,kI,wH,(.bool true)],yp)) (
 Hf mX kq nZ qB lM qX oN qu yp)))) (fun gP nG oG sD rO qW xC xG zS=>
 B1 (bS xG (.int .i64 1)) fun rB=>
 yH gP nG oG sD rO qW xC rB zS)) (
 jz fS gK gJ kj)
noncomputable def Ci (J:JT)(G:GT)(cf:CF)(aD:K.Fn 0)(fZ:K.Fn 3)(jz:K.Fn 3):K.Fn 8:=dZ P an J G cf 28 [1,0,1,0,0,1,1,0,0,1,1,0,0] [6,7,13,14,15,22,23,24] (fun q t H=>match Nat.beq q 2 with | true=>app 3 jz (ax [13,14,15] t) H | false=>(fun q t H=>match Nat.beq q 1 with | true=>app 3 fZ (ax [13,14,15] t) H | false=>(fun q t H=>match Nat.beq q 0 with | true=>app 0 aD (ax [] t) H | false=>(fun _ _ _=>none) q t H) q t H) q t H)
theorem aeo (J:JT)(G:GT)(cf:CF)(aD:K.Fn 0)(fZ:K.Fn 3)(jz:K.Fn 3)(yH:K.Fn 8)(fQ fF fS gK gJ eD eL dU:AV)(kj:Hp):lB P an J G cf 28 [1,0,1,0,0,1,1,0,0,1,1,0,0] [6,7,13,14,15,22,23,24] (fun q t H=>match Nat.beq q 2 with | true=>app 3 jz (ax [13,14,15] t) H | false=>(fun q t H=>match Nat.beq q 1 with | true=>app 3 fZ (ax [13,14,15] t) H | false=>(fun q t H=>match Nat.beq q 0 with | true=>app 0 aD (ax [] t) H | false=>(fun _ _ _=>none) q t H) q t H) q t H) yH [fQ,fF,fS,gK,gJ,eD,eL,dU] kj=bl_flow_Flow_First1 J G cf aD fZ jz yH fQ fF fS gK gJ eD eL dU kj:=by kernel_rfl
theorem Aw (cf:CF)(aD:K.Fn 0)(fZ:K.Fn 3)(jz:K.Fn 3)(fQ fF fS gK gJ eD eL dU:AV)(kj:Hp):Ci JN GO cf aD fZ jz fQ fF fS gK gJ eD eL dU kj=bl_flow_Flow_First1 JN GO cf aD fZ jz (Ci JN GO cf aD fZ jz) fQ fF fS gK gJ eD eL dU kj:=aal (b:=app 8 (Ci JN GO cf aD fZ jz) [fQ,fF,fS,gK,gJ,eD,eL,dU] kj) (by kernel_rfl) ((eU cf _ _ _ _ [fQ,fF,fS,gK,gJ,eD,eL,dU] rfl kj).trans (aeo JN GO cf aD fZ jz _ fQ fF fS gK gJ eD eL dU kj))
noncomputable def bl_flow_Flow_First (J:JT)(G:GT)(cf:CF)(aD:K.Fn 0)(lD:K.Fn 3)(bo ba bf:AV)(eV:Hp):R:=
 B1 (cx bf ba) fun c8=>
 CD c8 (
 J 3 (fun nI=>
 J 3 (fun fZ=>
 J 5 (fun bO=>
 B1 (ia 5 bo bf) fun v20=>
 B1 (aA 5 v20 eV) fun v21=>
 BN (aE eV [.ah,(.int .i64 0),.ah,.ah,(.str [])] 77 0) fun i22 cB=>
 B1 (st 5 (.ptr i22 0) v21 cB) fun jh=>
 bO bf (.ptr i22 0) bo ba bf jh) (fun bB bX bT dh eK lE=>
 J 8 (fun cn=>
 B1 (fa 0 bX) fun v32=>
 B1 (fa 2 v32) fun fM=>
 B1 (ld fM lE) fun dJ=>
 B1 (bq dJ) fun v35=>
 cn bB bX bT dh eK dJ v35 (.int .i64 0) lE) (fun bN cu cG cF cp dD eI dP ef=>
 J 3 (fun jz=>
 Ci J G cf aD fZ jz bN cu cG cF cp dD eI dP ef) (fun uQ sf sA GG=>
 fZ uQ sf sA GG)))) (fun xd AL Gb vi=>
 nI xd AL Gb vi)) (fun iD iu iX ya=>
 B1 (bS iX (.int .i64 1)) fun v131=>
 lD iD iu v131 ya)) (
 aD  eV)
noncomputable def BU (J:JT)(G:GT)(cf:CF)(aD:K.Fn 0):K.Fn 3:=dZ P an J G cf 28 [1,0,1,0,0] [13,14,15] (fun q t H=>match Nat.beq q 0 with | true=>app 0 aD (ax [] t) H | false=>(fun _ _ _=>none) q t H)
theorem Ki (cf:CF)(aD:K.Fn 0)(bo ba bf:AV)(eV:Hp):BU JN GO cf aD bo ba bf eV=bl_flow_Flow_First JN GO cf aD (BU JN GO cf aD) bo ba bf eV:=aal (b:=app 3 (BU JN GO cf aD) [bo,ba,bf] eV) (by kernel_rfl) ((eU cf 28 [1,0,1,0,0] [13,14,15] _ [bo,ba,bf] rfl eV).trans (by kernel_rfl))
noncomputable def M1 (J:JT)(G:GT)(cf:CF)(a0:AV)(H:Hp):R:=
 J 0 (fun j0=>
 J 3 (fun j1=>
 B1 (aV a0) fun v2=>
 B1 (fa 3 v2) fun v3=>
 B1 (ld v3 H) fun v4=>
 B1 (bq v4) fun v5=>
 j1 v4 v5 (.int .i64 0) H) (fun x6 x7 x8 h9=>
 J 0 (fun aD=>
 BU J G cf aD x6 x7 x8 h9) (fun  CA=>
 j0  CA))) (fun  lH=>
 some (.tuple [(.int .i64 0),(.int .i64 0),(.int .i64 0),(.bool false)],lH))
theorem Yi {a0:AV}{H:Hp}{r:AV × Hp}(h:M1 JN GO cK a0 H=some r):cK (.func (.func 28) [] []) [a0] H=some r:=aS (first:=[]) (cap:=[]) (aal (by kernel_rfl) h)
noncomputable def bl_flow_All (J:JT)(G:GT)(cf:CF)(j4:K.Fn 1)(j5:K.Fn 4)(x6 x7 x8 x9:AV)(bU:Hp):R:=
 B1 (cx x9 x8) fun v11=>
 CD v11 (
 J 4 (fun cH=>
 B1 (ia 8 x7 x9) fun dN=>
 B1 (aA 8 dN bU) fun cI=>
 BN (aE bU [(.int .i64 0),(.int .i64 0),(.int .i64 0),(.int .i64 0),(.int .i64 0),(.str []),(.str []),(.str [])] 26 0) fun i15 bD=>
 B1 (st 8 (.ptr i15 0) cI bD) fun dI=>
 B1 (aA 8 (.ptr i15 0) dI) fun dy=>
 B2 (cf (.func (.func 16) [] []) [x6,dy] dI) fun gW pn=>
 cH x6 x7 x8 x9 pn) (fun aU aN bc bC dC=>
 B1 (bS bC (.int .i64 1)) fun v26=>
 j5 aU aN bc v26 dC)) (
 j4 x6 bU)
noncomputable def EC (J:JT)(G:GT)(cf:CF)(j4:K.Fn 1):K.Fn 4:=dZ P an J G cf 13 [1,1,0,1,0,0] [3,7,8,9] (fun q t H=>match Nat.beq q 0 with | true=>app 1 j4 (ax [3] t) H | false=>(fun _ _ _=>none) q t H)
theorem Wo (cf:CF)(j4:K.Fn 1)(x6 x7 x8 x9:AV)(bU:Hp):EC JN GO cf j4 x6 x7 x8 x9 bU=bl_flow_All JN GO cf j4 (EC JN GO cf j4) x6 x7 x8 x9 bU:=aal (b:=app 4 (EC JN GO cf j4) [x6,x7,x8,x9] bU) (by kernel_rfl) ((eU cf 13 [1,1,0,1,0,0] [3,7,8,9] _ [x6,x7,x8,x9] rfl bU).trans (by kernel_rfl))
noncomputable def SU (J:JT)(G:GT)(cf:CF)(a0:AV)(H:Hp):R:=
 B2 (cf (.func (.func 18) [] []) [] H) fun v0 h1=>
 J 1 (fun j2=>
 B1 (bq a0) fun v3=>
 J 1 (fun j4=>
 EC J G cf j4 v0 a0 v3 (.int .i64 0) h1) (fun bT gH=>
 j2 bT gH)) (fun eK lE=>
 some (eK,lE))
theorem amd {a0:AV}{H:Hp}{r:AV × Hp}(h:SU JN GO cK a0 H=some r):cK (.func (.func 13) [] []) [a0] H=some r:=aS (first:=[]) (cap:=[]) (aal (by kernel_rfl) h)
noncomputable def Pw (J:JT)(G:GT)(cf:CF)(a0:AV)(H:Hp):R:=
 sJ (gA P .eql 64 true a0 .ah) <| B1 (eG P .eql 64 a0 .ah H) fun v0=>
 CD v0 (
 some (.ah,H)) (
 B1 (fl [] []) fun l1=>
 BN (aE H l1 77 0) fun i2 h3=>
 B2 (gg 77 5 [.ah,(.int .i64 0),.ah,.ah,(.str [])] false (.slice i2 0 0 0 true 5) a0 h3) fun v4 h5=>
 some (v4,h5))
theorem UF {a0:AV}{H:Hp}{r:AV × Hp}(h:Pw JN GO cK a0 H=some r):cK (.func (.func 31) [] []) [a0] H=some r:=aS (first:=[]) (cap:=[]) (aal (by kernel_rfl) h)
noncomputable def IT (J:JT)(G:GT)(cf:CF)(a0 a1 a2:AV)(H:Hp):R:=
 BN (bx 37 a1 H) fun i0 h1=>
 BN (aE h1 [(.int .i64 0),(.int .i64 0),(.int .i64 0),(.int .i64 0),(.int .i64 0),(.str []),(.str []),(.str [])] 26 0) fun i2 h3=>
 BN (aE h3 [(.int .i64 0),(.int .i64 0),(.int .i64 0),(.int .i64 0),(.int .i64 0),(.str [])] 39 0) fun i4 h5=>
 J 5 (fun j6=>
 B1 (fa 0 (.ptr i0 0)) fun v7=>
 B1 (ld v7 h5) fun v8=>
 J 5 (fun j9=>
 B1 (bF v8 (.int .i64 1)) fun v10=>
 CD v10 (
 B1 (fa 6 (.ptr i0 0)) fun v11=>
 B1 (ld v11 h5) fun v12=>
 B1 (fa 8 (.ptr i0 0)) fun dN=>
 B1 (ld dN h5) fun cI=>
 B1 (fl [(.int .i64 0),(.int .i64 0),(.int .i64 0),(.int .i64 0),(.int .i64 0),(.str []),(.str []),(.str [])] [(0,1,(.int .i64 1)),(5,1,v12),(7,1,cI)]) fun QY=>
 B1 (st 8 (.ptr i2 0) (.agg QY) h5) fun bD=>
 j9 a0 a2 (.ptr i0 0) (.ptr i2 0) (.ptr i4 0) bD) (
 B1 (bF v8 (.int .i64 2)) fun eH=>
 CD eH (
 J 5 (fun fZ=>
 J 7 (fun bO=>
 B1 (fa 6 (.ptr i0 0)) fun v20=>
 B1 (ld v20 h5) fun v21=>
 B1 (fa 7 (.ptr i0 0)) fun v22=>
 B1 (ld v22 h5) fun v23=>
 B2 (cf (.func (.func 45) [] []) [a0,v21,v23] h5) fun v24 dC=>
 B1 (ex 0 v24) fun v26=>
 B1 (ex 1 v24) fun v27=>
 bO a0 a2 (.ptr i0 0) (.ptr i2 0) (.ptr i4 0) v26 v27 dC) (fun dh eK dE bZ eT cw bM dS=>
 J 7 (fun vp=>
 G bM true (fun Fo=>
 B1 (fa 7 dE) fun jK=>
 Fo jK dS) (fun eM kB=>
 G bM true (fun Hs=>
 B1 (ld eM kB) fun fw=>
 Hs fw kB) (fun gu ef=>
 G bM true (fun RW=>
 B1 (qN gu (.str [])) fun v46=>
 RW v46 ef) (fun je ng=>
 B1 (pk bM je (.bool false)) fun v49=>
 vp dh eK dE bZ eT cw v49 ng) ef) kB) dS) (fun gK gJ eD eL dU fy cL jv=>
 CD cL (
 B1 (fl [(.int .i64 0),(.int .i64 0),(.int .i64 0),(.int .i64 0),(.int .i64 0),(.str []),(.str []),(.str [])] []) fun l58=>
 B1 (fl [(.int .i64 0),(.int .i64 0),(.int .i64 0),(.int .i64 0),(.int .i64 0),(.str [])] [(1,1,fy)]) fun l59=>
 B1 (st 8 eL (.agg l58) jv) fun kL=>
 B1 (st 6 dU (.agg l59) kL) fun gD=>
 B1 (aA 8 eL gD) fun gM=>
 B1 (aA 6 dU gD) fun v63=>
 some (.tuple [gM,v63,(.bool false)],gD)) (
 fZ gK gJ eD eL dU jv)))) (fun fq eO my iA jU tS=>
 B2 (cf (.func (.func 29) [] []) [fq] tS) fun v70 kT=>
 B1 (bS v70 (.int .i64 1)) fun v72=>
 B2 (gp P .min #[3,3] [v72,(.int .i64 64)] kT) fun kP xV=>
 B1 (fa 6 my) fun v75=>
 B1 (ld v75 kT) fun v76=>
 B1 (fa 7 my) fun pU=>
 B1 (ld pU kT) fun rT=>
 B1 (fl [(.int .i64 0),(.int .i64 0),(.int .i64 0),(.int .i64 0),(.int .i64 0),(.str []),(.str []),(.str [])] [(0,1,(.int .i64 2)),(1,1,kP),(5,1,v76),(6,1,rT)]) fun l79=>
 B1 (st 8 iA (.agg l79) kT) fun yG=>
 B1 (ld v75 tS) fun pW=>
 SM v76 pW <|
 B1 (ld pU tS) fun mM=>
 SM rT mM <|
 j9 fq eO my iA jU yG)) (
 B1 (bF v8 (.int .i64 3)) fun pQ=>
 CD pQ (
 J 9 (fun NP=>
 B2 (cf (.func (.func 28) [] []) [a0] h5) fun v85 xE=>
 B1 (ex 0 v85) fun v87=>
 B1 (ex 1 v85) fun wV=>
 B1 (ex 2 v85) fun rA=>
 B1 (ex 3 v85) fun qa=>
 NP a0 a2 (.ptr i0 0) (.ptr i2 0) (.ptr i4 0) v87 wV rA qa xE) (fun yc mj mX kq kI mG nZ qB lM uT=>
 J 8 (fun Q9=>
 B1 (fX .not lM) fun rG=>
 CD rG (
 B1 (fl [(.int .i64 0),(.int .i64 0),(.int .i64 0),(.int .i64 0),(.int .i64 0),(.str []),(.str []),(.str [])] []) fun Px=>
 B1 (fl [(.int .i64 0),(.int .i64 0),(.int .i64 0),(.int .i64 0),(.int .i64 0),(.str [])] [(0,1,(.int .i64 4))]) fun EO=>
 B1 (st 8 kq (.agg Px) uT) fun z8=>
 B1 (st 6 kI (.agg EO) z8) fun uo=>
 B1 (aA 8 kq uo) fun v107=>
 B1 (aA 6 kI uo) fun wH=>
 some (.tuple [v107,wH,(.bool false)],uo)) (
 Q9 yc mj mX kq kI mG nZ qB uT)) (fun gP nG oG sD rO qW xC xG zS=>
 J 9 (fun agS=>
 B2 (cf (.func (.func 46) [] []) [gP,qW] zS) fun sR Aq=>
 B1 (ex 0 sR) fun Fz=>
 B1 (ex 1 sR) fun zp=>
 B1 (ex 2 sR) fun wz=>
 BN (aE Aq [.ah,(.int .i64 0),.ah,.ah] 75 0) fun i124 Fi=>
 B1 (st 4 (.ptr i124 0) Fz Fi) fun vi=>
 agS gP nG oG sD rO qW xC xG (.ptr i124 0) vi) (fun iD iu iX kf nA jW tP tK pO afW=>
 J 8 (fun akC=>
 B1 (fl [(.int .i64 0),(.int .i64 0),(.int .i64 0),(.int .i64 0),(.int .i64 0),(.str []),(.str []),(.str [])] [(0,1,(.int .i64 3)),(1,1,jW),(2,1,tP),(3,1,tK)]) fun adh=>
 B1 (st 8 kf (.agg adh) afW) fun wF=>
 akC iD iu iX kf nA tP tK pO wF) (fun RY DM HA NI BZ Df Cq OI yA=>
 B1 (fa 0 OI) fun Fh=>
 B1 (fa 0 Fh) fun RC=>
 B1 (ld RC yA) fun St=>
 B1 (ia 6 St Df) fun v152=>
 B1 (fa 0 v152) fun Su=>
 B1 (ld Su yA) fun v154=>
 B1 (fl [(.int .i64 0),(.int .i64 0),(.int .i64 0),(.int .i64 0),(.int .i64 0),(.str [])] [(2,1,Df),(3,1,Cq),(4,1,DM),(5,1,v154)]) fun MB=>
 B1 (st 6 BZ (.agg MB) yA) fun ajg=>
 j9 RY DM HA NI BZ ajg))))) (
 B1 (bF v8 (.int .i64 4)) fun v157=>
 CD v157 (
 B1 (fa 1 (.ptr i0 0)) fun RF=>
 B1 (ld RF h5) fun v159=>
 B1 (fa 2 (.ptr i0 0)) fun v160=>
 B1 (ld v160 h5) fun Pv=>
 B1 (fa 3 (.ptr i0 0)) fun v162=>
 B1 (ld v162 h5) fun an3=>
 B1 (fa 8 (.ptr i0 0)) fun v164=>
 B1 (ld v164 h5) fun aiD=>
 B1 (fl [(.int .i64 0),(.int .i64 0),(.int .i64 0),(.int .i64 0),(.int .i64 0),(.str []),(.str []),(.str [])] [(0,1,(.int .i64 4)),(1,1,v159),(2,1,Pv),(3,1,an3),(7,1,aiD)]) fun agN=>
 B1 (st 8 (.ptr i2 0) (.agg agN) h5) fun ahj=>
 j9 a0 a2 (.ptr i0 0) (.ptr i2 0) (.ptr i4 0) ahj) (
 B1 (bF v8 (.int .i64 5)) fun v168=>
 CD v168 (
 B1 (fa 1 (.ptr i0 0)) fun MR=>
 B1 (ld MR h5) fun zF=>
 B1 (fa 2 (.ptr i0 0)) fun v171=>
 B1 (ld v171 h5) fun Fw=>
 B1 (fa 3 (.ptr i0 0)) fun v173=>
 B1 (ld v173 h5) fun Ny=>
 B1 (fl [(.int .i64 0),(.int .i64 0),(.int .i64 0),(.int .i64 0),(.int .i64 0),(.str []),(.str []),(.str [])] [(0,1,(.int .i64 5)),(1,1,zF),(2,1,Fw),(3,1,Ny)]) fun aew=>
 B1 (st 8 (.ptr i2 0) (.agg aew) h5) fun A7=>
 j9 a0 a2 (.ptr i0 0) (.ptr i2 0) (.ptr i4 0) A7) (
 B1 (bF v8 (.int .i64 6)) fun HI=>
 CD HI (
 B1 (fa 4 (.ptr i0 0)) fun agt=>
 B1 (ld agt h5) fun aps=>
 B1 (fl [(.int .i64 0),(.int .i64 0),(.int .i64 0),(.int .i64 0),(.int .i64 0),(.str []),(.str []),(.str [])] [(0,1,(.int .i64 6)),(4,1,aps)]) fun acF=>
 B1 (st 8 (.ptr i2 0) (.agg acF) h5) fun Rg=>
 j9 a0 a2 (.ptr i0 0) (.ptr i2 0) (.ptr i4 0) Rg) (
 B1 (bF v8 (.int .i64 7)) fun v182=>
 CD v182 (
 B1 (fa 1 (.ptr i0 0)) fun v183=>
 B1 (ld v183 h5) fun Nh=>
 B1 (fa 6 (.ptr i0 0)) fun ajQ=>
 B1 (ld ajQ h5) fun acu=>
 B1 (fl [(.int .i64 0),(.int .i64 0),(.int .i64 0),(.int .i64 0),(.int .i64 0),(.str []),(.str []),(.str [])] [(0,1,(.int .i64 7)),(1,1,Nh),(5,1,acu)]) fun l187=>
 B1 (st 8 (.ptr i2 0) (.agg l187) h5) fun akX=>
 j9 a0 a2 (.ptr i0 0) (.ptr i2 0) (.ptr i4 0) akX) (
 B1 (bF v8 (.int .i64 8)) fun akA=>
 CD akA (
 B1 (fa 1 (.ptr i0 0)) fun QL=>
 B1 (ld QL h5) fun J2=>
 B1 (fl [(.int .i64 0),(.int .i64 0),(.int .i64 0),(.int .i64 0),(.int .i64 0),(.str []),(.str []),(.str [])] [(0,1,(.int .i64 8)),(1,1,J2)]) fun ai0=>
 B1 (st 8 (.ptr i2 0) (.agg ai0) h5) fun PD=>
 j9 a0 a2 (.ptr i0 0) (.ptr i2 0) (.ptr i4 0) PD) (
 B1 (bF v8 (.int .i64 9)) fun v194=>
 CD v194 (
 J 2 (fun alG=>
 J 4 (fun aeT=>
 B1 (fa 1 (.ptr i0 0)) fun acA=>
 B1 (ld acA h5) fun v198=>
 B2 (cf (.func (.func 47) [] []) [a0,v198] h5) fun Rl Mx=>
 aeT (.ptr i0 0) (.ptr i2 0) (.ptr i4 0) Rl Mx) (fun Ms AA Ab Lj Rj=>
 B1 (qN Lj (.str [])) fun v206=>
 CD v206 (
 B1 (fl [(.int .i64 0),(.int .i64 0),(.int .i64 0),(.int .i64 0),(.int .i64 0),(.str []),(.str []),(.str [])] []) fun aoz=>
 B1 (fa 1 Ms) fun v208=>
 B1 (ld v208 Rj) fun Vo=>
 B1 (fl [(.int .i64 0),(.int .i64 0),(.int .i64 0),(.int .i64 0),(.int .i64 0),(.str [])] [(1,1,Vo),(5,1,Lj)]) fun aki=>
 B1 (st 8 AA (.agg aoz) Rj) fun Zy=>
 B1 (st 6 Ab (.agg aki) Zy) fun Ax=>
 B1 (ld v208 Zy) fun Q1=>
 SM Vo Q1 <|
 B1 (aA 8 AA Ax) fun aoa=>
 B1 (aA 6 Ab Ax) fun apc=>
 some (.tuple [aoa,apc,(.bool false)],Ax)) (
 alG AA Ab Rj))) (fun Wh abn amb=>
 B1 (fl [(.int .i64 0),(.int .i64 0),(.int .i64 0),(.int .i64 0),(.int .i64 0),(.str []),(.str []),(.str [])] []) fun acO=>
 B1 (fl [(.int .i64 0),(.int .i64 0),(.int .i64 0),(.int .i64 0),(.int .i64 0),(.str [])] [(0,1,(.int .i64 4))]) fun acg=>
 B1 (st 8 Wh (.agg acO) amb) fun anI=>
 B1 (st 6 abn (.agg acg) anI) fun NR=>
 B1 (aA 8 Wh NR) fun afU=>
 B1 (aA 6 abn NR) fun ahN=>
 some (.tuple [afU,ahN,(.bool false)],NR))) (
 B1 (fl [(.int .i64 0),(.int .i64 0),(.int .i64 0),(.int .i64 0),(.int .i64 0),(.str []),(.str []),(.str [])] []) fun ao6=>
 B1 (fl [(.int .i64 0),(.int .i64 0),(.int .i64 0),(.int .i64 0),(.int .i64 0),(.str [])] [(0,1,(.int .i64 1))]) fun aoR=>
 B1 (st 8 (.ptr i2 0) (.agg ao6) h5) fun apB=>
 B1 (st 6 (.ptr i4 0) (.agg aoR) apB) fun RP=>
 B1 (aA 8 (.ptr i2 0) RP) fun v229=>
 B1 (aA 6 (.ptr i4 0) RP) fun afp=>
 some (.tuple [v229,afp,(.bool false)],RP))))))))))) (fun adC alX apS ahx agF apF=>
 j6 adC alX apS ahx agF apF)) (fun anP aci LX amX akj Pc=>
 J 3 (fun alU=>
 J 4 (fun aph=>
 B1 (fa 0 LX) fun anu=>
 B1 (ld anu Pc) fun afj=>
 B1 (bF afj (.int .i64 4)) fun Jy=>
 G Jy false (fun ajo=>
 B1 (fa 0 LX) fun adn=>
 ajo adn Pc) (fun ahg Rf=>
 G Jy false (fun k252=>
 B1 (ld ahg Rf) fun v253=>
 k252 v253 Rf) (fun aho X4=>
 G Jy false (fun ail=>
 B1 (bF aho (.int .i64 5)) fun v257=>
 ail v257 X4) (fun ajb TZ=>
 B1 (pk Jy (.bool true) ajb) fun G9=>
 G G9 true (fun aeE=>
 B1 (fa 5 LX) fun v262=>
 aeE v262 TZ) (fun aip QW=>
 G G9 true (fun k265=>
 B1 (ld aip QW) fun ann=>
 k265 ann QW) (fun akZ VD=>
 G G9 true (fun amD=>
 amD aci VD) (fun akf aaf=>
 G G9 true (fun adZ=>
 B1 (il akZ akf) fun v273=>
 adZ v273 aaf) (fun amq apM=>
 B1 (pk G9 amq (.bool false)) fun anx=>
 aph anP amX akj anx apM) aaf) VD) QW) TZ) X4) Rf) Pc) (fun aj2 Sx O1 amv WC=>
 CD amv (
 B1 (fl [(.int .i64 0),(.int .i64 0),(.int .i64 0),(.int .i64 0),(.int .i64 0),(.str []),(.str []),(.str [])] []) fun acR=>
 B1 (fl [(.int .i64 0),(.int .i64 0),(.int .i64 0),(.int .i64 0),(.int .i64 0),(.str [])] [(0,1,(.int .i64 8))]) fun aj0=>
 B1 (st 8 Sx (.agg acR) WC) fun ahe=>
 B1 (st 6 O1 (.agg aj0) ahe) fun Nq=>
 B1 (aA 8 Sx Nq) fun ah0=>
 B1 (aA 6 O1 Nq) fun am0=>
 some (.tuple [ah0,am0,(.bool false)],Nq)) (
 alU aj2 Sx O1 WC))) (fun ac0 Pz ad9 Ve=>
 J 2 (fun afR=>
 J 3 (fun akv=>
 B2 (cf (.func (.func 14) [] []) [ac0] Ve) fun anp VL=>
 B1 (aA 8 Pz VL) fun aap=>
 B2 (cf (.func (.func 16) [] []) [anp,aap] VL) fun amK ac8=>
 B1 (aA 8 Pz Ve) fun aiS=>
 SM aap aiS <|
 akv Pz ad9 amK ac8) (fun Sv NW Z4 SB=>
 B1 (il Z4 (.int .i64 0)) fun aos=>
 CD aos (
 B1 (fl [(.int .i64 0),(.int .i64 0),(.int .i64 0),(.int .i64 0),(.int .i64 0),(.str []),(.str []),(.str [])] []) fun ah9=>
 B1 (fl [(.int .i64 0),(.int .i64 0),(.int .i64 0),(.int .i64 0),(.int .i64 0),(.str [])] [(0,1,Z4)]) fun aou=>
 B1 (st 8 Sv (.agg ah9) SB) fun h307=>
 B1 (st 6 NW (.agg aou) h307) fun Sf=>
 B1 (aA 8 Sv Sf) fun adx=>
 B1 (aA 6 NW Sf) fun akP=>
 some (.tuple [adx,akP,(.bool false)],Sf)) (
 afR Sv NW SB))) (fun Ln HL VM=>
 B1 (fa 1 Ln) fun aef=>
 B1 (ld aef VM) fun apw=>
 B1 (fa 1 HL) fun aga=>
 B1 (st 1 aga apw VM) fun ML=>
 B1 (aA 8 Ln ML) fun ahz=>
 B1 (aA 6 HL ML) fun aaV=>
 B1 (st 8 Ln ahz ML) fun Z5=>
 B1 (st 6 HL aaV Z5) fun LL=>
 B1 (aA 6 HL Z5) fun amR=>
 SM aaV amR <|
 B1 (aA 8 Ln LL) fun afJ=>
 B1 (aA 6 HL LL) fun amJ=>
 some (.tuple [afJ,amJ,(.bool true)],LL))))
theorem aoy (J:JT)(G:GT)(cf:CF)(a0 a1 a2:AV)(H:Hp):fK P J G aQ an cf 20 [a0,a1,a2] H=IT J G cf a0 a1 a2 H:=by kernel_rfl
theorem af7 {a0 a1 a2:AV}{H:Hp}{r:AV × Hp}(h:IT JN GO cK a0 a1 a2 H=some r):cK (.func (.func 20) [] []) [a0,a1,a2] H=some r:=aS (first:=[]) (cap:=[]) ((aoy JN GO _ a0 a1 a2 H).trans h)
noncomputable def bl_admit_Show (J:JT)(G:GT)(cf:CF)(jw:K.Fn 1)(wP:K.Fn 4)(bZ eT cw bM:AV)(dS:Hp):R:=
 B1 (cx bM cw) fun v36=>
 CD v36 (
 J 4 (fun HM=>
 B1 (ia 4 eT bM) fun jK=>
 B1 (aA 4 jK dS) fun eM=>
 BN (aE dS [(.int .i64 0),(.int .i64 0),(.int .i64 0),(.str [])] 132 0) fun i40 gR=>
 B1 (st 4 (.ptr i40 0) eM gR) fun gj=>
 B1 (fa 0 (.ptr i40 0)) fun gu=>
 B1 (ld gu gj) fun v44=>
 B2 (cf (.func (.func 84) [] []) [v44] gj) fun fB jj=>
 B1 (pH fB (.str [46])) fun je=>
 B1 (fa 1 (.ptr i40 0)) fun gB=>
 B1 (ld gB jj) fun v49=>
 B2 (cf (.func (.func 84) [] []) [v49] jj) fun ij ml=>
 B1 (pH je ij) fun iG=>
 B1 (fl [(.str [])] [(0,1,iG)]) fun Of=>
 BN (aE ml Of 9 0) fun i54 kj=>
 B2 (gg 9 1 [(.str [])] false bZ (.slice i54 0 1 1 true 1) kj) fun kU jv=>
 B1 (ld gB gj) fun lN=>
 SM v49 lN <|
 HM kU eT cw bM jv) (fun cJ eR dK jH sK=>
 B1 (bS jH (.int .i64 1)) fun v64=>
 wP cJ eR dK v64 sK)) (
 jw bZ dS)
noncomputable def Fx (J:JT)(G:GT)(cf:CF)(jw:K.Fn 1):K.Fn 4:=dZ P an J G cf 47 [1,1,1,1,0,1,0,0] [8,26,27,28] (fun q t H=>match Nat.beq q 0 with | true=>app 1 jw (ax [8] t) H | false=>(fun _ _ _=>none) q t H)
theorem Vb (cf:CF)(jw:K.Fn 1)(bZ eT cw bM:AV)(dS:Hp):Fx JN GO cf jw bZ eT cw bM dS=bl_admit_Show JN GO cf jw (Fx JN GO cf jw) bZ eT cw bM dS:=aal (b:=app 4 (Fx JN GO cf jw) [bZ,eT,cw,bM] dS) (by kernel_rfl) ((eU cf 47 [1,1,1,1,0,1,0,0] [8,26,27,28] _ [bZ,eT,cw,bM] rfl dS).trans (by kernel_rfl))
noncomputable def Mz (J:JT)(G:GT)(cf:CF)(a0 a1:AV)(H:Hp):R:=
 J 3 (fun j0=>
 B2 (cf (.func (.func 46) [] []) [a0,a1] H) fun v1 h2=>
 B1 (ex 0 v1) fun v3=>
 B1 (ex 1 v1) fun v4=>
 B1 (ex 2 v1) fun v5=>
 BN (aE h2 [.ah,(.int .i64 0),.ah,.ah] 75 0) fun i6 h7=>
 B1 (st 4 (.ptr i6 0) v3 h7) fun h8=>
 j0 (.ptr i6 0) v4 v5 h8) (fun x9 dA bG dT=>
 B1 (fX .not bG) fun dN=>
 CD dN (
 some ((.str []),dT)) (
 J 2 (fun Ao=>
 B1 (fa 1 x9) fun gE=>
 B1 (ld gE dT) fun c8=>
 B2 (cf (.func (.func 84) [] []) [c8] dT) fun eH eY=>
 B1 (fl [(.str []),(.str [])] [(0,1,dA),(1,1,eH)]) fun l19=>
 BN (aE eY l19 9 0) fun i20 lg=>
 Ao x9 (.slice i20 0 2 2 true 1) lg) (fun aN bc jh=>
 J 1 (fun Ef=>
 B1 (fa 2 aN) fun v26=>
 B1 (ld v26 jh) fun v27=>
 B1 (bq v27) fun v28=>
 J 1 (fun jw=>
 Fx J G cf jw bc v27 v28 (.int .i64 0) jh) (fun eO fV=>
 Ef eO fV)) (fun iA xD=>
 B2 (cf (.func (.func 85) [] []) [iA,(.str [32])] xD) fun jo tW=>
 some (jo,tW)))))
theorem Vx {a0 a1:AV}{H:Hp}{r:AV × Hp}(h:Mz JN GO cK a0 a1 H=some r):cK (.func (.func 47) [] []) [a0,a1] H=some r:=aS (first:=[]) (cap:=[]) (aal (by kernel_rfl) h)
noncomputable def bl_outriderlaw20_AdmitKeys (J:JT)(G:GT)(cf:CF)(mW:K.Fn 0)(J0:K.Fn 4)(pZ nQ n0 nD:AV)(nY:Hp):R:=
 B1 (cx nD pZ) fun alg=>
 CD alg (
 J 4 (fun an4=>
 J 6 (fun akR=>
 B1 (aA 9 n0 nY) fun MR=>
 B2 (cf (.func (.func 20) [] []) [nQ,MR,nD] nY) fun zF FV=>
 B1 (ex 0 zF) fun Fw=>
 B1 (ex 1 zF) fun v173=>
 B1 (ex 2 zF) fun Ny=>
 BN (aE FV [(.int .i64 0),(.int .i64 0),(.int .i64 0),(.int .i64 0),(.int .i64 0),(.str []),(.str []),(.str [])] 26 0) fun i175 A7=>
 BN (aE A7 [(.int .i64 0),(.int .i64 0),(.int .i64 0),(.int .i64 0),(.int .i64 0),(.str [])] 39 0) fun i177 Hn=>
 B1 (st 8 (.ptr i175 0) Fw Hn) fun O6=>
 B1 (st 6 (.ptr i177 0) v173 O6) fun Le=>
 akR pZ nQ n0 nD (.ptr i177 0) Ny Le) (fun Sp Sk P5 QX ajY zt Ma=>
 J 5 (fun akq=>
 G zt false (fun ahP=>
 B1 (aA 6 ajY Ma) fun QL=>
 ahP QL Ma) (fun J2 JX=>
 G zt false (fun aoO=>
 B1 (fl [(.int .i64 0),(.int .i64 0),(.int .i64 0),(.int .i64 0),(.int .i64 0),(.str [])] [(1,1,(.int .i64 1))]) fun an6=>
 aoO (.agg an6) JX) (fun aaP Gu=>
 G zt false (fun anA=>
 sJ (gA P .neq 39 false J2 aaP) <| B1 (eG P .neq 39 J2 aaP Gu) fun v198=>
 anA v198 Gu) (fun Rl Mx=>
 B1 (pk zt (.bool true) Rl) fun v201=>
 akq Sp Sk P5 QX v201 Mx) Gu) JX) Ma) (fun AA Ab Lj Ns LV ZA=>
 CD LV (
 some ((.bool false),ZA)) (
 an4 AA Ab Lj Ns ZA)))) (fun Mo afX x210 OW Ax=>
 B1 (bS OW (.int .i64 1)) fun Q1=>
 J0 Mo afX x210 Q1 Ax)) (
 mW  nY)
noncomputable def En (J:JT)(G:GT)(cf:CF)(mW:K.Fn 0):K.Fn 4:=dZ P an J G cf 5 [1,1,1,1,1,1,1,1,1,0,1,0,0] [1,5,6,11] (fun q t H=>match Nat.beq q 0 with | true=>app 0 mW (ax [] t) H | false=>(fun _ _ _=>none) q t H)
theorem aeC (J:JT)(G:GT)(cf:CF)(mW:K.Fn 0)(J0:K.Fn 4)(pZ nQ n0 nD:AV)(nY:Hp):lB P an J G cf 5 [1,1,1,1,1,1,1,1,1,0,1,0,0] [1,5,6,11] (fun q t H=>match Nat.beq q 0 with | true=>app 0 mW (ax [] t) H | false=>(fun _ _ _=>none) q t H) J0 [pZ,nQ,n0,nD] nY=bl_outriderlaw20_AdmitKeys J G cf mW J0 pZ nQ n0 nD nY:=by kernel_rfl
theorem abk (cf:CF)(mW:K.Fn 0)(pZ nQ n0 nD:AV)(nY:Hp):En JN GO cf mW pZ nQ n0 nD nY=bl_outriderlaw20_AdmitKeys JN GO cf mW (En JN GO cf mW) pZ nQ n0 nD nY:=aal (b:=app 4 (En JN GO cf mW) [pZ,nQ,n0,nD] nY) (by kernel_rfl) ((eU cf _ _ _ _ [pZ,nQ,n0,nD] rfl nY).trans (aeC JN GO cf mW _ pZ nQ n0 nD nY))
noncomputable def AH (J:JT)(G:GT)(cf:CF)(a0 a1:AV)(H:Hp):R:=
 B2 (cf (.func (.func 17) [] []) [] H) fun v0 h1=>
 B1 (fX .not v0) fun v2=>
 CD v2 (
 some ((.bool false),h1)) (
 J 2 (fun j3=>
 J 3 (fun j4=>
 B1 (lens a0) fun v5=>
 B1 (cx v5 (.int .i64 1)) fun v6=>
 G v6 false (fun k7=>
 k7 a0 h1) (fun v8 h9=>
 G v6 false (fun Aj=>
 B1 (lens v8) fun v11=>
 Aj v11 h9) (fun v12 iP=>
 G v6 false (fun Pf=>
 B1 (mU v12 (.int .i64 16)) fun gE=>
 Pf gE iP) (fun c8 dI=>
 B1 (pk v6 (.bool true) c8) fun dy=>
 G dy false (fun HC=>
 HC a1 dI) (fun v20 lg=>
 G dy false (fun Rb=>
 B1 (cx v20 (.int .i64 1)) fun v23=>
 Rb v23 lg) (fun v24 dC=>
 B1 (pk dy (.bool true) v24) fun v26=>
 G v26 false (fun Fv=>
 Fv a1 dC) (fun v28 dR=>
 G v26 false (fun Ii=>
 B1 (mU v28 (.int .i64 10)) fun v31=>
 Ii v31 dR) (fun v32 ns=>
 B1 (pk v26 (.bool true) v32) fun dJ=>
 j4 a0 a1 dJ ns) dR) dC) lg) dI) iP) h9) h1) (fun dG bN cu fL=>
 CD cu (
 some ((.bool true),fL)) (
 j3 dG bN fL))) (fun cF cp gR=>
 B2 (cf (.func (.func 18) [] []) [] gR) fun fw qG=>
 B1 (fl [(.int .i64 0),(.int .i64 0),(.int .i64 0),(.int .i64 0),(.int .i64 0),(.int .i64 0),(.str []),(.str []),(.str [])] [(0,1,(.int .i64 2)),(6,1,(.str [100])),(7,1,cF)]) fun l44=>
 BN (aE qG [(.int .i64 0),(.int .i64 0),(.int .i64 0),(.int .i64 0),(.int .i64 0),(.int .i64 0),(.str []),(.str []),(.str [])] 37 0) fun i45 jj=>
 B1 (st 9 (.ptr i45 0) (.agg l44) jj) fun ka=>
 J 5 (fun j48=>
 B1 (fl [(.int .i64 0),(.int .i64 0),(.int .i64 0),(.int .i64 0),(.int .i64 0),(.int .i64 0),(.str []),(.str []),(.str [])] [(0,1,(.int .i64 1)),(6,1,(.str [100])),(8,1,(.str [97]))]) fun l49=>
 B2 (cf (.func (.func 20) [] []) [fw,(.agg l49),(.int .i64 1)] ka) fun ij ml=>
 B1 (ex 0 ij) fun iG=>
 B1 (ex 1 ij) fun v53=>
 B1 (ex 2 ij) fun iy=>
 BN (aE ml [(.int .i64 0),(.int .i64 0),(.int .i64 0),(.int .i64 0),(.int .i64 0),(.str []),(.str []),(.str [])] 26 0) fun i55 nL=>
 BN (aE nL [(.int .i64 0),(.int .i64 0),(.int .i64 0),(.int .i64 0),(.int .i64 0),(.str [])] 39 0) fun i57 pj=>
 B1 (st 8 (.ptr i55 0) iG pj) fun AS=>
 B1 (st 6 (.ptr i57 0) v53 AS) fun kL=>
 j48 cp fw (.ptr i45 0) (.ptr i55 0) iy kL) (fun dK jH jB fq eO fV=>
 J 4 (fun zV=>
 J 5 (fun Gr=>
 B1 (fX .not eO) fun jo=>
 G jo false (fun Sd=>
 Sd jH fV) (fun nP pg=>
 G jo false (fun k73=>
 B1 (aA 8 fq pg) fun jO=>
 k73 jO pg) (fun v75 rR=>
 G jo false (fun k77=>
 B2 (cf (.func (.func 16) [] []) [nP,v75] rR) fun rT iJ=>
 k77 rT iJ) (fun v80 tw=>
 G jo false (fun k82=>
 B1 (il v80 (.int .i64 0)) fun pQ=>
 k82 pQ tw) (fun AD qm=>
 B1 (pk jo (.bool true) AD) fun vn=>
 Gr dK jH jB fq vn qm) tw) rR) pg) fV) (fun se nf yJ G3 yc xP=>
 CD yc (
 some ((.bool false),xP)) (
 zV se nf yJ G3 xP))) (fun mX kq kI mG xF=>
 J 6 (fun Q0=>
 B1 (aA 9 kI xF) fun ES=>
 B2 (cf (.func (.func 20) [] []) [kq,ES,(.int .i64 1)] xF) fun Ae AU=>
 B1 (ex 0 Ae) fun rG=>
 B1 (ex 1 Ae) fun wE=>
 B1 (ex 2 Ae) fun xY=>
 BN (aE AU [(.int .i64 0),(.int .i64 0),(.int .i64 0),(.int .i64 0),(.int .i64 0),(.str [])] 39 0) fun i105 uo=>
 B1 (st 8 mG rG uo) fun AI=>
 B1 (st 6 (.ptr i105 0) wE AI) fun Oy=>
 Q0 mX kq kI mG xY (.ptr i105 0) Oy) (fun gP nG oG sD rO qW Ag=>
 J 3 (fun afD=>
 J 4 (fun adM=>
 B1 (fX .not rO) fun rB=>
 G rB false (fun acd=>
 B1 (fa 1 qW) fun zK=>
 acd zK Ag) (fun Fz GG=>
 G rB false (fun k123=>
 B1 (ld Fz GG) fun v124=>
 k123 v124 GG) (fun vO vi=>
 G rB false (fun akI=>
 B1 (il vO (.int .i64 1)) fun NU=>
 akI NU vi) (fun NS ya=>
 B1 (pk rB (.bool true) NS) fun v131=>
 G v131 false (fun k132=>
 k132 nG ya) (fun Gw wj=>
 G v131 false (fun aly=>
 B1 (aA 8 sD wj) fun Oh=>
 aly Oh wj) (fun GU AZ=>
 G v131 false (fun apk=>
 B2 (cf (.func (.func 16) [] []) [Gw,GU] AZ) fun yl Kg=>
 apk yl Kg) (fun Ac zN=>
 G v131 false (fun Qd=>
 B1 (il Ac (.int .i64 0)) fun v145=>
 Qd v145 zN) (fun v146 Qz=>
 B1 (pk v131 (.bool true) v146) fun v148=>
 adM gP nG oG v148 Qz) zN) AZ) wj) ya) vi) GG) Ag) (fun zL zM z7 AG Ys=>
 CD AG (
 some ((.bool false),Ys)) (
 afD zL zM z7 Ys))) (fun FY Pj Oe N5=>
 J 0 (fun ahm=>
 J 0 (fun mW=>
 En J G cf mW FY Pj Oe (.int .i64 0) N5) (fun  L1=>
 ahm  L1)) (fun  ad7=>
 some ((.bool true),ad7))))))))
theorem aeW (J:JT)(G:GT)(cf:CF)(a0 a1:AV)(H:Hp):fK P J G aQ an cf 5 [a0,a1] H=AH J G cf a0 a1 H:=by kernel_rfl
theorem Et {a0 a1:AV}{H:Hp}{r:AV × Hp}(h:AH JN GO cK a0 a1 H=some r):cK (.func (.func 5) [] []) [a0,a1] H=some r:=aS (first:=[]) (cap:=[]) ((aeW JN GO _ a0 a1 H).trans h)
noncomputable def bl_flow_Flow_Clone (J:JT)(G:GT)(cf:CF)(eh:K.Fn 1)(qY:K.Fn 4)(cL db dd cJ:AV)(kL:Hp):R:=
 B1 (cx cJ dd) fun mR=>
 CD mR (
 J 4 (fun RZ=>
 B1 (ia 3 db cJ) fun v63=>
 B1 (aA 3 v63 kL) fun v64=>
 BN (aE kL [(.str []),(.str []),(.int .i64 0)] 82 0) fun i65 fV=>
 B1 (st 3 (.ptr i65 0) v64 fV) fun xm=>
 B1 (aV cL) fun mE=>
 B1 (fa 4 mE) fun jo=>
 B1 (ld jo xm) fun v70=>
 B1 (fa 0 (.ptr i65 0)) fun nP=>
 B1 (aA 2 nP xm) fun v72=>
 B1 (fa 2 (.ptr i65 0)) fun kP=>
 B1 (ld kP xm) fun jO=>
 B2 (cf (.func (.func 33) [] []) [v70,v72,jO] xm) fun v75 rR=>
 RZ cL db dd cJ rR) (fun fc fe pF nq tw=>
 B1 (bS nq (.int .i64 1)) fun mM=>
 qY fc fe pF mM tw)) (
 eh cL kL)
noncomputable def Ej (J:JT)(G:GT)(cf:CF)(eh:K.Fn 1):K.Fn 4:=dZ P an J G cf 14 [1,1,1,1,1,1,0,1,0,0] [3,52,53,54] (fun q t H=>match Nat.beq q 2 with | true=>app 1 eh (ax [3] t) H | false=>(fun _ _ _=>none) q t H)
theorem acX (J:JT)(G:GT)(cf:CF)(eh:K.Fn 1)(qY:K.Fn 4)(cL db dd cJ:AV)(kL:Hp):lB P an J G cf 14 [1,1,1,1,1,1,0,1,0,0] [3,52,53,54] (fun q t H=>match Nat.beq q 2 with | true=>app 1 eh (ax [3] t) H | false=>(fun _ _ _=>none) q t H) qY [cL,db,dd,cJ] kL=bl_flow_Flow_Clone J G cf eh qY cL db dd cJ kL:=by kernel_rfl
theorem Vp (cf:CF)(eh:K.Fn 1)(cL db dd cJ:AV)(kL:Hp):Ej JN GO cf eh cL db dd cJ kL=bl_flow_Flow_Clone JN GO cf eh (Ej JN GO cf eh) cL db dd cJ kL:=aal (b:=app 4 (Ej JN GO cf eh) [cL,db,dd,cJ] kL) (by kernel_rfl) ((eU cf _ _ _ _ [cL,db,dd,cJ] rfl kL).trans (acX JN GO cf eh _ cL db dd cJ kL))
noncomputable def R2 (J:JT)(G:GT)(cf:CF)(a0:AV)(H:Hp):R:=
 B2 (cf (.func (.func 18) [] []) [] H) fun v0 h1=>
 J 2 (fun j2=>
 B1 (aV a0) fun v3=>
 B1 (fa 0 v3) fun v4=>
 B1 (ld v4 h1) fun v5=>
 B1 (aV v0) fun v6=>
 B1 (fa 0 v6) fun v7=>
 B1 (st 1 v7 v5 h1) fun h8=>
 j2 a0 v0 h8) (fun x9 dA gU=>
 J 2 (fun cH=>
 B1 (aV x9) fun dN=>
 B1 (fa 1 dN) fun cI=>
 B1 (ld cI gU) fun gE=>
 B2 (cf (.func (.func 30) [] []) [gE] gU) fun c8 dI=>
 B1 (aV dA) fun dy=>
 B1 (fa 1 dy) fun gW=>
 B1 (st 1 gW c8 dI) fun pn=>
 cH x9 dA pn) (fun aU aN cB=>
 J 2 (fun HZ=>
 B1 (CT 2 aN aU cB) fun dC=>
 HZ aU aN dC) (fun bX bT gH=>
 J 2 (fun jw=>
 B1 (aV bX) fun v30=>
 B1 (fa 3 v30) fun v31=>
 B1 (ld v31 gH) fun v32=>
 B2 (cf (.func (.func 31) [] []) [v32] gH) fun fM rY=>
 B1 (aV bT) fun v35=>
 B1 (fa 3 v35) fun v36=>
 B1 (st 1 v36 fM rY) fun iw=>
 jw bX bT iw) (fun cG cF kB=>
 J 1 (fun Q7=>
 J 4 (fun j42=>
 B1 (aV cG) fun gu=>
 B1 (fa 4 gu) fun v44=>
 B1 (ld v44 kB) fun fB=>
 B2 (cf (.func (.func 32) [] []) [fB] kB) fun v46 ka=>
 B1 (bq v46) fun gB=>
 j42 cF v46 gB (.int .i64 0) ka) (fun fS gK gJ eD ir=>
 J 1 (fun eh=>
 Ej J G cf eh fS gK gJ eD ir) (fun mB yC=>
 Q7 mB yC))) (fun oX xE=>
 some (oX,xE))))))
theorem apl (J:JT)(G:GT)(cf:CF)(a0:AV)(H:Hp):fK P J G aQ an cf 14 [a0] H=R2 J G cf a0 H:=by kernel_rfl
theorem ag5 {a0:AV}{H:Hp}{r:AV × Hp}(h:R2 JN GO cK a0 H=some r):cK (.func (.func 14) [] []) [a0] H=some r:=aS (first:=[]) (cap:=[]) ((apl JN GO _ a0 H).trans h)
noncomputable def OH (J:JT)(G:GT)(cf:CF)(H:Hp):R:=
 B1 (fl [(.int .i64 0),(.int .i64 0),(.int .i64 0),(.int .i64 0),(.int .i64 0),(.str []),(.str []),(.str [])] [(0,1,(.int .i64 1)),(5,1,(.str [100])),(7,1,(.str [97]))]) fun l0=>
 B1 (fl [(.int .i64 0),(.int .i64 0),(.int .i64 0),(.int .i64 0),(.int .i64 0),(.str []),(.str []),(.str [])] [(0,8,(.agg l0))]) fun l1=>
 BN (aE H l1 26 0) fun i2 h3=>
 B2 (cf (.func (.func 13) [] []) [(.slice i2 0 1 1 true 8)] h3) fun v4 h5=>
 J 4 (fun j6=>
 B1 (fl [(.int .i64 0),(.int .i64 0),(.int .i64 0),(.int .i64 0),(.int .i64 0),(.int .i64 0),(.str []),(.str []),(.str [])] [(0,1,(.int .i64 2)),(6,1,(.str [100]))]) fun l7=>
 B2 (cf (.func (.func 20) [] []) [v4,(.agg l7),(.int .i64 4)] h5) fun v8 h9=>
 B1 (ex 0 v8) fun v10=>
 B1 (ex 1 v8) fun v11=>
 B1 (ex 2 v8) fun v12=>
 BN (aE h9 [(.int .i64 0),(.int .i64 0),(.int .i64 0),(.int .i64 0),(.int .i64 0),(.str []),(.str []),(.str [])] 26 0) fun i13 ie=>
 BN (aE ie [(.int .i64 0),(.int .i64 0),(.int .i64 0),(.int .i64 0),(.int .i64 0),(.str [])] 39 0) fun i15 bD=>
 B1 (st 8 (.ptr i13 0) v10 bD) fun dI=>
 B1 (st 6 (.ptr i15 0) v11 dI) fun eY=>
 j6 v4 (.ptr i13 0) (.ptr i15 0) v12 eY) (fun df cY aU aN cB=>
 G aN true (fun k24=>
 B1 (aA 6 aU cB) fun v25=>
 k24 v25 cB) (fun v26 eQ=>
 G aN true (fun k28=>
 B1 (fl [(.int .i64 0),(.int .i64 0),(.int .i64 0),(.int .i64 0),(.int .i64 0),(.str [])] [(1,1,(.int .i64 1))]) fun l29=>
 k28 (.agg l29) eQ) (fun v30 gh=>
 G aN true (fun k32=>
 sJ (gA P .eql 39 false v26 v30) <| B1 (eG P .eql 39 v26 v30 gh) fun fM=>
 k32 fM gh) (fun dJ dS=>
 B1 (pk aN dJ (.bool false)) fun v36=>
 G v36 true (fun Fo=>
 B1 (aA 8 cY dS) fun jK=>
 Fo jK dS) (fun eM kB=>
 G v36 true (fun Hs=>
 B1 (fl [(.int .i64 0),(.int .i64 0),(.int .i64 0),(.int .i64 0),(.int .i64 0),(.str []),(.str []),(.str [])] [(0,1,(.int .i64 2)),(1,1,(.int .i64 1)),(5,1,(.str [100]))]) fun l42=>
 Hs (.agg l42) kB) (fun gu ef=>
 G v36 true (fun RW=>
 sJ (gA P .eql 26 false eM gu) <| B1 (eG P .eql 26 eM gu ef) fun v46=>
 RW v46 ef) (fun je ng=>
 B1 (pk v36 je (.bool false)) fun v49=>
 G v49 true (fun k50=>
 k50 df ng) (fun v51 nO=>
 G v49 true (fun Sl=>
 B2 (cf (.func (.func 29) [] []) [v51] nO) fun iy kj=>
 Sl iy kj) (fun kU jv=>
 G v49 true (fun Gm=>
 B1 (bF kU (.int .i64 0)) fun v59=>
 Gm v59 jv) (fun fW gD=>
 B1 (pk v49 fW (.bool false)) fun gM=>
 some (gM,gD)) jv) nO) ng) ef) kB) dS) gh) eQ) cB)
theorem aez (J:JT)(G:GT)(cf:CF)(H:Hp):fK P J G aQ an cf 17 [] H=OH J G cf  H:=by kernel_rfl
theorem acL {H:Hp}{r:AV × Hp}(h:OH JN GO cK  H=some r):cK (.func (.func 17) [] []) [] H=some r:=aS (first:=[]) (cap:=[]) ((aez JN GO _  H).trans h)
end
noncomputable section
end
namespace Cw
noncomputable section
def cAt:List Nat->Code->Code
 | [],c=>c
 | 0::p,.seq a _=>cAt p a
 | _::p,.seq _ b=>cAt p b
 | _::p,.block _ b=>cAt p b
 | _::p,.loop b=>cAt p b
 | _::_,c=>c
def opsOf:Code->Array Oper
 | .region _ ops _=>ops
 | _ => #[]
def body:Code:=((P.funcs[14]?).bind (·.body)).getD .skip
def cc:Code:=cAt [1,1,1,1,0] body
def o1:Array Oper:=opsOf (cAt [0] cc)
def lb:Code:=cAt [1,0,0] cc
def o2:Array Oper:=opsOf (cAt [0] lb)
def o3:Array Oper:=opsOf (cAt [1,1,0,0] lb)
def o4:Array Oper:=opsOf (cAt [1,1,0,1] lb)
theorem body_eq:body = .seq (cAt [0] body) (.seq (cAt [1,0] body) (.seq (cAt [1,1,0] body) (.seq (cAt [1,1,1,0] body) (.seq cc (cAt [1,1,1,1,1] body))))):=by kernel_rfl
theorem cc_eq:∃ i1 i2 i3 i4,cc = .seq (.region i1 o1 false) (.block 0 (.loop (.seq (.region i2 o2 false) (.seq (.cond (.tmp 30) .skip (.exit 0)) (.block 1 (.seq (.region i3 o3 false) (.region i4 o4 false))))))):=⟨4,5,6,7,by kernel_rfl⟩
theorem s1:o1.size=5:=by kernel_rfl
theorem s2:o2.size=2:=by kernel_rfl
theorem s3:o3.size=5:=by kernel_rfl
theorem s4:o4.size=7:=by kernel_rfl
end
section
variable (f c it p k v x y:AV)
abbrev A0:Tm:=cz 69 [0,3] [f,c]
abbrev A1:Tm:=(A0 f c).put 34 24 f
abbrev A2:Tm:=(A1 f c).put 34 25 f
abbrev A3:Tm:=(A2 f c).put 34 26 p
abbrev A4:Tm:=(A3 f c p).put 34 27 v
abbrev A5:Tm:=(A4 f c p v).put 34 28 it
abbrev tL:Tm:=cz 69 [0,3,28] [f,c,it]
abbrev B1':Tm:=(tL f c it).put 34 29 x
abbrev B2' (b:Bool):Tm:=(B1' f c it x).put 34 30 (.bool b)
abbrev C1:Tm:=(B2' f c it x true).put 34 31 y
abbrev C2:Tm:=(C1 f c it x y).put 34 32 k
abbrev C3:Tm:=(C2 f c it k x y).put 34 33 v
abbrev C4:Tm:=(C3 f c it k v x y).put 34 4 k
abbrev C5:Tm:=(C4 f c it k v x y).put 34 5 v
abbrev D1:Tm:=(C5 f c it k v x y).put 34 34 c
abbrev D2:Tm:=(D1 f c it k v x y).put 34 35 c
abbrev D3:Tm:=(D2 f c it k v x y).put 34 36 p
abbrev D4 (m:AV):Tm:=(D3 f c it p k v x y).put 34 37 m
abbrev D5 (m:AV):Tm:=(D4 f c it p k v x y m).put 34 38 k
abbrev D6 (m:AV):Tm:=(D5 f c it p k v x y m).put 34 39 v
end
def At (H:Hp)(cm fm q:Nat)(l:List ME)(Hx:Hp):Prop:=Hx.next=H.next+1/\∀ i,Hx.h.get i=if i=fm then none else if i=cm then some (.map (jV q l) (q+l.length)) else H.h.get i
theorem hno:sy P ig:=fun g args H v H' h=>by cases h
theorem get_i {ops:Array Oper}{n i:Nat}(h:ops.size=n)(hi:i<n):ops[i]? = some (ops[i]'(by omega)):=afd _
section
variable {F:Nat->Prop}{W:World}{e e':Em}{H H':Hp}{w w':World}{G:Nat}
theorem back {F':Nat->Prop}(hR:RH G F W e H w)(h:RH G F' w e' H' w')(hF:∀ k,F k->F' k):RH G F W e' H' w':=
 h.HV (fun k hk=>⟨(h.frame k (hF k hk)).1,(h.frame k (hF k hk)).2.trans (hR.frame k hk).2⟩) (fun i o hi hw q=>(h.obj i o hi).2.choose_spec.2.2 hw (hF _ q)) (h.os.trans hR.os) (h.tape.trans hR.tape) (h.output.trans hR.output) (af2 hR.size h.size)
theorem fwd {F':Nat->Prop}(hR:RH G F W e H w)(h1:∀ k,F' k->k<w.heap.size)(h2:∀ i o,H.h.get i=some o->wr o=true\/e.n G<=e.b i->¬ F' (e.b i)):RH G F' w e H w:=
 hR.HV (fun k hk=>⟨h1 k hk,rfl⟩) h2 rfl rfl rfl (aaC _)
end
theorem fwd3 {F:Nat->Prop}{W:World}{e:Em}{H:Hp}{w:World}{G r s:Nat}(hR:RH G F W e H w)(hr:r<w.heap.size)(hs:s<w.heap.size)(h:∀ i o,H.h.get i=some o->e.b i≠r/\e.b i≠s):RH G (fun k=>F k\/k=r\/k=s) w e H w:=by
 refine fwd hR (fun k hk => ?_) fun i o hi hw hq => ?_
 ·rcases hk with hk | rfl | rfl
  ·exact (hR.frame k hk).1
  ·exact hr
  ·exact hs
 ·rcases hq with hq | hq | hq
  ·exact (hR.obj i o hi).2.choose_spec.2.2 hw hq
  ·exact (h i o hi).1 hq
  ·exact (h i o hi).2 hq
theorem mem_zip {α β:Type}:∀ {a:List α} {b:List β} {y:β},b.length=a.length->y∈b->∃ x,(x,y)∈a.zip b
 | [],[],y,_,h=>by cases h
 | [],_::_,y,h,_=>by simp at h
 | x::a,[],y,h,_=>by simp at h
 | x::a,z::b,y,h,hy=>by
  rcases aaD.1 hy with rfl | hy
  ·exact⟨x,.head _⟩
  ·obtain⟨u,hu⟩:=mem_zip (a:=a) (b:=b) (by simpa using h) hy
   exact⟨u,.tail _ hu⟩
theorem map_fst_zip {α β:Type}:∀ {a:List α} {b:List β},b.length=a.length->(a.zip b).map (·.1)=a/\(a.zip b).map (·.2)=b
 | [],[],_=>⟨rfl,rfl⟩
 | [],_::_,h=>by simp at h
 | x::a,[],h=>by simp at h
 | x::a,z::b,h=>by
  obtain⟨h1,h2⟩:=map_fst_zip (a:=a) (b:=b) (by simpa using h)
  exact⟨by rw[List.zip_cons_cons,acW,h1],by rw[List.zip_cons_cons,acW,h2]⟩
theorem mapUpd_eq:P.underlying 63=some (.map 9 9):=by kernel_rfl
theorem kt_eq:qF P 9=some .str:=by kernel_rfl
theorem mup_at {H:Hp}{i c:Nat}{es:List ME}{k:List Nat}(h:H.h.get i=some (.map es c))(hk:∀ e∈es,∃ q,e.key = .str q/\q≠k)(v:AV):nF P 63 (.map i) (.str k) v H=some (Am.setObj H i (.map (es++[⟨.str k,v,c⟩]) (c+1))):=by
 refine Pe mapUpd_eq kt_eq ?_
 unfold tT
 simp only[h,IY es 0 hk]
theorem fin {G:Nat}{F:Nat->Prop}{W:World}{e:Em}{H Hx:Hp}{w:World}{cm fm q z c0:Nat}{es L:List ME}{fs:List MapEntry}{nH:Array MapEntry}(hR:RH G F W e Hx w)(hA:At H cm fm q L Hx)(hp:L.Perm es)(aO:cm≠fm)(g1:H.h.get cm=some (.map [] q))(g2:H.h.get fm=some (.map es z))(hf:fm<e.N)(hb:w.heap[e.b fm]? = some (.map nH c0))
  (zH:fs.Perm nH.toList) (hM:gz e es fs) (hn:(fs.map (·.born)).Nodup) (hbr:∀ x∈fs,x.born<c0) (hF:¬ F (e.b fm)) (uc:∀ i o,Hx.h.get i=some o->e.b i≠e.b fm):RH G F W e ⟨H.h.bP cm (.map (jV q es) (q+es.length)),H.next+1⟩ w:=by
 have ey:∀ i o,(H.h.bP cm (.map (jV q es) (q+es.length))).get i=some o->(i=fm/\o = .map es z)\/(i=cm/\i≠fm/\o = .map (jV q es) (q+es.length)/\Hx.h.get i=some (.map (jV q L) (q+L.length)))\/(i≠fm/\i≠cm/\Hx.h.get i=some o):=by
  intro i o hi
  rw[Tr.yf _ _ _ _ (by rw[g1];rfl)] at hi
  have hx:=hA.2 i
  by_cases h1:i=fm
  ·left
   rw[if_neg (by rw[h1];exact fun q=>aO q.symm),h1,g2] at hi
   exact⟨h1,(acN hi).symm⟩
  ·right
   rw[if_neg h1] at hx
   by_cases h2:i=cm
   ·left
    rw[if_pos h2] at hi hx
    exact⟨h2,h1,(acN hi).symm,hx⟩
   ·right
    rw[if_neg h2] at hi hx
    exact⟨h1,h2,hx.trans hi⟩
 have hdom:∀ i o,(H.h.bP cm (.map (jV q es) (q+es.length))).get i=some o->i≠fm->∃ o',Hx.h.get i=some o'/\wr o'=wr o:=by
  intro i o hi hf'
  rcases ey i o hi with⟨h1,_⟩ | ⟨_,_,rfl,h3⟩ | ⟨_,_,h3⟩
  ·exact absurd h1 hf'
  ·exact⟨_,h3,rfl⟩
  ·exact⟨_,h3,rfl⟩
 refine⟨hR.N.trans hA.1,fun i o hi => ?_,fun i j oi oj hi hj hw he => ?_,hR.pK,hR.frame,hR.os,hR.tape,hR.output,hR.size,hR.lC⟩
 ·rcases ey i o hi with⟨rfl,rfl⟩ | ⟨_,_,rfl,h3⟩ | ⟨_,_,h3⟩
  ·exact⟨hf,_,hb,.map _ _ _ _ fs zH hM hn hbr,fun _=>hF⟩
  ·obtain⟨h4,ob,h5,h6,h7⟩:=hR.obj i _ h3
   refine⟨h4,ob,h5,?_,h7⟩
   cases h6 with
   | map _ _ es1 c1 fs1 hp1 hM1 jF uK=>
   obtain⟨fs2,k1,k2⟩:=gz.perm hp ((aaB q).1 hM1)
   exact .map _ _ _ _ fs2 (k1.trans hp1) ((aaB q).2 k2) ((k1.map _).nodup_iff.2 jF) fun x hx=>uK x (k1.mem_iff.1 hx)
  ·exact hR.obj i o h3
 ·by_cases h1:i=fm<;>by_cases h2:j=fm
  ·exact h1.trans h2.symm
  ·obtain⟨o',h3,_⟩:=hdom j oj hj h2
   exact absurd (he.symm.trans (by rw[h1])) (uc j o' h3)
  ·obtain⟨o',h3,_⟩:=hdom i oi hi h1
   exact absurd (he.trans (by rw[h2])) (uc i o' h3)
  ·obtain⟨o',h3,h4⟩:=hdom i oi hi h1
   obtain⟨o'',h5,_⟩:=hdom j oj hj h2
   exact hR.inj i j _ _ h3 h5 (by rw[h4];exact hw) he
theorem copyOne:Ul P 69 cc [0,3] (Q5 2 3 0):=by
 intro t H H2 hp F W e a w Q hR hT hQ
 obtain⟨ci,co,fi,fo,cm,fm,q,es,z,hc,hf,l1,l2,g1,g2,hs,aO,rfl⟩:=amf hp
 have hv:ax [0,3] t=[.ptr fi fo,.ptr ci co]:=by
  show[tg t 0,tg t 3]=_
  rw[hf,hc]
 have hT0:=hT.rZ (lv:=[0,3]) (by decide)
 rw[hv] at hT0
 simp only[hv] at hQ
 obtain⟨i1,i2,i3,i4,ic⟩:=cc_eq
 rw[ic]
 clear ic hv hT hp
 refine wp_seq (wp_region ?_)
 rw[s1,show List.range 5=[0,1,2,3,4] from rfl]
 refine oO hno (get_i s1 (i:=0) (by decide)) (by kernel_rfl) (v := .ptr fi fo) (H':=H) (t':=A1 (.ptr fi fo) (.ptr ci co)) (by kernel_rfl) (by kernel_rfl) hR hT0 fun e1 a1 w1 le1 oL qT gy => ?_
 refine oO hno (get_i s1 (i:=1) (by decide)) (by kernel_rfl) (v := .ptr fi fo) (H':=H) (t':=A2 (.ptr fi fo) (.ptr ci co)) (by kernel_rfl) (by kernel_rfl) oL qT fun e2 a2 w2 le2 gI nc qe => ?_
 refine oO hno (get_i s1 (i:=2) (by decide)) (by kernel_rfl) (v := .ptr fi (fo+2)) (H':=H) (t':=A3 (.ptr fi fo) (.ptr ci co) (.ptr fi (fo+2))) (by kernel_rfl) (by kernel_rfl) gI nc fun e3 a3 w3 le3 pY uI vc => ?_
 have hl:oR P ig (A3 (.ptr fi fo) (.ptr ci co) (.ptr fi (fo+2))) (o1[3]'(by rw[s1];decide)) H=(cellAt H fi (fo+2)).map (fun v=>(v,H)):=by kernel_rfl
 rw[l2] at hl
 refine oO hno (get_i s1 (i:=3) (by decide)) (by kernel_rfl) (v := .map fm) (H':=H) (t':=A4 (.ptr fi fo) (.ptr ci co) (.ptr fi (fo+2)) (.map fm)) hl (by kernel_rfl) pY uI fun e4 a4 w4 le4 kE yh hd4 => ?_
 clear hl
 have le04:=Em.le_trans (Em.le_trans (Em.le_trans le1 le2) le3) le4
 have hd04:=hd4.trans (vc.trans (qe.trans gy))
 clear hR oL gI pY hT0 qT nc uI le1 le2 le3 le4 gy qe vc hd4
 have hm:=VR.ev kE yh.1 (.tmp 27)
 rw[show ev P.globals.size (A4 (.ptr fi fo) (.ptr ci co) (.ptr fi (fo+2)) (.map fm)) (.tmp 27) = .map fm from by kernel_rfl] at hm
 obtain⟨KI,hm27⟩:=hm.CW
 obtain⟨_,ob,hb,dO,hnF⟩:=kE.obj fm _ g2
 have hnF:=hnF (.inl rfl)
 cases dO with
 | map _ _ nH c0 fs zH hM hn hbr=>
 have hold:∀ x∈nH.toList,x.born<c0:=fun x hx=>hbr x (zH.mem_iff.2 hx)
 have gO:(nH.toList.map (·.born)).Nodup:=(zH.map _).nodup_iff.1 hn
 obtain⟨e5,le5,i5,b5,d5,yb⟩:=kE.new (o := .tH (some fm) c0 [] c0) (i:=H.next) (H':=⟨H.h.put 34 H.next (.tH (some fm) c0 [] c0),H.next+1⟩) rfl (ob := .mapIter (some (e4.b fm)) c0 #[] c0) (fun e' hle hd=>by
  rw[<- (hle.2 fm KI).1];exact .tH fm c0 [] c0 (adm KI hle.1) hd)
 refine K8 (get_i s1 (i:=4) (by decide)) (by kernel_rfl) (v' := .pointer (some ⟨w4.heap.size,0,none⟩)) (w':=w4.alloc (.mapIter (some (e4.b fm)) c0 #[] c0)) (amN (ty:=63) (x := .tmp 27) (by kernel_rfl) (by rw[hm27];exact run_range_map w4 _ _ _ _ nH c0 mapUpd_eq hb)) ?_
 have hT5:=((yh.mono le5).put (dst:=some 28) (v := .ptr H.next 0) (t':=A5 (.ptr fi fo) (.ptr ci co) (.ptr H.next 0) (.ptr fi (fo+2)) (.map fm)) (by kernel_rfl) (VR.Qb b5 i5 d5)).rZ (lv:=[0,3,28]) (by decide)
 rw[show ax [0,3,28] (A5 (.ptr fi fo) (.ptr ci co) (.ptr H.next 0) (.ptr fi (fo+2)) (.map fm))=[.ptr fi fo,.ptr ci co,.ptr H.next 0] from by kernel_rfl] at hT5
 have Nw:(o1[4]'(by rw[s1];decide)).dst=some 28:=by kernel_rfl
 rw[Nw]
 have yb:RH P.globals.size F W e5 ⟨H.h.put 34 H.next (.tH (some fm) c0 [] c0),H.next+1⟩ (w4.alloc (.mapIter (some (e4.b fm)) c0 #[] c0)):=yb
 generalize hw5:w4.alloc (.mapIter (some (e4.b fm)) c0 #[] c0)=w5 at *
 have zk:(a4.put (some 28) (.pointer (some ⟨w4.heap.size,0,none⟩))).defers=a.defers:=hd04
 generalize a4.put (some 28) (.pointer (some ⟨w4.heap.size,0,none⟩))=a5 at *
 have hN4:e4.N=H.next:=kE.N
 have fg:∀ i,i<H.next->e5.b i=e4.b i:=fun i hi=>(le5.2 i (by omega)).1
 have hgN:H.h.get H.next=none:=by
  cases hq:H.h.get H.next with
  | none=>rfl
  | some o=>have:=(kE.obj H.next o hq).1;omega
 have aJ:∀ i o,H.h.get i=some o->i<H.next/\e4.b i<w4.heap.size:=fun i o hi=>by
  obtain⟨h1,pf,h2,_⟩:=kE.obj i o hi
  exact⟨by omega,(abZ.1 h2).1⟩
 have hfb:e4.b fm<w4.heap.size:=(aJ fm _ g2).2
 have vW:fm<H.next:=(aJ fm _ g2).1
 have hAt:At H cm fm q [] ⟨((H.h.put 34 H.next (.tH (some fm) c0 [] c0)).del H.next).del fm,H.next+1⟩:=by
  refine⟨rfl,fun i => ?_⟩
  show (((H.h.put 34 H.next (.tH (some fm) c0 [] c0)).del H.next).del fm).get i=_
  rw[Tr.F3,Tr.F3,Tr.put,Tr.fj]
  by_cases h1:i=fm
  ·rw[if_pos h1,if_pos h1]
  rw[if_neg h1,if_neg h1]
  by_cases h2:i=H.next
  ·rw[if_pos h2]
   have h3:i≠cm:=fun q=>by have:=(aJ cm _ g1).1;omega
   rw[if_neg h3,h2,hgN]
  rw[if_neg h2,if_neg h2]
  by_cases h3:i=cm
  ·rw[if_pos h3,h3,g1];rfl
  ·rw[if_neg h3]
 have hR5x:=(yb.del H.next).del fm
 have hit5:w5.heap[e5.b H.next]? = some (.mapIter (some (e5.b fm)) c0 #[] c0):=by
  rw[b5,fg fm vW,<-hw5];exact heap_alloc_new _ _
 have hmp5:w5.heap[e5.b fm]? = some (.map nH c0):=by
  rw[fg fm vW,<-hw5,heap_alloc_old _ _ hfb];exact hb
 have hsep5:∀ i o,((((H.h.put 34 H.next (.tH (some fm) c0 [] c0)).del H.next).del fm).get i=some o)->e5.b i≠e5.b H.next/\e5.b i≠e5.b fm:=by
  intro i o hi
  rw[hAt.2 i] at hi
  have iR:i≠fm/\∃ o',H.h.get i=some o':=by
   split at hi
   ·cases hi
   ·rename_i h1
    refine⟨h1,?_⟩
    split at hi
    ·rename_i h2;exact⟨_,h2▸g1⟩
    ·exact⟨o,hi⟩
  obtain⟨h1,o',h2⟩:=iR
  obtain⟨h3,h4⟩:=aJ i o' h2
  rw[b5,fg i h3,fg fm vW]
  refine⟨by omega,fun q=>h1 ((kE.inj fm i _ o' g2 h2 (.inl rfl) q.symm).symm)⟩
 have hFit:¬ F (e5.b H.next):=fun q=>by rw[b5] at q;have:=(kE.frame _ q).1;omega
 have hFfm:¬ F (e5.b fm):=by rw[fg fm vW];exact hnF
 have zb:e5.b fm≠e5.b H.next:=by rw[b5,fg fm vW];omega
 have Hl:=map_fst_zip (a:=es) (b:=fs) hM.1
 have hVR5:∀ x∈es.zip fs,VR e5 x.1.key x.2.key/\VR e5 x.1.val x.2.val:=by
  intro x hx
  obtain⟨i,hi⟩:=List.mem_iff_getElem?.1 hx
  rw[List.getElem?_zip_eq_some] at hi
  obtain⟨h1,h2⟩:=hM.2 i x.1 x.2 hi.1 hi.2
  exact⟨h1.mono le5,h2.mono le5⟩
 have lq:cellAt H ci (co+2)=some (.map cm):=l1
 have hci:ci≠cm/\ci≠fm:=by
  unfold cellAt at lq
  refine⟨fun q => ?_,fun q => ?_⟩
  ·rw[q,g1] at lq;cases lq
  ·rw[q,g2] at lq;cases lq
 obtain⟨hpw,hks⟩:=YD hs
 show (Code.block 0 _).wp P Q a5 w5
 refine wp_block (PB ?_)
 clear kE yh hm hm27 hb hnF yb hw5 hd04 fg hN4
 have le0:=Em.le_trans le04 le5
 clear le04 le5 b5 hfb aJ
 have key:∀ (n:Nat) (rest done:List (ME × MapEntry)) (seen:Array Nat) (e5:Em) (a5:Act) (w5:World) (Hx:Hp),rest.length=n->(es.zip fs).Perm (done++rest)->seen.toList=done.map (·.2.born)->At H cm fm q (done.map (·.1)) Hx->RH P.globals.size F W e5 Hx w5->lJ e5 69 (tL (.ptr fi fo) (.ptr ci co) (.ptr H.next 0)) a5->a5.defers=a.defers->e.le e5->
   w5.heap[e5.b H.next]? = some (.mapIter (some (e5.b fm)) c0 seen c0)->w5.heap[e5.b fm]? = some (.map nH c0)->(∀ i o,Hx.h.get i=some o->e5.b i≠e5.b H.next/\e5.b i≠e5.b fm)->¬ F (e5.b H.next)->¬ F (e5.b fm)->e5.b fm≠e5.b H.next->(∀ x∈es.zip fs,VR e5 x.1.key x.2.key/\VR e5 x.1.val x.2.val)->e5.d H.next=0->H.next<e5.N->fm<e5.N->
   xv P (.seq (.region i2 o2 false) (.seq (.cond (.tmp 30) .skip (.exit 0)) (.block 1 (.seq (.region i3 o3 false) (.region i4 o4 false))))) (Exit.inBlock 0 Q) a5 w5:=by
  intro n
  induction n using Nat.strongRecOn with
  | ind n ih=>
  intro rest done seen e5 a5 w5 Hx hlen lz hseen hAt hR hT hd le hit hmp uc hFit hFfm zb hVR Ak yD hfN
  have fT:e5.b H.next<w5.heap.size:=(abZ.1 hit).1
  have lu:e5.b fm<w5.heap.size:=(abZ.1 hmp).1
  have lA:((done++rest).map (·.2.born)).Nodup:=by
   have:((es.zip fs).map (·.2.born)).Nodup:=by
    rw[show (fun x:ME × MapEntry=>x.2.born)=(fun y:MapEntry=>y.born) ∘ (fun x:ME × MapEntry=>x.2) from rfl,<-ajf,Hl.2];exact hn
   exact (lz.map _).nodup_iff.1 this
  refine PJ (wp_seq (wp_region ?_))
  rw[s2,show List.range 2=[0,1] from rfl]
  have hv28:=VR.ev hR hT.1 (.tmp 28)
  rw[show ev P.globals.size (tL (.ptr fi fo) (.ptr ci co) (.ptr H.next 0)) (.tmp 28) = .ptr H.next 0 from by kernel_rfl] at hv28
  obtain⟨o,_,ho,hv28⟩:=hv28.pL
  have Ah:o=0:=by rw[Ak] at ho;omega
  subst Ah
  have hop0:(o2[0]'(by rw[s2];decide)).op = .next (.tmp 28) false:=by kernel_rfl
  have hdst0:(o2[0]'(by rw[s2];decide)).dst=some 29:=by kernel_rfl
  rcases ak0 (P:=P) w5 (o2[0]'(by rw[s2];decide)).type (e5.b H.next) (e5.b fm) c0 seen nH hit hmp hold with⟨h0,iW⟩ | ⟨x,hx,nn,iW⟩
  ·refine K8 (get_i s2 (i:=0) (by decide)) (by kernel_rfl) (aaG hop0 (by rw[hv28];exact iW)) ?_
   rw[hdst0]
   have hRf:=fwd3 hR fT lu uc
   have qT:=hT.put (dst:=some 29) (v := .tuple [.bool false]) (t':=B1' (.ptr fi fo) (.ptr ci co) (.ptr H.next 0) (.tuple [.bool false])) (by kernel_rfl) (VR.tuple' (aP.cons (.bool false) (aP.nil e5)))
   refine oO hno (get_i s2 (i:=1) (by decide)) (by kernel_rfl) (v := .bool false) (H':=Hx) (t':=B2' (.ptr fi fo) (.ptr ci co) (.ptr H.next 0) (.tuple [.bool false]) false) (by kernel_rfl) (by kernel_rfl) hRf qT fun e6 a6 w6 le6 hR6 z6 DE => ?_
   show (Code.seq _ _).wp P _ a6 w6
   have hb30:=VR.ev hR6 z6.1 (.tmp 30)
   rw[show ev P.globals.size (B2' (.ptr fi fo) (.ptr ci co) (.ptr H.next 0) (.tuple [.bool false]) false) (.tmp 30) = .bool false from by kernel_rfl] at hb30
   refine wp_seq (wp_cond_false hb30.sw (wp_exit ?_))
   show (if 0=0 then Q .normal a6 w6 else Q (.exit 0) a6 w6)
   rw[if_pos rfl]
   have hrest:rest=[]:=by
    cases hr:rest with
    | nil=>rfl
    | cons y r=>
     exfalso
     have hy:y∈es.zip fs:=lz.mem_iff.2 (by rw[hr];simp)
     have hy1:y.2∈nH.toList:=zH.mem_iff.1 (List.of_mem_zip hy).2
     have hy2:y.2.born∉seen.toList:=by
      rw[hseen]
      rw[adI,aeY] at lA
      exact fun q=>lA.2.2 _ q _ (by rw[hr];simp) rfl
     have hy3:y.2∈(leftOf nH seen).toList:=by
      unfold leftOf
      rw[Array.toList_filter,List.mem_filter]
      refine⟨hy1,?_⟩
      rw[aix]
      cases hc:seen.contains y.2.born with
      | false=>rfl
      | true=>exact absurd (by simpa using hc) hy2
     have:(leftOf nH seen).toList.length=0:=by simpa using h0
     rw[List.length_eq_zero_iff] at this
     rw[this] at hy3;cases hy3
   subst hrest
   rw[ag8] at lz
   have hbf:e6.b fm=e5.b fm:=(le6.2 fm hfN).1
   have hRx:=back hR hR6 fun k hk => .inl hk
   have hT7:=z6.rZ (lv:=[0,3]) (by decide)
   rw[show ax [0,3] (B2' (.ptr fi fo) (.ptr ci co) (.ptr H.next 0) (.tuple [.bool false]) false)=[.ptr fi fo,.ptr ci co] from by kernel_rfl] at hT7
   refine hQ e6 a6 w6 (Em.le_trans le le6) (fin hRx hAt ?_ aO g1 g2 (adm hfN le6.1) ?_ zH ⟨hM.1,fun i m m' h1 h2 => ?_⟩ hn hbr (by rw[hbf];exact hFfm) fun i o hi => ?_) hT7 (DE.trans hd)
   ·have:=(lz.map (·.1)).symm
    rw[Hl.1] at this
    exact this
   ·rw[hbf,(hR6.frame _ (.inr (.inr rfl))).2];exact hmp
   ·have hz:=hVR (m,m') (List.mem_iff_getElem?.2 ⟨i,by rw[List.getElem?_zip_eq_some];exact⟨h1,h2⟩⟩)
    exact⟨hz.1.mono le6,hz.2.mono le6⟩
   ·rw[(le6.2 i (hR.obj i o hi).1).1,hbf]
    exact (uc i o hi).2
  ·have eg:=mem_left hx
   have kH:x∈nH.toList:=eg.1
   have og:x.born∉seen.toList:=by
    have:=eg.2
    intro q
    simp at this q
    exact this q
   obtain⟨m,hmx⟩:=mem_zip hM.1 (zH.mem_iff.2 kH)
   have hmr:(m,x)∈rest:=by
    rcases abL.1 (lz.mem_iff.1 hmx) with h | h
    ·exact absurd (by rw[hseen];exact acS.2 ⟨_,h,rfl⟩) og
    ·exact h
   obtain⟨r1,r2,hr⟩:=List.append_of_mem hmr
   obtain⟨k,hk⟩:=hks m (List.of_mem_zip hmx).1
   obtain⟨vk,vv⟩:=hVR _ hmx
   simp only at vk vv
   refine K8 (get_i s2 (i:=0) (by decide)) (by kernel_rfl) (aaG hop0 (by rw[hv28];exact iW)) ?_
   rw[hdst0]
   have oL:=hR.aeU (.mapIter (some (e5.b fm)) c0 (seen.push x.born) c0) hFit (fun i o hi=>(uc i o hi).1) nn
   generalize wM:({ w5 with drawn:=nn,heap:=w5.heap.setIfInBounds (e5.b H.next) (.mapIter (some (e5.b fm)) c0 (seen.push x.born) c0) }:World)=w1 at *
   have hit1:w1.heap[e5.b H.next]? = some (.mapIter (some (e5.b fm)) c0 (seen.push x.born) c0):=by rw[<-wM];exact afY fT
   have hmp1:w1.heap[e5.b fm]? = some (.map nH c0):=by rw[<-wM];show (w5.heap.setIfInBounds _ _)[_]? = _;rw[aex zb.symm];exact hmp
   have hbl1:e5.b H.next<w1.heap.size:=(abZ.1 hit1).1
   have JF:e5.b fm<w1.heap.size:=(abZ.1 hmp1).1
   have hRf:=fwd3 oL hbl1 JF uc
   have qT:=hT.put (dst:=some 29) (v := .tuple [.bool true,m.key,m.val]) (t':=B1' (.ptr fi fo) (.ptr ci co) (.ptr H.next 0) (.tuple [.bool true,m.key,m.val])) (by kernel_rfl) (VR.tuple' (aP.cons (.bool true) (aP.cons vk (aP.cons vv (aP.nil e5)))))
   refine oO hno (get_i s2 (i:=1) (by decide)) (by kernel_rfl) (v := .bool true) (H':=Hx) (t':=B2' (.ptr fi fo) (.ptr ci co) (.ptr H.next 0) (.tuple [.bool true,m.key,m.val]) true) (by kernel_rfl) (by kernel_rfl) hRf qT fun e2 a2 w2 le2 gI nc qe => ?_
   show (Code.seq _ _).wp P _ a2 w2
   have hb30:=VR.ev gI nc.1 (.tmp 30)
   rw[show ev P.globals.size (B2' (.ptr fi fo) (.ptr ci co) (.ptr H.next 0) (.tuple [.bool true,m.key,m.val]) true) (.tmp 30) = .bool true from by kernel_rfl] at hb30
   refine wp_seq (wp_cond_true hb30.sw (wp_skip ?_))
   show (Code.block 1 _).wp P _ a2 w2
   refine wp_block (wp_seq (wp_region ?_))
   rw[s3,show List.range 5=[0,1,2,3,4] from rfl]
   have hv28':=VR.ev gI nc.1 (.tmp 28)
   rw[show ev P.globals.size (B2' (.ptr fi fo) (.ptr ci co) (.ptr H.next 0) (.tuple [.bool true,m.key,m.val]) true) (.tmp 28) = .ptr H.next 0 from by kernel_rfl] at hv28'
   obtain⟨o',_,fJ,hv28'⟩:=hv28'.pL
   have hbi2:=le2.2 H.next yD
   have hbf2:=le2.2 fm hfN
   have Ah:o'=0:=by rw[hbi2.2.1,Ak] at fJ;omega
   subst Ah
   have He:(o3[0]'(by rw[s3];decide)).op = .entry (.tmp 28):=by kernel_rfl
   have hdst3:(o3[0]'(by rw[s3];decide)).dst=some 31:=by kernel_rfl
   have hit2:w2.heap[e5.b H.next]? = some (.mapIter (some (e5.b fm)) c0 (seen.push x.born) c0):=(gI.frame _ (.inr (.inl rfl))).2.trans hit1
   have hmp2:w2.heap[e5.b fm]? = some (.map nH c0):=(gI.frame _ (.inr (.inr rfl))).2.trans hmp1
   refine K8 (get_i s3 (i:=0) (by decide)) (by kernel_rfl) (anr He (by rw[hv28',hbi2.1];exact alZ w2 _ _ c0 seen nH x hit2 hmp2 kH gO)) ?_
   rw[hdst3]
   have uI:=nc.put (dst:=some 31) (v := .tuple [m.key,m.val]) (t':=C1 (.ptr fi fo) (.ptr ci co) (.ptr H.next 0) (.tuple [.bool true,m.key,m.val]) (.tuple [m.key,m.val])) (by kernel_rfl) (VR.tuple' (aP.cons (vk.mono le2) (aP.cons (vv.mono le2) (aP.nil e2))))
   have vc:(a2.put (some 31) (.tuple #[x.key,x.val])).defers=a.defers:=qe.trans hd
   generalize hX:AV.tuple [.bool true,m.key,m.val]=X at *
   refine oO hno (get_i s3 (i:=1) (by decide)) (by kernel_rfl) (v:=m.key) (H':=Hx) (t':=C2 (.ptr fi fo) (.ptr ci co) (.ptr H.next 0) m.key X (.tuple [m.key,m.val])) (by kernel_rfl) (by kernel_rfl) gI uI fun e3 a3 w3 le3 pY yh hd4 => ?_
   refine oO hno (get_i s3 (i:=2) (by decide)) (by kernel_rfl) (v:=m.val) (H':=Hx) (t':=C3 (.ptr fi fo) (.ptr ci co) (.ptr H.next 0) m.key m.val X (.tuple [m.key,m.val])) (by kernel_rfl) (by kernel_rfl) pY yh fun e4 a4 w4 le4 kE hT5 zk => ?_
   refine oO hno (get_i s3 (i:=3) (by decide)) (by kernel_rfl) (v:=m.key) (H':=Hx) (t':=C4 (.ptr fi fo) (.ptr ci co) (.ptr H.next 0) m.key m.val X (.tuple [m.key,m.val])) (by kernel_rfl) (by kernel_rfl) kE hT5 fun e6 a6 w6 le6 hR6 z6 DE => ?_
   refine oO hno (get_i s3 (i:=4) (by decide)) (by kernel_rfl) (v:=m.val) (H':=Hx) (t':=C5 (.ptr fi fo) (.ptr ci co) (.ptr H.next 0) m.key m.val X (.tuple [m.key,m.val])) (by kernel_rfl) (by kernel_rfl) hR6 z6 fun e7 a7 w7 le7 hR7 hT7 hd7 => ?_
   have le27:=Em.le_trans le2 (Em.le_trans le3 (Em.le_trans le4 (Em.le_trans le6 le7)))
   have hd37:=hd7.trans (DE.trans (zk.trans (hd4.trans vc)))
   clear gI pY kE hR6 qT nc uI yh hT5 z6 le3 le4 le6 le7 qe vc hd4 zk DE hd7 hb30 hv28'
   show (Code.region i4 o4 false).wp P _ a7 w7
   refine wp_region ?_
   rw[s4,show List.range 7=[0,1,2,3,4,5,6] from rfl]
   generalize AV.tuple [m.key,m.val]=Y at *
   refine oO hno (get_i s4 (i:=0) (by decide)) (by kernel_rfl) (v := .ptr ci co) (H':=Hx) (t':=D1 (.ptr fi fo) (.ptr ci co) (.ptr H.next 0) m.key m.val X Y) (by kernel_rfl) (by kernel_rfl) hR7 hT7 fun e8 a8 w8 le8 hR8 hT8 hd8 => ?_
   refine oO hno (get_i s4 (i:=1) (by decide)) (by kernel_rfl) (v := .ptr ci co) (H':=Hx) (t':=D2 (.ptr fi fo) (.ptr ci co) (.ptr H.next 0) m.key m.val X Y) (by kernel_rfl) (by kernel_rfl) hR8 hT8 fun e9 a9 w9 le9 hR9 hT9 hd9 => ?_
   refine oO hno (get_i s4 (i:=2) (by decide)) (by kernel_rfl) (v := .ptr ci (co+2)) (H':=Hx) (t':=D3 (.ptr fi fo) (.ptr ci co) (.ptr H.next 0) (.ptr ci (co+2)) m.key m.val X Y) (by kernel_rfl) (by kernel_rfl) hR9 hT9 fun ea aa wa lea hRa hTa hda => ?_
   have hl:oR P ig (D3 (.ptr fi fo) (.ptr ci co) (.ptr H.next 0) (.ptr ci (co+2)) m.key m.val X Y) (o4[3]'(by rw[s4];decide)) Hx=(cellAt Hx ci (co+2)).map (fun v=>(v,Hx)):=by kernel_rfl
   have Bw:cellAt Hx ci (co+2)=some (.map cm):=by
    have hg:=hAt.2 ci
    rw[if_neg hci.2,if_neg hci.1] at hg
    unfold cellAt at lq ⊢
    rw[hg];exact lq
   rw[Bw] at hl
   refine oO hno (get_i s4 (i:=3) (by decide)) (by kernel_rfl) (v := .map cm) (H':=Hx) (t':=D4 (.ptr fi fo) (.ptr ci co) (.ptr H.next 0) (.ptr ci (co+2)) m.key m.val X Y (.map cm)) hl (by kernel_rfl) hRa hTa fun eb ab wb leb hRb hTb hdb => ?_
   refine oO hno (get_i s4 (i:=4) (by decide)) (by kernel_rfl) (v:=m.key) (H':=Hx) (t':=D5 (.ptr fi fo) (.ptr ci co) (.ptr H.next 0) (.ptr ci (co+2)) m.key m.val X Y (.map cm)) (by kernel_rfl) (by kernel_rfl) hRb hTb fun ec ac wc lec hRc hTc hdc => ?_
   refine oO hno (get_i s4 (i:=5) (by decide)) (by kernel_rfl) (v:=m.val) (H':=Hx) (t':=D6 (.ptr fi fo) (.ptr ci co) (.ptr H.next 0) (.ptr ci (co+2)) m.key m.val X Y (.map cm)) (by kernel_rfl) (by kernel_rfl) hRc hTc fun ed ad wd led hRd hTd Lg => ?_
   have B6:Hx.h.get cm=some (.map (jV q (done.map (·.1))) (q+(done.map (·.1)).length)):=by
    have hg:=hAt.2 cm
    rw[if_neg aO,if_pos rfl] at hg
    exact hg
   have wY:(done++rest).Pairwise (fun a b=>Co a.1 b.1):=by
    refine (lz.pairwise_iff (fun {a b} h=>h.symm)).1 ?_
    have:((es.zip fs).map (·.1)).Pairwise Co:=by rw[Hl.1];exact hpw
    rw[List.pairwise_map] at this
    exact this
   have hmu:=mup_at (k:=k) B6 (fun y hy=>by
    obtain⟨u,hu,qV⟩:=aaE _ _ _ hy
    obtain⟨d,gy,rfl⟩:=acS.1 hu
    rw[List.pairwise_append] at wY
    obtain⟨k1,k2,h1,h2,h3⟩:=wY.2.2 d gy (m,x) hmr
    rw[qV]
    refine⟨k1,h1,fun q=>h3 ?_⟩
    rw[q]
    have:=h2.symm.trans hk
    exact AV.str.inj this) m.val
   have hl6:oR P ig (D6 (.ptr fi fo) (.ptr ci co) (.ptr H.next 0) (.ptr ci (co+2)) m.key m.val X Y (.map cm)) (o4[6]'(by rw[s4];decide)) Hx=(nF P 63 (.map cm) m.key m.val Hx).map (fun H=>(bJ,H)):=by kernel_rfl
   rw[hk,hmu] at hl6
   rw[<-hk] at hl6
   refine oO hno (get_i s4 (i:=6) (by decide)) (by kernel_rfl) (v:=bJ) (H':=Am.setObj Hx cm (.map (jV q (done.map (·.1))++[⟨.str k,m.val,q+(done.map (·.1)).length⟩]) (q+(done.map (·.1)).length+1))) (t':=D6 (.ptr fi fo) (.ptr ci co) (.ptr H.next 0) (.ptr ci (co+2)) m.key m.val X Y (.map cm)) (by rw[<-hk];exact hl6) (by kernel_rfl) hRd hTd fun ee ae we lee hRe hTe hde => ?_
   show xv P _ _ ae we
   have leT:=Em.le_trans le27 (Em.le_trans le8 (Em.le_trans le9 (Em.le_trans lea (Em.le_trans leb (Em.le_trans lec (Em.le_trans led lee))))))
   have hdT:=hde.trans (Lg.trans (hdc.trans (hdb.trans (hda.trans (hd9.trans (hd8.trans hd37))))))
   have hTk:=hTe.rZ (lv:=[0,3,28]) (by decide)
   rw[show ax [0,3,28] (D6 (.ptr fi fo) (.ptr ci co) (.ptr H.next 0) (.ptr ci (co+2)) m.key m.val X Y (.map cm))=[.ptr fi fo,.ptr ci co,.ptr H.next 0] from by kernel_rfl] at hTk
   have zX:=leT.2 H.next yD
   have hbf:=leT.2 fm hfN
   have hRn:=back oL hRe fun k hk => .inl hk
   have hfr1:=(hRe.frame _ (.inr (.inl rfl))).2
   have hfr2:=(hRe.frame _ (.inr (.inr rfl))).2
   have hAt':At H cm fm q ((done++[(m,x)]).map (·.1)) (Am.setObj Hx cm (.map (jV q (done.map (·.1))++[⟨.str k,m.val,q+(done.map (·.1)).length⟩]) (q+(done.map (·.1)).length+1))):=by
    refine⟨hAt.1,fun i => ?_⟩
    show (Hx.h.bP cm _).get i=_
    rw[Tr.yf _ _ _ _ (by rw[B6];rfl),hAt.2 i]
    by_cases h1:i=cm
    ·rw[if_pos h1,if_neg (by rw[h1];exact aO),if_pos h1,adI,acW,List.map_nil,YF,aaX,hk];rfl
    ·simp only[if_neg h1]
   refine ih (r1++r2).length (by rw[<-hlen,hr];simp) (r1++r2) (done++[(m,x)]) (seen.push x.born) ee ae we _ rfl ?_ ?_ hAt' hRn hTk hdT (Em.le_trans le leT) ?_ ?_ (fun i o hi => ?_) ?_ ?_ ?_ (fun y hy => ?_) ?_ (adm yD leT.1) (adm hfN leT.1)
   ·refine lz.trans ?_
    rw[hr,aeR]
    refine (List.perm_append_left_iff done).2 ?_
    exact ajj
   ·rw[Array.toList_push,hseen,adI];rfl
   ·rw[zX.1,hbf.1,hfr1];exact hit1
   ·rw[hbf.1,hfr2];exact hmp1
   ·have hdm:∃ o',Hx.h.get i=some o':=by
     have h1:(Hx.h.bP cm _).get i=some o:=hi
     rw[Tr.yf _ _ _ _ (by rw[B6];rfl)] at h1
     split at h1
     ·rename_i h2;exact⟨_,h2▸B6⟩
     ·exact⟨o,h1⟩
    obtain⟨o',fJ⟩:=hdm
    rw[(leT.2 i (oL.obj i o' fJ).1).1,zX.1,hbf.1]
    exact uc i o' fJ
   ·rw[zX.1];exact hFit
   ·rw[hbf.1];exact hFfm
   ·rw[zX.1,hbf.1];exact zb
   ·exact⟨(hVR y hy).1.mono leT,(hVR y hy).2.mono leT⟩
   ·rw[zX.2.1];exact Ak
 exact key _ (es.zip fs) [] #[] e5 a5 w5 _ rfl (List.Perm.refl _) rfl hAt hR5x hT5 zk le0 hit5 hmp5 hsep5 hFit hFfm zb hVR5 d5 i5 (Nat.lt_trans vW i5)
end Cw
end Go.Proofs.YtodfajmihkagnaaGreatDoor.DfK
