/- Laws that the proof uses. -/
import Derived.Test.YtehhgkgeldinkaaGreatDoorAm1
set_option maxHeartbeats 2000000
set_option linter.unusedVariables false
set_option linter.unusedSimpArgs false
namespace Go.Proofs.YtehhgkgeldinkaaGreatDoor.Am
section
section
section
section
def eQ (P:Program)(G:Nat)(F:Nat->Prop)(W:World)(e:Em)(v:AV)(H':Hp)(r:Result Next):Prop:=
 ∃ n w' e' v',r = .ok n w'/\(n = .value v'\/(n = .skip/\v'=undef))/\e.le e'/\RH G F W e' H' w'/\VR e' v v'
section
variable {P:Program}{G:Nat}{F:Nat->Prop}{W:World}{e:Em}{H:Hp}{w:World}
theorem eQ.pure {s:Sem Value}{v:AV}{v':Value}(h:RH G F W e H w)(hs:s.run P w = .ok v' w)(hv:VR e v v') :
  eQ P G F W e v H ((do Pure.pure (Next.value (<-s)):Sem Next).run P w):=
 ⟨.value v',w,e,v',by simp[hs],.inl rfl,e.le_refl,h,hv⟩
theorem eQ.val {s:Sem Value}{v:AV}{v':Value}{e':Em}{H':Hp}{w':World}(hs:s.run P w = .ok v' w')(he:e.le e')(h:RH G F W e' H' w')(hv:VR e' v v') :
  eQ P G F W e v H' ((do Pure.pure (Next.value (<-s)):Sem Next).run P w):=
 ⟨.value v',w',e',v',by simp[hs],.inl rfl,he,h,hv⟩
theorem VR.undef:VR e cP undef := .tuple [] #[] rfl (by simp)
theorem eQ.unit {s:Sem Unit}{e':Em}{H':Hp}{w':World}(hs:s.run P w = .ok () w')(he:e.le e')(h:RH G F W e' H' w') :
  eQ P G F W e cP H' ((do s;Pure.pure Next.skip:Sem Next).run P w):=
 ⟨.skip,w',e',_,by simp[hs],.inr ⟨rfl,rfl⟩,he,h,.undef⟩
theorem VR.oK {v:Value}{a:AV}(h:oK v=some a):VR e a v:=by
 unfold Am.oK at h
 split at h<;>simp only[acS,reduceCtorEq] at h<;>subst h<;>constructor
theorem az.oK:∀ {vs:List Value} {l:List AV},vs.mapM Am.oK=some l->az e l vs
 | [],l,h=>by simp at h;subst h;exact .nil e
 | v::vs,l,h=>by
  simp only[List.mapM_cons,acT,Option.pure_def,aa6,acS] at h
  obtain⟨a,ha,r,hr,rfl⟩:=h
  exact .cons (.oK ha) (az.oK hr)
theorem VR.kf {v:Value}{a:AV}(h:kf v=some a):VR e a v:=by
 unfold Am.kf at h
 split at h
 ·simp only[yB] at h
  obtain⟨l,hl,rfl⟩:=h
  have:=az.oK (e:=e) hl
  exact .agg _ _ this.1 this.2
 ·simp only[yB] at h
  obtain⟨l,hl,rfl⟩:=h
  have:=az.oK (e:=e) hl
  exact .tuple _ _ this.1 this.2
 ·simp only[yB] at h
  obtain⟨l,hl,rfl⟩:=h
  exact .iface _ _ _ (.oK hl)
 ·exact .oK h
theorem xI {t:TypeId}{l:List AV}(h:zc P t=some l):∃ i z,P.info? t=some i/\i.zero=some z/\az e l z.cells.toList:=by
 simp only[zc,acT,aa6] at h
 obtain⟨i,hi,z,hz,hl⟩:=h
 exact⟨i,z,hi,hz,.oK hl⟩
theorem qT {t:TypeId}{i:TypeInfo}{z:Value}(hi:P.info? t=some i)(hz:i.zero=some z)(w:World):(zeroValue t).run P w = .ok z w:=by
 simp[zeroValue,pT hi,hz]
theorem acN (h:RH G F W e H w){t:TypeId}{l:List AV}{i:Nat}{H':Hp}(hz:zc P t=some l)(hn:cI H l t 0=some (i,H')) :
  ∃ v' w' e',(Instr.alloc t true (.tuple #[])).run P w = .ok v' w'/\e.le e'/\RH G F W e' H' w'/\VR e' (.ptr i 0) v':=by
 obtain⟨inf,z,hi,fQ,hl⟩:=xI (e:=e) hz
 obtain⟨e',he,h1,h2,h3,h4,hr⟩:=h.newRow (rest:=[]) (fz:=(0,0)) hn hl (fun _=>rfl) (by simp)
 refine⟨.pointer (some ⟨w.heap.size,0,none⟩),_,e',?_,he,hr,?_⟩
 ·simp[Instr.alloc,qT hi fQ,newVar,Go.newRow]
 ·rw[<-h2];exact .ptr i 0 0 h1 (by rw[h3];simp)
theorem aeJ (h:RH G F W e H w){t:TypeId}{v:AV}{v':Value}{l:List AV}{i:Nat}{H':Hp}(hv:VR e v v')(hz:jX v=some l)(hn:cI H l t 0=some (i,H')) :
  ∃ u w' e',(Instr.box t v').run P w = .ok u w'/\e.le e'/\RH G F W e' H' w'/\VR e' (.ptr i 0) u:=by
 have hl:=hv.cells hz
 obtain⟨e',he,h1,h2,h3,h4,hr⟩:=h.newRow (rest:=[]) (fz:=(0,0)) hn hl (fun _=>rfl) (by simp)
 refine⟨.pointer (some ⟨w.heap.size,0,none⟩),_,e',?_,he,hr,?_⟩
 ·simp[Instr.box,newVar,Go.newRow]
 ·rw[<-h2];exact .ptr i 0 0 h1 (by rw[h3];simp)
theorem yZ {t:TypeId}{cs:List AV}{vs:Array Value}{off:Nat}{v:AV}(hl:az e cs vs.toList)(hp:nu P t cs off=some v)(w:World) :
  ∃ v',(part t vs off).run P w = .ok v' w/\VR e v v':=by
 simp only[nu,acT,aa6] at hp
 obtain⟨b,hb,hp⟩:=hp
 cases b with
 | true=>
  simp only[if_true,aa6] at hp
  obtain⟨n,hn,hp⟩:=hp
  cases hc:Nat.ble (off+n) cs.length with
  | false=>rw[hc] at hp;cases hp
  | true=>
   rw[hc] at hp
   simp only[cond_true,acS] at hp
   subst hp
   refine⟨.agg (vs.extract off (off+n)),by simp[part,KR hb,gT hn],?_⟩
   have:=(hl.drop off).take n
   have e2:(vs.extract off (off+n)).toList=(vs.toList.drop off).take n:=by simp[Array.toList_extract,List.extract]
   exact .agg _ _ (by rw[e2];exact this.1) (by rw[e2];exact this.2)
 | false=>
  simp only[abZ,if_false] at hp
  obtain⟨v',cQ,hr⟩:=hl.get hp
  rw[adm] at cQ
  exact⟨v',by simp[part,KR hb,cQ],hr⟩
theorem ait {t:TypeId}{x v:AV}{x':Value}{f:Nat}{fs:Array Field}{fd:Field}(hx:VR e x x')(hu:P.underlying t=some (.struct fs))(hf:fs[f]? = some fd)
  {cs:List AV} (hxs:x = .agg cs) (hp:nu P fd.type cs fd.offset=some v) (w:World):∃ v',(Instr.field t x' f).run P w = .ok v' w/\VR e v v':=by
 subst hxs
 obtain⟨vs,rfl,hl⟩:=hx.vL
 obtain⟨v',cQ,hr⟩:=yZ hl hp w
 exact⟨v',by simp[Instr.field,au hu,hf,asAgg,cQ],hr⟩
theorem adO {t:TypeId}{i o n:Nat}{x':Value}{f:Nat}{fs:Array Field}{fd:Field}(hx:VR e (.ptr i o) x')(hu:P.underlying t=some (.struct fs))(hf:fs[f]? = some fd)
  (hs:sz P fd.type=some n) (hn:n≠0) (w:World):∃ v',(Instr.fieldAt t x' f).run P w = .ok v' w/\VR e (.ptr i (o+fd.offset)) v':=by
 obtain⟨o',hi,ho,rfl⟩:=hx.pA
 refine⟨.pointer (some ⟨e.b i,o'+fd.offset,none⟩),?_,.ptr _ _ _ hi (by omega)⟩
 simp[Instr.fieldAt,au hu,hf,Instr.sureAddr,fieldPlace,gT hs,hn,add_lit]
theorem ajM {t:TypeId}{x ix v:AV}{x' HO:Value}(hx:VR e x x')(ri:VR e ix HO)(ha:Dx P t x ix=some v)(w:World) :
  ∃ v',(Instr.indexAt t x' HO).run P w = .ok v' w/\VR e v v':=by
 simp only[Dx,acT,aa6] at ha
 obtain⟨d,hd,ha⟩:=ha
 split at ha
 ·rename_i n el i off kk k
  simp only[aa6] at ha
  obtain⟨es,dC,ha⟩:=ha
  split at ha
  ·rename_i hk
   simp only[zf,decide_eq_true_eq] at hk
   cases ha
   obtain⟨o,hi,ho,rfl⟩:=hx.pA
   obtain rfl:=ri.gQ
   refine⟨.pointer (some ⟨e.b i,o+k.toNat*es,none⟩),?_,.ptr _ _ _ hi (by omega)⟩
   simp[Instr.indexAt,asIntOf,au hd,Instr.sureAddr,hk.1,hk.2,gT dC,add_lit]
  ·cases ha
 ·rename_i el i off len cap ex es kk k
  simp only[aa6] at ha
  obtain⟨aq,dC,ha⟩:=ha
  split at ha
  ·rename_i hk
   simp only[zf,decide_eq_true_eq,beq_iff_eq] at hk
   obtain⟨⟨rfl,ql⟩,jm⟩:=hk
   cases ha
   obtain rfl:=ri.gQ
   rcases hx.lM with⟨o,c,hi,ho,hl,hc,gK,hn,rfl⟩ | ⟨rfl,_,_,_⟩
   ·refine⟨.pointer (some ⟨e.b i,o+k.toNat*aq,none⟩),?_,.ptr _ _ _ hi (by omega)⟩
    simp[Instr.indexAt,asIntOf,au hd,ql,jm,gT dC,add_lit]
   ·omega
  ·cases ha
 ·cases ha
theorem acA {t:TypeId}{x ix v:AV}{x' HO:Value}(hx:VR e x x')(ri:VR e ix HO)(ha:xH P t x ix=some v)(w:World) :
  ∃ v',(Instr.index t x' HO).run P w = .ok v' w/\VR e v v':=by
 simp only[xH,acT,aa6] at ha
 obtain⟨d,hd,ha⟩:=ha
 split at ha
 ·rename_i n el cs kk k
  simp only[aa6] at ha
  obtain⟨es,dC,ha⟩:=ha
  split at ha
  ·rename_i hk
   simp only[zf,decide_eq_true_eq] at hk
   obtain⟨vs,rfl,hl⟩:=hx.vL
   obtain rfl:=ri.gQ
   obtain⟨v',cQ,hr⟩:=yZ hl ha w
   exact⟨v',by simp[Instr.index,asIntOf,au hd,hk.1,hk.2,gT dC,cQ],hr⟩
  ·cases ha
 ·rename_i s kk k
  split at ha
  ·rename_i hk
   obtain⟨b,rfl,rfl⟩:=hx.lj
   obtain rfl:=ri.gQ
   simp only[yB] at ha
   obtain⟨c,hc,rfl⟩:=ha
   simp only[bytes,adh,yB] at hc
   obtain⟨u,hu,rfl⟩:=hc
   refine⟨.int .u8 u.toNat,?_,.int _ _⟩
   have hb:b[k.toNat]? = some u:=by
    have h1:k.toNat<b.data.toList.length:=(abf.1 hu).1
    have h2:k.toNat<b.size:=by rw[af0] at h1;exact h1
    rw[getElem?_pos b k.toNat h2]
    congr 1
    have h3:=(abf.1 hu).2
    rw[<-h3]
    rfl
   simp[Instr.index,asIntOf,au hd,hk,hb]
  ·cases ha
 ·cases ha
theorem CR {lo hi:Nat}{v:AV}{v':Value}{n:Nat}(hv:VR e v v')(h:bound lo hi v=some n):∃ k:IntKind,∃ z:Int,v' = .int k z/\lo<=n/\n<=hi/\z=n:=by
 unfold bound at h
 split at h
 ·rename_i k z
  split at h
  ·rename_i hk
   simp only[zf,decide_eq_true_eq] at hk
   cases h
   exact⟨k,z,hv.gQ,by omega,by omega,by omega⟩
  ·cases h
 ·cases h
def ve (e:Em):Option AV->Option Value->Prop
 | none,none=>True
 | some a,some b=>VR e a b
 | _,_=>False
theorem xd {z:Int}{k:IntKind}{n y:Nat}{code:BoundsCode}(h:z=n)(hy:n<=y)(w:World):(Instr.sliceBound (.int k z) y code).run P w = .ok n w:=by
 subst h
 simp[Instr.sliceBound,asIntOf,hy]
theorem FJ {rQ:Bool}{len cap rZ:Nat}{low high mx:Option AV}{vh yI za:Option Value}(h1:ve e low vh)(h2:ve e high yI)(h3:ve e mx za)
  {l h m:Nat} (hb:ru len cap low high mx=some (l,h,m)) (hl:len<=rZ) (hc:cap<=rZ) (w:World) :
  (Instr.sliceBounds rQ len rZ vh yI za).run P w = .ok (l,h,if mx.isSome then m else rZ) w/\l<=h/\(mx=none->m=cap)/\(mx.isSome=true->h<=m/\m<=cap)/\(high=none->h=len)/\(mx=none->high.isSome=true->h<=cap):=by
 simp only[ru,acT,aa6,Option.pure_def,acS,abT] at hb
 obtain⟨m0,hm,h0,hh,l0,vV,rfl,rfl,rfl⟩:=hb
 cases mx with
 | some mv=>
  cases za with
  | none=>exact h3.elim
  | some mv'=>
   obtain⟨km,zm,rfl,_,nK,Iz⟩:=CR h3 hm
   cases high with
   | none=>cases hh
   | some hv=>
    cases yI with
    | none=>exact h2.elim
    | some cQ=>
     obtain⟨kh,zh,rfl,_,qc,Il⟩:=CR h2 hh
     cases low with
     | none=>
      cases vh with
      | some _=>exact h1.elim
      | none=>
       cases vV
       refine⟨?_,by omega,by simp,fun _=>⟨qc,nK⟩,by simp,by simp⟩
       simp[Instr.sliceBounds,xd Iz (show m0<=rZ by omega),xd Il qc]
     | some lv=>
      cases vh with
      | none=>exact h1.elim
      | some Zw=>
       obtain⟨kl,zl,rfl,_,lb,Gw⟩:=CR h1 vV
       refine⟨?_,lb,by simp,fun _=>⟨qc,nK⟩,by simp,by simp⟩
       simp[Instr.sliceBounds,xd Iz (show m0<=rZ by omega),xd Il qc,xd Gw lb]
 | none=>
  cases za with
  | some _=>exact h3.elim
  | none=>
   cases hm
   cases high with
   | none=>
    cases yI with
    | some _=>exact h2.elim
    | none=>
     cases hh
     cases low with
     | none=>
      cases vh with
      | some _=>exact h1.elim
      | none=>cases vV;exact⟨by simp[Instr.sliceBounds],by omega,by simp,by simp,by simp,by simp⟩
     | some lv=>
      cases vh with
      | none=>exact h1.elim
      | some Zw=>
       obtain⟨kl,zl,rfl,_,lb,Gw⟩:=CR h1 vV
       exact⟨by simp[Instr.sliceBounds,xd Gw lb],lb,by simp,by simp,by simp,by simp⟩
   | some hv=>
    cases yI with
    | none=>exact h2.elim
    | some cQ=>
     obtain⟨kh,zh,rfl,_,qc,Il⟩:=CR h2 hh
     cases low with
     | none=>
      cases vh with
      | some _=>exact h1.elim
      | none=>cases vV;exact⟨by simp[Instr.sliceBounds,xd Il (show h0<=rZ by omega)],by omega,by simp,by simp,by simp,fun _ _=>qc⟩
     | some lv=>
      cases vh with
      | none=>exact h1.elim
      | some Zw=>
       obtain⟨kl,zl,rfl,_,lb,Gw⟩:=CR h1 vV
       exact⟨by simp[Instr.sliceBounds,xd Il (show h0<=rZ by omega),xd Gw lb],lb,by simp,by simp,by simp,fun _ _=>qc⟩
theorem az.Vi (b:ByteArray)(l h:Nat):((bytes b).drop l).take (h-l)=bytes (b.extract l h):=by
 unfold bytes
 rw[ByteArray.data_extract,Array.toList_extract,List.extract,List.map_take,List.map_drop]
theorem aiS (hRH:RH G F W e H w){t:TypeId}{x v:AV}{x':Value}{low high mx:Option AV}{vh yI za:Option Value}(hx:VR e x x')(h1:ve e low vh)(h2:ve e high yI)(h3:ve e mx za)
  (ha:xc P t x low high mx H=some v):∃ v',(Instr.sliceAt t x' vh yI za).run P w = .ok v' w/\VR e v v':=by
 simp only[xc,acT,aa6] at ha
 obtain⟨d,hd,ha⟩:=ha
 split at ha
 ·rename_i s
  obtain⟨b,rfl,rfl⟩:=hx.lj
  cases mx with
  | some _=>simp at ha
  | none=>
   cases za with
   | some _=>exact h3.elim
   | none=>
    simp only[ai9,abZ,if_false,aa6,Prod.exists] at ha
    obtain⟨l,h,m,hb,hv⟩:=ha
    simp only[acS] at hv
    subst hv
    have dp:(bytes b).length=b.size:=by unfold bytes;rw[adg,af0];rfl
    rw[dp] at hb
    obtain⟨hr,Mw,hm,_,yH,qc⟩:=FJ (P:=P) (rQ:=false) h1 h2 h3 hb (aar _) (aar _) w
    simp only[ai9,abZ,if_false] at hr
    refine⟨.string (b.extract l h),by simp[Instr.sliceAt,Instr.slice,au hd,hr],?_⟩
    rw[az.Vi];exact .str _
 ·rename_i el
  simp only[aa6,Prod.exists] at ha
  obtain⟨l,h,m,hb,hv⟩:=ha
  split at hv
  ·rename_i hs
   simp only[acS] at hv
   subst hv
   obtain⟨es,dC⟩:=aeY.1 hs
   cases hx
   obtain⟨hr,Mw,hm,nK,yH,qc⟩:=FJ (P:=P) (rQ:=true) h1 h2 h3 hb (aar _) (aar _) w
   refine⟨.slice none 0 0,?_,.ae⟩
   have hh:h=0:=by
    cases mx with
    | some _=>have:=nK rfl;omega
    | none=>
     cases high with
     | none=>exact yH rfl
     | some _=>have:=qc rfl rfl;omega
   have vV:l=0:=by omega
   subst hh;subst vV
   have MK:(if mx.isSome=true then m else 0)=0:=by
    split
    ·rename_i Ix;have:=nK Ix;omega
    ·rfl
   rw[MK] at hr
   simp[Instr.sliceAt,Instr.slice,au hd,hr,gT dC]
  ·cases hv
 ·rename_i el i off len cap ex es
  simp only[aa6,Prod.exists] at ha
  obtain⟨l,h,m,hb,aq,dC,hv⟩:=ha
  split at hv
  ·rename_i hs
   simp only[beq_iff_eq] at hs
   subst hs
   simp only[acS] at hv
   subst hv
   rcases hx.lM with⟨o,c,hi,ho,hl,hc,gK,hn,rfl⟩ | ⟨rfl,rfl,a,rfl⟩
   ·obtain⟨hr,Mw,hm,nK,yH,qc⟩:=FJ (P:=P) (rQ:=true) h1 h2 h3 hb hl hc w
    have A6:h<=(if mx.isSome=true then m else c)/\m<=(if mx.isSome=true then m else c)/\(if mx.isSome=true then m else c)<=c/\((ex||mx.isSome)=true->(if mx.isSome=true then m else c)=m):=by
     cases mx with
     | some _=>have:=nK rfl;simp;omega
     | none=>
      have hmc:=hm rfl
      simp only[ai9,abZ,if_false,Bool.or_false]
      refine⟨?_,by omega,by omega,fun qm=>by rw[gK qm,hmc]⟩
      cases high with
      | none=>have:=yH rfl;omega
      | some _=>have:=qc rfl rfl;omega
    generalize (if mx.isSome=true then m else c)=m' at hr A6
    obtain⟨vi,qC,hq3,hq4⟩:=A6
    by_cases wF:m'=l
    ·have e1:h-l=0:=by omega
     have e2:m-l=0:=by omega
     refine⟨.slice (some ⟨e.b i,o,none⟩) 0 0,?_,by rw[e1,e2];exact .yt ..⟩
     have e3:h=l:=by omega
     simp[Instr.sliceAt,Instr.slice,au hd,hr,gT dC,wF,e3]
    ·refine⟨.slice (some ⟨e.b i,o+l*aq,none⟩) (h-l) (m'-l),?_,.slice _ _ _ _ _ _ _ _ hi (by omega) (by omega) (by omega) (fun qm=>by rw[hq4 qm]) ?_⟩
     ·simp[Instr.sliceAt,Instr.slice,au hd,hr,gT dC,wF,add_lit]
     ·have:o+l*aq+(m'-l)*aq=o+m'*aq:=by
       rw[afj,<-aeS];congr 2;omega
      rw[this]
      have:m'*aq<=c*aq:=ad4 _ hq3
      omega
   ·obtain⟨hr,Mw,hm,nK,yH,qc⟩:=FJ (P:=P) (rQ:=true) (rZ:=0) h1 h2 h3 hb (aar _) (aar _) w
    have hh:h=0:=by
     cases mx with
     | some _=>have:=nK rfl;omega
     | none=>
      cases high with
      | none=>exact yH rfl
      | some _=>have:=qc rfl rfl;omega
    have vV:l=0:=by omega
    have MK:(if mx.isSome=true then m else 0)=0:=by
     split
     ·rename_i Ix;have:=nK Ix;omega
     ·rfl
    have ND:m=0:=by
     cases mx with
     | some _=>have:=nK rfl;omega
     | none=>exact hm rfl
    subst hh;subst vV;subst ND
    rw[MK] at hr
    exact⟨.slice (some a) 0 0,by simp[Instr.sliceAt,Instr.slice,au hd,hr,gT dC],.yt ..⟩
  ·cases hv
 ·rename_i n el i off
  simp only[aa6,Prod.exists] at ha
  obtain⟨l,h,m,hb,es,dC,hv⟩:=ha
  split at hv
  ·rename_i hs
   simp only[zf,adn] at hs
   obtain⟨tj,vX⟩:=hs
   obtain⟨u,hu⟩:=aeY.1 vX
   simp only[acS] at hv
   subst hv
   obtain⟨o,hi,ho,rfl⟩:=hx.pA
   obtain⟨hr,Mw,hm,nK,yH,qc⟩:=FJ (P:=P) (rQ:=false) h1 h2 h3 hb (aar _) (aar _) w
   have ah:=hRH.S5 (o:=o+n*es-1) hu (by omega)
   have hmn:(if mx.isSome=true then m else n)=m/\m<=n/\h<=m:=by
    cases mx with
    | some _=>have:=nK rfl;simp;omega
    | none=>
     have:=hm rfl
     subst this
     refine⟨by simp,aar _,?_⟩
     cases high with
     | none=>have:=yH rfl;omega
     | some _=>exact qc rfl rfl
   rw[hmn.1] at hr
   obtain⟨_,vi,qC⟩:=hmn
   by_cases wF:m=l
   ·have e1:h-l=0:=by omega
    have e2:m-l=0:=by omega
    refine⟨.slice (some ⟨e.b i,o,none⟩) 0 0,?_,by rw[e1,e2];exact .yt ..⟩
    have e3:h=l:=by omega
    simp[Instr.sliceAt,au hd,Instr.sureAddr,hr,gT dC,wF,e3]
   ·refine⟨.slice (some ⟨e.b i,o+l*es,none⟩) (h-l) (m-l),?_,.slice _ _ _ _ _ _ _ _ hi (by omega) (by omega) (by omega) (fun _=>rfl) ?_⟩
    ·simp[Instr.sliceAt,au hd,Instr.sureAddr,hr,gT dC,wF,add_lit]
    ·have:o+l*es+(m-l)*es=o+m*es:=by
      rw[afj,<-aeS];congr 2;omega
     rw[this]
     have:m*es<=n*es:=ad4 _ vi
     omega
  ·cases hv
 ·cases ha
end
end
section
variable {P:Program}{G:Nat}{F:Nat->Prop}{W:World}{e:Em}{H:Hp}{w:World}
theorem wy (b:ByteArray):(bytes b).length=b.size:=by unfold bytes;rw[adg,af0];rfl
theorem VO:∀ {x y:List UInt8},x.map (·.toNat)=y.map (·.toNat)->x=y
 | [],[],_=>rfl
 | [],_::_,h=>by simp at h
 | _::_,[],h=>by simp at h
 | a::x,b::y,h=>by
  simp only[ab8,List.cons.injEq] at h
  rw[UInt8.toNat_inj.1 h.1,VO h.2]
theorem bytes_beq (a b:ByteArray):(bytes a==bytes b)=(a.data.toList==b.data.toList):=by
 unfold bytes
 by_cases h:a.data.toList=b.data.toList
 ·rw[h];simp
 ·have:¬ (a.data.toList.map (·.toNat)=b.data.toList.map (·.toNat)):=fun h2=>h (VO h2)
  rw[beq_eq_false_iff_ne.2 h,beq_eq_false_iff_ne.2 this]
theorem abX:∀ (x y:List UInt8),qg (x.map (·.toNat)) (y.map (·.toNat))=Op.bytesLess x y
 | x,[]=>by cases x<;>simp[qg,Op.bytesLess]
 | [],b::y=>by simp[qg,Op.bytesLess]
 | a::x,b::y=>by
  simp only[ab8,qg,Op.bytesLess,abX x y]
  congr 1
  ·by_cases h:a.toNat<b.toNat
   ·have:a<b:=by rw[ajs];exact h
    simp[this,h]
   ·have:¬ a<b:=by rw[ajs];exact h
    have h2:Nat.blt a.toNat b.toNat=false:=by
     cases hb:Nat.blt a.toNat b.toNat
     ·rfl
     ·rw[adn] at hb;exact absurd hb h
    simp[this,h2]
  ·congr 1
   by_cases h:a=b
   ·subst h;simp
   ·have h2:¬ a.toNat=b.toNat:=fun q=>h (UInt8.toNat_inj.1 q)
    rw[oa h2,beq_eq_false_iff_ne.2 h]
theorem akZ (a b:ByteArray):bytes (a++b)=bytes a++bytes b:=by
 unfold bytes;rw[ByteArray.data_append,Array.toList_append,acJ]
theorem aa8 (k:IntKind)(a:Int)(h:0<=a):(BitVec.ofInt k.bits a).toNat=a.toNat % 2 ^ k.bits:=by
 rw[aiy]
 obtain⟨n,rfl⟩:=Int.eq_ofNat_of_zero_le h
 rw[aeq]
 have:((n:Int) % ((2 ^ k.bits:Nat):Int))=((n % 2 ^ k.bits:Nat):Int):=by norm_cast
 rw[this,aeq]
theorem ab0 {α:Type}(g:α->Option Bool)(body:α->Option Bool × Unit->Sem (ForInStep (Option Bool × Unit)))(w:World)
  (hb:∀ a b,g a=some b->(body a (none,())).run P w = .ok (if b then .yield (none,()) else .done (some false,())) w) :
  ∀ (l:List α) (b:Bool),wJ g l=some b->(forIn l (none,()) body).run P w = .ok (if b then (none,()) else (some false,())) w:=by
 intro l
 induction l with
 | nil=>intro b h;simp only[wJ,acS] at h;subst h;simp
 | cons a r ih=>
  intro b h
  unfold wJ at h
  split at h
  ·rename_i hg
   rw[List.forIn_cons,Sem.run_bind,hb a true hg]
   exact ih b h
  ·rename_i hg
   cases h
   rw[List.forIn_cons,Sem.run_bind,hb a false hg]
   simp
  ·cases h
theorem Lt (p q:ByteArray):(p==q)=(bytes p==bytes q):=by
 rw[bytes_beq]
 have h0:(p==q)=(p.data==q.data):=by cases p;cases q;rfl
 rw[h0]
 by_cases e:p.data=q.data
 ·rw[e];simp
 ·have:¬ p.data.toList=q.data.toList:=fun h2=>e (adl.1 h2)
  rw[beq_eq_false_iff_ne.2 e,beq_eq_false_iff_ne.2 this]
theorem Y7 (h:RH G F W e H w){i:Nat}(hc:clean H i=true):∃ C el,i<e.N/\w.heap[e.b i]? = some (.cells C el (0,0))/\(∃ o,H.h.get i=some o/\wr o=true):=by
 unfold clean at hc
 split at hc
 ·rename_i c lo hi el hg
  obtain⟨hN,ob,dP,dH,_⟩:=h.obj i _ hg
  cases dH with
  | cells _ _ _ _ _ C fz hn gi h0 h1 hd=>
   have:=h0 rfl
   subst this
   exact⟨C,el,hN,dP,_,hg,rfl⟩
 ·cases hc
theorem HN (h:RH G F W e H w):∀ (d D:Nat),d<=D->∀ (t:TypeId) (x y:AV) (x' y':Value) (b:Bool),VR e x x'->VR e y y'->ja P d t x y H=some b->
  (Op.equalIn D t x' y').run P w = .ok b w:=by
 intro d
 induction d with
 | zero=>intro D _ t x y x' y' b _ _ hb;cases hb
 | succ d ih=>
  intro D hD t x y x' y' b hx hy hb
  obtain⟨D,rfl⟩:∃ k,D=k+1:=⟨D-1,by omega⟩
  unfold ja at hb
  split at hb
  ·cases hb
  rename_i u hu
  split at hb
  ·cases hx.uU;cases hy.uU;cases hb;simp[Op.equalIn,au hu]
  ·cases hx.gQ;cases hy.gQ
   split at hb
   ·rename_i hk;cases hb;simp[Op.equalIn,au hu,hk]
   ·cases hb
  ·obtain⟨p,rfl,rfl⟩:=hx.lj
   obtain⟨q,rfl,rfl⟩:=hy.lj
   cases hb
   have:=Lt p q
   simp[Op.equalIn,au hu,this]
  ·cases hx;cases hy;cases hb;simp[Op.equalIn,au hu]
  ·cases hx;cases hy;cases hb;simp[Op.equalIn,au hu]
  ·cases hx;cases hy;cases hb;simp[Op.equalIn,au hu]
  ·rename_i el i a j c
   split at hb
   ·rename_i n hn
    obtain⟨o,hi,ho,rfl⟩:=hx.pA
    obtain⟨o2,hj,vl,rfl⟩:=hy.pA
    cases tG:Nat.beq i j with
    | true=>
     have:i=j:=aba tG
     subst this
     rw[tG] at hb
     cases hb
     have:(Nat.beq a c)=(o==o2):=by
      by_cases q:a=c
      ·subst q
       have:o=o2:=by omega
       subst this;simp
      ·rw[oa q,beq_eq_false_iff_ne.2 (by omega)]
     simp[Op.equalIn,au hu,gT hn,sameAddr,this]
     by_cases q:o=o2
     ·subst q;simp
     ·rw[beq_eq_false_iff_ne.2 q,beq_eq_false_iff_ne.2 (by simp;exact q)]
    | false=>
     rw[tG] at hb
     cases oV:(clean H i&&clean H j) with
     | false=>rw[oV] at hb;cases hb
     | true=>
      rw[oV] at hb
      cases hb
      rw[zf] at oV
      obtain⟨C1,l1,_,g1,o1,q1,u1⟩:=Y7 h oV.1
      obtain⟨C2,l2,_,g2,o3,q2,u2⟩:=Y7 h oV.2
      have cL:¬ e.b i=e.b j:=fun q=>by
       have:=h.inj i j _ _ q1 q2 (.inl u1) q
       subst this
       simp at tG
      have f1:∀ k,w.frozen? ⟨e.b i,k,none⟩=false:=fun k=>by simp[World.frozen?,g1]
      have f2:∀ k,w.frozen? ⟨e.b j,k,none⟩=false:=fun k=>by simp[World.frozen?,g2]
      have s1:w.shape? (e.b i)=some (l1,C1.size):=by simp[World.shape?,g1]
      have s2:w.shape? (e.b j)=some (l2,C2.size):=by simp[World.shape?,g2]
      simp[Op.equalIn,au hu,gT hn,sameAddr,cL,f1,f2,noView,viewAt,s1,s2,mayBeOne,stringish]
   ·cases hb
  ·cases hx;cases hy;cases hb;simp[Op.equalIn,au hu]
  ·cases hx;cases hy;cases hb;simp[Op.equalIn,au hu]
  ·cases hx;cases hy;cases hb;simp[Op.equalIn,au hu]
  ·rename_i t1 v1 t2 v2
   cases hx with
   | iface _ _ v1' iI=>
   cases hy with
   | iface _ _ P7 xz=>
   split at hb
   ·rename_i ht
    subst ht
    split at hb
    ·rename_i inf iB
     cases xk:inf.comparable with
     | false=>rw[xk] at hb;cases hb
     | true=>
      rw[xk] at hb
      have:=ih D (by omega) t1 v1 v2 v1' P7 b iI xz hb
      simp[Op.equalIn,au hu,pT iB,xk,this]
    ·cases hb
   ·rename_i ht
    cases hb
    simp[Op.equalIn,au hu,ht]
  ·rename_i fs xs ys
   cases fW:P.stoodInHeld t with
   | true=>rw[fW] at hb;cases hb
   | false=>
    rw[fW] at hb
    simp only[cond_false] at hb
    obtain⟨vx,rfl,yu⟩:=hx.vL
    obtain⟨vy,rfl,SA⟩:=hy.vL
    have key := ab0 (P := P) (g := fun f : Field => if f.name = "_" then some true else
     match nu P f.type xs f.offset,nu P f.type ys f.offset with
     | some a,some b=>ja P d f.type a b H
     | _,_=>none) (body:=fun f Nt=>
      if f.name = "_" then Pure.pure (ForInStep.yield (none, ()))
      else do
       let BX <-part f.type vx f.offset
       let MJ <-part f.type vy f.offset
       let BX <-Op.equalIn D f.type BX MJ
       if BX=false then Pure.pure (ForInStep.done (some false,())) else Pure.pure (ForInStep.yield (none,()))) w (by
      intro f b hg
      by_cases hn : f.name = "_"
      ·rw[if_pos hn] at hg;cases hg;simp[hn]
      ·rw[if_neg hn] at hg
       split at hg
       ·rename_i a1 a2 h1 h2
        obtain⟨u1,uD,gG⟩:=yZ yu h1 w
        obtain⟨u2,MA,tc⟩:=yZ SA h2 w
        have:=ih D (by omega) f.type a1 a2 u1 u2 b gG tc hg
        cases b<;>simp[hn,uD,MA,this]
       ·cases hg) fs.toList b hb
    simp only[Op.equalIn,Sem.run_bind,au hu,Result.andThen_ok,run_program,fW]
    simp only[Array.forIn_toList] at key
    simp[key]
    cases b<;>simp
  ·rename_i n el xs ys
   split at hb
   ·rename_i s hs
    obtain⟨vx,rfl,yu⟩:=hx.vL
    obtain⟨vy,rfl,SA⟩:=hy.vL
    have key:=ab0 (P:=P) (g:=fun i:Nat=>
     match nu P el xs (i*s),nu P el ys (i*s) with
     | some a,some b=>ja P d el a b H
     | _,_=>none) (body:=fun i Nt=>do
       let BX <-part el vx (i*s)
       let MJ <-part el vy (i*s)
       let BX <-Op.equalIn D el BX MJ
       if BX=false then Pure.pure (ForInStep.done (some false,())) else Pure.pure (ForInStep.yield (none,()))) w (by
      intro f b hg
      split at hg
      ·rename_i a1 a2 h1 h2
       obtain⟨u1,uD,gG⟩:=yZ yu h1 w
       obtain⟨u2,MA,tc⟩:=yZ SA h2 w
       have:=ih D (by omega) el a1 a2 u1 u2 b gG tc hg
       cases b<;>simp[uD,MA,this]
      ·cases hg) (List.range' 0 n) b hb
    simp[Op.equalIn,au hu,gT hs]
    simp[key]
    cases b<;>simp
   ·cases hb
  ·cases hx;cases hy;cases hb;simp[Op.equalIn,au hu]
  ·cases hx;cases hb
   rcases hy.lM with⟨o,c,hi,ho,hl,hc,gK,hn,rfl⟩ | ⟨rfl,rfl,a,rfl⟩<;>simp[Op.equalIn,au hu]
  ·cases hy;cases hb
   rcases hx.lM with⟨o,c,hi,ho,hl,hc,gK,hn,rfl⟩ | ⟨rfl,rfl,a,rfl⟩<;>simp[Op.equalIn,au hu]
  ·cases hx;cases hy;cases hb;simp[Op.equalIn,au hu]
  ·cases hx;cases hy;cases hb;simp[Op.equalIn,au hu]
  ·cases hx;cases hy;cases hb;simp[Op.equalIn,au hu]
  ·cases hx;cases hy;cases hb;simp[Op.equalIn,au hu]
  ·cases hx;cases hy;cases hb;simp[Op.equalIn,au hu]
  ·cases hx;cases hy;cases hb;simp[Op.equalIn,au hu]
  ·cases hb
end
end
section
variable {P:Program}{G:Nat}{F:Nat->Prop}{W:World}{e:Em}{H:Hp}{w:World}
theorem aqN (k:IntKind)(a b:Int):((BitVec.ofInt k.bits a) &&& (BitVec.ofInt k.bits b)).toNat=lr k a &&& lr k b:=by
 rw[BitVec.toNat_and,aiy,aiy];rfl
theorem agR (k:IntKind)(a b:Int):((BitVec.ofInt k.bits a) ||| (BitVec.ofInt k.bits b)).toNat=lr k a ||| lr k b:=by
 rw[BitVec.toNat_or,aiy,aiy];rfl
theorem arl (k:IntKind)(a b:Int):((BitVec.ofInt k.bits a) ^^^ (BitVec.ofInt k.bits b)).toNat=lr k a ^^^ lr k b:=by
 rw[BitVec.toNat_xor,aiy,aiy];rfl
theorem aiz (k:IntKind)(a b:Int)(ha:0<=a)(hb:0<=b):((BitVec.ofInt k.bits a) ^^^ (BitVec.ofInt k.bits b)).toNat=(a.toNat % 2 ^ k.bits) ^^^ (b.toNat % 2 ^ k.bits):=by
 rw[BitVec.toNat_xor,aa8 k a ha,aa8 k b hb]
theorem LZ (a b:ByteArray):(a.toList==b.toList)=(bytes a==bytes b):=by
 rw[ByteArray.toList_eq,ByteArray.toList_eq,bytes_beq]
theorem Mq (a b:ByteArray):Op.bytesLess a.toList b.toList=qg (bytes a) (bytes b):=by
 rw[ByteArray.toList_eq,ByteArray.toList_eq];exact (abX _ _).symm
theorem JG {d:Nat}{t:TypeId}{x y:AV}{b:Bool}(hb:ja P d t x y H=some b):x ≠ .dT/\y ≠ .dT:=by
 constructor
 ·rintro rfl
  cases d with
  | zero=>cases hb
  | succ d=>
   unfold ja at hb
   split at hb
   ·cases hb
   ·split at hb<;>first | (simp at *;done) | (simp_all;done) | cases hb
 ·rintro rfl
  cases d with
  | zero=>cases hb
  | succ d=>
   unfold ja at hb
   split at hb
   ·cases hb
   ·split at hb<;>first | (simp at *;done) | (simp_all;done) | cases hb
theorem VR.W7 {x:AV}{x':Value}(h:VR e x x')(hj:x ≠ .dT):(∀ k a,x' ≠ .float k a)/\(∀ k a b,x' ≠ .complex k a b):=by
 cases h<;>first | (exact absurd rfl hj) | (constructor<;>(intros;simp))
theorem akz {t:TypeId}{x y:Value}(h1:∀ k a k' b,x = .int k a->y = .int k' b->False)(h2:∀ a b,x = .string a->y = .string b->False)
  (h3:∀ k a,x ≠ .float k a) (h4:∀ k a b,x ≠ .complex k a b):binOp .eql t x y=(do Pure.pure (.bool (<-Op.equal t x y))):=by
 cases x<;>cases y<;>first | rfl | (exact absurd rfl (h3 _ _)) | (exact absurd rfl (h4 _ _ _)) | (exact (h1 _ _ _ _ rfl rfl).elim) | (exact (h2 _ _ rfl rfl).elim)
theorem aid {t:TypeId}{x y:Value}(h1:∀ k a k' b,x = .int k a->y = .int k' b->False)(h2:∀ a b,x = .string a->y = .string b->False)
  (h3:∀ k a,x ≠ .float k a) (h4:∀ k a b,x ≠ .complex k a b):binOp .neq t x y=(do Pure.pure (.bool (!(<-Op.equal t x y)))):=by
 cases x<;>cases y<;>first | rfl | (exact absurd rfl (h3 _ _)) | (exact absurd rfl (h4 _ _ _)) | (exact (h1 _ _ _ _ rfl rfl).elim) | (exact (h2 _ _ rfl rfl).elim)
theorem VR.KV {x:AV}{k:IntKind}{n:Int}(h:VR e x (.int k n))(hj:x ≠ .dT):x = .int k n:=by cases h<;>first | rfl | exact absurd rfl hj
theorem VR.J4 {x:AV}{s:ByteArray}(h:VR e x (.string s))(hj:x ≠ .dT):x = .str (bytes s):=by cases h<;>first | rfl | exact absurd rfl hj
theorem anR (h:RH G F W e H w){op:BinOp}{t:TypeId}{x y v:AV}{x' y':Value}(hx:VR e x x')(hy:VR e y y')(hb:kG P op t x y H=some v) :
  ∃ v',(binOp op t x' y').run P w = .ok v' w/\VR e v v':=by
 unfold kG at hb
 split at hb
 ·cases hx.gQ;cases hy.gQ
  split at hb
  ·cases hb
  ·rename_i hn;cases hb
   exact⟨_,by simp[binOp,Op.shift,hn],.int _ _⟩
 ·cases hx.gQ;cases hy.gQ
  split at hb
  ·cases hb
  ·rename_i hn;cases hb
   exact⟨_,by simp[binOp,Op.shift,hn],.int _ _⟩
 ·cases hx.gQ;cases hy.gQ
  split at hb
  ·rename_i k a k' b n1 n2 hk
   subst hk
   split at hb
   ·cases hb;exact⟨_,by simp[binOp,Op.intArith],.int _ _⟩
   ·cases hb;exact⟨_,by simp[binOp,Op.intArith],.int _ _⟩
   ·cases hb;exact⟨_,by simp[binOp,Op.intArith],.int _ _⟩
   ·split at hb
    ·cases hb
    ·rename_i hz;cases hb;exact⟨_,by simp[binOp,Op.intDiv,hz],.int _ _⟩
   ·split at hb
    ·cases hb
    ·rename_i hz;cases hb;exact⟨_,by simp[binOp,Op.intDiv,hz],.int _ _⟩
   ·cases hb
    rw[<-aqN k a b]
    exact⟨_,by simp only[binOp,Op.intBits,ne_eq,not_true_eq_false,if_false];rfl,.int _ _⟩
   ·cases hb
    rw[<-agR k a b]
    exact⟨_,by simp only[binOp,Op.intBits,ne_eq,not_true_eq_false,if_false];rfl,.int _ _⟩
   ·cases hb
    rw[<-arl k a b]
    exact⟨_,by simp only[binOp,Op.intBits,ne_eq,not_true_eq_false,if_false];rfl,.int _ _⟩
   ·cases hb
   ·cases hb;exact⟨_,by simp[binOp,Op.intCmp],.bool _⟩
   ·cases hb;exact⟨_,by simp[binOp,Op.intCmp],.bool _⟩
   ·cases hb;exact⟨_,by simp[binOp,Op.intCmp],.bool _⟩
   ·cases hb;exact⟨_,by simp[binOp,Op.intCmp],.bool _⟩
   ·cases hb;exact⟨_,by simp[binOp,Op.intCmp],.bool _⟩
   ·cases hb;exact⟨_,by simp[binOp,Op.intCmp],.bool _⟩
   ·cases hb
  ·cases hb
 ·obtain⟨p,rfl,rfl⟩:=hx.lj
  obtain⟨q,rfl,rfl⟩:=hy.lj
  split at hb
  ·cases hle:Nat.ble ((bytes p).length+(bytes q).length) 4294967296 with
   | false=>rw[hle] at hb;cases hb
   | true=>
    rw[hle] at hb
    cases hb
    rw[ado,wy,wy] at hle
    have:¬ ((p.size+q.size:Nat):Int)>9223372036854775807:=by omega
    rw[<-akZ]
    refine⟨.string (p++q),?_,.str _⟩
    simp only[binOp,Op.stringOp,IntKind.max_i64,if_neg this];rfl
  ·cases hb;exact⟨_,by simp[binOp,Op.stringOp,LZ],.bool _⟩
  ·cases hb;exact⟨_,by simp[binOp,Op.stringOp,LZ],.bool _⟩
  ·cases hb;exact⟨_,by simp[binOp,Op.stringOp,Mq],.bool _⟩
  ·cases hb;exact⟨_,by simp[binOp,Op.stringOp,Mq,LZ],.bool _⟩
  ·cases hb;exact⟨_,by simp[binOp,Op.stringOp,Mq,LZ],.bool _⟩
  ·cases hb;exact⟨_,by simp[binOp,Op.stringOp,Mq],.bool _⟩
  ·cases hb
 ·rename_i n1 n2
  simp only[yB] at hb
  obtain⟨b,hb,rfl⟩:=hb
  have:=HN h 50 Op.maxDepth (by decide) t x y x' y' b hx hy hb
  refine⟨.bool b,?_,.bool _⟩
  obtain⟨j1,j2⟩:=JG hb
  obtain⟨f1,f2⟩:=hx.W7 j1
  rw[akz (fun k a k' b p q=>n1 k a k' b (by rw[p] at hx;exact hx.KV j1) (by rw[q] at hy;exact hy.KV j2))
   (fun a b p q=>n2 _ _ (by rw[p] at hx;exact hx.J4 j1) (by rw[q] at hy;exact hy.J4 j2)) f1 f2]
  simp only[Op.equal,Sem.run_bind,this];rfl
 ·rename_i n1 n2
  simp only[yB] at hb
  obtain⟨b,hb,rfl⟩:=hb
  have:=HN h 50 Op.maxDepth (by decide) t x y x' y' b hx hy hb
  refine⟨.bool !b,?_,.bool _⟩
  obtain⟨j1,j2⟩:=JG hb
  obtain⟨f1,f2⟩:=hx.W7 j1
  rw[aid (fun k a k' b p q=>n1 k a k' b (by rw[p] at hx;exact hx.KV j1) (by rw[q] at hy;exact hy.KV j2))
   (fun a b p q=>n2 _ _ (by rw[p] at hx;exact hx.J4 j1) (by rw[q] at hy;exact hy.J4 j2)) f1 f2]
  simp only[Op.equal,Sem.run_bind,this];rfl
 ·cases hb
theorem aq1 {op:BinOp}{t:TypeId}{X Y:Operand}{x y v:AV}{x' y':Value}(hx:VR e x x')(hy:VR e y y')(hg:sS P op t X Y x y=true)(hb:kG P op t x y H=some v) :
  (eqGuard op t X Y x' y').run P w = .ok () w:=by
 by_cases ho:op = .eql\/op = .neq
 ·have Av:x ≠ .dT/\y ≠ .dT:=by
   constructor
   ·rintro rfl
    rcases ho with rfl | rfl<;>(unfold kG at hb;simp only[yB] at hb;obtain⟨b,hb,_⟩:=hb;exact (JG hb).1 rfl)
   ·rintro rfl
    rcases ho with rfl | rfl<;>(unfold kG at hb;cases x<;>simp only[yB] at hb<;>(obtain⟨b,hb,_⟩:=hb;exact (JG hb).2 rfl))
  cases hx<;>cases hy<;>first
   | (exact absurd rfl Av.1) | (exact absurd rfl Av.2)
   | (rcases ho with rfl | rfl<;>rfl)
   | skip
  ·have oe:uZ X=true\/uZ Y=true:=by
    rcases ho with rfl | rfl<;>(simp only[sS,aff] at hg;exact hg)
   rcases ho with rfl | rfl<;>(rcases oe with hc | hc<;>(cases X<;>cases Y<;>first | (simp[uZ] at hc;done) | rfl))
  ·have oe:P.eqGuardType P.depth t=false:=by
    rcases ho with rfl | rfl<;>(simp only[sS,Bool.not_eq_true'] at hg;exact hg)
   rcases ho with rfl | rfl<;>simp[eqGuard,oe]
 ·have:(op matches .eql | .neq)=false:=by
   cases op<;>first | rfl | (exact absurd (by simp) ho)
  cases op<;>first | rfl | (exact absurd (by simp) ho)
end
end
section
variable {P:Program}{G:Nat}{F:Nat->Prop}{W:World}{e:Em}{H:Hp}{w:World}
theorem ahn {op:UnOp}{x v:AV}{x':Value}(hx:VR e x x')(hb:ie op x=some v)(w:World):∃ v',(Op.unary op x').run P w = .ok v' w/\VR e v v':=by
 unfold ie at hb
 split at hb
 ·cases hx.gQ;cases hb;exact⟨_,by simp[Op.unary,Op.intArith],.int _ _⟩
 ·cases hx.uU;cases hb;exact⟨_,by simp[Op.unary],.bool _⟩
 ·rename_i k n
  cases hx.gQ
  split at hb
  ·cases hb
  ·rename_i hs
   split at hb
   ·rename_i hn
    cases hb
    have hm:0<=k.max:=by cases k<;>simp[IntKind.max,IntKind.signed,IntKind.bits] at hs ⊢
    rw[<-aiz k k.max n hm hn]
    refine⟨_,?_,.int _ _⟩
    simp only[Op.unary,Op.intBits,if_neg hs];rfl
   ·cases hb
 ·cases hb
theorem Xu:∀ (v:List Value) (off j:Nat) (cs:Array Value),off+j+v.length<=cs.size->
  ((v.zipIdx j).foldl (fun cs (x:Value × Nat)=>cs.setIfInBounds (off+x.2) x.1) cs).size=cs.size/\
  ∀ m,((v.zipIdx j).foldl (fun cs (x:Value × Nat)=>cs.setIfInBounds (off+x.2) x.1) cs)[m]? = if off+j<=m/\m<off+j+v.length then v[m-(off+j)]? else cs[m]?
 | [],off,j,cs,h=>by
  refine⟨by simp,fun m => ?_⟩
  rw[if_neg (by rw[abY];omega)];simp
 | x::v,off,j,cs,h=>by
  simp only[abn] at h
  rw[List.zipIdx_cons,List.foldl_cons]
  obtain⟨h1,h2⟩:=Xu v off (j+1) (cs.setIfInBounds (off+j) x) (by simp;omega)
  refine⟨by rw[h1];simp,fun m => ?_⟩
  rw[h2]
  simp only[abn]
  by_cases hm:m=off+j
  ·subst hm
   rw[if_neg (by omega),if_pos (by omega)]
   rw[aen (by omega)]
   simp
  ·by_cases hr:off+(j+1)<=m/\m<off+(j+1)+v.length
   ·rw[if_pos hr,if_pos (by omega)]
    have:m-(off+j)=(m-(off+(j+1)))+1:=by omega
    rw[this,gk]
   ·rw[if_neg hr,if_neg (by omega),aft (by omega)]
theorem az.alb {a c:List AV}{x:Array Value}{y:List Value}{off:Nat}(ha:az e a x.toList)(hc:az e c y)(h:off+c.length<=a.length) :
  az e (a.take off++c++a.drop (off+c.length)) ((y.zipIdx).foldl (fun cs (x:Value × Nat)=>cs.setIfInBounds (off+x.2) x.1) x).toList:=by
 have hx:x.size=a.length:=by have:=ha.1;simpa using this
 obtain⟨h1,h2⟩:=Xu y off 0 x (by rw[hc.1,hx];omega)
 refine⟨by simp[h1,hx];omega,fun i v v' hv cQ => ?_⟩
 rw[adm,h2] at cQ
 simp only[ae6] at cQ
 rw[hc.1] at cQ
 by_cases hi:i<off
 ·rw[if_neg (by omega)] at cQ
  rw[adY,abU (by simp;omega),adM,if_pos hi] at hv
  exact ha.2 i v v' hv (by rw[adm];exact cQ)
 ·by_cases xV:i<off+c.length
  ·rw[if_pos (by omega)] at cQ
   rw[abU (by simp;omega),acs (by simp;omega)] at hv
   have:i-(a.take off).length=i-off:=by simp;omega
   rw[this] at hv
   exact hc.2 _ v v' hv cQ
  ·rw[if_neg (by omega)] at cQ
   rw[acs (by simp;omega),adG] at hv
   have:off+c.length+(i-(a.take off++c).length)=i:=by simp;omega
   rw[this] at hv
   exact ha.2 i v v' hv (by rw[adm];exact cQ)
def sh (e:Em)(l:List (Nat × AV))(l':List (Nat × Value)):Prop:=l'.map (·.1)=l.map (·.1)/\az e (l.map (·.2)) (l'.map (·.2))
theorem DP {pl yT:Nat->Option (Nat × Nat)}(vK:∀ i x,pl i=some x->yT i=some x):∀ (ps:List (Nat × AV)) (oR:List (Nat × Value)) (cells out:List AV) (Ch:Array Value),
  sh e ps oR->az e cells Ch.toList->uf pl cells ps=some out->∃ kW,Instr.fill yT Ch oR=some kW/\az e out kW.toList:=by
 intro ps
 induction ps with
 | nil=>
  intro oR cells out Ch hp hc hf
  cases hf
  obtain rfl:oR=[]:=by have:=hp.1;simpa using this
  exact⟨Ch,rfl,hc⟩
 | cons p ps ih=>
  intro oR cells out Ch hp hc hf
  obtain⟨i,v⟩:=p
  cases oR with
  | nil=>have:=hp.1;simp at this
  | cons q oR=>
   obtain⟨i',v'⟩:=q
   obtain⟨h1,h2⟩:=hp
   simp only[ab8,List.cons.injEq] at h1
   obtain⟨rfl,h1⟩:=h1
   obtain⟨u,us,hu,hv,su⟩:=az.cons_inv (by simpa using h2:az e (v::ps.map (·.2)) (v'::oR.map (·.2)))
   simp only[List.cons.injEq] at hu
   obtain⟨rfl,rfl⟩:=hu
   unfold uf at hf
   split at hf
   ·cases hf
   ·rename_i off size xZ
    split at hf
    ·cases hf
    ·rename_i cs fC
     split at hf
     ·rename_i uB
      have hl:=hv.cells fC
      have dp:v'.cells.size=size:=by have:=hl.1;simp at this;omega
      have KJ:Ch.size=cells.length:=by have:=hc.1;simpa using this
      have wa:=hc.alb hl (off:=off) (by omega)
      rw[uB.1] at wa
      obtain⟨kW,ho,hr⟩:=ih oR _ out _ ⟨h1,su⟩ wa hf
      refine⟨kW,?_,hr⟩
      unfold Instr.fill
      rw[vK _ _ xZ]
      have c1:(decide (v'.cells.size≠size)||decide (off+v'.cells.size>Ch.size))=false:=by simp;omega
      simp only[c1,abZ,if_false]
      rw[<-ho]
      congr 1
      rw[<-Array.foldl_toList,Array.toList_zipIdx]
     ·cases hf
theorem sh.map {ρ:Operand->AV}{σ:Operand->Value}(h:∀ x,VR e (ρ x) (σ x))(l:List (Nat × Operand)):sh e (l.map fun (i,x)=>(i,ρ x)) (l.map fun (i,x)=>(i,σ x)):=by
 refine⟨by simp[Function.comp_def],?_⟩
 have:=az.map h (l.map (·.2))
 simpa[Function.comp_def] using this
theorem aaK {α β:Type}{f:α->Option β}{g:α->Sem β}{w:World}(h:∀ a b,f a=some b->(g a).run P w = .ok b w):∀ (l:List α) (r:List β),rm f l=some r->(l.mapM g).run P w = .ok r w
 | [],r,hr=>by cases hr;simp
 | a::l,r,hr=>by
  unfold rm at hr
  split at hr
  ·rename_i b hb
   split at hr
   ·rename_i r' eg
    cases hr
    simp[h a b hb,aaK h l r' eg]
   ·cases hr
  ·cases hr
theorem aqx {t:TypeId}{fs:Array Field}{z out:List AV}{pl:List (Nat × Nat)}{parts:List (Nat × AV)}{Cn:Array (Nat × Value)}(hz:zc P t=some z)(hu:P.underlying t=some (.struct fs))
  (vK:Rv P fs=some pl) (hp:sh e parts Cn.toList) (hf:uf (pl[·]?) z parts=some out) (w:World):∃ v',(Instr.build t Cn).run P w = .ok v' w/\VR e (.agg out) v':=by
 obtain⟨i,z0,hi,fQ,hl⟩:=xI (e:=e) hz
 have hm:(fs.mapM (fun f=>do Pure.pure (f.offset,<-sizeOf f.type)):Sem (Array (Nat × Nat))).run P w = .ok pl.toArray w:=by
  rw[<-Array.toArray_toList (xs:=fs),List.mapM_toArray]
  have:=aaK (P:=P) (w:=w) (g:=fun f:Field=>(do Pure.pure (f.offset,<-sizeOf f.type):Sem (Nat × Nat))) (f:=fun f:Field=>(sz P f.type).map fun n=>(f.offset,n)) (by
   intro a b hb
   simp only[yB] at hb
   obtain⟨n,hn,rfl⟩:=hb
   simp[gT hn]) fs.toList pl vK
  rw[Sem.run_map,this];rfl
 obtain⟨kW,ho,hr⟩:=DP (e:=e) (yT:=(pl.toArray[·]?)) (fun i x hx=>by simpa using hx) parts Cn.toList z out z0.cells hp hl hf
 refine⟨.agg kW,?_,.agg _ _ hr.1 hr.2⟩
 simp only[Instr.build,Sem.run_bind,qT hi fQ,Result.andThen_ok,au hu,hm,ho]
 rfl
theorem akk {t el s n:Nat}{z out:List AV}{parts:List (Nat × AV)}{Cn:Array (Nat × Value)}(hz:zc P t=some z)(hu:P.underlying t=some (.array n el))
  (hs:sz P el=some s) (hp:sh e parts Cn.toList) (hf:uf (fun i=>some (i*s,s)) z parts=some out) (w:World):∃ v',(Instr.build t Cn).run P w = .ok v' w/\VR e (.agg out) v':=by
 obtain⟨i,z0,hi,fQ,hl⟩:=xI (e:=e) hz
 obtain⟨kW,ho,hr⟩:=DP (e:=e) (yT:=fun i=>some (i*s,s)) (fun i x hx=>hx) parts Cn.toList z out z0.cells hp hl hf
 refine⟨.agg kW,?_,.agg _ _ hr.1 hr.2⟩
 simp only[Instr.build,Sem.run_bind,qT hi fQ,Result.andThen_ok,au hu,gT hs,ho]
 rfl
theorem Wn {α:Type}(z:List α):∀ (n i:Nat),i<n*z.length->(List.replicate n z).flatten[i]? = z[i % z.length]?
 | 0,i,h=>by simp at h
 | n+1,i,h=>by
  rw[agH,af4]
  by_cases hi:i<z.length
  ·rw[abU hi,aeE hi]
  ·rw[acs (by omega),Wn z n _ (by rw[Nat.succ_mul] at h;omega)]
   congr 1
   have:i=(i-z.length)+z.length:=by omega
   rw[this,Nat.add_mod_right]
   congr 1
   omega
theorem acd (z:Array Value)(n:Nat):((Array.range (n*z.size)).map (z[· % z.size]!)).toList=(List.replicate n z.toList).flatten:=by
 apply List.ext_getElem?
 intro i
 by_cases hi:i<n*z.size
 ·rw[Wn z.toList n i (by simpa using hi)]
  have hz:0<z.size:=by
   rcases Nat.eq_zero_or_pos z.size with h | h
   ·rw[h] at hi;simp at hi
   ·exact h
  have ah:i % z.size<z.size:=ah1 _ hz
  simp[adm,hi,ah]
 ·rw[List.getElem?_eq_none (by simp;omega),List.getElem?_eq_none (by simp;omega)]
theorem az.rep {z:List AV}{z':List Value}(h:az e z z'):∀ n,az e (rep n z) (List.replicate n z').flatten
 | 0=>by simpa[Am.rep] using az.nil e
 | n+1=>by
  have:=h.append (az.rep h n)
  simpa[Am.rep,agH] using this
end
end
section
variable {P:Program}{G:Nat}{F:Nat->Prop}{W:World}{e:Em}{H:Hp}{w:World}
theorem Tc:∀ {l:List AV} {bs:List Nat} {cs:List Value},uW l=some bs->az e l cs->∃ us:List UInt8,bs=us.map (·.toNat)/\cs=us.map (fun b=>Value.int .u8 b.toNat)
 | [],bs,cs,h,hl=>by
  cases h
  rw[hl.iW]
  exact⟨[],rfl,rfl⟩
 | a::l,bs,cs,h,hl=>by
  unfold uW at h
  split at h
  ·rename_i h0;cases h0
  ·rename_i n r h0
   cases h0
   obtain⟨v',ws,rfl,hv,sD⟩:=hl.cons_inv
   cases hv.gQ
   split at h
   ·rename_i hn
    simp only[zf,decide_eq_true_eq] at hn
    simp only[acT,Option.pure_def,aa6,acS] at h
    obtain⟨bs',h1,rfl⟩:=h
    obtain⟨us,rfl,rfl⟩:=Tc h1 sD
    have hu:(UInt8.ofNat n.toNat).toNat=n.toNat:=by
     rw[UInt8.toNat_ofNat'];exact aeE (by omega)
    refine⟨UInt8.ofNat n.toNat::us,by simp only[ab8,hu],?_⟩
    have:((UInt8.ofNat n.toNat).toNat:Int)=n:=by rw[hu];omega
    simp only[ab8,this]
   ·cases h
  ·cases h
theorem ad5 (us:List UInt8):bytes ⟨us.toArray⟩=us.map (·.toNat):=rfl
theorem aao:∀ (us:List UInt8) (s:ByteArray),(us.map fun b=>(b.toNat:Int)).foldl (fun r n=>r.push (UInt8.ofNat n.toNat)) s=⟨s.data++us.toArray⟩
 | [],s=>by simp
 | u::us,s=>by
  simp only[ab8,List.foldl_cons,aao us]
  congr 1
  simp[ByteArray.push]
theorem QP {a:Addr}{us:List UInt8}{cap:Nat}(w:World)(h:∀ j v,(us.map (fun b=>Value.int .u8 b.toNat))[j]? = some v->w.cell? (a.add j)=some v) :
  (Conv.bytesToString (.slice (some a) us.length cap)).run P w = .ok (.string ⟨us.toArray⟩) w:=by
 have h1:=run_loadCells_list (P:=P) w a (us.map (fun b=>Value.int .u8 b.toNat)) h
 rw[adg] at h1
 have h2:=run_bytesToString (P:=P) w a us.length cap (us.map fun b=>(b.toNat:Int)) (by rw[h1];simp[Function.comp_def])
 rw[h2,aao]
 simp[ByteArray.empty,ByteArray.emptyWithCapacity]
 rfl
theorem aeI (n:Int)(h:0<=n/\n<128):bytes (Utf8.encode n)=[n.toNat]:=by
 obtain⟨k,rfl⟩:=Int.eq_ofNat_of_zero_le h.1
 have hk:k<128:=by omega
 have:∀ k:Fin 128,bytes (Utf8.encode ((k.val:Nat):Int))=[k.val]:=by decide +kernel
 exact this ⟨k,hk⟩
theorem ajl (w:World)(C:Array Value)(el:TypeId)(b:Nat)(hb:b=w.heap.size) :
  World.freeze { w with heap:=w.heap.push (.cells C el (0,0)) } { block:=b,off:=C.size } 1={ w with heap:=w.heap.push (.cells C el (C.size,C.size+1)) }:=by
 subst hb
 simp only[World.freeze,Nat.one_ne_zero,if_false]
 congr 1
 apply Array.ext_getElem?
 intro k
 rw[Array.getElem?_modify]
 by_cases hk:w.heap.size=k
 ·subst hk;simp
 ·rw[if_neg hk,aho,aho,if_neg (fun q=>hk q.symm),if_neg (fun q=>hk q.symm)]
def nh (w:World)(el:TypeId)(s:ByteArray):Nat:=(Question.appendCap s.size 0 el).cut (w.tape w.drawn (.appendCap s.size 0 el))
def tX (w:World)(el:TypeId)(s:ByteArray):List Value:=(s.data.toList.map fun b=>Value.int .u8 b.toNat)++List.replicate (nh w el s-s.size) (.int .u8 0)
theorem K2 (w:World)(el:TypeId)(s:ByteArray):s.size<=nh w el s:=Nat.le_add_right _ _
theorem QO (w:World)(el:TypeId)(s:ByteArray):(tX w el s).length=nh w el s:=by
 have:=K2 w el s
 have h2:s.data.size=s.size:=rfl
 simp[tX]
 omega
theorem XJ (P:Program)(w:World)(el:TypeId)(s:ByteArray) :
  (Conv.stringToBytes el s).run P w = .ok (.slice (some ⟨w.heap.size,0,none⟩) s.size (nh w el s)) { w with drawn:=w.drawn+1,heap:=w.heap.push (.cells (tX w el s).toArray el (nh w el s,nh w el s+1)) }:=by
 let w1:World:={ w with drawn:=w.drawn+1 }
 let cap:=nh w el s
 have fe:s.size<=cap:=K2 w el s
 let rest:List Value:=List.replicate (cap-s.size) (.int .u8 0)
 have hlen:((s.data.toList.map fun b=>Value.int .u8 b.toNat)++rest).length=cap:=QO w el s
 have hC:(s.data.map fun b=>Value.int .u8 b.toNat)++Array.replicate (cap-s.size) (.int .u8 0)=((s.data.toList.map fun b=>Value.int .u8 b.toNat)++rest).toArray:=by
  apply adl.1
  simp[rest]
 have F2:(Question.appendCap s.size 0 el).forced=false:=rfl
 simp only[Conv.stringToBytes,Sem.run_bind,run_choose,F2,abZ,if_false,Result.andThen_ok,newRow,run_newObj,Sem.run_pure]
 have hC':(s.data.map fun b=>Value.int .u8 b.toNat)++Array.replicate ((Question.appendCap s.size 0 el).cut (w.tape w.drawn (.appendCap s.size 0 el))-s.size) (.int .u8 0)=((s.data.toList.map fun b=>Value.int .u8 b.toNat)++rest).toArray:=hC
 rw[hC']
 have dp:((s.data.toList.map fun b=>Value.int .u8 b.toNat)++rest).toArray.size=cap:=by simpa using hlen
 have vH:(World.shape? { w1 with heap:=w.heap.push (.cells ((s.data.toList.map fun b=>Value.int .u8 b.toNat)++rest).toArray el (0,0)) } w.heap.size)=some (el,cap):=by
  simp only[World.shape?,Array.getElem?_push_size,dp]
 have II:=ajl w1 ((s.data.toList.map fun b=>Value.int .u8 b.toNat)++rest).toArray el w.heap.size rfl
 rw[dp] at II
 have afQ:(World.shape? { w with heap:=w.heap.push (.cells ((s.data.toList.map fun b=>Value.int .u8 b.toNat)++rest).toArray el (0,0)),drawn:=w.drawn+1 } w.heap.size)=some (el,cap):=vH
 simp only[markStringish,Sem.run_bind,run_shape,Result.andThen_ok,afQ,run_freeze]
 have afW:World.freeze { w with heap:=w.heap.push (.cells ((s.data.toList.map fun b=>Value.int .u8 b.toNat)++rest).toArray el (0,0)),drawn:=w.drawn+1 } { block:=w.heap.size,off:=cap } 1=_:=II
 rw[afW]
 rfl
theorem VB (e:Em)(s:ByteArray):az e ((bytes s).map fun (b:Nat)=>AV.int .u8 b) (s.data.toList.map fun b=>Value.int .u8 b.toNat):=by
 refine⟨by simp[bytes],fun i v v' hv cQ => ?_⟩
 simp only[bytes,agx,adh,yB] at hv cQ
 obtain⟨u,hu,rfl⟩:=hv
 obtain⟨u',jE,rfl⟩:=cQ
 rw[hu] at jE
 cases jE
 exact .int _ _
theorem ahq (h:RH G F W e H w){s:ByteArray}{el i:Nat}{H':Hp}(hn:cI H ((bytes s).map fun (b:Nat)=>AV.int .u8 b) el 1=some (i,H')) :
  ∃ v' w' e',(Conv.stringToBytes el s).run P w = .ok v' w'/\e.le e'/\RH G F W e' H' w'/\VR e' (.slice i 0 (bytes s).length (bytes s).length false 1) v':=by
 have fe:=K2 w el s
 have h1:RH G F W e H { w with drawn:=w.drawn+1 }:=h.drawn _
 have hlen:=QO w el s
 obtain⟨e',he,g1,g2,g3,g4,hr⟩:=h1.newRow (rest:=List.replicate (nh w el s-s.size) (.int .u8 0)) (fz:=(nh w el s,nh w el s+1)) hn (VB e s) (by simp) (fun _ k hk=>by
  have lJ:k<(tX w el s).length:=hk
  rw[hlen] at lJ;simp;omega)
 refine⟨_,_,e',XJ P w el s,he,hr,?_⟩
 have hb:w.heap.size=e'.b i:=g2.symm
 rw[hb,wy]
 have TS:e'.n i=(tX w el s).length:=g4
 refine .slice i 0 s.size s.size false 1 0 _ g1 (by rw[g3];simp) fe fe (by simp) ?_
 rw[TS,hlen];omega
theorem aje {el:TypeId}{count:Nat}(hs:0<P.cellsOf el)(hc:P.cellsOf el<=count):liesAt P P.depth el (count / P.cellsOf el) 0 el 1=true:=by
 have hd:P.depth=(2*(P.types.size+Made.depth)+1)+1:=rfl
 have h1:1<=count / P.cellsOf el:=(Nat.le_div_iff_mul_le hs).2 (by omega)
 have h0:¬ P.cellsOf el=0:=by omega
 rw[hd]
 simp only[liesAt,aff]
 left
 rw[hd]
 simp only[rowAt,if_neg h0,aff,zf]
 left
 simp[h1,sameLayout]
theorem Q2 (h:RH G F W e H w){i:Nat}{c:Tr AV}{lo hi el fl:Nat}(hg:H.h.get i=some (.cells c lo hi el fl)) :
  i<e.N/\∃ C fz,w.heap[e.b i]? = some (.cells C el fz)/\C.size=e.n i/\(lo=0->e.d i=0)/\(fl=0->fz=(0,0)):=by
 obtain⟨hN,ob,dP,dH,_⟩:=h.obj i _ hg
 cases dH with
 | cells _ _ _ _ _ C fz hn gi h0 h1 hd=>exact⟨hN,C,fz,dP,hn,hd,h0⟩
theorem amV (h:RH G F W e H w){src dst:TypeId}{x v:AV}{x':Value}{H':Hp}(hx:VR e x x')(hc:jw P src dst x H=some (v,H')) :
  ∃ v' w' e',(convert src dst x').run P w = .ok v' w'/\e.le e'/\RH G F W e' H' w'/\VR e' v v':=by
 unfold jw at hc
 split at hc
 ·rename_i s d hs hd
  split at hc
  ·cases hx.gQ;cases hc
   exact⟨_,w,e,by simp[convert,au hs,au hd,Conv.intToInt],e.le_refl,h,.int _ _⟩
  ·rename_i n
   cases hx.gQ
   split at hc
   ·rename_i hn
    cases hc
    rw[<-aeI n hn]
    exact⟨_,w,e,by simp[convert,au hs,au hd,Conv.intToString],e.le_refl,h,.str _⟩
   ·cases hc
  ·obtain⟨b,rfl,rfl⟩:=hx.lj
   cases hc
   exact⟨_,w,e,by simp[convert,au hs,au hd],e.le_refl,h,.str _⟩
  ·rename_i el s
   obtain⟨b,rfl,rfl⟩:=hx.lj
   split at hc
   ·rename_i pJ
    split at hc
    ·rename_i i H2 hn
     cases hc
     obtain⟨v',w',e',h1,h2,h3,h4⟩:=ahq (P:=P) h hn
     exact⟨v',w',e',by simp[convert,au hs,au hd,au pJ,h1],h2,h3,h4⟩
    ·cases hc
   ·cases hc
  ·rename_i el0 el i off len cap ex es
   cases hb:(Nat.beq src dst&&Nat.blt 0 len) with
   | false=>rw[hb] at hc;cases hc
   | true=>
    rw[hb] at hc
    simp only[cond_true] at hc
    simp only[zf,adn] at hb
    have hsd:src=dst:=aba hb.1
    split at hc
    ·rename_i c lo hi mD pJ hg
     cases hc
     obtain⟨hN,C,fz,dP,hn,pZ,JH⟩:=Q2 h hg
     have hf:=JH rfl
     subst hf
     rcases hx.lM with⟨o,k,xV,ho,hl,RI,gK,EY,rfl⟩ | ⟨rfl,_,_,_⟩
     ·refine⟨.slice (some ⟨e.b i,o,none⟩) len k,w.freeze { block:=e.b i,off:=C.size } 1,e,?_,e.le_refl,?_,hx⟩
      ·have vH:w.shape? (e.b i)=some (mD,C.size):=by simp[World.shape?,dP]
       simp[convert,au hs,au hd,au pJ,hsd,markStringish,vH]
      ·refine h.put hg rfl (rp := .cells C mD (C.size,C.size+1)) ?_ ?_ ?_ ?_ rfl rfl rfl
       ·simp[World.freeze]
       ·simp only[World.freeze,Nat.one_ne_zero,if_false]
        rw[Hy _ _ _ dP];simp
       ·intro k hk
        simp only[World.freeze,Nat.one_ne_zero,if_false]
        rw[Gj _ _ _ _ (fun q=>hk q.symm)]
       ·obtain⟨_,ob,ZK,dH,_⟩:=h.obj i _ hg
        rw[dP] at ZK
        cases ZK
        cases dH with
        | cells _ _ _ _ _ C fz hn gi h0 h1 hd=>exact .cells _ _ _ _ _ _ _ hn gi (by simp) (fun _ k hk=>by simp;omega) hd
     ·omega
    ·cases hc
  ·rename_i el
   cases hx
   split at hc
   ·rename_i pJ
    cases hc
    refine⟨.string .empty,w,e,by simp[convert,au hs,au hd,au pJ,Conv.bytesToString],e.le_refl,h,?_⟩
    exact .str .empty
   ·cases hc
  ·rename_i el i off len a1 a2 a3
   split at hc
   ·rename_i pJ
    cases hz:Nat.beq len 0 with
    | true=>
     rw[hz] at hc
     cases hc
     have:len=0:=aba hz
     subst this
     rcases hx.lM with⟨o,k,xV,ho,hl,RI,gK,EY,rfl⟩ | ⟨_,_,a,rfl⟩
     ·have:=QP (P:=P) (a:=⟨e.b i,o,none⟩) (us:=[]) (cap:=k) w (by simp)
      exact⟨_,w,e,by simp only[convert,Sem.run_bind,au hs,au hd,au pJ,Result.andThen_ok];exact this,e.le_refl,h,.str ⟨#[]⟩⟩
     ·have:=QP (P:=P) (a:=a) (us:=[]) (cap:=0) w (by simp)
      exact⟨_,w,e,by simp only[convert,Sem.run_bind,au hs,au hd,au pJ,Result.andThen_ok];exact this,e.le_refl,h,.str ⟨#[]⟩⟩
    | false=>
     rw[hz] at hc
     simp only[cond_false,aa6,yB,abT] at hc
     obtain⟨cs,fC,bs,BY,rfl,rfl⟩:=hc
     rcases hx.lM with⟨o,k,xV,ho,hl,RI,gK,EY,rfl⟩ | ⟨rfl,_,a,rfl⟩
     ·obtain⟨vs,h1,h2,h3⟩:=h.AT fC ho
      obtain⟨us,rfl,rfl⟩:=Tc BY h1
      rw[adg] at h2
      have:=QP (P:=P) (a:=⟨e.b i,o,none⟩) (us:=us) (cap:=k) w (fun j v hj=>by rw[add_lit];exact h3 j v hj)
      rw[h2] at this
      refine⟨_,w,e,by simp only[convert,Sem.run_bind,au hs,au hd,au pJ,Result.andThen_ok];exact this,e.le_refl,h,?_⟩
      rw[<-ad5];exact .str _
     ·simp at hz
   ·cases hc
  ·rename_i t i o
   cases hb:((cellAt H i o).isSome&&yh P t) with
   | false=>rw[hb] at hc;cases hc
   | true=>
    rw[hb] at hc
    cases hc
    rw[zf] at hb
    obtain⟨u,hu⟩:=aeY.1 hb.1
    obtain⟨n,hn⟩:∃ n,sz P t=some (n+1):=by
     have:=hb.2
     unfold yh at this
     split at this
     ·rename_i n hn;exact⟨n,hn⟩
     ·cases this
    obtain⟨o',hi,ho,rfl⟩:=hx.pA
    have ah:=h.S5 hu ho
    obtain⟨c,lo,gS,el,fl,hg,_,_,_⟩:=M1 hu
    obtain⟨hN,C,fz,dP,EY,_,_⟩:=Q2 h hg
    have vH:w.shape? (e.b i)=some (el,C.size):=by simp[World.shape?,dP]
    have kZ:¬ C.size<=o':=by omega
    refine⟨_,w,e,?_,e.le_refl,h,hx⟩
    simp[convert,au hs,au hd,Conv.unsafePointer,Conv.seenAt,viewAt,cellsIn,vH,gT hn,kZ]
  ·rename_i u i o
   split at hc
   ·rename_i c lo hi el fl hg
    cases hb:(Nat.beq el u&&Nat.beq lo 0&&Nat.beq o 0&&Nat.blt 0 (P.cellsOf u)&&(cellAt H i (P.cellsOf u-1)).isSome) with
    | false=>rw[hb] at hc;cases hc
    | true=>
     rw[hb] at hc
     cases hc
     simp only[zf,adn] at hb
     obtain⟨⟨⟨⟨b1,b2⟩,b3⟩,b4⟩,b5⟩:=hb
     have e1:el=u:=aba b1
     have e2:lo=0:=aba b2
     have e3:o=0:=aba b3
     subst e1;subst e2;subst e3
     obtain⟨q,hq⟩:=aeY.1 b5
     obtain⟨hN,C,fz,dP,EY,pZ,_⟩:=Q2 h hg
     obtain⟨o',hi,ho,rfl⟩:=hx.pA
     have hd0:=pZ rfl
     have Cv:o'=0:=by omega
     subst Cv
     have ah:=h.S5 (o:=P.cellsOf el-1) hq (by omega)
     have vH:w.shape? (e.b i)=some (el,C.size):=by simp[World.shape?,dP]
     have hl:=aje (P:=P) (el:=el) (count:=C.size) b4 (by omega)
     have agD:sz P el=some (P.cellsOf el):=by
      unfold sz
      unfold Program.cellsOf at b4 ⊢
      cases hi:P.info? el with
      | none=>simp[hi] at b4
      | some inf=>simp
     refine⟨_,w,e,?_,e.le_refl,h,hx⟩
     simp[convert,au hs,au hd,Conv.unsafePointer,Conv.seenAt,viewAt,vH,gT agD,variablesAt,hl]
   ·cases hc
  ·cases hc
 ·cases hc
end
end Go.Proofs.YtehhgkgeldinkaaGreatDoor.Am
