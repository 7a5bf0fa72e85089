/- The evaluator's operations are sound, first part (of no program). -/
import Derived.Test.YtodfajmihkagnaaGreatDoorAm1
set_option linter.unusedVariables false
set_option linter.unusedSimpArgs false
namespace Go.Proofs.YtodfajmihkagnaaGreatDoor.Am
def eu (P:Program) (G:Nat) (F:Nat->Prop) (W:World) (e:Em) (v:AV) (H':Hp) (r:Result Next):Prop:=
 ∃ n w' e' v',r = .ok n w'/\(n = .value v'\/(n = .skip/\v'=undef))/\e.le e'/\RH G F W e' H' w'/\VR e' v v'
section
variable {P:Program} {G:Nat} {F:Nat->Prop} {W:World} {e:Em} {H:Hp} {w:World}
theorem eu.pure {s:Sem Value} {v:AV} {v':Value} (h:RH G F W e H w) (hs:s.run P w = .ok v' w) (hv:VR e v v') :
  eu P G F W e v H ((do Pure.pure (Next.value (<-s)):Sem Next).run P w):=
 ⟨.value v',w,e,v',by simp[hs],.inl rfl,e.le_refl,h,hv⟩
theorem eu.val {s:Sem Value} {v:AV} {v':Value} {e':Em} {H':Hp} {w':World} (hs:s.run P w = .ok v' w') (he:e.le e') (h:RH G F W e' H' w') (hv:VR e' v v') :
  eu P G F W e v H' ((do Pure.pure (Next.value (<-s)):Sem Next).run P w):=
 ⟨.value v',w',e',v',by simp[hs],.inl rfl,he,h,hv⟩
theorem VR.undef:VR e bS undef := .tuple [] #[] rfl (by simp)
theorem eu.unit {s:Sem Unit} {e':Em} {H':Hp} {w':World} (hs:s.run P w = .ok () w') (he:e.le e') (h:RH G F W e' H' w') :
  eu P G F W e bS H' ((do s;Pure.pure Next.skip:Sem Next).run P w):=
 ⟨.skip,w',e',_,by simp[hs],.inr ⟨rfl,rfl⟩,he,h,.undef⟩
theorem VR.nW {v:Value} {a:AV} (h:nW v=some a):VR e a v:=by
 unfold Am.nW at h
 split at h<;>simp only[acu,reduceCtorEq] at h<;>subst h<;>constructor
theorem aP.nW:∀ {vs:List Value} {l:List AV},vs.mapM Am.nW=some l->aP e l vs
 | [],l,h=>by simp at h;subst h;exact .nil e
 | v::vs,l,h=>by
  simp only[List.mapM_cons,aca,Option.pure_def,abz,acu] at h
  obtain⟨a,ha,r,hr,rfl⟩:=h
  exact .cons (.nW ha) (aP.nW hr)
theorem VR.jB {v:Value} {a:AV} (h:jB v=some a):VR e a v:=by
 unfold Am.jB at h
 split at h
 ·simp only[aaF] at h
  obtain⟨l,hl,rfl⟩:=h
  have:=aP.nW (e:=e) hl
  exact .agg _ _ this.1 this.2
 ·simp only[aaF] at h
  obtain⟨l,hl,rfl⟩:=h
  have:=aP.nW (e:=e) hl
  exact .tuple _ _ this.1 this.2
 ·simp only[aaF] at h
  obtain⟨l,hl,rfl⟩:=h
  exact .iface _ _ _ (.nW hl)
 ·exact .nW h
theorem xu {t:TypeId} {l:List AV} (h:zc P t=some l):∃ i z,P.info? t=some i/\i.zero=some z/\aP e l z.cells.toList:=by
 simp only[zc,aca,abz] at h
 obtain⟨i,hi,z,hz,hl⟩:=h
 exact⟨i,z,hi,hz,.nW hl⟩
theorem rr {t:TypeId} {i:TypeInfo} {z:Value} (hi:P.info? t=some i) (hz:i.zero=some z) (w:World):(zeroValue t).run P w = .ok z w:=by
 simp[zeroValue,oV hi,hz]
theorem ams (h:RH G F W e H w) {t:TypeId} {l:List AV} {i:Nat} {H':Hp} (hz:zc P t=some l) (hn:aL H l t 0=some (i,H')) :
  ∃ v' w' e',(Instr.alloc t true (.tuple #[])).run P w = .ok v' w'/\e.le e'/\RH G F W e' H' w'/\VR e' (.ptr i 0) v':=by
 obtain⟨inf,z,hi,fD,hl⟩:=xu (e:=e) hz
 obtain⟨e',he,h1,h2,h3,h4,hr⟩:=h.newRow (rest:=[]) (fz:=(0,0)) hn hl (fun _=>rfl) (by simp)
 refine⟨.pointer (some ⟨w.heap.size,0,none⟩),_,e',?_,he,hr,?_⟩
 ·simp[Instr.alloc,rr hi fD,newVar,Go.newRow]
 ·rw[<-h2];exact .ptr i 0 0 h1 (by rw[h3];simp)
theorem ad2 (h:RH G F W e H w) {t:TypeId} {v:AV} {v':Value} {l:List AV} {i:Nat} {H':Hp} (hv:VR e v v') (hz:pY v=some l) (hn:aL H l t 0=some (i,H')) :
  ∃ u w' e',(Instr.box t v').run P w = .ok u w'/\e.le e'/\RH G F W e' H' w'/\VR e' (.ptr i 0) u:=by
 have hl:=hv.cells hz
 obtain⟨e',he,h1,h2,h3,h4,hr⟩:=h.newRow (rest:=[]) (fz:=(0,0)) hn hl (fun _=>rfl) (by simp)
 refine⟨.pointer (some ⟨w.heap.size,0,none⟩),_,e',?_,he,hr,?_⟩
 ·simp[Instr.box,newVar,Go.newRow]
 ·rw[<-h2];exact .ptr i 0 0 h1 (by rw[h3];simp)
theorem yD {t:TypeId} {cs:List AV} {vs:Array Value} {off:Nat} {v:AV} (hl:aP e cs vs.toList) (hp:mo P t cs off=some v) (w:World) :
  ∃ v',(part t vs off).run P w = .ok v' w/\VR e v v':=by
 simp only[mo,aca,abz] at hp
 obtain⟨b,hb,hp⟩:=hp
 cases b with
 | true=>
  simp only[if_true,abz] at hp
  obtain⟨n,hn,hp⟩:=hp
  cases hc:Nat.ble (off+n) cs.length with
  | false=>rw[hc] at hp;cases hp
  | true=>
   rw[hc] at hp
   simp only[cond_true,acu] at hp
   subst hp
   refine⟨.agg (vs.extract off (off+n)),by simp[part,I1 hb,gN hn],?_⟩
   have:=(hl.drop off).take n
   have e2:(vs.extract off (off+n)).toList=(vs.toList.drop off).take n:=by simp[Array.toList_extract,List.extract]
   exact .agg _ _ (by rw[e2];exact this.1) (by rw[e2];exact this.2)
 | false=>
  simp only[abD,if_false] at hp
  obtain⟨v',cl,hr⟩:=hl.get hp
  rw[adw] at cl
  exact⟨v',by simp[part,I1 hb,cl],hr⟩
theorem aeO {t:TypeId} {x v:AV} {x':Value} {f:Nat} {fs:Array Field} {fd:Field} (hx:VR e x x') (hu:P.underlying t=some (.struct fs)) (hf:fs[f]? = some fd)
  {cs:List AV} (hxs:x = .agg cs) (hp:mo P fd.type cs fd.offset=some v) (w:World):∃ v',(Instr.field t x' f).run P w = .ok v' w/\VR e v v':=by
 subst hxs
 obtain⟨vs,rfl,hl⟩:=hx.vK
 obtain⟨v',cl,hr⟩:=yD hl hp w
 exact⟨v',by simp[Instr.field,aJ hu,hf,asAgg,cl],hr⟩
theorem amA {t:TypeId} {i o n:Nat} {x':Value} {f:Nat} {fs:Array Field} {fd:Field} (hx:VR e (.ptr i o) x') (hu:P.underlying t=some (.struct fs)) (hf:fs[f]? = some fd)
  (hs:sz P fd.type=some n) (hn:n≠0) (w:World):∃ v',(Instr.fieldAt t x' f).run P w = .ok v' w/\VR e (.ptr i (o+fd.offset)) v':=by
 obtain⟨o',hi,ho,rfl⟩:=hx.p8
 refine⟨.pointer (some ⟨e.b i,o'+fd.offset,none⟩),?_,.ptr _ _ _ hi (by omega)⟩
 simp[Instr.fieldAt,aJ hu,hf,Instr.sureAddr,fieldPlace,gN hs,hn,add_lit]
theorem ahg {t:TypeId} {x ix v:AV} {x' Hn:Value} (hx:VR e x x') (qp:VR e ix Hn) (ha:Dx P t x ix=some v) (w:World) :
  ∃ v',(Instr.indexAt t x' Hn).run P w = .ok v' w/\VR e v v':=by
 simp only[Dx,aca,abz] at ha
 obtain⟨d,hd,ha⟩:=ha
 split at ha
 ·rename_i n el i off kk k
  simp only[abz] at ha
  obtain⟨es,dK,ha⟩:=ha
  split at ha
  ·rename_i hk
   simp only[aa9,decide_eq_true_eq] at hk
   cases ha
   obtain⟨o,hi,ho,rfl⟩:=hx.p8
   obtain rfl:=qp.fN
   refine⟨.pointer (some ⟨e.b i,o+k.toNat*es,none⟩),?_,.ptr _ _ _ hi (by omega)⟩
   simp[Instr.indexAt,asIntOf,aJ hd,Instr.sureAddr,hk.1,hk.2,gN dK,add_lit]
  ·cases ha
 ·rename_i el i off len cap ex es kk k
  simp only[abz] at ha
  obtain⟨aO,dK,ha⟩:=ha
  split at ha
  ·rename_i hk
   simp only[aa9,decide_eq_true_eq,beq_iff_eq] at hk
   obtain⟨⟨rfl,tD⟩,fV⟩:=hk
   cases ha
   obtain rfl:=qp.fN
   rcases hx.lz with⟨o,c,hi,ho,hl,hc,iO,hn,rfl⟩ | ⟨rfl,_,_,_⟩
   ·refine⟨.pointer (some ⟨e.b i,o+k.toNat*aO,none⟩),?_,.ptr _ _ _ hi (by omega)⟩
    simp[Instr.indexAt,asIntOf,aJ hd,tD,fV,gN dK,add_lit]
   ·omega
  ·cases ha
 ·cases ha
theorem ad4 {t:TypeId} {x ix v:AV} {x' Hn:Value} (hx:VR e x x') (qp:VR e ix Hn) (ha:Dp P t x ix=some v) (w:World) :
  ∃ v',(Instr.index t x' Hn).run P w = .ok v' w/\VR e v v':=by
 simp only[Dp,aca,abz] at ha
 obtain⟨d,hd,ha⟩:=ha
 split at ha
 ·rename_i n el cs kk k
  simp only[abz] at ha
  obtain⟨es,dK,ha⟩:=ha
  split at ha
  ·rename_i hk
   simp only[aa9,decide_eq_true_eq] at hk
   obtain⟨vs,rfl,hl⟩:=hx.vK
   obtain rfl:=qp.fN
   obtain⟨v',cl,hr⟩:=yD hl ha w
   exact⟨v',by simp[Instr.index,asIntOf,aJ hd,hk.1,hk.2,gN dK,cl],hr⟩
  ·cases ha
 ·rename_i s kk k
  split at ha
  ·rename_i hk
   obtain⟨b,rfl,rfl⟩:=hx.lR
   obtain rfl:=qp.fN
   simp only[aaF] at ha
   obtain⟨c,hc,rfl⟩:=ha
   simp only[bytes,ada,aaF] at hc
   obtain⟨u,hu,rfl⟩:=hc
   refine⟨.int .u8 u.toNat,?_,.int _ _⟩
   have hb:b[k.toNat]? = some u:=by
    have h1:k.toNat<b.data.toList.length:=(aaK.1 hu).1
    have h2:k.toNat<b.size:=by rw[ahy] at h1;exact h1
    rw[getElem?_pos b k.toNat h2]
    congr 1
    have h3:=(aaK.1 hu).2
    rw[<-h3]
    rfl
   simp[Instr.index,asIntOf,aJ hd,hk,hb]
  ·cases ha
 ·cases ha
theorem DE {lo hi:Nat} {v:AV} {v':Value} {n:Nat} (hv:VR e v v') (h:bound lo hi v=some n):∃ k:IntKind,∃ z:Int,v' = .int k z/\lo<=n/\n<=hi/\z=n:=by
 unfold bound at h
 split at h
 ·rename_i k z
  split at h
  ·rename_i hk
   simp only[aa9,decide_eq_true_eq] at hk
   cases h
   exact⟨k,z,hv.fN,by omega,by omega,by omega⟩
  ·cases h
 ·cases h
def ua (e:Em):Option AV->Option Value->Prop
 | none,none=>True
 | some a,some b=>VR e a b
 | _,_=>False
theorem xN {z:Int} {k:IntKind} {n y:Nat} {code:BoundsCode} (h:z=n) (hy:n<=y) (w:World):(Instr.sliceBound (.int k z) y code).run P w = .ok n w:=by
 subst h
 simp[Instr.sliceBound,asIntOf,hy]
theorem EE {qJ:Bool} {len cap rF:Nat} {low high mx:Option AV} {uA yO zp:Option Value} (h1:ua e low uA) (h2:ua e high yO) (h3:ua e mx zp)
  {l h m:Nat} (hb:qA len cap low high mx=some (l,h,m)) (hl:len<=rF) (hc:cap<=rF) (w:World) :
  (Instr.sliceBounds qJ len rF uA yO zp).run P w = .ok (l,h,if mx.isSome then m else rF) w/\l<=h/\(mx=none->m=cap)/\(mx.isSome=true->h<=m/\m<=cap)/\(high=none->h=len)/\(mx=none->high.isSome=true->h<=cap):=by
 simp only[qA,aca,abz,Option.pure_def,acu,ab7] at hb
 obtain⟨m0,hm,h0,hh,l0,qm,rfl,rfl,rfl⟩:=hb
 cases mx with
 | some mv=>
  cases zp with
  | none=>exact h3.elim
  | some mv'=>
   obtain⟨km,zm,rfl,_,pj,Tu⟩:=DE h3 hm
   cases high with
   | none=>cases hh
   | some hv=>
    cases yO with
    | none=>exact h2.elim
    | some cl=>
     obtain⟨kh,zh,rfl,_,oY,GW⟩:=DE h2 hh
     cases low with
     | none=>
      cases uA with
      | some _=>exact h1.elim
      | none=>
       cases qm
       refine⟨?_,by omega,by simp,fun _=>⟨oY,pj⟩,by simp,by simp⟩
       simp[Instr.sliceBounds,xN Tu (show m0<=rF by omega),xN GW oY]
     | some lv=>
      cases uA with
      | none=>exact h1.elim
      | some SC=>
       obtain⟨kl,zl,rfl,_,mR,AP⟩:=DE h1 qm
       refine⟨?_,mR,by simp,fun _=>⟨oY,pj⟩,by simp,by simp⟩
       simp[Instr.sliceBounds,xN Tu (show m0<=rF by omega),xN GW oY,xN AP mR]
 | none=>
  cases zp with
  | some _=>exact h3.elim
  | none=>
   cases hm
   cases high with
   | none=>
    cases yO with
    | some _=>exact h2.elim
    | none=>
     cases hh
     cases low with
     | none=>
      cases uA with
      | some _=>exact h1.elim
      | none=>cases qm;exact⟨by simp[Instr.sliceBounds],by omega,by simp,by simp,by simp,by simp⟩
     | some lv=>
      cases uA with
      | none=>exact h1.elim
      | some SC=>
       obtain⟨kl,zl,rfl,_,mR,AP⟩:=DE h1 qm
       exact⟨by simp[Instr.sliceBounds,xN AP mR],mR,by simp,by simp,by simp,by simp⟩
   | some hv=>
    cases yO with
    | none=>exact h2.elim
    | some cl=>
     obtain⟨kh,zh,rfl,_,oY,GW⟩:=DE h2 hh
     cases low with
     | none=>
      cases uA with
      | some _=>exact h1.elim
      | none=>cases qm;exact⟨by simp[Instr.sliceBounds,xN GW (show h0<=rF by omega)],by omega,by simp,by simp,by simp,fun _ _=>oY⟩
     | some lv=>
      cases uA with
      | none=>exact h1.elim
      | some SC=>
       obtain⟨kl,zl,rfl,_,mR,AP⟩:=DE h1 qm
       exact⟨by simp[Instr.sliceBounds,xN GW (show h0<=rF by omega),xN AP mR],mR,by simp,by simp,by simp,fun _ _=>oY⟩
theorem aP.Uw (b:ByteArray) (l h:Nat):((bytes b).drop l).take (h-l)=bytes (b.extract l h):=by
 unfold bytes
 rw[ByteArray.data_extract,Array.toList_extract,List.extract,List.map_take,List.map_drop]
theorem am7 (hRH:RH G F W e H w) {t:TypeId} {x v:AV} {x':Value} {low high mx:Option AV} {uA yO zp:Option Value} (hx:VR e x x') (h1:ua e low uA) (h2:ua e high yO) (h3:ua e mx zp)
  (ha:qX P t x low high mx H=some v):∃ v',(Instr.sliceAt t x' uA yO zp).run P w = .ok v' w/\VR e v v':=by
 simp only[qX,aca,abz] at ha
 obtain⟨d,hd,ha⟩:=ha
 split at ha
 ·rename_i s
  obtain⟨b,rfl,rfl⟩:=hx.lR
  cases mx with
  | some _=>simp at ha
  | none=>
   cases zp with
   | some _=>exact h3.elim
   | none=>
    simp only[aeB,abD,if_false,abz,Prod.exists] at ha
    obtain⟨l,h,m,hb,hv⟩:=ha
    simp only[acu] at hv
    subst hv
    have eH:(bytes b).length=b.size:=by unfold bytes;rw[ac7,ahy];rfl
    rw[eH] at hb
    obtain⟨hr,JF,hm,_,yv,oY⟩:=EE (P:=P) (qJ:=false) h1 h2 h3 hb (abe _) (abe _) w
    simp only[aeB,abD,if_false] at hr
    refine⟨.string (b.extract l h),by simp[Instr.sliceAt,Instr.slice,aJ hd,hr],?_⟩
    rw[aP.Uw];exact .str _
 ·rename_i el
  simp only[abz,Prod.exists] at ha
  obtain⟨l,h,m,hb,hv⟩:=ha
  split at hv
  ·rename_i hs
   simp only[acu] at hv
   subst hv
   obtain⟨es,dK⟩:=agu.1 hs
   cases hx
   obtain⟨hr,JF,hm,pj,yv,oY⟩:=EE (P:=P) (qJ:=true) h1 h2 h3 hb (abe _) (abe _) w
   refine⟨.slice none 0 0,?_,.ah⟩
   have hh:h=0:=by
    cases mx with
    | some _=>have:=pj rfl;omega
    | none=>
     cases high with
     | none=>exact yv rfl
     | some _=>have:=oY rfl rfl;omega
   have qm:l=0:=by omega
   subst hh;subst qm
   have Ov:(if mx.isSome=true then m else 0)=0:=by
    split
    ·rename_i N2;have:=pj N2;omega
    ·rfl
   rw[Ov] at hr
   simp[Instr.sliceAt,Instr.slice,aJ hd,hr,gN dK]
  ·cases hv
 ·rename_i el i off len cap ex es
  simp only[abz,Prod.exists] at ha
  obtain⟨l,h,m,hb,aO,dK,hv⟩:=ha
  split at hv
  ·rename_i hs
   simp only[beq_iff_eq] at hs
   subst hs
   simp only[acu] at hv
   subst hv
   rcases hx.lz with⟨o,c,hi,ho,hl,hc,iO,hn,rfl⟩ | ⟨rfl,rfl,a,rfl⟩
   ·obtain⟨hr,JF,hm,pj,yv,oY⟩:=EE (P:=P) (qJ:=true) h1 h2 h3 hb hl hc w
    have B4:h<=(if mx.isSome=true then m else c)/\m<=(if mx.isSome=true then m else c)/\(if mx.isSome=true then m else c)<=c/\((ex||mx.isSome)=true->(if mx.isSome=true then m else c)=m):=by
     cases mx with
     | some _=>have:=pj rfl;simp;omega
     | none=>
      have hmc:=hm rfl
      simp only[aeB,abD,if_false,Bool.or_false]
      refine⟨?_,by omega,by omega,fun nQ=>by rw[iO nQ,hmc]⟩
      cases high with
      | none=>have:=yv rfl;omega
      | some _=>have:=oY rfl rfl;omega
    generalize (if mx.isSome=true then m else c)=m' at hr B4
    obtain⟨vn,qn,hq3,QB⟩:=B4
    by_cases xL:m'=l
    ·have e1:h-l=0:=by omega
     have e2:m-l=0:=by omega
     refine⟨.slice (some ⟨e.b i,o,none⟩) 0 0,?_,by rw[e1,e2];exact .yG ..⟩
     have e3:h=l:=by omega
     simp[Instr.sliceAt,Instr.slice,aJ hd,hr,gN dK,xL,e3]
    ·refine⟨.slice (some ⟨e.b i,o+l*aO,none⟩) (h-l) (m'-l),?_,.slice _ _ _ _ _ _ _ _ hi (by omega) (by omega) (by omega) (fun nQ=>by rw[QB nQ]) ?_⟩
     ·simp[Instr.sliceAt,Instr.slice,aJ hd,hr,gN dK,xL,add_lit]
     ·have:o+l*aO+(m'-l)*aO=o+m'*aO:=by
       rw[ag0,<-aeT];congr 2;omega
      rw[this]
      have:m'*aO<=c*aO:=adY _ hq3
      omega
   ·obtain⟨hr,JF,hm,pj,yv,oY⟩:=EE (P:=P) (qJ:=true) (rF:=0) h1 h2 h3 hb (abe _) (abe _) w
    have hh:h=0:=by
     cases mx with
     | some _=>have:=pj rfl;omega
     | none=>
      cases high with
      | none=>exact yv rfl
      | some _=>have:=oY rfl rfl;omega
    have qm:l=0:=by omega
    have Ov:(if mx.isSome=true then m else 0)=0:=by
     split
     ·rename_i N2;have:=pj N2;omega
     ·rfl
    have yk:m=0:=by
     cases mx with
     | some _=>have:=pj rfl;omega
     | none=>exact hm rfl
    subst hh;subst qm;subst yk
    rw[Ov] at hr
    exact⟨.slice (some a) 0 0,by simp[Instr.sliceAt,Instr.slice,aJ hd,hr,gN dK],.yG ..⟩
  ·cases hv
 ·rename_i n el i off
  simp only[abz,Prod.exists] at ha
  obtain⟨l,h,m,hb,es,dK,hv⟩:=ha
  split at hv
  ·rename_i hs
   simp only[aa9,adq] at hs
   obtain⟨Dn,qc⟩:=hs
   obtain⟨u,hu⟩:=agu.1 qc
   simp only[acu] at hv
   subst hv
   obtain⟨o,hi,ho,rfl⟩:=hx.p8
   obtain⟨hr,JF,hm,pj,yv,oY⟩:=EE (P:=P) (qJ:=false) h1 h2 h3 hb (abe _) (abe _) w
   have aQ:=hRH.O4 (o:=o+n*es-1) hu (by omega)
   have V2:(if mx.isSome=true then m else n)=m/\m<=n/\h<=m:=by
    cases mx with
    | some _=>have:=pj rfl;simp;omega
    | none=>
     have:=hm rfl
     subst this
     refine⟨by simp,abe _,?_⟩
     cases high with
     | none=>have:=yv rfl;omega
     | some _=>exact oY rfl rfl
   rw[V2.1] at hr
   obtain⟨_,vn,qn⟩:=V2
   by_cases xL:m=l
   ·have e1:h-l=0:=by omega
    have e2:m-l=0:=by omega
    refine⟨.slice (some ⟨e.b i,o,none⟩) 0 0,?_,by rw[e1,e2];exact .yG ..⟩
    have e3:h=l:=by omega
    simp[Instr.sliceAt,aJ hd,Instr.sureAddr,hr,gN dK,xL,e3]
   ·refine⟨.slice (some ⟨e.b i,o+l*es,none⟩) (h-l) (m-l),?_,.slice _ _ _ _ _ _ _ _ hi (by omega) (by omega) (by omega) (fun _=>rfl) ?_⟩
    ·simp[Instr.sliceAt,aJ hd,Instr.sureAddr,hr,gN dK,xL,add_lit]
    ·have:o+l*es+(m-l)*es=o+m*es:=by
      rw[ag0,<-aeT];congr 2;omega
     rw[this]
     have:m*es<=n*es:=adY _ vn
     omega
  ·cases hv
 ·cases ha
end
end Go.Proofs.YtodfajmihkagnaaGreatDoor.Am
namespace Go.Proofs.YtodfajmihkagnaaGreatDoor.Am
section
variable {P:Program} {G:Nat} {F:Nat->Prop} {W:World} {e:Em} {H:Hp} {w:World}
theorem vf (b:ByteArray):(bytes b).length=b.size:=by unfold bytes;rw[ac7,ahy];rfl
theorem TY:∀ {x y:List UInt8},x.map (·.toNat)=y.map (·.toNat)->x=y
 | [],[],_=>rfl
 | [],_::_,h=>by simp at h
 | _::_,[],h=>by simp at h
 | a::x,b::y,h=>by
  simp only[acJ,List.cons.injEq] at h
  rw[UInt8.toNat_inj.1 h.1,TY h.2]
theorem bytes_beq (a b:ByteArray):(bytes a==bytes b)=(a.data.toList==b.data.toList):=by
 unfold bytes
 by_cases h:a.data.toList=b.data.toList
 ·rw[h];simp
 ·have:¬ (a.data.toList.map (·.toNat)=b.data.toList.map (·.toNat)):=fun h2=>h (TY h2)
  rw[beq_eq_false_iff_ne.2 h,beq_eq_false_iff_ne.2 this]
theorem Yr:∀ (x y:List UInt8),qa (x.map (·.toNat)) (y.map (·.toNat))=Op.bytesLess x y
 | x,[]=>by cases x<;>simp[qa,Op.bytesLess]
 | [],b::y=>by simp[qa,Op.bytesLess]
 | a::x,b::y=>by
  simp only[acJ,qa,Op.bytesLess,Yr x y]
  congr 1
  ·by_cases h:a.toNat<b.toNat
   ·have:a<b:=by rw[UInt8.lt_iff_toNat_lt];exact h
    simp[this,h]
   ·have:¬ a<b:=by rw[UInt8.lt_iff_toNat_lt];exact h
    have h2:Nat.blt a.toNat b.toNat=false:=by
     cases hb:Nat.blt a.toNat b.toNat
     ·rfl
     ·rw[adq] at hb;exact absurd hb h
    simp[this,h2]
  ·congr 1
   by_cases h:a=b
   ·subst h;simp
   ·have h2:¬ a.toNat=b.toNat:=fun q=>h (UInt8.toNat_inj.1 q)
    rw[nY h2,beq_eq_false_iff_ne.2 h]
theorem ajo (a b:ByteArray):bytes (a++b)=bytes a++bytes b:=by
 unfold bytes;rw[ByteArray.data_append,Array.toList_append,adu]
theorem aaZ (k:IntKind) (a:Int) (h:0<=a):(BitVec.ofInt k.bits a).toNat=a.toNat % 2 ^ k.bits:=by
 rw[ahG]
 obtain⟨n,rfl⟩:=Int.eq_ofNat_of_zero_le h
 rw[ab9]
 have:((n:Int) % ((2 ^ k.bits:Nat):Int))=((n % 2 ^ k.bits:Nat):Int):=by norm_cast
 rw[this,ab9]
theorem Tc {α:Type} (g:α->Option Bool) (body:α->Option Bool × Unit->Sem (ForInStep (Option Bool × Unit))) (w:World)
  (hb:∀ a b,g a=some b->(body a (none,())).run P w = .ok (if b then .yield (none,()) else .done (some false,())) w) :
  ∀ (l:List α) (b:Bool),pZ g l=some b->(forIn l (none,()) body).run P w = .ok (if b then (none,()) else (some false,())) w:=by
 intro l
 induction l with
 | nil=>intro b h;simp only[pZ,acu] at h;subst h;simp
 | cons a r ih=>
  intro b h
  unfold pZ at h
  split at h
  ·rename_i hg
   rw[List.forIn_cons,Sem.run_bind,hb a true hg]
   exact ih b h
  ·rename_i hg
   cases h
   rw[List.forIn_cons,Sem.run_bind,hb a false hg]
   simp
  ·cases h
theorem SL (p q:ByteArray):(p==q)=(bytes p==bytes q):=by
 rw[bytes_beq]
 have h0:(p==q)=(p.data==q.data):=by cases p;cases q;rfl
 rw[h0]
 by_cases e:p.data=q.data
 ·rw[e];simp
 ·have:¬ p.data.toList=q.data.toList:=fun h2=>e (ado.1 h2)
  rw[beq_eq_false_iff_ne.2 e,beq_eq_false_iff_ne.2 this]
theorem Zk (h:RH G F W e H w) {i:Nat} (hc:clean H i=true):∃ C el,i<e.N/\w.heap[e.b i]? = some (.cells C el (0,0))/\(∃ o,H.h.get i=some o/\wr o=true):=by
 unfold clean at hc
 split at hc
 ·rename_i c lo hi el hg
  obtain⟨hN,ob,ep,eg,_⟩:=h.obj i _ hg
  cases eg with
  | cells _ _ _ _ _ C fz hn ik h0 h1 hd=>
   have:=h0 rfl
   subst this
   exact⟨C,el,hN,ep,_,hg,rfl⟩
 ·cases hc
set_option maxHeartbeats 2000000 in
theorem ES (h:RH G F W e H w):∀ (d D:Nat),d<=D->∀ (t:TypeId) (x y:AV) (x' y':Value) (b:Bool),VR e x x'->VR e y y'->dZ P d t x y H=some b->
  (Op.equalIn D t x' y').run P w = .ok b w:=by
 intro d
 induction d with
 | zero=>intro D _ t x y x' y' b _ _ hb;cases hb
 | succ d ih=>
  intro D hD t x y x' y' b hx hy hb
  obtain⟨D,rfl⟩:∃ k,D=k+1:=⟨D-1,by omega⟩
  unfold dZ at hb
  split at hb
  ·cases hb
  rename_i u hu
  split at hb
  ·cases hx.so;cases hy.so;cases hb;simp[Op.equalIn,aJ hu]
  ·cases hx.fN;cases hy.fN
   split at hb
   ·rename_i hk;cases hb;simp[Op.equalIn,aJ hu,hk]
   ·cases hb
  ·obtain⟨p,rfl,rfl⟩:=hx.lR
   obtain⟨q,rfl,rfl⟩:=hy.lR
   cases hb
   have:=SL p q
   simp[Op.equalIn,aJ hu,this]
  ·cases hx;cases hy;cases hb;simp[Op.equalIn,aJ hu]
  ·cases hx;cases hy;cases hb;simp[Op.equalIn,aJ hu]
  ·cases hx;cases hy;cases hb;simp[Op.equalIn,aJ hu]
  ·rename_i el i a j c
   split at hb
   ·rename_i n hn
    obtain⟨o,hi,ho,rfl⟩:=hx.p8
    obtain⟨o2,hj,nF,rfl⟩:=hy.p8
    cases nD:Nat.beq i j with
    | true=>
     have:i=j:=abC nD
     subst this
     rw[nD] at hb
     cases hb
     have:(Nat.beq a c)=(o==o2):=by
      by_cases q:a=c
      ·subst q
       have:o=o2:=by omega
       subst this;simp
      ·rw[nY q,beq_eq_false_iff_ne.2 (by omega)]
     simp[Op.equalIn,aJ hu,gN hn,sameAddr,this]
     by_cases q:o=o2
     ·subst q;simp
     ·rw[beq_eq_false_iff_ne.2 q,beq_eq_false_iff_ne.2 (by simp;exact q)]
    | false=>
     rw[nD] at hb
     cases lu:(clean H i&&clean H j) with
     | false=>rw[lu] at hb;cases hb
     | true=>
      rw[lu] at hb
      cases hb
      rw[aa9] at lu
      obtain⟨C1,l1,_,g1,o1,q1,u1⟩:=Zk h lu.1
      obtain⟨C2,l2,_,g2,o3,q2,u2⟩:=Zk h lu.2
      have aH:¬ e.b i=e.b j:=fun q=>by
       have:=h.inj i j _ _ q1 q2 (.inl u1) q
       subst this
       simp at nD
      have f1:∀ k,w.frozen? ⟨e.b i,k,none⟩=false:=fun k=>by simp[World.frozen?,g1]
      have f2:∀ k,w.frozen? ⟨e.b j,k,none⟩=false:=fun k=>by simp[World.frozen?,g2]
      have s1:w.shape? (e.b i)=some (l1,C1.size):=by simp[World.shape?,g1]
      have s2:w.shape? (e.b j)=some (l2,C2.size):=by simp[World.shape?,g2]
      simp[Op.equalIn,aJ hu,gN hn,sameAddr,aH,f1,f2,noView,viewAt,s1,s2,mayBeOne,stringish]
   ·cases hb
  ·cases hx;cases hy;cases hb;simp[Op.equalIn,aJ hu]
  ·cases hx;cases hy;cases hb;simp[Op.equalIn,aJ hu]
  ·cases hx;cases hy;cases hb;simp[Op.equalIn,aJ hu]
  ·rename_i t1 v1 t2 v2
   cases hx with
   | iface _ _ v1' mh=>
   cases hy with
   | iface _ _ Bw wu=>
   split at hb
   ·rename_i ht
    subst ht
    split at hb
    ·rename_i inf iN
     cases Px:inf.comparable with
     | false=>rw[Px] at hb;cases hb
     | true=>
      rw[Px] at hb
      have:=ih D (by omega) t1 v1 v2 v1' Bw b mh wu hb
      simp[Op.equalIn,aJ hu,oV iN,Px,this]
    ·cases hb
   ·rename_i ht
    cases hb
    simp[Op.equalIn,aJ hu,ht]
  ·rename_i fs xs ys
   cases aD:P.stoodInHeld t with
   | true=>rw[aD] at hb;cases hb
   | false=>
    rw[aD] at hb
    simp only[cond_false] at hb
    obtain⟨vx,rfl,eW⟩:=hx.vK
    obtain⟨vy,rfl,Pz⟩:=hy.vK
    have key := Tc (P := P) (g := fun f : Field => if f.name = "_" then some true else
     match mo P f.type xs f.offset,mo P f.type ys f.offset with
     | some a,some b=>dZ P d f.type a b H
     | _,_=>none) (body:=fun f LJ=>
      if f.name = "_" then Pure.pure (ForInStep.yield (none, ()))
      else do
       let AM <-part f.type vx f.offset
       let Qm <-part f.type vy f.offset
       let AM <-Op.equalIn D f.type AM Qm
       if AM=false then Pure.pure (ForInStep.done (some false,())) else Pure.pure (ForInStep.yield (none,()))) w (by
      intro f b hg
      by_cases hn : f.name = "_"
      ·rw[if_pos hn] at hg;cases hg;simp[hn]
      ·rw[if_neg hn] at hg
       split at hg
       ·rename_i a1 a2 h1 h2
        obtain⟨u1,wm,iG⟩:=yD eW h1 w
        obtain⟨u2,rm,nZ⟩:=yD Pz h2 w
        have:=ih D (by omega) f.type a1 a2 u1 u2 b iG nZ hg
        cases b<;>simp[hn,wm,rm,this]
       ·cases hg) fs.toList b hb
    simp only[Op.equalIn,Sem.run_bind,aJ hu,Result.andThen_ok,run_program,aD]
    simp only[Array.forIn_toList] at key
    simp[key]
    cases b<;>simp
  ·rename_i n el xs ys
   split at hb
   ·rename_i s hs
    obtain⟨vx,rfl,eW⟩:=hx.vK
    obtain⟨vy,rfl,Pz⟩:=hy.vK
    have key:=Tc (P:=P) (g:=fun i:Nat=>
     match mo P el xs (i*s),mo P el ys (i*s) with
     | some a,some b=>dZ P d el a b H
     | _,_=>none) (body:=fun i LJ=>do
       let AM <-part el vx (i*s)
       let Qm <-part el vy (i*s)
       let AM <-Op.equalIn D el AM Qm
       if AM=false then Pure.pure (ForInStep.done (some false,())) else Pure.pure (ForInStep.yield (none,()))) w (by
      intro f b hg
      split at hg
      ·rename_i a1 a2 h1 h2
       obtain⟨u1,wm,iG⟩:=yD eW h1 w
       obtain⟨u2,rm,nZ⟩:=yD Pz h2 w
       have:=ih D (by omega) el a1 a2 u1 u2 b iG nZ hg
       cases b<;>simp[wm,rm,this]
      ·cases hg) (List.range' 0 n) b hb
    simp[Op.equalIn,aJ hu,gN hs]
    simp[key]
    cases b<;>simp
   ·cases hb
  ·cases hx;cases hy;cases hb;simp[Op.equalIn,aJ hu]
  ·cases hx;cases hb
   rcases hy.lz with⟨o,c,hi,ho,hl,hc,iO,hn,rfl⟩ | ⟨rfl,rfl,a,rfl⟩<;>simp[Op.equalIn,aJ hu]
  ·cases hy;cases hb
   rcases hx.lz with⟨o,c,hi,ho,hl,hc,iO,hn,rfl⟩ | ⟨rfl,rfl,a,rfl⟩<;>simp[Op.equalIn,aJ hu]
  ·cases hx;cases hy;cases hb;simp[Op.equalIn,aJ hu]
  ·cases hx;cases hy;cases hb;simp[Op.equalIn,aJ hu]
  ·cases hx;cases hy;cases hb;simp[Op.equalIn,aJ hu]
  ·cases hx;cases hy;cases hb;simp[Op.equalIn,aJ hu]
  ·cases hx;cases hy;cases hb;simp[Op.equalIn,aJ hu]
  ·cases hx;cases hy;cases hb;simp[Op.equalIn,aJ hu]
  ·cases hb
end
end Go.Proofs.YtodfajmihkagnaaGreatDoor.Am
namespace Go.Proofs.YtodfajmihkagnaaGreatDoor.Am
section
variable {P:Program} {G:Nat} {F:Nat->Prop} {W:World} {e:Em} {H:Hp} {w:World}
theorem aek (k:IntKind) (a b:Int):((BitVec.ofInt k.bits a) &&& (BitVec.ofInt k.bits b)).toNat=nM k a &&& nM k b:=by
 rw[BitVec.toNat_and,ahG,ahG];rfl
theorem afO (k:IntKind) (a b:Int):((BitVec.ofInt k.bits a) ||| (BitVec.ofInt k.bits b)).toNat=nM k a ||| nM k b:=by
 rw[BitVec.toNat_or,ahG,ahG];rfl
theorem agK (k:IntKind) (a b:Int):((BitVec.ofInt k.bits a) ^^^ (BitVec.ofInt k.bits b)).toNat=nM k a ^^^ nM k b:=by
 rw[BitVec.toNat_xor,ahG,ahG];rfl
theorem abR (k:IntKind) (a b:Int) (ha:0<=a) (hb:0<=b):((BitVec.ofInt k.bits a) ^^^ (BitVec.ofInt k.bits b)).toNat=(a.toNat % 2 ^ k.bits) ^^^ (b.toNat % 2 ^ k.bits):=by
 rw[BitVec.toNat_xor,aaZ k a ha,aaZ k b hb]
theorem Kc (a b:ByteArray):(a.toList==b.toList)=(bytes a==bytes b):=by
 rw[ByteArray.toList_eq,ByteArray.toList_eq,bytes_beq]
theorem J8 (a b:ByteArray):Op.bytesLess a.toList b.toList=qa (bytes a) (bytes b):=by
 rw[ByteArray.toList_eq,ByteArray.toList_eq];exact (Yr _ _).symm
theorem Jv {d:Nat} {t:TypeId} {x y:AV} {b:Bool} (hb:dZ P d t x y H=some b):x ≠ .du/\y ≠ .du:=by
 constructor
 ·rintro rfl
  cases d with
  | zero=>cases hb
  | succ d=>
   unfold dZ at hb
   split at hb
   ·cases hb
   ·split at hb<;>first | (simp at *;done) | (simp_all;done) | cases hb
 ·rintro rfl
  cases d with
  | zero=>cases hb
  | succ d=>
   unfold dZ at hb
   split at hb
   ·cases hb
   ·split at hb<;>first | (simp at *;done) | (simp_all;done) | cases hb
theorem VR.Sf {x:AV} {x':Value} (h:VR e x x') (hj:x ≠ .du):(∀ k a,x' ≠ .float k a)/\(∀ k a b,x' ≠ .complex k a b):=by
 cases h<;>first | (exact absurd rfl hj) | (constructor<;>(intros;simp))
theorem amm {t:TypeId} {x y:Value} (h1:∀ k a k' b,x = .int k a->y = .int k' b->False) (h2:∀ a b,x = .string a->y = .string b->False)
  (h3:∀ k a,x ≠ .float k a) (h4:∀ k a b,x ≠ .complex k a b):binOp .eql t x y=(do Pure.pure (.bool (<-Op.equal t x y))):=by
 cases x<;>cases y<;>first | rfl | (exact absurd rfl (h3 _ _)) | (exact absurd rfl (h4 _ _ _)) | (exact (h1 _ _ _ _ rfl rfl).elim) | (exact (h2 _ _ rfl rfl).elim)
theorem acg {t:TypeId} {x y:Value} (h1:∀ k a k' b,x = .int k a->y = .int k' b->False) (h2:∀ a b,x = .string a->y = .string b->False)
  (h3:∀ k a,x ≠ .float k a) (h4:∀ k a b,x ≠ .complex k a b):binOp .neq t x y=(do Pure.pure (.bool (!(<-Op.equal t x y)))):=by
 cases x<;>cases y<;>first | rfl | (exact absurd rfl (h3 _ _)) | (exact absurd rfl (h4 _ _ _)) | (exact (h1 _ _ _ _ rfl rfl).elim) | (exact (h2 _ _ rfl rfl).elim)
theorem VR.JQ {x:AV} {k:IntKind} {n:Int} (h:VR e x (.int k n)) (hj:x ≠ .du):x = .int k n:=by cases h<;>first | rfl | exact absurd rfl hj
theorem VR.Lq {x:AV} {s:ByteArray} (h:VR e x (.string s)) (hj:x ≠ .du):x = .str (bytes s):=by cases h<;>first | rfl | exact absurd rfl hj
set_option maxHeartbeats 1000000 in
theorem ako (h:RH G F W e H w) {op:BinOp} {t:TypeId} {x y v:AV} {x' y':Value} (hx:VR e x x') (hy:VR e y y') (hb:eS P op t x y H=some v) :
  ∃ v',(binOp op t x' y').run P w = .ok v' w/\VR e v v':=by
 unfold eS at hb
 split at hb
 ·cases hx.fN;cases hy.fN
  split at hb
  ·cases hb
  ·rename_i hn;cases hb
   exact⟨_,by simp[binOp,Op.shift,hn],.int _ _⟩
 ·cases hx.fN;cases hy.fN
  split at hb
  ·cases hb
  ·rename_i hn;cases hb
   exact⟨_,by simp[binOp,Op.shift,hn],.int _ _⟩
 ·cases hx.fN;cases hy.fN
  split at hb
  ·rename_i k a k' b n1 n2 hk
   subst hk
   split at hb
   ·cases hb;exact⟨_,by simp[binOp,Op.intArith],.int _ _⟩
   ·cases hb;exact⟨_,by simp[binOp,Op.intArith],.int _ _⟩
   ·cases hb;exact⟨_,by simp[binOp,Op.intArith],.int _ _⟩
   ·split at hb
    ·cases hb
    ·rename_i hz;cases hb;exact⟨_,by simp[binOp,Op.intDiv,hz],.int _ _⟩
   ·split at hb
    ·cases hb
    ·rename_i hz;cases hb;exact⟨_,by simp[binOp,Op.intDiv,hz],.int _ _⟩
   ·cases hb
    rw[<-aek k a b]
    exact⟨_,by simp only[binOp,Op.intBits,ne_eq,not_true_eq_false,if_false];rfl,.int _ _⟩
   ·cases hb
    rw[<-afO k a b]
    exact⟨_,by simp only[binOp,Op.intBits,ne_eq,not_true_eq_false,if_false];rfl,.int _ _⟩
   ·cases hb
    rw[<-agK k a b]
    exact⟨_,by simp only[binOp,Op.intBits,ne_eq,not_true_eq_false,if_false];rfl,.int _ _⟩
   ·cases hb
   ·cases hb;exact⟨_,by simp[binOp,Op.intCmp],.bool _⟩
   ·cases hb;exact⟨_,by simp[binOp,Op.intCmp],.bool _⟩
   ·cases hb;exact⟨_,by simp[binOp,Op.intCmp],.bool _⟩
   ·cases hb;exact⟨_,by simp[binOp,Op.intCmp],.bool _⟩
   ·cases hb;exact⟨_,by simp[binOp,Op.intCmp],.bool _⟩
   ·cases hb;exact⟨_,by simp[binOp,Op.intCmp],.bool _⟩
   ·cases hb
  ·cases hb
 ·obtain⟨p,rfl,rfl⟩:=hx.lR
  obtain⟨q,rfl,rfl⟩:=hy.lR
  split at hb
  ·cases hle:Nat.ble ((bytes p).length+(bytes q).length) 4294967296 with
   | false=>rw[hle] at hb;cases hb
   | true=>
    rw[hle] at hb
    cases hb
    rw[adH,vf,vf] at hle
    have:¬ ((p.size+q.size:Nat):Int)>9223372036854775807:=by omega
    rw[<-ajo]
    refine⟨.string (p++q),?_,.str _⟩
    simp only[binOp,Op.stringOp,IntKind.max_i64,if_neg this];rfl
  ·cases hb;exact⟨_,by simp[binOp,Op.stringOp,Kc],.bool _⟩
  ·cases hb;exact⟨_,by simp[binOp,Op.stringOp,Kc],.bool _⟩
  ·cases hb;exact⟨_,by simp[binOp,Op.stringOp,J8],.bool _⟩
  ·cases hb;exact⟨_,by simp[binOp,Op.stringOp,J8,Kc],.bool _⟩
  ·cases hb;exact⟨_,by simp[binOp,Op.stringOp,J8,Kc],.bool _⟩
  ·cases hb;exact⟨_,by simp[binOp,Op.stringOp,J8],.bool _⟩
  ·cases hb
 ·rename_i n1 n2
  simp only[aaF] at hb
  obtain⟨b,hb,rfl⟩:=hb
  have:=ES h 50 Op.maxDepth (by decide) t x y x' y' b hx hy hb
  refine⟨.bool b,?_,.bool _⟩
  obtain⟨j1,j2⟩:=Jv hb
  obtain⟨f1,f2⟩:=hx.Sf j1
  rw[amm (fun k a k' b p q=>n1 k a k' b (by rw[p] at hx;exact hx.JQ j1) (by rw[q] at hy;exact hy.JQ j2))
   (fun a b p q=>n2 _ _ (by rw[p] at hx;exact hx.Lq j1) (by rw[q] at hy;exact hy.Lq j2)) f1 f2]
  simp only[Op.equal,Sem.run_bind,this];rfl
 ·rename_i n1 n2
  simp only[aaF] at hb
  obtain⟨b,hb,rfl⟩:=hb
  have:=ES h 50 Op.maxDepth (by decide) t x y x' y' b hx hy hb
  refine⟨.bool !b,?_,.bool _⟩
  obtain⟨j1,j2⟩:=Jv hb
  obtain⟨f1,f2⟩:=hx.Sf j1
  rw[acg (fun k a k' b p q=>n1 k a k' b (by rw[p] at hx;exact hx.JQ j1) (by rw[q] at hy;exact hy.JQ j2))
   (fun a b p q=>n2 _ _ (by rw[p] at hx;exact hx.Lq j1) (by rw[q] at hy;exact hy.Lq j2)) f1 f2]
  simp only[Op.equal,Sem.run_bind,this];rfl
 ·cases hb
theorem anl {op:BinOp} {t:TypeId} {X Y:Operand} {x y v:AV} {x' y':Value} (hx:VR e x x') (hy:VR e y y') (hg:sw P op t X Y x y=true) (hb:eS P op t x y H=some v) :
  (eqGuard op t X Y x' y').run P w = .ok () w:=by
 by_cases ho:op = .eql\/op = .neq
 ·have J6:x ≠ .du/\y ≠ .du:=by
   constructor
   ·rintro rfl
    rcases ho with rfl | rfl<;>(unfold eS at hb;simp only[aaF] at hb;obtain⟨b,hb,_⟩:=hb;exact (Jv hb).1 rfl)
   ·rintro rfl
    rcases ho with rfl | rfl<;>(unfold eS at hb;cases x<;>simp only[aaF] at hb<;>(obtain⟨b,hb,_⟩:=hb;exact (Jv hb).2 rfl))
  cases hx<;>cases hy<;>first
   | (exact absurd rfl J6.1) | (exact absurd rfl J6.2)
   | (rcases ho with rfl | rfl<;>rfl)
   | skip
  ·have Aa:uv X=true\/uv Y=true:=by
    rcases ho with rfl | rfl<;>(simp only[sw,af0] at hg;exact hg)
   rcases ho with rfl | rfl<;>(rcases Aa with hc | hc<;>(cases X<;>cases Y<;>first | (simp[uv] at hc;done) | rfl))
  ·have Aa:P.eqGuardType P.depth t=false:=by
    rcases ho with rfl | rfl<;>(simp only[sw,ain] at hg;exact hg)
   rcases ho with rfl | rfl<;>simp[eqGuard,Aa]
 ·have:(op matches .eql | .neq)=false:=by
   cases op<;>first | rfl | (exact absurd (by simp) ho)
  cases op<;>first | rfl | (exact absurd (by simp) ho)
end
end Go.Proofs.YtodfajmihkagnaaGreatDoor.Am
namespace Go.Proofs.YtodfajmihkagnaaGreatDoor.Am
section
variable {P:Program} {G:Nat} {F:Nat->Prop} {W:World} {e:Em} {H:Hp} {w:World}
theorem aj3 {op:UnOp} {x v:AV} {x':Value} (hx:VR e x x') (hb:fW op x=some v) (w:World):∃ v',(Op.unary op x').run P w = .ok v' w/\VR e v v':=by
 unfold fW at hb
 split at hb
 ·cases hx.fN;cases hb;exact⟨_,by simp[Op.unary,Op.intArith],.int _ _⟩
 ·cases hx.so;cases hb;exact⟨_,by simp[Op.unary],.bool _⟩
 ·rename_i k n
  cases hx.fN
  split at hb
  ·cases hb
  ·rename_i hs
   split at hb
   ·rename_i hn
    cases hb
    have hm:0<=k.max:=by cases k<;>simp[IntKind.max,IntKind.signed,IntKind.bits] at hs ⊢
    rw[<-abR k k.max n hm hn]
    refine⟨_,?_,.int _ _⟩
    simp only[Op.unary,Op.intBits,if_neg hs];rfl
   ·cases hb
 ·cases hb
theorem U0:∀ (v:List Value) (off j:Nat) (cs:Array Value),off+j+v.length<=cs.size->
  ((v.zipIdx j).foldl (fun cs (x:Value × Nat)=>cs.setIfInBounds (off+x.2) x.1) cs).size=cs.size/\
  ∀ m,((v.zipIdx j).foldl (fun cs (x:Value × Nat)=>cs.setIfInBounds (off+x.2) x.1) cs)[m]? = if off+j<=m/\m<off+j+v.length then v[m-(off+j)]? else cs[m]?
 | [],off,j,cs,h=>by
  refine⟨by simp,fun m => ?_⟩
  rw[if_neg (by rw[acm];omega)];simp
 | x::v,off,j,cs,h=>by
  simp only[abx] at h
  rw[List.zipIdx_cons,List.foldl_cons]
  obtain⟨h1,h2⟩:=U0 v off (j+1) (cs.setIfInBounds (off+j) x) (by simp;omega)
  refine⟨by rw[h1];simp,fun m => ?_⟩
  rw[h2]
  simp only[abx]
  by_cases hm:m=off+j
  ·subst hm
   rw[if_neg (by omega),if_pos (by omega)]
   rw[afd (by omega)]
   simp
  ·by_cases hr:off+(j+1)<=m/\m<off+(j+1)+v.length
   ·rw[if_pos hr,if_pos (by omega)]
    have:m-(off+j)=(m-(off+(j+1)))+1:=by omega
    rw[this,acM]
   ·rw[if_neg hr,if_neg (by omega),adP (by omega)]
theorem aP.akH {a c:List AV} {x:Array Value} {y:List Value} {off:Nat} (ha:aP e a x.toList) (hc:aP e c y) (h:off+c.length<=a.length) :
  aP e (a.take off++c++a.drop (off+c.length)) ((y.zipIdx).foldl (fun cs (x:Value × Nat)=>cs.setIfInBounds (off+x.2) x.1) x).toList:=by
 have hx:x.size=a.length:=by have:=ha.1;simpa using this
 obtain⟨h1,h2⟩:=U0 y off 0 x (by rw[hc.1,hx];omega)
 refine⟨by simp[h1,hx];omega,fun i v v' hv cl => ?_⟩
 rw[adw,h2] at cl
 simp only[adx] at cl
 rw[hc.1] at cl
 by_cases hi:i<off
 ·rw[if_neg (by omega)] at cl
  rw[aea,abN (by simp;omega),afW,if_pos hi] at hv
  exact ha.2 i v v' hv (by rw[adw];exact cl)
 ·by_cases oM:i<off+c.length
  ·rw[if_pos (by omega)] at cl
   rw[abN (by simp;omega),abQ (by simp;omega)] at hv
   have:i-(a.take off).length=i-off:=by simp;omega
   rw[this] at hv
   exact hc.2 _ v v' hv cl
  ·rw[if_neg (by omega)] at cl
   rw[abQ (by simp;omega),aeA] at hv
   have:off+c.length+(i-(a.take off++c).length)=i:=by simp;omega
   rw[this] at hv
   exact ha.2 i v v' hv (by rw[adw];exact cl)
def sX (e:Em) (l:List (Nat × AV)) (l':List (Nat × Value)):Prop:=l'.map (·.1)=l.map (·.1)/\aP e (l.map (·.2)) (l'.map (·.2))
theorem Ld {pl DH:Nat->Option (Nat × Nat)} (lB:∀ i x,pl i=some x->DH i=some x):∀ (ps:List (Nat × AV)) (od:List (Nat × Value)) (cells out:List AV) (Ax:Array Value),
  sX e ps od->aP e cells Ax.toList->tI pl cells ps=some out->∃ kW,Instr.fill DH Ax od=some kW/\aP e out kW.toList:=by
 intro ps
 induction ps with
 | nil=>
  intro od cells out Ax hp hc hf
  cases hf
  obtain rfl:od=[]:=by have:=hp.1;simpa using this
  exact⟨Ax,rfl,hc⟩
 | cons p ps ih=>
  intro od cells out Ax hp hc hf
  obtain⟨i,v⟩:=p
  cases od with
  | nil=>have:=hp.1;simp at this
  | cons q od=>
   obtain⟨i',v'⟩:=q
   obtain⟨h1,h2⟩:=hp
   simp only[acJ,List.cons.injEq] at h1
   obtain⟨rfl,h1⟩:=h1
   obtain⟨u,us,hu,hv,sj⟩:=aP.cons_inv (by simpa using h2:aP e (v::ps.map (·.2)) (v'::od.map (·.2)))
   simp only[List.cons.injEq] at hu
   obtain⟨rfl,rfl⟩:=hu
   unfold tI at hf
   split at hf
   ·cases hf
   ·rename_i off size sF
    split at hf
    ·cases hf
    ·rename_i cs fy
     split at hf
     ·rename_i rX
      have hl:=hv.cells fy
      have eH:v'.cells.size=size:=by have:=hl.1;simp at this;omega
      have aof:Ax.size=cells.length:=by have:=hc.1;simpa using this
      have ml:=hc.akH hl (off:=off) (by omega)
      rw[rX.1] at ml
      obtain⟨kW,ho,hr⟩:=ih od _ out _ ⟨h1,sj⟩ ml hf
      refine⟨kW,?_,hr⟩
      unfold Instr.fill
      rw[lB _ _ sF]
      have c1:(decide (v'.cells.size≠size)||decide (off+v'.cells.size>Ax.size))=false:=by simp;omega
      simp only[c1,abD,if_false]
      rw[<-ho]
      congr 1
      rw[<-Array.foldl_toList,Array.toList_zipIdx]
     ·cases hf
theorem sX.map {ρ:Operand->AV} {σ:Operand->Value} (h:∀ x,VR e (ρ x) (σ x)) (l:List (Nat × Operand)):sX e (l.map fun (i,x)=>(i,ρ x)) (l.map fun (i,x)=>(i,σ x)):=by
 refine⟨by simp[Function.comp_def],?_⟩
 have:=aP.map h (l.map (·.2))
 simpa[Function.comp_def] using this
theorem YO {α β:Type} {f:α->Option β} {g:α->Sem β} {w:World} (h:∀ a b,f a=some b->(g a).run P w = .ok b w):∀ (l:List α) (r:List β),qF f l=some r->(l.mapM g).run P w = .ok r w
 | [],r,hr=>by cases hr;simp
 | a::l,r,hr=>by
  unfold qF at hr
  split at hr
  ·rename_i b hb
   split at hr
   ·rename_i r' eV
    cases hr
    simp[h a b hb,YO h l r' eV]
   ·cases hr
  ·cases hr
theorem alA {t:TypeId} {fs:Array Field} {z out:List AV} {pl:List (Nat × Nat)} {parts:List (Nat × AV)} {Bf:Array (Nat × Value)} (hz:zc P t=some z) (hu:P.underlying t=some (.struct fs))
  (lB:Pp P fs=some pl) (hp:sX e parts Bf.toList) (hf:tI (pl[·]?) z parts=some out) (w:World):∃ v',(Instr.build t Bf).run P w = .ok v' w/\VR e (.agg out) v':=by
 obtain⟨i,z0,hi,fD,hl⟩:=xu (e:=e) hz
 have hm:(fs.mapM (fun f=>do Pure.pure (f.offset,<-sizeOf f.type)):Sem (Array (Nat × Nat))).run P w = .ok pl.toArray w:=by
  rw[<-Array.toArray_toList (xs:=fs),List.mapM_toArray]
  have:=YO (P:=P) (w:=w) (g:=fun f:Field=>(do Pure.pure (f.offset,<-sizeOf f.type):Sem (Nat × Nat))) (f:=fun f:Field=>(sz P f.type).map fun n=>(f.offset,n)) (by
   intro a b hb
   simp only[aaF] at hb
   obtain⟨n,hn,rfl⟩:=hb
   simp[gN hn]) fs.toList pl lB
  rw[Sem.run_map,this];rfl
 obtain⟨kW,ho,hr⟩:=Ld (e:=e) (DH:=(pl.toArray[·]?)) (fun i x hx=>by simpa using hx) parts Bf.toList z out z0.cells hp hl hf
 refine⟨.agg kW,?_,.agg _ _ hr.1 hr.2⟩
 simp only[Instr.build,Sem.run_bind,rr hi fD,Result.andThen_ok,aJ hu,hm,ho]
 rfl
theorem anJ {t el s n:Nat} {z out:List AV} {parts:List (Nat × AV)} {Bf:Array (Nat × Value)} (hz:zc P t=some z) (hu:P.underlying t=some (.array n el))
  (hs:sz P el=some s) (hp:sX e parts Bf.toList) (hf:tI (fun i=>some (i*s,s)) z parts=some out) (w:World):∃ v',(Instr.build t Bf).run P w = .ok v' w/\VR e (.agg out) v':=by
 obtain⟨i,z0,hi,fD,hl⟩:=xu (e:=e) hz
 obtain⟨kW,ho,hr⟩:=Ld (e:=e) (DH:=fun i=>some (i*s,s)) (fun i x hx=>hx) parts Bf.toList z out z0.cells hp hl hf
 refine⟨.agg kW,?_,.agg _ _ hr.1 hr.2⟩
 simp only[Instr.build,Sem.run_bind,rr hi fD,Result.andThen_ok,aJ hu,gN hs,ho]
 rfl
theorem RQ {α:Type} (z:List α):∀ (n i:Nat),i<n*z.length->(List.replicate n z).flatten[i]? = z[i % z.length]?
 | 0,i,h=>by simp at h
 | n+1,i,h=>by
  rw[List.replicate_succ,aik]
  by_cases hi:i<z.length
  ·rw[abN hi,aix hi]
  ·rw[abQ (by omega),RQ z n _ (by rw[Nat.succ_mul] at h;omega)]
   congr 1
   have:i=(i-z.length)+z.length:=by omega
   rw[this,Nat.add_mod_right]
   congr 1
   omega
theorem aaB (z:Array Value) (n:Nat):((Array.range (n*z.size)).map (z[· % z.size]!)).toList=(List.replicate n z.toList).flatten:=by
 apply agM
 intro i
 by_cases hi:i<n*z.size
 ·rw[RQ z.toList n i (by simpa using hi)]
  have hz:0<z.size:=by
   rcases Nat.eq_zero_or_pos z.size with h | h
   ·rw[h] at hi;simp at hi
   ·exact h
  have aQ:i % z.size<z.size:=Nat.mod_lt _ hz
  simp[adw,hi,aQ]
 ·rw[afj (by simp;omega),afj (by simp;omega)]
theorem aP.rep {z:List AV} {z':List Value} (h:aP e z z'):∀ n,aP e (rep n z) (List.replicate n z').flatten
 | 0=>by simpa[Am.rep] using aP.nil e
 | n+1=>by
  have:=h.append (aP.rep h n)
  simpa[Am.rep,List.replicate_succ] using this
end
end Go.Proofs.YtodfajmihkagnaaGreatDoor.Am
namespace Go.Proofs.YtodfajmihkagnaaGreatDoor.Am
section
variable {P:Program} {G:Nat} {F:Nat->Prop} {W:World} {e:Em} {H:Hp} {w:World}
theorem PG:∀ {l:List AV} {bs:List Nat} {cs:List Value},uE l=some bs->aP e l cs->∃ us:List UInt8,bs=us.map (·.toNat)/\cs=us.map (fun b=>Value.int .u8 b.toNat)
 | [],bs,cs,h,hl=>by
  cases h
  rw[hl.jQ]
  exact⟨[],rfl,rfl⟩
 | a::l,bs,cs,h,hl=>by
  unfold uE at h
  split at h
  ·rename_i h0;cases h0
  ·rename_i n r h0
   cases h0
   obtain⟨v',ws,rfl,hv,qG⟩:=hl.cons_inv
   cases hv.fN
   split at h
   ·rename_i hn
    simp only[aa9,decide_eq_true_eq] at hn
    simp only[aca,Option.pure_def,abz,acu] at h
    obtain⟨bs',h1,rfl⟩:=h
    obtain⟨us,rfl,rfl⟩:=PG h1 qG
    have hu:(UInt8.ofNat n.toNat).toNat=n.toNat:=by
     rw[UInt8.toNat_ofNat'];exact aix (by omega)
    refine⟨UInt8.ofNat n.toNat::us,by simp only[acJ,hu],?_⟩
    have:((UInt8.ofNat n.toNat).toNat:Int)=n:=by rw[hu];omega
    simp only[acJ,this]
   ·cases h
  ·cases h
theorem ahk (us:List UInt8):bytes ⟨us.toArray⟩=us.map (·.toNat):=rfl
theorem RE:∀ (us:List UInt8) (s:ByteArray),(us.map fun b=>(b.toNat:Int)).foldl (fun r n=>r.push (UInt8.ofNat n.toNat)) s=⟨s.data++us.toArray⟩
 | [],s=>by simp
 | u::us,s=>by
  simp only[acJ,List.foldl_cons,RE us]
  congr 1
  simp[ByteArray.push]
theorem Pb {a:Addr} {us:List UInt8} {cap:Nat} (w:World) (h:∀ j v,(us.map (fun b=>Value.int .u8 b.toNat))[j]? = some v->w.cell? (a.add j)=some v) :
  (Conv.bytesToString (.slice (some a) us.length cap)).run P w = .ok (.string ⟨us.toArray⟩) w:=by
 have h1:=run_loadCells_list (P:=P) w a (us.map (fun b=>Value.int .u8 b.toNat)) h
 rw[ac7] at h1
 have h2:=run_bytesToString (P:=P) w a us.length cap (us.map fun b=>(b.toNat:Int)) (by rw[h1];simp[Function.comp_def])
 rw[h2,RE]
 simp[ByteArray.empty,ByteArray.emptyWithCapacity]
 rfl
theorem amN (n:Int) (h:0<=n/\n<128):bytes (Utf8.encode n)=[n.toNat]:=by
 obtain⟨k,rfl⟩:=Int.eq_ofNat_of_zero_le h.1
 have hk:k<128:=by omega
 have:∀ k:Fin 128,bytes (Utf8.encode ((k.val:Nat):Int))=[k.val]:=by decide +kernel
 exact this ⟨k,hk⟩
theorem agy (w:World) (C:Array Value) (el:TypeId) (b:Nat) (hb:b=w.heap.size) :
  World.freeze { w with heap:=w.heap.push (.cells C el (0,0)) } { block:=b,off:=C.size } 1={ w with heap:=w.heap.push (.cells C el (C.size,C.size+1)) }:=by
 subst hb
 simp only[World.freeze,Nat.one_ne_zero,if_false]
 congr 1
 apply Array.ext_getElem?
 intro k
 rw[Array.getElem?_modify]
 by_cases hk:w.heap.size=k
 ·subst hk;simp
 ·rw[if_neg hk,ahs,ahs,if_neg (fun q=>hk q.symm),if_neg (fun q=>hk q.symm)]
def na (w:World) (el:TypeId) (s:ByteArray):Nat:=(Question.appendCap s.size 0 el).cut (w.tape w.drawn (.appendCap s.size 0 el))
def tS (w:World) (el:TypeId) (s:ByteArray):List Value:=(s.data.toList.map fun b=>Value.int .u8 b.toNat)++List.replicate (na w el s-s.size) (.int .u8 0)
theorem KD (w:World) (el:TypeId) (s:ByteArray):s.size<=na w el s:=Nat.le_add_right _ _
theorem M1 (w:World) (el:TypeId) (s:ByteArray):(tS w el s).length=na w el s:=by
 have:=KD w el s
 have h2:s.data.size=s.size:=rfl
 simp[tS]
 omega
theorem Yt (P:Program) (w:World) (el:TypeId) (s:ByteArray) :
  (Conv.stringToBytes el s).run P w = .ok (.slice (some ⟨w.heap.size,0,none⟩) s.size (na w el s)) { w with drawn:=w.drawn+1,heap:=w.heap.push (.cells (tS w el s).toArray el (na w el s,na w el s+1)) }:=by
 let w1:World:={ w with drawn:=w.drawn+1 }
 let cap:=na w el s
 have ic:s.size<=cap:=KD w el s
 let rest:List Value:=List.replicate (cap-s.size) (.int .u8 0)
 have hlen:((s.data.toList.map fun b=>Value.int .u8 b.toNat)++rest).length=cap:=M1 w el s
 have hC:(s.data.map fun b=>Value.int .u8 b.toNat)++Array.replicate (cap-s.size) (.int .u8 0)=((s.data.toList.map fun b=>Value.int .u8 b.toNat)++rest).toArray:=by
  apply ado.1
  simp[rest]
 have ER:(Question.appendCap s.size 0 el).forced=false:=rfl
 simp only[Conv.stringToBytes,Sem.run_bind,run_choose,ER,abD,if_false,Result.andThen_ok,newRow,run_newObj,Sem.run_pure]
 have hC':(s.data.map fun b=>Value.int .u8 b.toNat)++Array.replicate ((Question.appendCap s.size 0 el).cut (w.tape w.drawn (.appendCap s.size 0 el))-s.size) (.int .u8 0)=((s.data.toList.map fun b=>Value.int .u8 b.toNat)++rest).toArray:=hC
 rw[hC']
 have eH:((s.data.toList.map fun b=>Value.int .u8 b.toNat)++rest).toArray.size=cap:=by simpa using hlen
 have pU:(World.shape? { w1 with heap:=w.heap.push (.cells ((s.data.toList.map fun b=>Value.int .u8 b.toNat)++rest).toArray el (0,0)) } w.heap.size)=some (el,cap):=by
  simp only[World.shape?,Array.getElem?_push_size,eH]
 have JZ:=agy w1 ((s.data.toList.map fun b=>Value.int .u8 b.toNat)++rest).toArray el w.heap.size rfl
 rw[eH] at JZ
 have acj:(World.shape? { w with heap:=w.heap.push (.cells ((s.data.toList.map fun b=>Value.int .u8 b.toNat)++rest).toArray el (0,0)),drawn:=w.drawn+1 } w.heap.size)=some (el,cap):=pU
 simp only[markStringish,Sem.run_bind,run_shape,Result.andThen_ok,acj,run_freeze]
 have alY:World.freeze { w with heap:=w.heap.push (.cells ((s.data.toList.map fun b=>Value.int .u8 b.toNat)++rest).toArray el (0,0)),drawn:=w.drawn+1 } { block:=w.heap.size,off:=cap } 1=_:=JZ
 rw[alY]
 rfl
theorem Ws (e:Em) (s:ByteArray):aP e ((bytes s).map fun (b:Nat)=>AV.int .u8 b) (s.data.toList.map fun b=>Value.int .u8 b.toNat):=by
 refine⟨by simp[bytes],fun i v v' hv cl => ?_⟩
 simp only[bytes,aiB,ada,aaF] at hv cl
 obtain⟨u,hu,rfl⟩:=hv
 obtain⟨u',iW,rfl⟩:=cl
 rw[hu] at iW
 cases iW
 exact .int _ _
theorem ahW (h:RH G F W e H w) {s:ByteArray} {el i:Nat} {H':Hp} (hn:aL H ((bytes s).map fun (b:Nat)=>AV.int .u8 b) el 1=some (i,H')) :
  ∃ v' w' e',(Conv.stringToBytes el s).run P w = .ok v' w'/\e.le e'/\RH G F W e' H' w'/\VR e' (.slice i 0 (bytes s).length (bytes s).length false 1) v':=by
 have ic:=KD w el s
 have h1:RH G F W e H { w with drawn:=w.drawn+1 }:=h.drawn _
 have hlen:=M1 w el s
 obtain⟨e',he,g1,g2,g3,g4,hr⟩:=h1.newRow (rest:=List.replicate (na w el s-s.size) (.int .u8 0)) (fz:=(na w el s,na w el s+1)) hn (Ws e s) (by simp) (fun _ k hk=>by
  have o7:k<(tS w el s).length:=hk
  rw[hlen] at o7;simp;omega)
 refine⟨_,_,e',Yt P w el s,he,hr,?_⟩
 have hb:w.heap.size=e'.b i:=g2.symm
 rw[hb,vf]
 have g4':e'.n i=(tS w el s).length:=g4
 refine .slice i 0 s.size s.size false 1 0 _ g1 (by rw[g3];simp) ic ic (by simp) ?_
 rw[g4',hlen];omega
theorem agX {el:TypeId} {count:Nat} (hs:0<P.cellsOf el) (hc:P.cellsOf el<=count):liesAt P P.depth el (count / P.cellsOf el) 0 el 1=true:=by
 have hd:P.depth=(2*(P.types.size+Made.depth)+1)+1:=rfl
 have h1:1<=count / P.cellsOf el:=(Nat.le_div_iff_mul_le hs).2 (by omega)
 have h0:¬ P.cellsOf el=0:=by omega
 rw[hd]
 simp only[liesAt,af0]
 left
 rw[hd]
 simp only[rowAt,if_neg h0,af0,aa9]
 left
 simp[h1,sameLayout]
theorem OH (h:RH G F W e H w) {i:Nat} {c:Tr AV} {lo hi el fl:Nat} (hg:H.h.get i=some (.cells c lo hi el fl)) :
  i<e.N/\∃ C fz,w.heap[e.b i]? = some (.cells C el fz)/\C.size=e.n i/\(lo=0->e.d i=0)/\(fl=0->fz=(0,0)):=by
 obtain⟨hN,ob,ep,eg,_⟩:=h.obj i _ hg
 cases eg with
 | cells _ _ _ _ _ C fz hn ik h0 h1 hd=>exact⟨hN,C,fz,ep,hn,hd,h0⟩
set_option maxHeartbeats 1000000 in
theorem ajQ (h:RH G F W e H w) {src dst:TypeId} {x v:AV} {x':Value} {H':Hp} (hx:VR e x x') (hc:jr P src dst x H=some (v,H')) :
  ∃ v' w' e',(convert src dst x').run P w = .ok v' w'/\e.le e'/\RH G F W e' H' w'/\VR e' v v':=by
 unfold jr at hc
 split at hc
 ·rename_i s d hs hd
  split at hc
  ·cases hx.fN;cases hc
   exact⟨_,w,e,by simp[convert,aJ hs,aJ hd,Conv.intToInt],e.le_refl,h,.int _ _⟩
  ·rename_i n
   cases hx.fN
   split at hc
   ·rename_i hn
    cases hc
    rw[<-amN n hn]
    exact⟨_,w,e,by simp[convert,aJ hs,aJ hd,Conv.intToString],e.le_refl,h,.str _⟩
   ·cases hc
  ·obtain⟨b,rfl,rfl⟩:=hx.lR
   cases hc
   exact⟨_,w,e,by simp[convert,aJ hs,aJ hd],e.le_refl,h,.str _⟩
  ·rename_i el s
   obtain⟨b,rfl,rfl⟩:=hx.lR
   split at hc
   ·rename_i oG
    split at hc
    ·rename_i i H2 hn
     cases hc
     obtain⟨v',w',e',h1,h2,h3,h4⟩:=ahW (P:=P) h hn
     exact⟨v',w',e',by simp[convert,aJ hs,aJ hd,aJ oG,h1],h2,h3,h4⟩
    ·cases hc
   ·cases hc
  ·rename_i el0 el i off len cap ex es
   cases hb:(Nat.beq src dst&&Nat.blt 0 len) with
   | false=>rw[hb] at hc;cases hc
   | true=>
    rw[hb] at hc
    simp only[cond_true] at hc
    simp only[aa9,adq] at hb
    have hsd:src=dst:=abC hb.1
    split at hc
    ·rename_i c lo hi fU oG hg
     cases hc
     obtain⟨hN,C,fz,ep,hn,JJ,J1⟩:=OH h hg
     have hf:=J1 rfl
     subst hf
     rcases hx.lz with⟨o,k,oM,ho,hl,wQ,iO,gT,rfl⟩ | ⟨rfl,_,_,_⟩
     ·refine⟨.slice (some ⟨e.b i,o,none⟩) len k,w.freeze { block:=e.b i,off:=C.size } 1,e,?_,e.le_refl,?_,hx⟩
      ·have pU:w.shape? (e.b i)=some (fU,C.size):=by simp[World.shape?,ep]
       simp[convert,aJ hs,aJ hd,aJ oG,hsd,markStringish,pU]
      ·refine h.put hg rfl (oZ := .cells C fU (C.size,C.size+1)) ?_ ?_ ?_ ?_ rfl rfl rfl
       ·simp[World.freeze]
       ·simp only[World.freeze,Nat.one_ne_zero,if_false]
        rw[CQ _ _ _ ep];simp
       ·intro k hk
        simp only[World.freeze,Nat.one_ne_zero,if_false]
        rw[CR _ _ _ _ (fun q=>hk q.symm)]
       ·obtain⟨_,ob,Uq,eg,_⟩:=h.obj i _ hg
        rw[ep] at Uq
        cases Uq
        cases eg with
        | cells _ _ _ _ _ C fz hn ik h0 h1 hd=>exact .cells _ _ _ _ _ _ _ hn ik (by simp) (fun _ k hk=>by simp;omega) hd
     ·omega
    ·cases hc
  ·rename_i el
   cases hx
   split at hc
   ·rename_i oG
    cases hc
    refine⟨.string .empty,w,e,by simp[convert,aJ hs,aJ hd,aJ oG,Conv.bytesToString],e.le_refl,h,?_⟩
    exact .str .empty
   ·cases hc
  ·rename_i el i off len a1 a2 a3
   split at hc
   ·rename_i oG
    cases hz:Nat.beq len 0 with
    | true=>
     rw[hz] at hc
     cases hc
     have:len=0:=abC hz
     subst this
     rcases hx.lz with⟨o,k,oM,ho,hl,wQ,iO,gT,rfl⟩ | ⟨_,_,a,rfl⟩
     ·have:=Pb (P:=P) (a:=⟨e.b i,o,none⟩) (us:=[]) (cap:=k) w (by simp)
      exact⟨_,w,e,by simp only[convert,Sem.run_bind,aJ hs,aJ hd,aJ oG,Result.andThen_ok];exact this,e.le_refl,h,.str ⟨#[]⟩⟩
     ·have:=Pb (P:=P) (a:=a) (us:=[]) (cap:=0) w (by simp)
      exact⟨_,w,e,by simp only[convert,Sem.run_bind,aJ hs,aJ hd,aJ oG,Result.andThen_ok];exact this,e.le_refl,h,.str ⟨#[]⟩⟩
    | false=>
     rw[hz] at hc
     simp only[cond_false,abz,aaF,ab7] at hc
     obtain⟨cs,fy,bs,rY,rfl,rfl⟩:=hc
     rcases hx.lz with⟨o,k,oM,ho,hl,wQ,iO,gT,rfl⟩ | ⟨rfl,_,a,rfl⟩
     ·obtain⟨vs,h1,h2,h3⟩:=h.yU fy ho
      obtain⟨us,rfl,rfl⟩:=PG rY h1
      rw[ac7] at h2
      have:=Pb (P:=P) (a:=⟨e.b i,o,none⟩) (us:=us) (cap:=k) w (fun j v hj=>by rw[add_lit];exact h3 j v hj)
      rw[h2] at this
      refine⟨_,w,e,by simp only[convert,Sem.run_bind,aJ hs,aJ hd,aJ oG,Result.andThen_ok];exact this,e.le_refl,h,?_⟩
      rw[<-ahk];exact .str _
     ·simp at hz
   ·cases hc
  ·rename_i t i o
   cases hb:((cellAt H i o).isSome&&xJ P t) with
   | false=>rw[hb] at hc;cases hc
   | true=>
    rw[hb] at hc
    cases hc
    rw[aa9] at hb
    obtain⟨u,hu⟩:=agu.1 hb.1
    obtain⟨n,hn⟩:∃ n,sz P t=some (n+1):=by
     have:=hb.2
     unfold xJ at this
     split at this
     ·rename_i n hn;exact⟨n,hn⟩
     ·cases this
    obtain⟨o',hi,ho,rfl⟩:=hx.p8
    have aQ:=h.O4 hu ho
    obtain⟨c,lo,jh,el,fl,hg,_,_,_⟩:=My hu
    obtain⟨hN,C,fz,ep,gT,_,_⟩:=OH h hg
    have pU:w.shape? (e.b i)=some (el,C.size):=by simp[World.shape?,ep]
    have ru:¬ C.size<=o':=by omega
    refine⟨_,w,e,?_,e.le_refl,h,hx⟩
    simp[convert,aJ hs,aJ hd,Conv.unsafePointer,Conv.seenAt,viewAt,cellsIn,pU,gN hn,ru]
  ·rename_i u i o
   split at hc
   ·rename_i c lo hi el fl hg
    cases hb:(Nat.beq el u&&Nat.beq lo 0&&Nat.beq o 0&&Nat.blt 0 (P.cellsOf u)&&(cellAt H i (P.cellsOf u-1)).isSome) with
    | false=>rw[hb] at hc;cases hc
    | true=>
     rw[hb] at hc
     cases hc
     simp only[aa9,adq] at hb
     obtain⟨⟨⟨⟨b1,b2⟩,b3⟩,b4⟩,b5⟩:=hb
     have e1:el=u:=abC b1
     have e2:lo=0:=abC b2
     have e3:o=0:=abC b3
     subst e1;subst e2;subst e3
     obtain⟨q,hq⟩:=agu.1 b5
     obtain⟨hN,C,fz,ep,gT,JJ,_⟩:=OH h hg
     obtain⟨o',hi,ho,rfl⟩:=hx.p8
     have Uf:=JJ rfl
     have AS:o'=0:=by omega
     subst AS
     have aQ:=h.O4 (o:=P.cellsOf el-1) hq (by omega)
     have pU:w.shape? (e.b i)=some (el,C.size):=by simp[World.shape?,ep]
     have hl:=agX (P:=P) (el:=el) (count:=C.size) b4 (by omega)
     have ali:sz P el=some (P.cellsOf el):=by
      unfold sz
      unfold Program.cellsOf at b4 ⊢
      cases hi:P.info? el with
      | none=>simp[hi] at b4
      | some inf=>simp
     refine⟨_,w,e,?_,e.le_refl,h,hx⟩
     simp[convert,aJ hs,aJ hd,Conv.unsafePointer,Conv.seenAt,viewAt,pU,gN ali,variablesAt,hl]
   ·cases hc
  ·cases hc
 ·cases hc
end
end Go.Proofs.YtodfajmihkagnaaGreatDoor.Am
