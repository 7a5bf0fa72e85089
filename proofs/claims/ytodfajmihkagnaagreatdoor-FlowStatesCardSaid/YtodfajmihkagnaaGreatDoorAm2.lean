/- Laws that the proof uses. -/
import Derived.Test.YtodfajmihkagnaaGreatDoorAm1
set_option maxHeartbeats 2000000
set_option linter.unusedVariables false
set_option linter.unusedSimpArgs false
namespace Go.Proofs.YtodfajmihkagnaaGreatDoor.Am
section
section
section
section
def et (P:Program)(G:Nat)(F:Nat->Prop)(W:World)(e:Em)(v:AV)(H':Hp)(r:Result Next):Prop:=
 ∃ n w' e' v',r = .ok n w'/\(n = .value v'\/(n = .skip/\v'=undef))/\e.le e'/\RH G F W e' H' w'/\VR e' v v'
section
variable {P:Program}{G:Nat}{F:Nat->Prop}{W:World}{e:Em}{H:Hp}{w:World}
theorem et.pure {s:Sem Value}{v:AV}{v':Value}(h:RH G F W e H w)(hs:s.run P w = .ok v' w)(hv:VR e v v') :
  et P G F W e v H ((do Pure.pure (Next.value (<-s)):Sem Next).run P w):=
 ⟨.value v',w,e,v',by simp[hs],.inl rfl,e.le_refl,h,hv⟩
theorem et.val {s:Sem Value}{v:AV}{v':Value}{e':Em}{H':Hp}{w':World}(hs:s.run P w = .ok v' w')(he:e.le e')(h:RH G F W e' H' w')(hv:VR e' v v') :
  et P G F W e v H' ((do Pure.pure (Next.value (<-s)):Sem Next).run P w):=
 ⟨.value v',w',e',v',by simp[hs],.inl rfl,he,h,hv⟩
theorem VR.undef:VR e cq undef := .tuple [] #[] rfl (by simp)
theorem et.unit {s:Sem Unit}{e':Em}{H':Hp}{w':World}(hs:s.run P w = .ok () w')(he:e.le e')(h:RH G F W e' H' w') :
  et P G F W e cq H' ((do s;Pure.pure Next.skip:Sem Next).run P w):=
 ⟨.skip,w',e',_,by simp[hs],.inr ⟨rfl,rfl⟩,he,h,.undef⟩
theorem VR.pA {v:Value}{a:AV}(h:pA v=some a):VR e a v:=by
 unfold Am.pA at h
 split at h<;>simp only[adE,reduceCtorEq] at h<;>subst h<;>constructor
theorem bh.pA:∀ {vs:List Value} {l:List AV},vs.mapM Am.pA=some l->bh e l vs
 | [],l,h=>by simp at h;subst h;exact .nil e
 | v::vs,l,h=>by
  simp only[List.mapM_cons,acy,Option.pure_def,abA,adE] at h
  obtain⟨a,ha,r,hr,rfl⟩:=h
  exact .cons (.pA ha) (bh.pA hr)
theorem VR.jL {v:Value}{a:AV}(h:jL v=some a):VR e a v:=by
 unfold Am.jL at h
 split at h
 ·simp only[aam] at h
  obtain⟨l,hl,rfl⟩:=h
  have:=bh.pA (e:=e) hl
  exact .agg _ _ this.1 this.2
 ·simp only[aam] at h
  obtain⟨l,hl,rfl⟩:=h
  have:=bh.pA (e:=e) hl
  exact .tuple _ _ this.1 this.2
 ·simp only[aam] at h
  obtain⟨l,hl,rfl⟩:=h
  exact .iface _ _ _ (.pA hl)
 ·exact .pA h
theorem zd {t:TypeId}{l:List AV}(h:zc P t=some l):∃ i z,P.info? t=some i/\i.zero=some z/\bh e l z.cells.toList:=by
 simp only[zc,acy,abA] at h
 obtain⟨i,hi,z,hz,hl⟩:=h
 exact⟨i,z,hi,hz,.pA hl⟩
theorem rQ {t:TypeId}{i:TypeInfo}{z:Value}(hi:P.info? t=some i)(hz:i.zero=some z)(w:World):(zeroValue t).run P w = .ok z w:=by
 simp[zeroValue,qt hi,hz]
theorem aqO (h:RH G F W e H w){t:TypeId}{l:List AV}{i:Nat}{H':Hp}(hz:zc P t=some l)(hn:aC H l t 0=some (i,H')) :
  ∃ v' w' e',(Instr.alloc t true (.tuple #[])).run P w = .ok v' w'/\e.le e'/\RH G F W e' H' w'/\VR e' (.ptr i 0) v':=by
 obtain⟨inf,z,hi,fJ,hl⟩:=zd (e:=e) hz
 obtain⟨e',he,h1,h2,h3,h4,hr⟩:=h.newRow (rest:=[]) (fz:=(0,0)) hn hl (fun _=>rfl) (by simp)
 refine⟨.pointer (some ⟨w.heap.size,0,none⟩),_,e',?_,he,hr,?_⟩
 ·simp[Instr.alloc,rQ hi fJ,newVar,Go.newRow]
 ·rw[<-h2];exact .ptr i 0 0 h1 (by rw[h3];simp)
theorem ali (h:RH G F W e H w){t:TypeId}{v:AV}{v':Value}{l:List AV}{i:Nat}{H':Hp}(hv:VR e v v')(hz:rK v=some l)(hn:aC H l t 0=some (i,H')) :
  ∃ u w' e',(Instr.box t v').run P w = .ok u w'/\e.le e'/\RH G F W e' H' w'/\VR e' (.ptr i 0) u:=by
 have hl:=hv.cells hz
 obtain⟨e',he,h1,h2,h3,h4,hr⟩:=h.newRow (rest:=[]) (fz:=(0,0)) hn hl (fun _=>rfl) (by simp)
 refine⟨.pointer (some ⟨w.heap.size,0,none⟩),_,e',?_,he,hr,?_⟩
 ·simp[Instr.box,newVar,Go.newRow]
 ·rw[<-h2];exact .ptr i 0 0 h1 (by rw[h3];simp)
theorem Bh {t:TypeId}{cs:List AV}{vs:Array Value}{off:Nat}{v:AV}(hl:bh e cs vs.toList)(hp:nH P t cs off=some v)(w:World) :
  ∃ v',(part t vs off).run P w = .ok v' w/\VR e v v':=by
 simp only[nH,acy,abA] at hp
 obtain⟨b,hb,hp⟩:=hp
 cases b with
 | true=>
  simp only[if_true,abA] at hp
  obtain⟨n,hn,hp⟩:=hp
  cases hc:Nat.ble (off+n) cs.length with
  | false=>rw[hc] at hp;cases hp
  | true=>
   rw[hc] at hp
   simp only[cond_true,adE] at hp
   subst hp
   refine⟨.agg (vs.extract off (off+n)),by simp[part,OO hb,hZ hn],?_⟩
   have:=(hl.drop off).take n
   have e2:(vs.extract off (off+n)).toList=(vs.toList.drop off).take n:=by simp[Array.toList_extract,List.extract]
   exact .agg _ _ (by rw[e2];exact this.1) (by rw[e2];exact this.2)
 | false=>
  simp only[abH,if_false] at hp
  obtain⟨v',cw,hr⟩:=hl.get hp
  rw[afj] at cw
  exact⟨v',by simp[part,OO hb,cw],hr⟩
theorem ag4 {t:TypeId}{x v:AV}{x':Value}{f:Nat}{fs:Array Field}{fd:Field}(hx:VR e x x')(hu:P.underlying t=some (.struct fs))(hf:fs[f]? = some fd)
  {cs:List AV} (hxs:x = .agg cs) (hp:nH P fd.type cs fd.offset=some v) (w:World):∃ v',(Instr.field t x' f).run P w = .ok v' w/\VR e v v':=by
 subst hxs
 obtain⟨vs,rfl,hl⟩:=hx.yt
 obtain⟨v',cw,hr⟩:=Bh hl hp w
 exact⟨v',by simp[Instr.field,aI hu,hf,asAgg,cw],hr⟩
theorem auj {t:TypeId}{i o n:Nat}{x':Value}{f:Nat}{fs:Array Field}{fd:Field}(hx:VR e (.ptr i o) x')(hu:P.underlying t=some (.struct fs))(hf:fs[f]? = some fd)
  (hs:sz P fd.type=some n) (hn:n≠0) (w:World):∃ v',(Instr.fieldAt t x' f).run P w = .ok v' w/\VR e (.ptr i (o+fd.offset)) v':=by
 obtain⟨o',hi,ho,rfl⟩:=hx.um
 refine⟨.pointer (some ⟨e.b i,o'+fd.offset,none⟩),?_,.ptr _ _ _ hi (by omega)⟩
 simp[Instr.fieldAt,aI hu,hf,Instr.sureAddr,fieldPlace,hZ hs,hn,add_lit]
theorem avv {t:TypeId}{x ix v:AV}{x' I5:Value}(hx:VR e x x')(qU:VR e ix I5)(ha:DY P t x ix=some v)(w:World) :
  ∃ v',(Instr.indexAt t x' I5).run P w = .ok v' w/\VR e v v':=by
 simp only[DY,acy,abA] at ha
 obtain⟨d,hd,ha⟩:=ha
 split at ha
 ·rename_i n el i off kk k
  simp only[abA] at ha
  obtain⟨es,dK,ha⟩:=ha
  split at ha
  ·rename_i hk
   simp only[aaT,decide_eq_true_eq] at hk
   cases ha
   obtain⟨o,hi,ho,rfl⟩:=hx.um
   obtain rfl:=qU.fZ
   refine⟨.pointer (some ⟨e.b i,o+k.toNat*es,none⟩),?_,.ptr _ _ _ hi (by omega)⟩
   simp[Instr.indexAt,asIntOf,aI hd,Instr.sureAddr,hk.1,hk.2,hZ dK,add_lit]
  ·cases ha
 ·rename_i el i off len cap ex es kk k
  simp only[abA] at ha
  obtain⟨aQ,dK,ha⟩:=ha
  split at ha
  ·rename_i hk
   simp only[aaT,decide_eq_true_eq,beq_iff_eq] at hk
   obtain⟨⟨rfl,vl⟩,gp⟩:=hk
   cases ha
   obtain rfl:=qU.fZ
   rcases hx.mC with⟨o,c,hi,ho,hl,hc,je,hn,rfl⟩ | ⟨rfl,_,_,_⟩
   ·refine⟨.pointer (some ⟨e.b i,o+k.toNat*aQ,none⟩),?_,.ptr _ _ _ hi (by omega)⟩
    simp[Instr.indexAt,asIntOf,aI hd,vl,gp,hZ dK,add_lit]
   ·omega
  ·cases ha
 ·cases ha
theorem arG {t:TypeId}{x ix v:AV}{x' I5:Value}(hx:VR e x x')(qU:VR e ix I5)(ha:DS P t x ix=some v)(w:World) :
  ∃ v',(Instr.index t x' I5).run P w = .ok v' w/\VR e v v':=by
 simp only[DS,acy,abA] at ha
 obtain⟨d,hd,ha⟩:=ha
 split at ha
 ·rename_i n el cs kk k
  simp only[abA] at ha
  obtain⟨es,dK,ha⟩:=ha
  split at ha
  ·rename_i hk
   simp only[aaT,decide_eq_true_eq] at hk
   obtain⟨vs,rfl,hl⟩:=hx.yt
   obtain rfl:=qU.fZ
   obtain⟨v',cw,hr⟩:=Bh hl ha w
   exact⟨v',by simp[Instr.index,asIntOf,aI hd,hk.1,hk.2,hZ dK,cw],hr⟩
  ·cases ha
 ·rename_i s kk k
  split at ha
  ·rename_i hk
   obtain⟨b,rfl,rfl⟩:=hx.mO
   obtain rfl:=qU.fZ
   simp only[aam] at ha
   obtain⟨c,hc,rfl⟩:=ha
   simp only[bytes,aeI,aam] at hc
   obtain⟨u,hu,rfl⟩:=hc
   refine⟨.int .u8 u.toNat,?_,.int _ _⟩
   have hb:b[k.toNat]? = some u:=by
    have h1:k.toNat<b.data.toList.length:=(aaw.1 hu).1
    have h2:k.toNat<b.size:=by rw[ajS] at h1;exact h1
    rw[getElem?_pos b k.toNat h2]
    congr 1
    have h3:=(aaw.1 hu).2
    rw[<-h3]
    rfl
   simp[Instr.index,asIntOf,aI hd,hk,hb]
  ·cases ha
 ·cases ha
theorem DV {lo hi:Nat}{v:AV}{v':Value}{n:Nat}(hv:VR e v v')(h:bound lo hi v=some n):∃ k:IntKind,∃ z:Int,v' = .int k z/\lo<=n/\n<=hi/\z=n:=by
 unfold bound at h
 split at h
 ·rename_i k z
  split at h
  ·rename_i hk
   simp only[aaT,decide_eq_true_eq] at hk
   cases h
   exact⟨k,z,hv.fZ,by omega,by omega,by omega⟩
  ·cases h
 ·cases h
def wA (e:Em):Option AV->Option Value->Prop
 | none,none=>True
 | some a,some b=>VR e a b
 | _,_=>False
theorem yN {z:Int}{k:IntKind}{n y:Nat}{code:BoundsCode}(h:z=n)(hy:n<=y)(w:World):(Instr.sliceBound (.int k z) y code).run P w = .ok n w:=by
 subst h
 simp[Instr.sliceBound,asIntOf,hy]
theorem JB {rP:Bool}{len cap uw:Nat}{low high mx:Option AV}{wi AF AS:Option Value}(h1:wA e low wi)(h2:wA e high AF)(h3:wA e mx AS)
  {l h m:Nat} (hb:sC len cap low high mx=some (l,h,m)) (hl:len<=uw) (hc:cap<=uw) (w:World) :
  (Instr.sliceBounds rP len uw wi AF AS).run P w = .ok (l,h,if mx.isSome then m else uw) w/\l<=h/\(mx=none->m=cap)/\(mx.isSome=true->h<=m/\m<=cap)/\(high=none->h=len)/\(mx=none->high.isSome=true->h<=cap):=by
 simp only[sC,acy,abA,Option.pure_def,adE,acv] at hb
 obtain⟨m0,hm,h0,hh,l0,rD,rfl,rfl,rfl⟩:=hb
 cases mx with
 | some mv=>
  cases AS with
  | none=>exact h3.elim
  | some mv'=>
   obtain⟨km,zm,rfl,_,qi,Yn⟩:=DV h3 hm
   cases high with
   | none=>cases hh
   | some hv=>
    cases AF with
    | none=>exact h2.elim
    | some cw=>
     obtain⟨kh,zh,rfl,_,qz,HM⟩:=DV h2 hh
     cases low with
     | none=>
      cases wi with
      | some _=>exact h1.elim
      | none=>
       cases rD
       refine⟨?_,by omega,by simp,fun _=>⟨qz,qi⟩,by simp,by simp⟩
       simp[Instr.sliceBounds,yN Yn (show m0<=uw by omega),yN HM qz]
     | some lv=>
      cases wi with
      | none=>exact h1.elim
      | some lv'=>
       obtain⟨kl,zl,rfl,_,oG,BK⟩:=DV h1 rD
       refine⟨?_,oG,by simp,fun _=>⟨qz,qi⟩,by simp,by simp⟩
       simp[Instr.sliceBounds,yN Yn (show m0<=uw by omega),yN HM qz,yN BK oG]
 | none=>
  cases AS with
  | some _=>exact h3.elim
  | none=>
   cases hm
   cases high with
   | none=>
    cases AF with
    | some _=>exact h2.elim
    | none=>
     cases hh
     cases low with
     | none=>
      cases wi with
      | some _=>exact h1.elim
      | none=>cases rD;exact⟨by simp[Instr.sliceBounds],by omega,by simp,by simp,by simp,by simp⟩
     | some lv=>
      cases wi with
      | none=>exact h1.elim
      | some lv'=>
       obtain⟨kl,zl,rfl,_,oG,BK⟩:=DV h1 rD
       exact⟨by simp[Instr.sliceBounds,yN BK oG],oG,by simp,by simp,by simp,by simp⟩
   | some hv=>
    cases AF with
    | none=>exact h2.elim
    | some cw=>
     obtain⟨kh,zh,rfl,_,qz,HM⟩:=DV h2 hh
     cases low with
     | none=>
      cases wi with
      | some _=>exact h1.elim
      | none=>cases rD;exact⟨by simp[Instr.sliceBounds,yN HM (show h0<=uw by omega)],by omega,by simp,by simp,by simp,fun _ _=>qz⟩
     | some lv=>
      cases wi with
      | none=>exact h1.elim
      | some lv'=>
       obtain⟨kl,zl,rfl,_,oG,BK⟩:=DV h1 rD
       exact⟨by simp[Instr.sliceBounds,yN HM (show h0<=uw by omega),yN BK oG],oG,by simp,by simp,by simp,fun _ _=>qz⟩
theorem bh.ae0 (b:ByteArray)(l h:Nat):((bytes b).drop l).take (h-l)=bytes (b.extract l h):=by
 unfold bytes
 rw[ByteArray.data_extract,Array.toList_extract,List.extract,List.map_take,List.map_drop]
theorem ata (hRH:RH G F W e H w){t:TypeId}{x v:AV}{x':Value}{low high mx:Option AV}{wi AF AS:Option Value}(hx:VR e x x')(h1:wA e low wi)(h2:wA e high AF)(h3:wA e mx AS)
  (ha:su P t x low high mx H=some v):∃ v',(Instr.sliceAt t x' wi AF AS).run P w = .ok v' w/\VR e v v':=by
 simp only[su,acy,abA] at ha
 obtain⟨d,hd,ha⟩:=ha
 split at ha
 ·rename_i s
  obtain⟨b,rfl,rfl⟩:=hx.mO
  cases mx with
  | some _=>simp at ha
  | none=>
   cases AS with
   | some _=>exact h3.elim
   | none=>
    simp only[aho,abH,if_false,abA,Prod.exists] at ha
    obtain⟨l,h,m,hb,hv⟩:=ha
    simp only[adE] at hv
    subst hv
    have eG:(bytes b).length=b.size:=by unfold bytes;rw[adY,ajS];rfl
    rw[eG] at hb
    obtain⟨hr,MH,hm,_,BD,qz⟩:=JB (P:=P) (rP:=false) h1 h2 h3 hb (aaU _) (aaU _) w
    simp only[aho,abH,if_false] at hr
    refine⟨.string (b.extract l h),by simp[Instr.sliceAt,Instr.slice,aI hd,hr],?_⟩
    rw[bh.ae0];exact .str _
 ·rename_i el
  simp only[abA,Prod.exists] at ha
  obtain⟨l,h,m,hb,hv⟩:=ha
  split at hv
  ·rename_i hs
   simp only[adE] at hv
   subst hv
   obtain⟨es,dK⟩:=ai1.1 hs
   cases hx
   obtain⟨hr,MH,hm,qi,BD,qz⟩:=JB (P:=P) (rP:=true) h1 h2 h3 hb (aaU _) (aaU _) w
   refine⟨.slice none 0 0,?_,.ae⟩
   have hh:h=0:=by
    cases mx with
    | some _=>have:=qi rfl;omega
    | none=>
     cases high with
     | none=>exact BD rfl
     | some _=>have:=qz rfl rfl;omega
   have rD:l=0:=by omega
   subst hh;subst rD
   have Vr:(if mx.isSome=true then m else 0)=0:=by
    split
    ·rename_i Th;have:=qi Th;omega
    ·rfl
   rw[Vr] at hr
   simp[Instr.sliceAt,Instr.slice,aI hd,hr,hZ dK]
  ·cases hv
 ·rename_i el i off len cap ex es
  simp only[abA,Prod.exists] at ha
  obtain⟨l,h,m,hb,aQ,dK,hv⟩:=ha
  split at hv
  ·rename_i hs
   simp only[beq_iff_eq] at hs
   subst hs
   simp only[adE] at hv
   subst hv
   rcases hx.mC with⟨o,c,hi,ho,hl,hc,je,hn,rfl⟩ | ⟨rfl,rfl,a,rfl⟩
   ·obtain⟨hr,MH,hm,qi,BD,qz⟩:=JB (P:=P) (rP:=true) h1 h2 h3 hb hl hc w
    have EC:h<=(if mx.isSome=true then m else c)/\m<=(if mx.isSome=true then m else c)/\(if mx.isSome=true then m else c)<=c/\((ex||mx.isSome)=true->(if mx.isSome=true then m else c)=m):=by
     cases mx with
     | some _=>have:=qi rfl;simp;omega
     | none=>
      have hmc:=hm rfl
      simp only[aho,abH,if_false,Bool.or_false]
      refine⟨?_,by omega,by omega,fun oM=>by rw[je oM,hmc]⟩
      cases high with
      | none=>have:=BD rfl;omega
      | some _=>have:=qz rfl rfl;omega
    generalize (if mx.isSome=true then m else c)=m' at hr EC
    obtain⟨LX,vt,hq3,SP⟩:=EC
    by_cases uJ:m'=l
    ·have e1:h-l=0:=by omega
     have e2:m-l=0:=by omega
     refine⟨.slice (some ⟨e.b i,o,none⟩) 0 0,?_,by rw[e1,e2];exact .BA ..⟩
     have e3:h=l:=by omega
     simp[Instr.sliceAt,Instr.slice,aI hd,hr,hZ dK,uJ,e3]
    ·refine⟨.slice (some ⟨e.b i,o+l*aQ,none⟩) (h-l) (m'-l),?_,.slice _ _ _ _ _ _ _ _ hi (by omega) (by omega) (by omega) (fun oM=>by rw[SP oM]) ?_⟩
     ·simp[Instr.sliceAt,Instr.slice,aI hd,hr,hZ dK,uJ,add_lit]
     ·have:o+l*aQ+(m'-l)*aQ=o+m'*aQ:=by
       rw[ajG,<-ahJ];congr 2;omega
      rw[this]
      have:m'*aQ<=c*aQ:=agV _ hq3
      omega
   ·obtain⟨hr,MH,hm,qi,BD,qz⟩:=JB (P:=P) (rP:=true) (uw:=0) h1 h2 h3 hb (aaU _) (aaU _) w
    have hh:h=0:=by
     cases mx with
     | some _=>have:=qi rfl;omega
     | none=>
      cases high with
      | none=>exact BD rfl
      | some _=>have:=qz rfl rfl;omega
    have rD:l=0:=by omega
    have Vr:(if mx.isSome=true then m else 0)=0:=by
     split
     ·rename_i Th;have:=qi Th;omega
     ·rfl
    have AN:m=0:=by
     cases mx with
     | some _=>have:=qi rfl;omega
     | none=>exact hm rfl
    subst hh;subst rD;subst AN
    rw[Vr] at hr
    exact⟨.slice (some a) 0 0,by simp[Instr.sliceAt,Instr.slice,aI hd,hr,hZ dK],.BA ..⟩
  ·cases hv
 ·rename_i n el i off
  simp only[abA,Prod.exists] at ha
  obtain⟨l,h,m,hb,es,dK,hv⟩:=ha
  split at hv
  ·rename_i hs
   simp only[aaT,ae2] at hs
   obtain⟨Ef,pG⟩:=hs
   obtain⟨u,hu⟩:=ai1.1 pG
   simp only[adE] at hv
   subst hv
   obtain⟨o,hi,ho,rfl⟩:=hx.um
   obtain⟨hr,MH,hm,qi,BD,qz⟩:=JB (P:=P) (rP:=false) h1 h2 h3 hb (aaU _) (aaU _) w
   have ba:=hRH.Uy (o:=o+n*es-1) hu (by omega)
   have WE:(if mx.isSome=true then m else n)=m/\m<=n/\h<=m:=by
    cases mx with
    | some _=>have:=qi rfl;simp;omega
    | none=>
     have:=hm rfl
     subst this
     refine⟨by simp,aaU _,?_⟩
     cases high with
     | none=>have:=BD rfl;omega
     | some _=>exact qz rfl rfl
   rw[WE.1] at hr
   obtain⟨_,LX,vt⟩:=WE
   by_cases uJ:m=l
   ·have e1:h-l=0:=by omega
    have e2:m-l=0:=by omega
    refine⟨.slice (some ⟨e.b i,o,none⟩) 0 0,?_,by rw[e1,e2];exact .BA ..⟩
    have e3:h=l:=by omega
    simp[Instr.sliceAt,aI hd,Instr.sureAddr,hr,hZ dK,uJ,e3]
   ·refine⟨.slice (some ⟨e.b i,o+l*es,none⟩) (h-l) (m-l),?_,.slice _ _ _ _ _ _ _ _ hi (by omega) (by omega) (by omega) (fun _=>rfl) ?_⟩
    ·simp[Instr.sliceAt,aI hd,Instr.sureAddr,hr,hZ dK,uJ,add_lit]
    ·have:o+l*es+(m-l)*es=o+m*es:=by
      rw[ajG,<-ahJ];congr 2;omega
     rw[this]
     have:m*es<=n*es:=agV _ LX
     omega
  ·cases hv
 ·cases ha
end
end
section
variable {P:Program}{G:Nat}{F:Nat->Prop}{W:World}{e:Em}{H:Hp}{w:World}
theorem xp (b:ByteArray):(bytes b).length=b.size:=by unfold bytes;rw[adY,ajS];rfl
theorem abE:∀ {x y:List UInt8},x.map (·.toNat)=y.map (·.toNat)->x=y
 | [],[],_=>rfl
 | [],_::_,h=>by simp at h
 | _::_,[],h=>by simp at h
 | a::x,b::y,h=>by
  simp only[ac4,List.cons.injEq] at h
  rw[UInt8.toNat_inj.1 h.1,abE h.2]
theorem bytes_beq (a b:ByteArray):(bytes a==bytes b)=(a.data.toList==b.data.toList):=by
 unfold bytes
 by_cases h:a.data.toList=b.data.toList
 ·rw[h];simp
 ·have:¬ (a.data.toList.map (·.toNat)=b.data.toList.map (·.toNat)):=fun h2=>h (abE h2)
  rw[beq_eq_false_iff_ne.2 h,beq_eq_false_iff_ne.2 this]
theorem Ym:∀ (x y:List UInt8),qP (x.map (·.toNat)) (y.map (·.toNat))=Op.bytesLess x y
 | x,[]=>by cases x<;>simp[qP,Op.bytesLess]
 | [],b::y=>by simp[qP,Op.bytesLess]
 | a::x,b::y=>by
  simp only[ac4,qP,Op.bytesLess,Ym x y]
  congr 1
  ·by_cases h:a.toNat<b.toNat
   ·have:a<b:=by rw[UInt8.lt_iff_toNat_lt];exact h
    simp[this,h]
   ·have:¬ a<b:=by rw[UInt8.lt_iff_toNat_lt];exact h
    have h2:Nat.blt a.toNat b.toNat=false:=by
     cases hb:Nat.blt a.toNat b.toNat
     ·rfl
     ·rw[ae2] at hb;exact absurd hb h
    simp[this,h2]
  ·congr 1
   by_cases h:a=b
   ·subst h;simp
   ·have h2:¬ a.toNat=b.toNat:=fun q=>h (UInt8.toNat_inj.1 q)
    rw[pq h2,beq_eq_false_iff_ne.2 h]
theorem arq (a b:ByteArray):bytes (a++b)=bytes a++bytes b:=by
 unfold bytes;rw[ByteArray.data_append,Array.toList_append,afg]
theorem YJ (k:IntKind)(a:Int)(h:0<=a):(BitVec.ofInt k.bits a).toNat=a.toNat % 2 ^ k.bits:=by
 rw[aj3]
 obtain⟨n,rfl⟩:=Int.eq_ofNat_of_zero_le h
 rw[acB]
 have:((n:Int) % ((2 ^ k.bits:Nat):Int))=((n % 2 ^ k.bits:Nat):Int):=by norm_cast
 rw[this,acB]
theorem acz {α:Type}(g:α->Option Bool)(body:α->Option Bool × Unit->Sem (ForInStep (Option Bool × Unit)))(w:World)
  (hb:∀ a b,g a=some b->(body a (none,())).run P w = .ok (if b then .yield (none,()) else .done (some false,())) w) :
  ∀ (l:List α) (b:Bool),rJ g l=some b->(forIn l (none,()) body).run P w = .ok (if b then (none,()) else (some false,())) w:=by
 intro l
 induction l with
 | nil=>intro b h;simp only[rJ,adE] at h;subst h;simp
 | cons a r ih=>
  intro b h
  unfold rJ at h
  split at h
  ·rename_i hg
   rw[List.forIn_cons,Sem.run_bind,hb a true hg]
   exact ih b h
  ·rename_i hg
   cases h
   rw[List.forIn_cons,Sem.run_bind,hb a false hg]
   simp
  ·cases h
theorem acx (p q:ByteArray):(p==q)=(bytes p==bytes q):=by
 rw[bytes_beq]
 have h0:(p==q)=(p.data==q.data):=by cases p;cases q;rfl
 rw[h0]
 by_cases e:p.data=q.data
 ·rw[e];simp
 ·have:¬ p.data.toList=q.data.toList:=fun h2=>e (aeU.1 h2)
  rw[beq_eq_false_iff_ne.2 e,beq_eq_false_iff_ne.2 this]
theorem W5 (h:RH G F W e H w){i:Nat}(hc:clean H i=true):∃ C el,i<e.N/\w.heap[e.b i]? = some (.cells C el (0,0))/\(∃ o,H.h.get i=some o/\wr o=true):=by
 unfold clean at hc
 split at hc
 ·rename_i c lo hi el hg
  obtain⟨hN,ob,ei,eB,_⟩:=h.obj i _ hg
  cases eB with
  | cells _ _ _ _ _ C fz hn jB h0 h1 hd=>
   have:=h0 rfl
   subst this
   exact⟨C,el,hN,ei,_,hg,rfl⟩
 ·cases hc
theorem Iy (h:RH G F W e H w):∀ (d D:Nat),d<=D->∀ (t:TypeId) (x y:AV) (x' y':Value) (b:Bool),VR e x x'->VR e y y'->dX P d t x y H=some b->
  (Op.equalIn D t x' y').run P w = .ok b w:=by
 intro d
 induction d with
 | zero=>intro D _ t x y x' y' b _ _ hb;cases hb
 | succ d ih=>
  intro D hD t x y x' y' b hx hy hb
  obtain⟨D,rfl⟩:∃ k,D=k+1:=⟨D-1,by omega⟩
  unfold dX at hb
  split at hb
  ·cases hb
  rename_i u hu
  split at hb
  ·cases hx.xj;cases hy.xj;cases hb;simp[Op.equalIn,aI hu]
  ·cases hx.fZ;cases hy.fZ
   split at hb
   ·rename_i hk;cases hb;simp[Op.equalIn,aI hu,hk]
   ·cases hb
  ·obtain⟨p,rfl,rfl⟩:=hx.mO
   obtain⟨q,rfl,rfl⟩:=hy.mO
   cases hb
   have:=acx p q
   simp[Op.equalIn,aI hu,this]
  ·cases hx;cases hy;cases hb;simp[Op.equalIn,aI hu]
  ·cases hx;cases hy;cases hb;simp[Op.equalIn,aI hu]
  ·cases hx;cases hy;cases hb;simp[Op.equalIn,aI hu]
  ·rename_i el i a j c
   split at hb
   ·rename_i n hn
    obtain⟨o,hi,ho,rfl⟩:=hx.um
    obtain⟨o2,hj,oU,rfl⟩:=hy.um
    cases mE:Nat.beq i j with
    | true=>
     have:i=j:=abI mE
     subst this
     rw[mE] at hb
     cases hb
     have:(Nat.beq a c)=(o==o2):=by
      by_cases q:a=c
      ·subst q
       have:o=o2:=by omega
       subst this;simp
      ·rw[pq q,beq_eq_false_iff_ne.2 (by omega)]
     simp[Op.equalIn,aI hu,hZ hn,sameAddr,this]
     by_cases q:o=o2
     ·subst q;simp
     ·rw[beq_eq_false_iff_ne.2 q,beq_eq_false_iff_ne.2 (by simp;exact q)]
    | false=>
     rw[mE] at hb
     cases sM:(clean H i&&clean H j) with
     | false=>rw[sM] at hb;cases hb
     | true=>
      rw[sM] at hb
      cases hb
      rw[aaT] at sM
      obtain⟨C1,l1,_,g1,o1,q1,u1⟩:=W5 h sM.1
      obtain⟨C2,l2,_,g2,o3,q2,u2⟩:=W5 h sM.2
      have aH:¬ e.b i=e.b j:=fun q=>by
       have:=h.inj i j _ _ q1 q2 (.inl u1) q
       subst this
       simp at mE
      have f1:∀ k,w.frozen? ⟨e.b i,k,none⟩=false:=fun k=>by simp[World.frozen?,g1]
      have f2:∀ k,w.frozen? ⟨e.b j,k,none⟩=false:=fun k=>by simp[World.frozen?,g2]
      have s1:w.shape? (e.b i)=some (l1,C1.size):=by simp[World.shape?,g1]
      have s2:w.shape? (e.b j)=some (l2,C2.size):=by simp[World.shape?,g2]
      simp[Op.equalIn,aI hu,hZ hn,sameAddr,aH,f1,f2,noView,viewAt,s1,s2,mayBeOne,stringish]
   ·cases hb
  ·cases hx;cases hy;cases hb;simp[Op.equalIn,aI hu]
  ·cases hx;cases hy;cases hb;simp[Op.equalIn,aI hu]
  ·cases hx;cases hy;cases hb;simp[Op.equalIn,aI hu]
  ·rename_i t1 v1 t2 v2
   cases hx with
   | iface _ _ v1' mN=>
   cases hy with
   | iface _ _ Gg yB=>
   split at hb
   ·rename_i ht
    subst ht
    split at hb
    ·rename_i inf jd
     cases SJ:inf.comparable with
     | false=>rw[SJ] at hb;cases hb
     | true=>
      rw[SJ] at hb
      have:=ih D (by omega) t1 v1 v2 v1' Gg b mN yB hb
      simp[Op.equalIn,aI hu,qt jd,SJ,this]
    ·cases hb
   ·rename_i ht
    cases hb
    simp[Op.equalIn,aI hu,ht]
  ·rename_i fs xs ys
   cases aA:P.stoodInHeld t with
   | true=>rw[aA] at hb;cases hb
   | false=>
    rw[aA] at hb
    simp only[cond_false] at hb
    obtain⟨vx,rfl,fc⟩:=hx.yt
    obtain⟨vy,rfl,Pe⟩:=hy.yt
    have key := acz (P := P) (g := fun f : Field => if f.name = "_" then some true else
     match nH P f.type xs f.offset,nH P f.type ys f.offset with
     | some a,some b=>dX P d f.type a b H
     | _,_=>none) (body:=fun f O9=>
      if f.name = "_" then Pure.pure (ForInStep.yield (none, ()))
      else do
       let DA <-part f.type vx f.offset
       let QU <-part f.type vy f.offset
       let DA <-Op.equalIn D f.type DA QU
       if DA=false then Pure.pure (ForInStep.done (some false,())) else Pure.pure (ForInStep.yield (none,()))) w (by
      intro f b hg
      by_cases hn : f.name = "_"
      ·rw[if_pos hn] at hg;cases hg;simp[hn]
      ·rw[if_neg hn] at hg
       split at hg
       ·rename_i a1 a2 h1 h2
        obtain⟨u1,xN,ja⟩:=Bh fc h1 w
        obtain⟨u2,vm,pH⟩:=Bh Pe h2 w
        have:=ih D (by omega) f.type a1 a2 u1 u2 b ja pH hg
        cases b<;>simp[hn,xN,vm,this]
       ·cases hg) fs.toList b hb
    simp only[Op.equalIn,Sem.run_bind,aI hu,Result.andThen_ok,run_program,aA]
    simp only[Array.forIn_toList] at key
    simp[key]
    cases b<;>simp
  ·rename_i n el xs ys
   split at hb
   ·rename_i s hs
    obtain⟨vx,rfl,fc⟩:=hx.yt
    obtain⟨vy,rfl,Pe⟩:=hy.yt
    have key:=acz (P:=P) (g:=fun i:Nat=>
     match nH P el xs (i*s),nH P el ys (i*s) with
     | some a,some b=>dX P d el a b H
     | _,_=>none) (body:=fun i O9=>do
       let DA <-part el vx (i*s)
       let QU <-part el vy (i*s)
       let DA <-Op.equalIn D el DA QU
       if DA=false then Pure.pure (ForInStep.done (some false,())) else Pure.pure (ForInStep.yield (none,()))) w (by
      intro f b hg
      split at hg
      ·rename_i a1 a2 h1 h2
       obtain⟨u1,xN,ja⟩:=Bh fc h1 w
       obtain⟨u2,vm,pH⟩:=Bh Pe h2 w
       have:=ih D (by omega) el a1 a2 u1 u2 b ja pH hg
       cases b<;>simp[xN,vm,this]
      ·cases hg) (List.range' 0 n) b hb
    simp[Op.equalIn,aI hu,hZ hs]
    simp[key]
    cases b<;>simp
   ·cases hb
  ·cases hx;cases hy;cases hb;simp[Op.equalIn,aI hu]
  ·cases hx;cases hb
   rcases hy.mC with⟨o,c,hi,ho,hl,hc,je,hn,rfl⟩ | ⟨rfl,rfl,a,rfl⟩<;>simp[Op.equalIn,aI hu]
  ·cases hy;cases hb
   rcases hx.mC with⟨o,c,hi,ho,hl,hc,je,hn,rfl⟩ | ⟨rfl,rfl,a,rfl⟩<;>simp[Op.equalIn,aI hu]
  ·cases hx;cases hy;cases hb;simp[Op.equalIn,aI hu]
  ·cases hx;cases hy;cases hb;simp[Op.equalIn,aI hu]
  ·cases hx;cases hy;cases hb;simp[Op.equalIn,aI hu]
  ·cases hx;cases hy;cases hb;simp[Op.equalIn,aI hu]
  ·cases hx;cases hy;cases hb;simp[Op.equalIn,aI hu]
  ·cases hx;cases hy;cases hb;simp[Op.equalIn,aI hu]
  ·cases hb
end
end
section
variable {P:Program}{G:Nat}{F:Nat->Prop}{W:World}{e:Em}{H:Hp}{w:World}
theorem aoJ (k:IntKind)(a b:Int):((BitVec.ofInt k.bits a) &&& (BitVec.ofInt k.bits b)).toNat=oZ k a &&& oZ k b:=by
 rw[BitVec.toNat_and,aj3,aj3];rfl
theorem amc (k:IntKind)(a b:Int):((BitVec.ofInt k.bits a) ||| (BitVec.ofInt k.bits b)).toNat=oZ k a ||| oZ k b:=by
 rw[BitVec.toNat_or,aj3,aj3];rfl
theorem aq2 (k:IntKind)(a b:Int):((BitVec.ofInt k.bits a) ^^^ (BitVec.ofInt k.bits b)).toNat=oZ k a ^^^ oZ k b:=by
 rw[BitVec.toNat_xor,aj3,aj3];rfl
theorem avT (k:IntKind)(a b:Int)(ha:0<=a)(hb:0<=b):((BitVec.ofInt k.bits a) ^^^ (BitVec.ofInt k.bits b)).toNat=(a.toNat % 2 ^ k.bits) ^^^ (b.toNat % 2 ^ k.bits):=by
 rw[BitVec.toNat_xor,YJ k a ha,YJ k b hb]
theorem M8 (a b:ByteArray):(a.toList==b.toList)=(bytes a==bytes b):=by
 rw[ByteArray.toList_eq,ByteArray.toList_eq,bytes_beq]
theorem KZ (a b:ByteArray):Op.bytesLess a.toList b.toList=qP (bytes a) (bytes b):=by
 rw[ByteArray.toList_eq,ByteArray.toList_eq];exact (Ym _ _).symm
theorem LM {d:Nat}{t:TypeId}{x y:AV}{b:Bool}(hb:dX P d t x y H=some b):x ≠ .dD/\y ≠ .dD:=by
 constructor
 ·rintro rfl
  cases d with
  | zero=>cases hb
  | succ d=>
   unfold dX at hb
   split at hb
   ·cases hb
   ·split at hb<;>first | (simp at *;done) | (simp_all;done) | cases hb
 ·rintro rfl
  cases d with
  | zero=>cases hb
  | succ d=>
   unfold dX at hb
   split at hb
   ·cases hb
   ·split at hb<;>first | (simp at *;done) | (simp_all;done) | cases hb
theorem VR.Zi {x:AV}{x':Value}(h:VR e x x')(hj:x ≠ .dD):(∀ k a,x' ≠ .float k a)/\(∀ k a b,x' ≠ .complex k a b):=by
 cases h<;>first | (exact absurd rfl hj) | (constructor<;>(intros;simp))
theorem alA {t:TypeId}{x y:Value}(h1:∀ k a k' b,x = .int k a->y = .int k' b->False)(h2:∀ a b,x = .string a->y = .string b->False)
  (h3:∀ k a,x ≠ .float k a) (h4:∀ k a b,x ≠ .complex k a b):binOp .eql t x y=(do Pure.pure (.bool (<-Op.equal t x y))):=by
 cases x<;>cases y<;>first | rfl | (exact absurd rfl (h3 _ _)) | (exact absurd rfl (h4 _ _ _)) | (exact (h1 _ _ _ _ rfl rfl).elim) | (exact (h2 _ _ rfl rfl).elim)
theorem agi {t:TypeId}{x y:Value}(h1:∀ k a k' b,x = .int k a->y = .int k' b->False)(h2:∀ a b,x = .string a->y = .string b->False)
  (h3:∀ k a,x ≠ .float k a) (h4:∀ k a b,x ≠ .complex k a b):binOp .neq t x y=(do Pure.pure (.bool (!(<-Op.equal t x y)))):=by
 cases x<;>cases y<;>first | rfl | (exact absurd rfl (h3 _ _)) | (exact absurd rfl (h4 _ _ _)) | (exact (h1 _ _ _ _ rfl rfl).elim) | (exact (h2 _ _ rfl rfl).elim)
theorem VR.Lf {x:AV}{k:IntKind}{n:Int}(h:VR e x (.int k n))(hj:x ≠ .dD):x = .int k n:=by cases h<;>first | rfl | exact absurd rfl hj
theorem VR.Nz {x:AV}{s:ByteArray}(h:VR e x (.string s))(hj:x ≠ .dD):x = .str (bytes s):=by cases h<;>first | rfl | exact absurd rfl hj
theorem awL (h:RH G F W e H w){op:BinOp}{t:TypeId}{x y v:AV}{x' y':Value}(hx:VR e x x')(hy:VR e y y')(hb:fe P op t x y H=some v) :
  ∃ v',(binOp op t x' y').run P w = .ok v' w/\VR e v v':=by
 unfold fe at hb
 split at hb
 ·cases hx.fZ;cases hy.fZ
  split at hb
  ·cases hb
  ·rename_i hn;cases hb
   exact⟨_,by simp[binOp,Op.shift,hn],.int _ _⟩
 ·cases hx.fZ;cases hy.fZ
  split at hb
  ·cases hb
  ·rename_i hn;cases hb
   exact⟨_,by simp[binOp,Op.shift,hn],.int _ _⟩
 ·cases hx.fZ;cases hy.fZ
  split at hb
  ·rename_i k a k' b n1 n2 hk
   subst hk
   split at hb
   ·cases hb;exact⟨_,by simp[binOp,Op.intArith],.int _ _⟩
   ·cases hb;exact⟨_,by simp[binOp,Op.intArith],.int _ _⟩
   ·cases hb;exact⟨_,by simp[binOp,Op.intArith],.int _ _⟩
   ·split at hb
    ·cases hb
    ·rename_i hz;cases hb;exact⟨_,by simp[binOp,Op.intDiv,hz],.int _ _⟩
   ·split at hb
    ·cases hb
    ·rename_i hz;cases hb;exact⟨_,by simp[binOp,Op.intDiv,hz],.int _ _⟩
   ·cases hb
    rw[<-aoJ k a b]
    exact⟨_,by simp only[binOp,Op.intBits,ne_eq,not_true_eq_false,if_false];rfl,.int _ _⟩
   ·cases hb
    rw[<-amc k a b]
    exact⟨_,by simp only[binOp,Op.intBits,ne_eq,not_true_eq_false,if_false];rfl,.int _ _⟩
   ·cases hb
    rw[<-aq2 k a b]
    exact⟨_,by simp only[binOp,Op.intBits,ne_eq,not_true_eq_false,if_false];rfl,.int _ _⟩
   ·cases hb
   ·cases hb;exact⟨_,by simp[binOp,Op.intCmp],.bool _⟩
   ·cases hb;exact⟨_,by simp[binOp,Op.intCmp],.bool _⟩
   ·cases hb;exact⟨_,by simp[binOp,Op.intCmp],.bool _⟩
   ·cases hb;exact⟨_,by simp[binOp,Op.intCmp],.bool _⟩
   ·cases hb;exact⟨_,by simp[binOp,Op.intCmp],.bool _⟩
   ·cases hb;exact⟨_,by simp[binOp,Op.intCmp],.bool _⟩
   ·cases hb
  ·cases hb
 ·obtain⟨p,rfl,rfl⟩:=hx.mO
  obtain⟨q,rfl,rfl⟩:=hy.mO
  split at hb
  ·cases hle:Nat.ble ((bytes p).length+(bytes q).length) 4294967296 with
   | false=>rw[hle] at hb;cases hb
   | true=>
    rw[hle] at hb
    cases hb
    rw[afV,xp,xp] at hle
    have:¬ ((p.size+q.size:Nat):Int)>9223372036854775807:=by omega
    rw[<-arq]
    refine⟨.string (p++q),?_,.str _⟩
    simp only[binOp,Op.stringOp,IntKind.max_i64,if_neg this];rfl
  ·cases hb;exact⟨_,by simp[binOp,Op.stringOp,M8],.bool _⟩
  ·cases hb;exact⟨_,by simp[binOp,Op.stringOp,M8],.bool _⟩
  ·cases hb;exact⟨_,by simp[binOp,Op.stringOp,KZ],.bool _⟩
  ·cases hb;exact⟨_,by simp[binOp,Op.stringOp,KZ,M8],.bool _⟩
  ·cases hb;exact⟨_,by simp[binOp,Op.stringOp,KZ,M8],.bool _⟩
  ·cases hb;exact⟨_,by simp[binOp,Op.stringOp,KZ],.bool _⟩
  ·cases hb
 ·rename_i n1 n2
  simp only[aam] at hb
  obtain⟨b,hb,rfl⟩:=hb
  have:=Iy h 50 Op.maxDepth (by decide) t x y x' y' b hx hy hb
  refine⟨.bool b,?_,.bool _⟩
  obtain⟨j1,j2⟩:=LM hb
  obtain⟨f1,f2⟩:=hx.Zi j1
  rw[alA (fun k a k' b p q=>n1 k a k' b (by rw[p] at hx;exact hx.Lf j1) (by rw[q] at hy;exact hy.Lf j2))
   (fun a b p q=>n2 _ _ (by rw[p] at hx;exact hx.Nz j1) (by rw[q] at hy;exact hy.Nz j2)) f1 f2]
  simp only[Op.equal,Sem.run_bind,this];rfl
 ·rename_i n1 n2
  simp only[aam] at hb
  obtain⟨b,hb,rfl⟩:=hb
  have:=Iy h 50 Op.maxDepth (by decide) t x y x' y' b hx hy hb
  refine⟨.bool !b,?_,.bool _⟩
  obtain⟨j1,j2⟩:=LM hb
  obtain⟨f1,f2⟩:=hx.Zi j1
  rw[agi (fun k a k' b p q=>n1 k a k' b (by rw[p] at hx;exact hx.Lf j1) (by rw[q] at hy;exact hy.Lf j2))
   (fun a b p q=>n2 _ _ (by rw[p] at hx;exact hx.Nz j1) (by rw[q] at hy;exact hy.Nz j2)) f1 f2]
  simp only[Op.equal,Sem.run_bind,this];rfl
 ·cases hb
theorem ahR {op:BinOp}{t:TypeId}{X Y:Operand}{x y v:AV}{x' y':Value}(hx:VR e x x')(hy:VR e y y')(hg:uf P op t X Y x y=true)(hb:fe P op t x y H=some v) :
  (eqGuard op t X Y x' y').run P w = .ok () w:=by
 by_cases ho:op = .eql\/op = .neq
 ·have Mt:x ≠ .dD/\y ≠ .dD:=by
   constructor
   ·rintro rfl
    rcases ho with rfl | rfl<;>(unfold fe at hb;simp only[aam] at hb;obtain⟨b,hb,_⟩:=hb;exact (LM hb).1 rfl)
   ·rintro rfl
    rcases ho with rfl | rfl<;>(unfold fe at hb;cases x<;>simp only[aam] at hb<;>(obtain⟨b,hb,_⟩:=hb;exact (LM hb).2 rfl))
  cases hx<;>cases hy<;>first
   | (exact absurd rfl Mt.1) | (exact absurd rfl Mt.2)
   | (rcases ho with rfl | rfl<;>rfl)
   | skip
  ·have Dq:xb X=true\/xb Y=true:=by
    rcases ho with rfl | rfl<;>(simp only[uf,aiy] at hg;exact hg)
   rcases ho with rfl | rfl<;>(rcases Dq with hc | hc<;>(cases X<;>cases Y<;>first | (simp[xb] at hc;done) | rfl))
  ·have Dq:P.eqGuardType P.depth t=false:=by
    rcases ho with rfl | rfl<;>(simp only[uf,aj7] at hg;exact hg)
   rcases ho with rfl | rfl<;>simp[eqGuard,Dq]
 ·have:(op matches .eql | .neq)=false:=by
   cases op<;>first | rfl | (exact absurd (by simp) ho)
  cases op<;>first | rfl | (exact absurd (by simp) ho)
end
end
section
variable {P:Program}{G:Nat}{F:Nat->Prop}{W:World}{e:Em}{H:Hp}{w:World}
theorem ajZ {op:UnOp}{x v:AV}{x':Value}(hx:VR e x x')(hb:eu op x=some v)(w:World):∃ v',(Op.unary op x').run P w = .ok v' w/\VR e v v':=by
 unfold eu at hb
 split at hb
 ·cases hx.fZ;cases hb;exact⟨_,by simp[Op.unary,Op.intArith],.int _ _⟩
 ·cases hx.xj;cases hb;exact⟨_,by simp[Op.unary],.bool _⟩
 ·rename_i k n
  cases hx.fZ
  split at hb
  ·cases hb
  ·rename_i hs
   split at hb
   ·rename_i hn
    cases hb
    have hm:0<=k.max:=by cases k<;>simp[IntKind.max,IntKind.signed,IntKind.bits] at hs ⊢
    rw[<-avT k k.max n hm hn]
    refine⟨_,?_,.int _ _⟩
    simp only[Op.unary,Op.intBits,if_neg hs];rfl
   ·cases hb
 ·cases hb
theorem V5:∀ (v:List Value) (off j:Nat) (cs:Array Value),off+j+v.length<=cs.size->
  ((v.zipIdx j).foldl (fun cs (x:Value × Nat)=>cs.setIfInBounds (off+x.2) x.1) cs).size=cs.size/\
  ∀ m,((v.zipIdx j).foldl (fun cs (x:Value × Nat)=>cs.setIfInBounds (off+x.2) x.1) cs)[m]? = if off+j<=m/\m<off+j+v.length then v[m-(off+j)]? else cs[m]?
 | [],off,j,cs,h=>by
  refine⟨by simp,fun m => ?_⟩
  rw[if_neg (by rw[acG];omega)];simp
 | x::v,off,j,cs,h=>by
  simp only[aa1] at h
  rw[List.zipIdx_cons,List.foldl_cons]
  obtain⟨h1,h2⟩:=V5 v off (j+1) (cs.setIfInBounds (off+j) x) (by simp;omega)
  refine⟨by rw[h1];simp,fun m => ?_⟩
  rw[h2]
  simp only[aa1]
  by_cases hm:m=off+j
  ·subst hm
   rw[if_neg (by omega),if_pos (by omega)]
   rw[aiz (by omega)]
   simp
  ·by_cases hr:off+(j+1)<=m/\m<off+(j+1)+v.length
   ·rw[if_pos hr,if_pos (by omega)]
    have:m-(off+j)=(m-(off+(j+1)))+1:=by omega
    rw[this,adL]
   ·rw[if_neg hr,if_neg (by omega),ag2 (by omega)]
theorem bh.amf {a c:List AV}{x:Array Value}{y:List Value}{off:Nat}(ha:bh e a x.toList)(hc:bh e c y)(h:off+c.length<=a.length) :
  bh e (a.take off++c++a.drop (off+c.length)) ((y.zipIdx).foldl (fun cs (x:Value × Nat)=>cs.setIfInBounds (off+x.2) x.1) x).toList:=by
 have hx:x.size=a.length:=by have:=ha.1;simpa using this
 obtain⟨h1,h2⟩:=V5 y off 0 x (by rw[hc.1,hx];omega)
 refine⟨by simp[h1,hx];omega,fun i v v' hv cw => ?_⟩
 rw[afj,h2] at cw
 simp only[afF] at cw
 rw[hc.1] at cw
 by_cases hi:i<off
 ·rw[if_neg (by omega)] at cw
  rw[afk,abX (by simp;omega),aiC,if_pos hi] at hv
  exact ha.2 i v v' hv (by rw[afj];exact cw)
 ·by_cases nf:i<off+c.length
  ·rw[if_pos (by omega)] at cw
   rw[abX (by simp;omega),ack (by simp;omega)] at hv
   have:i-(a.take off).length=i-off:=by simp;omega
   rw[this] at hv
   exact hc.2 _ v v' hv cw
  ·rw[if_neg (by omega)] at cw
   rw[ack (by simp;omega),ahj] at hv
   have:off+c.length+(i-(a.take off++c).length)=i:=by simp;omega
   rw[this] at hv
   exact ha.2 i v v' hv (by rw[afj];exact cw)
def vL (e:Em)(l:List (Nat × AV))(l':List (Nat × Value)):Prop:=l'.map (·.1)=l.map (·.1)/\bh e (l.map (·.2)) (l'.map (·.2))
theorem ML {pl Eg:Nat->Option (Nat × Nat)}(jy:∀ i x,pl i=some x->Eg i=some x):∀ (ps:List (Nat × AV)) (pQ:List (Nat × Value)) (cells out:List AV) (Dg:Array Value),
  vL e ps pQ->bh e cells Dg.toList->vi pl cells ps=some out->∃ mj,Instr.fill Eg Dg pQ=some mj/\bh e out mj.toList:=by
 intro ps
 induction ps with
 | nil=>
  intro pQ cells out Dg hp hc hf
  cases hf
  obtain rfl:pQ=[]:=by have:=hp.1;simpa using this
  exact⟨Dg,rfl,hc⟩
 | cons p ps ih=>
  intro pQ cells out Dg hp hc hf
  obtain⟨i,v⟩:=p
  cases pQ with
  | nil=>have:=hp.1;simp at this
  | cons q pQ=>
   obtain⟨i',v'⟩:=q
   obtain⟨h1,h2⟩:=hp
   simp only[ac4,List.cons.injEq] at h1
   obtain⟨rfl,h1⟩:=h1
   obtain⟨u,us,hu,hv,tf⟩:=bh.cons_inv (by simpa using h2:bh e (v::ps.map (·.2)) (v'::pQ.map (·.2)))
   simp only[List.cons.injEq] at hu
   obtain⟨rfl,rfl⟩:=hu
   unfold vi at hf
   split at hf
   ·cases hf
   ·rename_i off size qZ
    split at hf
    ·cases hf
    ·rename_i cs fK
     split at hf
     ·rename_i tv
      have hl:=hv.cells fK
      have eG:v'.cells.size=size:=by have:=hl.1;simp at this;omega
      have axl:Dg.size=cells.length:=by have:=hc.1;simpa using this
      have lh:=hc.amf hl (off:=off) (by omega)
      rw[tv.1] at lh
      obtain⟨mj,ho,hr⟩:=ih pQ _ out _ ⟨h1,tf⟩ lh hf
      refine⟨mj,?_,hr⟩
      unfold Instr.fill
      rw[jy _ _ qZ]
      have c1:(decide (v'.cells.size≠size)||decide (off+v'.cells.size>Dg.size))=false:=by simp;omega
      simp only[c1,abH,if_false]
      rw[<-ho]
      congr 1
      rw[<-Array.foldl_toList,Array.toList_zipIdx]
     ·cases hf
theorem vL.map {ρ:Operand->AV}{σ:Operand->Value}(h:∀ x,VR e (ρ x) (σ x))(l:List (Nat × Operand)):vL e (l.map fun (i,x)=>(i,ρ x)) (l.map fun (i,x)=>(i,σ x)):=by
 refine⟨by simp[Function.comp_def],?_⟩
 have:=bh.map h (l.map (·.2))
 simpa[Function.comp_def] using this
theorem aca {α β:Type}{f:α->Option β}{g:α->Sem β}{w:World}(h:∀ a b,f a=some b->(g a).run P w = .ok b w):∀ (l:List α) (r:List β),sG f l=some r->(l.mapM g).run P w = .ok r w
 | [],r,hr=>by cases hr;simp
 | a::l,r,hr=>by
  unfold sG at hr
  split at hr
  ·rename_i b hb
   split at hr
   ·rename_i r' ea
    cases hr
    simp[h a b hb,aca h l r' ea]
   ·cases hr
  ·cases hr
theorem aph {t:TypeId}{fs:Array Field}{z out:List AV}{pl:List (Nat × Nat)}{parts:List (Nat × AV)}{CQ:Array (Nat × Value)}(hz:zc P t=some z)(hu:P.underlying t=some (.struct fs))
  (jy:Pk P fs=some pl) (hp:vL e parts CQ.toList) (hf:vi (pl[·]?) z parts=some out) (w:World):∃ v',(Instr.build t CQ).run P w = .ok v' w/\VR e (.agg out) v':=by
 obtain⟨i,z0,hi,fJ,hl⟩:=zd (e:=e) hz
 have hm:(fs.mapM (fun f=>do Pure.pure (f.offset,<-sizeOf f.type)):Sem (Array (Nat × Nat))).run P w = .ok pl.toArray w:=by
  rw[<-Array.toArray_toList (xs:=fs),List.mapM_toArray]
  have:=aca (P:=P) (w:=w) (g:=fun f:Field=>(do Pure.pure (f.offset,<-sizeOf f.type):Sem (Nat × Nat))) (f:=fun f:Field=>(sz P f.type).map fun n=>(f.offset,n)) (by
   intro a b hb
   simp only[aam] at hb
   obtain⟨n,hn,rfl⟩:=hb
   simp[hZ hn]) fs.toList pl jy
  rw[Sem.run_map,this];rfl
 obtain⟨mj,ho,hr⟩:=ML (e:=e) (Eg:=(pl.toArray[·]?)) (fun i x hx=>by simpa using hx) parts CQ.toList z out z0.cells hp hl hf
 refine⟨.agg mj,?_,.agg _ _ hr.1 hr.2⟩
 simp only[Instr.build,Sem.run_bind,rQ hi fJ,Result.andThen_ok,aI hu,hm,ho]
 rfl
theorem af8 {t el s n:Nat}{z out:List AV}{parts:List (Nat × AV)}{CQ:Array (Nat × Value)}(hz:zc P t=some z)(hu:P.underlying t=some (.array n el))
  (hs:sz P el=some s) (hp:vL e parts CQ.toList) (hf:vi (fun i=>some (i*s,s)) z parts=some out) (w:World):∃ v',(Instr.build t CQ).run P w = .ok v' w/\VR e (.agg out) v':=by
 obtain⟨i,z0,hi,fJ,hl⟩:=zd (e:=e) hz
 obtain⟨mj,ho,hr⟩:=ML (e:=e) (Eg:=fun i=>some (i*s,s)) (fun i x hx=>hx) parts CQ.toList z out z0.cells hp hl hf
 refine⟨.agg mj,?_,.agg _ _ hr.1 hr.2⟩
 simp only[Instr.build,Sem.run_bind,rQ hi fJ,Result.andThen_ok,aI hu,hZ hs,ho]
 rfl
theorem adX {α:Type}(z:List α):∀ (n i:Nat),i<n*z.length->(List.replicate n z).flatten[i]? = z[i % z.length]?
 | 0,i,h=>by simp at h
 | n+1,i,h=>by
  rw[List.replicate_succ,akC]
  by_cases hi:i<z.length
  ·rw[abX hi,akL hi]
  ·rw[ack (by omega),adX z n _ (by rw[Nat.succ_mul] at h;omega)]
   congr 1
   have:i=(i-z.length)+z.length:=by omega
   rw[this,Nat.add_mod_right]
   congr 1
   omega
theorem ad0 (z:Array Value)(n:Nat):((Array.range (n*z.size)).map (z[· % z.size]!)).toList=(List.replicate n z.toList).flatten:=by
 apply ajs
 intro i
 by_cases hi:i<n*z.size
 ·rw[adX z.toList n i (by simpa using hi)]
  have hz:0<z.size:=by
   rcases Nat.eq_zero_or_pos z.size with h | h
   ·rw[h] at hi;simp at hi
   ·exact h
  have ba:i % z.size<z.size:=Nat.mod_lt _ hz
  simp[afj,hi,ba]
 ·rw[ahX (by simp;omega),ahX (by simp;omega)]
theorem bh.rep {z:List AV}{z':List Value}(h:bh e z z'):∀ n,bh e (rep n z) (List.replicate n z').flatten
 | 0=>by simpa[Am.rep] using bh.nil e
 | n+1=>by
  have:=h.append (bh.rep h n)
  simpa[Am.rep,List.replicate_succ] using this
end
end
section
variable {P:Program}{G:Nat}{F:Nat->Prop}{W:World}{e:Em}{H:Hp}{w:World}
theorem TM:∀ {l:List AV} {bs:List Nat} {cs:List Value},wX l=some bs->bh e l cs->∃ us:List UInt8,bs=us.map (·.toNat)/\cs=us.map (fun b=>Value.int .u8 b.toNat)
 | [],bs,cs,h,hl=>by
  cases h
  rw[hl.kX]
  exact⟨[],rfl,rfl⟩
 | a::l,bs,cs,h,hl=>by
  unfold wX at h
  split at h
  ·rename_i h0;cases h0
  ·rename_i n r h0
   cases h0
   obtain⟨v',ws,rfl,hv,rW⟩:=hl.cons_inv
   cases hv.fZ
   split at h
   ·rename_i hn
    simp only[aaT,decide_eq_true_eq] at hn
    simp only[acy,Option.pure_def,abA,adE] at h
    obtain⟨bs',h1,rfl⟩:=h
    obtain⟨us,rfl,rfl⟩:=TM h1 rW
    have hu:(UInt8.ofNat n.toNat).toNat=n.toNat:=by
     rw[UInt8.toNat_ofNat'];exact akL (by omega)
    refine⟨UInt8.ofNat n.toNat::us,by simp only[ac4,hu],?_⟩
    have:((UInt8.ofNat n.toNat).toNat:Int)=n:=by rw[hu];omega
    simp only[ac4,this]
   ·cases h
  ·cases h
theorem age (us:List UInt8):bytes ⟨us.toArray⟩=us.map (·.toNat):=rfl
theorem adM:∀ (us:List UInt8) (s:ByteArray),(us.map fun b=>(b.toNat:Int)).foldl (fun r n=>r.push (UInt8.ofNat n.toNat)) s=⟨s.data++us.toArray⟩
 | [],s=>by simp
 | u::us,s=>by
  simp only[ac4,List.foldl_cons,adM us]
  congr 1
  simp[ByteArray.push]
theorem Tw {a:Addr}{us:List UInt8}{cap:Nat}(w:World)(h:∀ j v,(us.map (fun b=>Value.int .u8 b.toNat))[j]? = some v->w.cell? (a.add j)=some v) :
  (Conv.bytesToString (.slice (some a) us.length cap)).run P w = .ok (.string ⟨us.toArray⟩) w:=by
 have h1:=run_loadCells_list (P:=P) w a (us.map (fun b=>Value.int .u8 b.toNat)) h
 rw[adY] at h1
 have h2:=run_bytesToString (P:=P) w a us.length cap (us.map fun b=>(b.toNat:Int)) (by rw[h1];simp[Function.comp_def])
 rw[h2,adM]
 simp[ByteArray.empty,ByteArray.emptyWithCapacity]
 rfl
theorem atE (n:Int)(h:0<=n/\n<128):bytes (Utf8.encode n)=[n.toNat]:=by
 obtain⟨k,rfl⟩:=Int.eq_ofNat_of_zero_le h.1
 have hk:k<128:=by omega
 have:∀ k:Fin 128,bytes (Utf8.encode ((k.val:Nat):Int))=[k.val]:=by decide +kernel
 exact this ⟨k,hk⟩
theorem at5 (w:World)(C:Array Value)(el:TypeId)(b:Nat)(hb:b=w.heap.size) :
  World.freeze { w with heap:=w.heap.push (.cells C el (0,0)) } { block:=b,off:=C.size } 1={ w with heap:=w.heap.push (.cells C el (C.size,C.size+1)) }:=by
 subst hb
 simp only[World.freeze,Nat.one_ne_zero,if_false]
 congr 1
 apply Array.ext_getElem?
 intro k
 rw[Array.getElem?_modify]
 by_cases hk:w.heap.size=k
 ·subst hk;simp
 ·rw[if_neg hk,ajQ,ajQ,if_neg (fun q=>hk q.symm),if_neg (fun q=>hk q.symm)]
def oC (w:World)(el:TypeId)(s:ByteArray):Nat:=(Question.appendCap s.size 0 el).cut (w.tape w.drawn (.appendCap s.size 0 el))
def uS (w:World)(el:TypeId)(s:ByteArray):List Value:=(s.data.toList.map fun b=>Value.int .u8 b.toNat)++List.replicate (oC w el s-s.size) (.int .u8 0)
theorem NX (w:World)(el:TypeId)(s:ByteArray):s.size<=oC w el s:=Nat.le_add_right _ _
theorem Rv (w:World)(el:TypeId)(s:ByteArray):(uS w el s).length=oC w el s:=by
 have:=NX w el s
 have h2:s.data.size=s.size:=rfl
 simp[uS]
 omega
theorem abg (P:Program)(w:World)(el:TypeId)(s:ByteArray) :
  (Conv.stringToBytes el s).run P w = .ok (.slice (some ⟨w.heap.size,0,none⟩) s.size (oC w el s)) { w with drawn:=w.drawn+1,heap:=w.heap.push (.cells (uS w el s).toArray el (oC w el s,oC w el s+1)) }:=by
 let w1:World:={ w with drawn:=w.drawn+1 }
 let cap:=oC w el s
 have iA:s.size<=cap:=NX w el s
 let rest:List Value:=List.replicate (cap-s.size) (.int .u8 0)
 have hlen:((s.data.toList.map fun b=>Value.int .u8 b.toNat)++rest).length=cap:=Rv w el s
 have hC:(s.data.map fun b=>Value.int .u8 b.toNat)++Array.replicate (cap-s.size) (.int .u8 0)=((s.data.toList.map fun b=>Value.int .u8 b.toNat)++rest).toArray:=by
  apply aeU.1
  simp[rest]
 have Ig:(Question.appendCap s.size 0 el).forced=false:=rfl
 simp only[Conv.stringToBytes,Sem.run_bind,run_choose,Ig,abH,if_false,Result.andThen_ok,newRow,run_newObj,Sem.run_pure]
 have hC':(s.data.map fun b=>Value.int .u8 b.toNat)++Array.replicate ((Question.appendCap s.size 0 el).cut (w.tape w.drawn (.appendCap s.size 0 el))-s.size) (.int .u8 0)=((s.data.toList.map fun b=>Value.int .u8 b.toNat)++rest).toArray:=hC
 rw[hC']
 have eG:((s.data.toList.map fun b=>Value.int .u8 b.toNat)++rest).toArray.size=cap:=by simpa using hlen
 have qW:(World.shape? { w1 with heap:=w.heap.push (.cells ((s.data.toList.map fun b=>Value.int .u8 b.toNat)++rest).toArray el (0,0)) } w.heap.size)=some (el,cap):=by
  simp only[World.shape?,Array.getElem?_push_size,eG]
 have Lg:=at5 w1 ((s.data.toList.map fun b=>Value.int .u8 b.toNat)++rest).toArray el w.heap.size rfl
 rw[eG] at Lg
 have alL:(World.shape? { w with heap:=w.heap.push (.cells ((s.data.toList.map fun b=>Value.int .u8 b.toNat)++rest).toArray el (0,0)),drawn:=w.drawn+1 } w.heap.size)=some (el,cap):=qW
 simp only[markStringish,Sem.run_bind,run_shape,Result.andThen_ok,alL,run_freeze]
 have asf:World.freeze { w with heap:=w.heap.push (.cells ((s.data.toList.map fun b=>Value.int .u8 b.toNat)++rest).toArray el (0,0)),drawn:=w.drawn+1 } { block:=w.heap.size,off:=cap } 1=_:=Lg
 rw[asf]
 rfl
theorem Z2 (e:Em)(s:ByteArray):bh e ((bytes s).map fun (b:Nat)=>AV.int .u8 b) (s.data.toList.map fun b=>Value.int .u8 b.toNat):=by
 refine⟨by simp[bytes],fun i v v' hv cw => ?_⟩
 simp only[bytes,List.map_map,aeI,aam] at hv cw
 obtain⟨u,hu,rfl⟩:=hv
 obtain⟨u',jG,rfl⟩:=cw
 rw[hu] at jG
 cases jG
 exact .int _ _
theorem ahZ (h:RH G F W e H w){s:ByteArray}{el i:Nat}{H':Hp}(hn:aC H ((bytes s).map fun (b:Nat)=>AV.int .u8 b) el 1=some (i,H')) :
  ∃ v' w' e',(Conv.stringToBytes el s).run P w = .ok v' w'/\e.le e'/\RH G F W e' H' w'/\VR e' (.slice i 0 (bytes s).length (bytes s).length false 1) v':=by
 have iA:=NX w el s
 have h1:RH G F W e H { w with drawn:=w.drawn+1 }:=h.drawn _
 have hlen:=Rv w el s
 obtain⟨e',he,g1,g2,g3,g4,hr⟩:=h1.newRow (rest:=List.replicate (oC w el s-s.size) (.int .u8 0)) (fz:=(oC w el s,oC w el s+1)) hn (Z2 e s) (by simp) (fun _ k hk=>by
  have qe:k<(uS w el s).length:=hk
  rw[hlen] at qe;simp;omega)
 refine⟨_,_,e',abg P w el s,he,hr,?_⟩
 have hb:w.heap.size=e'.b i:=g2.symm
 rw[hb,xp]
 have g4':e'.n i=(uS w el s).length:=g4
 refine .slice i 0 s.size s.size false 1 0 _ g1 (by rw[g3];simp) iA iA (by simp) ?_
 rw[g4',hlen];omega
theorem ajd {el:TypeId}{count:Nat}(hs:0<P.cellsOf el)(hc:P.cellsOf el<=count):liesAt P P.depth el (count / P.cellsOf el) 0 el 1=true:=by
 have hd:P.depth=(2*(P.types.size+Made.depth)+1)+1:=rfl
 have h1:1<=count / P.cellsOf el:=(Nat.le_div_iff_mul_le hs).2 (by omega)
 have h0:¬ P.cellsOf el=0:=by omega
 rw[hd]
 simp only[liesAt,aiy]
 left
 rw[hd]
 simp only[rowAt,if_neg h0,aiy,aaT]
 left
 simp[h1,sameLayout]
theorem VB (h:RH G F W e H w){i:Nat}{c:Tr AV}{lo hi el fl:Nat}(hg:H.h.get i=some (.cells c lo hi el fl)) :
  i<e.N/\∃ C fz,w.heap[e.b i]? = some (.cells C el fz)/\C.size=e.n i/\(lo=0->e.d i=0)/\(fl=0->fz=(0,0)):=by
 obtain⟨hN,ob,ei,eB,_⟩:=h.obj i _ hg
 cases eB with
 | cells _ _ _ _ _ C fz hn jB h0 h1 hd=>exact⟨hN,C,fz,ei,hn,hd,h0⟩
theorem avr (h:RH G F W e H w){src dst:TypeId}{x v:AV}{x':Value}{H':Hp}(hx:VR e x x')(hc:jU P src dst x H=some (v,H')) :
  ∃ v' w' e',(convert src dst x').run P w = .ok v' w'/\e.le e'/\RH G F W e' H' w'/\VR e' v v':=by
 unfold jU at hc
 split at hc
 ·rename_i s d hs hd
  split at hc
  ·cases hx.fZ;cases hc
   exact⟨_,w,e,by simp[convert,aI hs,aI hd,Conv.intToInt],e.le_refl,h,.int _ _⟩
  ·rename_i n
   cases hx.fZ
   split at hc
   ·rename_i hn
    cases hc
    rw[<-atE n hn]
    exact⟨_,w,e,by simp[convert,aI hs,aI hd,Conv.intToString],e.le_refl,h,.str _⟩
   ·cases hc
  ·obtain⟨b,rfl,rfl⟩:=hx.mO
   cases hc
   exact⟨_,w,e,by simp[convert,aI hs,aI hd],e.le_refl,h,.str _⟩
  ·rename_i el s
   obtain⟨b,rfl,rfl⟩:=hx.mO
   split at hc
   ·rename_i pz
    split at hc
    ·rename_i i H2 hn
     cases hc
     obtain⟨v',w',e',h1,h2,h3,h4⟩:=ahZ (P:=P) h hn
     exact⟨v',w',e',by simp[convert,aI hs,aI hd,aI pz,h1],h2,h3,h4⟩
    ·cases hc
   ·cases hc
  ·rename_i el0 el i off len cap ex es
   cases hb:(Nat.beq src dst&&Nat.blt 0 len) with
   | false=>rw[hb] at hc;cases hc
   | true=>
    rw[hb] at hc
    simp only[cond_true] at hc
    simp only[aaT,ae2] at hb
    have hsd:src=dst:=abI hb.1
    split at hc
    ·rename_i c lo hi fM pz hg
     cases hc
     obtain⟨hN,C,fz,ei,hn,V1,Mc⟩:=VB h hg
     have hf:=Mc rfl
     subst hf
     rcases hx.mC with⟨o,k,nf,ho,hl,Aa,je,gC,rfl⟩ | ⟨rfl,_,_,_⟩
     ·refine⟨.slice (some ⟨e.b i,o,none⟩) len k,w.freeze { block:=e.b i,off:=C.size } 1,e,?_,e.le_refl,?_,hx⟩
      ·have qW:w.shape? (e.b i)=some (fM,C.size):=by simp[World.shape?,ei]
       simp[convert,aI hs,aI hd,aI pz,hsd,markStringish,qW]
      ·refine h.put hg rfl (qJ := .cells C fM (C.size,C.size+1)) ?_ ?_ ?_ ?_ rfl rfl rfl
       ·simp[World.freeze]
       ·simp only[World.freeze,Nat.one_ne_zero,if_false]
        rw[F8 _ _ _ ei];simp
       ·intro k hk
        simp only[World.freeze,Nat.one_ne_zero,if_false]
        rw[Fo _ _ _ _ (fun q=>hk q.symm)]
       ·obtain⟨_,ob,acX,eB,_⟩:=h.obj i _ hg
        rw[ei] at acX
        cases acX
        cases eB with
        | cells _ _ _ _ _ C fz hn jB h0 h1 hd=>exact .cells _ _ _ _ _ _ _ hn jB (by simp) (fun _ k hk=>by simp;omega) hd
     ·omega
    ·cases hc
  ·rename_i el
   cases hx
   split at hc
   ·rename_i pz
    cases hc
    refine⟨.string .empty,w,e,by simp[convert,aI hs,aI hd,aI pz,Conv.bytesToString],e.le_refl,h,?_⟩
    exact .str .empty
   ·cases hc
  ·rename_i el i off len a1 a2 a3
   split at hc
   ·rename_i pz
    cases hz:Nat.beq len 0 with
    | true=>
     rw[hz] at hc
     cases hc
     have:len=0:=abI hz
     subst this
     rcases hx.mC with⟨o,k,nf,ho,hl,Aa,je,gC,rfl⟩ | ⟨_,_,a,rfl⟩
     ·have:=Tw (P:=P) (a:=⟨e.b i,o,none⟩) (us:=[]) (cap:=k) w (by simp)
      exact⟨_,w,e,by simp only[convert,Sem.run_bind,aI hs,aI hd,aI pz,Result.andThen_ok];exact this,e.le_refl,h,.str ⟨#[]⟩⟩
     ·have:=Tw (P:=P) (a:=a) (us:=[]) (cap:=0) w (by simp)
      exact⟨_,w,e,by simp only[convert,Sem.run_bind,aI hs,aI hd,aI pz,Result.andThen_ok];exact this,e.le_refl,h,.str ⟨#[]⟩⟩
    | false=>
     rw[hz] at hc
     simp only[cond_false,abA,aam,acv] at hc
     obtain⟨cs,fK,bs,uh,rfl,rfl⟩:=hc
     rcases hx.mC with⟨o,k,nf,ho,hl,Aa,je,gC,rfl⟩ | ⟨rfl,_,a,rfl⟩
     ·obtain⟨vs,h1,h2,h3⟩:=h.By fK ho
      obtain⟨us,rfl,rfl⟩:=TM uh h1
      rw[adY] at h2
      have:=Tw (P:=P) (a:=⟨e.b i,o,none⟩) (us:=us) (cap:=k) w (fun j v hj=>by rw[add_lit];exact h3 j v hj)
      rw[h2] at this
      refine⟨_,w,e,by simp only[convert,Sem.run_bind,aI hs,aI hd,aI pz,Result.andThen_ok];exact this,e.le_refl,h,?_⟩
      rw[<-age];exact .str _
     ·simp at hz
   ·cases hc
  ·rename_i t i o
   cases hb:((cellAt H i o).isSome&&y9 P t) with
   | false=>rw[hb] at hc;cases hc
   | true=>
    rw[hb] at hc
    cases hc
    rw[aaT] at hb
    obtain⟨u,hu⟩:=ai1.1 hb.1
    obtain⟨n,hn⟩:∃ n,sz P t=some (n+1):=by
     have:=hb.2
     unfold y9 at this
     split at this
     ·rename_i n hn;exact⟨n,hn⟩
     ·cases this
    obtain⟨o',hi,ho,rfl⟩:=hx.um
    have ba:=h.Uy hu ho
    obtain⟨c,lo,jc,el,fl,hg,_,_,_⟩:=PA hu
    obtain⟨hN,C,fz,ei,gC,_,_⟩:=VB h hg
    have qW:w.shape? (e.b i)=some (el,C.size):=by simp[World.shape?,ei]
    have sI:¬ C.size<=o':=by omega
    refine⟨_,w,e,?_,e.le_refl,h,hx⟩
    simp[convert,aI hs,aI hd,Conv.unsafePointer,Conv.seenAt,viewAt,cellsIn,qW,hZ hn,sI]
  ·rename_i u i o
   split at hc
   ·rename_i c lo hi el fl hg
    cases hb:(Nat.beq el u&&Nat.beq lo 0&&Nat.beq o 0&&Nat.blt 0 (P.cellsOf u)&&(cellAt H i (P.cellsOf u-1)).isSome) with
    | false=>rw[hb] at hc;cases hc
    | true=>
     rw[hb] at hc
     cases hc
     simp only[aaT,ae2] at hb
     obtain⟨⟨⟨⟨b1,b2⟩,b3⟩,b4⟩,b5⟩:=hb
     have e1:el=u:=abI b1
     have e2:lo=0:=abI b2
     have e3:o=0:=abI b3
     subst e1;subst e2;subst e3
     obtain⟨q,hq⟩:=ai1.1 b5
     obtain⟨hN,C,fz,ei,gC,V1,_⟩:=VB h hg
     obtain⟨o',hi,ho,rfl⟩:=hx.um
     have Yo:=V1 rfl
     have Us:o'=0:=by omega
     subst Us
     have ba:=h.Uy (o:=P.cellsOf el-1) hq (by omega)
     have qW:w.shape? (e.b i)=some (el,C.size):=by simp[World.shape?,ei]
     have hl:=ajd (P:=P) (el:=el) (count:=C.size) b4 (by omega)
     have asq:sz P el=some (P.cellsOf el):=by
      unfold sz
      unfold Program.cellsOf at b4 ⊢
      cases hi:P.info? el with
      | none=>simp[hi] at b4
      | some inf=>simp
     refine⟨_,w,e,?_,e.le_refl,h,hx⟩
     simp[convert,aI hs,aI hd,Conv.unsafePointer,Conv.seenAt,viewAt,qW,hZ asq,variablesAt,hl]
   ·cases hc
  ·cases hc
 ·cases hc
end
end Go.Proofs.YtodfajmihkagnaaGreatDoor.Am
