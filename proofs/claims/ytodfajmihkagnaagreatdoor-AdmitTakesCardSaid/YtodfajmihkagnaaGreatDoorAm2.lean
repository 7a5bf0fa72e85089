/- Laws that the proof uses. -/
import Derived.Test.YtodfajmihkagnaaGreatDoorAm1
set_option maxHeartbeats 2000000
set_option linter.unusedVariables false
set_option linter.unusedSimpArgs false
namespace Go.Proofs.YtodfajmihkagnaaGreatDoor.Am
section
section
section
section
def ef (P:Program)(G:Nat)(F:Nat->Prop)(W:World)(e:Em)(v:AV)(H':Hp)(r:Result Next):Prop:=
 ∃ n w' e' v',r = .ok n w'/\(n = .value v'\/(n = .skip/\v'=undef))/\e.le e'/\RH G F W e' H' w'/\VR e' v v'
section
variable {P:Program}{G:Nat}{F:Nat->Prop}{W:World}{e:Em}{H:Hp}{w:World}
theorem ef.pure {s:Sem Value}{v:AV}{v':Value}(h:RH G F W e H w)(hs:s.run P w = .ok v' w)(hv:VR e v v') :
  ef P G F W e v H ((do Pure.pure (Next.value (<-s)):Sem Next).run P w):=
 ⟨.value v',w,e,v',by simp[hs],.inl rfl,e.le_refl,h,hv⟩
theorem ef.val {s:Sem Value}{v:AV}{v':Value}{e':Em}{H':Hp}{w':World}(hs:s.run P w = .ok v' w')(he:e.le e')(h:RH G F W e' H' w')(hv:VR e' v v') :
  ef P G F W e v H' ((do Pure.pure (Next.value (<-s)):Sem Next).run P w):=
 ⟨.value v',w',e',v',by simp[hs],.inl rfl,he,h,hv⟩
theorem VR.undef:VR e bK undef := .tuple [] #[] rfl (by simp)
theorem ef.unit {s:Sem Unit}{e':Em}{H':Hp}{w':World}(hs:s.run P w = .ok () w')(he:e.le e')(h:RH G F W e' H' w') :
  ef P G F W e bK H' ((do s;Pure.pure Next.skip:Sem Next).run P w):=
 ⟨.skip,w',e',_,by simp[hs],.inr ⟨rfl,rfl⟩,he,h,.undef⟩
theorem VR.oc {v:Value}{a:AV}(h:oc v=some a):VR e a v:=by
 unfold Am.oc at h
 split at h<;>simp only[adG,reduceCtorEq] at h<;>subst h<;>constructor
theorem aQ.oc:∀ {vs:List Value} {l:List AV},vs.mapM Am.oc=some l->aQ e l vs
 | [],l,h=>by simp at h;subst h;exact .nil e
 | v::vs,l,h=>by
  simp only[List.mapM_cons,acX,Option.pure_def,aa3,adG] at h
  obtain⟨a,ha,r,hr,rfl⟩:=h
  exact .cons (.oc ha) (aQ.oc hr)
theorem VR.jr {v:Value}{a:AV}(h:jr v=some a):VR e a v:=by
 unfold Am.jr at h
 split at h
 ·simp only[aaa] at h
  obtain⟨l,hl,rfl⟩:=h
  have:=aQ.oc (e:=e) hl
  exact .agg _ _ this.1 this.2
 ·simp only[aaa] at h
  obtain⟨l,hl,rfl⟩:=h
  have:=aQ.oc (e:=e) hl
  exact .tuple _ _ this.1 this.2
 ·simp only[aaa] at h
  obtain⟨l,hl,rfl⟩:=h
  exact .iface _ _ _ (.oc hl)
 ·exact .oc h
theorem wS {t:TypeId}{l:List AV}(h:zc P t=some l):∃ i z,P.info? t=some i/\i.zero=some z/\aQ e l z.cells.toList:=by
 simp only[zc,acX,aa3] at h
 obtain⟨i,hi,z,hz,hl⟩:=h
 exact⟨i,z,hi,hz,.oc hl⟩
theorem rr {t:TypeId}{i:TypeInfo}{z:Value}(hi:P.info? t=some i)(hz:i.zero=some z)(w:World):(zeroValue t).run P w = .ok z w:=by
 simp[zeroValue,pt hi,hz]
theorem ajv (h:RH G F W e H w){t:TypeId}{l:List AV}{i:Nat}{H':Hp}(hz:zc P t=some l)(hn:aE H l t 0=some (i,H')) :
  ∃ v' w' e',(Instr.alloc t true (.tuple #[])).run P w = .ok v' w'/\e.le e'/\RH G F W e' H' w'/\VR e' (.ptr i 0) v':=by
 obtain⟨inf,z,hi,fw,hl⟩:=wS (e:=e) hz
 obtain⟨e',he,h1,h2,h3,h4,hr⟩:=h.newRow (rest:=[]) (fz:=(0,0)) hn hl (fun _=>rfl) (by simp)
 refine⟨.pointer (some ⟨w.heap.size,0,none⟩),_,e',?_,he,hr,?_⟩
 ·simp[Instr.alloc,rr hi fw,newVar,Go.newRow]
 ·rw[<-h2];exact .ptr i 0 0 h1 (by rw[h3];simp)
theorem aqb (h:RH G F W e H w){t:TypeId}{v:AV}{v':Value}{l:List AV}{i:Nat}{H':Hp}(hv:VR e v v')(hz:pJ v=some l)(hn:aE H l t 0=some (i,H')) :
  ∃ u w' e',(Instr.box t v').run P w = .ok u w'/\e.le e'/\RH G F W e' H' w'/\VR e' (.ptr i 0) u:=by
 have hl:=hv.cells hz
 obtain⟨e',he,h1,h2,h3,h4,hr⟩:=h.newRow (rest:=[]) (fz:=(0,0)) hn hl (fun _=>rfl) (by simp)
 refine⟨.pointer (some ⟨w.heap.size,0,none⟩),_,e',?_,he,hr,?_⟩
 ·simp[Instr.box,newVar,Go.newRow]
 ·rw[<-h2];exact .ptr i 0 0 h1 (by rw[h3];simp)
theorem y0 {t:TypeId}{cs:List AV}{vs:Array Value}{off:Nat}{v:AV}(hl:aQ e cs vs.toList)(hp:mi P t cs off=some v)(w:World) :
  ∃ v',(part t vs off).run P w = .ok v' w/\VR e v v':=by
 simp only[mi,acX,aa3] at hp
 obtain⟨b,hb,hp⟩:=hp
 cases b with
 | true=>
  simp only[if_true,aa3] at hp
  obtain⟨n,hn,hp⟩:=hp
  cases hc:Nat.ble (off+n) cs.length with
  | false=>rw[hc] at hp;cases hp
  | true=>
   rw[hc] at hp
   simp only[cond_true,adG] at hp
   subst hp
   refine⟨.agg (vs.extract off (off+n)),by simp[part,Lf hb,gP hn],?_⟩
   have:=(hl.drop off).take n
   have e2:(vs.extract off (off+n)).toList=(vs.toList.drop off).take n:=by simp[Array.toList_extract,List.extract]
   exact .agg _ _ (by rw[e2];exact this.1) (by rw[e2];exact this.2)
 | false=>
  simp only[abz,if_false] at hp
  obtain⟨v',bQ,hr⟩:=hl.get hp
  rw[aeg] at bQ
  exact⟨v',by simp[part,Lf hb,bQ],hr⟩
theorem ahf {t:TypeId}{x v:AV}{x':Value}{f:Nat}{fs:Array Field}{fd:Field}(hx:VR e x x')(hu:P.underlying t=some (.struct fs))(hf:fs[f]? = some fd)
  {cs:List AV} (hxs:x = .agg cs) (hp:mi P fd.type cs fd.offset=some v) (w:World):∃ v',(Instr.field t x' f).run P w = .ok v' w/\VR e v v':=by
 subst hxs
 obtain⟨vs,rfl,hl⟩:=hx.vL
 obtain⟨v',bQ,hr⟩:=y0 hl hp w
 exact⟨v',by simp[Instr.field,aH hu,hf,asAgg,bQ],hr⟩
theorem ang {t:TypeId}{i o n:Nat}{x':Value}{f:Nat}{fs:Array Field}{fd:Field}(hx:VR e (.ptr i o) x')(hu:P.underlying t=some (.struct fs))(hf:fs[f]? = some fd)
  (hs:sz P fd.type=some n) (hn:n≠0) (w:World):∃ v',(Instr.fieldAt t x' f).run P w = .ok v' w/\VR e (.ptr i (o+fd.offset)) v':=by
 obtain⟨o',hi,ho,rfl⟩:=hx.qd
 refine⟨.pointer (some ⟨e.b i,o'+fd.offset,none⟩),?_,.ptr _ _ _ hi (by omega)⟩
 simp[Instr.fieldAt,aH hu,hf,Instr.sureAddr,fieldPlace,gP hs,hn,add_lit]
theorem agE {t:TypeId}{x ix v:AV}{x' GV:Value}(hx:VR e x x')(qc:VR e ix GV)(ha:BA P t x ix=some v)(w:World) :
  ∃ v',(Instr.indexAt t x' GV).run P w = .ok v' w/\VR e v v':=by
 simp only[BA,acX,aa3] at ha
 obtain⟨d,hd,ha⟩:=ha
 split at ha
 ·rename_i n el i off kk k
  simp only[aa3] at ha
  obtain⟨es,dy,ha⟩:=ha
  split at ha
  ·rename_i hk
   simp only[aaG,decide_eq_true_eq] at hk
   cases ha
   obtain⟨o,hi,ho,rfl⟩:=hx.qd
   obtain rfl:=qc.fF
   refine⟨.pointer (some ⟨e.b i,o+k.toNat*es,none⟩),?_,.ptr _ _ _ hi (by omega)⟩
   simp[Instr.indexAt,asIntOf,aH hd,Instr.sureAddr,hk.1,hk.2,gP dy,add_lit]
  ·cases ha
 ·rename_i el i off len cap ex es kk k
  simp only[aa3] at ha
  obtain⟨aL,dy,ha⟩:=ha
  split at ha
  ·rename_i hk
   simp only[aaG,decide_eq_true_eq,beq_iff_eq] at hk
   obtain⟨⟨rfl,tu⟩,fR⟩:=hk
   cases ha
   obtain rfl:=qc.fF
   rcases hx.lz with⟨o,c,hi,ho,hl,hc,iE,hn,rfl⟩ | ⟨rfl,_,_,_⟩
   ·refine⟨.pointer (some ⟨e.b i,o+k.toNat*aL,none⟩),?_,.ptr _ _ _ hi (by omega)⟩
    simp[Instr.indexAt,asIntOf,aH hd,tu,fR,gP dy,add_lit]
   ·omega
  ·cases ha
 ·cases ha
theorem afx {t:TypeId}{x ix v:AV}{x' GV:Value}(hx:VR e x x')(qc:VR e ix GV)(ha:DA P t x ix=some v)(w:World) :
  ∃ v',(Instr.index t x' GV).run P w = .ok v' w/\VR e v v':=by
 simp only[DA,acX,aa3] at ha
 obtain⟨d,hd,ha⟩:=ha
 split at ha
 ·rename_i n el cs kk k
  simp only[aa3] at ha
  obtain⟨es,dy,ha⟩:=ha
  split at ha
  ·rename_i hk
   simp only[aaG,decide_eq_true_eq] at hk
   obtain⟨vs,rfl,hl⟩:=hx.vL
   obtain rfl:=qc.fF
   obtain⟨v',bQ,hr⟩:=y0 hl ha w
   exact⟨v',by simp[Instr.index,asIntOf,aH hd,hk.1,hk.2,gP dy,bQ],hr⟩
  ·cases ha
 ·rename_i s kk k
  split at ha
  ·rename_i hk
   obtain⟨b,rfl,rfl⟩:=hx.lP
   obtain rfl:=qc.fF
   simp only[aaa] at ha
   obtain⟨c,hc,rfl⟩:=ha
   simp only[bytes,adX,aaa] at hc
   obtain⟨u,hu,rfl⟩:=hc
   refine⟨.int .u8 u.toNat,?_,.int _ _⟩
   have hb:b[k.toNat]? = some u:=by
    have h1:k.toNat<b.data.toList.length:=(aas.1 hu).1
    have h2:k.toNat<b.size:=by rw[ai5] at h1;exact h1
    rw[getElem?_pos b k.toNat h2]
    congr 1
    have h3:=(aas.1 hu).2
    rw[<-h3]
    rfl
   simp[Instr.index,asIntOf,aH hd,hk,hb]
  ·cases ha
 ·cases ha
theorem Dr {lo hi:Nat}{v:AV}{v':Value}{n:Nat}(hv:VR e v v')(h:bound lo hi v=some n):∃ k:IntKind,∃ z:Int,v' = .int k z/\lo<=n/\n<=hi/\z=n:=by
 unfold bound at h
 split at h
 ·rename_i k z
  split at h
  ·rename_i hk
   simp only[aaG,decide_eq_true_eq] at hk
   cases h
   exact⟨k,z,hv.fF,by omega,by omega,by omega⟩
  ·cases h
 ·cases h
def ud (e:Em):Option AV->Option Value->Prop
 | none,none=>True
 | some a,some b=>VR e a b
 | _,_=>False
theorem xv {z:Int}{k:IntKind}{n y:Nat}{code:BoundsCode}(h:z=n)(hy:n<=y)(w:World):(Instr.sliceBound (.int k z) y code).run P w = .ok n w:=by
 subst h
 simp[Instr.sliceBound,asIntOf,hy]
theorem Gz {qM:Bool}{len cap se:Nat}{low high mx:Option AV}{uK ya zk:Option Value}(h1:ud e low uK)(h2:ud e high ya)(h3:ud e mx zk)
  {l h m:Nat} (hb:qV len cap low high mx=some (l,h,m)) (hl:len<=se) (hc:cap<=se) (w:World) :
  (Instr.sliceBounds qM len se uK ya zk).run P w = .ok (l,h,if mx.isSome then m else se) w/\l<=h/\(mx=none->m=cap)/\(mx.isSome=true->h<=m/\m<=cap)/\(high=none->h=len)/\(mx=none->high.isSome=true->h<=cap):=by
 simp only[qV,acX,aa3,Option.pure_def,adG,acI] at hb
 obtain⟨m0,hm,h0,hh,l0,pM,rfl,rfl,rfl⟩:=hb
 cases mx with
 | some mv=>
  cases zk with
  | none=>exact h3.elim
  | some mv'=>
   obtain⟨km,zm,rfl,_,oM,Tb⟩:=Dr h3 hm
   cases high with
   | none=>cases hh
   | some hv=>
    cases ya with
    | none=>exact h2.elim
    | some bQ=>
     obtain⟨kh,zh,rfl,_,pq,GP⟩:=Dr h2 hh
     cases low with
     | none=>
      cases uK with
      | some _=>exact h1.elim
      | none=>
       cases pM
       refine⟨?_,by omega,by simp,fun _=>⟨pq,oM⟩,by simp,by simp⟩
       simp[Instr.sliceBounds,xv Tb (show m0<=se by omega),xv GP pq]
     | some lv=>
      cases uK with
      | none=>exact h1.elim
      | some X2=>
       obtain⟨kl,zl,rfl,_,nF,Bi⟩:=Dr h1 pM
       refine⟨?_,nF,by simp,fun _=>⟨pq,oM⟩,by simp,by simp⟩
       simp[Instr.sliceBounds,xv Tb (show m0<=se by omega),xv GP pq,xv Bi nF]
 | none=>
  cases zk with
  | some _=>exact h3.elim
  | none=>
   cases hm
   cases high with
   | none=>
    cases ya with
    | some _=>exact h2.elim
    | none=>
     cases hh
     cases low with
     | none=>
      cases uK with
      | some _=>exact h1.elim
      | none=>cases pM;exact⟨by simp[Instr.sliceBounds],by omega,by simp,by simp,by simp,by simp⟩
     | some lv=>
      cases uK with
      | none=>exact h1.elim
      | some X2=>
       obtain⟨kl,zl,rfl,_,nF,Bi⟩:=Dr h1 pM
       exact⟨by simp[Instr.sliceBounds,xv Bi nF],nF,by simp,by simp,by simp,by simp⟩
   | some hv=>
    cases ya with
    | none=>exact h2.elim
    | some bQ=>
     obtain⟨kh,zh,rfl,_,pq,GP⟩:=Dr h2 hh
     cases low with
     | none=>
      cases uK with
      | some _=>exact h1.elim
      | none=>cases pM;exact⟨by simp[Instr.sliceBounds,xv GP (show h0<=se by omega)],by omega,by simp,by simp,by simp,fun _ _=>pq⟩
     | some lv=>
      cases uK with
      | none=>exact h1.elim
      | some X2=>
       obtain⟨kl,zl,rfl,_,nF,Bi⟩:=Dr h1 pM
       exact⟨by simp[Instr.sliceBounds,xv GP (show h0<=se by omega),xv Bi nF],nF,by simp,by simp,by simp,fun _ _=>pq⟩
theorem aQ.WR (b:ByteArray)(l h:Nat):((bytes b).drop l).take (h-l)=bytes (b.extract l h):=by
 unfold bytes
 rw[ByteArray.data_extract,Array.toList_extract,List.extract,List.map_take,List.map_drop]
theorem aic (hRH:RH G F W e H w){t:TypeId}{x v:AV}{x':Value}{low high mx:Option AV}{uK ya zk:Option Value}(hx:VR e x x')(h1:ud e low uK)(h2:ud e high ya)(h3:ud e mx zk)
  (ha:rq P t x low high mx H=some v):∃ v',(Instr.sliceAt t x' uK ya zk).run P w = .ok v' w/\VR e v v':=by
 simp only[rq,acX,aa3] at ha
 obtain⟨d,hd,ha⟩:=ha
 split at ha
 ·rename_i s
  obtain⟨b,rfl,rfl⟩:=hx.lP
  cases mx with
  | some _=>simp at ha
  | none=>
   cases zk with
   | some _=>exact h3.elim
   | none=>
    simp only[afk,abz,if_false,aa3,Prod.exists] at ha
    obtain⟨l,h,m,hb,hv⟩:=ha
    simp only[adG] at hv
    subst hv
    have eF:(bytes b).length=b.size:=by unfold bytes;rw[adV,ai5];rfl
    rw[eF] at hb
    obtain⟨hr,JQ,hm,_,zn,pq⟩:=Gz (P:=P) (qM:=false) h1 h2 h3 hb (aaH _) (aaH _) w
    simp only[afk,abz,if_false] at hr
    refine⟨.string (b.extract l h),by simp[Instr.sliceAt,Instr.slice,aH hd,hr],?_⟩
    rw[aQ.WR];exact .str _
 ·rename_i el
  simp only[aa3,Prod.exists] at ha
  obtain⟨l,h,m,hb,hv⟩:=ha
  split at hv
  ·rename_i hs
   simp only[adG] at hv
   subst hv
   obtain⟨es,dy⟩:=ahU.1 hs
   cases hx
   obtain⟨hr,JQ,hm,oM,zn,pq⟩:=Gz (P:=P) (qM:=true) h1 h2 h3 hb (aaH _) (aaH _) w
   refine⟨.slice none 0 0,?_,.ah⟩
   have hh:h=0:=by
    cases mx with
    | some _=>have:=oM rfl;omega
    | none=>
     cases high with
     | none=>exact zn rfl
     | some _=>have:=pq rfl rfl;omega
   have pM:l=0:=by omega
   subst hh;subst pM
   have ON:(if mx.isSome=true then m else 0)=0:=by
    split
    ·rename_i Sb;have:=oM Sb;omega
    ·rfl
   rw[ON] at hr
   simp[Instr.sliceAt,Instr.slice,aH hd,hr,gP dy]
  ·cases hv
 ·rename_i el i off len cap ex es
  simp only[aa3,Prod.exists] at ha
  obtain⟨l,h,m,hb,aL,dy,hv⟩:=ha
  split at hv
  ·rename_i hs
   simp only[beq_iff_eq] at hs
   subst hs
   simp only[adG] at hv
   subst hv
   rcases hx.lz with⟨o,c,hi,ho,hl,hc,iE,hn,rfl⟩ | ⟨rfl,rfl,a,rfl⟩
   ·obtain⟨hr,JQ,hm,oM,zn,pq⟩:=Gz (P:=P) (qM:=true) h1 h2 h3 hb hl hc w
    have BY:h<=(if mx.isSome=true then m else c)/\m<=(if mx.isSome=true then m else c)/\(if mx.isSome=true then m else c)<=c/\((ex||mx.isSome)=true->(if mx.isSome=true then m else c)=m):=by
     cases mx with
     | some _=>have:=oM rfl;simp;omega
     | none=>
      have hmc:=hm rfl
      simp only[afk,abz,if_false,Bool.or_false]
      refine⟨?_,by omega,by omega,fun oC=>by rw[iE oC,hmc]⟩
      cases high with
      | none=>have:=zn rfl;omega
      | some _=>have:=pq rfl rfl;omega
    generalize (if mx.isSome=true then m else c)=m' at hr BY
    obtain⟨vm,pR,hq3,L6⟩:=BY
    by_cases wX:m'=l
    ·have e1:h-l=0:=by omega
     have e2:m-l=0:=by omega
     refine⟨.slice (some ⟨e.b i,o,none⟩) 0 0,?_,by rw[e1,e2];exact .yy ..⟩
     have e3:h=l:=by omega
     simp[Instr.sliceAt,Instr.slice,aH hd,hr,gP dy,wX,e3]
    ·refine⟨.slice (some ⟨e.b i,o+l*aL,none⟩) (h-l) (m'-l),?_,.slice _ _ _ _ _ _ _ _ hi (by omega) (by omega) (by omega) (fun oC=>by rw[L6 oC]) ?_⟩
     ·simp[Instr.sliceAt,Instr.slice,aH hd,hr,gP dy,wX,add_lit]
     ·have:o+l*aL+(m'-l)*aL=o+m'*aL:=by
       rw[aiB,<-afA];congr 2;omega
      rw[this]
      have:m'*aL<=c*aL:=aeF _ hq3
      omega
   ·obtain⟨hr,JQ,hm,oM,zn,pq⟩:=Gz (P:=P) (qM:=true) (se:=0) h1 h2 h3 hb (aaH _) (aaH _) w
    have hh:h=0:=by
     cases mx with
     | some _=>have:=oM rfl;omega
     | none=>
      cases high with
      | none=>exact zn rfl
      | some _=>have:=pq rfl rfl;omega
    have pM:l=0:=by omega
    have ON:(if mx.isSome=true then m else 0)=0:=by
     split
     ·rename_i Sb;have:=oM Sb;omega
     ·rfl
    have y7:m=0:=by
     cases mx with
     | some _=>have:=oM rfl;omega
     | none=>exact hm rfl
    subst hh;subst pM;subst y7
    rw[ON] at hr
    exact⟨.slice (some a) 0 0,by simp[Instr.sliceAt,Instr.slice,aH hd,hr,gP dy],.yy ..⟩
  ·cases hv
 ·rename_i n el i off
  simp only[aa3,Prod.exists] at ha
  obtain⟨l,h,m,hb,es,dy,hv⟩:=ha
  split at hv
  ·rename_i hs
   simp only[aaG,ad5] at hs
   obtain⟨Ck,pT⟩:=hs
   obtain⟨u,hu⟩:=ahU.1 pT
   simp only[adG] at hv
   subst hv
   obtain⟨o,hi,ho,rfl⟩:=hx.qd
   obtain⟨hr,JQ,hm,oM,zn,pq⟩:=Gz (P:=P) (qM:=false) h1 h2 h3 hb (aaH _) (aaH _) w
   have aI:=hRH.Ou (o:=o+n*es-1) hu (by omega)
   have Uj:(if mx.isSome=true then m else n)=m/\m<=n/\h<=m:=by
    cases mx with
    | some _=>have:=oM rfl;simp;omega
    | none=>
     have:=hm rfl
     subst this
     refine⟨by simp,aaH _,?_⟩
     cases high with
     | none=>have:=zn rfl;omega
     | some _=>exact pq rfl rfl
   rw[Uj.1] at hr
   obtain⟨_,vm,pR⟩:=Uj
   by_cases wX:m=l
   ·have e1:h-l=0:=by omega
    have e2:m-l=0:=by omega
    refine⟨.slice (some ⟨e.b i,o,none⟩) 0 0,?_,by rw[e1,e2];exact .yy ..⟩
    have e3:h=l:=by omega
    simp[Instr.sliceAt,aH hd,Instr.sureAddr,hr,gP dy,wX,e3]
   ·refine⟨.slice (some ⟨e.b i,o+l*es,none⟩) (h-l) (m-l),?_,.slice _ _ _ _ _ _ _ _ hi (by omega) (by omega) (by omega) (fun _=>rfl) ?_⟩
    ·simp[Instr.sliceAt,aH hd,Instr.sureAddr,hr,gP dy,wX,add_lit]
    ·have:o+l*es+(m-l)*es=o+m*es:=by
      rw[aiB,<-afA];congr 2;omega
     rw[this]
     have:m*es<=n*es:=aeF _ vm
     omega
  ·cases hv
 ·cases ha
end
end
section
variable {P:Program}{G:Nat}{F:Nat->Prop}{W:World}{e:Em}{H:Hp}{w:World}
theorem vO (b:ByteArray):(bytes b).length=b.size:=by unfold bytes;rw[adV,ai5];rfl
theorem Y7:∀ {x y:List UInt8},x.map (·.toNat)=y.map (·.toNat)->x=y
 | [],[],_=>rfl
 | [],_::_,h=>by simp at h
 | _::_,[],h=>by simp at h
 | a::x,b::y,h=>by
  simp only[adK,List.cons.injEq] at h
  rw[UInt8.toNat_inj.1 h.1,Y7 h.2]
theorem bytes_beq (a b:ByteArray):(bytes a==bytes b)=(a.data.toList==b.data.toList):=by
 unfold bytes
 by_cases h:a.data.toList=b.data.toList
 ·rw[h];simp
 ·have:¬ (a.data.toList.map (·.toNat)=b.data.toList.map (·.toNat)):=fun h2=>h (Y7 h2)
  rw[beq_eq_false_iff_ne.2 h,beq_eq_false_iff_ne.2 this]
theorem XY:∀ (x y:List UInt8),qm (x.map (·.toNat)) (y.map (·.toNat))=Op.bytesLess x y
 | x,[]=>by cases x<;>simp[qm,Op.bytesLess]
 | [],b::y=>by simp[qm,Op.bytesLess]
 | a::x,b::y=>by
  simp only[adK,qm,Op.bytesLess,XY x y]
  congr 1
  ·by_cases h:a.toNat<b.toNat
   ·have:a<b:=by rw[UInt8.lt_iff_toNat_lt];exact h
    simp[this,h]
   ·have:¬ a<b:=by rw[UInt8.lt_iff_toNat_lt];exact h
    have h2:Nat.blt a.toNat b.toNat=false:=by
     cases hb:Nat.blt a.toNat b.toNat
     ·rfl
     ·rw[ad5] at hb;exact absurd hb h
    simp[this,h2]
  ·congr 1
   by_cases h:a=b
   ·subst h;simp
   ·have h2:¬ a.toNat=b.toNat:=fun q=>h (UInt8.toNat_inj.1 q)
    rw[nW h2,beq_eq_false_iff_ne.2 h]
theorem aiu (a b:ByteArray):bytes (a++b)=bytes a++bytes b:=by
 unfold bytes;rw[ByteArray.data_append,Array.toList_append,ad8]
theorem TD (k:IntKind)(a:Int)(h:0<=a):(BitVec.ofInt k.bits a).toNat=a.toNat % 2 ^ k.bits:=by
 rw[ai9]
 obtain⟨n,rfl⟩:=Int.eq_ofNat_of_zero_le h
 rw[acT]
 have:((n:Int) % ((2 ^ k.bits:Nat):Int))=((n % 2 ^ k.bits:Nat):Int):=by norm_cast
 rw[this,acT]
theorem aar {α:Type}(g:α->Option Bool)(body:α->Option Bool × Unit->Sem (ForInStep (Option Bool × Unit)))(w:World)
  (hb:∀ a b,g a=some b->(body a (none,())).run P w = .ok (if b then .yield (none,()) else .done (some false,())) w) :
  ∀ (l:List α) (b:Bool),rR g l=some b->(forIn l (none,()) body).run P w = .ok (if b then (none,()) else (some false,())) w:=by
 intro l
 induction l with
 | nil=>intro b h;simp only[rR,adG] at h;subst h;simp
 | cons a r ih=>
  intro b h
  unfold rR at h
  split at h
  ·rename_i hg
   rw[List.forIn_cons,Sem.run_bind,hb a true hg]
   exact ih b h
  ·rename_i hg
   cases h
   rw[List.forIn_cons,Sem.run_bind,hb a false hg]
   simp
  ·cases h
theorem VM (p q:ByteArray):(p==q)=(bytes p==bytes q):=by
 rw[bytes_beq]
 have h0:(p==q)=(p.data==q.data):=by cases p;cases q;rfl
 rw[h0]
 by_cases e:p.data=q.data
 ·rw[e];simp
 ·have:¬ p.data.toList=q.data.toList:=fun h2=>e (adZ.1 h2)
  rw[beq_eq_false_iff_ne.2 e,beq_eq_false_iff_ne.2 this]
theorem Y4 (h:RH G F W e H w){i:Nat}(hc:clean H i=true):∃ C el,i<e.N/\w.heap[e.b i]? = some (.cells C el (0,0))/\(∃ o,H.h.get i=some o/\wr o=true):=by
 unfold clean at hc
 split at hc
 ·rename_i c lo hi el hg
  obtain⟨hN,ob,dP,dK,_⟩:=h.obj i _ hg
  cases dK with
  | cells _ _ _ _ _ C fz hn gZ h0 h1 hd=>
   have:=h0 rfl
   subst this
   exact⟨C,el,hN,dP,_,hg,rfl⟩
 ·cases hc
theorem Hw (h:RH G F W e H w):∀ (d D:Nat),d<=D->∀ (t:TypeId) (x y:AV) (x' y':Value) (b:Bool),VR e x x'->VR e y y'->dC P d t x y H=some b->
  (Op.equalIn D t x' y').run P w = .ok b w:=by
 intro d
 induction d with
 | zero=>intro D _ t x y x' y' b _ _ hb;cases hb
 | succ d ih=>
  intro D hD t x y x' y' b hx hy hb
  obtain⟨D,rfl⟩:∃ k,D=k+1:=⟨D-1,by omega⟩
  unfold dC at hb
  split at hb
  ·cases hb
  rename_i u hu
  split at hb
  ·cases hx.rQ;cases hy.rQ;cases hb;simp[Op.equalIn,aH hu]
  ·cases hx.fF;cases hy.fF
   split at hb
   ·rename_i hk;cases hb;simp[Op.equalIn,aH hu,hk]
   ·cases hb
  ·obtain⟨p,rfl,rfl⟩:=hx.lP
   obtain⟨q,rfl,rfl⟩:=hy.lP
   cases hb
   have:=VM p q
   simp[Op.equalIn,aH hu,this]
  ·cases hx;cases hy;cases hb;simp[Op.equalIn,aH hu]
  ·cases hx;cases hy;cases hb;simp[Op.equalIn,aH hu]
  ·cases hx;cases hy;cases hb;simp[Op.equalIn,aH hu]
  ·rename_i el i a j c
   split at hb
   ·rename_i n hn
    obtain⟨o,hi,ho,rfl⟩:=hx.qd
    obtain⟨o2,hj,nz,rfl⟩:=hy.qd
    cases ng:Nat.beq i j with
    | true=>
     have:i=j:=aa9 ng
     subst this
     rw[ng] at hb
     cases hb
     have:(Nat.beq a c)=(o==o2):=by
      by_cases q:a=c
      ·subst q
       have:o=o2:=by omega
       subst this;simp
      ·rw[nW q,beq_eq_false_iff_ne.2 (by omega)]
     simp[Op.equalIn,aH hu,gP hn,sameAddr,this]
     by_cases q:o=o2
     ·subst q;simp
     ·rw[beq_eq_false_iff_ne.2 q,beq_eq_false_iff_ne.2 (by simp;exact q)]
    | false=>
     rw[ng] at hb
     cases kW:(clean H i&&clean H j) with
     | false=>rw[kW] at hb;cases hb
     | true=>
      rw[kW] at hb
      cases hb
      rw[aaG] at kW
      obtain⟨C1,l1,_,g1,o1,q1,u1⟩:=Y4 h kW.1
      obtain⟨C2,l2,_,g2,o3,q2,u2⟩:=Y4 h kW.2
      have aO:¬ e.b i=e.b j:=fun q=>by
       have:=h.inj i j _ _ q1 q2 (.inl u1) q
       subst this
       simp at ng
      have f1:∀ k,w.frozen? ⟨e.b i,k,none⟩=false:=fun k=>by simp[World.frozen?,g1]
      have f2:∀ k,w.frozen? ⟨e.b j,k,none⟩=false:=fun k=>by simp[World.frozen?,g2]
      have s1:w.shape? (e.b i)=some (l1,C1.size):=by simp[World.shape?,g1]
      have s2:w.shape? (e.b j)=some (l2,C2.size):=by simp[World.shape?,g2]
      simp[Op.equalIn,aH hu,gP hn,sameAddr,aO,f1,f2,noView,viewAt,s1,s2,mayBeOne,stringish]
   ·cases hb
  ·cases hx;cases hy;cases hb;simp[Op.equalIn,aH hu]
  ·cases hx;cases hy;cases hb;simp[Op.equalIn,aH hu]
  ·cases hx;cases hy;cases hb;simp[Op.equalIn,aH hu]
  ·rename_i t1 v1 t2 v2
   cases hx with
   | iface _ _ v1' lF=>
   cases hy with
   | iface _ _ DC vb=>
   split at hb
   ·rename_i ht
    subst ht
    split at hb
    ·rename_i inf iG
     cases LY:inf.comparable with
     | false=>rw[LY] at hb;cases hb
     | true=>
      rw[LY] at hb
      have:=ih D (by omega) t1 v1 v2 v1' DC b lF vb hb
      simp[Op.equalIn,aH hu,pt iG,LY,this]
    ·cases hb
   ·rename_i ht
    cases hb
    simp[Op.equalIn,aH hu,ht]
  ·rename_i fs xs ys
   cases aC:P.stoodInHeld t with
   | true=>rw[aC] at hb;cases hb
   | false=>
    rw[aC] at hb
    simp only[cond_false] at hb
    obtain⟨vx,rfl,eY⟩:=hx.vL
    obtain⟨vy,rfl,OK⟩:=hy.vL
    have key := aar (P := P) (g := fun f : Field => if f.name = "_" then some true else
     match mi P f.type xs f.offset,mi P f.type ys f.offset with
     | some a,some b=>dC P d f.type a b H
     | _,_=>none) (body:=fun f Qn=>
      if f.name = "_" then Pure.pure (ForInStep.yield (none, ()))
      else do
       let Af <-part f.type vx f.offset
       let QR <-part f.type vy f.offset
       let Af <-Op.equalIn D f.type Af QR
       if Af=false then Pure.pure (ForInStep.done (some false,())) else Pure.pure (ForInStep.yield (none,()))) w (by
      intro f b hg
      by_cases hn : f.name = "_"
      ·rw[if_pos hn] at hg;cases hg;simp[hn]
      ·rw[if_neg hn] at hg
       split at hg
       ·rename_i a1 a2 h1 h2
        obtain⟨u1,vd,iq⟩:=y0 eY h1 w
        obtain⟨u2,qY,nM⟩:=y0 OK h2 w
        have:=ih D (by omega) f.type a1 a2 u1 u2 b iq nM hg
        cases b<;>simp[hn,vd,qY,this]
       ·cases hg) fs.toList b hb
    simp only[Op.equalIn,Sem.run_bind,aH hu,Result.andThen_ok,run_program,aC]
    simp only[Array.forIn_toList] at key
    simp[key]
    cases b<;>simp
  ·rename_i n el xs ys
   split at hb
   ·rename_i s hs
    obtain⟨vx,rfl,eY⟩:=hx.vL
    obtain⟨vy,rfl,OK⟩:=hy.vL
    have key:=aar (P:=P) (g:=fun i:Nat=>
     match mi P el xs (i*s),mi P el ys (i*s) with
     | some a,some b=>dC P d el a b H
     | _,_=>none) (body:=fun i Qn=>do
       let Af <-part el vx (i*s)
       let QR <-part el vy (i*s)
       let Af <-Op.equalIn D el Af QR
       if Af=false then Pure.pure (ForInStep.done (some false,())) else Pure.pure (ForInStep.yield (none,()))) w (by
      intro f b hg
      split at hg
      ·rename_i a1 a2 h1 h2
       obtain⟨u1,vd,iq⟩:=y0 eY h1 w
       obtain⟨u2,qY,nM⟩:=y0 OK h2 w
       have:=ih D (by omega) el a1 a2 u1 u2 b iq nM hg
       cases b<;>simp[vd,qY,this]
      ·cases hg) (List.range' 0 n) b hb
    simp[Op.equalIn,aH hu,gP hs]
    simp[key]
    cases b<;>simp
   ·cases hb
  ·cases hx;cases hy;cases hb;simp[Op.equalIn,aH hu]
  ·cases hx;cases hb
   rcases hy.lz with⟨o,c,hi,ho,hl,hc,iE,hn,rfl⟩ | ⟨rfl,rfl,a,rfl⟩<;>simp[Op.equalIn,aH hu]
  ·cases hy;cases hb
   rcases hx.lz with⟨o,c,hi,ho,hl,hc,iE,hn,rfl⟩ | ⟨rfl,rfl,a,rfl⟩<;>simp[Op.equalIn,aH hu]
  ·cases hx;cases hy;cases hb;simp[Op.equalIn,aH hu]
  ·cases hx;cases hy;cases hb;simp[Op.equalIn,aH hu]
  ·cases hx;cases hy;cases hb;simp[Op.equalIn,aH hu]
  ·cases hx;cases hy;cases hb;simp[Op.equalIn,aH hu]
  ·cases hx;cases hy;cases hb;simp[Op.equalIn,aH hu]
  ·cases hx;cases hy;cases hb;simp[Op.equalIn,aH hu]
  ·cases hb
end
end
section
variable {P:Program}{G:Nat}{F:Nat->Prop}{W:World}{e:Em}{H:Hp}{w:World}
theorem ac0 (k:IntKind)(a b:Int):((BitVec.ofInt k.bits a) &&& (BitVec.ofInt k.bits b)).toNat=nw k a &&& nw k b:=by
 rw[BitVec.toNat_and,ai9,ai9];rfl
theorem ajl (k:IntKind)(a b:Int):((BitVec.ofInt k.bits a) ||| (BitVec.ofInt k.bits b)).toNat=nw k a ||| nw k b:=by
 rw[BitVec.toNat_or,ai9,ai9];rfl
theorem apk (k:IntKind)(a b:Int):((BitVec.ofInt k.bits a) ^^^ (BitVec.ofInt k.bits b)).toNat=nw k a ^^^ nw k b:=by
 rw[BitVec.toNat_xor,ai9,ai9];rfl
theorem aki (k:IntKind)(a b:Int)(ha:0<=a)(hb:0<=b):((BitVec.ofInt k.bits a) ^^^ (BitVec.ofInt k.bits b)).toNat=(a.toNat % 2 ^ k.bits) ^^^ (b.toNat % 2 ^ k.bits):=by
 rw[BitVec.toNat_xor,TD k a ha,TD k b hb]
theorem JD (a b:ByteArray):(a.toList==b.toList)=(bytes a==bytes b):=by
 rw[ByteArray.toList_eq,ByteArray.toList_eq,bytes_beq]
theorem IP (a b:ByteArray):Op.bytesLess a.toList b.toList=qm (bytes a) (bytes b):=by
 rw[ByteArray.toList_eq,ByteArray.toList_eq];exact (XY _ _).symm
theorem Iv {d:Nat}{t:TypeId}{x y:AV}{b:Bool}(hb:dC P d t x y H=some b):x ≠ .cU/\y ≠ .cU:=by
 constructor
 ·rintro rfl
  cases d with
  | zero=>cases hb
  | succ d=>
   unfold dC at hb
   split at hb
   ·cases hb
   ·split at hb<;>first | (simp at *;done) | (simp_all;done) | cases hb
 ·rintro rfl
  cases d with
  | zero=>cases hb
  | succ d=>
   unfold dC at hb
   split at hb
   ·cases hb
   ·split at hb<;>first | (simp at *;done) | (simp_all;done) | cases hb
theorem VR.UC {x:AV}{x':Value}(h:VR e x x')(hj:x ≠ .cU):(∀ k a,x' ≠ .float k a)/\(∀ k a b,x' ≠ .complex k a b):=by
 cases h<;>first | (exact absurd rfl hj) | (constructor<;>(intros;simp))
theorem ahX {t:TypeId}{x y:Value}(h1:∀ k a k' b,x = .int k a->y = .int k' b->False)(h2:∀ a b,x = .string a->y = .string b->False)
  (h3:∀ k a,x ≠ .float k a) (h4:∀ k a b,x ≠ .complex k a b):binOp .eql t x y=(do Pure.pure (.bool (<-Op.equal t x y))):=by
 cases x<;>cases y<;>first | rfl | (exact absurd rfl (h3 _ _)) | (exact absurd rfl (h4 _ _ _)) | (exact (h1 _ _ _ _ rfl rfl).elim) | (exact (h2 _ _ rfl rfl).elim)
theorem ajf {t:TypeId}{x y:Value}(h1:∀ k a k' b,x = .int k a->y = .int k' b->False)(h2:∀ a b,x = .string a->y = .string b->False)
  (h3:∀ k a,x ≠ .float k a) (h4:∀ k a b,x ≠ .complex k a b):binOp .neq t x y=(do Pure.pure (.bool (!(<-Op.equal t x y)))):=by
 cases x<;>cases y<;>first | rfl | (exact absurd rfl (h3 _ _)) | (exact absurd rfl (h4 _ _ _)) | (exact (h1 _ _ _ _ rfl rfl).elim) | (exact (h2 _ _ rfl rfl).elim)
theorem VR.Ll {x:AV}{k:IntKind}{n:Int}(h:VR e x (.int k n))(hj:x ≠ .cU):x = .int k n:=by cases h<;>first | rfl | exact absurd rfl hj
theorem VR.JV {x:AV}{s:ByteArray}(h:VR e x (.string s))(hj:x ≠ .cU):x = .str (bytes s):=by cases h<;>first | rfl | exact absurd rfl hj
theorem ajK (h:RH G F W e H w){op:BinOp}{t:TypeId}{x y v:AV}{x' y':Value}(hx:VR e x x')(hy:VR e y y')(hb:eA P op t x y H=some v) :
  ∃ v',(binOp op t x' y').run P w = .ok v' w/\VR e v v':=by
 unfold eA at hb
 split at hb
 ·cases hx.fF;cases hy.fF
  split at hb
  ·cases hb
  ·rename_i hn;cases hb
   exact⟨_,by simp[binOp,Op.shift,hn],.int _ _⟩
 ·cases hx.fF;cases hy.fF
  split at hb
  ·cases hb
  ·rename_i hn;cases hb
   exact⟨_,by simp[binOp,Op.shift,hn],.int _ _⟩
 ·cases hx.fF;cases hy.fF
  split at hb
  ·rename_i k a k' b n1 n2 hk
   subst hk
   split at hb
   ·cases hb;exact⟨_,by simp[binOp,Op.intArith],.int _ _⟩
   ·cases hb;exact⟨_,by simp[binOp,Op.intArith],.int _ _⟩
   ·cases hb;exact⟨_,by simp[binOp,Op.intArith],.int _ _⟩
   ·split at hb
    ·cases hb
    ·rename_i hz;cases hb;exact⟨_,by simp[binOp,Op.intDiv,hz],.int _ _⟩
   ·split at hb
    ·cases hb
    ·rename_i hz;cases hb;exact⟨_,by simp[binOp,Op.intDiv,hz],.int _ _⟩
   ·cases hb
    rw[<-ac0 k a b]
    exact⟨_,by simp only[binOp,Op.intBits,ne_eq,not_true_eq_false,if_false];rfl,.int _ _⟩
   ·cases hb
    rw[<-ajl k a b]
    exact⟨_,by simp only[binOp,Op.intBits,ne_eq,not_true_eq_false,if_false];rfl,.int _ _⟩
   ·cases hb
    rw[<-apk k a b]
    exact⟨_,by simp only[binOp,Op.intBits,ne_eq,not_true_eq_false,if_false];rfl,.int _ _⟩
   ·cases hb
   ·cases hb;exact⟨_,by simp[binOp,Op.intCmp],.bool _⟩
   ·cases hb;exact⟨_,by simp[binOp,Op.intCmp],.bool _⟩
   ·cases hb;exact⟨_,by simp[binOp,Op.intCmp],.bool _⟩
   ·cases hb;exact⟨_,by simp[binOp,Op.intCmp],.bool _⟩
   ·cases hb;exact⟨_,by simp[binOp,Op.intCmp],.bool _⟩
   ·cases hb;exact⟨_,by simp[binOp,Op.intCmp],.bool _⟩
   ·cases hb
  ·cases hb
 ·obtain⟨p,rfl,rfl⟩:=hx.lP
  obtain⟨q,rfl,rfl⟩:=hy.lP
  split at hb
  ·cases hle:Nat.ble ((bytes p).length+(bytes q).length) 4294967296 with
   | false=>rw[hle] at hb;cases hb
   | true=>
    rw[hle] at hb
    cases hb
    rw[aez,vO,vO] at hle
    have:¬ ((p.size+q.size:Nat):Int)>9223372036854775807:=by omega
    rw[<-aiu]
    refine⟨.string (p++q),?_,.str _⟩
    simp only[binOp,Op.stringOp,IntKind.max_i64,if_neg this];rfl
  ·cases hb;exact⟨_,by simp[binOp,Op.stringOp,JD],.bool _⟩
  ·cases hb;exact⟨_,by simp[binOp,Op.stringOp,JD],.bool _⟩
  ·cases hb;exact⟨_,by simp[binOp,Op.stringOp,IP],.bool _⟩
  ·cases hb;exact⟨_,by simp[binOp,Op.stringOp,IP,JD],.bool _⟩
  ·cases hb;exact⟨_,by simp[binOp,Op.stringOp,IP,JD],.bool _⟩
  ·cases hb;exact⟨_,by simp[binOp,Op.stringOp,IP],.bool _⟩
  ·cases hb
 ·rename_i n1 n2
  simp only[aaa] at hb
  obtain⟨b,hb,rfl⟩:=hb
  have:=Hw h 50 Op.maxDepth (by decide) t x y x' y' b hx hy hb
  refine⟨.bool b,?_,.bool _⟩
  obtain⟨j1,j2⟩:=Iv hb
  obtain⟨f1,f2⟩:=hx.UC j1
  rw[ahX (fun k a k' b p q=>n1 k a k' b (by rw[p] at hx;exact hx.Ll j1) (by rw[q] at hy;exact hy.Ll j2))
   (fun a b p q=>n2 _ _ (by rw[p] at hx;exact hx.JV j1) (by rw[q] at hy;exact hy.JV j2)) f1 f2]
  simp only[Op.equal,Sem.run_bind,this];rfl
 ·rename_i n1 n2
  simp only[aaa] at hb
  obtain⟨b,hb,rfl⟩:=hb
  have:=Hw h 50 Op.maxDepth (by decide) t x y x' y' b hx hy hb
  refine⟨.bool !b,?_,.bool _⟩
  obtain⟨j1,j2⟩:=Iv hb
  obtain⟨f1,f2⟩:=hx.UC j1
  rw[ajf (fun k a k' b p q=>n1 k a k' b (by rw[p] at hx;exact hx.Ll j1) (by rw[q] at hy;exact hy.Ll j2))
   (fun a b p q=>n2 _ _ (by rw[p] at hx;exact hx.JV j1) (by rw[q] at hy;exact hy.JV j2)) f1 f2]
  simp only[Op.equal,Sem.run_bind,this];rfl
 ·cases hb
theorem ao6 {op:BinOp}{t:TypeId}{X Y:Operand}{x y v:AV}{x' y':Value}(hx:VR e x x')(hy:VR e y y')(hg:rO P op t X Y x y=true)(hb:eA P op t x y H=some v) :
  (eqGuard op t X Y x' y').run P w = .ok () w:=by
 by_cases ho:op = .eql\/op = .neq
 ·have LI:x ≠ .cU/\y ≠ .cU:=by
   constructor
   ·rintro rfl
    rcases ho with rfl | rfl<;>(unfold eA at hb;simp only[aaa] at hb;obtain⟨b,hb,_⟩:=hb;exact (Iv hb).1 rfl)
   ·rintro rfl
    rcases ho with rfl | rfl<;>(unfold eA at hb;cases x<;>simp only[aaa] at hb<;>(obtain⟨b,hb,_⟩:=hb;exact (Iv hb).2 rfl))
  cases hx<;>cases hy<;>first
   | (exact absurd rfl LI.1) | (exact absurd rfl LI.2)
   | (rcases ho with rfl | rfl<;>rfl)
   | skip
  ·have Bp:uY X=true\/uY Y=true:=by
    rcases ho with rfl | rfl<;>(simp only[rO,ag6] at hg;exact hg)
   rcases ho with rfl | rfl<;>(rcases Bp with hc | hc<;>(cases X<;>cases Y<;>first | (simp[uY] at hc;done) | rfl))
  ·have Bp:P.eqGuardType P.depth t=false:=by
    rcases ho with rfl | rfl<;>(simp only[rO,aj3] at hg;exact hg)
   rcases ho with rfl | rfl<;>simp[eqGuard,Bp]
 ·have:(op matches .eql | .neq)=false:=by
   cases op<;>first | rfl | (exact absurd (by simp) ho)
  cases op<;>first | rfl | (exact absurd (by simp) ho)
end
end
section
variable {P:Program}{G:Nat}{F:Nat->Prop}{W:World}{e:Em}{H:Hp}{w:World}
theorem alz {op:UnOp}{x v:AV}{x':Value}(hx:VR e x x')(hb:fT op x=some v)(w:World):∃ v',(Op.unary op x').run P w = .ok v' w/\VR e v v':=by
 unfold fT at hb
 split at hb
 ·cases hx.fF;cases hb;exact⟨_,by simp[Op.unary,Op.intArith],.int _ _⟩
 ·cases hx.rQ;cases hb;exact⟨_,by simp[Op.unary],.bool _⟩
 ·rename_i k n
  cases hx.fF
  split at hb
  ·cases hb
  ·rename_i hs
   split at hb
   ·rename_i hn
    cases hb
    have hm:0<=k.max:=by cases k<;>simp[IntKind.max,IntKind.signed,IntKind.bits] at hs ⊢
    rw[<-aki k k.max n hm hn]
    refine⟨_,?_,.int _ _⟩
    simp only[Op.unary,Op.intBits,if_neg hs];rfl
   ·cases hb
 ·cases hb
theorem aaz:∀ (v:List Value) (off j:Nat) (cs:Array Value),off+j+v.length<=cs.size->
  ((v.zipIdx j).foldl (fun cs (x:Value × Nat)=>cs.setIfInBounds (off+x.2) x.1) cs).size=cs.size/\
  ∀ m,((v.zipIdx j).foldl (fun cs (x:Value × Nat)=>cs.setIfInBounds (off+x.2) x.1) cs)[m]? = if off+j<=m/\m<off+j+v.length then v[m-(off+j)]? else cs[m]?
 | [],off,j,cs,h=>by
  refine⟨by simp,fun m => ?_⟩
  rw[if_neg (by rw[ads];omega)];simp
 | x::v,off,j,cs,h=>by
  simp only[aaN] at h
  rw[List.zipIdx_cons,List.foldl_cons]
  obtain⟨h1,h2⟩:=aaz v off (j+1) (cs.setIfInBounds (off+j) x) (by simp;omega)
  refine⟨by rw[h1];simp,fun m => ?_⟩
  rw[h2]
  simp only[aaN]
  by_cases hm:m=off+j
  ·subst hm
   rw[if_neg (by omega),if_pos (by omega)]
   rw[agc (by omega)]
   simp
  ·by_cases hr:off+(j+1)<=m/\m<off+(j+1)+v.length
   ·rw[if_pos hr,if_pos (by omega)]
    have:m-(off+j)=(m-(off+(j+1)))+1:=by omega
    rw[this,adL]
   ·rw[if_neg hr,if_neg (by omega),aeE (by omega)]
theorem aQ.anY {a c:List AV}{x:Array Value}{y:List Value}{off:Nat}(ha:aQ e a x.toList)(hc:aQ e c y)(h:off+c.length<=a.length) :
  aQ e (a.take off++c++a.drop (off+c.length)) ((y.zipIdx).foldl (fun cs (x:Value × Nat)=>cs.setIfInBounds (off+x.2) x.1) x).toList:=by
 have hx:x.size=a.length:=by have:=ha.1;simpa using this
 obtain⟨h1,h2⟩:=aaz y off 0 x (by rw[hc.1,hx];omega)
 refine⟨by simp[h1,hx];omega,fun i v v' hv bQ => ?_⟩
 rw[aeg,h2] at bQ
 simp only[aem] at bQ
 rw[hc.1] at bQ
 by_cases hi:i<off
 ·rw[if_neg (by omega)] at bQ
  rw[ae9,abD (by simp;omega),ahB,if_pos hi] at hv
  exact ha.2 i v v' hv (by rw[aeg];exact bQ)
 ·by_cases oB:i<off+c.length
  ·rw[if_pos (by omega)] at bQ
   rw[abD (by simp;omega),ab7 (by simp;omega)] at hv
   have:i-(a.take off).length=i-off:=by simp;omega
   rw[this] at hv
   exact hc.2 _ v v' hv bQ
  ·rw[if_neg (by omega)] at bQ
   rw[ab7 (by simp;omega),afT] at hv
   have:off+c.length+(i-(a.take off++c).length)=i:=by simp;omega
   rw[this] at hv
   exact ha.2 i v v' hv (by rw[aeg];exact bQ)
def tn (e:Em)(l:List (Nat × AV))(l':List (Nat × Value)):Prop:=l'.map (·.1)=l.map (·.1)/\aQ e (l.map (·.2)) (l'.map (·.2))
theorem K3 {pl B8:Nat->Option (Nat × Nat)}(ml:∀ i x,pl i=some x->B8 i=some x):∀ (ps:List (Nat × AV)) (nP:List (Nat × Value)) (cells out:List AV) (Aa:Array Value),
  tn e ps nP->aQ e cells Aa.toList->sJ pl cells ps=some out->∃ kF,Instr.fill B8 Aa nP=some kF/\aQ e out kF.toList:=by
 intro ps
 induction ps with
 | nil=>
  intro nP cells out Aa hp hc hf
  cases hf
  obtain rfl:nP=[]:=by have:=hp.1;simpa using this
  exact⟨Aa,rfl,hc⟩
 | cons p ps ih=>
  intro nP cells out Aa hp hc hf
  obtain⟨i,v⟩:=p
  cases nP with
  | nil=>have:=hp.1;simp at this
  | cons q nP=>
   obtain⟨i',v'⟩:=q
   obtain⟨h1,h2⟩:=hp
   simp only[adK,List.cons.injEq] at h1
   obtain⟨rfl,h1⟩:=h1
   obtain⟨u,us,hu,hv,rD⟩:=aQ.cons_inv (by simpa using h2:aQ e (v::ps.map (·.2)) (v'::nP.map (·.2)))
   simp only[List.cons.injEq] at hu
   obtain⟨rfl,rfl⟩:=hu
   unfold sJ at hf
   split at hf
   ·cases hf
   ·rename_i off size sG
    split at hf
    ·cases hf
    ·rename_i cs fu
     split at hf
     ·rename_i sF
      have hl:=hv.cells fu
      have eF:v'.cells.size=size:=by have:=hl.1;simp at this;omega
      have aqk:Aa.size=cells.length:=by have:=hc.1;simpa using this
      have mh:=hc.anY hl (off:=off) (by omega)
      rw[sF.1] at mh
      obtain⟨kF,ho,hr⟩:=ih nP _ out _ ⟨h1,rD⟩ mh hf
      refine⟨kF,?_,hr⟩
      unfold Instr.fill
      rw[ml _ _ sG]
      have c1:(decide (v'.cells.size≠size)||decide (off+v'.cells.size>Aa.size))=false:=by simp;omega
      simp only[c1,abz,if_false]
      rw[<-ho]
      congr 1
      rw[<-Array.foldl_toList,Array.toList_zipIdx]
     ·cases hf
theorem tn.map {ρ:Operand->AV}{σ:Operand->Value}(h:∀ x,VR e (ρ x) (σ x))(l:List (Nat × Operand)):tn e (l.map fun (i,x)=>(i,ρ x)) (l.map fun (i,x)=>(i,σ x)):=by
 refine⟨by simp[Function.comp_def],?_⟩
 have:=aQ.map h (l.map (·.2))
 simpa[Function.comp_def] using this
theorem Xz {α β:Type}{f:α->Option β}{g:α->Sem β}{w:World}(h:∀ a b,f a=some b->(g a).run P w = .ok b w):∀ (l:List α) (r:List β),qZ f l=some r->(l.mapM g).run P w = .ok r w
 | [],r,hr=>by cases hr;simp
 | a::l,r,hr=>by
  unfold qZ at hr
  split at hr
  ·rename_i b hb
   split at hr
   ·rename_i r' eH
    cases hr
    simp[h a b hb,Xz h l r' eH]
   ·cases hr
  ·cases hr
theorem adq {t:TypeId}{fs:Array Field}{z out:List AV}{pl:List (Nat × Nat)}{parts:List (Nat × AV)}{AH:Array (Nat × Value)}(hz:zc P t=some z)(hu:P.underlying t=some (.struct fs))
  (ml:Mj P fs=some pl) (hp:tn e parts AH.toList) (hf:sJ (pl[·]?) z parts=some out) (w:World):∃ v',(Instr.build t AH).run P w = .ok v' w/\VR e (.agg out) v':=by
 obtain⟨i,z0,hi,fw,hl⟩:=wS (e:=e) hz
 have hm:(fs.mapM (fun f=>do Pure.pure (f.offset,<-sizeOf f.type)):Sem (Array (Nat × Nat))).run P w = .ok pl.toArray w:=by
  rw[<-Array.toArray_toList (xs:=fs),List.mapM_toArray]
  have:=Xz (P:=P) (w:=w) (g:=fun f:Field=>(do Pure.pure (f.offset,<-sizeOf f.type):Sem (Nat × Nat))) (f:=fun f:Field=>(sz P f.type).map fun n=>(f.offset,n)) (by
   intro a b hb
   simp only[aaa] at hb
   obtain⟨n,hn,rfl⟩:=hb
   simp[gP hn]) fs.toList pl ml
  rw[Sem.run_map,this];rfl
 obtain⟨kF,ho,hr⟩:=K3 (e:=e) (B8:=(pl.toArray[·]?)) (fun i x hx=>by simpa using hx) parts AH.toList z out z0.cells hp hl hf
 refine⟨.agg kF,?_,.agg _ _ hr.1 hr.2⟩
 simp only[Instr.build,Sem.run_bind,rr hi fw,Result.andThen_ok,aH hu,hm,ho]
 rfl
theorem ahM {t el s n:Nat}{z out:List AV}{parts:List (Nat × AV)}{AH:Array (Nat × Value)}(hz:zc P t=some z)(hu:P.underlying t=some (.array n el))
  (hs:sz P el=some s) (hp:tn e parts AH.toList) (hf:sJ (fun i=>some (i*s,s)) z parts=some out) (w:World):∃ v',(Instr.build t AH).run P w = .ok v' w/\VR e (.agg out) v':=by
 obtain⟨i,z0,hi,fw,hl⟩:=wS (e:=e) hz
 obtain⟨kF,ho,hr⟩:=K3 (e:=e) (B8:=fun i=>some (i*s,s)) (fun i x hx=>hx) parts AH.toList z out z0.cells hp hl hf
 refine⟨.agg kF,?_,.agg _ _ hr.1 hr.2⟩
 simp only[Instr.build,Sem.run_bind,rr hi fw,Result.andThen_ok,aH hu,gP hs,ho]
 rfl
theorem aaj {α:Type}(z:List α):∀ (n i:Nat),i<n*z.length->(List.replicate n z).flatten[i]? = z[i % z.length]?
 | 0,i,h=>by simp at h
 | n+1,i,h=>by
  rw[List.replicate_succ,aj1]
  by_cases hi:i<z.length
  ·rw[abD hi,akv hi]
  ·rw[ab7 (by omega),aaj z n _ (by rw[Nat.succ_mul] at h;omega)]
   congr 1
   have:i=(i-z.length)+z.length:=by omega
   rw[this,Nat.add_mod_right]
   congr 1
   omega
theorem Tz (z:Array Value)(n:Nat):((Array.range (n*z.size)).map (z[· % z.size]!)).toList=(List.replicate n z.toList).flatten:=by
 apply aij
 intro i
 by_cases hi:i<n*z.size
 ·rw[aaj z.toList n i (by simpa using hi)]
  have hz:0<z.size:=by
   rcases Nat.eq_zero_or_pos z.size with h | h
   ·rw[h] at hi;simp at hi
   ·exact h
  have aI:i % z.size<z.size:=Nat.mod_lt _ hz
  simp[aeg,hi,aI]
 ·rw[agl (by simp;omega),agl (by simp;omega)]
theorem aQ.rep {z:List AV}{z':List Value}(h:aQ e z z'):∀ n,aQ e (rep n z) (List.replicate n z').flatten
 | 0=>by simpa[Am.rep] using aQ.nil e
 | n+1=>by
  have:=h.append (aQ.rep h n)
  simpa[Am.rep,List.replicate_succ] using this
end
end
section
variable {P:Program}{G:Nat}{F:Nat->Prop}{W:World}{e:Em}{H:Hp}{w:World}
theorem Qp:∀ {l:List AV} {bs:List Nat} {cs:List Value},uV l=some bs->aQ e l cs->∃ us:List UInt8,bs=us.map (·.toNat)/\cs=us.map (fun b=>Value.int .u8 b.toNat)
 | [],bs,cs,h,hl=>by
  cases h
  rw[hl.jP]
  exact⟨[],rfl,rfl⟩
 | a::l,bs,cs,h,hl=>by
  unfold uV at h
  split at h
  ·rename_i h0;cases h0
  ·rename_i n r h0
   cases h0
   obtain⟨v',ws,rfl,hv,qA⟩:=hl.cons_inv
   cases hv.fF
   split at h
   ·rename_i hn
    simp only[aaG,decide_eq_true_eq] at hn
    simp only[acX,Option.pure_def,aa3,adG] at h
    obtain⟨Uw,h1,rfl⟩:=h
    obtain⟨us,rfl,rfl⟩:=Qp h1 qA
    have hu:(UInt8.ofNat n.toNat).toNat=n.toNat:=by
     rw[UInt8.toNat_ofNat'];exact akv (by omega)
    refine⟨UInt8.ofNat n.toNat::us,by simp only[adK,hu],?_⟩
    have:((UInt8.ofNat n.toNat).toNat:Int)=n:=by rw[hu];omega
    simp only[adK,this]
   ·cases h
  ·cases h
theorem apD (us:List UInt8):bytes ⟨us.toArray⟩=us.map (·.toNat):=rfl
theorem U8:∀ (us:List UInt8) (s:ByteArray),(us.map fun b=>(b.toNat:Int)).foldl (fun r n=>r.push (UInt8.ofNat n.toNat)) s=⟨s.data++us.toArray⟩
 | [],s=>by simp
 | u::us,s=>by
  simp only[adK,List.foldl_cons,U8 us]
  congr 1
  simp[ByteArray.push]
theorem PI {a:Addr}{us:List UInt8}{cap:Nat}(w:World)(h:∀ j v,(us.map (fun b=>Value.int .u8 b.toNat))[j]? = some v->w.cell? (a.add j)=some v) :
  (Conv.bytesToString (.slice (some a) us.length cap)).run P w = .ok (.string ⟨us.toArray⟩) w:=by
 have h1:=run_loadCells_list (P:=P) w a (us.map (fun b=>Value.int .u8 b.toNat)) h
 rw[adV] at h1
 have h2:=run_bytesToString (P:=P) w a us.length cap (us.map fun b=>(b.toNat:Int)) (by rw[h1];simp[Function.comp_def])
 rw[h2,U8]
 simp[ByteArray.empty,ByteArray.emptyWithCapacity]
 rfl
theorem am2 (n:Int)(h:0<=n/\n<128):bytes (Utf8.encode n)=[n.toNat]:=by
 obtain⟨k,rfl⟩:=Int.eq_ofNat_of_zero_le h.1
 have hk:k<128:=by omega
 have:∀ k:Fin 128,bytes (Utf8.encode ((k.val:Nat):Int))=[k.val]:=by decide +kernel
 exact this ⟨k,hk⟩
theorem amH (w:World)(C:Array Value)(el:TypeId)(b:Nat)(hb:b=w.heap.size) :
  World.freeze { w with heap:=w.heap.push (.cells C el (0,0)) } { block:=b,off:=C.size } 1={ w with heap:=w.heap.push (.cells C el (C.size,C.size+1)) }:=by
 subst hb
 simp only[World.freeze,Nat.one_ne_zero,if_false]
 congr 1
 apply Array.ext_getElem?
 intro k
 rw[Array.getElem?_modify]
 by_cases hk:w.heap.size=k
 ·subst hk;simp
 ·rw[if_neg hk,aiU,aiU,if_neg (fun q=>hk q.symm),if_neg (fun q=>hk q.symm)]
def mQ (w:World)(el:TypeId)(s:ByteArray):Nat:=(Question.appendCap s.size 0 el).cut (w.tape w.drawn (.appendCap s.size 0 el))
def tI (w:World)(el:TypeId)(s:ByteArray):List Value:=(s.data.toList.map fun b=>Value.int .u8 b.toNat)++List.replicate (mQ w el s-s.size) (.int .u8 0)
theorem IW (w:World)(el:TypeId)(s:ByteArray):s.size<=mQ w el s:=Nat.le_add_right _ _
theorem NX (w:World)(el:TypeId)(s:ByteArray):(tI w el s).length=mQ w el s:=by
 have:=IW w el s
 have h2:s.data.size=s.size:=rfl
 simp[tI]
 omega
theorem Uu (P:Program)(w:World)(el:TypeId)(s:ByteArray) :
  (Conv.stringToBytes el s).run P w = .ok (.slice (some ⟨w.heap.size,0,none⟩) s.size (mQ w el s)) { w with drawn:=w.drawn+1,heap:=w.heap.push (.cells (tI w el s).toArray el (mQ w el s,mQ w el s+1)) }:=by
 let w1:World:={ w with drawn:=w.drawn+1 }
 let cap:=mQ w el s
 have hJ:s.size<=cap:=IW w el s
 let rest:List Value:=List.replicate (cap-s.size) (.int .u8 0)
 have hlen:((s.data.toList.map fun b=>Value.int .u8 b.toNat)++rest).length=cap:=NX w el s
 have hC:(s.data.map fun b=>Value.int .u8 b.toNat)++Array.replicate (cap-s.size) (.int .u8 0)=((s.data.toList.map fun b=>Value.int .u8 b.toNat)++rest).toArray:=by
  apply adZ.1
  simp[rest]
 have Hi:(Question.appendCap s.size 0 el).forced=false:=rfl
 simp only[Conv.stringToBytes,Sem.run_bind,run_choose,Hi,abz,if_false,Result.andThen_ok,newRow,run_newObj,Sem.run_pure]
 have hC':(s.data.map fun b=>Value.int .u8 b.toNat)++Array.replicate ((Question.appendCap s.size 0 el).cut (w.tape w.drawn (.appendCap s.size 0 el))-s.size) (.int .u8 0)=((s.data.toList.map fun b=>Value.int .u8 b.toNat)++rest).toArray:=hC
 rw[hC']
 have eF:((s.data.toList.map fun b=>Value.int .u8 b.toNat)++rest).toArray.size=cap:=by simpa using hlen
 have oz:(World.shape? { w1 with heap:=w.heap.push (.cells ((s.data.toList.map fun b=>Value.int .u8 b.toNat)++rest).toArray el (0,0)) } w.heap.size)=some (el,cap):=by
  simp only[World.shape?,Array.getElem?_push_size,eF]
 have J7:=amH w1 ((s.data.toList.map fun b=>Value.int .u8 b.toNat)++rest).toArray el w.heap.size rfl
 rw[eF] at J7
 have aoQ:(World.shape? { w with heap:=w.heap.push (.cells ((s.data.toList.map fun b=>Value.int .u8 b.toNat)++rest).toArray el (0,0)),drawn:=w.drawn+1 } w.heap.size)=some (el,cap):=oz
 simp only[markStringish,Sem.run_bind,run_shape,Result.andThen_ok,aoQ,run_freeze]
 have ajF:World.freeze { w with heap:=w.heap.push (.cells ((s.data.toList.map fun b=>Value.int .u8 b.toNat)++rest).toArray el (0,0)),drawn:=w.drawn+1 } { block:=w.heap.size,off:=cap } 1=_:=J7
 rw[ajF]
 rfl
theorem abr (e:Em)(s:ByteArray):aQ e ((bytes s).map fun (b:Nat)=>AV.int .u8 b) (s.data.toList.map fun b=>Value.int .u8 b.toNat):=by
 refine⟨by simp[bytes],fun i v v' hv bQ => ?_⟩
 simp only[bytes,akI,adX,aaa] at hv bQ
 obtain⟨u,hu,rfl⟩:=hv
 obtain⟨u',iL,rfl⟩:=bQ
 rw[hu] at iL
 cases iL
 exact .int _ _
theorem ajh (h:RH G F W e H w){s:ByteArray}{el i:Nat}{H':Hp}(hn:aE H ((bytes s).map fun (b:Nat)=>AV.int .u8 b) el 1=some (i,H')) :
  ∃ v' w' e',(Conv.stringToBytes el s).run P w = .ok v' w'/\e.le e'/\RH G F W e' H' w'/\VR e' (.slice i 0 (bytes s).length (bytes s).length false 1) v':=by
 have hJ:=IW w el s
 have h1:RH G F W e H { w with drawn:=w.drawn+1 }:=h.drawn _
 have hlen:=NX w el s
 obtain⟨e',he,g1,g2,g3,g4,hr⟩:=h1.newRow (rest:=List.replicate (mQ w el s-s.size) (.int .u8 0)) (fz:=(mQ w el s,mQ w el s+1)) hn (abr e s) (by simp) (fun _ k hk=>by
  have po:k<(tI w el s).length:=hk
  rw[hlen] at po;simp;omega)
 refine⟨_,_,e',Uu P w el s,he,hr,?_⟩
 have hb:w.heap.size=e'.b i:=g2.symm
 rw[hb,vO]
 have g4':e'.n i=(tI w el s).length:=g4
 refine .slice i 0 s.size s.size false 1 0 _ g1 (by rw[g3];simp) hJ hJ (by simp) ?_
 rw[g4',hlen];omega
theorem afg {el:TypeId}{count:Nat}(hs:0<P.cellsOf el)(hc:P.cellsOf el<=count):liesAt P P.depth el (count / P.cellsOf el) 0 el 1=true:=by
 have hd:P.depth=(2*(P.types.size+Made.depth)+1)+1:=rfl
 have h1:1<=count / P.cellsOf el:=(Nat.le_div_iff_mul_le hs).2 (by omega)
 have h0:¬ P.cellsOf el=0:=by omega
 rw[hd]
 simp only[liesAt,ag6]
 left
 rw[hd]
 simp only[rowAt,if_neg h0,ag6,aaG]
 left
 simp[h1,sameLayout]
theorem RY (h:RH G F W e H w){i:Nat}{c:Tr AV}{lo hi el fl:Nat}(hg:H.h.get i=some (.cells c lo hi el fl)) :
  i<e.N/\∃ C fz,w.heap[e.b i]? = some (.cells C el fz)/\C.size=e.n i/\(lo=0->e.d i=0)/\(fl=0->fz=(0,0)):=by
 obtain⟨hN,ob,dP,dK,_⟩:=h.obj i _ hg
 cases dK with
 | cells _ _ _ _ _ C fz hn gZ h0 h1 hd=>exact⟨hN,C,fz,dP,hn,hd,h0⟩
theorem adF (h:RH G F W e H w){src dst:TypeId}{x v:AV}{x':Value}{H':Hp}(hx:VR e x x')(hc:iY P src dst x H=some (v,H')) :
  ∃ v' w' e',(convert src dst x').run P w = .ok v' w'/\e.le e'/\RH G F W e' H' w'/\VR e' v v':=by
 unfold iY at hc
 split at hc
 ·rename_i s d hs hd
  split at hc
  ·cases hx.fF;cases hc
   exact⟨_,w,e,by simp[convert,aH hs,aH hd,Conv.intToInt],e.le_refl,h,.int _ _⟩
  ·rename_i n
   cases hx.fF
   split at hc
   ·rename_i hn
    cases hc
    rw[<-am2 n hn]
    exact⟨_,w,e,by simp[convert,aH hs,aH hd,Conv.intToString],e.le_refl,h,.str _⟩
   ·cases hc
  ·obtain⟨b,rfl,rfl⟩:=hx.lP
   cases hc
   exact⟨_,w,e,by simp[convert,aH hs,aH hd],e.le_refl,h,.str _⟩
  ·rename_i el s
   obtain⟨b,rfl,rfl⟩:=hx.lP
   split at hc
   ·rename_i nV
    split at hc
    ·rename_i i H2 hn
     cases hc
     obtain⟨v',w',e',h1,h2,h3,h4⟩:=ajh (P:=P) h hn
     exact⟨v',w',e',by simp[convert,aH hs,aH hd,aH nV,h1],h2,h3,h4⟩
    ·cases hc
   ·cases hc
  ·rename_i el0 el i off len cap ex es
   cases hb:(Nat.beq src dst&&Nat.blt 0 len) with
   | false=>rw[hb] at hc;cases hc
   | true=>
    rw[hb] at hc
    simp only[cond_true] at hc
    simp only[aaG,ad5] at hb
    have hsd:src=dst:=aa9 hb.1
    split at hc
    ·rename_i c lo hi fJ nV hg
     cases hc
     obtain⟨hN,C,fz,dP,hn,Ix,II⟩:=RY h hg
     have hf:=II rfl
     subst hf
     rcases hx.lz with⟨o,k,oB,ho,hl,xM,iE,gK,rfl⟩ | ⟨rfl,_,_,_⟩
     ·refine⟨.slice (some ⟨e.b i,o,none⟩) len k,w.freeze { block:=e.b i,off:=C.size } 1,e,?_,e.le_refl,?_,hx⟩
      ·have oz:w.shape? (e.b i)=some (fJ,C.size):=by simp[World.shape?,dP]
       simp[convert,aH hs,aH hd,aH nV,hsd,markStringish,oz]
      ·refine h.put hg rfl (oO := .cells C fJ (C.size,C.size+1)) ?_ ?_ ?_ ?_ rfl rfl rfl
       ·simp[World.freeze]
       ·simp only[World.freeze,Nat.one_ne_zero,if_false]
        rw[Db _ _ _ dP];simp
       ·intro k hk
        simp only[World.freeze,Nat.one_ne_zero,if_false]
        rw[CT _ _ _ _ (fun q=>hk q.symm)]
       ·obtain⟨_,ob,aba,dK,_⟩:=h.obj i _ hg
        rw[dP] at aba
        cases aba
        cases dK with
        | cells _ _ _ _ _ C fz hn gZ h0 h1 hd=>exact .cells _ _ _ _ _ _ _ hn gZ (by simp) (fun _ k hk=>by simp;omega) hd
     ·omega
    ·cases hc
  ·rename_i el
   cases hx
   split at hc
   ·rename_i nV
    cases hc
    refine⟨.string .empty,w,e,by simp[convert,aH hs,aH hd,aH nV,Conv.bytesToString],e.le_refl,h,?_⟩
    exact .str .empty
   ·cases hc
  ·rename_i el i off len a1 a2 a3
   split at hc
   ·rename_i nV
    cases hz:Nat.beq len 0 with
    | true=>
     rw[hz] at hc
     cases hc
     have:len=0:=aa9 hz
     subst this
     rcases hx.lz with⟨o,k,oB,ho,hl,xM,iE,gK,rfl⟩ | ⟨_,_,a,rfl⟩
     ·have:=PI (P:=P) (a:=⟨e.b i,o,none⟩) (us:=[]) (cap:=k) w (by simp)
      exact⟨_,w,e,by simp only[convert,Sem.run_bind,aH hs,aH hd,aH nV,Result.andThen_ok];exact this,e.le_refl,h,.str ⟨#[]⟩⟩
     ·have:=PI (P:=P) (a:=a) (us:=[]) (cap:=0) w (by simp)
      exact⟨_,w,e,by simp only[convert,Sem.run_bind,aH hs,aH hd,aH nV,Result.andThen_ok];exact this,e.le_refl,h,.str ⟨#[]⟩⟩
    | false=>
     rw[hz] at hc
     simp only[cond_false,aa3,aaa,acI] at hc
     obtain⟨cs,fu,bs,sB,rfl,rfl⟩:=hc
     rcases hx.lz with⟨o,k,oB,ho,hl,xM,iE,gK,rfl⟩ | ⟨rfl,_,a,rfl⟩
     ·obtain⟨vs,h1,h2,h3⟩:=h.yp fu ho
      obtain⟨us,rfl,rfl⟩:=Qp sB h1
      rw[adV] at h2
      have:=PI (P:=P) (a:=⟨e.b i,o,none⟩) (us:=us) (cap:=k) w (fun j v hj=>by rw[add_lit];exact h3 j v hj)
      rw[h2] at this
      refine⟨_,w,e,by simp only[convert,Sem.run_bind,aH hs,aH hd,aH nV,Result.andThen_ok];exact this,e.le_refl,h,?_⟩
      rw[<-apD];exact .str _
     ·simp at hz
   ·cases hc
  ·rename_i t i o
   cases hb:((cellAt H i o).isSome&&xC P t) with
   | false=>rw[hb] at hc;cases hc
   | true=>
    rw[hb] at hc
    cases hc
    rw[aaG] at hb
    obtain⟨u,hu⟩:=ahU.1 hb.1
    obtain⟨n,hn⟩:∃ n,sz P t=some (n+1):=by
     have:=hb.2
     unfold xC at this
     split at this
     ·rename_i n hn;exact⟨n,hn⟩
     ·cases this
    obtain⟨o',hi,ho,rfl⟩:=hx.qd
    have aI:=h.Ou hu ho
    obtain⟨c,lo,iS,el,fl,hg,_,_,_⟩:=Pb hu
    obtain⟨hN,C,fz,dP,gK,_,_⟩:=RY h hg
    have oz:w.shape? (e.b i)=some (el,C.size):=by simp[World.shape?,dP]
    have qB:¬ C.size<=o':=by omega
    refine⟨_,w,e,?_,e.le_refl,h,hx⟩
    simp[convert,aH hs,aH hd,Conv.unsafePointer,Conv.seenAt,viewAt,cellsIn,oz,gP hn,qB]
  ·rename_i u i o
   split at hc
   ·rename_i c lo hi el fl hg
    cases hb:(Nat.beq el u&&Nat.beq lo 0&&Nat.beq o 0&&Nat.blt 0 (P.cellsOf u)&&(cellAt H i (P.cellsOf u-1)).isSome) with
    | false=>rw[hb] at hc;cases hc
    | true=>
     rw[hb] at hc
     cases hc
     simp only[aaG,ad5] at hb
     obtain⟨⟨⟨⟨b1,b2⟩,b3⟩,b4⟩,b5⟩:=hb
     have e1:el=u:=aa9 b1
     have e2:lo=0:=aa9 b2
     have e3:o=0:=aa9 b3
     subst e1;subst e2;subst e3
     obtain⟨q,hq⟩:=ahU.1 b5
     obtain⟨hN,C,fz,dP,gK,Ix,_⟩:=RY h hg
     obtain⟨o',hi,ho,rfl⟩:=hx.qd
     have Wd:=Ix rfl
     have AK:o'=0:=by omega
     subst AK
     have aI:=h.Ou (o:=P.cellsOf el-1) hq (by omega)
     have oz:w.shape? (e.b i)=some (el,C.size):=by simp[World.shape?,dP]
     have hl:=afg (P:=P) (el:=el) (count:=C.size) b4 (by omega)
     have ao4:sz P el=some (P.cellsOf el):=by
      unfold sz
      unfold Program.cellsOf at b4 ⊢
      cases hi:P.info? el with
      | none=>simp[hi] at b4
      | some inf=>simp
     refine⟨_,w,e,?_,e.le_refl,h,hx⟩
     simp[convert,aH hs,aH hd,Conv.unsafePointer,Conv.seenAt,viewAt,oz,gP ao4,variablesAt,hl]
   ·cases hc
  ·cases hc
 ·cases hc
end
end Go.Proofs.YtodfajmihkagnaaGreatDoor.Am
