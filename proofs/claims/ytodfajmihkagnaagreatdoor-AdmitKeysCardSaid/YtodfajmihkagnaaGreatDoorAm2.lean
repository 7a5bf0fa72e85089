/- Laws that the proof uses. -/
import Derived.Test.YtodfajmihkagnaaGreatDoorAm1
set_option maxHeartbeats 2000000
set_option linter.unusedVariables false
set_option linter.unusedSimpArgs false
namespace Go.Proofs.YtodfajmihkagnaaGreatDoor.Am
section
section
section
section
def dY (P:Program)(G:Nat)(F:Nat->Prop)(W:World)(e:Em)(v:AV)(H':Hp)(r:Result Next):Prop:=
 ∃ n w' e' v',r = .ok n w'/\(n = .value v'\/(n = .skip/\v'=undef))/\e.le e'/\RH G F W e' H' w'/\VR e' v v'
section
variable {P:Program}{G:Nat}{F:Nat->Prop}{W:World}{e:Em}{H:Hp}{w:World}
theorem dY.pure {s:Sem Value}{v:AV}{v':Value}(h:RH G F W e H w)(hs:s.run P w = .ok v' w)(hv:VR e v v') :
  dY P G F W e v H ((do Pure.pure (Next.value (<-s)):Sem Next).run P w):=
 ⟨.value v',w,e,v',by simp[hs],.inl rfl,e.le_refl,h,hv⟩
theorem dY.val {s:Sem Value}{v:AV}{v':Value}{e':Em}{H':Hp}{w':World}(hs:s.run P w = .ok v' w')(he:e.le e')(h:RH G F W e' H' w')(hv:VR e' v v') :
  dY P G F W e v H' ((do Pure.pure (Next.value (<-s)):Sem Next).run P w):=
 ⟨.value v',w',e',v',by simp[hs],.inl rfl,he,h,hv⟩
theorem VR.undef:VR e bJ undef := .tuple [] #[] rfl (by simp)
theorem dY.unit {s:Sem Unit}{e':Em}{H':Hp}{w':World}(hs:s.run P w = .ok () w')(he:e.le e')(h:RH G F W e' H' w') :
  dY P G F W e bJ H' ((do s;Pure.pure Next.skip:Sem Next).run P w):=
 ⟨.skip,w',e',_,by simp[hs],.inr ⟨rfl,rfl⟩,he,h,.undef⟩
theorem VR.oq {v:Value}{a:AV}(h:oq v=some a):VR e a v:=by
 unfold Am.oq at h
 split at h<;>simp only[acV,reduceCtorEq] at h<;>subst h<;>constructor
theorem aP.oq:∀ {vs:List Value} {l:List AV},vs.mapM Am.oq=some l->aP e l vs
 | [],l,h=>by simp at h;subst h;exact .nil e
 | v::vs,l,h=>by
  simp only[List.mapM_cons,acC,Option.pure_def,aa6,acV] at h
  obtain⟨a,ha,r,hr,rfl⟩:=h
  exact .cons (.oq ha) (aP.oq hr)
theorem VR.ja {v:Value}{a:AV}(h:ja v=some a):VR e a v:=by
 unfold Am.ja at h
 split at h
 ·simp only[aaa] at h
  obtain⟨l,hl,rfl⟩:=h
  have:=aP.oq (e:=e) hl
  exact .agg _ _ this.1 this.2
 ·simp only[aaa] at h
  obtain⟨l,hl,rfl⟩:=h
  have:=aP.oq (e:=e) hl
  exact .tuple _ _ this.1 this.2
 ·simp only[aaa] at h
  obtain⟨l,hl,rfl⟩:=h
  exact .iface _ _ _ (.oq hl)
 ·exact .oq h
theorem wK {t:TypeId}{l:List AV}(h:zc P t=some l):∃ i z,P.info? t=some i/\i.zero=some z/\aP e l z.cells.toList:=by
 simp only[zc,acC,aa6] at h
 obtain⟨i,hi,z,hz,hl⟩:=h
 exact⟨i,z,hi,hz,.oq hl⟩
theorem qU {t:TypeId}{i:TypeInfo}{z:Value}(hi:P.info? t=some i)(hz:i.zero=some z)(w:World):(zeroValue t).run P w = .ok z w:=by
 simp[zeroValue,pE hi,hz]
theorem agV (h:RH G F W e H w){t:TypeId}{l:List AV}{i:Nat}{H':Hp}(hz:zc P t=some l)(hn:aE H l t 0=some (i,H')) :
  ∃ v' w' e',(Instr.alloc t true (.tuple #[])).run P w = .ok v' w'/\e.le e'/\RH G F W e' H' w'/\VR e' (.ptr i 0) v':=by
 obtain⟨inf,z,hi,ft,hl⟩:=wK (e:=e) hz
 obtain⟨e',he,h1,h2,h3,h4,hr⟩:=h.newRow (rest:=[]) (fz:=(0,0)) hn hl (fun _=>rfl) (by simp)
 refine⟨.pointer (some ⟨w.heap.size,0,none⟩),_,e',?_,he,hr,?_⟩
 ·simp[Instr.alloc,qU hi ft,newVar,Go.newRow]
 ·rw[<-h2];exact .ptr i 0 0 h1 (by rw[h3];simp)
theorem aof (h:RH G F W e H w){t:TypeId}{v:AV}{v':Value}{l:List AV}{i:Nat}{H':Hp}(hv:VR e v v')(hz:qg v=some l)(hn:aE H l t 0=some (i,H')) :
  ∃ u w' e',(Instr.box t v').run P w = .ok u w'/\e.le e'/\RH G F W e' H' w'/\VR e' (.ptr i 0) u:=by
 have hl:=hv.cells hz
 obtain⟨e',he,h1,h2,h3,h4,hr⟩:=h.newRow (rest:=[]) (fz:=(0,0)) hn hl (fun _=>rfl) (by simp)
 refine⟨.pointer (some ⟨w.heap.size,0,none⟩),_,e',?_,he,hr,?_⟩
 ·simp[Instr.box,newVar,Go.newRow]
 ·rw[<-h2];exact .ptr i 0 0 h1 (by rw[h3];simp)
theorem yY {t:TypeId}{cs:List AV}{vs:Array Value}{off:Nat}{v:AV}(hl:aP e cs vs.toList)(hp:mr P t cs off=some v)(w:World) :
  ∃ v',(part t vs off).run P w = .ok v' w/\VR e v v':=by
 simp only[mr,acC,aa6] at hp
 obtain⟨b,hb,hp⟩:=hp
 cases b with
 | true=>
  simp only[if_true,aa6] at hp
  obtain⟨n,hn,hp⟩:=hp
  cases hc:Nat.ble (off+n) cs.length with
  | false=>rw[hc] at hp;cases hp
  | true=>
   rw[hc] at hp
   simp only[cond_true,acV] at hp
   subst hp
   refine⟨.agg (vs.extract off (off+n)),by simp[part,Ld hb,gQ hn],?_⟩
   have:=(hl.drop off).take n
   have e2:(vs.extract off (off+n)).toList=(vs.toList.drop off).take n:=by simp[Array.toList_extract,List.extract]
   exact .agg _ _ (by rw[e2];exact this.1) (by rw[e2];exact this.2)
 | false=>
  simp only[aby,if_false] at hp
  obtain⟨v',bQ,hr⟩:=hl.get hp
  rw[adS] at bQ
  exact⟨v',by simp[part,Ld hb,bQ],hr⟩
theorem afH {t:TypeId}{x v:AV}{x':Value}{f:Nat}{fs:Array Field}{fd:Field}(hx:VR e x x')(hu:P.underlying t=some (.struct fs))(hf:fs[f]? = some fd)
  {cs:List AV} (hxs:x = .agg cs) (hp:mr P fd.type cs fd.offset=some v) (w:World):∃ v',(Instr.field t x' f).run P w = .ok v' w/\VR e v v':=by
 subst hxs
 obtain⟨vs,rfl,hl⟩:=hx.uZ
 obtain⟨v',bQ,hr⟩:=yY hl hp w
 exact⟨v',by simp[Instr.field,aH hu,hf,asAgg,bQ],hr⟩
theorem agl {t:TypeId}{i o n:Nat}{x':Value}{f:Nat}{fs:Array Field}{fd:Field}(hx:VR e (.ptr i o) x')(hu:P.underlying t=some (.struct fs))(hf:fs[f]? = some fd)
  (hs:sz P fd.type=some n) (hn:n≠0) (w:World):∃ v',(Instr.fieldAt t x' f).run P w = .ok v' w/\VR e (.ptr i (o+fd.offset)) v':=by
 obtain⟨o',hi,ho,rfl⟩:=hx.pL
 refine⟨.pointer (some ⟨e.b i,o'+fd.offset,none⟩),?_,.ptr _ _ _ hi (by omega)⟩
 simp[Instr.fieldAt,aH hu,hf,Instr.sureAddr,fieldPlace,gQ hs,hn,add_lit]
theorem akD {t:TypeId}{x ix v:AV}{x' Ic:Value}(hx:VR e x x')(p9:VR e ix Ic)(ha:Da P t x ix=some v)(w:World) :
  ∃ v',(Instr.indexAt t x' Ic).run P w = .ok v' w/\VR e v v':=by
 simp only[Da,acC,aa6] at ha
 obtain⟨d,hd,ha⟩:=ha
 split at ha
 ·rename_i n el i off kk k
  simp only[aa6] at ha
  obtain⟨es,du,ha⟩:=ha
  split at ha
  ·rename_i hk
   simp only[aau,decide_eq_true_eq] at hk
   cases ha
   obtain⟨o,hi,ho,rfl⟩:=hx.pL
   obtain rfl:=p9.fE
   refine⟨.pointer (some ⟨e.b i,o+k.toNat*es,none⟩),?_,.ptr _ _ _ hi (by omega)⟩
   simp[Instr.indexAt,asIntOf,aH hd,Instr.sureAddr,hk.1,hk.2,gQ du,add_lit]
  ·cases ha
 ·rename_i el i off len cap ex es kk k
  simp only[aa6] at ha
  obtain⟨aM,du,ha⟩:=ha
  split at ha
  ·rename_i hk
   simp only[aau,decide_eq_true_eq,beq_iff_eq] at hk
   obtain⟨⟨rfl,tB⟩,fN⟩:=hk
   cases ha
   obtain rfl:=p9.fE
   rcases hx.lj with⟨o,c,hi,ho,hl,hc,iL,hn,rfl⟩ | ⟨rfl,_,_,_⟩
   ·refine⟨.pointer (some ⟨e.b i,o+k.toNat*aM,none⟩),?_,.ptr _ _ _ hi (by omega)⟩
    simp[Instr.indexAt,asIntOf,aH hd,tB,fN,gQ du,add_lit]
   ·omega
  ·cases ha
 ·cases ha
theorem apU {t:TypeId}{x ix v:AV}{x' Ic:Value}(hx:VR e x x')(p9:VR e ix Ic)(ha:Dl P t x ix=some v)(w:World) :
  ∃ v',(Instr.index t x' Ic).run P w = .ok v' w/\VR e v v':=by
 simp only[Dl,acC,aa6] at ha
 obtain⟨d,hd,ha⟩:=ha
 split at ha
 ·rename_i n el cs kk k
  simp only[aa6] at ha
  obtain⟨es,du,ha⟩:=ha
  split at ha
  ·rename_i hk
   simp only[aau,decide_eq_true_eq] at hk
   obtain⟨vs,rfl,hl⟩:=hx.uZ
   obtain rfl:=p9.fE
   obtain⟨v',bQ,hr⟩:=yY hl ha w
   exact⟨v',by simp[Instr.index,asIntOf,aH hd,hk.1,hk.2,gQ du,bQ],hr⟩
  ·cases ha
 ·rename_i s kk k
  split at ha
  ·rename_i hk
   obtain⟨b,rfl,rfl⟩:=hx.lU
   obtain rfl:=p9.fE
   simp only[aaa] at ha
   obtain⟨c,hc,rfl⟩:=ha
   simp only[bytes,adL,aaa] at hc
   obtain⟨u,hu,rfl⟩:=hc
   refine⟨.int .u8 u.toNat,?_,.int _ _⟩
   have hb:b[k.toNat]? = some u:=by
    have h1:k.toNat<b.data.toList.length:=(aah.1 hu).1
    have h2:k.toNat<b.size:=by rw[ahY] at h1;exact h1
    rw[getElem?_pos b k.toNat h2]
    congr 1
    have h3:=(aah.1 hu).2
    rw[<-h3]
    rfl
   simp[Instr.index,asIntOf,aH hd,hk,hb]
  ·cases ha
 ·cases ha
theorem Dw {lo hi:Nat}{v:AV}{v':Value}{n:Nat}(hv:VR e v v')(h:bound lo hi v=some n):∃ k:IntKind,∃ z:Int,v' = .int k z/\lo<=n/\n<=hi/\z=n:=by
 unfold bound at h
 split at h
 ·rename_i k z
  split at h
  ·rename_i hk
   simp only[aau,decide_eq_true_eq] at hk
   cases h
   exact⟨k,z,hv.fE,by omega,by omega,by omega⟩
  ·cases h
 ·cases h
def uS (e:Em):Option AV->Option Value->Prop
 | none,none=>True
 | some a,some b=>VR e a b
 | _,_=>False
theorem xX {z:Int}{k:IntKind}{n y:Nat}{code:BoundsCode}(h:z=n)(hy:n<=y)(w:World):(Instr.sliceBound (.int k z) y code).run P w = .ok n w:=by
 subst h
 simp[Instr.sliceBound,asIntOf,hy]
theorem Ih {qJ:Bool}{len cap sL:Nat}{low high mx:Option AV}{uL zo yz:Option Value}(h1:uS e low uL)(h2:uS e high zo)(h3:uS e mx yz)
  {l h m:Nat} (hb:qP len cap low high mx=some (l,h,m)) (hl:len<=sL) (hc:cap<=sL) (w:World) :
  (Instr.sliceBounds qJ len sL uL zo yz).run P w = .ok (l,h,if mx.isSome then m else sL) w/\l<=h/\(mx=none->m=cap)/\(mx.isSome=true->h<=m/\m<=cap)/\(high=none->h=len)/\(mx=none->high.isSome=true->h<=cap):=by
 simp only[qP,acC,aa6,Option.pure_def,acV,acn] at hb
 obtain⟨m0,hm,h0,hh,l0,pS,rfl,rfl,rfl⟩:=hb
 cases mx with
 | some mv=>
  cases yz with
  | none=>exact h3.elim
  | some mv'=>
   obtain⟨km,zm,rfl,_,o8,Wi⟩:=Dw h3 hm
   cases high with
   | none=>cases hh
   | some hv=>
    cases zo with
    | none=>exact h2.elim
    | some bQ=>
     obtain⟨kh,zh,rfl,_,pC,EL⟩:=Dw h2 hh
     cases low with
     | none=>
      cases uL with
      | some _=>exact h1.elim
      | none=>
       cases pS
       refine⟨?_,by omega,by simp,fun _=>⟨pC,o8⟩,by simp,by simp⟩
       simp[Instr.sliceBounds,xX Wi (show m0<=sL by omega),xX EL pC]
     | some lv=>
      cases uL with
      | none=>exact h1.elim
      | some SF=>
       obtain⟨kl,zl,rfl,_,nN,Bh⟩:=Dw h1 pS
       refine⟨?_,nN,by simp,fun _=>⟨pC,o8⟩,by simp,by simp⟩
       simp[Instr.sliceBounds,xX Wi (show m0<=sL by omega),xX EL pC,xX Bh nN]
 | none=>
  cases yz with
  | some _=>exact h3.elim
  | none=>
   cases hm
   cases high with
   | none=>
    cases zo with
    | some _=>exact h2.elim
    | none=>
     cases hh
     cases low with
     | none=>
      cases uL with
      | some _=>exact h1.elim
      | none=>cases pS;exact⟨by simp[Instr.sliceBounds],by omega,by simp,by simp,by simp,by simp⟩
     | some lv=>
      cases uL with
      | none=>exact h1.elim
      | some SF=>
       obtain⟨kl,zl,rfl,_,nN,Bh⟩:=Dw h1 pS
       exact⟨by simp[Instr.sliceBounds,xX Bh nN],nN,by simp,by simp,by simp,by simp⟩
   | some hv=>
    cases zo with
    | none=>exact h2.elim
    | some bQ=>
     obtain⟨kh,zh,rfl,_,pC,EL⟩:=Dw h2 hh
     cases low with
     | none=>
      cases uL with
      | some _=>exact h1.elim
      | none=>cases pS;exact⟨by simp[Instr.sliceBounds,xX EL (show h0<=sL by omega)],by omega,by simp,by simp,by simp,fun _ _=>pC⟩
     | some lv=>
      cases uL with
      | none=>exact h1.elim
      | some SF=>
       obtain⟨kl,zl,rfl,_,nN,Bh⟩:=Dw h1 pS
       exact⟨by simp[Instr.sliceBounds,xX EL (show h0<=sL by omega),xX Bh nN],nN,by simp,by simp,by simp,fun _ _=>pC⟩
theorem aP.W9 (b:ByteArray)(l h:Nat):((bytes b).drop l).take (h-l)=bytes (b.extract l h):=by
 unfold bytes
 rw[ByteArray.data_extract,Array.toList_extract,List.extract,List.map_take,List.map_drop]
theorem alI (hRH:RH G F W e H w){t:TypeId}{x v:AV}{x':Value}{low high mx:Option AV}{uL zo yz:Option Value}(hx:VR e x x')(h1:uS e low uL)(h2:uS e high zo)(h3:uS e mx yz)
  (ha:qQ P t x low high mx H=some v):∃ v',(Instr.sliceAt t x' uL zo yz).run P w = .ok v' w/\VR e v v':=by
 simp only[qQ,acC,aa6] at ha
 obtain⟨d,hd,ha⟩:=ha
 split at ha
 ·rename_i s
  obtain⟨b,rfl,rfl⟩:=hx.lU
  cases mx with
  | some _=>simp at ha
  | none=>
   cases yz with
   | some _=>exact h3.elim
   | none=>
    simp only[ae6,aby,if_false,aa6,Prod.exists] at ha
    obtain⟨l,h,m,hb,hv⟩:=ha
    simp only[acV] at hv
    subst hv
    have ez:(bytes b).length=b.size:=by unfold bytes;rw[ads,ahY];rfl
    rw[ez] at hb
    obtain⟨hr,J8,hm,_,yr,pC⟩:=Ih (P:=P) (qJ:=false) h1 h2 h3 hb (aaC _) (aaC _) w
    simp only[ae6,aby,if_false] at hr
    refine⟨.string (b.extract l h),by simp[Instr.sliceAt,Instr.slice,aH hd,hr],?_⟩
    rw[aP.W9];exact .str _
 ·rename_i el
  simp only[aa6,Prod.exists] at ha
  obtain⟨l,h,m,hb,hv⟩:=ha
  split at hv
  ·rename_i hs
   simp only[acV] at hv
   subst hv
   obtain⟨es,du⟩:=ahl.1 hs
   cases hx
   obtain⟨hr,J8,hm,o8,yr,pC⟩:=Ih (P:=P) (qJ:=true) h1 h2 h3 hb (aaC _) (aaC _) w
   refine⟨.slice none 0 0,?_,.ah⟩
   have hh:h=0:=by
    cases mx with
    | some _=>have:=o8 rfl;omega
    | none=>
     cases high with
     | none=>exact yr rfl
     | some _=>have:=pC rfl rfl;omega
   have pS:l=0:=by omega
   subst hh;subst pS
   have QK:(if mx.isSome=true then m else 0)=0:=by
    split
    ·rename_i Qf;have:=o8 Qf;omega
    ·rfl
   rw[QK] at hr
   simp[Instr.sliceAt,Instr.slice,aH hd,hr,gQ du]
  ·cases hv
 ·rename_i el i off len cap ex es
  simp only[aa6,Prod.exists] at ha
  obtain⟨l,h,m,hb,aM,du,hv⟩:=ha
  split at hv
  ·rename_i hs
   simp only[beq_iff_eq] at hs
   subst hs
   simp only[acV] at hv
   subst hv
   rcases hx.lj with⟨o,c,hi,ho,hl,hc,iL,hn,rfl⟩ | ⟨rfl,rfl,a,rfl⟩
   ·obtain⟨hr,J8,hm,o8,yr,pC⟩:=Ih (P:=P) (qJ:=true) h1 h2 h3 hb hl hc w
    have Dd:h<=(if mx.isSome=true then m else c)/\m<=(if mx.isSome=true then m else c)/\(if mx.isSome=true then m else c)<=c/\((ex||mx.isSome)=true->(if mx.isSome=true then m else c)=m):=by
     cases mx with
     | some _=>have:=o8 rfl;simp;omega
     | none=>
      have hmc:=hm rfl
      simp only[ae6,aby,if_false,Bool.or_false]
      refine⟨?_,by omega,by omega,fun og=>by rw[iL og,hmc]⟩
      cases high with
      | none=>have:=yr rfl;omega
      | some _=>have:=pC rfl rfl;omega
    generalize (if mx.isSome=true then m else c)=m' at hr Dd
    obtain⟨vb,qt,hq3,Nv⟩:=Dd
    by_cases xA:m'=l
    ·have e1:h-l=0:=by omega
     have e2:m-l=0:=by omega
     refine⟨.slice (some ⟨e.b i,o,none⟩) 0 0,?_,by rw[e1,e2];exact .yK ..⟩
     have e3:h=l:=by omega
     simp[Instr.sliceAt,Instr.slice,aH hd,hr,gQ du,xA,e3]
    ·refine⟨.slice (some ⟨e.b i,o+l*aM,none⟩) (h-l) (m'-l),?_,.slice _ _ _ _ _ _ _ _ hi (by omega) (by omega) (by omega) (fun og=>by rw[Nv og]) ?_⟩
     ·simp[Instr.sliceAt,Instr.slice,aH hd,hr,gQ du,xA,add_lit]
     ·have:o+l*aM+(m'-l)*aM=o+m'*aM:=by
       rw[ahI,<-af9];congr 2;omega
      rw[this]
      have:m'*aM<=c*aM:=aeK _ hq3
      omega
   ·obtain⟨hr,J8,hm,o8,yr,pC⟩:=Ih (P:=P) (qJ:=true) (sL:=0) h1 h2 h3 hb (aaC _) (aaC _) w
    have hh:h=0:=by
     cases mx with
     | some _=>have:=o8 rfl;omega
     | none=>
      cases high with
      | none=>exact yr rfl
      | some _=>have:=pC rfl rfl;omega
    have pS:l=0:=by omega
    have QK:(if mx.isSome=true then m else 0)=0:=by
     split
     ·rename_i Qf;have:=o8 Qf;omega
     ·rfl
    have yU:m=0:=by
     cases mx with
     | some _=>have:=o8 rfl;omega
     | none=>exact hm rfl
    subst hh;subst pS;subst yU
    rw[QK] at hr
    exact⟨.slice (some a) 0 0,by simp[Instr.sliceAt,Instr.slice,aH hd,hr,gQ du],.yK ..⟩
  ·cases hv
 ·rename_i n el i off
  simp only[aa6,Prod.exists] at ha
  obtain⟨l,h,m,hb,es,du,hv⟩:=ha
  split at hv
  ·rename_i hs
   simp only[aau,adE] at hs
   obtain⟨CM,qd⟩:=hs
   obtain⟨u,hu⟩:=ahl.1 qd
   simp only[acV] at hv
   subst hv
   obtain⟨o,hi,ho,rfl⟩:=hx.pL
   obtain⟨hr,J8,hm,o8,yr,pC⟩:=Ih (P:=P) (qJ:=false) h1 h2 h3 hb (aaC _) (aaC _) w
   have aJ:=hRH.MM (o:=o+n*es-1) hu (by omega)
   have Zo:(if mx.isSome=true then m else n)=m/\m<=n/\h<=m:=by
    cases mx with
    | some _=>have:=o8 rfl;simp;omega
    | none=>
     have:=hm rfl
     subst this
     refine⟨by simp,aaC _,?_⟩
     cases high with
     | none=>have:=yr rfl;omega
     | some _=>exact pC rfl rfl
   rw[Zo.1] at hr
   obtain⟨_,vb,qt⟩:=Zo
   by_cases xA:m=l
   ·have e1:h-l=0:=by omega
    have e2:m-l=0:=by omega
    refine⟨.slice (some ⟨e.b i,o,none⟩) 0 0,?_,by rw[e1,e2];exact .yK ..⟩
    have e3:h=l:=by omega
    simp[Instr.sliceAt,aH hd,Instr.sureAddr,hr,gQ du,xA,e3]
   ·refine⟨.slice (some ⟨e.b i,o+l*es,none⟩) (h-l) (m-l),?_,.slice _ _ _ _ _ _ _ _ hi (by omega) (by omega) (by omega) (fun _=>rfl) ?_⟩
    ·simp[Instr.sliceAt,aH hd,Instr.sureAddr,hr,gQ du,xA,add_lit]
    ·have:o+l*es+(m-l)*es=o+m*es:=by
      rw[ahI,<-af9];congr 2;omega
     rw[this]
     have:m*es<=n*es:=aeK _ vb
     omega
  ·cases hv
 ·cases ha
end
end
section
variable {P:Program}{G:Nat}{F:Nat->Prop}{W:World}{e:Em}{H:Hp}{w:World}
theorem vK (b:ByteArray):(bytes b).length=b.size:=by unfold bytes;rw[ads,ahY];rfl
theorem VF:∀ {x y:List UInt8},x.map (·.toNat)=y.map (·.toNat)->x=y
 | [],[],_=>rfl
 | [],_::_,h=>by simp at h
 | _::_,[],h=>by simp at h
 | a::x,b::y,h=>by
  simp only[acW,List.cons.injEq] at h
  rw[UInt8.toNat_inj.1 h.1,VF h.2]
theorem bytes_beq (a b:ByteArray):(bytes a==bytes b)=(a.data.toList==b.data.toList):=by
 unfold bytes
 by_cases h:a.data.toList=b.data.toList
 ·rw[h];simp
 ·have:¬ (a.data.toList.map (·.toNat)=b.data.toList.map (·.toNat)):=fun h2=>h (VF h2)
  rw[beq_eq_false_iff_ne.2 h,beq_eq_false_iff_ne.2 this]
theorem XF:∀ (x y:List UInt8),qf (x.map (·.toNat)) (y.map (·.toNat))=Op.bytesLess x y
 | x,[]=>by cases x<;>simp[qf,Op.bytesLess]
 | [],b::y=>by simp[qf,Op.bytesLess]
 | a::x,b::y=>by
  simp only[acW,qf,Op.bytesLess,XF x y]
  congr 1
  ·by_cases h:a.toNat<b.toNat
   ·have:a<b:=by rw[UInt8.lt_iff_toNat_lt];exact h
    simp[this,h]
   ·have:¬ a<b:=by rw[UInt8.lt_iff_toNat_lt];exact h
    have h2:Nat.blt a.toNat b.toNat=false:=by
     cases hb:Nat.blt a.toNat b.toNat
     ·rfl
     ·rw[adE] at hb;exact absurd hb h
    simp[this,h2]
  ·congr 1
   by_cases h:a=b
   ·subst h;simp
   ·have h2:¬ a.toNat=b.toNat:=fun q=>h (UInt8.toNat_inj.1 q)
    rw[oC h2,beq_eq_false_iff_ne.2 h]
theorem ami (a b:ByteArray):bytes (a++b)=bytes a++bytes b:=by
 unfold bytes;rw[ByteArray.data_append,Array.toList_append,adI]
theorem aaJ (k:IntKind)(a:Int)(h:0<=a):(BitVec.ofInt k.bits a).toNat=a.toNat % 2 ^ k.bits:=by
 rw[ahZ]
 obtain⟨n,rfl⟩:=Int.eq_ofNat_of_zero_le h
 rw[acr]
 have:((n:Int) % ((2 ^ k.bits:Nat):Int))=((n % 2 ^ k.bits:Nat):Int):=by norm_cast
 rw[this,acr]
theorem SL {α:Type}(g:α->Option Bool)(body:α->Option Bool × Unit->Sem (ForInStep (Option Bool × Unit)))(w:World)
  (hb:∀ a b,g a=some b->(body a (none,())).run P w = .ok (if b then .yield (none,()) else .done (some false,())) w) :
  ∀ (l:List α) (b:Bool),sH g l=some b->(forIn l (none,()) body).run P w = .ok (if b then (none,()) else (some false,())) w:=by
 intro l
 induction l with
 | nil=>intro b h;simp only[sH,acV] at h;subst h;simp
 | cons a r ih=>
  intro b h
  unfold sH at h
  split at h
  ·rename_i hg
   rw[List.forIn_cons,Sem.run_bind,hb a true hg]
   exact ih b h
  ·rename_i hg
   cases h
   rw[List.forIn_cons,Sem.run_bind,hb a false hg]
   simp
  ·cases h
theorem TW (p q:ByteArray):(p==q)=(bytes p==bytes q):=by
 rw[bytes_beq]
 have h0:(p==q)=(p.data==q.data):=by cases p;cases q;rfl
 rw[h0]
 by_cases e:p.data=q.data
 ·rw[e];simp
 ·have:¬ p.data.toList=q.data.toList:=fun h2=>e (adB.1 h2)
  rw[beq_eq_false_iff_ne.2 e,beq_eq_false_iff_ne.2 this]
theorem Ym (h:RH G F W e H w){i:Nat}(hc:clean H i=true):∃ C el,i<e.N/\w.heap[e.b i]? = some (.cells C el (0,0))/\(∃ o,H.h.get i=some o/\wr o=true):=by
 unfold clean at hc
 split at hc
 ·rename_i c lo hi el hg
  obtain⟨hN,ob,dV,dO,_⟩:=h.obj i _ hg
  cases dO with
  | cells _ _ _ _ _ C fz hn ic h0 h1 hd=>
   have:=h0 rfl
   subst this
   exact⟨C,el,hN,dV,_,hg,rfl⟩
 ·cases hc
theorem Gq (h:RH G F W e H w):∀ (d D:Nat),d<=D->∀ (t:TypeId) (x y:AV) (x' y':Value) (b:Bool),VR e x x'->VR e y y'->dH P d t x y H=some b->
  (Op.equalIn D t x' y').run P w = .ok b w:=by
 intro d
 induction d with
 | zero=>intro D _ t x y x' y' b _ _ hb;cases hb
 | succ d ih=>
  intro D hD t x y x' y' b hx hy hb
  obtain⟨D,rfl⟩:∃ k,D=k+1:=⟨D-1,by omega⟩
  unfold dH at hb
  split at hb
  ·cases hb
  rename_i u hu
  split at hb
  ·cases hx.sw;cases hy.sw;cases hb;simp[Op.equalIn,aH hu]
  ·cases hx.fE;cases hy.fE
   split at hb
   ·rename_i hk;cases hb;simp[Op.equalIn,aH hu,hk]
   ·cases hb
  ·obtain⟨p,rfl,rfl⟩:=hx.lU
   obtain⟨q,rfl,rfl⟩:=hy.lU
   cases hb
   have:=TW p q
   simp[Op.equalIn,aH hu,this]
  ·cases hx;cases hy;cases hb;simp[Op.equalIn,aH hu]
  ·cases hx;cases hy;cases hb;simp[Op.equalIn,aH hu]
  ·cases hx;cases hy;cases hb;simp[Op.equalIn,aH hu]
  ·rename_i el i a j c
   split at hb
   ·rename_i n hn
    obtain⟨o,hi,ho,rfl⟩:=hx.pL
    obtain⟨o2,hj,nE,rfl⟩:=hy.pL
    cases nM:Nat.beq i j with
    | true=>
     have:i=j:=abp nM
     subst this
     rw[nM] at hb
     cases hb
     have:(Nat.beq a c)=(o==o2):=by
      by_cases q:a=c
      ·subst q
       have:o=o2:=by omega
       subst this;simp
      ·rw[oC q,beq_eq_false_iff_ne.2 (by omega)]
     simp[Op.equalIn,aH hu,gQ hn,sameAddr,this]
     by_cases q:o=o2
     ·subst q;simp
     ·rw[beq_eq_false_iff_ne.2 q,beq_eq_false_iff_ne.2 (by simp;exact q)]
    | false=>
     rw[nM] at hb
     cases lq:(clean H i&&clean H j) with
     | false=>rw[lq] at hb;cases hb
     | true=>
      rw[lq] at hb
      cases hb
      rw[aau] at lq
      obtain⟨C1,l1,_,g1,o1,q1,u1⟩:=Ym h lq.1
      obtain⟨C2,l2,_,g2,o3,q2,u2⟩:=Ym h lq.2
      have aO:¬ e.b i=e.b j:=fun q=>by
       have:=h.inj i j _ _ q1 q2 (.inl u1) q
       subst this
       simp at nM
      have f1:∀ k,w.frozen? ⟨e.b i,k,none⟩=false:=fun k=>by simp[World.frozen?,g1]
      have f2:∀ k,w.frozen? ⟨e.b j,k,none⟩=false:=fun k=>by simp[World.frozen?,g2]
      have s1:w.shape? (e.b i)=some (l1,C1.size):=by simp[World.shape?,g1]
      have s2:w.shape? (e.b j)=some (l2,C2.size):=by simp[World.shape?,g2]
      simp[Op.equalIn,aH hu,gQ hn,sameAddr,aO,f1,f2,noView,viewAt,s1,s2,mayBeOne,stringish]
   ·cases hb
  ·cases hx;cases hy;cases hb;simp[Op.equalIn,aH hu]
  ·cases hx;cases hy;cases hb;simp[Op.equalIn,aH hu]
  ·cases hx;cases hy;cases hb;simp[Op.equalIn,aH hu]
  ·rename_i t1 v1 t2 v2
   cases hx with
   | iface _ _ v1' lP=>
   cases hy with
   | iface _ _ BX vS=>
   split at hb
   ·rename_i ht
    subst ht
    split at hb
    ·rename_i inf iN
     cases P2:inf.comparable with
     | false=>rw[P2] at hb;cases hb
     | true=>
      rw[P2] at hb
      have:=ih D (by omega) t1 v1 v2 v1' BX b lP vS hb
      simp[Op.equalIn,aH hu,pE iN,P2,this]
    ·cases hb
   ·rename_i ht
    cases hb
    simp[Op.equalIn,aH hu,ht]
  ·rename_i fs xs ys
   cases aC:P.stoodInHeld t with
   | true=>rw[aC] at hb;cases hb
   | false=>
    rw[aC] at hb
    simp only[cond_false] at hb
    obtain⟨vx,rfl,eS⟩:=hx.uZ
    obtain⟨vy,rfl,Nb⟩:=hy.uZ
    have key := SL (P := P) (g := fun f : Field => if f.name = "_" then some true else
     match mr P f.type xs f.offset,mr P f.type ys f.offset with
     | some a,some b=>dH P d f.type a b H
     | _,_=>none) (body:=fun f Mg=>
      if f.name = "_" then Pure.pure (ForInStep.yield (none, ()))
      else do
       let zC <-part f.type vx f.offset
       let NX <-part f.type vy f.offset
       let zC <-Op.equalIn D f.type zC NX
       if zC=false then Pure.pure (ForInStep.done (some false,())) else Pure.pure (ForInStep.yield (none,()))) w (by
      intro f b hg
      by_cases hn : f.name = "_"
      ·rw[if_pos hn] at hg;cases hg;simp[hn]
      ·rw[if_neg hn] at hg
       split at hg
       ·rename_i a1 a2 h1 h2
        obtain⟨u1,wh,iB⟩:=yY eS h1 w
        obtain⟨u2,qV,oy⟩:=yY Nb h2 w
        have:=ih D (by omega) f.type a1 a2 u1 u2 b iB oy hg
        cases b<;>simp[hn,wh,qV,this]
       ·cases hg) fs.toList b hb
    simp only[Op.equalIn,Sem.run_bind,aH hu,Result.andThen_ok,run_program,aC]
    simp only[Array.forIn_toList] at key
    simp[key]
    cases b<;>simp
  ·rename_i n el xs ys
   split at hb
   ·rename_i s hs
    obtain⟨vx,rfl,eS⟩:=hx.uZ
    obtain⟨vy,rfl,Nb⟩:=hy.uZ
    have key:=SL (P:=P) (g:=fun i:Nat=>
     match mr P el xs (i*s),mr P el ys (i*s) with
     | some a,some b=>dH P d el a b H
     | _,_=>none) (body:=fun i Mg=>do
       let zC <-part el vx (i*s)
       let NX <-part el vy (i*s)
       let zC <-Op.equalIn D el zC NX
       if zC=false then Pure.pure (ForInStep.done (some false,())) else Pure.pure (ForInStep.yield (none,()))) w (by
      intro f b hg
      split at hg
      ·rename_i a1 a2 h1 h2
       obtain⟨u1,wh,iB⟩:=yY eS h1 w
       obtain⟨u2,qV,oy⟩:=yY Nb h2 w
       have:=ih D (by omega) el a1 a2 u1 u2 b iB oy hg
       cases b<;>simp[wh,qV,this]
      ·cases hg) (List.range' 0 n) b hb
    simp[Op.equalIn,aH hu,gQ hs]
    simp[key]
    cases b<;>simp
   ·cases hb
  ·cases hx;cases hy;cases hb;simp[Op.equalIn,aH hu]
  ·cases hx;cases hb
   rcases hy.lj with⟨o,c,hi,ho,hl,hc,iL,hn,rfl⟩ | ⟨rfl,rfl,a,rfl⟩<;>simp[Op.equalIn,aH hu]
  ·cases hy;cases hb
   rcases hx.lj with⟨o,c,hi,ho,hl,hc,iL,hn,rfl⟩ | ⟨rfl,rfl,a,rfl⟩<;>simp[Op.equalIn,aH hu]
  ·cases hx;cases hy;cases hb;simp[Op.equalIn,aH hu]
  ·cases hx;cases hy;cases hb;simp[Op.equalIn,aH hu]
  ·cases hx;cases hy;cases hb;simp[Op.equalIn,aH hu]
  ·cases hx;cases hy;cases hb;simp[Op.equalIn,aH hu]
  ·cases hx;cases hy;cases hb;simp[Op.equalIn,aH hu]
  ·cases hx;cases hy;cases hb;simp[Op.equalIn,aH hu]
  ·cases hb
end
end
section
variable {P:Program}{G:Nat}{F:Nat->Prop}{W:World}{e:Em}{H:Hp}{w:World}
theorem afk (k:IntKind)(a b:Int):((BitVec.ofInt k.bits a) &&& (BitVec.ofInt k.bits b)).toNat=nK k a &&& nK k b:=by
 rw[BitVec.toNat_and,ahZ,ahZ];rfl
theorem aoY (k:IntKind)(a b:Int):((BitVec.ofInt k.bits a) ||| (BitVec.ofInt k.bits b)).toNat=nK k a ||| nK k b:=by
 rw[BitVec.toNat_or,ahZ,ahZ];rfl
theorem anq (k:IntKind)(a b:Int):((BitVec.ofInt k.bits a) ^^^ (BitVec.ofInt k.bits b)).toNat=nK k a ^^^ nK k b:=by
 rw[BitVec.toNat_xor,ahZ,ahZ];rfl
theorem acJ (k:IntKind)(a b:Int)(ha:0<=a)(hb:0<=b):((BitVec.ofInt k.bits a) ^^^ (BitVec.ofInt k.bits b)).toNat=(a.toNat % 2 ^ k.bits) ^^^ (b.toNat % 2 ^ k.bits):=by
 rw[BitVec.toNat_xor,aaJ k a ha,aaJ k b hb]
theorem Io (a b:ByteArray):(a.toList==b.toList)=(bytes a==bytes b):=by
 rw[ByteArray.toList_eq,ByteArray.toList_eq,bytes_beq]
theorem Kl (a b:ByteArray):Op.bytesLess a.toList b.toList=qf (bytes a) (bytes b):=by
 rw[ByteArray.toList_eq,ByteArray.toList_eq];exact (XF _ _).symm
theorem Iy {d:Nat}{t:TypeId}{x y:AV}{b:Bool}(hb:dH P d t x y H=some b):x ≠ .cP/\y ≠ .cP:=by
 constructor
 ·rintro rfl
  cases d with
  | zero=>cases hb
  | succ d=>
   unfold dH at hb
   split at hb
   ·cases hb
   ·split at hb<;>first | (simp at *;done) | (simp_all;done) | cases hb
 ·rintro rfl
  cases d with
  | zero=>cases hb
  | succ d=>
   unfold dH at hb
   split at hb
   ·cases hb
   ·split at hb<;>first | (simp at *;done) | (simp_all;done) | cases hb
theorem VR.V7 {x:AV}{x':Value}(h:VR e x x')(hj:x ≠ .cP):(∀ k a,x' ≠ .float k a)/\(∀ k a b,x' ≠ .complex k a b):=by
 cases h<;>first | (exact absurd rfl hj) | (constructor<;>(intros;simp))
theorem aiF {t:TypeId}{x y:Value}(h1:∀ k a k' b,x = .int k a->y = .int k' b->False)(h2:∀ a b,x = .string a->y = .string b->False)
  (h3:∀ k a,x ≠ .float k a) (h4:∀ k a b,x ≠ .complex k a b):binOp .eql t x y=(do Pure.pure (.bool (<-Op.equal t x y))):=by
 cases x<;>cases y<;>first | rfl | (exact absurd rfl (h3 _ _)) | (exact absurd rfl (h4 _ _ _)) | (exact (h1 _ _ _ _ rfl rfl).elim) | (exact (h2 _ _ rfl rfl).elim)
theorem acM {t:TypeId}{x y:Value}(h1:∀ k a k' b,x = .int k a->y = .int k' b->False)(h2:∀ a b,x = .string a->y = .string b->False)
  (h3:∀ k a,x ≠ .float k a) (h4:∀ k a b,x ≠ .complex k a b):binOp .neq t x y=(do Pure.pure (.bool (!(<-Op.equal t x y)))):=by
 cases x<;>cases y<;>first | rfl | (exact absurd rfl (h3 _ _)) | (exact absurd rfl (h4 _ _ _)) | (exact (h1 _ _ _ _ rfl rfl).elim) | (exact (h2 _ _ rfl rfl).elim)
theorem VR.Iv {x:AV}{k:IntKind}{n:Int}(h:VR e x (.int k n))(hj:x ≠ .cP):x = .int k n:=by cases h<;>first | rfl | exact absurd rfl hj
theorem VR.KS {x:AV}{s:ByteArray}(h:VR e x (.string s))(hj:x ≠ .cP):x = .str (bytes s):=by cases h<;>first | rfl | exact absurd rfl hj
theorem acj (h:RH G F W e H w){op:BinOp}{t:TypeId}{x y v:AV}{x' y':Value}(hx:VR e x x')(hy:VR e y y')(hb:eG P op t x y H=some v) :
  ∃ v',(binOp op t x' y').run P w = .ok v' w/\VR e v v':=by
 unfold eG at hb
 split at hb
 ·cases hx.fE;cases hy.fE
  split at hb
  ·cases hb
  ·rename_i hn;cases hb
   exact⟨_,by simp[binOp,Op.shift,hn],.int _ _⟩
 ·cases hx.fE;cases hy.fE
  split at hb
  ·cases hb
  ·rename_i hn;cases hb
   exact⟨_,by simp[binOp,Op.shift,hn],.int _ _⟩
 ·cases hx.fE;cases hy.fE
  split at hb
  ·rename_i k a k' b n1 n2 hk
   subst hk
   split at hb
   ·cases hb;exact⟨_,by simp[binOp,Op.intArith],.int _ _⟩
   ·cases hb;exact⟨_,by simp[binOp,Op.intArith],.int _ _⟩
   ·cases hb;exact⟨_,by simp[binOp,Op.intArith],.int _ _⟩
   ·split at hb
    ·cases hb
    ·rename_i hz;cases hb;exact⟨_,by simp[binOp,Op.intDiv,hz],.int _ _⟩
   ·split at hb
    ·cases hb
    ·rename_i hz;cases hb;exact⟨_,by simp[binOp,Op.intDiv,hz],.int _ _⟩
   ·cases hb
    rw[<-afk k a b]
    exact⟨_,by simp only[binOp,Op.intBits,ne_eq,not_true_eq_false,if_false];rfl,.int _ _⟩
   ·cases hb
    rw[<-aoY k a b]
    exact⟨_,by simp only[binOp,Op.intBits,ne_eq,not_true_eq_false,if_false];rfl,.int _ _⟩
   ·cases hb
    rw[<-anq k a b]
    exact⟨_,by simp only[binOp,Op.intBits,ne_eq,not_true_eq_false,if_false];rfl,.int _ _⟩
   ·cases hb
   ·cases hb;exact⟨_,by simp[binOp,Op.intCmp],.bool _⟩
   ·cases hb;exact⟨_,by simp[binOp,Op.intCmp],.bool _⟩
   ·cases hb;exact⟨_,by simp[binOp,Op.intCmp],.bool _⟩
   ·cases hb;exact⟨_,by simp[binOp,Op.intCmp],.bool _⟩
   ·cases hb;exact⟨_,by simp[binOp,Op.intCmp],.bool _⟩
   ·cases hb;exact⟨_,by simp[binOp,Op.intCmp],.bool _⟩
   ·cases hb
  ·cases hb
 ·obtain⟨p,rfl,rfl⟩:=hx.lU
  obtain⟨q,rfl,rfl⟩:=hy.lU
  split at hb
  ·cases hle:Nat.ble ((bytes p).length+(bytes q).length) 4294967296 with
   | false=>rw[hle] at hb;cases hb
   | true=>
    rw[hle] at hb
    cases hb
    rw[aer,vK,vK] at hle
    have:¬ ((p.size+q.size:Nat):Int)>9223372036854775807:=by omega
    rw[<-ami]
    refine⟨.string (p++q),?_,.str _⟩
    simp only[binOp,Op.stringOp,IntKind.max_i64,if_neg this];rfl
  ·cases hb;exact⟨_,by simp[binOp,Op.stringOp,Io],.bool _⟩
  ·cases hb;exact⟨_,by simp[binOp,Op.stringOp,Io],.bool _⟩
  ·cases hb;exact⟨_,by simp[binOp,Op.stringOp,Kl],.bool _⟩
  ·cases hb;exact⟨_,by simp[binOp,Op.stringOp,Kl,Io],.bool _⟩
  ·cases hb;exact⟨_,by simp[binOp,Op.stringOp,Kl,Io],.bool _⟩
  ·cases hb;exact⟨_,by simp[binOp,Op.stringOp,Kl],.bool _⟩
  ·cases hb
 ·rename_i n1 n2
  simp only[aaa] at hb
  obtain⟨b,hb,rfl⟩:=hb
  have:=Gq h 50 Op.maxDepth (by decide) t x y x' y' b hx hy hb
  refine⟨.bool b,?_,.bool _⟩
  obtain⟨j1,j2⟩:=Iy hb
  obtain⟨f1,f2⟩:=hx.V7 j1
  rw[aiF (fun k a k' b p q=>n1 k a k' b (by rw[p] at hx;exact hx.Iv j1) (by rw[q] at hy;exact hy.Iv j2))
   (fun a b p q=>n2 _ _ (by rw[p] at hx;exact hx.KS j1) (by rw[q] at hy;exact hy.KS j2)) f1 f2]
  simp only[Op.equal,Sem.run_bind,this];rfl
 ·rename_i n1 n2
  simp only[aaa] at hb
  obtain⟨b,hb,rfl⟩:=hb
  have:=Gq h 50 Op.maxDepth (by decide) t x y x' y' b hx hy hb
  refine⟨.bool !b,?_,.bool _⟩
  obtain⟨j1,j2⟩:=Iy hb
  obtain⟨f1,f2⟩:=hx.V7 j1
  rw[acM (fun k a k' b p q=>n1 k a k' b (by rw[p] at hx;exact hx.Iv j1) (by rw[q] at hy;exact hy.Iv j2))
   (fun a b p q=>n2 _ _ (by rw[p] at hx;exact hx.KS j1) (by rw[q] at hy;exact hy.KS j2)) f1 f2]
  simp only[Op.equal,Sem.run_bind,this];rfl
 ·cases hb
theorem aoW {op:BinOp}{t:TypeId}{X Y:Operand}{x y v:AV}{x' y':Value}(hx:VR e x x')(hy:VR e y y')(hg:rP P op t X Y x y=true)(hb:eG P op t x y H=some v) :
  (eqGuard op t X Y x' y').run P w = .ok () w:=by
 by_cases ho:op = .eql\/op = .neq
 ·have Lm:x ≠ .cP/\y ≠ .cP:=by
   constructor
   ·rintro rfl
    rcases ho with rfl | rfl<;>(unfold eG at hb;simp only[aaa] at hb;obtain⟨b,hb,_⟩:=hb;exact (Iy hb).1 rfl)
   ·rintro rfl
    rcases ho with rfl | rfl<;>(unfold eG at hb;cases x<;>simp only[aaa] at hb<;>(obtain⟨b,hb,_⟩:=hb;exact (Iy hb).2 rfl))
  cases hx<;>cases hy<;>first
   | (exact absurd rfl Lm.1) | (exact absurd rfl Lm.2)
   | (rcases ho with rfl | rfl<;>rfl)
   | skip
  ·have zA:uq X=true\/uq Y=true:=by
    rcases ho with rfl | rfl<;>(simp only[rP,agK] at hg;exact hg)
   rcases ho with rfl | rfl<;>(rcases zA with hc | hc<;>(cases X<;>cases Y<;>first | (simp[uq] at hc;done) | rfl))
  ·have zA:P.eqGuardType P.depth t=false:=by
    rcases ho with rfl | rfl<;>(simp only[rP,aix] at hg;exact hg)
   rcases ho with rfl | rfl<;>simp[eqGuard,zA]
 ·have:(op matches .eql | .neq)=false:=by
   cases op<;>first | rfl | (exact absurd (by simp) ho)
  cases op<;>first | rfl | (exact absurd (by simp) ho)
end
end
section
variable {P:Program}{G:Nat}{F:Nat->Prop}{W:World}{e:Em}{H:Hp}{w:World}
theorem ahE {op:UnOp}{x v:AV}{x':Value}(hx:VR e x x')(hb:fX op x=some v)(w:World):∃ v',(Op.unary op x').run P w = .ok v' w/\VR e v v':=by
 unfold fX at hb
 split at hb
 ·cases hx.fE;cases hb;exact⟨_,by simp[Op.unary,Op.intArith],.int _ _⟩
 ·cases hx.sw;cases hb;exact⟨_,by simp[Op.unary],.bool _⟩
 ·rename_i k n
  cases hx.fE
  split at hb
  ·cases hb
  ·rename_i hs
   split at hb
   ·rename_i hn
    cases hb
    have hm:0<=k.max:=by cases k<;>simp[IntKind.max,IntKind.signed,IntKind.bits] at hs ⊢
    rw[<-acJ k k.max n hm hn]
    refine⟨_,?_,.int _ _⟩
    simp only[Op.unary,Op.intBits,if_neg hs];rfl
   ·cases hb
 ·cases hb
theorem Zz:∀ (v:List Value) (off j:Nat) (cs:Array Value),off+j+v.length<=cs.size->
  ((v.zipIdx j).foldl (fun cs (x:Value × Nat)=>cs.setIfInBounds (off+x.2) x.1) cs).size=cs.size/\
  ∀ m,((v.zipIdx j).foldl (fun cs (x:Value × Nat)=>cs.setIfInBounds (off+x.2) x.1) cs)[m]? = if off+j<=m/\m<off+j+v.length then v[m-(off+j)]? else cs[m]?
 | [],off,j,cs,h=>by
  refine⟨by simp,fun m => ?_⟩
  rw[if_neg (by rw[acG];omega)];simp
 | x::v,off,j,cs,h=>by
  simp only[aaL] at h
  rw[List.zipIdx_cons,List.foldl_cons]
  obtain⟨h1,h2⟩:=Zz v off (j+1) (cs.setIfInBounds (off+j) x) (by simp;omega)
  refine⟨by rw[h1];simp,fun m => ?_⟩
  rw[h2]
  simp only[aaL]
  by_cases hm:m=off+j
  ·subst hm
   rw[if_neg (by omega),if_pos (by omega)]
   rw[afY (by omega)]
   simp
  ·by_cases hr:off+(j+1)<=m/\m<off+(j+1)+v.length
   ·rw[if_pos hr,if_pos (by omega)]
    have:m-(off+j)=(m-(off+(j+1)))+1:=by omega
    rw[this,ac1]
   ·rw[if_neg hr,if_neg (by omega),aex (by omega)]
theorem aP.apQ {a c:List AV}{x:Array Value}{y:List Value}{off:Nat}(ha:aP e a x.toList)(hc:aP e c y)(h:off+c.length<=a.length) :
  aP e (a.take off++c++a.drop (off+c.length)) ((y.zipIdx).foldl (fun cs (x:Value × Nat)=>cs.setIfInBounds (off+x.2) x.1) x).toList:=by
 have hx:x.size=a.length:=by have:=ha.1;simpa using this
 obtain⟨h1,h2⟩:=Zz y off 0 x (by rw[hc.1,hx];omega)
 refine⟨by simp[h1,hx];omega,fun i v v' hv bQ => ?_⟩
 rw[adS,h2] at bQ
 simp only[aej] at bQ
 rw[hc.1] at bQ
 by_cases hi:i<off
 ·rw[if_neg (by omega)] at bQ
  rw[aeR,abO (by simp;omega),ag7,if_pos hi] at hv
  exact ha.2 i v v' hv (by rw[adS];exact bQ)
 ·by_cases oB:i<off+c.length
  ·rw[if_pos (by omega)] at bQ
   rw[abO (by simp;omega),abT (by simp;omega)] at hv
   have:i-(a.take off).length=i-off:=by simp;omega
   rw[this] at hv
   exact hc.2 _ v v' hv bQ
  ·rw[if_neg (by omega)] at bQ
   rw[abT (by simp;omega),afL] at hv
   have:off+c.length+(i-(a.take off++c).length)=i:=by simp;omega
   rw[this] at hv
   exact ha.2 i v v' hv (by rw[adS];exact bQ)
def tZ (e:Em)(l:List (Nat × AV))(l':List (Nat × Value)):Prop:=l'.map (·.1)=l.map (·.1)/\aP e (l.map (·.2)) (l'.map (·.2))
theorem K9 {pl Dt:Nat->Option (Nat × Nat)}(mz:∀ i x,pl i=some x->Dt i=some x):∀ (ps:List (Nat × AV)) (oc:List (Nat × Value)) (cells out:List AV) (zI:Array Value),
  tZ e ps oc->aP e cells zI.toList->tf pl cells ps=some out->∃ kC,Instr.fill Dt zI oc=some kC/\aP e out kC.toList:=by
 intro ps
 induction ps with
 | nil=>
  intro oc cells out zI hp hc hf
  cases hf
  obtain rfl:oc=[]:=by have:=hp.1;simpa using this
  exact⟨zI,rfl,hc⟩
 | cons p ps ih=>
  intro oc cells out zI hp hc hf
  obtain⟨i,v⟩:=p
  cases oc with
  | nil=>have:=hp.1;simp at this
  | cons q oc=>
   obtain⟨i',v'⟩:=q
   obtain⟨h1,h2⟩:=hp
   simp only[acW,List.cons.injEq] at h1
   obtain⟨rfl,h1⟩:=h1
   obtain⟨u,us,hu,hv,rF⟩:=aP.cons_inv (by simpa using h2:aP e (v::ps.map (·.2)) (v'::oc.map (·.2)))
   simp only[List.cons.injEq] at hu
   obtain⟨rfl,rfl⟩:=hu
   unfold tf at hf
   split at hf
   ·cases hf
   ·rename_i off size rK
    split at hf
    ·cases hf
    ·rename_i cs fu
     split at hf
     ·rename_i rI
      have hl:=hv.cells fu
      have ez:v'.cells.size=size:=by have:=hl.1;simp at this;omega
      have aq2:zI.size=cells.length:=by have:=hc.1;simpa using this
      have mh:=hc.apQ hl (off:=off) (by omega)
      rw[rI.1] at mh
      obtain⟨kC,ho,hr⟩:=ih oc _ out _ ⟨h1,rF⟩ mh hf
      refine⟨kC,?_,hr⟩
      unfold Instr.fill
      rw[mz _ _ rK]
      have c1:(decide (v'.cells.size≠size)||decide (off+v'.cells.size>zI.size))=false:=by simp;omega
      simp only[c1,aby,if_false]
      rw[<-ho]
      congr 1
      rw[<-Array.foldl_toList,Array.toList_zipIdx]
     ·cases hf
theorem tZ.map {ρ:Operand->AV}{σ:Operand->Value}(h:∀ x,VR e (ρ x) (σ x))(l:List (Nat × Operand)):tZ e (l.map fun (i,x)=>(i,ρ x)) (l.map fun (i,x)=>(i,σ x)):=by
 refine⟨by simp[Function.comp_def],?_⟩
 have:=aP.map h (l.map (·.2))
 simpa[Function.comp_def] using this
theorem ab5 {α β:Type}{f:α->Option β}{g:α->Sem β}{w:World}(h:∀ a b,f a=some b->(g a).run P w = .ok b w):∀ (l:List α) (r:List β),ri f l=some r->(l.mapM g).run P w = .ok r w
 | [],r,hr=>by cases hr;simp
 | a::l,r,hr=>by
  unfold ri at hr
  split at hr
  ·rename_i b hb
   split at hr
   ·rename_i r' eu
    cases hr
    simp[h a b hb,ab5 h l r' eu]
   ·cases hr
  ·cases hr
theorem aeh {t:TypeId}{fs:Array Field}{z out:List AV}{pl:List (Nat × Nat)}{parts:List (Nat × AV)}{AJ:Array (Nat × Value)}(hz:zc P t=some z)(hu:P.underlying t=some (.struct fs))
  (mz:Qy P fs=some pl) (hp:tZ e parts AJ.toList) (hf:tf (pl[·]?) z parts=some out) (w:World):∃ v',(Instr.build t AJ).run P w = .ok v' w/\VR e (.agg out) v':=by
 obtain⟨i,z0,hi,ft,hl⟩:=wK (e:=e) hz
 have hm:(fs.mapM (fun f=>do Pure.pure (f.offset,<-sizeOf f.type)):Sem (Array (Nat × Nat))).run P w = .ok pl.toArray w:=by
  rw[<-Array.toArray_toList (xs:=fs),List.mapM_toArray]
  have:=ab5 (P:=P) (w:=w) (g:=fun f:Field=>(do Pure.pure (f.offset,<-sizeOf f.type):Sem (Nat × Nat))) (f:=fun f:Field=>(sz P f.type).map fun n=>(f.offset,n)) (by
   intro a b hb
   simp only[aaa] at hb
   obtain⟨n,hn,rfl⟩:=hb
   simp[gQ hn]) fs.toList pl mz
  rw[Sem.run_map,this];rfl
 obtain⟨kC,ho,hr⟩:=K9 (e:=e) (Dt:=(pl.toArray[·]?)) (fun i x hx=>by simpa using hx) parts AJ.toList z out z0.cells hp hl hf
 refine⟨.agg kC,?_,.agg _ _ hr.1 hr.2⟩
 simp only[Instr.build,Sem.run_bind,qU hi ft,Result.andThen_ok,aH hu,hm,ho]
 rfl
theorem ak8 {t el s n:Nat}{z out:List AV}{parts:List (Nat × AV)}{AJ:Array (Nat × Value)}(hz:zc P t=some z)(hu:P.underlying t=some (.array n el))
  (hs:sz P el=some s) (hp:tZ e parts AJ.toList) (hf:tf (fun i=>some (i*s,s)) z parts=some out) (w:World):∃ v',(Instr.build t AJ).run P w = .ok v' w/\VR e (.agg out) v':=by
 obtain⟨i,z0,hi,ft,hl⟩:=wK (e:=e) hz
 obtain⟨kC,ho,hr⟩:=K9 (e:=e) (Dt:=fun i=>some (i*s,s)) (fun i x hx=>hx) parts AJ.toList z out z0.cells hp hl hf
 refine⟨.agg kC,?_,.agg _ _ hr.1 hr.2⟩
 simp only[Instr.build,Sem.run_bind,qU hi ft,Result.andThen_ok,aH hu,gQ hs,ho]
 rfl
theorem UZ {α:Type}(z:List α):∀ (n i:Nat),i<n*z.length->(List.replicate n z).flatten[i]? = z[i % z.length]?
 | 0,i,h=>by simp at h
 | n+1,i,h=>by
  rw[List.replicate_succ,List.flatten_cons]
  by_cases hi:i<z.length
  ·rw[abO hi,aiY hi]
  ·rw[abT (by omega),UZ z n _ (by rw[Nat.succ_mul] at h;omega)]
   congr 1
   have:i=(i-z.length)+z.length:=by omega
   rw[this,Nat.add_mod_right]
   congr 1
   omega
theorem Ye (z:Array Value)(n:Nat):((Array.range (n*z.size)).map (z[· % z.size]!)).toList=(List.replicate n z.toList).flatten:=by
 apply ahF
 intro i
 by_cases hi:i<n*z.size
 ·rw[UZ z.toList n i (by simpa using hi)]
  have hz:0<z.size:=by
   rcases Nat.eq_zero_or_pos z.size with h | h
   ·rw[h] at hi;simp at hi
   ·exact h
  have aJ:i % z.size<z.size:=Nat.mod_lt _ hz
  simp[adS,hi,aJ]
 ·rw[af1 (by simp;omega),af1 (by simp;omega)]
theorem aP.rep {z:List AV}{z':List Value}(h:aP e z z'):∀ n,aP e (rep n z) (List.replicate n z').flatten
 | 0=>by simpa[Am.rep] using aP.nil e
 | n+1=>by
  have:=h.append (aP.rep h n)
  simpa[Am.rep,List.replicate_succ] using this
end
end
section
variable {P:Program}{G:Nat}{F:Nat->Prop}{W:World}{e:Em}{H:Hp}{w:World}
theorem Oo:∀ {l:List AV} {bs:List Nat} {cs:List Value},uy l=some bs->aP e l cs->∃ us:List UInt8,bs=us.map (·.toNat)/\cs=us.map (fun b=>Value.int .u8 b.toNat)
 | [],bs,cs,h,hl=>by
  cases h
  rw[hl.jE]
  exact⟨[],rfl,rfl⟩
 | a::l,bs,cs,h,hl=>by
  unfold uy at h
  split at h
  ·rename_i h0;cases h0
  ·rename_i n r h0
   cases h0
   obtain⟨v',ws,rfl,hv,rq⟩:=hl.cons_inv
   cases hv.fE
   split at h
   ·rename_i hn
    simp only[aau,decide_eq_true_eq] at hn
    simp only[acC,Option.pure_def,aa6,acV] at h
    obtain⟨WK,h1,rfl⟩:=h
    obtain⟨us,rfl,rfl⟩:=Oo h1 rq
    have hu:(UInt8.ofNat n.toNat).toNat=n.toNat:=by
     rw[UInt8.toNat_ofNat'];exact aiY (by omega)
    refine⟨UInt8.ofNat n.toNat::us,by simp only[acW,hu],?_⟩
    have:((UInt8.ofNat n.toNat).toNat:Int)=n:=by rw[hu];omega
    simp only[acW,this]
   ·cases h
  ·cases h
theorem akW (us:List UInt8):bytes ⟨us.toArray⟩=us.map (·.toNat):=rfl
theorem abi:∀ (us:List UInt8) (s:ByteArray),(us.map fun b=>(b.toNat:Int)).foldl (fun r n=>r.push (UInt8.ofNat n.toNat)) s=⟨s.data++us.toArray⟩
 | [],s=>by simp
 | u::us,s=>by
  simp only[acW,List.foldl_cons,abi us]
  congr 1
  simp[ByteArray.push]
theorem MU {a:Addr}{us:List UInt8}{cap:Nat}(w:World)(h:∀ j v,(us.map (fun b=>Value.int .u8 b.toNat))[j]? = some v->w.cell? (a.add j)=some v) :
  (Conv.bytesToString (.slice (some a) us.length cap)).run P w = .ok (.string ⟨us.toArray⟩) w:=by
 have h1:=run_loadCells_list (P:=P) w a (us.map (fun b=>Value.int .u8 b.toNat)) h
 rw[ads] at h1
 have h2:=run_bytesToString (P:=P) w a us.length cap (us.map fun b=>(b.toNat:Int)) (by rw[h1];simp[Function.comp_def])
 rw[h2,abi]
 simp[ByteArray.empty,ByteArray.emptyWithCapacity]
 rfl
theorem apX (n:Int)(h:0<=n/\n<128):bytes (Utf8.encode n)=[n.toNat]:=by
 obtain⟨k,rfl⟩:=Int.eq_ofNat_of_zero_le h.1
 have hk:k<128:=by omega
 have:∀ k:Fin 128,bytes (Utf8.encode ((k.val:Nat):Int))=[k.val]:=by decide +kernel
 exact this ⟨k,hk⟩
theorem ai8 (w:World)(C:Array Value)(el:TypeId)(b:Nat)(hb:b=w.heap.size) :
  World.freeze { w with heap:=w.heap.push (.cells C el (0,0)) } { block:=b,off:=C.size } 1={ w with heap:=w.heap.push (.cells C el (C.size,C.size+1)) }:=by
 subst hb
 simp only[World.freeze,Nat.one_ne_zero,if_false]
 congr 1
 apply Array.ext_getElem?
 intro k
 rw[Array.getElem?_modify]
 by_cases hk:w.heap.size=k
 ·subst hk;simp
 ·rw[if_neg hk,ahV,ahV,if_neg (fun q=>hk q.symm),if_neg (fun q=>hk q.symm)]
def mK (w:World)(el:TypeId)(s:ByteArray):Nat:=(Question.appendCap s.size 0 el).cut (w.tape w.drawn (.appendCap s.size 0 el))
def sP (w:World)(el:TypeId)(s:ByteArray):List Value:=(s.data.toList.map fun b=>Value.int .u8 b.toNat)++List.replicate (mK w el s-s.size) (.int .u8 0)
theorem Kf (w:World)(el:TypeId)(s:ByteArray):s.size<=mK w el s:=Nat.le_add_right _ _
theorem O8 (w:World)(el:TypeId)(s:ByteArray):(sP w el s).length=mK w el s:=by
 have:=Kf w el s
 have h2:s.data.size=s.size:=rfl
 simp[sP]
 omega
theorem Xf (P:Program)(w:World)(el:TypeId)(s:ByteArray) :
  (Conv.stringToBytes el s).run P w = .ok (.slice (some ⟨w.heap.size,0,none⟩) s.size (mK w el s)) { w with drawn:=w.drawn+1,heap:=w.heap.push (.cells (sP w el s).toArray el (mK w el s,mK w el s+1)) }:=by
 let w1:World:={ w with drawn:=w.drawn+1 }
 let cap:=mK w el s
 have iq:s.size<=cap:=Kf w el s
 let rest:List Value:=List.replicate (cap-s.size) (.int .u8 0)
 have hlen:((s.data.toList.map fun b=>Value.int .u8 b.toNat)++rest).length=cap:=O8 w el s
 have hC:(s.data.map fun b=>Value.int .u8 b.toNat)++Array.replicate (cap-s.size) (.int .u8 0)=((s.data.toList.map fun b=>Value.int .u8 b.toNat)++rest).toArray:=by
  apply adB.1
  simp[rest]
 have GY:(Question.appendCap s.size 0 el).forced=false:=rfl
 simp only[Conv.stringToBytes,Sem.run_bind,run_choose,GY,aby,if_false,Result.andThen_ok,newRow,run_newObj,Sem.run_pure]
 have hC':(s.data.map fun b=>Value.int .u8 b.toNat)++Array.replicate ((Question.appendCap s.size 0 el).cut (w.tape w.drawn (.appendCap s.size 0 el))-s.size) (.int .u8 0)=((s.data.toList.map fun b=>Value.int .u8 b.toNat)++rest).toArray:=hC
 rw[hC']
 have ez:((s.data.toList.map fun b=>Value.int .u8 b.toNat)++rest).toArray.size=cap:=by simpa using hlen
 have nR:(World.shape? { w1 with heap:=w.heap.push (.cells ((s.data.toList.map fun b=>Value.int .u8 b.toNat)++rest).toArray el (0,0)) } w.heap.size)=some (el,cap):=by
  simp only[World.shape?,Array.getElem?_push_size,ez]
 have Jn:=ai8 w1 ((s.data.toList.map fun b=>Value.int .u8 b.toNat)++rest).toArray el w.heap.size rfl
 rw[ez] at Jn
 have ai1:(World.shape? { w with heap:=w.heap.push (.cells ((s.data.toList.map fun b=>Value.int .u8 b.toNat)++rest).toArray el (0,0)),drawn:=w.drawn+1 } w.heap.size)=some (el,cap):=nR
 simp only[markStringish,Sem.run_bind,run_shape,Result.andThen_ok,ai1,run_freeze]
 have agM:World.freeze { w with heap:=w.heap.push (.cells ((s.data.toList.map fun b=>Value.int .u8 b.toNat)++rest).toArray el (0,0)),drawn:=w.drawn+1 } { block:=w.heap.size,off:=cap } 1=_:=Jn
 rw[agM]
 rfl
theorem V5 (e:Em)(s:ByteArray):aP e ((bytes s).map fun (b:Nat)=>AV.int .u8 b) (s.data.toList.map fun b=>Value.int .u8 b.toNat):=by
 refine⟨by simp[bytes],fun i v v' hv bQ => ?_⟩
 simp only[bytes,ajf,adL,aaa] at hv bQ
 obtain⟨u,hu,rfl⟩:=hv
 obtain⟨u',iS,rfl⟩:=bQ
 rw[hu] at iS
 cases iS
 exact .int _ _
theorem adO (h:RH G F W e H w){s:ByteArray}{el i:Nat}{H':Hp}(hn:aE H ((bytes s).map fun (b:Nat)=>AV.int .u8 b) el 1=some (i,H')) :
  ∃ v' w' e',(Conv.stringToBytes el s).run P w = .ok v' w'/\e.le e'/\RH G F W e' H' w'/\VR e' (.slice i 0 (bytes s).length (bytes s).length false 1) v':=by
 have iq:=Kf w el s
 have h1:RH G F W e H { w with drawn:=w.drawn+1 }:=h.drawn _
 have hlen:=O8 w el s
 obtain⟨e',he,g1,g2,g3,g4,hr⟩:=h1.newRow (rest:=List.replicate (mK w el s-s.size) (.int .u8 0)) (fz:=(mK w el s,mK w el s+1)) hn (V5 e s) (by simp) (fun _ k hk=>by
  have pB:k<(sP w el s).length:=hk
  rw[hlen] at pB;simp;omega)
 refine⟨_,_,e',Xf P w el s,he,hr,?_⟩
 have hb:w.heap.size=e'.b i:=g2.symm
 rw[hb,vK]
 have g4':e'.n i=(sP w el s).length:=g4
 refine .slice i 0 s.size s.size false 1 0 _ g1 (by rw[g3];simp) iq iq (by simp) ?_
 rw[g4',hlen];omega
theorem agE {el:TypeId}{count:Nat}(hs:0<P.cellsOf el)(hc:P.cellsOf el<=count):liesAt P P.depth el (count / P.cellsOf el) 0 el 1=true:=by
 have hd:P.depth=(2*(P.types.size+Made.depth)+1)+1:=rfl
 have h1:1<=count / P.cellsOf el:=(Nat.le_div_iff_mul_le hs).2 (by omega)
 have h0:¬ P.cellsOf el=0:=by omega
 rw[hd]
 simp only[liesAt,agK]
 left
 rw[hd]
 simp only[rowAt,if_neg h0,agK,aau]
 left
 simp[h1,sameLayout]
theorem Mm (h:RH G F W e H w){i:Nat}{c:Tr AV}{lo hi el fl:Nat}(hg:H.h.get i=some (.cells c lo hi el fl)) :
  i<e.N/\∃ C fz,w.heap[e.b i]? = some (.cells C el fz)/\C.size=e.n i/\(lo=0->e.d i=0)/\(fl=0->fz=(0,0)):=by
 obtain⟨hN,ob,dV,dO,_⟩:=h.obj i _ hg
 cases dO with
 | cells _ _ _ _ _ C fz hn ic h0 h1 hd=>exact⟨hN,C,fz,dV,hn,hd,h0⟩
theorem aiW (h:RH G F W e H w){src dst:TypeId}{x v:AV}{x':Value}{H':Hp}(hx:VR e x x')(hc:jr P src dst x H=some (v,H')) :
  ∃ v' w' e',(convert src dst x').run P w = .ok v' w'/\e.le e'/\RH G F W e' H' w'/\VR e' v v':=by
 unfold jr at hc
 split at hc
 ·rename_i s d hs hd
  split at hc
  ·cases hx.fE;cases hc
   exact⟨_,w,e,by simp[convert,aH hs,aH hd,Conv.intToInt],e.le_refl,h,.int _ _⟩
  ·rename_i n
   cases hx.fE
   split at hc
   ·rename_i hn
    cases hc
    rw[<-apX n hn]
    exact⟨_,w,e,by simp[convert,aH hs,aH hd,Conv.intToString],e.le_refl,h,.str _⟩
   ·cases hc
  ·obtain⟨b,rfl,rfl⟩:=hx.lU
   cases hc
   exact⟨_,w,e,by simp[convert,aH hs,aH hd],e.le_refl,h,.str _⟩
  ·rename_i el s
   obtain⟨b,rfl,rfl⟩:=hx.lU
   split at hc
   ·rename_i oJ
    split at hc
    ·rename_i i H2 hn
     cases hc
     obtain⟨v',w',e',h1,h2,h3,h4⟩:=adO (P:=P) h hn
     exact⟨v',w',e',by simp[convert,aH hs,aH hd,aH oJ,h1],h2,h3,h4⟩
    ·cases hc
   ·cases hc
  ·rename_i el0 el i off len cap ex es
   cases hb:(Nat.beq src dst&&Nat.blt 0 len) with
   | false=>rw[hb] at hc;cases hc
   | true=>
    rw[hb] at hc
    simp only[cond_true] at hc
    simp only[aau,adE] at hb
    have hsd:src=dst:=abp hb.1
    split at hc
    ·rename_i c lo hi fH oJ hg
     cases hc
     obtain⟨hN,C,fz,dV,hn,Lg,Jw⟩:=Mm h hg
     have hf:=Jw rfl
     subst hf
     rcases hx.lj with⟨o,k,oB,ho,hl,xS,iL,gL,rfl⟩ | ⟨rfl,_,_,_⟩
     ·refine⟨.slice (some ⟨e.b i,o,none⟩) len k,w.freeze { block:=e.b i,off:=C.size } 1,e,?_,e.le_refl,?_,hx⟩
      ·have nR:w.shape? (e.b i)=some (fH,C.size):=by simp[World.shape?,dV]
       simp[convert,aH hs,aH hd,aH oJ,hsd,markStringish,nR]
      ·refine h.put hg rfl (pf := .cells C fH (C.size,C.size+1)) ?_ ?_ ?_ ?_ rfl rfl rfl
       ·simp[World.freeze]
       ·simp only[World.freeze,Nat.one_ne_zero,if_false]
        rw[CX _ _ _ dV];simp
       ·intro k hk
        simp only[World.freeze,Nat.one_ne_zero,if_false]
        rw[Cf _ _ _ _ (fun q=>hk q.symm)]
       ·obtain⟨_,ob,Tl,dO,_⟩:=h.obj i _ hg
        rw[dV] at Tl
        cases Tl
        cases dO with
        | cells _ _ _ _ _ C fz hn ic h0 h1 hd=>exact .cells _ _ _ _ _ _ _ hn ic (by simp) (fun _ k hk=>by simp;omega) hd
     ·omega
    ·cases hc
  ·rename_i el
   cases hx
   split at hc
   ·rename_i oJ
    cases hc
    refine⟨.string .empty,w,e,by simp[convert,aH hs,aH hd,aH oJ,Conv.bytesToString],e.le_refl,h,?_⟩
    exact .str .empty
   ·cases hc
  ·rename_i el i off len a1 a2 a3
   split at hc
   ·rename_i oJ
    cases hz:Nat.beq len 0 with
    | true=>
     rw[hz] at hc
     cases hc
     have:len=0:=abp hz
     subst this
     rcases hx.lj with⟨o,k,oB,ho,hl,xS,iL,gL,rfl⟩ | ⟨_,_,a,rfl⟩
     ·have:=MU (P:=P) (a:=⟨e.b i,o,none⟩) (us:=[]) (cap:=k) w (by simp)
      exact⟨_,w,e,by simp only[convert,Sem.run_bind,aH hs,aH hd,aH oJ,Result.andThen_ok];exact this,e.le_refl,h,.str ⟨#[]⟩⟩
     ·have:=MU (P:=P) (a:=a) (us:=[]) (cap:=0) w (by simp)
      exact⟨_,w,e,by simp only[convert,Sem.run_bind,aH hs,aH hd,aH oJ,Result.andThen_ok];exact this,e.le_refl,h,.str ⟨#[]⟩⟩
    | false=>
     rw[hz] at hc
     simp only[cond_false,aa6,aaa,acn] at hc
     obtain⟨cs,fu,bs,so,rfl,rfl⟩:=hc
     rcases hx.lj with⟨o,k,oB,ho,hl,xS,iL,gL,rfl⟩ | ⟨rfl,_,a,rfl⟩
     ·obtain⟨vs,h1,h2,h3⟩:=h.yZ fu ho
      obtain⟨us,rfl,rfl⟩:=Oo so h1
      rw[ads] at h2
      have:=MU (P:=P) (a:=⟨e.b i,o,none⟩) (us:=us) (cap:=k) w (fun j v hj=>by rw[add_lit];exact h3 j v hj)
      rw[h2] at this
      refine⟨_,w,e,by simp only[convert,Sem.run_bind,aH hs,aH hd,aH oJ,Result.andThen_ok];exact this,e.le_refl,h,?_⟩
      rw[<-akW];exact .str _
     ·simp at hz
   ·cases hc
  ·rename_i t i o
   cases hb:((cellAt H i o).isSome&&wW P t) with
   | false=>rw[hb] at hc;cases hc
   | true=>
    rw[hb] at hc
    cases hc
    rw[aau] at hb
    obtain⟨u,hu⟩:=ahl.1 hb.1
    obtain⟨n,hn⟩:∃ n,sz P t=some (n+1):=by
     have:=hb.2
     unfold wW at this
     split at this
     ·rename_i n hn;exact⟨n,hn⟩
     ·cases this
    obtain⟨o',hi,ho,rfl⟩:=hx.pL
    have aJ:=h.MM hu ho
    obtain⟨c,lo,iR,el,fl,hg,_,_,_⟩:=Qc hu
    obtain⟨hN,C,fz,dV,gL,_,_⟩:=Mm h hg
    have nR:w.shape? (e.b i)=some (el,C.size):=by simp[World.shape?,dV]
    have qM:¬ C.size<=o':=by omega
    refine⟨_,w,e,?_,e.le_refl,h,hx⟩
    simp[convert,aH hs,aH hd,Conv.unsafePointer,Conv.seenAt,viewAt,cellsIn,nR,gQ hn,qM]
  ·rename_i u i o
   split at hc
   ·rename_i c lo hi el fl hg
    cases hb:(Nat.beq el u&&Nat.beq lo 0&&Nat.beq o 0&&Nat.blt 0 (P.cellsOf u)&&(cellAt H i (P.cellsOf u-1)).isSome) with
    | false=>rw[hb] at hc;cases hc
    | true=>
     rw[hb] at hc
     cases hc
     simp only[aau,adE] at hb
     obtain⟨⟨⟨⟨b1,b2⟩,b3⟩,b4⟩,b5⟩:=hb
     have e1:el=u:=abp b1
     have e2:lo=0:=abp b2
     have e3:o=0:=abp b3
     subst e1;subst e2;subst e3
     obtain⟨q,hq⟩:=ahl.1 b5
     obtain⟨hN,C,fz,dV,gL,Lg,_⟩:=Mm h hg
     obtain⟨o',hi,ho,rfl⟩:=hx.pL
     have hd0:=Lg rfl
     have Ah:o'=0:=by omega
     subst Ah
     have aJ:=h.MM (o:=P.cellsOf el-1) hq (by omega)
     have nR:w.shape? (e.b i)=some (el,C.size):=by simp[World.shape?,dV]
     have hl:=agE (P:=P) (el:=el) (count:=C.size) b4 (by omega)
     have alQ:sz P el=some (P.cellsOf el):=by
      unfold sz
      unfold Program.cellsOf at b4 ⊢
      cases hi:P.info? el with
      | none=>simp[hi] at b4
      | some inf=>simp
     refine⟨_,w,e,?_,e.le_refl,h,hx⟩
     simp[convert,aH hs,aH hd,Conv.unsafePointer,Conv.seenAt,viewAt,nR,gQ alQ,variablesAt,hl]
   ·cases hc
  ·cases hc
 ·cases hc
end
end Go.Proofs.YtodfajmihkagnaaGreatDoor.Am
