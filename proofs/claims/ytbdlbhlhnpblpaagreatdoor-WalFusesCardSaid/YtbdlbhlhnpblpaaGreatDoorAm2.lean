/- Laws that the proof uses. -/
import Derived.Test.YtbdlbhlhnpblpaaGreatDoorAm1
set_option maxHeartbeats 2000000
set_option linter.unusedVariables false
set_option linter.unusedSimpArgs false
namespace Go.Proofs.YtbdlbhlhnpblpaaGreatDoor.Am
section
section
section
section
def dG (P:Program)(G:Nat)(F:Nat->Prop)(W:World)(e:Em)(v:AV)(H':Hp)(r:Result Next):Prop:=
 ∃ n w' e' v',r = .ok n w'/\(n = .value v'\/(n = .skip/\v'=undef))/\e.le e'/\RH G F W e' H' w'/\VR e' v v'
section
variable {P:Program}{G:Nat}{F:Nat->Prop}{W:World}{e:Em}{H:Hp}{w:World}
theorem dG.pure {s:Sem Value}{v:AV}{v':Value}(h:RH G F W e H w)(hs:s.run P w = .ok v' w)(hv:VR e v v') :
  dG P G F W e v H ((do Pure.pure (Next.value (<-s)):Sem Next).run P w):=
 ⟨.value v',w,e,v',by simp[hs],.inl rfl,e.le_refl,h,hv⟩
theorem dG.val {s:Sem Value}{v:AV}{v':Value}{e':Em}{H':Hp}{w':World}(hs:s.run P w = .ok v' w')(he:e.le e')(h:RH G F W e' H' w')(hv:VR e' v v') :
  dG P G F W e v H' ((do Pure.pure (Next.value (<-s)):Sem Next).run P w):=
 ⟨.value v',w',e',v',by simp[hs],.inl rfl,he,h,hv⟩
theorem VR.undef:VR e cF undef := .tuple [] #[] rfl (by simp)
theorem dG.unit {s:Sem Unit}{e':Em}{H':Hp}{w':World}(hs:s.run P w = .ok () w')(he:e.le e')(h:RH G F W e' H' w') :
  dG P G F W e cF H' ((do s;Pure.pure Next.skip:Sem Next).run P w):=
 ⟨.skip,w',e',_,by simp[hs],.inr ⟨rfl,rfl⟩,he,h,.undef⟩
theorem VR.lO {v:Value}{a:AV}(h:lO v=some a):VR e a v:=by
 unfold Am.lO at h
 split at h<;>simp only[acf,reduceCtorEq] at h<;>subst h<;>constructor
theorem cj.lO:∀ {vs:List Value} {l:List AV},vs.mapM Am.lO=some l->cj e l vs
 | [],l,h=>by simp at h;subst h;exact .nil e
 | v::vs,l,h=>by
  simp only[List.mapM_cons,ace,Option.pure_def,aaF,acf] at h
  obtain⟨a,ha,r,hr,rfl⟩:=h
  exact .cons (.lO ha) (cj.lO hr)
theorem VR.iz {v:Value}{a:AV}(h:iz v=some a):VR e a v:=by
 unfold Am.iz at h
 split at h
 ·simp only[yS] at h
  obtain⟨l,hl,rfl⟩:=h
  have:=cj.lO (e:=e) hl
  exact .agg _ _ this.1 this.2
 ·simp only[yS] at h
  obtain⟨l,hl,rfl⟩:=h
  have:=cj.lO (e:=e) hl
  exact .tuple _ _ this.1 this.2
 ·simp only[yS] at h
  obtain⟨l,hl,rfl⟩:=h
  exact .iface _ _ _ (.lO hl)
 ·exact .lO h
theorem vC {t:TypeId}{l:List AV}(h:zc P t=some l):∃ i z,P.info? t=some i/\i.zero=some z/\cj e l z.cells.toList:=by
 simp only[zc,ace,aaF] at h
 obtain⟨i,hi,z,hz,hl⟩:=h
 exact⟨i,z,hi,hz,.lO hl⟩
theorem oh {t:TypeId}{i:TypeInfo}{z:Value}(hi:P.info? t=some i)(hz:i.zero=some z)(w:World):(zeroValue t).run P w = .ok z w:=by
 simp[zeroValue,mV hi,hz]
theorem abV (h:RH G F W e H w){t:TypeId}{l:List AV}{i:Nat}{H':Hp}(hz:zc P t=some l)(hn:cP H l t 0=some (i,H')) :
  ∃ v' w' e',(Instr.alloc t true (.tuple #[])).run P w = .ok v' w'/\e.le e'/\RH G F W e' H' w'/\VR e' (.ptr i 0) v':=by
 obtain⟨inf,z,hi,dD,hl⟩:=vC (e:=e) hz
 obtain⟨e',he,h1,h2,h3,h4,hr⟩:=h.newRow (rest:=[]) (fz:=(0,0)) hn hl (fun _=>rfl) (by simp)
 refine⟨.pointer (some ⟨w.heap.size,0,none⟩),_,e',?_,he,hr,?_⟩
 ·simp[Instr.alloc,oh hi dD,newVar,Go.newRow]
 ·rw[<-h2];exact .ptr i 0 0 h1 (by rw[h3];simp)
theorem adw (h:RH G F W e H w){t:TypeId}{v:AV}{v':Value}{l:List AV}{i:Nat}{H':Hp}(hv:VR e v v')(hz:kx v=some l)(hn:cP H l t 0=some (i,H')) :
  ∃ u w' e',(Instr.box t v').run P w = .ok u w'/\e.le e'/\RH G F W e' H' w'/\VR e' (.ptr i 0) u:=by
 have hl:=hv.cells hz
 obtain⟨e',he,h1,h2,h3,h4,hr⟩:=h.newRow (rest:=[]) (fz:=(0,0)) hn hl (fun _=>rfl) (by simp)
 refine⟨.pointer (some ⟨w.heap.size,0,none⟩),_,e',?_,he,hr,?_⟩
 ·simp[Instr.box,newVar,Go.newRow]
 ·rw[<-h2];exact .ptr i 0 0 h1 (by rw[h3];simp)
theorem xc {t:TypeId}{cs:List AV}{vs:Array Value}{off:Nat}{v:AV}(hl:cj e cs vs.toList)(hp:kT P t cs off=some v)(w:World) :
  ∃ v',(part t vs off).run P w = .ok v' w/\VR e v v':=by
 simp only[kT,ace,aaF] at hp
 obtain⟨b,hb,hp⟩:=hp
 cases b with
 | true=>
  simp only[if_true,aaF] at hp
  obtain⟨n,hn,hp⟩:=hp
  cases hc:Nat.ble (off+n) cs.length with
  | false=>rw[hc] at hp;cases hp
  | true=>
   rw[hc] at hp
   simp only[cond_true,acf] at hp
   subst hp
   refine⟨.agg (vs.extract off (off+n)),by simp[part,J6 hb,fw hn],?_⟩
   have:=(hl.drop off).take n
   have e2:(vs.extract off (off+n)).toList=(vs.toList.drop off).take n:=by simp[Array.toList_extract,List.extract]
   exact .agg _ _ (by rw[e2];exact this.1) (by rw[e2];exact this.2)
 | false=>
  simp only[abP,if_false] at hp
  obtain⟨v',cH,hr⟩:=hl.get hp
  rw[acF] at cH
  exact⟨v',by simp[part,J6 hb,cH],hr⟩
theorem afO {t:TypeId}{x v:AV}{x':Value}{f:Nat}{fs:Array Field}{fd:Field}(hx:VR e x x')(hu:P.underlying t=some (.struct fs))(hf:fs[f]? = some fd)
  {cs:List AV} (hxs:x = .agg cs) (hp:kT P fd.type cs fd.offset=some v) (w:World):∃ v',(Instr.field t x' f).run P w = .ok v' w/\VR e v v':=by
 subst hxs
 obtain⟨vs,rfl,hl⟩:=hx.tO
 obtain⟨v',cH,hr⟩:=xc hl hp w
 exact⟨v',by simp[Instr.field,bY hu,hf,asAgg,cH],hr⟩
theorem acM {t:TypeId}{i o n:Nat}{x':Value}{f:Nat}{fs:Array Field}{fd:Field}(hx:VR e (.ptr i o) x')(hu:P.underlying t=some (.struct fs))(hf:fs[f]? = some fd)
  (hs:sz P fd.type=some n) (hn:n≠0) (w:World):∃ v',(Instr.fieldAt t x' f).run P w = .ok v' w/\VR e (.ptr i (o+fd.offset)) v':=by
 obtain⟨o',hi,ho,rfl⟩:=hx.jX
 refine⟨.pointer (some ⟨e.b i,o'+fd.offset,none⟩),?_,.ptr _ _ _ hi (by omega)⟩
 simp[Instr.fieldAt,bY hu,hf,Instr.sureAddr,fieldPlace,fw hs,hn,add_lit]
theorem agI {t:TypeId}{x ix v:AV}{x' G4:Value}(hx:VR e x x')(oD:VR e ix G4)(ha:Cg P t x ix=some v)(w:World) :
  ∃ v',(Instr.indexAt t x' G4).run P w = .ok v' w/\VR e v v':=by
 simp only[Cg,ace,aaF] at ha
 obtain⟨d,hd,ha⟩:=ha
 split at ha
 ·rename_i n el i off kk k
  simp only[aaF] at ha
  obtain⟨es,di,ha⟩:=ha
  split at ha
  ·rename_i hk
   simp only[aaK,decide_eq_true_eq] at hk
   cases ha
   obtain⟨o,hi,ho,rfl⟩:=hx.jX
   obtain rfl:=oD.fh
   refine⟨.pointer (some ⟨e.b i,o+k.toNat*es,none⟩),?_,.ptr _ _ _ hi (by omega)⟩
   simp[Instr.indexAt,asIntOf,bY hd,Instr.sureAddr,hk.1,hk.2,fw di,add_lit]
  ·cases ha
 ·rename_i el i off len cap ex es kk k
  simp only[aaF] at ha
  obtain⟨bZ,di,ha⟩:=ha
  split at ha
  ·rename_i hk
   simp only[aaK,decide_eq_true_eq,beq_iff_eq] at hk
   obtain⟨⟨rfl,mC⟩,gj⟩:=hk
   cases ha
   obtain rfl:=oD.fh
   rcases hx.jJ with⟨o,c,hi,ho,hl,hc,hO,hn,rfl⟩ | ⟨rfl,_,_,_⟩
   ·refine⟨.pointer (some ⟨e.b i,o+k.toNat*bZ,none⟩),?_,.ptr _ _ _ hi (by omega)⟩
    simp[Instr.indexAt,asIntOf,bY hd,mC,gj,fw di,add_lit]
   ·omega
  ·cases ha
 ·cases ha
theorem abL {t:TypeId}{x ix v:AV}{x' G4:Value}(hx:VR e x x')(oD:VR e ix G4)(ha:Cc P t x ix=some v)(w:World) :
  ∃ v',(Instr.index t x' G4).run P w = .ok v' w/\VR e v v':=by
 simp only[Cc,ace,aaF] at ha
 obtain⟨d,hd,ha⟩:=ha
 split at ha
 ·rename_i n el cs kk k
  simp only[aaF] at ha
  obtain⟨es,di,ha⟩:=ha
  split at ha
  ·rename_i hk
   simp only[aaK,decide_eq_true_eq] at hk
   obtain⟨vs,rfl,hl⟩:=hx.tO
   obtain rfl:=oD.fh
   obtain⟨v',cH,hr⟩:=xc hl ha w
   exact⟨v',by simp[Instr.index,asIntOf,bY hd,hk.1,hk.2,fw di,cH],hr⟩
  ·cases ha
 ·rename_i s kk k
  split at ha
  ·rename_i hk
   obtain⟨b,rfl,rfl⟩:=hx.iS
   obtain rfl:=oD.fh
   simp only[yS] at ha
   obtain⟨c,hc,rfl⟩:=ha
   simp only[bytes,acD,yS] at hc
   obtain⟨u,hu,rfl⟩:=hc
   refine⟨.int .u8 u.toNat,?_,.int _ _⟩
   have hb:b[k.toNat]? = some u:=by
    have h1:k.toNat<b.data.toList.length:=(aaL.1 hu).1
    have h2:k.toNat<b.size:=by rw[afj] at h1;exact h1
    rw[getElem?_pos b k.toNat h2]
    congr 1
    have h3:=(aaL.1 hu).2
    rw[<-h3]
    rfl
   simp[Instr.index,asIntOf,bY hd,hk,hb]
  ·cases ha
 ·cases ha
theorem BJ {lo hi:Nat}{v:AV}{v':Value}{n:Nat}(hv:VR e v v')(h:bound lo hi v=some n):∃ k:IntKind,∃ z:Int,v' = .int k z/\lo<=n/\n<=hi/\z=n:=by
 unfold bound at h
 split at h
 ·rename_i k z
  split at h
  ·rename_i hk
   simp only[aaK,decide_eq_true_eq] at hk
   cases h
   exact⟨k,z,hv.fh,by omega,by omega,by omega⟩
  ·cases h
 ·cases h
def sW (e:Em):Option AV->Option Value->Prop
 | none,none=>True
 | some a,some b=>VR e a b
 | _,_=>False
theorem uU {z:Int}{k:IntKind}{n y:Nat}{code:BoundsCode}(h:z=n)(hy:n<=y)(w:World):(Instr.sliceBound (.int k z) y code).run P w = .ok n w:=by
 subst h
 simp[Instr.sliceBound,asIntOf,hy]
theorem EH {px:Bool}{len cap na:Nat}{low high mx:Option AV}{s5 wN xd:Option Value}(h1:sW e low s5)(h2:sW e high wN)(h3:sW e mx xd)
  {l h m:Nat} (hb:oK len cap low high mx=some (l,h,m)) (hl:len<=na) (hc:cap<=na) (w:World) :
  (Instr.sliceBounds px len na s5 wN xd).run P w = .ok (l,h,if mx.isSome then m else na) w/\l<=h/\(mx=none->m=cap)/\(mx.isSome=true->h<=m/\m<=cap)/\(high=none->h=len)/\(mx=none->high.isSome=true->h<=cap):=by
 simp only[oK,ace,aaF,Option.pure_def,acf,abI] at hb
 obtain⟨m0,hm,h0,hh,l0,tU,rfl,rfl,rfl⟩:=hb
 cases mx with
 | some mv=>
  cases xd with
  | none=>exact h3.elim
  | some mv'=>
   obtain⟨km,zm,rfl,_,qv,hm3⟩:=BJ h3 hm
   cases high with
   | none=>cases hh
   | some hv=>
    cases wN with
    | none=>exact h2.elim
    | some cH=>
     obtain⟨kh,zh,rfl,_,lI,Hw⟩:=BJ h2 hh
     cases low with
     | none=>
      cases s5 with
      | some _=>exact h1.elim
      | none=>
       cases tU
       refine⟨?_,by omega,by simp,fun _=>⟨lI,qv⟩,by simp,by simp⟩
       simp[Instr.sliceBounds,uU hm3 (show m0<=na by omega),uU Hw lI]
     | some lv=>
      cases s5 with
      | none=>exact h1.elim
      | some Za=>
       obtain⟨kl,zl,rfl,_,iu,FJ⟩:=BJ h1 tU
       refine⟨?_,iu,by simp,fun _=>⟨lI,qv⟩,by simp,by simp⟩
       simp[Instr.sliceBounds,uU hm3 (show m0<=na by omega),uU Hw lI,uU FJ iu]
 | none=>
  cases xd with
  | some _=>exact h3.elim
  | none=>
   cases hm
   cases high with
   | none=>
    cases wN with
    | some _=>exact h2.elim
    | none=>
     cases hh
     cases low with
     | none=>
      cases s5 with
      | some _=>exact h1.elim
      | none=>cases tU;exact⟨by simp[Instr.sliceBounds],by omega,by simp,by simp,by simp,by simp⟩
     | some lv=>
      cases s5 with
      | none=>exact h1.elim
      | some Za=>
       obtain⟨kl,zl,rfl,_,iu,FJ⟩:=BJ h1 tU
       exact⟨by simp[Instr.sliceBounds,uU FJ iu],iu,by simp,by simp,by simp,by simp⟩
   | some hv=>
    cases wN with
    | none=>exact h2.elim
    | some cH=>
     obtain⟨kh,zh,rfl,_,lI,Hw⟩:=BJ h2 hh
     cases low with
     | none=>
      cases s5 with
      | some _=>exact h1.elim
      | none=>cases tU;exact⟨by simp[Instr.sliceBounds,uU Hw (show h0<=na by omega)],by omega,by simp,by simp,by simp,fun _ _=>lI⟩
     | some lv=>
      cases s5 with
      | none=>exact h1.elim
      | some Za=>
       obtain⟨kl,zl,rfl,_,iu,FJ⟩:=BJ h1 tU
       exact⟨by simp[Instr.sliceBounds,uU Hw (show h0<=na by omega),uU FJ iu],iu,by simp,by simp,by simp,fun _ _=>lI⟩
theorem cj.U3 (b:ByteArray)(l h:Nat):((bytes b).drop l).take (h-l)=bytes (b.extract l h):=by
 unfold bytes
 rw[ByteArray.data_extract,Array.toList_extract,List.extract,List.map_take,List.map_drop]
theorem af4 (hRH:RH G F W e H w){t:TypeId}{x v:AV}{x':Value}{low high mx:Option AV}{s5 wN xd:Option Value}(hx:VR e x x')(h1:sW e low s5)(h2:sW e high wN)(h3:sW e mx xd)
  (ha:uS P t x low high mx H=some v):∃ v',(Instr.sliceAt t x' s5 wN xd).run P w = .ok v' w/\VR e v v':=by
 simp only[uS,ace,aaF] at ha
 obtain⟨d,hd,ha⟩:=ha
 split at ha
 ·rename_i s
  obtain⟨b,rfl,rfl⟩:=hx.iS
  cases mx with
  | some _=>simp at ha
  | none=>
   cases xd with
   | some _=>exact h3.elim
   | none=>
    simp only[ahp,abP,if_false,aaF,Prod.exists] at ha
    obtain⟨l,h,m,hb,hv⟩:=ha
    simp only[acf] at hv
    subst hv
    have cC:(bytes b).length=b.size:=by unfold bytes;rw[acs,afj];rfl
    rw[cC] at hb
    obtain⟨hr,Lq,hm,_,wM,lI⟩:=EH (P:=P) (px:=false) h1 h2 h3 hb (zf _) (zf _) w
    simp only[ahp,abP,if_false] at hr
    refine⟨.string (b.extract l h),by simp[Instr.sliceAt,Instr.slice,bY hd,hr],?_⟩
    rw[cj.U3];exact .str _
 ·rename_i el
  simp only[aaF,Prod.exists] at ha
  obtain⟨l,h,m,hb,hv⟩:=ha
  split at hv
  ·rename_i hs
   simp only[acf] at hv
   subst hv
   obtain⟨es,di⟩:=acV.1 hs
   cases hx
   obtain⟨hr,Lq,hm,qv,wM,lI⟩:=EH (P:=P) (px:=true) h1 h2 h3 hb (zf _) (zf _) w
   refine⟨.slice none 0 0,?_,.ae⟩
   have hh:h=0:=by
    cases mx with
    | some _=>have:=qv rfl;omega
    | none=>
     cases high with
     | none=>exact wM rfl
     | some _=>have:=lI rfl rfl;omega
   have tU:l=0:=by omega
   subst hh;subst tU
   have iQ:(if mx.isSome=true then m else 0)=0:=by
    split
    ·rename_i HN;have:=qv HN;omega
    ·rfl
   rw[iQ] at hr
   simp[Instr.sliceAt,Instr.slice,bY hd,hr,fw di]
  ·cases hv
 ·rename_i el i off len cap ex es
  simp only[aaF,Prod.exists] at ha
  obtain⟨l,h,m,hb,bZ,di,hv⟩:=ha
  split at hv
  ·rename_i hs
   simp only[beq_iff_eq] at hs
   subst hs
   simp only[acf] at hv
   subst hv
   rcases hx.jJ with⟨o,c,hi,ho,hl,hc,hO,hn,rfl⟩ | ⟨rfl,rfl,a,rfl⟩
   ·obtain⟨hr,Lq,hm,qv,wM,lI⟩:=EH (P:=P) (px:=true) h1 h2 h3 hb hl hc w
    have BT:h<=(if mx.isSome=true then m else c)/\m<=(if mx.isSome=true then m else c)/\(if mx.isSome=true then m else c)<=c/\((ex||mx.isSome)=true->(if mx.isSome=true then m else c)=m):=by
     cases mx with
     | some _=>have:=qv rfl;simp;omega
     | none=>
      have hmc:=hm rfl
      simp only[ahp,abP,if_false,Bool.or_false]
      refine⟨?_,by omega,by omega,fun qM=>by rw[hO qM,hmc]⟩
      cases high with
      | none=>have:=wM rfl;omega
      | some _=>have:=lI rfl rfl;omega
    generalize (if mx.isSome=true then m else c)=m' at hr BT
    obtain⟨uz,vH,hq3,hq4⟩:=BT
    by_cases Gw:m'=l
    ·have e1:h-l=0:=by omega
     have e2:m-l=0:=by omega
     refine⟨.slice (some ⟨e.b i,o,none⟩) 0 0,?_,by rw[e1,e2];exact .uK ..⟩
     have e3:h=l:=by omega
     simp[Instr.sliceAt,Instr.slice,bY hd,hr,fw di,Gw,e3]
    ·refine⟨.slice (some ⟨e.b i,o+l*bZ,none⟩) (h-l) (m'-l),?_,.slice _ _ _ _ _ _ _ _ hi (by omega) (by omega) (by omega) (fun qM=>by rw[hq4 qM]) ?_⟩
     ·simp[Instr.sliceAt,Instr.slice,bY hd,hr,fw di,Gw,add_lit]
     ·have:o+l*bZ+(m'-l)*bZ=o+m'*bZ:=by
       rw[aeh,<-adC];congr 2;omega
      rw[this]
      have:m'*bZ<=c*bZ:=ac2 _ hq3
      omega
   ·obtain⟨hr,Lq,hm,qv,wM,lI⟩:=EH (P:=P) (px:=true) (na:=0) h1 h2 h3 hb (zf _) (zf _) w
    have hh:h=0:=by
     cases mx with
     | some _=>have:=qv rfl;omega
     | none=>
      cases high with
      | none=>exact wM rfl
      | some _=>have:=lI rfl rfl;omega
    have tU:l=0:=by omega
    have iQ:(if mx.isSome=true then m else 0)=0:=by
     split
     ·rename_i HN;have:=qv HN;omega
     ·rfl
    have D4:m=0:=by
     cases mx with
     | some _=>have:=qv rfl;omega
     | none=>exact hm rfl
    subst hh;subst tU;subst D4
    rw[iQ] at hr
    exact⟨.slice (some a) 0 0,by simp[Instr.sliceAt,Instr.slice,bY hd,hr,fw di],.uK ..⟩
  ·cases hv
 ·rename_i n el i off
  simp only[aaF,Prod.exists] at ha
  obtain⟨l,h,m,hb,es,di,hv⟩:=ha
  split at hv
  ·rename_i hs
   simp only[aaK,acY] at hs
   obtain⟨tM,Ng⟩:=hs
   obtain⟨u,hu⟩:=acV.1 Ng
   simp only[acf] at hv
   subst hv
   obtain⟨o,hi,ho,rfl⟩:=hx.jX
   obtain⟨hr,Lq,hm,qv,wM,lI⟩:=EH (P:=P) (px:=false) h1 h2 h3 hb (zf _) (zf _) w
   have bW:=hRH.SQ (o:=o+n*es-1) hu (by omega)
   have hmn:(if mx.isSome=true then m else n)=m/\m<=n/\h<=m:=by
    cases mx with
    | some _=>have:=qv rfl;simp;omega
    | none=>
     have:=hm rfl
     subst this
     refine⟨by simp,zf _,?_⟩
     cases high with
     | none=>have:=wM rfl;omega
     | some _=>exact lI rfl rfl
   rw[hmn.1] at hr
   obtain⟨_,uz,vH⟩:=hmn
   by_cases Gw:m=l
   ·have e1:h-l=0:=by omega
    have e2:m-l=0:=by omega
    refine⟨.slice (some ⟨e.b i,o,none⟩) 0 0,?_,by rw[e1,e2];exact .uK ..⟩
    have e3:h=l:=by omega
    simp[Instr.sliceAt,bY hd,Instr.sureAddr,hr,fw di,Gw,e3]
   ·refine⟨.slice (some ⟨e.b i,o+l*es,none⟩) (h-l) (m-l),?_,.slice _ _ _ _ _ _ _ _ hi (by omega) (by omega) (by omega) (fun _=>rfl) ?_⟩
    ·simp[Instr.sliceAt,bY hd,Instr.sureAddr,hr,fw di,Gw,add_lit]
    ·have:o+l*es+(m-l)*es=o+m*es:=by
      rw[aeh,<-adC];congr 2;omega
     rw[this]
     have:m*es<=n*es:=ac2 _ uz
     omega
  ·cases hv
 ·cases ha
end
end
section
variable {P:Program}{G:Nat}{F:Nat->Prop}{W:World}{e:Em}{H:Hp}{w:World}
theorem uv (b:ByteArray):(bytes b).length=b.size:=by unfold bytes;rw[acs,afj];rfl
theorem Vx:∀ {x y:List UInt8},x.map (·.toNat)=y.map (·.toNat)->x=y
 | [],[],_=>rfl
 | [],_::_,h=>by simp at h
 | _::_,[],h=>by simp at h
 | a::x,b::y,h=>by
  simp only[abc,List.cons.injEq] at h
  rw[UInt8.toNat_inj.1 h.1,Vx h.2]
theorem bytes_beq (a b:ByteArray):(bytes a==bytes b)=(a.data.toList==b.data.toList):=by
 unfold bytes
 by_cases h:a.data.toList=b.data.toList
 ·rw[h];simp
 ·have:¬ (a.data.toList.map (·.toNat)=b.data.toList.map (·.toNat)):=fun h2=>h (Vx h2)
  rw[beq_eq_false_iff_ne.2 h,beq_eq_false_iff_ne.2 this]
theorem abe:∀ (x y:List UInt8),nu (x.map (·.toNat)) (y.map (·.toNat))=Op.bytesLess x y
 | x,[]=>by cases x<;>simp[nu,Op.bytesLess]
 | [],b::y=>by simp[nu,Op.bytesLess]
 | a::x,b::y=>by
  simp only[abc,nu,Op.bytesLess,abe x y]
  congr 1
  ·by_cases h:a.toNat<b.toNat
   ·have:a<b:=by rw[ahP];exact h
    simp[this,h]
   ·have:¬ a<b:=by rw[ahP];exact h
    have h2:Nat.blt a.toNat b.toNat=false:=by
     cases hb:Nat.blt a.toNat b.toNat
     ·rfl
     ·rw[acY] at hb;exact absurd hb h
    simp[this,h2]
  ·congr 1
   by_cases h:a=b
   ·subst h;simp
   ·have h2:¬ a.toNat=b.toNat:=fun q=>h (UInt8.toNat_inj.1 q)
    rw[lY h2,beq_eq_false_iff_ne.2 h]
theorem ahG (a b:ByteArray):bytes (a++b)=bytes a++bytes b:=by
 unfold bytes;rw[ByteArray.data_append,Array.toList_append,abz]
theorem aaD (k:IntKind)(a:Int)(h:0<=a):(BitVec.ofInt k.bits a).toNat=a.toNat % 2 ^ k.bits:=by
 rw[agT]
 obtain⟨n,rfl⟩:=Int.eq_ofNat_of_zero_le h
 rw[aeV]
 have:((n:Int) % ((2 ^ k.bits:Nat):Int))=((n % 2 ^ k.bits:Nat):Int):=by norm_cast
 rw[this,aeV]
theorem abh {α:Type}(g:α->Option Bool)(body:α->Option Bool × Unit->Sem (ForInStep (Option Bool × Unit)))(w:World)
  (hb:∀ a b,g a=some b->(body a (none,())).run P w = .ok (if b then .yield (none,()) else .done (some false,())) w) :
  ∀ (l:List α) (b:Bool),C6 g l=some b->(forIn l (none,()) body).run P w = .ok (if b then (none,()) else (some false,())) w:=by
 intro l
 induction l with
 | nil=>intro b h;simp only[C6,acf] at h;subst h;simp
 | cons a r ih=>
  intro b h
  unfold C6 at h
  split at h
  ·rename_i hg
   rw[List.forIn_cons,Sem.run_bind,hb a true hg]
   exact ih b h
  ·rename_i hg
   cases h
   rw[List.forIn_cons,Sem.run_bind,hb a false hg]
   simp
  ·cases h
theorem KA (p q:ByteArray):(p==q)=(bytes p==bytes q):=by
 rw[bytes_beq]
 have h0:(p==q)=(p.data==q.data):=by cases p;cases q;rfl
 rw[h0]
 by_cases e:p.data=q.data
 ·rw[e];simp
 ·have:¬ p.data.toList=q.data.toList:=fun h2=>e (acB.1 h2)
  rw[beq_eq_false_iff_ne.2 e,beq_eq_false_iff_ne.2 this]
theorem YP (h:RH G F W e H w){i:Nat}(hc:clean H i=true):∃ C el,i<e.N/\w.heap[e.b i]? = some (.cells C el (0,0))/\(∃ o,H.h.get i=some o/\wr o=true):=by
 unfold clean at hc
 split at hc
 ·rename_i c lo hi el hg
  obtain⟨hN,ob,db,da,_⟩:=h.obj i _ hg
  cases da with
  | cells _ _ _ _ _ C fz hn eO h0 h1 hd=>
   have:=h0 rfl
   subst this
   exact⟨C,el,hN,db,_,hg,rfl⟩
 ·cases hc
theorem G2 (h:RH G F W e H w):∀ (d D:Nat),d<=D->∀ (t:TypeId) (x y:AV) (x' y':Value) (b:Bool),VR e x x'->VR e y y'->iq P d t x y H=some b->
  (Op.equalIn D t x' y').run P w = .ok b w:=by
 intro d
 induction d with
 | zero=>intro D _ t x y x' y' b _ _ hb;cases hb
 | succ d ih=>
  intro D hD t x y x' y' b hx hy hb
  obtain⟨D,rfl⟩:∃ k,D=k+1:=⟨D-1,by omega⟩
  unfold iq at hb
  split at hb
  ·cases hb
  rename_i u hu
  split at hb
  ·cases hx.sH;cases hy.sH;cases hb;simp[Op.equalIn,bY hu]
  ·cases hx.fh;cases hy.fh
   split at hb
   ·rename_i hk;cases hb;simp[Op.equalIn,bY hu,hk]
   ·cases hb
  ·obtain⟨p,rfl,rfl⟩:=hx.iS
   obtain⟨q,rfl,rfl⟩:=hy.iS
   cases hb
   have:=KA p q
   simp[Op.equalIn,bY hu,this]
  ·cases hx;cases hy;cases hb;simp[Op.equalIn,bY hu]
  ·cases hx;cases hy;cases hb;simp[Op.equalIn,bY hu]
  ·cases hx;cases hy;cases hb;simp[Op.equalIn,bY hu]
  ·rename_i el i a j c
   split at hb
   ·rename_i n hn
    obtain⟨o,hi,ho,rfl⟩:=hx.jX
    obtain⟨o2,hj,qf,rfl⟩:=hy.jX
    cases BX:Nat.beq i j with
    | true=>
     have:i=j:=aaV BX
     subst this
     rw[BX] at hb
     cases hb
     have:(Nat.beq a c)=(o==o2):=by
      by_cases q:a=c
      ·subst q
       have:o=o2:=by omega
       subst this;simp
      ·rw[lY q,beq_eq_false_iff_ne.2 (by omega)]
     simp[Op.equalIn,bY hu,fw hn,sameAddr,this]
     by_cases q:o=o2
     ·subst q;simp
     ·rw[beq_eq_false_iff_ne.2 q,beq_eq_false_iff_ne.2 (by simp;exact q)]
    | false=>
     rw[BX] at hb
     cases rm:(clean H i&&clean H j) with
     | false=>rw[rm] at hb;cases hb
     | true=>
      rw[rm] at hb
      cases hb
      rw[aaK] at rm
      obtain⟨C1,l1,_,g1,o1,q1,u1⟩:=YP h rm.1
      obtain⟨C2,l2,_,g2,o3,q2,u2⟩:=YP h rm.2
      have cx:¬ e.b i=e.b j:=fun q=>by
       have:=h.inj i j _ _ q1 q2 (.inl u1) q
       subst this
       simp at BX
      have f1:∀ k,w.frozen? ⟨e.b i,k,none⟩=false:=fun k=>by simp[World.frozen?,g1]
      have f2:∀ k,w.frozen? ⟨e.b j,k,none⟩=false:=fun k=>by simp[World.frozen?,g2]
      have s1:w.shape? (e.b i)=some (l1,C1.size):=by simp[World.shape?,g1]
      have s2:w.shape? (e.b j)=some (l2,C2.size):=by simp[World.shape?,g2]
      simp[Op.equalIn,bY hu,fw hn,sameAddr,cx,f1,f2,noView,viewAt,s1,s2,mayBeOne,stringish]
   ·cases hb
  ·cases hx;cases hy;cases hb;simp[Op.equalIn,bY hu]
  ·cases hx;cases hy;cases hb;simp[Op.equalIn,bY hu]
  ·cases hx;cases hy;cases hb;simp[Op.equalIn,bY hu]
  ·rename_i t1 v1 t2 v2
   cases hx with
   | iface _ _ vj fu=>
   cases hy with
   | iface _ _ PB nF=>
   split at hb
   ·rename_i ht
    subst ht
    split at hb
    ·rename_i inf fT
     cases qJ:inf.comparable with
     | false=>rw[qJ] at hb;cases hb
     | true=>
      rw[qJ] at hb
      have:=ih D (by omega) t1 v1 v2 vj PB b fu nF hb
      simp[Op.equalIn,bY hu,mV fT,qJ,this]
    ·cases hb
   ·rename_i ht
    cases hb
    simp[Op.equalIn,bY hu,ht]
  ·rename_i fs xs ys
   cases eu:P.stoodInHeld t with
   | true=>rw[eu] at hb;cases hb
   | false=>
    rw[eu] at hb
    simp only[cond_false] at hb
    obtain⟨vx,rfl,wB⟩:=hx.tO
    obtain⟨vy,rfl,R6⟩:=hy.tO
    have key := abh (P := P) (g := fun f : Field => if f.name = "_" then some true else
     match kT P f.type xs f.offset,kT P f.type ys f.offset with
     | some a,some b=>iq P d f.type a b H
     | _,_=>none) (body:=fun f Ms=>
      if f.name = "_" then Pure.pure (ForInStep.yield (none, ()))
      else do
       let Ao <-part f.type vx f.offset
       let LB <-part f.type vy f.offset
       let Ao <-Op.equalIn D f.type Ao LB
       if Ao=false then Pure.pure (ForInStep.done (some false,())) else Pure.pure (ForInStep.yield (none,()))) w (by
      intro f b hg
      by_cases hn : f.name = "_"
      ·rw[if_pos hn] at hg;cases hg;simp[hn]
      ·rw[if_neg hn] at hg
       split at hg
       ·rename_i a1 a2 h1 h2
        obtain⟨u1,si,ei⟩:=xc wB h1 w
        obtain⟨u2,Lt,pG⟩:=xc R6 h2 w
        have:=ih D (by omega) f.type a1 a2 u1 u2 b ei pG hg
        cases b<;>simp[hn,si,Lt,this]
       ·cases hg) fs.toList b hb
    simp only[Op.equalIn,Sem.run_bind,bY hu,Result.andThen_ok,run_program,eu]
    simp only[Array.forIn_toList] at key
    simp[key]
    cases b<;>simp
  ·rename_i n el xs ys
   split at hb
   ·rename_i s hs
    obtain⟨vx,rfl,wB⟩:=hx.tO
    obtain⟨vy,rfl,R6⟩:=hy.tO
    have key:=abh (P:=P) (g:=fun i:Nat=>
     match kT P el xs (i*s),kT P el ys (i*s) with
     | some a,some b=>iq P d el a b H
     | _,_=>none) (body:=fun i Ms=>do
       let Ao <-part el vx (i*s)
       let LB <-part el vy (i*s)
       let Ao <-Op.equalIn D el Ao LB
       if Ao=false then Pure.pure (ForInStep.done (some false,())) else Pure.pure (ForInStep.yield (none,()))) w (by
      intro f b hg
      split at hg
      ·rename_i a1 a2 h1 h2
       obtain⟨u1,si,ei⟩:=xc wB h1 w
       obtain⟨u2,Lt,pG⟩:=xc R6 h2 w
       have:=ih D (by omega) el a1 a2 u1 u2 b ei pG hg
       cases b<;>simp[si,Lt,this]
      ·cases hg) (List.range' 0 n) b hb
    simp[Op.equalIn,bY hu,fw hs]
    simp[key]
    cases b<;>simp
   ·cases hb
  ·cases hx;cases hy;cases hb;simp[Op.equalIn,bY hu]
  ·cases hx;cases hb
   rcases hy.jJ with⟨o,c,hi,ho,hl,hc,hO,hn,rfl⟩ | ⟨rfl,rfl,a,rfl⟩<;>simp[Op.equalIn,bY hu]
  ·cases hy;cases hb
   rcases hx.jJ with⟨o,c,hi,ho,hl,hc,hO,hn,rfl⟩ | ⟨rfl,rfl,a,rfl⟩<;>simp[Op.equalIn,bY hu]
  ·cases hx;cases hy;cases hb;simp[Op.equalIn,bY hu]
  ·cases hx;cases hy;cases hb;simp[Op.equalIn,bY hu]
  ·cases hx;cases hy;cases hb;simp[Op.equalIn,bY hu]
  ·cases hx;cases hy;cases hb;simp[Op.equalIn,bY hu]
  ·cases hx;cases hy;cases hb;simp[Op.equalIn,bY hu]
  ·cases hx;cases hy;cases hb;simp[Op.equalIn,bY hu]
  ·cases hb
end
end
section
variable {P:Program}{G:Nat}{F:Nat->Prop}{W:World}{e:Em}{H:Hp}{w:World}
theorem amf (k:IntKind)(a b:Int):((BitVec.ofInt k.bits a) &&& (BitVec.ofInt k.bits b)).toNat=ji k a &&& ji k b:=by
 rw[BitVec.toNat_and,agT,agT];rfl
theorem aeL (k:IntKind)(a b:Int):((BitVec.ofInt k.bits a) ||| (BitVec.ofInt k.bits b)).toNat=ji k a ||| ji k b:=by
 rw[BitVec.toNat_or,agT,agT];rfl
theorem amI (k:IntKind)(a b:Int):((BitVec.ofInt k.bits a) ^^^ (BitVec.ofInt k.bits b)).toNat=ji k a ^^^ ji k b:=by
 rw[BitVec.toNat_xor,agT,agT];rfl
theorem afT (k:IntKind)(a b:Int)(ha:0<=a)(hb:0<=b):((BitVec.ofInt k.bits a) ^^^ (BitVec.ofInt k.bits b)).toNat=(a.toNat % 2 ^ k.bits) ^^^ (b.toNat % 2 ^ k.bits):=by
 rw[BitVec.toNat_xor,aaD k a ha,aaD k b hb]
theorem K9 (a b:ByteArray):(a.toList==b.toList)=(bytes a==bytes b):=by
 rw[ByteArray.toList_eq,ByteArray.toList_eq,bytes_beq]
theorem Ll (a b:ByteArray):Op.bytesLess a.toList b.toList=nu (bytes a) (bytes b):=by
 rw[ByteArray.toList_eq,ByteArray.toList_eq];exact (abe _ _).symm
theorem Jc {d:Nat}{t:TypeId}{x y:AV}{b:Bool}(hb:iq P d t x y H=some b):x ≠ .dE/\y ≠ .dE:=by
 constructor
 ·rintro rfl
  cases d with
  | zero=>cases hb
  | succ d=>
   unfold iq at hb
   split at hb
   ·cases hb
   ·split at hb<;>first | (simp at *;done) | (simp_all;done) | cases hb
 ·rintro rfl
  cases d with
  | zero=>cases hb
  | succ d=>
   unfold iq at hb
   split at hb
   ·cases hb
   ·split at hb<;>first | (simp at *;done) | (simp_all;done) | cases hb
theorem VR.WQ {x:AV}{x':Value}(h:VR e x x')(hj:x ≠ .dE):(∀ k a,x' ≠ .float k a)/\(∀ k a b,x' ≠ .complex k a b):=by
 cases h<;>first | (exact absurd rfl hj) | (constructor<;>(intros;simp))
theorem aha {t:TypeId}{x y:Value}(h1:∀ k a k' b,x = .int k a->y = .int k' b->False)(h2:∀ a b,x = .string a->y = .string b->False)
  (h3:∀ k a,x ≠ .float k a) (h4:∀ k a b,x ≠ .complex k a b):binOp .eql t x y=(do Pure.pure (.bool (<-Op.equal t x y))):=by
 cases x<;>cases y<;>first | rfl | (exact absurd rfl (h3 _ _)) | (exact absurd rfl (h4 _ _ _)) | (exact (h1 _ _ _ _ rfl rfl).elim) | (exact (h2 _ _ rfl rfl).elim)
theorem afE {t:TypeId}{x y:Value}(h1:∀ k a k' b,x = .int k a->y = .int k' b->False)(h2:∀ a b,x = .string a->y = .string b->False)
  (h3:∀ k a,x ≠ .float k a) (h4:∀ k a b,x ≠ .complex k a b):binOp .neq t x y=(do Pure.pure (.bool (!(<-Op.equal t x y)))):=by
 cases x<;>cases y<;>first | rfl | (exact absurd rfl (h3 _ _)) | (exact absurd rfl (h4 _ _ _)) | (exact (h1 _ _ _ _ rfl rfl).elim) | (exact (h2 _ _ rfl rfl).elim)
theorem VR.Ke {x:AV}{k:IntKind}{n:Int}(h:VR e x (.int k n))(hj:x ≠ .dE):x = .int k n:=by cases h<;>first | rfl | exact absurd rfl hj
theorem VR.Jt {x:AV}{s:ByteArray}(h:VR e x (.string s))(hj:x ≠ .dE):x = .str (bytes s):=by cases h<;>first | rfl | exact absurd rfl hj
theorem ajZ (h:RH G F W e H w){op:BinOp}{t:TypeId}{x y v:AV}{x' y':Value}(hx:VR e x x')(hy:VR e y y')(hb:iK P op t x y H=some v) :
  ∃ v',(binOp op t x' y').run P w = .ok v' w/\VR e v v':=by
 unfold iK at hb
 split at hb
 ·cases hx.fh;cases hy.fh
  split at hb
  ·cases hb
  ·rename_i hn;cases hb
   exact⟨_,by simp[binOp,Op.shift,hn],.int _ _⟩
 ·cases hx.fh;cases hy.fh
  split at hb
  ·cases hb
  ·rename_i hn;cases hb
   exact⟨_,by simp[binOp,Op.shift,hn],.int _ _⟩
 ·cases hx.fh;cases hy.fh
  split at hb
  ·rename_i k a k' b n1 n2 hk
   subst hk
   split at hb
   ·cases hb;exact⟨_,by simp[binOp,Op.intArith],.int _ _⟩
   ·cases hb;exact⟨_,by simp[binOp,Op.intArith],.int _ _⟩
   ·cases hb;exact⟨_,by simp[binOp,Op.intArith],.int _ _⟩
   ·split at hb
    ·cases hb
    ·rename_i hz;cases hb;exact⟨_,by simp[binOp,Op.intDiv,hz],.int _ _⟩
   ·split at hb
    ·cases hb
    ·rename_i hz;cases hb;exact⟨_,by simp[binOp,Op.intDiv,hz],.int _ _⟩
   ·cases hb
    rw[<-amf k a b]
    exact⟨_,by simp only[binOp,Op.intBits,ne_eq,not_true_eq_false,if_false];rfl,.int _ _⟩
   ·cases hb
    rw[<-aeL k a b]
    exact⟨_,by simp only[binOp,Op.intBits,ne_eq,not_true_eq_false,if_false];rfl,.int _ _⟩
   ·cases hb
    rw[<-amI k a b]
    exact⟨_,by simp only[binOp,Op.intBits,ne_eq,not_true_eq_false,if_false];rfl,.int _ _⟩
   ·cases hb
   ·cases hb;exact⟨_,by simp[binOp,Op.intCmp],.bool _⟩
   ·cases hb;exact⟨_,by simp[binOp,Op.intCmp],.bool _⟩
   ·cases hb;exact⟨_,by simp[binOp,Op.intCmp],.bool _⟩
   ·cases hb;exact⟨_,by simp[binOp,Op.intCmp],.bool _⟩
   ·cases hb;exact⟨_,by simp[binOp,Op.intCmp],.bool _⟩
   ·cases hb;exact⟨_,by simp[binOp,Op.intCmp],.bool _⟩
   ·cases hb
  ·cases hb
 ·obtain⟨p,rfl,rfl⟩:=hx.iS
  obtain⟨q,rfl,rfl⟩:=hy.iS
  split at hb
  ·cases hle:Nat.ble ((bytes p).length+(bytes q).length) 4294967296 with
   | false=>rw[hle] at hb;cases hb
   | true=>
    rw[hle] at hb
    cases hb
    rw[acN,uv,uv] at hle
    have:¬ ((p.size+q.size:Nat):Int)>9223372036854775807:=by omega
    rw[<-ahG]
    refine⟨.string (p++q),?_,.str _⟩
    simp only[binOp,Op.stringOp,IntKind.max_i64,if_neg this];rfl
  ·cases hb;exact⟨_,by simp[binOp,Op.stringOp,K9],.bool _⟩
  ·cases hb;exact⟨_,by simp[binOp,Op.stringOp,K9],.bool _⟩
  ·cases hb;exact⟨_,by simp[binOp,Op.stringOp,Ll],.bool _⟩
  ·cases hb;exact⟨_,by simp[binOp,Op.stringOp,Ll,K9],.bool _⟩
  ·cases hb;exact⟨_,by simp[binOp,Op.stringOp,Ll,K9],.bool _⟩
  ·cases hb;exact⟨_,by simp[binOp,Op.stringOp,Ll],.bool _⟩
  ·cases hb
 ·rename_i n1 n2
  simp only[yS] at hb
  obtain⟨b,hb,rfl⟩:=hb
  have:=G2 h 50 Op.maxDepth (by decide) t x y x' y' b hx hy hb
  refine⟨.bool b,?_,.bool _⟩
  obtain⟨j1,j2⟩:=Jc hb
  obtain⟨f1,f2⟩:=hx.WQ j1
  rw[aha (fun k a k' b p q=>n1 k a k' b (by rw[p] at hx;exact hx.Ke j1) (by rw[q] at hy;exact hy.Ke j2))
   (fun a b p q=>n2 _ _ (by rw[p] at hx;exact hx.Jt j1) (by rw[q] at hy;exact hy.Jt j2)) f1 f2]
  simp only[Op.equal,Sem.run_bind,this];rfl
 ·rename_i n1 n2
  simp only[yS] at hb
  obtain⟨b,hb,rfl⟩:=hb
  have:=G2 h 50 Op.maxDepth (by decide) t x y x' y' b hx hy hb
  refine⟨.bool !b,?_,.bool _⟩
  obtain⟨j1,j2⟩:=Jc hb
  obtain⟨f1,f2⟩:=hx.WQ j1
  rw[afE (fun k a k' b p q=>n1 k a k' b (by rw[p] at hx;exact hx.Ke j1) (by rw[q] at hy;exact hy.Ke j2))
   (fun a b p q=>n2 _ _ (by rw[p] at hx;exact hx.Jt j1) (by rw[q] at hy;exact hy.Jt j2)) f1 f2]
  simp only[Op.equal,Sem.run_bind,this];rfl
 ·cases hb
theorem amr {op:BinOp}{t:TypeId}{X Y:Operand}{x y v:AV}{x' y':Value}(hx:VR e x x')(hy:VR e y y')(hg:qg P op t X Y x y=true)(hb:iK P op t x y H=some v) :
  (eqGuard op t X Y x' y').run P w = .ok () w:=by
 by_cases ho:op = .eql\/op = .neq
 ·have yD:x ≠ .dE/\y ≠ .dE:=by
   constructor
   ·rintro rfl
    rcases ho with rfl | rfl<;>(unfold iK at hb;simp only[yS] at hb;obtain⟨b,hb,_⟩:=hb;exact (Jc hb).1 rfl)
   ·rintro rfl
    rcases ho with rfl | rfl<;>(unfold iK at hb;cases x<;>simp only[yS] at hb<;>(obtain⟨b,hb,_⟩:=hb;exact (Jc hb).2 rfl))
  cases hx<;>cases hy<;>first
   | (exact absurd rfl yD.1) | (exact absurd rfl yD.2)
   | (rcases ho with rfl | rfl<;>rfl)
   | skip
  ·have mU:sQ X=true\/sQ Y=true:=by
    rcases ho with rfl | rfl<;>(simp only[qg,af0] at hg;exact hg)
   rcases ho with rfl | rfl<;>(rcases mU with hc | hc<;>(cases X<;>cases Y<;>first | (simp[sQ] at hc;done) | rfl))
  ·have mU:P.eqGuardType P.depth t=false:=by
    rcases ho with rfl | rfl<;>(simp only[qg,Bool.not_eq_true'] at hg;exact hg)
   rcases ho with rfl | rfl<;>simp[eqGuard,mU]
 ·have:(op matches .eql | .neq)=false:=by
   cases op<;>first | rfl | (exact absurd (by simp) ho)
  cases op<;>first | rfl | (exact absurd (by simp) ho)
end
end
section
variable {P:Program}{G:Nat}{F:Nat->Prop}{W:World}{e:Em}{H:Hp}{w:World}
theorem aeZ {op:UnOp}{x v:AV}{x':Value}(hx:VR e x x')(hb:mw op x=some v)(w:World):∃ v',(Op.unary op x').run P w = .ok v' w/\VR e v v':=by
 unfold mw at hb
 split at hb
 ·cases hx.fh;cases hb;exact⟨_,by simp[Op.unary,Op.intArith],.int _ _⟩
 ·cases hx.sH;cases hb;exact⟨_,by simp[Op.unary],.bool _⟩
 ·rename_i k n
  cases hx.fh
  split at hb
  ·cases hb
  ·rename_i hs
   split at hb
   ·rename_i hn
    cases hb
    have hm:0<=k.max:=by cases k<;>simp[IntKind.max,IntKind.signed,IntKind.bits] at hs ⊢
    rw[<-afT k k.max n hm hn]
    refine⟨_,?_,.int _ _⟩
    simp only[Op.unary,Op.intBits,if_neg hs];rfl
   ·cases hb
 ·cases hb
theorem Xl:∀ (v:List Value) (off j:Nat) (cs:Array Value),off+j+v.length<=cs.size->
  ((v.zipIdx j).foldl (fun cs (x:Value × Nat)=>cs.setIfInBounds (off+x.2) x.1) cs).size=cs.size/\
  ∀ m,((v.zipIdx j).foldl (fun cs (x:Value × Nat)=>cs.setIfInBounds (off+x.2) x.1) cs)[m]? = if off+j<=m/\m<off+j+v.length then v[m-(off+j)]? else cs[m]?
 | [],off,j,cs,h=>by
  refine⟨by simp,fun m => ?_⟩
  rw[if_neg (by rw[abQ];omega)];simp
 | x::v,off,j,cs,h=>by
  simp only[abg] at h
  rw[List.zipIdx_cons,List.foldl_cons]
  obtain⟨h1,h2⟩:=Xl v off (j+1) (cs.setIfInBounds (off+j) x) (by simp;omega)
  refine⟨by rw[h1];simp,fun m => ?_⟩
  rw[h2]
  simp only[abg]
  by_cases hm:m=off+j
  ·subst hm
   rw[if_neg (by omega),if_pos (by omega)]
   rw[aff (by omega)]
   simp
  ·by_cases hr:off+(j+1)<=m/\m<off+(j+1)+v.length
   ·rw[if_pos hr,if_pos (by omega)]
    have:m-(off+j)=(m-(off+(j+1)))+1:=by omega
    rw[this,gk]
   ·rw[if_neg hr,if_neg (by omega),aez (by omega)]
theorem cj.ahT {a c:List AV}{x:Array Value}{y:List Value}{off:Nat}(ha:cj e a x.toList)(hc:cj e c y)(h:off+c.length<=a.length) :
  cj e (a.take off++c++a.drop (off+c.length)) ((y.zipIdx).foldl (fun cs (x:Value × Nat)=>cs.setIfInBounds (off+x.2) x.1) x).toList:=by
 have hx:x.size=a.length:=by have:=ha.1;simpa using this
 obtain⟨h1,h2⟩:=Xl y off 0 x (by rw[hc.1,hx];omega)
 refine⟨by simp[h1,hx];omega,fun i v v' hv cH => ?_⟩
 rw[acF,h2] at cH
 simp only[acJ] at cH
 rw[hc.1] at cH
 by_cases hi:i<off
 ·rw[if_neg (by omega)] at cH
  rw[adf,abi (by simp;omega),ac1,if_pos hi] at hv
  exact ha.2 i v v' hv (by rw[acF];exact cH)
 ·by_cases vP:i<off+c.length
  ·rw[if_pos (by omega)] at cH
   rw[abi (by simp;omega),abM (by simp;omega)] at hv
   have:i-(a.take off).length=i-off:=by simp;omega
   rw[this] at hv
   exact hc.2 _ v v' hv cH
  ·rw[if_neg (by omega)] at cH
   rw[abM (by simp;omega),acL] at hv
   have:off+c.length+(i-(a.take off++c).length)=i:=by simp;omega
   rw[this] at hv
   exact ha.2 i v v' hv (by rw[acF];exact cH)
def pI (e:Em)(l:List (Nat × AV))(l':List (Nat × Value)):Prop:=l'.map (·.1)=l.map (·.1)/\cj e (l.map (·.2)) (l'.map (·.2))
theorem Cw {pl wY:Nat->Option (Nat × Nat)}(hZ:∀ i x,pl i=some x->wY i=some x):∀ (ps:List (Nat × AV)) (lX:List (Nat × Value)) (cells out:List AV) (AQ:Array Value),
  pI e ps lX->cj e cells AQ.toList->rF pl cells ps=some out->∃ ja,Instr.fill wY AQ lX=some ja/\cj e out ja.toList:=by
 intro ps
 induction ps with
 | nil=>
  intro lX cells out AQ hp hc hf
  cases hf
  obtain rfl:lX=[]:=by have:=hp.1;simpa using this
  exact⟨AQ,rfl,hc⟩
 | cons p ps ih=>
  intro lX cells out AQ hp hc hf
  obtain⟨i,v⟩:=p
  cases lX with
  | nil=>have:=hp.1;simp at this
  | cons q lX=>
   obtain⟨i',v'⟩:=q
   obtain⟨h1,h2⟩:=hp
   simp only[abc,List.cons.injEq] at h1
   obtain⟨rfl,h1⟩:=h1
   obtain⟨u,us,hu,hv,mF⟩:=cj.cons_inv (by simpa using h2:cj e (v::ps.map (·.2)) (v'::lX.map (·.2)))
   simp only[List.cons.injEq] at hu
   obtain⟨rfl,rfl⟩:=hu
   unfold rF at hf
   split at hf
   ·cases hf
   ·rename_i off size vT
    split at hf
    ·cases hf
    ·rename_i cs dP
     split at hf
     ·rename_i sh
      have hl:=hv.cells dP
      have cC:v'.cells.size=size:=by have:=hl.1;simp at this;omega
      have J1:AQ.size=cells.length:=by have:=hc.1;simpa using this
      have tY:=hc.ahT hl (off:=off) (by omega)
      rw[sh.1] at tY
      obtain⟨ja,ho,hr⟩:=ih lX _ out _ ⟨h1,mF⟩ tY hf
      refine⟨ja,?_,hr⟩
      unfold Instr.fill
      rw[hZ _ _ vT]
      have c1:(decide (v'.cells.size≠size)||decide (off+v'.cells.size>AQ.size))=false:=by simp;omega
      simp only[c1,abP,if_false]
      rw[<-ho]
      congr 1
      rw[<-Array.foldl_toList,Array.toList_zipIdx]
     ·cases hf
theorem pI.map {ρ:Operand->AV}{σ:Operand->Value}(h:∀ x,VR e (ρ x) (σ x))(l:List (Nat × Operand)):pI e (l.map fun (i,x)=>(i,ρ x)) (l.map fun (i,x)=>(i,σ x)):=by
 refine⟨by simp[Function.comp_def],?_⟩
 have:=cj.map h (l.map (·.2))
 simpa[Function.comp_def] using this
theorem aal {α β:Type}{f:α->Option β}{g:α->Sem β}{w:World}(h:∀ a b,f a=some b->(g a).run P w = .ok b w):∀ (l:List α) (r:List β),oG f l=some r->(l.mapM g).run P w = .ok r w
 | [],r,hr=>by cases hr;simp
 | a::l,r,hr=>by
  unfold oG at hr
  split at hr
  ·rename_i b hb
   split at hr
   ·rename_i r' dg
    cases hr
    simp[h a b hb,aal h l r' dg]
   ·cases hr
  ·cases hr
theorem al1 {t:TypeId}{fs:Array Field}{z out:List AV}{pl:List (Nat × Nat)}{parts:List (Nat × AV)}{A0:Array (Nat × Value)}(hz:zc P t=some z)(hu:P.underlying t=some (.struct fs))
  (hZ:Q7 P fs=some pl) (hp:pI e parts A0.toList) (hf:rF (pl[·]?) z parts=some out) (w:World):∃ v',(Instr.build t A0).run P w = .ok v' w/\VR e (.agg out) v':=by
 obtain⟨i,z0,hi,dD,hl⟩:=vC (e:=e) hz
 have hm:(fs.mapM (fun f=>do Pure.pure (f.offset,<-sizeOf f.type)):Sem (Array (Nat × Nat))).run P w = .ok pl.toArray w:=by
  rw[<-Array.toArray_toList (xs:=fs),List.mapM_toArray]
  have:=aal (P:=P) (w:=w) (g:=fun f:Field=>(do Pure.pure (f.offset,<-sizeOf f.type):Sem (Nat × Nat))) (f:=fun f:Field=>(sz P f.type).map fun n=>(f.offset,n)) (by
   intro a b hb
   simp only[yS] at hb
   obtain⟨n,hn,rfl⟩:=hb
   simp[fw hn]) fs.toList pl hZ
  rw[Sem.run_map,this];rfl
 obtain⟨ja,ho,hr⟩:=Cw (e:=e) (wY:=(pl.toArray[·]?)) (fun i x hx=>by simpa using hx) parts A0.toList z out z0.cells hp hl hf
 refine⟨.agg ja,?_,.agg _ _ hr.1 hr.2⟩
 simp only[Instr.build,Sem.run_bind,oh hi dD,Result.andThen_ok,bY hu,hm,ho]
 rfl
theorem agX {t el s n:Nat}{z out:List AV}{parts:List (Nat × AV)}{A0:Array (Nat × Value)}(hz:zc P t=some z)(hu:P.underlying t=some (.array n el))
  (hs:sz P el=some s) (hp:pI e parts A0.toList) (hf:rF (fun i=>some (i*s,s)) z parts=some out) (w:World):∃ v',(Instr.build t A0).run P w = .ok v' w/\VR e (.agg out) v':=by
 obtain⟨i,z0,hi,dD,hl⟩:=vC (e:=e) hz
 obtain⟨ja,ho,hr⟩:=Cw (e:=e) (wY:=fun i=>some (i*s,s)) (fun i x hx=>hx) parts A0.toList z out z0.cells hp hl hf
 refine⟨.agg ja,?_,.agg _ _ hr.1 hr.2⟩
 simp only[Instr.build,Sem.run_bind,oh hi dD,Result.andThen_ok,bY hu,fw hs,ho]
 rfl
theorem V4 {α:Type}(z:List α):∀ (n i:Nat),i<n*z.length->(List.replicate n z).flatten[i]? = z[i % z.length]?
 | 0,i,h=>by simp at h
 | n+1,i,h=>by
  rw[ahn,ae0]
  by_cases hi:i<z.length
  ·rw[abi hi,afA hi]
  ·rw[abM (by omega),V4 z n _ (by rw[Nat.succ_mul] at h;omega)]
   congr 1
   have:i=(i-z.length)+z.length:=by omega
   rw[this,Nat.add_mod_right]
   congr 1
   omega
theorem abq (z:Array Value)(n:Nat):((Array.range (n*z.size)).map (z[· % z.size]!)).toList=(List.replicate n z.toList).flatten:=by
 apply List.ext_getElem?
 intro i
 by_cases hi:i<n*z.size
 ·rw[V4 z.toList n i (by simpa using hi)]
  have hz:0<z.size:=by
   rcases Nat.eq_zero_or_pos z.size with h | h
   ·rw[h] at hi;simp at hi
   ·exact h
  have bW:i % z.size<z.size:=ag2 _ hz
  simp[acF,hi,bW]
 ·rw[List.getElem?_eq_none (by simp;omega),List.getElem?_eq_none (by simp;omega)]
theorem cj.rep {z:List AV}{z':List Value}(h:cj e z z'):∀ n,cj e (rep n z) (List.replicate n z').flatten
 | 0=>by simpa[Am.rep] using cj.nil e
 | n+1=>by
  have:=h.append (cj.rep h n)
  simpa[Am.rep,ahn] using this
end
end
section
variable {P:Program}{G:Nat}{F:Nat->Prop}{W:World}{e:Em}{H:Hp}{w:World}
theorem S4:∀ {l:List AV} {bs:List Nat} {cs:List Value},uh l=some bs->cj e l cs->∃ us:List UInt8,bs=us.map (·.toNat)/\cs=us.map (fun b=>Value.int .u8 b.toNat)
 | [],bs,cs,h,hl=>by
  cases h
  rw[hl.gg]
  exact⟨[],rfl,rfl⟩
 | a::l,bs,cs,h,hl=>by
  unfold uh at h
  split at h
  ·rename_i h0;cases h0
  ·rename_i n r h0
   cases h0
   obtain⟨v',ws,rfl,hv,pW⟩:=hl.cons_inv
   cases hv.fh
   split at h
   ·rename_i hn
    simp only[aaK,decide_eq_true_eq] at hn
    simp only[ace,Option.pure_def,aaF,acf] at h
    obtain⟨bs',h1,rfl⟩:=h
    obtain⟨us,rfl,rfl⟩:=S4 h1 pW
    have hu:(UInt8.ofNat n.toNat).toNat=n.toNat:=by
     rw[UInt8.toNat_ofNat'];exact afA (by omega)
    refine⟨UInt8.ofNat n.toNat::us,by simp only[abc,hu],?_⟩
    have:((UInt8.ofNat n.toNat).toNat:Int)=n:=by rw[hu];omega
    simp only[abc,this]
   ·cases h
  ·cases h
theorem acZ (us:List UInt8):bytes ⟨us.toArray⟩=us.map (·.toNat):=rfl
theorem ZX:∀ (us:List UInt8) (s:ByteArray),(us.map fun b=>(b.toNat:Int)).foldl (fun r n=>r.push (UInt8.ofNat n.toNat)) s=⟨s.data++us.toArray⟩
 | [],s=>by simp
 | u::us,s=>by
  simp only[abc,List.foldl_cons,ZX us]
  congr 1
  simp[ByteArray.push]
theorem Qp {a:Addr}{us:List UInt8}{cap:Nat}(w:World)(h:∀ j v,(us.map (fun b=>Value.int .u8 b.toNat))[j]? = some v->w.cell? (a.add j)=some v) :
  (Conv.bytesToString (.slice (some a) us.length cap)).run P w = .ok (.string ⟨us.toArray⟩) w:=by
 have h1:=run_loadCells_list (P:=P) w a (us.map (fun b=>Value.int .u8 b.toNat)) h
 rw[acs] at h1
 have h2:=run_bytesToString (P:=P) w a us.length cap (us.map fun b=>(b.toNat:Int)) (by rw[h1];simp[Function.comp_def])
 rw[h2,ZX]
 simp[ByteArray.empty,ByteArray.emptyWithCapacity]
 rfl
theorem adu (n:Int)(h:0<=n/\n<128):bytes (Utf8.encode n)=[n.toNat]:=by
 obtain⟨k,rfl⟩:=Int.eq_ofNat_of_zero_le h.1
 have hk:k<128:=by omega
 have:∀ k:Fin 128,bytes (Utf8.encode ((k.val:Nat):Int))=[k.val]:=by decide +kernel
 exact this ⟨k,hk⟩
theorem agv (w:World)(C:Array Value)(el:TypeId)(b:Nat)(hb:b=w.heap.size) :
  World.freeze { w with heap:=w.heap.push (.cells C el (0,0)) } { block:=b,off:=C.size } 1={ w with heap:=w.heap.push (.cells C el (C.size,C.size+1)) }:=by
 subst hb
 simp only[World.freeze,Nat.one_ne_zero,if_false]
 congr 1
 apply Array.ext_getElem?
 intro k
 rw[Array.getElem?_modify]
 by_cases hk:w.heap.size=k
 ·subst hk;simp
 ·rw[if_neg hk,agx,agx,if_neg (fun q=>hk q.symm),if_neg (fun q=>hk q.symm)]
def kN (w:World)(el:TypeId)(s:ByteArray):Nat:=(Question.appendCap s.size 0 el).cut (w.tape w.drawn (.appendCap s.size 0 el))
def rv (w:World)(el:TypeId)(s:ByteArray):List Value:=(s.data.toList.map fun b=>Value.int .u8 b.toNat)++List.replicate (kN w el s-s.size) (.int .u8 0)
theorem Ki (w:World)(el:TypeId)(s:ByteArray):s.size<=kN w el s:=Nat.le_add_right _ _
theorem Qm (w:World)(el:TypeId)(s:ByteArray):(rv w el s).length=kN w el s:=by
 have:=Ki w el s
 have h2:s.data.size=s.size:=rfl
 simp[rv]
 omega
theorem Xz (P:Program)(w:World)(el:TypeId)(s:ByteArray) :
  (Conv.stringToBytes el s).run P w = .ok (.slice (some ⟨w.heap.size,0,none⟩) s.size (kN w el s)) { w with drawn:=w.drawn+1,heap:=w.heap.push (.cells (rv w el s).toArray el (kN w el s,kN w el s+1)) }:=by
 let w1:World:={ w with drawn:=w.drawn+1 }
 let cap:=kN w el s
 have eh:s.size<=cap:=Ki w el s
 let rest:List Value:=List.replicate (cap-s.size) (.int .u8 0)
 have hlen:((s.data.toList.map fun b=>Value.int .u8 b.toNat)++rest).length=cap:=Qm w el s
 have hC:(s.data.map fun b=>Value.int .u8 b.toNat)++Array.replicate (cap-s.size) (.int .u8 0)=((s.data.toList.map fun b=>Value.int .u8 b.toNat)++rest).toArray:=by
  apply acB.1
  simp[rest]
 have EW:(Question.appendCap s.size 0 el).forced=false:=rfl
 simp only[Conv.stringToBytes,Sem.run_bind,run_choose,EW,abP,if_false,Result.andThen_ok,newRow,run_newObj,Sem.run_pure]
 have hC':(s.data.map fun b=>Value.int .u8 b.toNat)++Array.replicate ((Question.appendCap s.size 0 el).cut (w.tape w.drawn (.appendCap s.size 0 el))-s.size) (.int .u8 0)=((s.data.toList.map fun b=>Value.int .u8 b.toNat)++rest).toArray:=hC
 rw[hC']
 have cC:((s.data.toList.map fun b=>Value.int .u8 b.toNat)++rest).toArray.size=cap:=by simpa using hlen
 have tH:(World.shape? { w1 with heap:=w.heap.push (.cells ((s.data.toList.map fun b=>Value.int .u8 b.toNat)++rest).toArray el (0,0)) } w.heap.size)=some (el,cap):=by
  simp only[World.shape?,Array.getElem?_push_size,cC]
 have Bx:=agv w1 ((s.data.toList.map fun b=>Value.int .u8 b.toNat)++rest).toArray el w.heap.size rfl
 rw[cC] at Bx
 have ad8:(World.shape? { w with heap:=w.heap.push (.cells ((s.data.toList.map fun b=>Value.int .u8 b.toNat)++rest).toArray el (0,0)),drawn:=w.drawn+1 } w.heap.size)=some (el,cap):=tH
 simp only[markStringish,Sem.run_bind,run_shape,Result.andThen_ok,ad8,run_freeze]
 have aee:World.freeze { w with heap:=w.heap.push (.cells ((s.data.toList.map fun b=>Value.int .u8 b.toNat)++rest).toArray el (0,0)),drawn:=w.drawn+1 } { block:=w.heap.size,off:=cap } 1=_:=Bx
 rw[aee]
 rfl
theorem Vg (e:Em)(s:ByteArray):cj e ((bytes s).map fun (b:Nat)=>AV.int .u8 b) (s.data.toList.map fun b=>Value.int .u8 b.toNat):=by
 refine⟨by simp[bytes],fun i v v' hv cH => ?_⟩
 simp only[bytes,afg,acD,yS] at hv cH
 obtain⟨u,hu,rfl⟩:=hv
 obtain⟨u',iL,rfl⟩:=cH
 rw[hu] at iL
 cases iL
 exact .int _ _
theorem ae3 (h:RH G F W e H w){s:ByteArray}{el i:Nat}{H':Hp}(hn:cP H ((bytes s).map fun (b:Nat)=>AV.int .u8 b) el 1=some (i,H')) :
  ∃ v' w' e',(Conv.stringToBytes el s).run P w = .ok v' w'/\e.le e'/\RH G F W e' H' w'/\VR e' (.slice i 0 (bytes s).length (bytes s).length false 1) v':=by
 have eh:=Ki w el s
 have h1:RH G F W e H { w with drawn:=w.drawn+1 }:=h.drawn _
 have hlen:=Qm w el s
 obtain⟨e',he,g1,g2,g3,g4,hr⟩:=h1.newRow (rest:=List.replicate (kN w el s-s.size) (.int .u8 0)) (fz:=(kN w el s,kN w el s+1)) hn (Vg e s) (by simp) (fun _ k hk=>by
  have lR:k<(rv w el s).length:=hk
  rw[hlen] at lR;simp;omega)
 refine⟨_,_,e',Xz P w el s,he,hr,?_⟩
 have hb:w.heap.size=e'.b i:=g2.symm
 rw[hb,uv]
 have g4':e'.n i=(rv w el s).length:=g4
 refine .slice i 0 s.size s.size false 1 0 _ g1 (by rw[g3];simp) eh eh (by simp) ?_
 rw[g4',hlen];omega
theorem agq {el:TypeId}{count:Nat}(hs:0<P.cellsOf el)(hc:P.cellsOf el<=count):liesAt P P.depth el (count / P.cellsOf el) 0 el 1=true:=by
 have hd:P.depth=(2*(P.types.size+Made.depth)+1)+1:=rfl
 have h1:1<=count / P.cellsOf el:=(Nat.le_div_iff_mul_le hs).2 (by omega)
 have h0:¬ P.cellsOf el=0:=by omega
 rw[hd]
 simp only[liesAt,af0]
 left
 rw[hd]
 simp only[rowAt,if_neg h0,af0,aaK]
 left
 simp[h1,sameLayout]
theorem QB (h:RH G F W e H w){i:Nat}{c:Tr AV}{lo hi el fl:Nat}(hg:H.h.get i=some (.cells c lo hi el fl)) :
  i<e.N/\∃ C fz,w.heap[e.b i]? = some (.cells C el fz)/\C.size=e.n i/\(lo=0->e.d i=0)/\(fl=0->fz=(0,0)):=by
 obtain⟨hN,ob,db,da,_⟩:=h.obj i _ hg
 cases da with
 | cells _ _ _ _ _ C fz hn eO h0 h1 hd=>exact⟨hN,C,fz,db,hn,hd,h0⟩
theorem aja (h:RH G F W e H w){src dst:TypeId}{x v:AV}{x':Value}{H':Hp}(hx:VR e x x')(hc:jG P src dst x H=some (v,H')) :
  ∃ v' w' e',(convert src dst x').run P w = .ok v' w'/\e.le e'/\RH G F W e' H' w'/\VR e' v v':=by
 unfold jG at hc
 split at hc
 ·rename_i s d hs hd
  split at hc
  ·cases hx.fh;cases hc
   exact⟨_,w,e,by simp[convert,bY hs,bY hd,Conv.intToInt],e.le_refl,h,.int _ _⟩
  ·rename_i n
   cases hx.fh
   split at hc
   ·rename_i hn
    cases hc
    rw[<-adu n hn]
    exact⟨_,w,e,by simp[convert,bY hs,bY hd,Conv.intToString],e.le_refl,h,.str _⟩
   ·cases hc
  ·obtain⟨b,rfl,rfl⟩:=hx.iS
   cases hc
   exact⟨_,w,e,by simp[convert,bY hs,bY hd],e.le_refl,h,.str _⟩
  ·rename_i el s
   obtain⟨b,rfl,rfl⟩:=hx.iS
   split at hc
   ·rename_i oS
    split at hc
    ·rename_i i H2 hn
     cases hc
     obtain⟨v',w',e',h1,h2,h3,h4⟩:=ae3 (P:=P) h hn
     exact⟨v',w',e',by simp[convert,bY hs,bY hd,bY oS,h1],h2,h3,h4⟩
    ·cases hc
   ·cases hc
  ·rename_i el0 el i off len cap ex es
   cases hb:(Nat.beq src dst&&Nat.blt 0 len) with
   | false=>rw[hb] at hc;cases hc
   | true=>
    rw[hb] at hc
    simp only[cond_true] at hc
    simp only[aaK,acY] at hb
    have hsd:src=dst:=aaV hb.1
    split at hc
    ·rename_i c lo hi lx oS hg
     cases hc
     obtain⟨hN,C,fz,db,hn,nZ,Jd⟩:=QB h hg
     have hf:=Jd rfl
     subst hf
     rcases hx.jJ with⟨o,k,vP,ho,hl,Gv,hO,rU,rfl⟩ | ⟨rfl,_,_,_⟩
     ·refine⟨.slice (some ⟨e.b i,o,none⟩) len k,w.freeze { block:=e.b i,off:=C.size } 1,e,?_,e.le_refl,?_,hx⟩
      ·have tH:w.shape? (e.b i)=some (lx,C.size):=by simp[World.shape?,db]
       simp[convert,bY hs,bY hd,bY oS,hsd,markStringish,tH]
      ·refine h.put hg rfl (nB := .cells C lx (C.size,C.size+1)) ?_ ?_ ?_ ?_ rfl rfl rfl
       ·simp[World.freeze]
       ·simp only[World.freeze,Nat.one_ne_zero,if_false]
        rw[GU _ _ _ db];simp
       ·intro k hk
        simp only[World.freeze,Nat.one_ne_zero,if_false]
        rw[Fu _ _ _ _ (fun q=>hk q.symm)]
       ·obtain⟨_,ob,Zk,da,_⟩:=h.obj i _ hg
        rw[db] at Zk
        cases Zk
        cases da with
        | cells _ _ _ _ _ C fz hn eO h0 h1 hd=>exact .cells _ _ _ _ _ _ _ hn eO (by simp) (fun _ k hk=>by simp;omega) hd
     ·omega
    ·cases hc
  ·rename_i el
   cases hx
   split at hc
   ·rename_i oS
    cases hc
    refine⟨.string .empty,w,e,by simp[convert,bY hs,bY hd,bY oS,Conv.bytesToString],e.le_refl,h,?_⟩
    exact .str .empty
   ·cases hc
  ·rename_i el i off len a1 a2 a3
   split at hc
   ·rename_i oS
    cases hz:Nat.beq len 0 with
    | true=>
     rw[hz] at hc
     cases hc
     have:len=0:=aaV hz
     subst this
     rcases hx.jJ with⟨o,k,vP,ho,hl,Gv,hO,rU,rfl⟩ | ⟨_,_,a,rfl⟩
     ·have:=Qp (P:=P) (a:=⟨e.b i,o,none⟩) (us:=[]) (cap:=k) w (by simp)
      exact⟨_,w,e,by simp only[convert,Sem.run_bind,bY hs,bY hd,bY oS,Result.andThen_ok];exact this,e.le_refl,h,.str ⟨#[]⟩⟩
     ·have:=Qp (P:=P) (a:=a) (us:=[]) (cap:=0) w (by simp)
      exact⟨_,w,e,by simp only[convert,Sem.run_bind,bY hs,bY hd,bY oS,Result.andThen_ok];exact this,e.le_refl,h,.str ⟨#[]⟩⟩
    | false=>
     rw[hz] at hc
     simp only[cond_false,aaF,yS,abI] at hc
     obtain⟨cs,dP,bs,Ap,rfl,rfl⟩:=hc
     rcases hx.jJ with⟨o,k,vP,ho,hl,Gv,hO,rU,rfl⟩ | ⟨rfl,_,a,rfl⟩
     ·obtain⟨vs,h1,h2,h3⟩:=h.yV dP ho
      obtain⟨us,rfl,rfl⟩:=S4 Ap h1
      rw[acs] at h2
      have:=Qp (P:=P) (a:=⟨e.b i,o,none⟩) (us:=us) (cap:=k) w (fun j v hj=>by rw[add_lit];exact h3 j v hj)
      rw[h2] at this
      refine⟨_,w,e,by simp only[convert,Sem.run_bind,bY hs,bY hd,bY oS,Result.andThen_ok];exact this,e.le_refl,h,?_⟩
      rw[<-acZ];exact .str _
     ·simp at hz
   ·cases hc
  ·rename_i t i o
   cases hb:((cellAt H i o).isSome&&yl P t) with
   | false=>rw[hb] at hc;cases hc
   | true=>
    rw[hb] at hc
    cases hc
    rw[aaK] at hb
    obtain⟨u,hu⟩:=acV.1 hb.1
    obtain⟨n,hn⟩:∃ n,sz P t=some (n+1):=by
     have:=hb.2
     unfold yl at this
     split at this
     ·rename_i n hn;exact⟨n,hn⟩
     ·cases this
    obtain⟨o',hi,ho,rfl⟩:=hx.jX
    have bW:=h.SQ hu ho
    obtain⟨c,lo,eG,el,fl,hg,_,_,_⟩:=LX hu
    obtain⟨hN,C,fz,db,rU,_,_⟩:=QB h hg
    have tH:w.shape? (e.b i)=some (el,C.size):=by simp[World.shape?,db]
    have dR:¬ C.size<=o':=by omega
    refine⟨_,w,e,?_,e.le_refl,h,hx⟩
    simp[convert,bY hs,bY hd,Conv.unsafePointer,Conv.seenAt,viewAt,cellsIn,tH,fw hn,dR]
  ·rename_i u i o
   split at hc
   ·rename_i c lo hi el fl hg
    cases hb:(Nat.beq el u&&Nat.beq lo 0&&Nat.beq o 0&&Nat.blt 0 (P.cellsOf u)&&(cellAt H i (P.cellsOf u-1)).isSome) with
    | false=>rw[hb] at hc;cases hc
    | true=>
     rw[hb] at hc
     cases hc
     simp only[aaK,acY] at hb
     obtain⟨⟨⟨⟨b1,b2⟩,b3⟩,b4⟩,b5⟩:=hb
     have e1:el=u:=aaV b1
     have e2:lo=0:=aaV b2
     have e3:o=0:=aaV b3
     subst e1;subst e2;subst e3
     obtain⟨q,hq⟩:=acV.1 b5
     obtain⟨hN,C,fz,db,rU,nZ,_⟩:=QB h hg
     obtain⟨o',hi,ho,rfl⟩:=hx.jX
     have hd0:=nZ rfl
     have TA:o'=0:=by omega
     subst TA
     have bW:=h.SQ (o:=P.cellsOf el-1) hq (by omega)
     have tH:w.shape? (e.b i)=some (el,C.size):=by simp[World.shape?,db]
     have hl:=agq (P:=P) (el:=el) (count:=C.size) b4 (by omega)
     have aeA:sz P el=some (P.cellsOf el):=by
      unfold sz
      unfold Program.cellsOf at b4 ⊢
      cases hi:P.info? el with
      | none=>simp[hi] at b4
      | some inf=>simp
     refine⟨_,w,e,?_,e.le_refl,h,hx⟩
     simp[convert,bY hs,bY hd,Conv.unsafePointer,Conv.seenAt,viewAt,tH,fw aeA,variablesAt,hl]
   ·cases hc
  ·cases hc
 ·cases hc
end
end Go.Proofs.YtbdlbhlhnpblpaaGreatDoor.Am
