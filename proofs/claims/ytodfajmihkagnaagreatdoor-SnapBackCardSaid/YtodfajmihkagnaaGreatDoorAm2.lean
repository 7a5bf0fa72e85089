/- Laws that the proof uses. -/
import Derived.Test.YtodfajmihkagnaaGreatDoorAm1
set_option maxHeartbeats 2000000
set_option linter.unusedVariables false
set_option linter.unusedSimpArgs false
namespace Go.Proofs.YtodfajmihkagnaaGreatDoor.Am
section
section
section
section
def fg (P:Program)(G:Nat)(F:Nat->Prop)(W:World)(e:Em)(v:AV)(H':Hp)(r:Result Next):Prop:=
 ∃n w' e' v',r=.ok n w'/\(n=.value v'\/(n=.skip/\v'=undef))/\e.le e'/\RH G F W e' H' w'/\VR e' v v'
section
variable {P:Program}{G:Nat}{F:Nat->Prop}{W:World}{e:Em}{H:Hp}{w:World}
section
variable {H':Hp}{cap f i off:Nat}{cs l:List AV}{e':Em}{fs:Array Field}{high low mx:Option AV}{EY Bj mx':Option Value}{ix x:AV}{ix' v' x':Value}{k:IntKind}{w':World}
theorem fg.pure {s:Sem Value}{v:AV}(h:RH G F W e H w)(hs:s.run P w=.ok v' w)(hv:VR e v v'):
  fg P G F W e v H ((do Pure.pure (Next.value (<-s)):Sem Next).run P w):=
 ⟨.value v',w,e,v',by simp[hs],.inl rfl,e.le_refl,h,hv⟩
theorem fg.val {s:Sem Value}{v:AV}(hs:s.run P w=.ok v' w')(he:e.le e')(h:RH G F W e' H' w')(hv:VR e' v v'):
  fg P G F W e v H' ((do Pure.pure (Next.value (<-s)):Sem Next).run P w):=
 ⟨.value v',w',e',v',by simp[hs],.inl rfl,he,h,hv⟩
theorem VR.undef:VR e bS undef:=.tuple [] #[] rfl zzy
theorem fg.unit {s:Sem Unit}(hs:s.run P w=.ok () w')(he:e.le e')(h:RH G F W e' H' w'):
  fg P G F W e bS H' ((do s;Pure.pure Next.skip:Sem Next).run P w):=
 ⟨.skip,w',e',_,by simp[hs],.inr ⟨rfl,rfl⟩,he,h,.undef⟩
theorem VR.qS {v:Value}{a:AV}(h:qS v=some a):VR e a v:=by unfold Am.qS at h;split at h<;>simp only[acD,reduceCtorEq] at h<;>subst h<;>constructor
theorem aW.qS:∀{vs:List Value} {l:List AV},vs.mapM Am.qS=some l->aW e l vs
 |[],l,h=>by simp at h;subst h;exact .nil e
 |v::vs,l,h=>by simp only[List.mapM_cons,abY,Option.pure_def,aaV,acD] at h;obtain⟨a,ha,r,hr,rfl⟩:=h;exact .cons (.qS ha) (aW.qS hr)
theorem VR.lA {v:Value}{a:AV}(h:lA v=some a):VR e a v:=by
 unfold Am.lA at h;split at h;·simp only[aaq] at h;obtain⟨l,hl,rfl⟩:=h;have:=aW.qS (e:=e) hl;exact .agg _ _ this.1 this.2
 ·simp only[aaq] at h;obtain⟨l,hl,rfl⟩:=h;have:=aW.qS (e:=e) hl;exact .tuple _ _ this.1 this.2
 ·simp only[aaq] at h;obtain⟨l,hl,rfl⟩:=h;exact .iface _ _ _ (.qS hl)
 ·exact .qS h
theorem Cj {t:TypeId}(h:zc P t=some l):∃i z,P.info? t=some i/\i.zero=some z/\aW e l z.cells.toList:=by simp only[zc,abY,aaV] at h;obtain⟨i,hi,z,hz,hl⟩:=h;exact⟨i,z,hi,hz,.qS hl⟩
theorem vt {t:TypeId}{i:TypeInfo}{z:Value}(hi:P.info? t=some i)(hz:i.zero=some z)(w:World):(zeroValue t).run P w=.ok z w:=by simp[zeroValue,sK hi,hz]
theorem aqh (h:RH G F W e H w){t:TypeId}(hz:zc P t=some l)(hn:az H l t 0=some (i,H')):
  ∃v' w' e',(Instr.alloc t true (.tuple #[])).run P w=.ok v' w'/\e.le e'/\RH G F W e' H' w'/\VR e' (.ptr i 0) v':=by
 obtain⟨inf,z,hi,gN,hl⟩:=Cj (e:=e) hz;obtain⟨e',he,h1,h2,h3,h4,hr⟩:=h.newRow (rest:=[]) (fz:=(0,0)) hn hl (λ_=>rfl) zzy;refine⟨.pointer (some ⟨w.heap.size,0,none⟩),_,e',?_,he,hr,?_⟩;·simp[Instr.alloc,vt hi gN,newVar,Go.newRow]
 ·rw[<-h2];exact .ptr i 0 0 h1 (by rw[h3];simp)
theorem atm (h:RH G F W e H w){t:TypeId}{v:AV}(hv:VR e v v')(hz:uu v=some l)(hn:az H l t 0=some (i,H')):
  ∃u w' e',(Instr.box t v').run P w=.ok u w'/\e.le e'/\RH G F W e' H' w'/\VR e' (.ptr i 0) u:=by
 have hl:=hv.cells hz;obtain⟨e',he,h1,h2,h3,h4,hr⟩:=h.newRow (rest:=[]) (fz:=(0,0)) hn hl (λ_=>rfl) zzy;refine⟨.pointer (some ⟨w.heap.size,0,none⟩),_,e',?_,he,hr,?_⟩;·simp[Instr.box,newVar,Go.newRow]
 ·rw[<-h2];exact .ptr i 0 0 h1 (by rw[h3];simp)
theorem Dz {t:TypeId}{vs:Array Value}{v:AV}(hl:aW e cs vs.toList)(hp:pE P t cs off=some v)(w:World):
  ∃v',(part t vs off).run P w=.ok v' w/\VR e v v':=by
 simp only[pE,abY,aaV] at hp;obtain⟨b,hb,hp⟩:=hp;cases b with
 |true=>
  simp only[if_true,aaV] at hp;obtain⟨n,hn,hp⟩:=hp;cases hc:Nat.ble (off+n) cs.length with
  |false=>rw[hc] at hp;cases hp
  |true=>
   rw[hc] at hp;simp only[cond_true,acD] at hp;subst hp;refine⟨.agg (vs.extract off (off+n)),by simp[part,Sk hb,ji hn],?_⟩;have:=(hl.drop off).take n;have e2:(vs.extract off (off+n)).toList=(vs.toList.drop off).take n:=by simp[Array.toList_extract,List.extract]
   exact .agg _ _ (by rw[e2];exact this.1) (by rw[e2];exact this.2)
 |false=>
  simp only[aa8,if_false] at hp;obtain⟨v',bQ,hr⟩:=hl.get hp;rw[ad6] at bQ;exact⟨v',by simp[part,Sk hb,bQ],hr⟩
theorem axi {t:TypeId}{v:AV}{fd:Field}(hx:VR e x x')(hu:P.underlying t=some (.struct fs))(hf:fs[f]?=some fd)
  (hxs:x=.agg cs) (hp:pE P fd.type cs fd.offset=some v) (w:World):∃v',(Instr.field t x' f).run P w=.ok v' w/\VR e v v':=by
 subst hxs;obtain⟨vs,rfl,hl⟩:=hx.Aw;obtain⟨v',bQ,hr⟩:=Dz hl hp w;exact⟨v',by simp[Instr.field,aL hu,hf,asAgg,bQ],hr⟩
theorem arN {t:TypeId}{o n:Nat}{fd:Field}(hx:VR e (.ptr i o) x')(hu:P.underlying t=some (.struct fs))(hf:fs[f]?=some fd)
  (hs:sz P fd.type=some n) (hn:n≠0) (w:World):∃v',(Instr.fieldAt t x' f).run P w=.ok v' w/\VR e (.ptr i (o+fd.offset)) v':=by
 obtain⟨o',hi,ho,rfl⟩:=hx.vP;refine⟨.pointer (some ⟨e.b i,o'+fd.offset,none⟩),?_,.ptr _ _ _ hi zzz⟩;simp[Instr.fieldAt,aL hu,hf,Instr.sureAddr,fieldPlace,ji hs,hn,add_lit]
theorem ayX {t:TypeId}{v:AV}(hx:VR e x x')(tu:VR e ix ix')(ha:I7 P t x ix=some v)(w:World):
  ∃v',(Instr.indexAt t x' ix').run P w=.ok v' w/\VR e v v':=by
 simp only[I7,abY,aaV] at ha;obtain⟨d,hd,ha⟩:=ha;split at ha
 ·rename_i n el i off kk k;simp only[aaV] at ha;obtain⟨es,ef,ha⟩:=ha;split at ha;·rename_i hk;simp only[aaM,zz5] at hk;cases ha;obtain⟨o,hi,ho,rfl⟩:=hx.vP;obtain rfl:=tu.ij;refine⟨.pointer (some ⟨e.b i,o+k.toNat*es,none⟩),?_,.ptr _ _ _ hi zzz⟩;simp[Instr.indexAt,asIntOf,aL hd,Instr.sureAddr,hk.1,hk.2,ji ef,add_lit]
  ·cases ha
 ·rename_i el i off len cap ex es kk k;simp only[aaV] at ha;obtain⟨es',ef,ha⟩:=ha;split at ha
  ·rename_i hk;simp only[aaM,zz5,zz6] at hk;obtain⟨⟨rfl,xA⟩,iu⟩:=hk;cases ha;obtain rfl:=tu.ij;rcases hx.nN with⟨o,c,hi,ho,hl,hc,ki,hn,rfl⟩|⟨rfl,_,_,_⟩;·refine⟨.pointer (some ⟨e.b i,o+k.toNat*es',none⟩),?_,.ptr _ _ _ hi zzz⟩;simp[Instr.indexAt,asIntOf,aL hd,xA,iu,ji ef,add_lit]
   ·omega
  ·cases ha
 ·cases ha
theorem apW {t:TypeId}{v:AV}(hx:VR e x x')(tu:VR e ix ix')(ha:I3 P t x ix=some v)(w:World):
  ∃v',(Instr.index t x' ix').run P w=.ok v' w/\VR e v v':=by
 simp only[I3,abY,aaV] at ha;obtain⟨d,hd,ha⟩:=ha;split at ha
 ·rename_i n el cs kk k;simp only[aaV] at ha;obtain⟨es,ef,ha⟩:=ha;split at ha;·rename_i hk;simp only[aaM,zz5] at hk;obtain⟨vs,rfl,hl⟩:=hx.Aw;obtain rfl:=tu.ij;obtain⟨v',bQ,hr⟩:=Dz hl ha w;exact⟨v',by simp[Instr.index,asIntOf,aL hd,hk.1,hk.2,ji ef,bQ],hr⟩
  ·cases ha
 ·rename_i s kk k;split at ha
  ·rename_i hk;obtain⟨b,rfl,rfl⟩:=hx.og;obtain rfl:=tu.ij;simp only[aaq] at ha;obtain⟨c,hc,rfl⟩:=ha;simp only[bytes,ab9,aaq] at hc;obtain⟨u,hu,rfl⟩:=hc;refine⟨.int .u8 u.toNat,?_,.int _ _⟩;have hb:b[k.toNat]?=some u:=by
    have h1:k.toNat<b.data.toList.length:=(aag.1 hu).1;have h2:k.toNat<b.size:=by rw[alU] at h1;exact h1
    rw[getElem?_pos b k.toNat h2];congr 1;have h3:=(aag.1 hu).2;rw[<-h3];rfl
   simp[Instr.index,asIntOf,aL hd,hk,hb]
  ·cases ha
 ·cases ha
theorem Ir {lo hi:Nat}{v:AV}{n:Nat}(hv:VR e v v')(h:bound lo hi v=some n):∃k:IntKind,∃z:Int,v'=.int k z/\lo<=n/\n<=hi/\z=n:=by
 unfold bound at h;split at h
 ·rename_i k z;split at h;·rename_i hk;simp only[aaM,zz5] at hk;cases h;exact⟨k,z,hv.ij,zzz,zzz,zzz⟩
  ·cases h
 ·cases h
def zC (e:Em):Option AV->Option Value->Prop
 |none,none=>True|some a,some b=>VR e a b|_,_=>False
theorem BI {z:Int}{n y:Nat}{code:BoundsCode}(h:z=n)(hy:n<=y)(w:World):(Instr.sliceBound (.int k z) y code).run P w=.ok n w:=by subst h;simp[Instr.sliceBound,asIntOf,hy]
theorem LJ {vb:Bool}{len wV:Nat}(h1:zC e low Bj)(h2:zC e high EY)(h3:zC e mx mx')
  {l h m:Nat} (hb:uJ len cap low high mx=some (l,h,m)) (hl:len<=wV) (hc:cap<=wV) (w:World):
  (Instr.sliceBounds vb len wV Bj EY mx').run P w=.ok (l,h,if mx.isSome then m else wV) w/\l<=h/\(mx=none->m=cap)/\(mx.isSome=true->h<=m/\m<=cap)/\(high=none->h=len)/\(mx=none->high.isSome=true->h<=cap):=by
 simp only[uJ,abY,aaV,Option.pure_def,acD,abW] at hb;obtain⟨m0,hm,h0,hh,l0,tw,rfl,rfl,rfl⟩:=hb;cases mx with
 |some mv=>
  cases mx' with
  |none=>exact h3.elim|some mv'=>
   obtain⟨km,zm,rfl,_,sW,hm3⟩:=Ir h3 hm;cases high with
   |none=>cases hh
   |some hv=>
    cases EY with
    |none=>exact h2.elim|some bQ=>
     obtain⟨kh,zh,rfl,_,sU,OK⟩:=Ir h2 hh;cases low with
     |none=>
      cases Bj with
      |some _=>exact h1.elim|none=>
       cases tw;refine⟨?_,zzz,zzy,λ_=>⟨sU,sW⟩,zzy,zzy⟩;simp[Instr.sliceBounds,BI hm3 (show m0<=wV by omega),BI OK sU]
     |some lv=>
      cases Bj with
      |none=>exact h1.elim|some lv'=>
       obtain⟨kl,zl,rfl,_,qK,GB⟩:=Ir h1 tw;refine⟨?_,qK,zzy,λ_=>⟨sU,sW⟩,zzy,zzy⟩;simp[Instr.sliceBounds,BI hm3 (show m0<=wV by omega),BI OK sU,BI GB qK]
 |none=>
  cases mx' with
  |some _=>exact h3.elim|none=>
   cases hm;cases high with
   |none=>
    cases EY with
    |some _=>exact h2.elim|none=>
     cases hh;cases low with
     |none=>
      cases Bj with
      |some _=>exact h1.elim|none=>cases tw;exact⟨by simp[Instr.sliceBounds],zzz,zzy,zzy,zzy,zzy⟩
     |some lv=>
      cases Bj with
      |none=>exact h1.elim|some lv'=>
       obtain⟨kl,zl,rfl,_,qK,GB⟩:=Ir h1 tw;exact⟨by simp[Instr.sliceBounds,BI GB qK],qK,zzy,zzy,zzy,zzy⟩
   |some hv=>
    cases EY with
    |none=>exact h2.elim|some bQ=>
     obtain⟨kh,zh,rfl,_,sU,OK⟩:=Ir h2 hh;cases low with
     |none=>
      cases Bj with
      |some _=>exact h1.elim|none=>cases tw;exact⟨by simp[Instr.sliceBounds,BI OK (show h0<=wV by omega)],zzz,zzy,zzy,zzy,λ_ _=>sU⟩
     |some lv=>
      cases Bj with
      |none=>exact h1.elim|some lv'=>
       obtain⟨kl,zl,rfl,_,qK,GB⟩:=Ir h1 tw;exact⟨by simp[Instr.sliceBounds,BI OK (show h0<=wV by omega),BI GB qK],qK,zzy,zzy,zzy,λ_ _=>sU⟩
theorem aW.aen (b:ByteArray)(l h:Nat):((bytes b).drop l).take (h-l)=bytes (b.extract l h):=by unfold bytes;rw[ByteArray.data_extract,Array.toList_extract,List.extract,List.map_take,List.map_drop]
theorem axO (hRH:RH G F W e H w){t:TypeId}{v:AV}(hx:VR e x x')(h1:zC e low Bj)(h2:zC e high EY)(h3:zC e mx mx')
  (ha:uy P t x low high mx H=some v):∃v',(Instr.sliceAt t x' Bj EY mx').run P w=.ok v' w/\VR e v v':=by
 simp only[uy,abY,aaV] at ha;obtain⟨d,hd,ha⟩:=ha;split at ha
 ·rename_i s;obtain⟨b,rfl,rfl⟩:=hx.og;cases mx with
  |some _=>simp at ha|none=>
   cases mx' with
   |some _=>exact h3.elim|none=>
    simp only[agw,aa8,if_false,aaV,Prod.exists] at ha;obtain⟨l,h,m,hb,hv⟩:=ha;simp only[acD] at hv;subst hv;have fN:(bytes b).length=b.size:=by unfold bytes;rw[abv,alU];rfl
    rw[fN] at hb;obtain⟨hr,UC,hm,_,Df,sU⟩:=LJ (P:=P) (vb:=false) h1 h2 h3 hb (aaO _) (aaO _) w;simp only[agw,aa8,if_false] at hr;refine⟨.string (b.extract l h),by simp[Instr.sliceAt,Instr.slice,aL hd,hr],?_⟩;rw[aW.aen];exact .str _
 ·rename_i el;simp only[aaV,Prod.exists] at ha;obtain⟨l,h,m,hb,hv⟩:=ha;split at hv
  ·rename_i hs;simp only[acD] at hv;subst hv;obtain⟨es,ef⟩:=ajm.1 hs;cases hx;obtain⟨hr,UC,hm,sW,Df,sU⟩:=LJ (P:=P) (vb:=true) h1 h2 h3 hb (aaO _) (aaO _) w;refine⟨.slice none 0 0,?_,.ah⟩;have hh:h=0:=by
    cases mx with
    |some _=>have:=sW rfl;omega|none=>
     cases high with
     |none=>exact Df rfl|some _=>have:=sU rfl rfl;omega
   have tw:l=0:=zzz;subst hh;subst tw;have UK:(if mx.isSome=true then m else 0)=0:=by
    split;·rename_i hms;have:=sW hms;omega
    ·rfl
   rw[UK] at hr;simp[Instr.sliceAt,Instr.slice,aL hd,hr,ji ef]
  ·cases hv
 ·rename_i el i off len cap ex es;simp only[aaV,Prod.exists] at ha;obtain⟨l,h,m,hb,es',ef,hv⟩:=ha;split at hv
  ·rename_i hs;simp only[zz6] at hs;subst hs;simp only[acD] at hv;subst hv;rcases hx.nN with⟨o,c,hi,ho,hl,hc,ki,hn,rfl⟩|⟨rfl,rfl,a,rfl⟩
   ·obtain⟨hr,UC,hm,sW,Df,sU⟩:=LJ (P:=P) (vb:=true) h1 h2 h3 hb hl hc w;have IB:h<=(if mx.isSome=true then m else c)/\m<=(if mx.isSome=true then m else c)/\(if mx.isSome=true then m else c)<=c/\((ex||mx.isSome)=true->(if mx.isSome=true then m else c)=m):=by
     cases mx with
     |some _=>have:=sW rfl;simp;omega|none=>
      have hmc:=hm rfl;simp only[agw,aa8,if_false,Bool.or_false];refine⟨?_,zzz,zzz,λmI=>by rw[ki mI,hmc]⟩;cases high with
      |none=>have:=Df rfl;omega|some _=>have:=sU rfl rfl;omega
    generalize (if mx.isSome=true then m else c)=m' at hr IB;obtain⟨SI,xO,hq3,Z5⟩:=IB;by_cases xZ:m'=l;·have e1:h-l=0:=zzz;have e2:m-l=0:=zzz;refine⟨.slice (some ⟨e.b i,o,none⟩) 0 0,?_,by rw[e1,e2];exact .EF ..⟩;have e3:h=l:=zzz;simp[Instr.sliceAt,Instr.slice,aL hd,hr,ji ef,xZ,e3]
    ·refine⟨.slice (some ⟨e.b i,o+l*es',none⟩) (h-l) (m'-l),?_,.slice _ _ _ _ _ _ _ _ hi zzz zzz zzz (λmI=>by rw[Z5 mI]) ?_⟩;·simp[Instr.sliceAt,Instr.slice,aL hd,hr,ji ef,xZ,add_lit]
     ·have:o+l*es'+(m'-l)*es'=o+m'*es':=by rw[ak2,<-afs];congr 2;omega
      rw[this];have:m'*es'<=c*es':=ad4 _ hq3;omega
   ·obtain⟨hr,UC,hm,sW,Df,sU⟩:=LJ (P:=P) (vb:=true) (wV:=0) h1 h2 h3 hb (aaO _) (aaO _) w;have hh:h=0:=by
     cases mx with
     |some _=>have:=sW rfl;omega|none=>
      cases high with
      |none=>exact Df rfl|some _=>have:=sU rfl rfl;omega
    have tw:l=0:=zzz;have UK:(if mx.isSome=true then m else 0)=0:=by
     split;·rename_i hms;have:=sW hms;omega
     ·rfl
    have Dp:m=0:=by
     cases mx with
     |some _=>have:=sW rfl;omega|none=>exact hm rfl
    subst hh;subst tw;subst Dp;rw[UK] at hr;exact⟨.slice (some a) 0 0,by simp[Instr.sliceAt,Instr.slice,aL hd,hr,ji ef],.EF ..⟩
  ·cases hv
 ·rename_i n el i off;simp only[aaV,Prod.exists] at ha;obtain⟨l,h,m,hb,es,ef,hv⟩:=ha;split at hv
  ·rename_i hs;simp only[aaM,adW] at hs;obtain⟨vG,oq⟩:=hs;obtain⟨u,hu⟩:=ajm.1 oq;simp only[acD] at hv;subst hv;obtain⟨o,hi,ho,rfl⟩:=hx.vP;obtain⟨hr,UC,hm,sW,Df,sU⟩:=LJ (P:=P) (vb:=false) h1 h2 h3 hb (aaO _) (aaO _) w;have aR:=hRH.abV (o:=o+n*es-1) hu zzz;have hmn:(if mx.isSome=true then m else n)=m/\m<=n/\h<=m:=by
    cases mx with
    |some _=>have:=sW rfl;simp;omega|none=>
     have:=hm rfl;subst this;refine⟨zzy,aaO _,?_⟩;cases high with
     |none=>have:=Df rfl;omega|some _=>exact sU rfl rfl
   rw[hmn.1] at hr;obtain⟨_,SI,xO⟩:=hmn;by_cases xZ:m=l;·have e1:h-l=0:=zzz;have e2:m-l=0:=zzz;refine⟨.slice (some ⟨e.b i,o,none⟩) 0 0,?_,by rw[e1,e2];exact .EF ..⟩;have e3:h=l:=zzz;simp[Instr.sliceAt,aL hd,Instr.sureAddr,hr,ji ef,xZ,e3]
   ·refine⟨.slice (some ⟨e.b i,o+l*es,none⟩) (h-l) (m-l),?_,.slice _ _ _ _ _ _ _ _ hi zzz zzz zzz (λ_=>rfl) ?_⟩;·simp[Instr.sliceAt,aL hd,Instr.sureAddr,hr,ji ef,xZ,add_lit]
    ·have:o+l*es+(m-l)*es=o+m*es:=by rw[ak2,<-afs];congr 2;omega
     rw[this];have:m*es<=n*es:=ad4 _ SI;omega
  ·cases hv
 ·cases ha
end
end
end
section
variable {P:Program}{G:Nat}{F:Nat->Prop}{W:World}{e:Em}{H:Hp}{w:World}
theorem Be (b:ByteArray):(bytes b).length=b.size:=by unfold bytes;rw[abv,alU];rfl
theorem ae1:∀{x y:List UInt8},x.map (·.toNat)=y.map (·.toNat)->x=y
 |[],[],_=>rfl|[],_::_,h=>by simp at h
 |_::_,[],h=>by simp at h
 |a::x,b::y,h=>by simp only[aby,List.cons.injEq] at h;rw[UInt8.toNat_inj.1 h.1,ae1 h.2]
theorem bytes_beq (a b:ByteArray):(bytes a==bytes b)=(a.data.toList==b.data.toList):=by
 unfold bytes;by_cases h:a.data.toList=b.data.toList;·rw[h];simp
 ·have:¬(a.data.toList.map (·.toNat)=b.data.toList.map (·.toNat)):=λh2=>h (ae1 h2);rw[beq_eq_false_iff_ne.2 h,beq_eq_false_iff_ne.2 this]
theorem aoU:∀(x y:List UInt8),tj (x.map (·.toNat)) (y.map (·.toNat))=Op.bytesLess x y
 |x,[]=>by cases x<;>simp[tj,Op.bytesLess]
 |[],b::y=>by simp[tj,Op.bytesLess]
 |a::x,b::y=>by
  simp only[aby,tj,Op.bytesLess,aoU x y];congr 1
  ·by_cases h:a.toNat<b.toNat
   ·have:a<b:=by rw[UInt8.lt_iff_toNat_lt];exact h
    simp[this,h]
   ·have:¬a<b:=by rw[UInt8.lt_iff_toNat_lt];exact h
    have h2:Nat.blt a.toNat b.toNat=false:=by
     cases hb:Nat.blt a.toNat b.toNat;·rfl
     ·rw[adW] at hb;exact absurd hb h
    simp[this,h2]
  ·congr 1;by_cases h:a=b;·subst h;simp
   ·have h2:¬a.toNat=b.toNat:=λq=>h (UInt8.toNat_inj.1 q);rw[rm h2,beq_eq_false_iff_ne.2 h]
theorem aAm (a b:ByteArray):bytes (a++b)=bytes a++bytes b:=by unfold bytes;rw[ByteArray.data_append,Array.toList_append,acY]
theorem anW (k:IntKind)(a:Int)(h:0<=a):(BitVec.ofInt k.bits a).toNat=a.toNat%2^k.bits:=by
 rw[amd];obtain⟨n,rfl⟩:=Int.eq_ofNat_of_zero_le h;rw[abI];have:((n:Int)%((2^k.bits:Nat):Int))=((n%2^k.bits:Nat):Int):=by norm_cast
 rw[this,abI]
theorem ao2 {α:Type}(g:α->Option Bool)(body:α->Option Bool×Unit->Sem (ForInStep (Option Bool×Unit)))(w:World)
  (hb:∀a b,g a=some b->(body a (none,())).run P w=.ok (if b then .yield (none,()) else .done (some false,())) w):
  ∀(l:List α) (b:Bool),uf g l=some b->(forIn l (none,()) body).run P w=.ok (if b then (none,()) else (some false,())) w:=by
 intro l;induction l with
 |nil=>intro b h;simp only[uf,acD] at h;subst h;simp|cons a r ih=>
  intro b h;unfold uf at h;split at h;·rename_i hg;rw[List.forIn_cons,Sem.run_bind,hb a true hg];exact ih b h
  ·rename_i hg;cases h;rw[List.forIn_cons,Sem.run_bind,hb a false hg];simp
  ·cases h
theorem amH (p q:ByteArray):(p==q)=(bytes p==bytes q):=by
 rw[bytes_beq];have h0:(p==q)=(p.data==q.data):=by cases p;cases q;rfl
 rw[h0];by_cases e:p.data=q.data;·rw[e];simp
 ·have:¬p.data.toList=q.data.toList:=λh2=>e (adT.1 h2);rw[beq_eq_false_iff_ne.2 e,beq_eq_false_iff_ne.2 this]
theorem akO (h:RH G F W e H w){i:Nat}(hc:clean H i=true):∃C el,i<e.N/\w.heap[e.b i]?=some (.cells C el (0,0))/\(∃o,H.h.get i=some o/\wr o=true):=by
 unfold clean at hc;split at hc
 ·rename_i c lo hi el hg;obtain⟨hN,ob,eW,fj,_⟩:=h.obj i _ hg;cases fj with
  |cells _ _ _ _ _ C fz hn kO h0 h1 hd=>
   have:=h0 rfl;subst this;exact⟨C,el,hN,eW,_,hg,rfl⟩
 ·cases hc
theorem Od (h:RH G F W e H w):∀(d D:Nat),d<=D->∀(t:TypeId) (x y:AV) (x' y':Value) (b:Bool),VR e x x'->VR e y y'->eO P d t x y H=some b->
  (Op.equalIn D t x' y').run P w=.ok b w:=by
 intro d;induction d with
 |zero=>intro D _ t x y x' y' b _ _ hb;cases hb
 |succ d ih=>
  intro D hD t x y x' y' b hx hy hb;obtain⟨D,rfl⟩:∃k,D=k+1:=⟨D-1,zzz⟩;unfold eO at hb;split at hb;·cases hb
  rename_i u hu;split at hb;·cases hx.y7;cases hy.y7;cases hb;simp[Op.equalIn,aL hu]
  ·cases hx.ij;cases hy.ij;split at hb;·rename_i hk;cases hb;simp[Op.equalIn,aL hu,hk]
   ·cases hb
  ·obtain⟨p,rfl,rfl⟩:=hx.og;obtain⟨q,rfl,rfl⟩:=hy.og;cases hb;have:=amH p q;simp[Op.equalIn,aL hu,this]
  ·cases hx;cases hy;cases hb;simp[Op.equalIn,aL hu]
  ·cases hx;cases hy;cases hb;simp[Op.equalIn,aL hu]
  ·cases hx;cases hy;cases hb;simp[Op.equalIn,aL hu]
  ·rename_i el i a j c;split at hb
   ·rename_i n hn;obtain⟨o,hi,ho,rfl⟩:=hx.vP;obtain⟨o2,hj,qJ,rfl⟩:=hy.vP;cases mO:Nat.beq i j with
    |true=>
     have:i=j:=aa9 mO;subst this;rw[mO] at hb;cases hb;have:(Nat.beq a c)=(o==o2):=by
      by_cases q:a=c;·subst q;have:o=o2:=zzz;subst this;simp
      ·rw[rm q,beq_eq_false_iff_ne.2 zzz]
     simp[Op.equalIn,aL hu,ji hn,sameAddr,this];by_cases q:o=o2;·subst q;simp
     ·rw[beq_eq_false_iff_ne.2 q,beq_eq_false_iff_ne.2 (by simp;exact q)]
    |false=>
     rw[mO] at hb;cases tP:(clean H i&&clean H j) with
     |false=>rw[tP] at hb;cases hb
     |true=>
      rw[tP] at hb;cases hb;rw[aaM] at tP;obtain⟨C1,l1,_,g1,o1,q1,u1⟩:=akO h tP.1;obtain⟨C2,l2,_,g2,o3,q2,u2⟩:=akO h tP.2;have aF:¬e.b i=e.b j:=λq=>by have:=h.inj i j _ _ q1 q2 (.inl u1) q;subst this;simp at mO
      have f1:∀k,w.frozen? ⟨e.b i,k,none⟩=false:=λk=>by simp[World.frozen?,g1]
      have f2:∀k,w.frozen? ⟨e.b j,k,none⟩=false:=λk=>by simp[World.frozen?,g2]
      have s1:w.shape? (e.b i)=some (l1,C1.size):=by simp[World.shape?,g1]
      have s2:w.shape? (e.b j)=some (l2,C2.size):=by simp[World.shape?,g2]
      simp[Op.equalIn,aL hu,ji hn,sameAddr,aF,f1,f2,noView,viewAt,s1,s2,mayBeOne,stringish]
   ·cases hb
  ·cases hx;cases hy;cases hb;simp[Op.equalIn,aL hu]
  ·cases hx;cases hy;cases hb;simp[Op.equalIn,aL hu]
  ·cases hx;cases hy;cases hb;simp[Op.equalIn,aL hu]
  ·rename_i t1 v1 t2 v2;cases hx with
   |iface _ _ v1' oV=>
   cases hy with
   |iface _ _ Jc vD=>
   split at hb
   ·rename_i ht;subst ht;split at hb
    ·rename_i inf jX;cases VN:inf.comparable with
     |false=>rw[VN] at hb;cases hb
     |true=>
      rw[VN] at hb;have:=ih D zzz t1 v1 v2 v1' Jc b oV vD hb;simp[Op.equalIn,aL hu,sK jX,VN,this]
    ·cases hb
   ·rename_i ht;cases hb;simp[Op.equalIn,aL hu,ht]
  ·rename_i fs xs ys;cases aC:P.stoodInHeld t with
   |true=>rw[aC] at hb;cases hb
   |false=>
    rw[aC] at hb;simp only[cond_false] at hb;obtain⟨vx,rfl,gC⟩:=hx.Aw;obtain⟨vy,rfl,hly⟩:=hy.Aw;have key:=ao2 (P:=P) (g:=λf:Field=>if f.name = "_" then some true else
     match pE P f.type xs f.offset,pE P f.type ys f.offset with
     |some a,some b=>eO P d f.type a b H|_,_=>none) (body:=λf Vs=>
      if f.name = "_" then Pure.pure (ForInStep.yield (none,()))
      else do
       let GV <-part f.type vx f.offset
       let UJ <-part f.type vy f.offset
       let GV <-Op.equalIn D f.type GV UJ
       if GV=false then Pure.pure (ForInStep.done (some false,())) else Pure.pure (ForInStep.yield (none,()))) w (by
      intro f b hg;by_cases hn:f.name = "_";·rw[zz2 hn] at hg;cases hg;simp[hn]
      ·rw[zz1 hn] at hg;split at hg;·rename_i a1 a2 h1 h2;obtain⟨u1,AE,jL⟩:=Dz gC h1 w;obtain⟨u2,xd,rI⟩:=Dz hly h2 w;have:=ih D zzz f.type a1 a2 u1 u2 b jL rI hg;cases b<;>simp[hn,AE,xd,this]
       ·cases hg) fs.toList b hb
    simp only[Op.equalIn,Sem.run_bind,aL hu,Result.andThen_ok,run_program,aC];simp only[Array.forIn_toList] at key;simp[key];cases b<;>simp
  ·rename_i n el xs ys;split at hb
   ·rename_i s hs;obtain⟨vx,rfl,gC⟩:=hx.Aw;obtain⟨vy,rfl,hly⟩:=hy.Aw;have key:=ao2 (P:=P) (g:=λi:Nat=>
     match pE P el xs (i*s),pE P el ys (i*s) with
     |some a,some b=>eO P d el a b H|_,_=>none) (body:=λi Vs=>do
       let GV <-part el vx (i*s)
       let UJ <-part el vy (i*s)
       let GV <-Op.equalIn D el GV UJ
       if GV=false then Pure.pure (ForInStep.done (some false,())) else Pure.pure (ForInStep.yield (none,()))) w (by
      intro f b hg;split at hg;·rename_i a1 a2 h1 h2;obtain⟨u1,AE,jL⟩:=Dz gC h1 w;obtain⟨u2,xd,rI⟩:=Dz hly h2 w;have:=ih D zzz el a1 a2 u1 u2 b jL rI hg;cases b<;>simp[AE,xd,this]
      ·cases hg) (List.range' 0 n) b hb
    simp[Op.equalIn,aL hu,ji hs];simp[key];cases b<;>simp
   ·cases hb
  ·cases hx;cases hy;cases hb;simp[Op.equalIn,aL hu]
  ·cases hx;cases hb;rcases hy.nN with⟨o,c,hi,ho,hl,hc,ki,hn,rfl⟩|⟨rfl,rfl,a,rfl⟩<;>simp[Op.equalIn,aL hu]
  ·cases hy;cases hb;rcases hx.nN with⟨o,c,hi,ho,hl,hc,ki,hn,rfl⟩|⟨rfl,rfl,a,rfl⟩<;>simp[Op.equalIn,aL hu]
  ·cases hx;cases hy;cases hb;simp[Op.equalIn,aL hu]
  ·cases hx;cases hy;cases hb;simp[Op.equalIn,aL hu]
  ·cases hx;cases hy;cases hb;simp[Op.equalIn,aL hu]
  ·cases hx;cases hy;cases hb;simp[Op.equalIn,aL hu]
  ·cases hx;cases hy;cases hb;simp[Op.equalIn,aL hu]
  ·cases hx;cases hy;cases hb;simp[Op.equalIn,aL hu]
  ·cases hb
end
end
section
variable {P:Program}{G:Nat}{F:Nat->Prop}{W:World}{e:Em}{H:Hp}{w:World}
theorem aHn (k:IntKind)(a b:Int):((BitVec.ofInt k.bits a)&&&(BitVec.ofInt k.bits b)).toNat=mj k a&&&mj k b:=by rw[BitVec.toNat_and,amd,amd];rfl
theorem avs (k:IntKind)(a b:Int):((BitVec.ofInt k.bits a)|||(BitVec.ofInt k.bits b)).toNat=mj k a|||mj k b:=by rw[BitVec.toNat_or,amd,amd];rfl
theorem aH0 (k:IntKind)(a b:Int):((BitVec.ofInt k.bits a) ^^^ (BitVec.ofInt k.bits b)).toNat=mj k a ^^^ mj k b:=by rw[BitVec.toNat_xor,amd,amd];rfl
theorem axp (k:IntKind)(a b:Int)(ha:0<=a)(hb:0<=b):((BitVec.ofInt k.bits a) ^^^ (BitVec.ofInt k.bits b)).toNat=(a.toNat%2^k.bits) ^^^ (b.toNat%2^k.bits):=by rw[BitVec.toNat_xor,anW k a ha,anW k b hb]
theorem Ua (a b:ByteArray):(a.toList==b.toList)=(bytes a==bytes b):=by rw[ByteArray.toList_eq,ByteArray.toList_eq,bytes_beq]
theorem Uu (a b:ByteArray):Op.bytesLess a.toList b.toList=tj (bytes a) (bytes b):=by rw[ByteArray.toList_eq,ByteArray.toList_eq];exact (aoU _ _).symm
section
variable {k:IntKind}{x y:AV}{x':Value}
theorem Q1 {d:Nat}{t:TypeId}{b:Bool}(hb:eO P d t x y H=some b):x ≠ .dG/\y ≠ .dG:=by
 constructor
 ·rintro rfl;cases d with
  |zero=>cases hb
  |succ d=>
   unfold eO at hb;split at hb;·cases hb
   ·split at hb<;>first|(simp at*;done)|(simp_all;done)|cases hb
 ·rintro rfl;cases d with
  |zero=>cases hb
  |succ d=>
   unfold eO at hb;split at hb;·cases hb
   ·split at hb<;>first|(simp at*;done)|(simp_all;done)|cases hb
theorem VR.agZ (h:VR e x x')(hj:x ≠ .dG):(∀k a,x' ≠ .float k a)/\(∀k a b,x' ≠ .complex k a b):=by cases h<;>first|(exact absurd rfl hj)|(constructor<;>(intros;simp))
theorem azN {t:TypeId}{x y:Value}(h1:∀k a k' b,x=.int k a->y=.int k' b->False)(h2:∀a b,x=.string a->y=.string b->False)
  (h3:∀k a,x ≠ .float k a) (h4:∀k a b,x ≠ .complex k a b):binOp .eql t x y=(do Pure.pure (.bool (<-Op.equal t x y))):=by
 cases x<;>cases y<;>first|rfl|(exact absurd rfl (h3 _ _))|(exact absurd rfl (h4 _ _ _))|(exact (h1 _ _ _ _ rfl rfl).elim)|(exact (h2 _ _ rfl rfl).elim)
theorem aw2 {t:TypeId}{x y:Value}(h1:∀k a k' b,x=.int k a->y=.int k' b->False)(h2:∀a b,x=.string a->y=.string b->False)
  (h3:∀k a,x ≠ .float k a) (h4:∀k a b,x ≠ .complex k a b):binOp .neq t x y=(do Pure.pure (.bool (!(<-Op.equal t x y)))):=by
 cases x<;>cases y<;>first|rfl|(exact absurd rfl (h3 _ _))|(exact absurd rfl (h4 _ _ _))|(exact (h1 _ _ _ _ rfl rfl).elim)|(exact (h2 _ _ rfl rfl).elim)
theorem VR.Sr {n:Int}(h:VR e x (.int k n))(hj:x ≠ .dG):x=.int k n:=by cases h<;>first|rfl|exact absurd rfl hj
theorem VR.Rk {s:ByteArray}(h:VR e x (.string s))(hj:x ≠ .dG):x=.str (bytes s):=by cases h<;>first|rfl|exact absurd rfl hj
theorem aDU (h:RH G F W e H w){op:BinOp}{t:TypeId}{x y v:AV}{x' y':Value}(hx:VR e x x')(hy:VR e y y')(hb:gi P op t x y H=some v):
  ∃v',(binOp op t x' y').run P w=.ok v' w/\VR e v v':=by
 unfold gi at hb;split at hb
 ·cases hx.ij;cases hy.ij;split at hb;·cases hb
  ·rename_i hn;cases hb;exact⟨_,by simp[binOp,Op.shift,hn],.int _ _⟩
 ·cases hx.ij;cases hy.ij;split at hb;·cases hb
  ·rename_i hn;cases hb;exact⟨_,by simp[binOp,Op.shift,hn],.int _ _⟩
 ·cases hx.ij;cases hy.ij;split at hb
  ·rename_i k a k' b n1 n2 hk;subst hk;split at hb;·cases hb;exact⟨_,by simp[binOp,Op.intArith],.int _ _⟩
   ·cases hb;exact⟨_,by simp[binOp,Op.intArith],.int _ _⟩
   ·cases hb;exact⟨_,by simp[binOp,Op.intArith],.int _ _⟩
   ·split at hb;·cases hb
    ·rename_i hz;cases hb;exact⟨_,by simp[binOp,Op.intDiv,hz],.int _ _⟩
   ·split at hb;·cases hb
    ·rename_i hz;cases hb;exact⟨_,by simp[binOp,Op.intDiv,hz],.int _ _⟩
   ·cases hb;rw[<-aHn k a b];exact⟨_,by simp only[binOp,Op.intBits,ne_eq,not_true_eq_false,if_false];rfl,.int _ _⟩
   ·cases hb;rw[<-avs k a b];exact⟨_,by simp only[binOp,Op.intBits,ne_eq,not_true_eq_false,if_false];rfl,.int _ _⟩
   ·cases hb;rw[<-aH0 k a b];exact⟨_,by simp only[binOp,Op.intBits,ne_eq,not_true_eq_false,if_false];rfl,.int _ _⟩
   ·cases hb
   ·cases hb;exact⟨_,by simp[binOp,Op.intCmp],.bool _⟩
   ·cases hb;exact⟨_,by simp[binOp,Op.intCmp],.bool _⟩
   ·cases hb;exact⟨_,by simp[binOp,Op.intCmp],.bool _⟩
   ·cases hb;exact⟨_,by simp[binOp,Op.intCmp],.bool _⟩
   ·cases hb;exact⟨_,by simp[binOp,Op.intCmp],.bool _⟩
   ·cases hb;exact⟨_,by simp[binOp,Op.intCmp],.bool _⟩
   ·cases hb
  ·cases hb
 ·obtain⟨p,rfl,rfl⟩:=hx.og;obtain⟨q,rfl,rfl⟩:=hy.og;split at hb
  ·cases hle:Nat.ble ((bytes p).length+(bytes q).length) 4294967296 with
   |false=>rw[hle] at hb;cases hb
   |true=>
    rw[hle] at hb;cases hb;rw[ae2,Be,Be] at hle;have:¬((p.size+q.size:Nat):Int)>9223372036854775807:=zzz;rw[<-aAm];refine⟨.string (p++q),?_,.str _⟩;simp only[binOp,Op.stringOp,IntKind.max_i64,zz1 this];rfl
  ·cases hb;exact⟨_,by simp[binOp,Op.stringOp,Ua],.bool _⟩
  ·cases hb;exact⟨_,by simp[binOp,Op.stringOp,Ua],.bool _⟩
  ·cases hb;exact⟨_,by simp[binOp,Op.stringOp,Uu],.bool _⟩
  ·cases hb;exact⟨_,by simp[binOp,Op.stringOp,Uu,Ua],.bool _⟩
  ·cases hb;exact⟨_,by simp[binOp,Op.stringOp,Uu,Ua],.bool _⟩
  ·cases hb;exact⟨_,by simp[binOp,Op.stringOp,Uu],.bool _⟩
  ·cases hb
 ·rename_i n1 n2;simp only[aaq] at hb;obtain⟨b,hb,rfl⟩:=hb;have:=Od h 50 Op.maxDepth zzx t x y x' y' b hx hy hb;refine⟨.bool b,?_,.bool _⟩;obtain⟨j1,j2⟩:=Q1 hb;obtain⟨f1,f2⟩:=hx.agZ j1;rw[azN (λk a k' b p q=>n1 k a k' b (by rw[p] at hx;exact hx.Sr j1) (by rw[q] at hy;exact hy.Sr j2))
   (λa b p q=>n2 _ _ (by rw[p] at hx;exact hx.Rk j1) (by rw[q] at hy;exact hy.Rk j2)) f1 f2]
  simp only[Op.equal,Sem.run_bind,this];rfl
 ·rename_i n1 n2;simp only[aaq] at hb;obtain⟨b,hb,rfl⟩:=hb;have:=Od h 50 Op.maxDepth zzx t x y x' y' b hx hy hb;refine⟨.bool !b,?_,.bool _⟩;obtain⟨j1,j2⟩:=Q1 hb;obtain⟨f1,f2⟩:=hx.agZ j1;rw[aw2 (λk a k' b p q=>n1 k a k' b (by rw[p] at hx;exact hx.Sr j1) (by rw[q] at hy;exact hy.Sr j2))
   (λa b p q=>n2 _ _ (by rw[p] at hx;exact hx.Rk j1) (by rw[q] at hy;exact hy.Rk j2)) f1 f2]
  simp only[Op.equal,Sem.run_bind,this];rfl
 ·cases hb
theorem aHz {op:BinOp}{t:TypeId}{X Y:Operand}{v:AV}{y':Value}(hx:VR e x x')(hy:VR e y y')(hg:wK P op t X Y x y=true)(hb:gi P op t x y H=some v):
  (eqGuard op t X Y x' y').run P w=.ok () w:=by
 by_cases ho:op=.eql\/op=.neq
 ·have Un:x ≠ .dG/\y ≠ .dG:=by
   constructor;·rintro rfl;rcases ho with rfl|rfl<;>(unfold gi at hb;simp only[aaq] at hb;obtain⟨b,hb,_⟩:=hb;exact (Q1 hb).1 rfl)
   ·rintro rfl;rcases ho with rfl|rfl<;>(unfold gi at hb;cases x<;>simp only[aaq] at hb<;>(obtain⟨b,hb,_⟩:=hb;exact (Q1 hb).2 rfl))
  cases hx<;>cases hy<;>first
   |(exact absurd rfl Un.1)|(exact absurd rfl Un.2)
   |(rcases ho with rfl|rfl<;>rfl)
   |skip
  ·have GX:zt X=true\/zt Y=true:=by rcases ho with rfl|rfl<;>(simp only[wK,aiK] at hg;exact hg)
   rcases ho with rfl|rfl<;>(rcases GX with hc|hc<;>(cases X<;>cases Y<;>first|(simp[zt] at hc;done)|rfl))
  ·have GX:P.eqGuardType P.depth t=false:=by rcases ho with rfl|rfl<;>(simp only[wK,alL] at hg;exact hg)
   rcases ho with rfl|rfl<;>simp[eqGuard,GX]
 ·have:(op matches .eql|.neq)=false:=by cases op<;>first|rfl|(exact absurd zzy ho)
  cases op<;>first|rfl|(exact absurd zzy ho)
end
end
end
section
variable {P:Program}{G:Nat}{F:Nat->Prop}{W:World}{e:Em}{H:Hp}{w:World}
section
variable {el off:Nat}{fs:Array Field}{parts:List (Nat×AV)}{Km:Array (Nat×Value)}{x:AV}{x':Value}{z:List AV}
theorem avU {op:UnOp}{v:AV}(hx:VR e x x')(hb:dR op x=some v)(w:World):∃v',(Op.unary op x').run P w=.ok v' w/\VR e v v':=by
 unfold dR at hb;split at hb;·cases hx.ij;cases hb;exact⟨_,by simp[Op.unary,Op.intArith],.int _ _⟩
 ·cases hx.y7;cases hb;exact⟨_,by simp[Op.unary],.bool _⟩
 ·rename_i k n;cases hx.ij;split at hb;·cases hb
  ·rename_i hs;split at hb
   ·rename_i hn;cases hb;have hm:0<=k.max:=by cases k<;>simp[IntKind.max,IntKind.signed,IntKind.bits] at hs⊢
    rw[<-axp k k.max n hm hn];refine⟨_,?_,.int _ _⟩;simp only[Op.unary,Op.intBits,zz1 hs];rfl
   ·cases hb
 ·cases hb
theorem ahT:∀(v:List Value) (off j:Nat) (cs:Array Value),off+j+v.length<=cs.size->
  ((v.zipIdx j).foldl (λcs (x:Value×Nat)=>cs.setIfInBounds (off+x.2) x.1) cs).size=cs.size/\
  ∀m,((v.zipIdx j).foldl (λcs (x:Value×Nat)=>cs.setIfInBounds (off+x.2) x.1) cs)[m]?=if off+j<=m/\m<off+j+v.length then v[m-(off+j)]? else cs[m]?
 |[],off,j,cs,h=>by refine⟨zzy,λm=>?_⟩;rw[zz1 (by rw[ach];omega)];simp
 |x::v,off,j,cs,h=>by
  simp only[aaP] at h;rw[List.zipIdx_cons,List.foldl_cons];obtain⟨h1,h2⟩:=ahT v off (j+1) (cs.setIfInBounds (off+j) x) (by simp;omega);refine⟨by rw[h1];simp,λm=>?_⟩;rw[h2];simp only[aaP];by_cases hm:m=off+j;·subst hm;rw[zz1 zzz,zz2 zzz];rw[ai0 zzz];simp
  ·by_cases hr:off+(j+1)<=m/\m<off+(j+1)+v.length;·rw[zz2 hr,zz2 zzz];have:m-(off+j)=(m-(off+(j+1)))+1:=zzz;rw[this,acJ]
   ·rw[zz1 hr,zz1 zzz,afv zzz]
theorem aW.aAD {a c:List AV}{x:Array Value}{y:List Value}(ha:aW e a x.toList)(hc:aW e c y)(h:off+c.length<=a.length):
  aW e (a.take off++c++a.drop (off+c.length)) ((y.zipIdx).foldl (λcs (x:Value×Nat)=>cs.setIfInBounds (off+x.2) x.1) x).toList:=by
 have hx:x.size=a.length:=by have:=ha.1;simpa using this
 obtain⟨h1,h2⟩:=ahT y off 0 x (by rw[hc.1,hx];omega);refine⟨by simp[h1,hx];omega,λi v v' hv bQ=>?_⟩;rw[ad6,h2] at bQ;simp only[aed] at bQ;rw[hc.1] at bQ;by_cases hi:i<off;·rw[zz1 zzz] at bQ;rw[abr,abd (by simp;omega),ajz,zz2 hi] at hv;exact ha.2 i v v' hv (by rw[ad6];exact bQ)
 ·by_cases py:i<off+c.length
  ·rw[zz2 zzz] at bQ;rw[abd (by simp;omega),abk (by simp;omega)] at hv;have:i-(a.take off).length=i-off:=by simp;omega
   rw[this] at hv;exact hc.2 _ v v' hv bQ
  ·rw[zz1 zzz] at bQ;rw[abk (by simp;omega),agr] at hv;have:off+c.length+(i-(a.take off++c).length)=i:=by simp;omega
   rw[this] at hv;exact ha.2 i v v' hv (by rw[ad6];exact bQ)
def xi (e:Em)(l:List (Nat×AV))(l':List (Nat×Value)):Prop:=l'.map (·.1)=l.map (·.1)/\aW e (l.map (·.2)) (l'.map (·.2))
theorem RM {pl Io:Nat->Option (Nat×Nat)}(gR:∀i x,pl i=some x->Io i=some x):∀(ps:List (Nat×AV)) (ps':List (Nat×Value)) (cells out:List AV) (Hs:Array Value),
  xi e ps ps'->aW e cells Hs.toList->ya pl cells ps=some out->∃nj,Instr.fill Io Hs ps'=some nj/\aW e out nj.toList:=by
 intro ps;induction ps with
 |nil=>
  intro ps' cells out Hs hp hc hf;cases hf;obtain rfl:ps'=[]:=by have:=hp.1;simpa using this
  exact⟨Hs,rfl,hc⟩
 |cons p ps ih=>
  intro ps' cells out Hs hp hc hf;obtain⟨i,v⟩:=p;cases ps' with
  |nil=>have:=hp.1;simp at this|cons q ps'=>
   obtain⟨i',v'⟩:=q;obtain⟨h1,h2⟩:=hp;simp only[aby,List.cons.injEq] at h1;obtain⟨rfl,h1⟩:=h1;obtain⟨u,us,hu,hv,vN⟩:=aW.cons_inv (by simpa using h2:aW e (v::ps.map (·.2)) (v'::ps'.map (·.2)));simp only[List.cons.injEq] at hu;obtain⟨rfl,rfl⟩:=hu;unfold ya at hf;split at hf;·cases hf
   ·rename_i off size rz;split at hf;·cases hf
    ·rename_i cs gQ;split at hf
     ·rename_i vJ;have hl:=hv.cells gQ;have fN:v'.cells.size=size:=by have:=hl.1;simp at this;omega
      have aJr:Hs.size=cells.length:=by have:=hc.1;simpa using this
      have mL:=hc.aAD hl (off:=off) zzz;rw[vJ.1] at mL;obtain⟨nj,ho,hr⟩:=ih ps' _ out _ ⟨h1,vN⟩ mL hf;refine⟨nj,?_,hr⟩;unfold Instr.fill;rw[gR _ _ rz];have c1:(decide (v'.cells.size≠size)||decide (off+v'.cells.size>Hs.size))=false:=by simp;omega
      simp only[c1,aa8,if_false];rw[<-ho];congr 1;rw[<-Array.foldl_toList,Array.toList_zipIdx]
     ·cases hf
theorem xi.map {ρ:Operand->AV}{σ:Operand->Value}(h:∀x,VR e (ρ x) (σ x))(l:List (Nat×Operand)):xi e (l.map λ(i,x)=>(i,ρ x)) (l.map λ(i,x)=>(i,σ x)):=by refine⟨by simp[Function.comp_def],?_⟩;have:=aW.map h (l.map (·.2));simpa[Function.comp_def] using this
theorem anh {α β:Type}{f:α->Option β}{g:α->Sem β}{w:World}(h:∀a b,f a=some b->(g a).run P w=.ok b w):∀(l:List α) (r:List β),uG f l=some r->(l.mapM g).run P w=.ok r w
 |[],r,hr=>by cases hr;simp
 |a::l,r,hr=>by
  unfold uG at hr;split at hr
  ·rename_i b hb;split at hr;·rename_i r' dH;cases hr;simp[h a b hb,anh h l r' dH]
   ·cases hr
  ·cases hr
theorem aG4 {t:TypeId}{out:List AV}{pl:List (Nat×Nat)}(hz:zc P t=some z)(hu:P.underlying t=some (.struct fs))
  (gR:aaB P fs=some pl) (hp:xi e parts Km.toList) (hf:ya (pl[·]?) z parts=some out) (w:World):∃v',(Instr.build t Km).run P w=.ok v' w/\VR e (.agg out) v':=by
 obtain⟨i,z0,hi,gN,hl⟩:=Cj (e:=e) hz;have hm:(fs.mapM (λf=>do Pure.pure (f.offset,<-sizeOf f.type)):Sem (Array (Nat×Nat))).run P w=.ok pl.toArray w:=by rw[<-Array.toArray_toList (xs:=fs),List.mapM_toArray];have:=anh (P:=P) (w:=w) (g:=λf:Field=>(do Pure.pure (f.offset,<-sizeOf f.type):Sem (Nat×Nat))) (f:=λf:Field=>(sz P f.type).map λn=>(f.offset,n)) (by intro a b hb;simp only[aaq] at hb;obtain⟨n,hn,rfl⟩:=hb;simp[ji hn]) fs.toList pl gR;rw[Sem.run_map,this];rfl
 obtain⟨nj,ho,hr⟩:=RM (e:=e) (Io:=(pl.toArray[·]?)) (λi x hx=>by simpa using hx) parts Km.toList z out z0.cells hp hl hf;refine⟨.agg nj,?_,.agg _ _ hr.1 hr.2⟩;simp only[Instr.build,Sem.run_bind,vt hi gN,Result.andThen_ok,aL hu,hm,ho];rfl
theorem azs {t s n:Nat}{out:List AV}(hz:zc P t=some z)(hu:P.underlying t=some (.array n el))
  (hs:sz P el=some s) (hp:xi e parts Km.toList) (hf:ya (λi=>some (i*s,s)) z parts=some out) (w:World):∃v',(Instr.build t Km).run P w=.ok v' w/\VR e (.agg out) v':=by
 obtain⟨i,z0,hi,gN,hl⟩:=Cj (e:=e) hz;obtain⟨nj,ho,hr⟩:=RM (e:=e) (Io:=λi=>some (i*s,s)) (λi x hx=>hx) parts Km.toList z out z0.cells hp hl hf;refine⟨.agg nj,?_,.agg _ _ hr.1 hr.2⟩;simp only[Instr.build,Sem.run_bind,vt hi gN,Result.andThen_ok,aL hu,ji hs,ho];rfl
theorem afZ {α:Type}(z:List α):∀(n i:Nat),i<n*z.length->(List.replicate n z).flatten[i]?=z[i%z.length]?
 |0,i,h=>by simp at h
 |n+1,i,h=>by
  rw[List.replicate_succ,agL];by_cases hi:i<z.length;·rw[abd hi,ahr hi]
  ·rw[abk zzz,afZ z n _ (by rw[Nat.succ_mul] at h;omega)];congr 1;have:i=(i-z.length)+z.length:=zzz;rw[this,Nat.add_mod_right];congr 1;omega
theorem apl (z:Array Value)(n:Nat):((Array.range (n*z.size)).map (z[· % z.size]!)).toList=(List.replicate n z.toList).flatten:=by
 apply akn;intro i;by_cases hi:i<n*z.size
 ·rw[afZ z.toList n i (by simpa using hi)];have hz:0<z.size:=by
   rcases Nat.eq_zero_or_pos z.size with h|h;·rw[h] at hi;simp at hi
   ·exact h
  have aR:i%z.size<z.size:=amP _ hz;simp[ad6,hi,aR]
 ·rw[agQ (by simp;omega),agQ (by simp;omega)]
theorem aW.rep {z:List AV}{z':List Value}(h:aW e z z'):∀n,aW e (rep n z) (List.replicate n z').flatten
 |0=>by simpa[Am.rep] using aW.nil e
 |n+1=>by have:=h.append (aW.rep h n);simpa[Am.rep,List.replicate_succ] using this
end
end
end
section
variable {P:Program}{G:Nat}{F:Nat->Prop}{W:World}{e:Em}{H:Hp}{w:World}
theorem ab6:∀{l:List AV} {bs:List Nat} {cs:List Value},ze l=some bs->aW e l cs->∃us:List UInt8,bs=us.map (·.toNat)/\cs=us.map (λb=>Value.int .u8 b.toNat)
 |[],bs,cs,h,hl=>by cases h;rw[hl.mh];exact⟨[],rfl,rfl⟩
 |a::l,bs,cs,h,hl=>by
  unfold ze at h;split at h;·rename_i h0;cases h0
  ·rename_i n r h0;cases h0;obtain⟨v',ws,rfl,hv,qZ⟩:=hl.cons_inv;cases hv.ij;split at h
   ·rename_i hn;simp only[aaM,zz5] at hn;simp only[abY,Option.pure_def,aaV,acD] at h;obtain⟨bs',h1,rfl⟩:=h;obtain⟨us,rfl,rfl⟩:=ab6 h1 qZ;have hu:(UInt8.ofNat n.toNat).toNat=n.toNat:=by rw[UInt8.toNat_ofNat'];exact ahr zzz
    refine⟨UInt8.ofNat n.toNat::us,by simp only[aby,hu],?_⟩;have:((UInt8.ofNat n.toNat).toNat:Int)=n:=by rw[hu];omega
    simp only[aby,this]
   ·cases h
  ·cases h
theorem asf (us:List UInt8):bytes ⟨us.toArray⟩=us.map (·.toNat):=rfl
theorem amA:∀(us:List UInt8) (s:ByteArray),(us.map λb=>(b.toNat:Int)).foldl (λr n=>r.push (UInt8.ofNat n.toNat)) s=⟨s.data++us.toArray⟩
 |[],s=>zzy|u::us,s=>by simp only[aby,List.foldl_cons,amA us];congr 1;simp[ByteArray.push]
theorem Zz {a:Addr}{us:List UInt8}{cap:Nat}(w:World)(h:∀j v,(us.map (λb=>Value.int .u8 b.toNat))[j]?=some v->w.cell? (a.add j)=some v):
  (Conv.bytesToString (.slice (some a) us.length cap)).run P w=.ok (.string ⟨us.toArray⟩) w:=by
 have h1:=run_loadCells_list (P:=P) w a (us.map (λb=>Value.int .u8 b.toNat)) h;rw[abv] at h1;have h2:=run_bytesToString (P:=P) w a us.length cap (us.map λb=>(b.toNat:Int)) (by rw[h1];simp[Function.comp_def]);rw[h2,amA];simp[ByteArray.empty,ByteArray.emptyWithCapacity];rfl
theorem atk (n:Int)(h:0<=n/\n<128):bytes (Utf8.encode n)=[n.toNat]:=by
 obtain⟨k,rfl⟩:=Int.eq_ofNat_of_zero_le h.1;have hk:k<128:=zzz;have:∀k:Fin 128,bytes (Utf8.encode ((k.val:Nat):Int))=[k.val]:=by decide +kernel
 exact this ⟨k,hk⟩
theorem ayr (w:World)(C:Array Value)(el:TypeId)(b:Nat)(hb:b=w.heap.size):
  World.freeze {w with heap:=w.heap.push (.cells C el (0,0))} {block:=b,off:=C.size} 1={w with heap:=w.heap.push (.cells C el (C.size,C.size+1))}:=by
 subst hb;simp only[World.freeze,Nat.one_ne_zero,if_false];congr 1;apply Array.ext_getElem?;intro k;rw[Array.getElem?_modify];by_cases hk:w.heap.size=k;·subst hk;simp
 ·rw[zz1 hk,alT,alT,zz1 (λq=>hk q.symm),zz1 (λq=>hk q.symm)]
def qa (w:World)(el:TypeId)(s:ByteArray):Nat:=(Question.appendCap s.size 0 el).cut (w.tape w.drawn (.appendCap s.size 0 el))
def xU (w:World)(el:TypeId)(s:ByteArray):List Value:=(s.data.toList.map λb=>Value.int .u8 b.toNat)++List.replicate (qa w el s-s.size) (.int .u8 0)
theorem Sy (w:World)(el:TypeId)(s:ByteArray):s.size<=qa w el s:=Nat.le_add_right _ _
theorem Zv (w:World)(el:TypeId)(s:ByteArray):(xU w el s).length=qa w el s:=by have:=Sy w el s;have h2:s.data.size=s.size:=rfl;simp[xU];omega
theorem aid (P:Program)(w:World)(el:TypeId)(s:ByteArray):
  (Conv.stringToBytes el s).run P w=.ok (.slice (some ⟨w.heap.size,0,none⟩) s.size (qa w el s)) {w with drawn:=w.drawn+1,heap:=w.heap.push (.cells (xU w el s).toArray el (qa w el s,qa w el s+1))}:=by
 let w1:World:={w with drawn:=w.drawn+1};let cap:=qa w el s;have jC:s.size<=cap:=Sy w el s;let rest:List Value:=List.replicate (cap-s.size) (.int .u8 0);have hlen:((s.data.toList.map λb=>Value.int .u8 b.toNat)++rest).length=cap:=Zv w el s;have hC:(s.data.map λb=>Value.int .u8 b.toNat)++Array.replicate (cap-s.size) (.int .u8 0)=((s.data.toList.map λb=>Value.int .u8 b.toNat)++rest).toArray:=by apply adT.1;simp[rest]
 have LY:(Question.appendCap s.size 0 el).forced=false:=rfl;simp only[Conv.stringToBytes,Sem.run_bind,run_choose,LY,aa8,if_false,Result.andThen_ok,newRow,run_newObj,Sem.run_pure];have hC':(s.data.map λb=>Value.int .u8 b.toNat)++Array.replicate ((Question.appendCap s.size 0 el).cut (w.tape w.drawn (.appendCap s.size 0 el))-s.size) (.int .u8 0)=((s.data.toList.map λb=>Value.int .u8 b.toNat)++rest).toArray:=hC;rw[hC'];have fN:((s.data.toList.map λb=>Value.int .u8 b.toNat)++rest).toArray.size=cap:=by simpa using hlen
 have ur:(World.shape? {w1 with heap:=w.heap.push (.cells ((s.data.toList.map λb=>Value.int .u8 b.toNat)++rest).toArray el (0,0))} w.heap.size)=some (el,cap):=by simp only[World.shape?,Array.getElem?_push_size,fN]
 have Pz:=ayr w1 ((s.data.toList.map λb=>Value.int .u8 b.toNat)++rest).toArray el w.heap.size rfl;rw[fN] at Pz;have auv:(World.shape? {w with heap:=w.heap.push (.cells ((s.data.toList.map λb=>Value.int .u8 b.toNat)++rest).toArray el (0,0)),drawn:=w.drawn+1} w.heap.size)=some (el,cap):=ur;simp only[markStringish,Sem.run_bind,run_shape,Result.andThen_ok,auv,run_freeze];have auD:World.freeze {w with heap:=w.heap.push (.cells ((s.data.toList.map λb=>Value.int .u8 b.toNat)++rest).toArray el (0,0)),drawn:=w.drawn+1} {block:=w.heap.size,off:=cap} 1=_:=Pz;rw[auD];rfl
theorem aew (e:Em)(s:ByteArray):aW e ((bytes s).map λ(b:Nat)=>AV.int .u8 b) (s.data.toList.map λb=>Value.int .u8 b.toNat):=by refine⟨by simp[bytes],λi v v' hv bQ=>?_⟩;simp only[bytes,anY,ab9,aaq] at hv bQ;obtain⟨u,hu,rfl⟩:=hv;obtain⟨u',kI,rfl⟩:=bQ;rw[hu] at kI;cases kI;exact .int _ _
theorem av3 (h:RH G F W e H w){s:ByteArray}{el i:Nat}{H':Hp}(hn:az H ((bytes s).map λ(b:Nat)=>AV.int .u8 b) el 1=some (i,H')):
  ∃v' w' e',(Conv.stringToBytes el s).run P w=.ok v' w'/\e.le e'/\RH G F W e' H' w'/\VR e' (.slice i 0 (bytes s).length (bytes s).length false 1) v':=by
 have jC:=Sy w el s;have h1:RH G F W e H {w with drawn:=w.drawn+1}:=h.drawn _;have hlen:=Zv w el s;obtain⟨e',he,g1,g2,g3,g4,hr⟩:=h1.newRow (rest:=List.replicate (qa w el s-s.size) (.int .u8 0)) (fz:=(qa w el s,qa w el s+1)) hn (aew e s) zzy (λ_ k hk=>by have rZ:k<(xU w el s).length:=hk;rw[hlen] at rZ;simp;omega);refine⟨_,_,e',aid P w el s,he,hr,?_⟩;have hb:w.heap.size=e'.b i:=g2.symm;rw[hb,Be];have g4':e'.n i=(xU w el s).length:=g4;refine .slice i 0 s.size s.size false 1 0 _ g1 (by rw[g3];simp) jC jC zzy ?_;rw[g4',hlen];omega
theorem ayf {el:TypeId}{count:Nat}(hs:0<P.cellsOf el)(hc:P.cellsOf el<=count):liesAt P P.depth el (count / P.cellsOf el) 0 el 1=true:=by have hd:P.depth=(2*(P.types.size+Made.depth)+1)+1:=rfl;have h1:1<=count / P.cellsOf el:=(Nat.le_div_iff_mul_le hs).2 zzz;have h0:¬P.cellsOf el=0:=zzz;rw[hd];simp only[liesAt,aiK];left;rw[hd];simp only[rowAt,zz1 h0,aiK,aaM];left;simp[h1,sameLayout]
theorem ZO (h:RH G F W e H w){i:Nat}{c:Tr AV}{lo hi el fl:Nat}(hg:H.h.get i=some (.cells c lo hi el fl)):
  i<e.N/\∃C fz,w.heap[e.b i]?=some (.cells C el fz)/\C.size=e.n i/\(lo=0->e.d i=0)/\(fl=0->fz=(0,0)):=by
 obtain⟨hN,ob,eW,fj,_⟩:=h.obj i _ hg;cases fj with
 |cells _ _ _ _ _ C fz hn kO h0 h1 hd=>exact⟨hN,C,fz,eW,hn,hd,h0⟩
theorem aCX (h:RH G F W e H w){src dst:TypeId}{x v:AV}{x':Value}{H':Hp}(hx:VR e x x')(hc:lh P src dst x H=some (v,H')):
  ∃v' w' e',(convert src dst x').run P w=.ok v' w'/\e.le e'/\RH G F W e' H' w'/\VR e' v v':=by
 unfold lh at hc;split at hc
 ·rename_i s d hs hd;split at hc;·cases hx.ij;cases hc;exact⟨_,w,e,by simp[convert,aL hs,aL hd,Conv.intToInt],e.le_refl,h,.int _ _⟩
  ·rename_i n;cases hx.ij;split at hc;·rename_i hn;cases hc;rw[<-atk n hn];exact⟨_,w,e,by simp[convert,aL hs,aL hd,Conv.intToString],e.le_refl,h,.str _⟩
   ·cases hc
  ·obtain⟨b,rfl,rfl⟩:=hx.og;cases hc;exact⟨_,w,e,by simp[convert,aL hs,aL hd],e.le_refl,h,.str _⟩
  ·rename_i el s;obtain⟨b,rfl,rfl⟩:=hx.og;split at hc
   ·rename_i ri;split at hc;·rename_i i H2 hn;cases hc;obtain⟨v',w',e',h1,h2,h3,h4⟩:=av3 (P:=P) h hn;exact⟨v',w',e',by simp[convert,aL hs,aL hd,aL ri,h1],h2,h3,h4⟩
    ·cases hc
   ·cases hc
  ·rename_i el0 el i off len cap ex es;cases hb:(Nat.beq src dst&&Nat.blt 0 len) with
   |false=>rw[hb] at hc;cases hc
   |true=>
    rw[hb] at hc;simp only[cond_true] at hc;simp only[aaM,adW] at hb;have hsd:src=dst:=aa9 hb.1;split at hc
    ·rename_i c lo hi el2 ri hg;cases hc;obtain⟨hN,C,fz,eW,hn,hdd,Q2⟩:=ZO h hg;have hf:=Q2 rfl;subst hf;rcases hx.nN with⟨o,k,py,ho,hl,CM,ki,iN,rfl⟩|⟨rfl,_,_,_⟩
     ·refine⟨.slice (some ⟨e.b i,o,none⟩) len k,w.freeze {block:=e.b i,off:=C.size} 1,e,?_,e.le_refl,?_,hx⟩
      ·have ur:w.shape? (e.b i)=some (el2,C.size):=by simp[World.shape?,eW]
       simp[convert,aL hs,aL hd,aL ri,hsd,markStringish,ur]
      ·refine h.put hg rfl (tA:=.cells C el2 (C.size,C.size+1)) ?_ ?_ ?_ ?_ rfl rfl rfl;·simp[World.freeze]
       ·simp only[World.freeze,Nat.one_ne_zero,if_false];rw[J6 _ _ _ eW];simp
       ·intro k hk;simp only[World.freeze,Nat.one_ne_zero,if_false];rw[Jd _ _ _ _ (λq=>hk q.symm)]
       ·obtain⟨_,ob,alO,fj,_⟩:=h.obj i _ hg;rw[eW] at alO;cases alO;cases fj with
        |cells _ _ _ _ _ C fz hn kO h0 h1 hd=>exact .cells _ _ _ _ _ _ _ hn kO zzy (λ_ k hk=>by simp;omega) hd
     ·omega
    ·cases hc
  ·rename_i el;cases hx;split at hc;·rename_i ri;cases hc;refine⟨.string .empty,w,e,by simp[convert,aL hs,aL hd,aL ri,Conv.bytesToString],e.le_refl,h,?_⟩;exact .str .empty
   ·cases hc
  ·rename_i el i off len a1 a2 a3;split at hc
   ·rename_i ri;cases hz:Nat.beq len 0 with
    |true=>
     rw[hz] at hc;cases hc;have:len=0:=aa9 hz;subst this;rcases hx.nN with⟨o,k,py,ho,hl,CM,ki,iN,rfl⟩|⟨_,_,a,rfl⟩;·have:=Zz (P:=P) (a:=⟨e.b i,o,none⟩) (us:=[]) (cap:=k) w zzy;exact⟨_,w,e,by simp only[convert,Sem.run_bind,aL hs,aL hd,aL ri,Result.andThen_ok];exact this,e.le_refl,h,.str ⟨#[]⟩⟩
     ·have:=Zz (P:=P) (a:=a) (us:=[]) (cap:=0) w zzy;exact⟨_,w,e,by simp only[convert,Sem.run_bind,aL hs,aL hd,aL ri,Result.andThen_ok];exact this,e.le_refl,h,.str ⟨#[]⟩⟩
    |false=>
     rw[hz] at hc;simp only[cond_false,aaV,aaq,abW] at hc;obtain⟨cs,gQ,bs,wA,rfl,rfl⟩:=hc;rcases hx.nN with⟨o,k,py,ho,hl,CM,ki,iN,rfl⟩|⟨rfl,_,a,rfl⟩;·obtain⟨vs,h1,h2,h3⟩:=h.Ds gQ ho;obtain⟨us,rfl,rfl⟩:=ab6 wA h1;rw[abv] at h2;have:=Zz (P:=P) (a:=⟨e.b i,o,none⟩) (us:=us) (cap:=k) w (λj v hj=>by rw[add_lit];exact h3 j v hj);rw[h2] at this;refine⟨_,w,e,by simp only[convert,Sem.run_bind,aL hs,aL hd,aL ri,Result.andThen_ok];exact this,e.le_refl,h,?_⟩;rw[<-asf];exact .str _
     ·simp at hz
   ·cases hc
  ·rename_i t i o;cases hb:((cellAt H i o).isSome&&CI P t) with
   |false=>rw[hb] at hc;cases hc
   |true=>
    rw[hb] at hc;cases hc;rw[aaM] at hb;obtain⟨u,hu⟩:=ajm.1 hb.1;obtain⟨n,hn⟩:∃n,sz P t=some (n+1):=by
     have:=hb.2;unfold CI at this;split at this;·rename_i n hn;exact⟨n,hn⟩
     ·cases this
    obtain⟨o',hi,ho,rfl⟩:=hx.vP;have aR:=h.abV hu ho;obtain⟨c,lo,ka,el,fl,hg,_,_,_⟩:=U1 hu;obtain⟨hN,C,fz,eW,iN,_,_⟩:=ZO h hg;have ur:w.shape? (e.b i)=some (el,C.size):=by simp[World.shape?,eW]
    have uS:¬C.size<=o':=zzz;refine⟨_,w,e,?_,e.le_refl,h,hx⟩;simp[convert,aL hs,aL hd,Conv.unsafePointer,Conv.seenAt,viewAt,cellsIn,ur,ji hn,uS]
  ·rename_i u i o;split at hc
   ·rename_i c lo hi el fl hg;cases hb:(Nat.beq el u&&Nat.beq lo 0&&Nat.beq o 0&&Nat.blt 0 (P.cellsOf u)&&(cellAt H i (P.cellsOf u-1)).isSome) with
    |false=>rw[hb] at hc;cases hc
    |true=>
     rw[hb] at hc;cases hc;simp only[aaM,adW] at hb;obtain⟨⟨⟨⟨b1,b2⟩,b3⟩,b4⟩,b5⟩:=hb;have e1:el=u:=aa9 b1;have e2:lo=0:=aa9 b2;have e3:o=0:=aa9 b3;subst e1;subst e2;subst e3;obtain⟨q,hq⟩:=ajm.1 b5;obtain⟨hN,C,fz,eW,iN,hdd,_⟩:=ZO h hg;obtain⟨o',hi,ho,rfl⟩:=hx.vP;have hd0:=hdd rfl;have ho0:o'=0:=zzz;subst ho0;have aR:=h.abV (o:=P.cellsOf el-1) hq zzz;have ur:w.shape? (e.b i)=some (el,C.size):=by simp[World.shape?,eW]
     have hl:=ayf (P:=P) (el:=el) (count:=C.size) b4 zzz;have au8:sz P el=some (P.cellsOf el):=by
      unfold sz;unfold Program.cellsOf at b4⊢;cases hi:P.info? el with
      |none=>simp[hi] at b4|some inf=>simp
     refine⟨_,w,e,?_,e.le_refl,h,hx⟩;simp[convert,aL hs,aL hd,Conv.unsafePointer,Conv.seenAt,viewAt,ur,ji au8,variablesAt,hl]
   ·cases hc
  ·cases hc
 ·cases hc
end
end Go.Proofs.YtodfajmihkagnaaGreatDoor.Am
