/- Laws that the proof uses. -/
import Derived.Test.YtodfajmihkagnaaGreatDoorAm1
set_option linter.unusedVariables false
set_option linter.unusedSimpArgs false
set_option maxHeartbeats 2000000
namespace Go.Proofs.YtodfajmihkagnaaGreatDoor.Am
section
section
section
section
def ff (P:Program)(G:Nat)(F:Nat->Prop)(W:World)(e:Em)(v:AV)(H':Hp)(r:Result Next):Prop:=
 ∃n w' e' v',r=.ok n w'/\(n=.value v'\/(n=.skip/\v'=undef))/\e.le e'/\RH G F W e' H' w'/\VR e' v v'
section
variable {P:Program}{G:Nat}{F:Nat->Prop}{W:World}{e:Em}{H:Hp}{w:World}
section
variable {H':Hp}{cap f i off:Nat}{cs l:List AV}{e':Em}{fs:Array Field}{high low mx:Option AV}{EU Ba mx':Option Value}{ix x:AV}{ix' v' x':Value}{k:IntKind}{w':World}
theorem ff.pure {s:Sem Value}{v:AV}(h:RH G F W e H w)(hs:s.run P w=.ok v' w)(hv:VR e v v'):
  ff P G F W e v H ((do Pure.pure (Next.value (<-s)):Sem Next).run P w):=
 ⟨.value v',w,e,v',by simp[hs],.inl rfl,e.le_refl,h,hv⟩
theorem ff.val {s:Sem Value}{v:AV}(hs:s.run P w=.ok v' w')(he:e.le e')(h:RH G F W e' H' w')(hv:VR e' v v'):
  ff P G F W e v H' ((do Pure.pure (Next.value (<-s)):Sem Next).run P w):=
 ⟨.value v',w',e',v',by simp[hs],.inl rfl,he,h,hv⟩
theorem VR.undef:VR e bP undef:=.tuple [] #[] rfl zzy
theorem ff.unit {s:Sem Unit}(hs:s.run P w=.ok () w')(he:e.le e')(h:RH G F W e' H' w'):
  ff P G F W e bP H' ((do s;Pure.pure Next.skip:Sem Next).run P w):=
 ⟨.skip,w',e',_,by simp[hs],.inr ⟨rfl,rfl⟩,he,h,.undef⟩
theorem VR.qS {v:Value}{a:AV}(h:qS v=some a):VR e a v:=by unfold Am.qS at h;split at h<;>simp only[acM,reduceCtorEq] at h<;>subst h<;>constructor
theorem aR.qS:∀{vs:List Value} {l:List AV},vs.mapM Am.qS=some l->aR e l vs
 |[],l,h=>by simp at h;subst h;exact .nil e
 |v::vs,l,h=>by simp only[List.mapM_cons,abY,Option.pure_def,aaC,acM] at h;obtain⟨a,ha,r,hr,rfl⟩:=h;exact .cons (.qS ha) (aR.qS hr)
theorem VR.lj {v:Value}{a:AV}(h:lj v=some a):VR e a v:=by
 unfold Am.lj at h;split at h;·simp only[aag] at h;obtain⟨l,hl,rfl⟩:=h;have:=aR.qS (e:=e) hl;exact .agg _ _ this.1 this.2
 ·simp only[aag] at h;obtain⟨l,hl,rfl⟩:=h;have:=aR.qS (e:=e) hl;exact .tuple _ _ this.1 this.2
 ·simp only[aag] at h;obtain⟨l,hl,rfl⟩:=h;exact .iface _ _ _ (.qS hl)
 ·exact .qS h
theorem Cf {t:TypeId}(h:zc P t=some l):∃i z,P.info? t=some i/\i.zero=some z/\aR e l z.cells.toList:=by simp only[zc,abY,aaC] at h;obtain⟨i,hi,z,hz,hl⟩:=h;exact⟨i,z,hi,hz,.qS hl⟩
theorem vH {t:TypeId}{i:TypeInfo}{z:Value}(hi:P.info? t=some i)(hz:i.zero=some z)(w:World):(zeroValue t).run P w=.ok z w:=by simp[zeroValue,sM hi,hz]
theorem apA (h:RH G F W e H w){t:TypeId}(hz:zc P t=some l)(hn:aA H l t 0=some (i,H')):
  ∃v' w' e',(Instr.alloc t true (.tuple #[])).run P w=.ok v' w'/\e.le e'/\RH G F W e' H' w'/\VR e' (.ptr i 0) v':=by
 obtain⟨inf,z,hi,gN,hl⟩:=Cf (e:=e) hz;obtain⟨e',he,h1,h2,h3,h4,hr⟩:=h.newRow (rest:=[]) (fz:=(0,0)) hn hl (λ_=>rfl) zzy;refine⟨.pointer (some ⟨w.heap.size,0,none⟩),_,e',?_,he,hr,?_⟩;·simp[Instr.alloc,vH hi gN,newVar,Go.newRow]
 ·rw[<-h2];exact .ptr i 0 0 h1 (by rw[h3];simp)
theorem asw (h:RH G F W e H w){t:TypeId}{v:AV}(hv:VR e v v')(hz:uE v=some l)(hn:aA H l t 0=some (i,H')):
  ∃u w' e',(Instr.box t v').run P w=.ok u w'/\e.le e'/\RH G F W e' H' w'/\VR e' (.ptr i 0) u:=by
 have hl:=hv.cells hz;obtain⟨e',he,h1,h2,h3,h4,hr⟩:=h.newRow (rest:=[]) (fz:=(0,0)) hn hl (λ_=>rfl) zzy;refine⟨.pointer (some ⟨w.heap.size,0,none⟩),_,e',?_,he,hr,?_⟩;·simp[Instr.box,newVar,Go.newRow]
 ·rw[<-h2];exact .ptr i 0 0 h1 (by rw[h3];simp)
theorem Dz {t:TypeId}{vs:Array Value}{v:AV}(hl:aR e cs vs.toList)(hp:pA P t cs off=some v)(w:World):
  ∃v',(part t vs off).run P w=.ok v' w/\VR e v v':=by
 simp only[pA,abY,aaC] at hp;obtain⟨b,hb,hp⟩:=hp;cases b with
 |true=>
  simp only[if_true,aaC] at hp;obtain⟨n,hn,hp⟩:=hp;cases hc:Nat.ble (off+n) cs.length with
  |false=>rw[hc] at hp;cases hp
  |true=>
   rw[hc] at hp;simp only[cond_true,acM] at hp;subst hp;refine⟨.agg (vs.extract off (off+n)),by simp[part,RU hb,jq hn],?_⟩;have:=(hl.drop off).take n;have e2:(vs.extract off (off+n)).toList=(vs.toList.drop off).take n:=by simp[Array.toList_extract,List.extract]
   exact .agg _ _ (by rw[e2];exact this.1) (by rw[e2];exact this.2)
 |false=>
  simp only[aa4,if_false] at hp;obtain⟨v',bT,hr⟩:=hl.get hp;rw[aeq] at bT;exact⟨v',by simp[part,RU hb,bT],hr⟩
theorem awv {t:TypeId}{v:AV}{fd:Field}(hx:VR e x x')(hu:P.underlying t=some (.struct fs))(hf:fs[f]?=some fd)
  (hxs:x=.agg cs) (hp:pA P fd.type cs fd.offset=some v) (w:World):∃v',(Instr.field t x' f).run P w=.ok v' w/\VR e v v':=by
 subst hxs;obtain⟨vs,rfl,hl⟩:=hx.Aj;obtain⟨v',bT,hr⟩:=Dz hl hp w;exact⟨v',by simp[Instr.field,aL hu,hf,asAgg,bT],hr⟩
theorem aq4 {t:TypeId}{o n:Nat}{fd:Field}(hx:VR e (.ptr i o) x')(hu:P.underlying t=some (.struct fs))(hf:fs[f]?=some fd)
  (hs:sz P fd.type=some n) (hn:n≠0) (w:World):∃v',(Instr.fieldAt t x' f).run P w=.ok v' w/\VR e (.ptr i (o+fd.offset)) v':=by
 obtain⟨o',hi,ho,rfl⟩:=hx.tG;refine⟨.pointer (some ⟨e.b i,o'+fd.offset,none⟩),?_,.ptr _ _ _ hi zzz⟩;simp[Instr.fieldAt,aL hu,hf,Instr.sureAddr,fieldPlace,jq hs,hn,add_lit]
theorem ayb {t:TypeId}{v:AV}(hx:VR e x x')(tB:VR e ix ix')(ha:I0 P t x ix=some v)(w:World):
  ∃v',(Instr.indexAt t x' ix').run P w=.ok v' w/\VR e v v':=by
 simp only[I0,abY,aaC] at ha;obtain⟨d,hd,ha⟩:=ha;split at ha
 ·rename_i n el i off kk k;simp only[aaC] at ha;obtain⟨es,dY,ha⟩:=ha;split at ha;·rename_i hk;simp only[aam,zz5] at hk;cases ha;obtain⟨o,hi,ho,rfl⟩:=hx.tG;obtain rfl:=tB.il;refine⟨.pointer (some ⟨e.b i,o+k.toNat*es,none⟩),?_,.ptr _ _ _ hi zzz⟩;simp[Instr.indexAt,asIntOf,aL hd,Instr.sureAddr,hk.1,hk.2,jq dY,add_lit]
  ·cases ha
 ·rename_i el i off len cap ex es kk k;simp only[aaC] at ha;obtain⟨es',dY,ha⟩:=ha;split at ha
  ·rename_i hk;simp only[aam,zz5,zz6] at hk;obtain⟨⟨rfl,xF⟩,iw⟩:=hk;cases ha;obtain rfl:=tB.il;rcases hx.nL with⟨o,c,hi,ho,hl,hc,kC,hn,rfl⟩|⟨rfl,_,_,_⟩;·refine⟨.pointer (some ⟨e.b i,o+k.toNat*es',none⟩),?_,.ptr _ _ _ hi zzz⟩;simp[Instr.indexAt,asIntOf,aL hd,xF,iw,jq dY,add_lit]
   ·omega
  ·cases ha
 ·cases ha
theorem ao9 {t:TypeId}{v:AV}(hx:VR e x x')(tB:VR e ix ix')(ha:IU P t x ix=some v)(w:World):
  ∃v',(Instr.index t x' ix').run P w=.ok v' w/\VR e v v':=by
 simp only[IU,abY,aaC] at ha;obtain⟨d,hd,ha⟩:=ha;split at ha
 ·rename_i n el cs kk k;simp only[aaC] at ha;obtain⟨es,dY,ha⟩:=ha;split at ha;·rename_i hk;simp only[aam,zz5] at hk;obtain⟨vs,rfl,hl⟩:=hx.Aj;obtain rfl:=tB.il;obtain⟨v',bT,hr⟩:=Dz hl ha w;exact⟨v',by simp[Instr.index,asIntOf,aL hd,hk.1,hk.2,jq dY,bT],hr⟩
  ·cases ha
 ·rename_i s kk k;split at ha
  ·rename_i hk;obtain⟨b,rfl,rfl⟩:=hx.oc;obtain rfl:=tB.il;simp only[aag] at ha;obtain⟨c,hc,rfl⟩:=ha;simp only[bytes,acd,aag] at hc;obtain⟨u,hu,rfl⟩:=hc;refine⟨.int .u8 u.toNat,?_,.int _ _⟩;have hb:b[k.toNat]?=some u:=by
    have h1:k.toNat<b.data.toList.length:=(aac.1 hu).1;have h2:k.toNat<b.size:=by rw[alb] at h1;exact h1
    rw[getElem?_pos b k.toNat h2];congr 1;have h3:=(aac.1 hu).2;rw[<-h3];rfl
   simp[Instr.index,asIntOf,aL hd,hk,hb]
  ·cases ha
 ·cases ha
theorem Ic {lo hi:Nat}{v:AV}{n:Nat}(hv:VR e v v')(h:bound lo hi v=some n):∃k:IntKind,∃z:Int,v'=.int k z/\lo<=n/\n<=hi/\z=n:=by
 unfold bound at h;split at h
 ·rename_i k z;split at h;·rename_i hk;simp only[aam,zz5] at hk;cases h;exact⟨k,z,hv.il,zzz,zzz,zzz⟩
  ·cases h
 ·cases h
def zy (e:Em):Option AV->Option Value->Prop
 |none,none=>True|some a,some b=>VR e a b|_,_=>False
theorem BE {z:Int}{n y:Nat}{code:BoundsCode}(h:z=n)(hy:n<=y)(w:World):(Instr.sliceBound (.int k z) y code).run P w=.ok n w:=by subst h;simp[Instr.sliceBound,asIntOf,hy]
theorem Lx {vl:Bool}{len xa:Nat}(h1:zy e low Ba)(h2:zy e high EU)(h3:zy e mx mx')
  {l h m:Nat} (hb:uW len cap low high mx=some (l,h,m)) (hl:len<=xa) (hc:cap<=xa) (w:World):
  (Instr.sliceBounds vl len xa Ba EU mx').run P w=.ok (l,h,if mx.isSome then m else xa) w/\l<=h/\(mx=none->m=cap)/\(mx.isSome=true->h<=m/\m<=cap)/\(high=none->h=len)/\(mx=none->high.isSome=true->h<=cap):=by
 simp only[uW,abY,aaC,Option.pure_def,acM,abX] at hb;obtain⟨m0,hm,h0,hh,l0,tE,rfl,rfl,rfl⟩:=hb;cases mx with
 |some mv=>
  cases mx' with
  |none=>exact h3.elim|some mv'=>
   obtain⟨km,zm,rfl,_,tc,hm3⟩:=Ic h3 hm;cases high with
   |none=>cases hh
   |some hv=>
    cases EU with
    |none=>exact h2.elim|some bT=>
     obtain⟨kh,zh,rfl,_,sX,Oo⟩:=Ic h2 hh;cases low with
     |none=>
      cases Ba with
      |some _=>exact h1.elim|none=>
       cases tE;refine⟨?_,zzz,zzy,λ_=>⟨sX,tc⟩,zzy,zzy⟩;simp[Instr.sliceBounds,BE hm3 (show m0<=xa by omega),BE Oo sX]
     |some lv=>
      cases Ba with
      |none=>exact h1.elim|some lv'=>
       obtain⟨kl,zl,rfl,_,qL,Gu⟩:=Ic h1 tE;refine⟨?_,qL,zzy,λ_=>⟨sX,tc⟩,zzy,zzy⟩;simp[Instr.sliceBounds,BE hm3 (show m0<=xa by omega),BE Oo sX,BE Gu qL]
 |none=>
  cases mx' with
  |some _=>exact h3.elim|none=>
   cases hm;cases high with
   |none=>
    cases EU with
    |some _=>exact h2.elim|none=>
     cases hh;cases low with
     |none=>
      cases Ba with
      |some _=>exact h1.elim|none=>cases tE;exact⟨by simp[Instr.sliceBounds],zzz,zzy,zzy,zzy,zzy⟩
     |some lv=>
      cases Ba with
      |none=>exact h1.elim|some lv'=>
       obtain⟨kl,zl,rfl,_,qL,Gu⟩:=Ic h1 tE;exact⟨by simp[Instr.sliceBounds,BE Gu qL],qL,zzy,zzy,zzy,zzy⟩
   |some hv=>
    cases EU with
    |none=>exact h2.elim|some bT=>
     obtain⟨kh,zh,rfl,_,sX,Oo⟩:=Ic h2 hh;cases low with
     |none=>
      cases Ba with
      |some _=>exact h1.elim|none=>cases tE;exact⟨by simp[Instr.sliceBounds,BE Oo (show h0<=xa by omega)],zzz,zzy,zzy,zzy,λ_ _=>sX⟩
     |some lv=>
      cases Ba with
      |none=>exact h1.elim|some lv'=>
       obtain⟨kl,zl,rfl,_,qL,Gu⟩:=Ic h1 tE;exact⟨by simp[Instr.sliceBounds,BE Oo (show h0<=xa by omega),BE Gu qL],qL,zzy,zzy,zzy,λ_ _=>sX⟩
theorem aR.ady (b:ByteArray)(l h:Nat):((bytes b).drop l).take (h-l)=bytes (b.extract l h):=by unfold bytes;rw[ByteArray.data_extract,Array.toList_extract,List.extract,List.map_take,List.map_drop]
theorem aw1 (hRH:RH G F W e H w){t:TypeId}{v:AV}(hx:VR e x x')(h1:zy e low Ba)(h2:zy e high EU)(h3:zy e mx mx')
  (ha:uJ P t x low high mx H=some v):∃v',(Instr.sliceAt t x' Ba EU mx').run P w=.ok v' w/\VR e v v':=by
 simp only[uJ,abY,aaC] at ha;obtain⟨d,hd,ha⟩:=ha;split at ha
 ·rename_i s;obtain⟨b,rfl,rfl⟩:=hx.oc;cases mx with
  |some _=>simp at ha|none=>
   cases mx' with
   |some _=>exact h3.elim|none=>
    simp only[af0,aa4,if_false,aaC,Prod.exists] at ha;obtain⟨l,h,m,hb,hv⟩:=ha;simp only[acM] at hv;subst hv;have fK:(bytes b).length=b.size:=by unfold bytes;rw[abF,alb];rfl
    rw[fK] at hb;obtain⟨hr,TX,hm,_,Di,sX⟩:=Lx (P:=P) (vl:=false) h1 h2 h3 hb (aaq _) (aaq _) w;simp only[af0,aa4,if_false] at hr;refine⟨.string (b.extract l h),by simp[Instr.sliceAt,Instr.slice,aL hd,hr],?_⟩;rw[aR.ady];exact .str _
 ·rename_i el;simp only[aaC,Prod.exists] at ha;obtain⟨l,h,m,hb,hv⟩:=ha;split at hv
  ·rename_i hs;simp only[acM] at hv;subst hv;obtain⟨es,dY⟩:=aiN.1 hs;cases hx;obtain⟨hr,TX,hm,tc,Di,sX⟩:=Lx (P:=P) (vl:=true) h1 h2 h3 hb (aaq _) (aaq _) w;refine⟨.slice none 0 0,?_,.ah⟩;have hh:h=0:=by
    cases mx with
    |some _=>have:=tc rfl;omega|none=>
     cases high with
     |none=>exact Di rfl|some _=>have:=sX rfl rfl;omega
   have tE:l=0:=zzz;subst hh;subst tE;have Ud:(if mx.isSome=true then m else 0)=0:=by
    split;·rename_i hms;have:=tc hms;omega
    ·rfl
   rw[Ud] at hr;simp[Instr.sliceAt,Instr.slice,aL hd,hr,jq dY]
  ·cases hv
 ·rename_i el i off len cap ex es;simp only[aaC,Prod.exists] at ha;obtain⟨l,h,m,hb,es',dY,hv⟩:=ha;split at hv
  ·rename_i hs;simp only[zz6] at hs;subst hs;simp only[acM] at hv;subst hv;rcases hx.nL with⟨o,c,hi,ho,hl,hc,kC,hn,rfl⟩|⟨rfl,rfl,a,rfl⟩
   ·obtain⟨hr,TX,hm,tc,Di,sX⟩:=Lx (P:=P) (vl:=true) h1 h2 h3 hb hl hc w;have Io:h<=(if mx.isSome=true then m else c)/\m<=(if mx.isSome=true then m else c)/\(if mx.isSome=true then m else c)<=c/\((ex||mx.isSome)=true->(if mx.isSome=true then m else c)=m):=by
     cases mx with
     |some _=>have:=tc rfl;simp;omega|none=>
      have hmc:=hm rfl;simp only[af0,aa4,if_false,Bool.or_false];refine⟨?_,zzz,zzz,λqU=>by rw[kC qU,hmc]⟩;cases high with
      |none=>have:=Di rfl;omega|some _=>have:=sX rfl rfl;omega
    generalize (if mx.isSome=true then m else c)=m' at hr Io;obtain⟨Bc,tX,hq3,Zh⟩:=Io;by_cases yd:m'=l;·have e1:h-l=0:=zzz;have e2:m-l=0:=zzz;refine⟨.slice (some ⟨e.b i,o,none⟩) 0 0,?_,by rw[e1,e2];exact .EG ..⟩;have e3:h=l:=zzz;simp[Instr.sliceAt,Instr.slice,aL hd,hr,jq dY,yd,e3]
    ·refine⟨.slice (some ⟨e.b i,o+l*es',none⟩) (h-l) (m'-l),?_,.slice _ _ _ _ _ _ _ _ hi zzz zzz zzz (λqU=>by rw[Zh qU]) ?_⟩;·simp[Instr.sliceAt,Instr.slice,aL hd,hr,jq dY,yd,add_lit]
     ·have:o+l*es'+(m'-l)*es'=o+m'*es':=by rw[ak3,<-afB];congr 2;omega
      rw[this];have:m'*es'<=c*es':=adS _ hq3;omega
   ·obtain⟨hr,TX,hm,tc,Di,sX⟩:=Lx (P:=P) (vl:=true) (xa:=0) h1 h2 h3 hb (aaq _) (aaq _) w;have hh:h=0:=by
     cases mx with
     |some _=>have:=tc rfl;omega|none=>
      cases high with
      |none=>exact Di rfl|some _=>have:=sX rfl rfl;omega
    have tE:l=0:=zzz;have Ud:(if mx.isSome=true then m else 0)=0:=by
     split;·rename_i hms;have:=tc hms;omega
     ·rfl
    have Dq:m=0:=by
     cases mx with
     |some _=>have:=tc rfl;omega|none=>exact hm rfl
    subst hh;subst tE;subst Dq;rw[Ud] at hr;exact⟨.slice (some a) 0 0,by simp[Instr.sliceAt,Instr.slice,aL hd,hr,jq dY],.EG ..⟩
  ·cases hv
 ·rename_i n el i off;simp only[aaC,Prod.exists] at ha;obtain⟨l,h,m,hb,es,dY,hv⟩:=ha;split at hv
  ·rename_i hs;simp only[aam,aeg] at hs;obtain⟨vM,om⟩:=hs;obtain⟨u,hu⟩:=aiN.1 om;simp only[acM] at hv;subst hv;obtain⟨o,hi,ho,rfl⟩:=hx.tG;obtain⟨hr,TX,hm,tc,Di,sX⟩:=Lx (P:=P) (vl:=false) h1 h2 h3 hb (aaq _) (aaq _) w;have aN:=hRH.aa1 (o:=o+n*es-1) hu zzz;have hmn:(if mx.isSome=true then m else n)=m/\m<=n/\h<=m:=by
    cases mx with
    |some _=>have:=tc rfl;simp;omega|none=>
     have:=hm rfl;subst this;refine⟨zzy,aaq _,?_⟩;cases high with
     |none=>have:=Di rfl;omega|some _=>exact sX rfl rfl
   rw[hmn.1] at hr;obtain⟨_,Bc,tX⟩:=hmn;by_cases yd:m=l;·have e1:h-l=0:=zzz;have e2:m-l=0:=zzz;refine⟨.slice (some ⟨e.b i,o,none⟩) 0 0,?_,by rw[e1,e2];exact .EG ..⟩;have e3:h=l:=zzz;simp[Instr.sliceAt,aL hd,Instr.sureAddr,hr,jq dY,yd,e3]
   ·refine⟨.slice (some ⟨e.b i,o+l*es,none⟩) (h-l) (m-l),?_,.slice _ _ _ _ _ _ _ _ hi zzz zzz zzz (λ_=>rfl) ?_⟩;·simp[Instr.sliceAt,aL hd,Instr.sureAddr,hr,jq dY,yd,add_lit]
    ·have:o+l*es+(m-l)*es=o+m*es:=by rw[ak3,<-afB];congr 2;omega
     rw[this];have:m*es<=n*es:=adS _ Bc;omega
  ·cases hv
 ·cases ha
end
end
end
section
variable {P:Program}{G:Nat}{F:Nat->Prop}{W:World}{e:Em}{H:Hp}{w:World}
theorem AZ (b:ByteArray):(bytes b).length=b.size:=by unfold bytes;rw[abF,alb];rfl
theorem aef:∀{x y:List UInt8},x.map (·.toNat)=y.map (·.toNat)->x=y
 |[],[],_=>rfl|[],_::_,h=>by simp at h
 |_::_,[],h=>by simp at h
 |a::x,b::y,h=>by simp only[abo,List.cons.injEq] at h;rw[UInt8.toNat_inj.1 h.1,aef h.2]
theorem bytes_beq (a b:ByteArray):(bytes a==bytes b)=(a.data.toList==b.data.toList):=by
 unfold bytes;by_cases h:a.data.toList=b.data.toList;·rw[h];simp
 ·have:¬(a.data.toList.map (·.toNat)=b.data.toList.map (·.toNat)):=λh2=>h (aef h2);rw[beq_eq_false_iff_ne.2 h,beq_eq_false_iff_ne.2 this]
theorem an8:∀(x y:List UInt8),tw (x.map (·.toNat)) (y.map (·.toNat))=Op.bytesLess x y
 |x,[]=>by cases x<;>simp[tw,Op.bytesLess]
 |[],b::y=>by simp[tw,Op.bytesLess]
 |a::x,b::y=>by
  simp only[abo,tw,Op.bytesLess,an8 x y];congr 1
  ·by_cases h:a.toNat<b.toNat
   ·have:a<b:=by rw[UInt8.lt_iff_toNat_lt];exact h
    simp[this,h]
   ·have:¬a<b:=by rw[UInt8.lt_iff_toNat_lt];exact h
    have h2:Nat.blt a.toNat b.toNat=false:=by
     cases hb:Nat.blt a.toNat b.toNat;·rfl
     ·rw[aeg] at hb;exact absurd hb h
    simp[this,h2]
  ·congr 1;by_cases h:a=b;·subst h;simp
   ·have h2:¬a.toNat=b.toNat:=λq=>h (UInt8.toNat_inj.1 q);rw[rq h2,beq_eq_false_iff_ne.2 h]
theorem azy (a b:ByteArray):bytes (a++b)=bytes a++bytes b:=by unfold bytes;rw[ByteArray.data_append,Array.toList_append,acZ]
theorem am4 (k:IntKind)(a:Int)(h:0<=a):(BitVec.ofInt k.bits a).toNat=a.toNat%2^k.bits:=by
 rw[alx];obtain⟨n,rfl⟩:=Int.eq_ofNat_of_zero_le h;rw[abO];have:((n:Int)%((2^k.bits:Nat):Int))=((n%2^k.bits:Nat):Int):=by norm_cast
 rw[this,abO]
theorem aoh {α:Type}(g:α->Option Bool)(body:α->Option Bool×Unit->Sem (ForInStep (Option Bool×Unit)))(w:World)
  (hb:∀a b,g a=some b->(body a (none,())).run P w=.ok (if b then .yield (none,()) else .done (some false,())) w):
  ∀(l:List α) (b:Bool),ur g l=some b->(forIn l (none,()) body).run P w=.ok (if b then (none,()) else (some false,())) w:=by
 intro l;induction l with
 |nil=>intro b h;simp only[ur,acM] at h;subst h;simp|cons a r ih=>
  intro b h;unfold ur at h;split at h;·rename_i hg;rw[List.forIn_cons,Sem.run_bind,hb a true hg];exact ih b h
  ·rename_i hg;cases h;rw[List.forIn_cons,Sem.run_bind,hb a false hg];simp
  ·cases h
theorem alY (p q:ByteArray):(p==q)=(bytes p==bytes q):=by
 rw[bytes_beq];have h0:(p==q)=(p.data==q.data):=by cases p;cases q;rfl
 rw[h0];by_cases e:p.data=q.data;·rw[e];simp
 ·have:¬p.data.toList=q.data.toList:=λh2=>e (aee.1 h2);rw[beq_eq_false_iff_ne.2 e,beq_eq_false_iff_ne.2 this]
theorem aj0 (h:RH G F W e H w){i:Nat}(hc:clean H i=true):∃C el,i<e.N/\w.heap[e.b i]?=some (.cells C el (0,0))/\(∃o,H.h.get i=some o/\wr o=true):=by
 unfold clean at hc;split at hc
 ·rename_i c lo hi el hg;obtain⟨hN,ob,eW,eN,_⟩:=h.obj i _ hg;cases eN with
  |cells _ _ _ _ _ C fz hn jI h0 h1 hd=>
   have:=h0 rfl;subst this;exact⟨C,el,hN,eW,_,hg,rfl⟩
 ·cases hc
theorem NY (h:RH G F W e H w):∀(d D:Nat),d<=D->∀(t:TypeId) (x y:AV) (x' y':Value) (b:Bool),VR e x x'->VR e y y'->eL P d t x y H=some b->
  (Op.equalIn D t x' y').run P w=.ok b w:=by
 intro d;induction d with
 |zero=>intro D _ t x y x' y' b _ _ hb;cases hb
 |succ d ih=>
  intro D hD t x y x' y' b hx hy hb;obtain⟨D,rfl⟩:∃k,D=k+1:=⟨D-1,zzz⟩;unfold eL at hb;split at hb;·cases hb
  rename_i u hu;split at hb;·cases hx.wj;cases hy.wj;cases hb;simp[Op.equalIn,aL hu]
  ·cases hx.il;cases hy.il;split at hb;·rename_i hk;cases hb;simp[Op.equalIn,aL hu,hk]
   ·cases hb
  ·obtain⟨p,rfl,rfl⟩:=hx.oc;obtain⟨q,rfl,rfl⟩:=hy.oc;cases hb;have:=alY p q;simp[Op.equalIn,aL hu,this]
  ·cases hx;cases hy;cases hb;simp[Op.equalIn,aL hu]
  ·cases hx;cases hy;cases hb;simp[Op.equalIn,aL hu]
  ·cases hx;cases hy;cases hb;simp[Op.equalIn,aL hu]
  ·rename_i el i a j c;split at hb
   ·rename_i n hn;obtain⟨o,hi,ho,rfl⟩:=hx.tG;obtain⟨o2,hj,qK,rfl⟩:=hy.tG;cases lM:Nat.beq i j with
    |true=>
     have:i=j:=aaY lM;subst this;rw[lM] at hb;cases hb;have:(Nat.beq a c)=(o==o2):=by
      by_cases q:a=c;·subst q;have:o=o2:=zzz;subst this;simp
      ·rw[rq q,beq_eq_false_iff_ne.2 zzz]
     simp[Op.equalIn,aL hu,jq hn,sameAddr,this];by_cases q:o=o2;·subst q;simp
     ·rw[beq_eq_false_iff_ne.2 q,beq_eq_false_iff_ne.2 (by simp;exact q)]
    |false=>
     rw[lM] at hb;cases ns:(clean H i&&clean H j) with
     |false=>rw[ns] at hb;cases hb
     |true=>
      rw[ns] at hb;cases hb;rw[aam] at ns;obtain⟨C1,l1,_,g1,o1,q1,u1⟩:=aj0 h ns.1;obtain⟨C2,l2,_,g2,o3,q2,u2⟩:=aj0 h ns.2;have aE:¬e.b i=e.b j:=λq=>by have:=h.inj i j _ _ q1 q2 (.inl u1) q;subst this;simp at lM
      have f1:∀k,w.frozen? ⟨e.b i,k,none⟩=false:=λk=>by simp[World.frozen?,g1]
      have f2:∀k,w.frozen? ⟨e.b j,k,none⟩=false:=λk=>by simp[World.frozen?,g2]
      have s1:w.shape? (e.b i)=some (l1,C1.size):=by simp[World.shape?,g1]
      have s2:w.shape? (e.b j)=some (l2,C2.size):=by simp[World.shape?,g2]
      simp[Op.equalIn,aL hu,jq hn,sameAddr,aE,f1,f2,noView,viewAt,s1,s2,mayBeOne,stringish]
   ·cases hb
  ·cases hx;cases hy;cases hb;simp[Op.equalIn,aL hu]
  ·cases hx;cases hy;cases hb;simp[Op.equalIn,aL hu]
  ·cases hx;cases hy;cases hb;simp[Op.equalIn,aL hu]
  ·rename_i t1 v1 t2 v2;cases hx with
   |iface _ _ v1' oL=>
   cases hy with
   |iface _ _ I6 vY=>
   split at hb
   ·rename_i ht;subst ht;split at hb
    ·rename_i inf kA;cases Vg:inf.comparable with
     |false=>rw[Vg] at hb;cases hb
     |true=>
      rw[Vg] at hb;have:=ih D zzz t1 v1 v2 v1' I6 b oL vY hb;simp[Op.equalIn,aL hu,sM kA,Vg,this]
    ·cases hb
   ·rename_i ht;cases hb;simp[Op.equalIn,aL hu,ht]
  ·rename_i fs xs ys;cases aC:P.stoodInHeld t with
   |true=>rw[aC] at hb;cases hb
   |false=>
    rw[aC] at hb;simp only[cond_false] at hb;obtain⟨vx,rfl,gB⟩:=hx.Aj;obtain⟨vy,rfl,hly⟩:=hy.Aj;have key:=aoh (P:=P) (g:=λf:Field=>if f.name = "_" then some true else
     match pA P f.type xs f.offset,pA P f.type ys f.offset with
     |some a,some b=>eL P d f.type a b H|_,_=>none) (body:=λf UU=>
      if f.name = "_" then Pure.pure (ForInStep.yield (none,()))
      else do
       let GK <-part f.type vx f.offset
       let Uc <-part f.type vy f.offset
       let GK <-Op.equalIn D f.type GK Uc
       if GK=false then Pure.pure (ForInStep.done (some false,())) else Pure.pure (ForInStep.yield (none,()))) w (by
      intro f b hg;by_cases hn:f.name = "_";·rw[zz2 hn] at hg;cases hg;simp[hn]
      ·rw[zz1 hn] at hg;split at hg;·rename_i a1 a2 h1 h2;obtain⟨u1,Aw,jX⟩:=Dz gB h1 w;obtain⟨u2,uH,rJ⟩:=Dz hly h2 w;have:=ih D zzz f.type a1 a2 u1 u2 b jX rJ hg;cases b<;>simp[hn,Aw,uH,this]
       ·cases hg) fs.toList b hb
    simp only[Op.equalIn,Sem.run_bind,aL hu,Result.andThen_ok,run_program,aC];simp only[Array.forIn_toList] at key;simp[key];cases b<;>simp
  ·rename_i n el xs ys;split at hb
   ·rename_i s hs;obtain⟨vx,rfl,gB⟩:=hx.Aj;obtain⟨vy,rfl,hly⟩:=hy.Aj;have key:=aoh (P:=P) (g:=λi:Nat=>
     match pA P el xs (i*s),pA P el ys (i*s) with
     |some a,some b=>eL P d el a b H|_,_=>none) (body:=λi UU=>do
       let GK <-part el vx (i*s)
       let Uc <-part el vy (i*s)
       let GK <-Op.equalIn D el GK Uc
       if GK=false then Pure.pure (ForInStep.done (some false,())) else Pure.pure (ForInStep.yield (none,()))) w (by
      intro f b hg;split at hg;·rename_i a1 a2 h1 h2;obtain⟨u1,Aw,jX⟩:=Dz gB h1 w;obtain⟨u2,uH,rJ⟩:=Dz hly h2 w;have:=ih D zzz el a1 a2 u1 u2 b jX rJ hg;cases b<;>simp[Aw,uH,this]
      ·cases hg) (List.range' 0 n) b hb
    simp[Op.equalIn,aL hu,jq hs];simp[key];cases b<;>simp
   ·cases hb
  ·cases hx;cases hy;cases hb;simp[Op.equalIn,aL hu]
  ·cases hx;cases hb;rcases hy.nL with⟨o,c,hi,ho,hl,hc,kC,hn,rfl⟩|⟨rfl,rfl,a,rfl⟩<;>simp[Op.equalIn,aL hu]
  ·cases hy;cases hb;rcases hx.nL with⟨o,c,hi,ho,hl,hc,kC,hn,rfl⟩|⟨rfl,rfl,a,rfl⟩<;>simp[Op.equalIn,aL hu]
  ·cases hx;cases hy;cases hb;simp[Op.equalIn,aL hu]
  ·cases hx;cases hy;cases hb;simp[Op.equalIn,aL hu]
  ·cases hx;cases hy;cases hb;simp[Op.equalIn,aL hu]
  ·cases hx;cases hy;cases hb;simp[Op.equalIn,aL hu]
  ·cases hx;cases hy;cases hb;simp[Op.equalIn,aL hu]
  ·cases hx;cases hy;cases hb;simp[Op.equalIn,aL hu]
  ·cases hb
end
end
section
variable {P:Program}{G:Nat}{F:Nat->Prop}{W:World}{e:Em}{H:Hp}{w:World}
theorem aGM (k:IntKind)(a b:Int):((BitVec.ofInt k.bits a)&&&(BitVec.ofInt k.bits b)).toNat=mh k a&&&mh k b:=by rw[BitVec.toNat_and,alx,alx];rfl
theorem auJ (k:IntKind)(a b:Int):((BitVec.ofInt k.bits a)|||(BitVec.ofInt k.bits b)).toNat=mh k a|||mh k b:=by rw[BitVec.toNat_or,alx,alx];rfl
theorem aHm (k:IntKind)(a b:Int):((BitVec.ofInt k.bits a) ^^^ (BitVec.ofInt k.bits b)).toNat=mh k a ^^^ mh k b:=by rw[BitVec.toNat_xor,alx,alx];rfl
theorem awC (k:IntKind)(a b:Int)(ha:0<=a)(hb:0<=b):((BitVec.ofInt k.bits a) ^^^ (BitVec.ofInt k.bits b)).toNat=(a.toNat%2^k.bits) ^^^ (b.toNat%2^k.bits):=by rw[BitVec.toNat_xor,am4 k a ha,am4 k b hb]
theorem Tu (a b:ByteArray):(a.toList==b.toList)=(bytes a==bytes b):=by rw[ByteArray.toList_eq,ByteArray.toList_eq,bytes_beq]
theorem TN (a b:ByteArray):Op.bytesLess a.toList b.toList=tw (bytes a) (bytes b):=by rw[ByteArray.toList_eq,ByteArray.toList_eq];exact (an8 _ _).symm
section
variable {k:IntKind}{x y:AV}{x':Value}
theorem QG {d:Nat}{t:TypeId}{b:Bool}(hb:eL P d t x y H=some b):x ≠ .dG/\y ≠ .dG:=by
 constructor
 ·rintro rfl;cases d with
  |zero=>cases hb
  |succ d=>
   unfold eL at hb;split at hb;·cases hb
   ·split at hb<;>first|(simp at*;done)|(simp_all;done)|cases hb
 ·rintro rfl;cases d with
  |zero=>cases hb
  |succ d=>
   unfold eL at hb;split at hb;·cases hb
   ·split at hb<;>first|(simp at*;done)|(simp_all;done)|cases hb
theorem VR.agc (h:VR e x x')(hj:x ≠ .dG):(∀k a,x' ≠ .float k a)/\(∀k a b,x' ≠ .complex k a b):=by cases h<;>first|(exact absurd rfl hj)|(constructor<;>(intros;simp))
theorem ay2 {t:TypeId}{x y:Value}(h1:∀k a k' b,x=.int k a->y=.int k' b->False)(h2:∀a b,x=.string a->y=.string b->False)
  (h3:∀k a,x ≠ .float k a) (h4:∀k a b,x ≠ .complex k a b):binOp .eql t x y=(do Pure.pure (.bool (<-Op.equal t x y))):=by
 cases x<;>cases y<;>first|rfl|(exact absurd rfl (h3 _ _))|(exact absurd rfl (h4 _ _ _))|(exact (h1 _ _ _ _ rfl rfl).elim)|(exact (h2 _ _ rfl rfl).elim)
theorem awf {t:TypeId}{x y:Value}(h1:∀k a k' b,x=.int k a->y=.int k' b->False)(h2:∀a b,x=.string a->y=.string b->False)
  (h3:∀k a,x ≠ .float k a) (h4:∀k a b,x ≠ .complex k a b):binOp .neq t x y=(do Pure.pure (.bool (!(<-Op.equal t x y)))):=by
 cases x<;>cases y<;>first|rfl|(exact absurd rfl (h3 _ _))|(exact absurd rfl (h4 _ _ _))|(exact (h1 _ _ _ _ rfl rfl).elim)|(exact (h2 _ _ rfl rfl).elim)
theorem VR.RZ {n:Int}(h:VR e x (.int k n))(hj:x ≠ .dG):x=.int k n:=by cases h<;>first|rfl|exact absurd rfl hj
theorem VR.QW {s:ByteArray}(h:VR e x (.string s))(hj:x ≠ .dG):x=.str (bytes s):=by cases h<;>first|rfl|exact absurd rfl hj
theorem aDd (h:RH G F W e H w){op:BinOp}{t:TypeId}{x y v:AV}{x' y':Value}(hx:VR e x x')(hy:VR e y y')(hb:fV P op t x y H=some v):
  ∃v',(binOp op t x' y').run P w=.ok v' w/\VR e v v':=by
 unfold fV at hb;split at hb
 ·cases hx.il;cases hy.il;split at hb;·cases hb
  ·rename_i hn;cases hb;exact⟨_,by simp[binOp,Op.shift,hn],.int _ _⟩
 ·cases hx.il;cases hy.il;split at hb;·cases hb
  ·rename_i hn;cases hb;exact⟨_,by simp[binOp,Op.shift,hn],.int _ _⟩
 ·cases hx.il;cases hy.il;split at hb
  ·rename_i k a k' b n1 n2 hk;subst hk;split at hb;·cases hb;exact⟨_,by simp[binOp,Op.intArith],.int _ _⟩
   ·cases hb;exact⟨_,by simp[binOp,Op.intArith],.int _ _⟩
   ·cases hb;exact⟨_,by simp[binOp,Op.intArith],.int _ _⟩
   ·split at hb;·cases hb
    ·rename_i hz;cases hb;exact⟨_,by simp[binOp,Op.intDiv,hz],.int _ _⟩
   ·split at hb;·cases hb
    ·rename_i hz;cases hb;exact⟨_,by simp[binOp,Op.intDiv,hz],.int _ _⟩
   ·cases hb;rw[<-aGM k a b];exact⟨_,by simp only[binOp,Op.intBits,ne_eq,not_true_eq_false,if_false];rfl,.int _ _⟩
   ·cases hb;rw[<-auJ k a b];exact⟨_,by simp only[binOp,Op.intBits,ne_eq,not_true_eq_false,if_false];rfl,.int _ _⟩
   ·cases hb;rw[<-aHm k a b];exact⟨_,by simp only[binOp,Op.intBits,ne_eq,not_true_eq_false,if_false];rfl,.int _ _⟩
   ·cases hb
   ·cases hb;exact⟨_,by simp[binOp,Op.intCmp],.bool _⟩
   ·cases hb;exact⟨_,by simp[binOp,Op.intCmp],.bool _⟩
   ·cases hb;exact⟨_,by simp[binOp,Op.intCmp],.bool _⟩
   ·cases hb;exact⟨_,by simp[binOp,Op.intCmp],.bool _⟩
   ·cases hb;exact⟨_,by simp[binOp,Op.intCmp],.bool _⟩
   ·cases hb;exact⟨_,by simp[binOp,Op.intCmp],.bool _⟩
   ·cases hb
  ·cases hb
 ·obtain⟨p,rfl,rfl⟩:=hx.oc;obtain⟨q,rfl,rfl⟩:=hy.oc;split at hb
  ·cases hle:Nat.ble ((bytes p).length+(bytes q).length) 4294967296 with
   |false=>rw[hle] at hb;cases hb
   |true=>
    rw[hle] at hb;cases hb;rw[aeF,AZ,AZ] at hle;have:¬((p.size+q.size:Nat):Int)>9223372036854775807:=zzz;rw[<-azy];refine⟨.string (p++q),?_,.str _⟩;simp only[binOp,Op.stringOp,IntKind.max_i64,zz1 this];rfl
  ·cases hb;exact⟨_,by simp[binOp,Op.stringOp,Tu],.bool _⟩
  ·cases hb;exact⟨_,by simp[binOp,Op.stringOp,Tu],.bool _⟩
  ·cases hb;exact⟨_,by simp[binOp,Op.stringOp,TN],.bool _⟩
  ·cases hb;exact⟨_,by simp[binOp,Op.stringOp,TN,Tu],.bool _⟩
  ·cases hb;exact⟨_,by simp[binOp,Op.stringOp,TN,Tu],.bool _⟩
  ·cases hb;exact⟨_,by simp[binOp,Op.stringOp,TN],.bool _⟩
  ·cases hb
 ·rename_i n1 n2;simp only[aag] at hb;obtain⟨b,hb,rfl⟩:=hb;have:=NY h 50 Op.maxDepth zzx t x y x' y' b hx hy hb;refine⟨.bool b,?_,.bool _⟩;obtain⟨j1,j2⟩:=QG hb;obtain⟨f1,f2⟩:=hx.agc j1;rw[ay2 (λk a k' b p q=>n1 k a k' b (by rw[p] at hx;exact hx.RZ j1) (by rw[q] at hy;exact hy.RZ j2))
   (λa b p q=>n2 _ _ (by rw[p] at hx;exact hx.QW j1) (by rw[q] at hy;exact hy.QW j2)) f1 f2]
  simp only[Op.equal,Sem.run_bind,this];rfl
 ·rename_i n1 n2;simp only[aag] at hb;obtain⟨b,hb,rfl⟩:=hb;have:=NY h 50 Op.maxDepth zzx t x y x' y' b hx hy hb;refine⟨.bool !b,?_,.bool _⟩;obtain⟨j1,j2⟩:=QG hb;obtain⟨f1,f2⟩:=hx.agc j1;rw[awf (λk a k' b p q=>n1 k a k' b (by rw[p] at hx;exact hx.RZ j1) (by rw[q] at hy;exact hy.RZ j2))
   (λa b p q=>n2 _ _ (by rw[p] at hx;exact hx.QW j1) (by rw[q] at hy;exact hy.QW j2)) f1 f2]
  simp only[Op.equal,Sem.run_bind,this];rfl
 ·cases hb
theorem aG0 {op:BinOp}{t:TypeId}{X Y:Operand}{v:AV}{y':Value}(hx:VR e x x')(hy:VR e y y')(hg:wQ P op t X Y x y=true)(hb:fV P op t x y H=some v):
  (eqGuard op t X Y x' y').run P w=.ok () w:=by
 by_cases ho:op=.eql\/op=.neq
 ·have TF:x ≠ .dG/\y ≠ .dG:=by
   constructor;·rintro rfl;rcases ho with rfl|rfl<;>(unfold fV at hb;simp only[aag] at hb;obtain⟨b,hb,_⟩:=hb;exact (QG hb).1 rfl)
   ·rintro rfl;rcases ho with rfl|rfl<;>(unfold fV at hb;cases x<;>simp only[aag] at hb<;>(obtain⟨b,hb,_⟩:=hb;exact (QG hb).2 rfl))
  cases hx<;>cases hy<;>first
   |(exact absurd rfl TF.1)|(exact absurd rfl TF.2)
   |(rcases ho with rfl|rfl<;>rfl)
   |skip
  ·have GL:zq X=true\/zq Y=true:=by rcases ho with rfl|rfl<;>(simp only[wQ,aiJ] at hg;exact hg)
   rcases ho with rfl|rfl<;>(rcases GL with hc|hc<;>(cases X<;>cases Y<;>first|(simp[zq] at hc;done)|rfl))
  ·have GL:P.eqGuardType P.depth t=false:=by rcases ho with rfl|rfl<;>(simp only[wQ,akk] at hg;exact hg)
   rcases ho with rfl|rfl<;>simp[eqGuard,GL]
 ·have:(op matches .eql|.neq)=false:=by cases op<;>first|rfl|(exact absurd zzy ho)
  cases op<;>first|rfl|(exact absurd zzy ho)
end
end
end
section
variable {P:Program}{G:Nat}{F:Nat->Prop}{W:World}{e:Em}{H:Hp}{w:World}
section
variable {el off:Nat}{fs:Array Field}{parts:List (Nat×AV)}{Kh:Array (Nat×Value)}{x:AV}{x':Value}{z:List AV}
theorem avb {op:UnOp}{v:AV}(hx:VR e x x')(hb:ep op x=some v)(w:World):∃v',(Op.unary op x').run P w=.ok v' w/\VR e v v':=by
 unfold ep at hb;split at hb;·cases hx.il;cases hb;exact⟨_,by simp[Op.unary,Op.intArith],.int _ _⟩
 ·cases hx.wj;cases hb;exact⟨_,by simp[Op.unary],.bool _⟩
 ·rename_i k n;cases hx.il;split at hb;·cases hb
  ·rename_i hs;split at hb
   ·rename_i hn;cases hb;have hm:0<=k.max:=by cases k<;>simp[IntKind.max,IntKind.signed,IntKind.bits] at hs⊢
    rw[<-awC k k.max n hm hn];refine⟨_,?_,.int _ _⟩;simp only[Op.unary,Op.intBits,zz1 hs];rfl
   ·cases hb
 ·cases hb
theorem ag5:∀(v:List Value) (off j:Nat) (cs:Array Value),off+j+v.length<=cs.size->
  ((v.zipIdx j).foldl (λcs (x:Value×Nat)=>cs.setIfInBounds (off+x.2) x.1) cs).size=cs.size/\
  ∀m,((v.zipIdx j).foldl (λcs (x:Value×Nat)=>cs.setIfInBounds (off+x.2) x.1) cs)[m]?=if off+j<=m/\m<off+j+v.length then v[m-(off+j)]? else cs[m]?
 |[],off,j,cs,h=>by refine⟨zzy,λm=>?_⟩;rw[zz1 (by rw[acj];omega)];simp
 |x::v,off,j,cs,h=>by
  simp only[aau] at h;rw[List.zipIdx_cons,List.foldl_cons];obtain⟨h1,h2⟩:=ag5 v off (j+1) (cs.setIfInBounds (off+j) x) (by simp;omega);refine⟨by rw[h1];simp,λm=>?_⟩;rw[h2];simp only[aau];by_cases hm:m=off+j;·subst hm;rw[zz1 zzz,zz2 zzz];rw[agL zzz];simp
  ·by_cases hr:off+(j+1)<=m/\m<off+(j+1)+v.length;·rw[zz2 hr,zz2 zzz];have:m-(off+j)=(m-(off+(j+1)))+1:=zzz;rw[this,adb]
   ·rw[zz1 hr,zz1 zzz,aeT zzz]
theorem aR.azO {a c:List AV}{x:Array Value}{y:List Value}(ha:aR e a x.toList)(hc:aR e c y)(h:off+c.length<=a.length):
  aR e (a.take off++c++a.drop (off+c.length)) ((y.zipIdx).foldl (λcs (x:Value×Nat)=>cs.setIfInBounds (off+x.2) x.1) x).toList:=by
 have hx:x.size=a.length:=by have:=ha.1;simpa using this
 obtain⟨h1,h2⟩:=ag5 y off 0 x (by rw[hc.1,hx];omega);refine⟨by simp[h1,hx];omega,λi v v' hv bT=>?_⟩;rw[aeq,h2] at bT;simp only[aeA] at bT;rw[hc.1] at bT;by_cases hi:i<off;·rw[zz1 zzz] at bT;rw[abC,abi (by simp;omega),ajg,zz2 hi] at hv;exact ha.2 i v v' hv (by rw[aeq];exact bT)
 ·by_cases po:i<off+c.length
  ·rw[zz2 zzz] at bT;rw[abi (by simp;omega),abm (by simp;omega)] at hv;have:i-(a.take off).length=i-off:=by simp;omega
   rw[this] at hv;exact hc.2 _ v v' hv bT
  ·rw[zz1 zzz] at bT;rw[abm (by simp;omega),afX] at hv;have:off+c.length+(i-(a.take off++c).length)=i:=by simp;omega
   rw[this] at hv;exact ha.2 i v v' hv (by rw[aeq];exact bT)
def xp (e:Em)(l:List (Nat×AV))(l':List (Nat×Value)):Prop:=l'.map (·.1)=l.map (·.1)/\aR e (l.map (·.2)) (l'.map (·.2))
theorem Rg {pl HZ:Nat->Option (Nat×Nat)}(iS:∀i x,pl i=some x->HZ i=some x):∀(ps:List (Nat×AV)) (ps':List (Nat×Value)) (cells out:List AV) (Hg:Array Value),
  xp e ps ps'->aR e cells Hg.toList->ye pl cells ps=some out->∃nh,Instr.fill HZ Hg ps'=some nh/\aR e out nh.toList:=by
 intro ps;induction ps with
 |nil=>
  intro ps' cells out Hg hp hc hf;cases hf;obtain rfl:ps'=[]:=by have:=hp.1;simpa using this
  exact⟨Hg,rfl,hc⟩
 |cons p ps ih=>
  intro ps' cells out Hg hp hc hf;obtain⟨i,v⟩:=p;cases ps' with
  |nil=>have:=hp.1;simp at this|cons q ps'=>
   obtain⟨i',v'⟩:=q;obtain⟨h1,h2⟩:=hp;simp only[abo,List.cons.injEq] at h1;obtain⟨rfl,h1⟩:=h1;obtain⟨u,us,hu,hv,vR⟩:=aR.cons_inv (by simpa using h2:aR e (v::ps.map (·.2)) (v'::ps'.map (·.2)));simp only[List.cons.injEq] at hu;obtain⟨rfl,rfl⟩:=hu;unfold ye at hf;split at hf;·cases hf
   ·rename_i off size ue;split at hf;·cases hf
    ·rename_i cs gS;split at hf
     ·rename_i vP;have hl:=hv.cells gS;have fK:v'.cells.size=size:=by have:=hl.1;simp at this;omega
      have aIB:Hg.size=cells.length:=by have:=hc.1;simpa using this
      have mJ:=hc.azO hl (off:=off) zzz;rw[vP.1] at mJ;obtain⟨nh,ho,hr⟩:=ih ps' _ out _ ⟨h1,vR⟩ mJ hf;refine⟨nh,?_,hr⟩;unfold Instr.fill;rw[iS _ _ ue];have c1:(decide (v'.cells.size≠size)||decide (off+v'.cells.size>Hg.size))=false:=by simp;omega
      simp only[c1,aa4,if_false];rw[<-ho];congr 1;rw[<-Array.foldl_toList,Array.toList_zipIdx]
     ·cases hf
theorem xp.map {ρ:Operand->AV}{σ:Operand->Value}(h:∀x,VR e (ρ x) (σ x))(l:List (Nat×Operand)):xp e (l.map λ(i,x)=>(i,ρ x)) (l.map λ(i,x)=>(i,σ x)):=by refine⟨by simp[Function.comp_def],?_⟩;have:=aR.map h (l.map (·.2));simpa[Function.comp_def] using this
theorem amt {α β:Type}{f:α->Option β}{g:α->Sem β}{w:World}(h:∀a b,f a=some b->(g a).run P w=.ok b w):∀(l:List α) (r:List β),uU f l=some r->(l.mapM g).run P w=.ok r w
 |[],r,hr=>by cases hr;simp
 |a::l,r,hr=>by
  unfold uU at hr;split at hr
  ·rename_i b hb;split at hr;·rename_i r' dH;cases hr;simp[h a b hb,amt h l r' dH]
   ·cases hr
  ·cases hr
theorem aGw {t:TypeId}{out:List AV}{pl:List (Nat×Nat)}(hz:zc P t=some z)(hu:P.underlying t=some (.struct fs))
  (iS:ZK P fs=some pl) (hp:xp e parts Kh.toList) (hf:ye (pl[·]?) z parts=some out) (w:World):∃v',(Instr.build t Kh).run P w=.ok v' w/\VR e (.agg out) v':=by
 obtain⟨i,z0,hi,gN,hl⟩:=Cf (e:=e) hz;have hm:(fs.mapM (λf=>do Pure.pure (f.offset,<-sizeOf f.type)):Sem (Array (Nat×Nat))).run P w=.ok pl.toArray w:=by rw[<-Array.toArray_toList (xs:=fs),List.mapM_toArray];have:=amt (P:=P) (w:=w) (g:=λf:Field=>(do Pure.pure (f.offset,<-sizeOf f.type):Sem (Nat×Nat))) (f:=λf:Field=>(sz P f.type).map λn=>(f.offset,n)) (by intro a b hb;simp only[aag] at hb;obtain⟨n,hn,rfl⟩:=hb;simp[jq hn]) fs.toList pl iS;rw[Sem.run_map,this];rfl
 obtain⟨nh,ho,hr⟩:=Rg (e:=e) (HZ:=(pl.toArray[·]?)) (λi x hx=>by simpa using hx) parts Kh.toList z out z0.cells hp hl hf;refine⟨.agg nh,?_,.agg _ _ hr.1 hr.2⟩;simp only[Instr.build,Sem.run_bind,vH hi gN,Result.andThen_ok,aL hu,hm,ho];rfl
theorem ayK {t s n:Nat}{out:List AV}(hz:zc P t=some z)(hu:P.underlying t=some (.array n el))
  (hs:sz P el=some s) (hp:xp e parts Kh.toList) (hf:ye (λi=>some (i*s,s)) z parts=some out) (w:World):∃v',(Instr.build t Kh).run P w=.ok v' w/\VR e (.agg out) v':=by
 obtain⟨i,z0,hi,gN,hl⟩:=Cf (e:=e) hz;obtain⟨nh,ho,hr⟩:=Rg (e:=e) (HZ:=λi=>some (i*s,s)) (λi x hx=>hx) parts Kh.toList z out z0.cells hp hl hf;refine⟨.agg nh,?_,.agg _ _ hr.1 hr.2⟩;simp only[Instr.build,Sem.run_bind,vH hi gN,Result.andThen_ok,aL hu,jq hs,ho];rfl
theorem afb {α:Type}(z:List α):∀(n i:Nat),i<n*z.length->(List.replicate n z).flatten[i]?=z[i%z.length]?
 |0,i,h=>by simp at h
 |n+1,i,h=>by
  rw[List.replicate_succ,agF];by_cases hi:i<z.length;·rw[abi hi,ahT hi]
  ·rw[abm zzz,afb z n _ (by rw[Nat.succ_mul] at h;omega)];congr 1;have:i=(i-z.length)+z.length:=zzz;rw[this,Nat.add_mod_right];congr 1;omega
theorem aoA (z:Array Value)(n:Nat):((Array.range (n*z.size)).map (z[· % z.size]!)).toList=(List.replicate n z.toList).flatten:=by
 apply aj8;intro i;by_cases hi:i<n*z.size
 ·rw[afb z.toList n i (by simpa using hi)];have hz:0<z.size:=by
   rcases Nat.eq_zero_or_pos z.size with h|h;·rw[h] at hi;simp at hi
   ·exact h
  have aN:i%z.size<z.size:=ama _ hz;simp[aeq,hi,aN]
 ·rw[agM (by simp;omega),agM (by simp;omega)]
theorem aR.rep {z:List AV}{z':List Value}(h:aR e z z'):∀n,aR e (rep n z) (List.replicate n z').flatten
 |0=>by simpa[Am.rep] using aR.nil e
 |n+1=>by have:=h.append (aR.rep h n);simpa[Am.rep,List.replicate_succ] using this
end
end
end
section
variable {P:Program}{G:Nat}{F:Nat->Prop}{W:World}{e:Em}{H:Hp}{w:World}
theorem abd:∀{l:List AV} {bs:List Nat} {cs:List Value},zg l=some bs->aR e l cs->∃us:List UInt8,bs=us.map (·.toNat)/\cs=us.map (λb=>Value.int .u8 b.toNat)
 |[],bs,cs,h,hl=>by cases h;rw[hl.mc];exact⟨[],rfl,rfl⟩
 |a::l,bs,cs,h,hl=>by
  unfold zg at h;split at h;·rename_i h0;cases h0
  ·rename_i n r h0;cases h0;obtain⟨v',ws,rfl,hv,q8⟩:=hl.cons_inv;cases hv.il;split at h
   ·rename_i hn;simp only[aam,zz5] at hn;simp only[abY,Option.pure_def,aaC,acM] at h;obtain⟨bs',h1,rfl⟩:=h;obtain⟨us,rfl,rfl⟩:=abd h1 q8;have hu:(UInt8.ofNat n.toNat).toNat=n.toNat:=by rw[UInt8.toNat_ofNat'];exact ahT zzz
    refine⟨UInt8.ofNat n.toNat::us,by simp only[abo,hu],?_⟩;have:((UInt8.ofNat n.toNat).toNat:Int)=n:=by rw[hu];omega
    simp only[abo,this]
   ·cases h
  ·cases h
theorem arA (us:List UInt8):bytes ⟨us.toArray⟩=us.map (·.toNat):=rfl
theorem alQ:∀(us:List UInt8) (s:ByteArray),(us.map λb=>(b.toNat:Int)).foldl (λr n=>r.push (UInt8.ofNat n.toNat)) s=⟨s.data++us.toArray⟩
 |[],s=>zzy|u::us,s=>by simp only[abo,List.foldl_cons,alQ us];congr 1;simp[ByteArray.push]
theorem YK {a:Addr}{us:List UInt8}{cap:Nat}(w:World)(h:∀j v,(us.map (λb=>Value.int .u8 b.toNat))[j]?=some v->w.cell? (a.add j)=some v):
  (Conv.bytesToString (.slice (some a) us.length cap)).run P w=.ok (.string ⟨us.toArray⟩) w:=by
 have h1:=run_loadCells_list (P:=P) w a (us.map (λb=>Value.int .u8 b.toNat)) h;rw[abF] at h1;have h2:=run_bytesToString (P:=P) w a us.length cap (us.map λb=>(b.toNat:Int)) (by rw[h1];simp[Function.comp_def]);rw[h2,alQ];simp[ByteArray.empty,ByteArray.emptyWithCapacity];rfl
theorem asu (n:Int)(h:0<=n/\n<128):bytes (Utf8.encode n)=[n.toNat]:=by
 obtain⟨k,rfl⟩:=Int.eq_ofNat_of_zero_le h.1;have hk:k<128:=zzz;have:∀k:Fin 128,bytes (Utf8.encode ((k.val:Nat):Int))=[k.val]:=by decide +kernel
 exact this ⟨k,hk⟩
theorem axG (w:World)(C:Array Value)(el:TypeId)(b:Nat)(hb:b=w.heap.size):
  World.freeze {w with heap:=w.heap.push (.cells C el (0,0))} {block:=b,off:=C.size} 1={w with heap:=w.heap.push (.cells C el (C.size,C.size+1))}:=by
 subst hb;simp only[World.freeze,Nat.one_ne_zero,if_false];congr 1;apply Array.ext_getElem?;intro k;rw[Array.getElem?_modify];by_cases hk:w.heap.size=k;·subst hk;simp
 ·rw[zz1 hk,ak4,ak4,zz1 (λq=>hk q.symm),zz1 (λq=>hk q.symm)]
def pX (w:World)(el:TypeId)(s:ByteArray):Nat:=(Question.appendCap s.size 0 el).cut (w.tape w.drawn (.appendCap s.size 0 el))
def xY (w:World)(el:TypeId)(s:ByteArray):List Value:=(s.data.toList.map λb=>Value.int .u8 b.toNat)++List.replicate (pX w el s-s.size) (.int .u8 0)
theorem Sc (w:World)(el:TypeId)(s:ByteArray):s.size<=pX w el s:=Nat.le_add_right _ _
theorem YI (w:World)(el:TypeId)(s:ByteArray):(xY w el s).length=pX w el s:=by have:=Sc w el s;have h2:s.data.size=s.size:=rfl;simp[xY];omega
theorem aho (P:Program)(w:World)(el:TypeId)(s:ByteArray):
  (Conv.stringToBytes el s).run P w=.ok (.slice (some ⟨w.heap.size,0,none⟩) s.size (pX w el s)) {w with drawn:=w.drawn+1,heap:=w.heap.push (.cells (xY w el s).toArray el (pX w el s,pX w el s+1))}:=by
 let w1:World:={w with drawn:=w.drawn+1};let cap:=pX w el s;have jG:s.size<=cap:=Sc w el s;let rest:List Value:=List.replicate (cap-s.size) (.int .u8 0);have hlen:((s.data.toList.map λb=>Value.int .u8 b.toNat)++rest).length=cap:=YI w el s;have hC:(s.data.map λb=>Value.int .u8 b.toNat)++Array.replicate (cap-s.size) (.int .u8 0)=((s.data.toList.map λb=>Value.int .u8 b.toNat)++rest).toArray:=by apply aee.1;simp[rest]
 have LS:(Question.appendCap s.size 0 el).forced=false:=rfl;simp only[Conv.stringToBytes,Sem.run_bind,run_choose,LS,aa4,if_false,Result.andThen_ok,newRow,run_newObj,Sem.run_pure];have hC':(s.data.map λb=>Value.int .u8 b.toNat)++Array.replicate ((Question.appendCap s.size 0 el).cut (w.tape w.drawn (.appendCap s.size 0 el))-s.size) (.int .u8 0)=((s.data.toList.map λb=>Value.int .u8 b.toNat)++rest).toArray:=hC;rw[hC'];have fK:((s.data.toList.map λb=>Value.int .u8 b.toNat)++rest).toArray.size=cap:=by simpa using hlen
 have uC:(World.shape? {w1 with heap:=w.heap.push (.cells ((s.data.toList.map λb=>Value.int .u8 b.toNat)++rest).toArray el (0,0))} w.heap.size)=some (el,cap):=by simp only[World.shape?,Array.getElem?_push_size,fK]
 have Pg:=axG w1 ((s.data.toList.map λb=>Value.int .u8 b.toNat)++rest).toArray el w.heap.size rfl;rw[fK] at Pg;have atK:(World.shape? {w with heap:=w.heap.push (.cells ((s.data.toList.map λb=>Value.int .u8 b.toNat)++rest).toArray el (0,0)),drawn:=w.drawn+1} w.heap.size)=some (el,cap):=uC;simp only[markStringish,Sem.run_bind,run_shape,Result.andThen_ok,atK,run_freeze];have atS:World.freeze {w with heap:=w.heap.push (.cells ((s.data.toList.map λb=>Value.int .u8 b.toNat)++rest).toArray el (0,0)),drawn:=w.drawn+1} {block:=w.heap.size,off:=cap} 1=_:=Pg;rw[atS];rfl
theorem adI (e:Em)(s:ByteArray):aR e ((bytes s).map λ(b:Nat)=>AV.int .u8 b) (s.data.toList.map λb=>Value.int .u8 b.toNat):=by refine⟨by simp[bytes],λi v v' hv bT=>?_⟩;simp only[bytes,amb,acd,aag] at hv bT;obtain⟨u,hu,rfl⟩:=hv;obtain⟨u',kI,rfl⟩:=bT;rw[hu] at kI;cases kI;exact .int _ _
theorem avk (h:RH G F W e H w){s:ByteArray}{el i:Nat}{H':Hp}(hn:aA H ((bytes s).map λ(b:Nat)=>AV.int .u8 b) el 1=some (i,H')):
  ∃v' w' e',(Conv.stringToBytes el s).run P w=.ok v' w'/\e.le e'/\RH G F W e' H' w'/\VR e' (.slice i 0 (bytes s).length (bytes s).length false 1) v':=by
 have jG:=Sc w el s;have h1:RH G F W e H {w with drawn:=w.drawn+1}:=h.drawn _;have hlen:=YI w el s;obtain⟨e',he,g1,g2,g3,g4,hr⟩:=h1.newRow (rest:=List.replicate (pX w el s-s.size) (.int .u8 0)) (fz:=(pX w el s,pX w el s+1)) hn (adI e s) zzy (λ_ k hk=>by have se:k<(xY w el s).length:=hk;rw[hlen] at se;simp;omega);refine⟨_,_,e',aho P w el s,he,hr,?_⟩;have hb:w.heap.size=e'.b i:=g2.symm;rw[hb,AZ];have g4':e'.n i=(xY w el s).length:=g4;refine .slice i 0 s.size s.size false 1 0 _ g1 (by rw[g3];simp) jG jG zzy ?_;rw[g4',hlen];omega
theorem axv {el:TypeId}{count:Nat}(hs:0<P.cellsOf el)(hc:P.cellsOf el<=count):liesAt P P.depth el (count / P.cellsOf el) 0 el 1=true:=by have hd:P.depth=(2*(P.types.size+Made.depth)+1)+1:=rfl;have h1:1<=count / P.cellsOf el:=(Nat.le_div_iff_mul_le hs).2 zzz;have h0:¬P.cellsOf el=0:=zzz;rw[hd];simp only[liesAt,aiJ];left;rw[hd];simp only[rowAt,zz1 h0,aiJ,aam];left;simp[h1,sameLayout]
theorem YY (h:RH G F W e H w){i:Nat}{c:Tr AV}{lo hi el fl:Nat}(hg:H.h.get i=some (.cells c lo hi el fl)):
  i<e.N/\∃C fz,w.heap[e.b i]?=some (.cells C el fz)/\C.size=e.n i/\(lo=0->e.d i=0)/\(fl=0->fz=(0,0)):=by
 obtain⟨hN,ob,eW,eN,_⟩:=h.obj i _ hg;cases eN with
 |cells _ _ _ _ _ C fz hn jI h0 h1 hd=>exact⟨hN,C,fz,eW,hn,hd,h0⟩
theorem aB8 (h:RH G F W e H w){src dst:TypeId}{x v:AV}{x':Value}{H':Hp}(hx:VR e x x')(hc:kY P src dst x H=some (v,H')):
  ∃v' w' e',(convert src dst x').run P w=.ok v' w'/\e.le e'/\RH G F W e' H' w'/\VR e' v v':=by
 unfold kY at hc;split at hc
 ·rename_i s d hs hd;split at hc;·cases hx.il;cases hc;exact⟨_,w,e,by simp[convert,aL hs,aL hd,Conv.intToInt],e.le_refl,h,.int _ _⟩
  ·rename_i n;cases hx.il;split at hc;·rename_i hn;cases hc;rw[<-asu n hn];exact⟨_,w,e,by simp[convert,aL hs,aL hd,Conv.intToString],e.le_refl,h,.str _⟩
   ·cases hc
  ·obtain⟨b,rfl,rfl⟩:=hx.oc;cases hc;exact⟨_,w,e,by simp[convert,aL hs,aL hd],e.le_refl,h,.str _⟩
  ·rename_i el s;obtain⟨b,rfl,rfl⟩:=hx.oc;split at hc
   ·rename_i rm;split at hc;·rename_i i H2 hn;cases hc;obtain⟨v',w',e',h1,h2,h3,h4⟩:=avk (P:=P) h hn;exact⟨v',w',e',by simp[convert,aL hs,aL hd,aL rm,h1],h2,h3,h4⟩
    ·cases hc
   ·cases hc
  ·rename_i el0 el i off len cap ex es;cases hb:(Nat.beq src dst&&Nat.blt 0 len) with
   |false=>rw[hb] at hc;cases hc
   |true=>
    rw[hb] at hc;simp only[cond_true] at hc;simp only[aam,aeg] at hb;have hsd:src=dst:=aaY hb.1;split at hc
    ·rename_i c lo hi el2 rm hg;cases hc;obtain⟨hN,C,fz,eW,hn,Sx,QH⟩:=YY h hg;have hf:=QH rfl;subst hf;rcases hx.nL with⟨o,k,po,ho,hl,CG,kC,jo,rfl⟩|⟨rfl,_,_,_⟩
     ·refine⟨.slice (some ⟨e.b i,o,none⟩) len k,w.freeze {block:=e.b i,off:=C.size} 1,e,?_,e.le_refl,?_,hx⟩
      ·have uC:w.shape? (e.b i)=some (el2,C.size):=by simp[World.shape?,eW]
       simp[convert,aL hs,aL hd,aL rm,hsd,markStringish,uC]
      ·refine h.put hg rfl (su:=.cells C el2 (C.size,C.size+1)) ?_ ?_ ?_ ?_ rfl rfl rfl;·simp[World.freeze]
       ·simp only[World.freeze,Nat.one_ne_zero,if_false];rw[J0 _ _ _ eW];simp
       ·intro k hk;simp only[World.freeze,Nat.one_ne_zero,if_false];rw[I7 _ _ _ _ (λq=>hk q.symm)]
       ·obtain⟨_,ob,akY,eN,_⟩:=h.obj i _ hg;rw[eW] at akY;cases akY;cases eN with
        |cells _ _ _ _ _ C fz hn jI h0 h1 hd=>exact .cells _ _ _ _ _ _ _ hn jI zzy (λ_ k hk=>by simp;omega) hd
     ·omega
    ·cases hc
  ·rename_i el;cases hx;split at hc;·rename_i rm;cases hc;refine⟨.string .empty,w,e,by simp[convert,aL hs,aL hd,aL rm,Conv.bytesToString],e.le_refl,h,?_⟩;exact .str .empty
   ·cases hc
  ·rename_i el i off len a1 a2 a3;split at hc
   ·rename_i rm;cases hz:Nat.beq len 0 with
    |true=>
     rw[hz] at hc;cases hc;have:len=0:=aaY hz;subst this;rcases hx.nL with⟨o,k,po,ho,hl,CG,kC,jo,rfl⟩|⟨_,_,a,rfl⟩;·have:=YK (P:=P) (a:=⟨e.b i,o,none⟩) (us:=[]) (cap:=k) w zzy;exact⟨_,w,e,by simp only[convert,Sem.run_bind,aL hs,aL hd,aL rm,Result.andThen_ok];exact this,e.le_refl,h,.str ⟨#[]⟩⟩
     ·have:=YK (P:=P) (a:=a) (us:=[]) (cap:=0) w zzy;exact⟨_,w,e,by simp only[convert,Sem.run_bind,aL hs,aL hd,aL rm,Result.andThen_ok];exact this,e.le_refl,h,.str ⟨#[]⟩⟩
    |false=>
     rw[hz] at hc;simp only[cond_false,aaC,aag,abX] at hc;obtain⟨cs,gS,bs,wG,rfl,rfl⟩:=hc;rcases hx.nL with⟨o,k,po,ho,hl,CG,kC,jo,rfl⟩|⟨rfl,_,a,rfl⟩;·obtain⟨vs,h1,h2,h3⟩:=h.Ds gS ho;obtain⟨us,rfl,rfl⟩:=abd wG h1;rw[abF] at h2;have:=YK (P:=P) (a:=⟨e.b i,o,none⟩) (us:=us) (cap:=k) w (λj v hj=>by rw[add_lit];exact h3 j v hj);rw[h2] at this;refine⟨_,w,e,by simp only[convert,Sem.run_bind,aL hs,aL hd,aL rm,Result.andThen_ok];exact this,e.le_refl,h,?_⟩;rw[<-arA];exact .str _
     ·simp at hz
   ·cases hc
  ·rename_i t i o;cases hb:((cellAt H i o).isSome&&CC P t) with
   |false=>rw[hb] at hc;cases hc
   |true=>
    rw[hb] at hc;cases hc;rw[aam] at hb;obtain⟨u,hu⟩:=aiN.1 hb.1;obtain⟨n,hn⟩:∃n,sz P t=some (n+1):=by
     have:=hb.2;unfold CC at this;split at this;·rename_i n hn;exact⟨n,hn⟩
     ·cases this
    obtain⟨o',hi,ho,rfl⟩:=hx.tG;have aN:=h.aa1 hu ho;obtain⟨c,lo,jN,el,fl,hg,_,_,_⟩:=Uo hu;obtain⟨hN,C,fz,eW,jo,_,_⟩:=YY h hg;have uC:w.shape? (e.b i)=some (el,C.size):=by simp[World.shape?,eW]
    have u7:¬C.size<=o':=zzz;refine⟨_,w,e,?_,e.le_refl,h,hx⟩;simp[convert,aL hs,aL hd,Conv.unsafePointer,Conv.seenAt,viewAt,cellsIn,uC,jq hn,u7]
  ·rename_i u i o;split at hc
   ·rename_i c lo hi el fl hg;cases hb:(Nat.beq el u&&Nat.beq lo 0&&Nat.beq o 0&&Nat.blt 0 (P.cellsOf u)&&(cellAt H i (P.cellsOf u-1)).isSome) with
    |false=>rw[hb] at hc;cases hc
    |true=>
     rw[hb] at hc;cases hc;simp only[aam,aeg] at hb;obtain⟨⟨⟨⟨b1,b2⟩,b3⟩,b4⟩,b5⟩:=hb;have e1:el=u:=aaY b1;have e2:lo=0:=aaY b2;have e3:o=0:=aaY b3;subst e1;subst e2;subst e3;obtain⟨q,hq⟩:=aiN.1 b5;obtain⟨hN,C,fz,eW,jo,Sx,_⟩:=YY h hg;obtain⟨o',hi,ho,rfl⟩:=hx.tG;have hd0:=Sx rfl;have Hw:o'=0:=zzz;subst Hw;have aN:=h.aa1 (o:=P.cellsOf el-1) hq zzz;have uC:w.shape? (e.b i)=some (el,C.size):=by simp[World.shape?,eW]
     have hl:=axv (P:=P) (el:=el) (count:=C.size) b4 zzz;have aup:sz P el=some (P.cellsOf el):=by
      unfold sz;unfold Program.cellsOf at b4⊢;cases hi:P.info? el with
      |none=>simp[hi] at b4|some inf=>simp
     refine⟨_,w,e,?_,e.le_refl,h,hx⟩;simp[convert,aL hs,aL hd,Conv.unsafePointer,Conv.seenAt,viewAt,uC,jq aup,variablesAt,hl]
   ·cases hc
  ·cases hc
 ·cases hc
end
end Go.Proofs.YtodfajmihkagnaaGreatDoor.Am
