/- Laws that the proof uses. -/
import Derived.Test.YtodfajmihkagnaaGreatDoorAm1
set_option maxHeartbeats 2000000
set_option linter.unusedVariables false
set_option linter.unusedSimpArgs false
namespace Go.Proofs.YtodfajmihkagnaaGreatDoor.Am
section
section
section
section
def eR (P:Program)(G:Nat)(F:Nat->Prop)(W:World)(e:Em)(v:AV)(H':Hp)(r:Result Next):Prop:=
 ∃n w' e' v',r=.ok n w'/\(n=.value v'\/(n=.skip/\v'=undef))/\e.le e'/\RH G F W e' H' w'/\VR e' v v'
section
variable {P:Program}{G:Nat}{F:Nat->Prop}{W:World}{e:Em}{H:Hp}{w:World}
section
variable {H':Hp}{cap f i off:Nat}{cs l:List AV}{e':Em}{fs:Array Field}{high low mx:Option AV}{DZ Az mx':Option Value}{ix x:AV}{ix' v' x':Value}{k:IntKind}{w':World}
theorem eR.pure {s:Sem Value}{v:AV}(h:RH G F W e H w)(hs:s.run P w=.ok v' w)(hv:VR e v v'):
  eR P G F W e v H ((do Pure.pure (Next.value (<-s)):Sem Next).run P w):=
 ⟨.value v',w,e,v',by simp[hs],.inl rfl,e.le_refl,h,hv⟩
theorem eR.val {s:Sem Value}{v:AV}(hs:s.run P w=.ok v' w')(he:e.le e')(h:RH G F W e' H' w')(hv:VR e' v v'):
  eR P G F W e v H' ((do Pure.pure (Next.value (<-s)):Sem Next).run P w):=
 ⟨.value v',w',e',v',by simp[hs],.inl rfl,he,h,hv⟩
theorem VR.undef:VR e bP undef:=.tuple [] #[] rfl zzy
theorem eR.unit {s:Sem Unit}(hs:s.run P w=.ok () w')(he:e.le e')(h:RH G F W e' H' w'):
  eR P G F W e bP H' ((do s;Pure.pure Next.skip:Sem Next).run P w):=
 ⟨.skip,w',e',_,by simp[hs],.inr ⟨rfl,rfl⟩,he,h,.undef⟩
theorem VR.qh {v:Value}{a:AV}(h:qh v=some a):VR e a v:=by unfold Am.qh at h;split at h<;>simp only[adn,reduceCtorEq] at h<;>subst h<;>constructor
theorem aV.qh:∀{vs:List Value} {l:List AV},vs.mapM Am.qh=some l->aV e l vs
 |[],l,h=>by simp at h;subst h;exact .nil e
 |v::vs,l,h=>by simp only[List.mapM_cons,acH,Option.pure_def,aba,adn] at h;obtain⟨a,ha,r,hr,rfl⟩:=h;exact .cons (.qh ha) (aV.qh hr)
theorem VR.kK {v:Value}{a:AV}(h:kK v=some a):VR e a v:=by
 unfold Am.kK at h;split at h;·simp only[aal] at h;obtain⟨l,hl,rfl⟩:=h;have:=aV.qh (e:=e) hl;exact .agg _ _ this.1 this.2
 ·simp only[aal] at h;obtain⟨l,hl,rfl⟩:=h;have:=aV.qh (e:=e) hl;exact .tuple _ _ this.1 this.2
 ·simp only[aal] at h;obtain⟨l,hl,rfl⟩:=h;exact .iface _ _ _ (.qh hl)
 ·exact .qh h
theorem BD {t:TypeId}(h:zc P t=some l):∃i z,P.info? t=some i/\i.zero=some z/\aV e l z.cells.toList:=by simp only[zc,acH,aba] at h;obtain⟨i,hi,z,hz,hl⟩:=h;exact⟨i,z,hi,hz,.qh hl⟩
theorem uQ {t:TypeId}{i:TypeInfo}{z:Value}(hi:P.info? t=some i)(hz:i.zero=some z)(w:World):(zeroValue t).run P w=.ok z w:=by simp[zeroValue,rC hi,hz]
theorem anp (h:RH G F W e H w){t:TypeId}(hz:zc P t=some l)(hn:aA H l t 0=some (i,H')):
  ∃v' w' e',(Instr.alloc t true (.tuple #[])).run P w=.ok v' w'/\e.le e'/\RH G F W e' H' w'/\VR e' (.ptr i 0) v':=by
 obtain⟨inf,z,hi,gC,hl⟩:=BD (e:=e) hz;obtain⟨e',he,h1,h2,h3,h4,hr⟩:=h.newRow (rest:=[]) (fz:=(0,0)) hn hl (λ_=>rfl) zzy;refine⟨.pointer (some ⟨w.heap.size,0,none⟩),_,e',?_,he,hr,?_⟩;·simp[Instr.alloc,uQ hi gC,newVar,Go.newRow]
 ·rw[<-h2];exact .ptr i 0 0 h1 (by rw[h3];simp)
theorem aqi (h:RH G F W e H w){t:TypeId}{v:AV}(hv:VR e v v')(hz:tM v=some l)(hn:aA H l t 0=some (i,H')):
  ∃u w' e',(Instr.box t v').run P w=.ok u w'/\e.le e'/\RH G F W e' H' w'/\VR e' (.ptr i 0) u:=by
 have hl:=hv.cells hz;obtain⟨e',he,h1,h2,h3,h4,hr⟩:=h.newRow (rest:=[]) (fz:=(0,0)) hn hl (λ_=>rfl) zzy;refine⟨.pointer (some ⟨w.heap.size,0,none⟩),_,e',?_,he,hr,?_⟩;·simp[Instr.box,newVar,Go.newRow]
 ·rw[<-h2];exact .ptr i 0 0 h1 (by rw[h3];simp)
theorem CQ {t:TypeId}{vs:Array Value}{v:AV}(hl:aV e cs vs.toList)(hp:oJ P t cs off=some v)(w:World):
  ∃v',(part t vs off).run P w=.ok v' w/\VR e v v':=by
 simp only[oJ,acH,aba] at hp;obtain⟨b,hb,hp⟩:=hp;cases b with
 |true=>
  simp only[if_true,aba] at hp;obtain⟨n,hn,hp⟩:=hp;cases hc:Nat.ble (off+n) cs.length with
  |false=>rw[hc] at hp;cases hp
  |true=>
   rw[hc] at hp;simp only[cond_true,adn] at hp;subst hp;refine⟨.agg (vs.extract off (off+n)),by simp[part,Qm hb,iZ hn],?_⟩;have:=(hl.drop off).take n;have e2:(vs.extract off (off+n)).toList=(vs.toList.drop off).take n:=by simp[Array.toList_extract,List.extract]
   exact .agg _ _ (by rw[e2];exact this.1) (by rw[e2];exact this.2)
 |false=>
  simp only[abu,if_false] at hp;obtain⟨v',bS,hr⟩:=hl.get hp;rw[aeW] at bS;exact⟨v',by simp[part,Qm hb,bS],hr⟩
theorem at6 {t:TypeId}{v:AV}{fd:Field}(hx:VR e x x')(hu:P.underlying t=some (.struct fs))(hf:fs[f]?=some fd)
  (hxs:x=.agg cs) (hp:oJ P fd.type cs fd.offset=some v) (w:World):∃v',(Instr.field t x' f).run P w=.ok v' w/\VR e v v':=by
 subst hxs;obtain⟨vs,rfl,hl⟩:=hx.zJ;obtain⟨v',bS,hr⟩:=CQ hl hp w;exact⟨v',by simp[Instr.field,aL hu,hf,asAgg,bS],hr⟩
theorem aoT {t:TypeId}{o n:Nat}{fd:Field}(hx:VR e (.ptr i o) x')(hu:P.underlying t=some (.struct fs))(hf:fs[f]?=some fd)
  (hs:sz P fd.type=some n) (hn:n≠0) (w:World):∃v',(Instr.fieldAt t x' f).run P w=.ok v' w/\VR e (.ptr i (o+fd.offset)) v':=by
 obtain⟨o',hi,ho,rfl⟩:=hx.vb;refine⟨.pointer (some ⟨e.b i,o'+fd.offset,none⟩),?_,.ptr _ _ _ hi zzz⟩;simp[Instr.fieldAt,aL hu,hf,Instr.sureAddr,fieldPlace,iZ hs,hn,add_lit]
theorem avK {t:TypeId}{v:AV}(hx:VR e x x')(su:VR e ix ix')(ha:HR P t x ix=some v)(w:World):
  ∃v',(Instr.indexAt t x' ix').run P w=.ok v' w/\VR e v v':=by
 simp only[HR,acH,aba] at ha;obtain⟨d,hd,ha⟩:=ha;split at ha
 ·rename_i n el i off kk k;simp only[aba] at ha;obtain⟨es,dO,ha⟩:=ha;split at ha;·rename_i hk;simp only[aaA,zz5] at hk;cases ha;obtain⟨o,hi,ho,rfl⟩:=hx.vb;obtain rfl:=su.gV;refine⟨.pointer (some ⟨e.b i,o+k.toNat*es,none⟩),?_,.ptr _ _ _ hi zzz⟩;simp[Instr.indexAt,asIntOf,aL hd,Instr.sureAddr,hk.1,hk.2,iZ dO,add_lit]
  ·cases ha
 ·rename_i el i off len cap ex es kk k;simp only[aba] at ha;obtain⟨es',dO,ha⟩:=ha;split at ha
  ·rename_i hk;simp only[aaA,zz5,zz6] at hk;obtain⟨⟨rfl,wT⟩,gZ⟩:=hk;cases ha;obtain rfl:=su.gV;rcases hx.nf with⟨o,c,hi,ho,hl,hc,jQ,hn,rfl⟩|⟨rfl,_,_,_⟩;·refine⟨.pointer (some ⟨e.b i,o+k.toNat*es',none⟩),?_,.ptr _ _ _ hi zzz⟩;simp[Instr.indexAt,asIntOf,aL hd,wT,gZ,iZ dO,add_lit]
   ·omega
  ·cases ha
 ·cases ha
theorem am5 {t:TypeId}{v:AV}(hx:VR e x x')(su:VR e ix ix')(ha:HM P t x ix=some v)(w:World):
  ∃v',(Instr.index t x' ix').run P w=.ok v' w/\VR e v v':=by
 simp only[HM,acH,aba] at ha;obtain⟨d,hd,ha⟩:=ha;split at ha
 ·rename_i n el cs kk k;simp only[aba] at ha;obtain⟨es,dO,ha⟩:=ha;split at ha;·rename_i hk;simp only[aaA,zz5] at hk;obtain⟨vs,rfl,hl⟩:=hx.zJ;obtain rfl:=su.gV;obtain⟨v',bS,hr⟩:=CQ hl ha w;exact⟨v',by simp[Instr.index,asIntOf,aL hd,hk.1,hk.2,iZ dO,bS],hr⟩
  ·cases ha
 ·rename_i s kk k;split at ha
  ·rename_i hk;obtain⟨b,rfl,rfl⟩:=hx.nD;obtain rfl:=su.gV;simp only[aal] at ha;obtain⟨c,hc,rfl⟩:=ha;simp only[bytes,acV,aal] at hc;obtain⟨u,hu,rfl⟩:=hc;refine⟨.int .u8 u.toNat,?_,.int _ _⟩;have hb:b[k.toNat]?=some u:=by
    have h1:k.toNat<b.data.toList.length:=(aak.1 hu).1;have h2:k.toNat<b.size:=by rw[amv] at h1;exact h1
    rw[getElem?_pos b k.toNat h2];congr 1;have h3:=(aak.1 hu).2;rw[<-h3];rfl
   simp[Instr.index,asIntOf,aL hd,hk,hb]
  ·cases ha
 ·cases ha
theorem G5 {lo hi:Nat}{v:AV}{n:Nat}(hv:VR e v v')(h:bound lo hi v=some n):∃k:IntKind,∃z:Int,v'=.int k z/\lo<=n/\n<=hi/\z=n:=by
 unfold bound at h;split at h
 ·rename_i k z;split at h;·rename_i hk;simp only[aaA,zz5] at hk;cases h;exact⟨k,z,hv.gV,zzz,zzz,zzz⟩
  ·cases h
 ·cases h
def yQ (e:Em):Option AV->Option Value->Prop
 |none,none=>True|some a,some b=>VR e a b|_,_=>False
theorem A7 {z:Int}{n y:Nat}{code:BoundsCode}(h:z=n)(hy:n<=y)(w:World):(Instr.sliceBound (.int k z) y code).run P w=.ok n w:=by subst h;simp[Instr.sliceBound,asIntOf,hy]
theorem Kt {uC:Bool}{len wi:Nat}(h1:yQ e low Az)(h2:yQ e high DZ)(h3:yQ e mx mx')
  {l h m:Nat} (hb:ud len cap low high mx=some (l,h,m)) (hl:len<=wi) (hc:cap<=wi) (w:World):
  (Instr.sliceBounds uC len wi Az DZ mx').run P w=.ok (l,h,if mx.isSome then m else wi) w/\l<=h/\(mx=none->m=cap)/\(mx.isSome=true->h<=m/\m<=cap)/\(high=none->h=len)/\(mx=none->high.isSome=true->h<=cap):=by
 simp only[ud,acH,aba,Option.pure_def,adn,acC] at hb;obtain⟨m0,hm,h0,hh,l0,sB,rfl,rfl,rfl⟩:=hb;cases mx with
 |some mv=>
  cases mx' with
  |none=>exact h3.elim|some mv'=>
   obtain⟨km,zm,rfl,_,rU,hm3⟩:=G5 h3 hm;cases high with
   |none=>cases hh
   |some hv=>
    cases DZ with
    |none=>exact h2.elim|some bS=>
     obtain⟨kh,zh,rfl,_,rP,Nb⟩:=G5 h2 hh;cases low with
     |none=>
      cases Az with
      |some _=>exact h1.elim|none=>
       cases sB;refine⟨?_,zzz,zzy,λ_=>⟨rP,rU⟩,zzy,zzy⟩;simp[Instr.sliceBounds,A7 hm3 (show m0<=wi by omega),A7 Nb rP]
     |some lv=>
      cases Az with
      |none=>exact h1.elim|some lv'=>
       obtain⟨kl,zl,rfl,_,qb,FD⟩:=G5 h1 sB;refine⟨?_,qb,zzy,λ_=>⟨rP,rU⟩,zzy,zzy⟩;simp[Instr.sliceBounds,A7 hm3 (show m0<=wi by omega),A7 Nb rP,A7 FD qb]
 |none=>
  cases mx' with
  |some _=>exact h3.elim|none=>
   cases hm;cases high with
   |none=>
    cases DZ with
    |some _=>exact h2.elim|none=>
     cases hh;cases low with
     |none=>
      cases Az with
      |some _=>exact h1.elim|none=>cases sB;exact⟨by simp[Instr.sliceBounds],zzz,zzy,zzy,zzy,zzy⟩
     |some lv=>
      cases Az with
      |none=>exact h1.elim|some lv'=>
       obtain⟨kl,zl,rfl,_,qb,FD⟩:=G5 h1 sB;exact⟨by simp[Instr.sliceBounds,A7 FD qb],qb,zzy,zzy,zzy,zzy⟩
   |some hv=>
    cases DZ with
    |none=>exact h2.elim|some bS=>
     obtain⟨kh,zh,rfl,_,rP,Nb⟩:=G5 h2 hh;cases low with
     |none=>
      cases Az with
      |some _=>exact h1.elim|none=>cases sB;exact⟨by simp[Instr.sliceBounds,A7 Nb (show h0<=wi by omega)],zzz,zzy,zzy,zzy,λ_ _=>rP⟩
     |some lv=>
      cases Az with
      |none=>exact h1.elim|some lv'=>
       obtain⟨kl,zl,rfl,_,qb,FD⟩:=G5 h1 sB;exact⟨by simp[Instr.sliceBounds,A7 Nb (show h0<=wi by omega),A7 FD qb],qb,zzy,zzy,zzy,λ_ _=>rP⟩
theorem aV.abN (b:ByteArray)(l h:Nat):((bytes b).drop l).take (h-l)=bytes (b.extract l h):=by unfold bytes;rw[ByteArray.data_extract,Array.toList_extract,List.extract,List.map_take,List.map_drop]
theorem auE (hRH:RH G F W e H w){t:TypeId}{v:AV}(hx:VR e x x')(h1:yQ e low Az)(h2:yQ e high DZ)(h3:yQ e mx mx')
  (ha:tR P t x low high mx H=some v):∃v',(Instr.sliceAt t x' Az DZ mx').run P w=.ok v' w/\VR e v v':=by
 simp only[tR,acH,aba] at ha;obtain⟨d,hd,ha⟩:=ha;split at ha
 ·rename_i s;obtain⟨b,rfl,rfl⟩:=hx.nD;cases mx with
  |some _=>simp at ha|none=>
   cases mx' with
   |some _=>exact h3.elim|none=>
    simp only[ahJ,abu,if_false,aba,Prod.exists] at ha;obtain⟨l,h,m,hb,hv⟩:=ha;simp only[adn] at hv;subst hv;have fy:(bytes b).length=b.size:=by unfold bytes;rw[ab7,amv];rfl
    rw[fy] at hb;obtain⟨hr,Sf,hm,_,Cu,rP⟩:=Kt (P:=P) (uC:=false) h1 h2 h3 hb (aaC _) (aaC _) w;simp only[ahJ,abu,if_false] at hr;refine⟨.string (b.extract l h),by simp[Instr.sliceAt,Instr.slice,aL hd,hr],?_⟩;rw[aV.abN];exact .str _
 ·rename_i el;simp only[aba,Prod.exists] at ha;obtain⟨l,h,m,hb,hv⟩:=ha;split at hv
  ·rename_i hs;simp only[adn] at hv;subst hv;obtain⟨es,dO⟩:=ajZ.1 hs;cases hx;obtain⟨hr,Sf,hm,rU,Cu,rP⟩:=Kt (P:=P) (uC:=true) h1 h2 h3 hb (aaC _) (aaC _) w;refine⟨.slice none 0 0,?_,.ah⟩;have hh:h=0:=by
    cases mx with
    |some _=>have:=rU rfl;omega|none=>
     cases high with
     |none=>exact Cu rfl|some _=>have:=rP rfl rfl;omega
   have sB:l=0:=zzz;subst hh;subst sB;have Sq:(if mx.isSome=true then m else 0)=0:=by
    split;·rename_i hms;have:=rU hms;omega
    ·rfl
   rw[Sq] at hr;simp[Instr.sliceAt,Instr.slice,aL hd,hr,iZ dO]
  ·cases hv
 ·rename_i el i off len cap ex es;simp only[aba,Prod.exists] at ha;obtain⟨l,h,m,hb,es',dO,hv⟩:=ha;split at hv
  ·rename_i hs;simp only[zz6] at hs;subst hs;simp only[adn] at hv;subst hv;rcases hx.nf with⟨o,c,hi,ho,hl,hc,jQ,hn,rfl⟩|⟨rfl,rfl,a,rfl⟩
   ·obtain⟨hr,Sf,hm,rU,Cu,rP⟩:=Kt (P:=P) (uC:=true) h1 h2 h3 hb hl hc w;have Hh:h<=(if mx.isSome=true then m else c)/\m<=(if mx.isSome=true then m else c)/\(if mx.isSome=true then m else c)<=c/\((ex||mx.isSome)=true->(if mx.isSome=true then m else c)=m):=by
     cases mx with
     |some _=>have:=rU rfl;simp;omega|none=>
      have hmc:=hm rfl;simp only[ahJ,abu,if_false,Bool.or_false];refine⟨?_,zzz,zzz,λsA=>by rw[jQ sA,hmc]⟩;cases high with
      |none=>have:=Cu rfl;omega|some _=>have:=rP rfl rfl;omega
    generalize (if mx.isSome=true then m else c)=m' at hr Hh;obtain⟨QF,xn,hq3,XO⟩:=Hh;by_cases xz:m'=l;·have e1:h-l=0:=zzz;have e2:m-l=0:=zzz;refine⟨.slice (some ⟨e.b i,o,none⟩) 0 0,?_,by rw[e1,e2];exact .DP ..⟩;have e3:h=l:=zzz;simp[Instr.sliceAt,Instr.slice,aL hd,hr,iZ dO,xz,e3]
    ·refine⟨.slice (some ⟨e.b i,o+l*es',none⟩) (h-l) (m'-l),?_,.slice _ _ _ _ _ _ _ _ hi zzz zzz zzz (λsA=>by rw[XO sA]) ?_⟩;·simp[Instr.sliceAt,Instr.slice,aL hd,hr,iZ dO,xz,add_lit]
     ·have:o+l*es'+(m'-l)*es'=o+m'*es':=by rw[ame,<-agX];congr 2;omega
      rw[this];have:m'*es'<=c*es':=aeQ _ hq3;omega
   ·obtain⟨hr,Sf,hm,rU,Cu,rP⟩:=Kt (P:=P) (uC:=true) (wi:=0) h1 h2 h3 hb (aaC _) (aaC _) w;have hh:h=0:=by
     cases mx with
     |some _=>have:=rU rfl;omega|none=>
      cases high with
      |none=>exact Cu rfl|some _=>have:=rP rfl rfl;omega
    have sB:l=0:=zzz;have Sq:(if mx.isSome=true then m else 0)=0:=by
     split;·rename_i hms;have:=rU hms;omega
     ·rfl
    have CG:m=0:=by
     cases mx with
     |some _=>have:=rU rfl;omega|none=>exact hm rfl
    subst hh;subst sB;subst CG;rw[Sq] at hr;exact⟨.slice (some a) 0 0,by simp[Instr.sliceAt,Instr.slice,aL hd,hr,iZ dO],.DP ..⟩
  ·cases hv
 ·rename_i n el i off;simp only[aba,Prod.exists] at ha;obtain⟨l,h,m,hb,es,dO,hv⟩:=ha;split at hv
  ·rename_i hs;simp only[aaA,aeI] at hs;obtain⟨uW,nH⟩:=hs;obtain⟨u,hu⟩:=ajZ.1 nH;simp only[adn] at hv;subst hv;obtain⟨o,hi,ho,rfl⟩:=hx.vb;obtain⟨hr,Sf,hm,rU,Cu,rP⟩:=Kt (P:=P) (uC:=false) h1 h2 h3 hb (aaC _) (aaC _) w;have aQ:=hRH.Zs (o:=o+n*es-1) hu zzz;have hmn:(if mx.isSome=true then m else n)=m/\m<=n/\h<=m:=by
    cases mx with
    |some _=>have:=rU rfl;simp;omega|none=>
     have:=hm rfl;subst this;refine⟨zzy,aaC _,?_⟩;cases high with
     |none=>have:=Cu rfl;omega|some _=>exact rP rfl rfl
   rw[hmn.1] at hr;obtain⟨_,QF,xn⟩:=hmn;by_cases xz:m=l;·have e1:h-l=0:=zzz;have e2:m-l=0:=zzz;refine⟨.slice (some ⟨e.b i,o,none⟩) 0 0,?_,by rw[e1,e2];exact .DP ..⟩;have e3:h=l:=zzz;simp[Instr.sliceAt,aL hd,Instr.sureAddr,hr,iZ dO,xz,e3]
   ·refine⟨.slice (some ⟨e.b i,o+l*es,none⟩) (h-l) (m-l),?_,.slice _ _ _ _ _ _ _ _ hi zzz zzz zzz (λ_=>rfl) ?_⟩;·simp[Instr.sliceAt,aL hd,Instr.sureAddr,hr,iZ dO,xz,add_lit]
    ·have:o+l*es+(m-l)*es=o+m*es:=by rw[ame,<-agX];congr 2;omega
     rw[this];have:m*es<=n*es:=aeQ _ QF;omega
  ·cases hv
 ·cases ha
end
end
end
section
variable {P:Program}{G:Nat}{F:Nat->Prop}{W:World}{e:Em}{H:Hp}{w:World}
theorem Au (b:ByteArray):(bytes b).length=b.size:=by unfold bytes;rw[ab7,amv];rfl
theorem acw:∀{x y:List UInt8},x.map (·.toNat)=y.map (·.toNat)->x=y
 |[],[],_=>rfl|[],_::_,h=>by simp at h
 |_::_,[],h=>by simp at h
 |a::x,b::y,h=>by simp only[ab9,List.cons.injEq] at h;rw[UInt8.toNat_inj.1 h.1,acw h.2]
theorem bytes_beq (a b:ByteArray):(bytes a==bytes b)=(a.data.toList==b.data.toList):=by
 unfold bytes;by_cases h:a.data.toList=b.data.toList;·rw[h];simp
 ·have:¬(a.data.toList.map (·.toNat)=b.data.toList.map (·.toNat)):=λh2=>h (acw h2);rw[beq_eq_false_iff_ne.2 h,beq_eq_false_iff_ne.2 this]
theorem al4:∀(x y:List UInt8),si (x.map (·.toNat)) (y.map (·.toNat))=Op.bytesLess x y
 |x,[]=>by cases x<;>simp[si,Op.bytesLess]
 |[],b::y=>by simp[si,Op.bytesLess]
 |a::x,b::y=>by
  simp only[ab9,si,Op.bytesLess,al4 x y];congr 1
  ·by_cases h:a.toNat<b.toNat
   ·have:a<b:=by rw[UInt8.lt_iff_toNat_lt];exact h
    simp[this,h]
   ·have:¬a<b:=by rw[UInt8.lt_iff_toNat_lt];exact h
    have h2:Nat.blt a.toNat b.toNat=false:=by
     cases hb:Nat.blt a.toNat b.toNat;·rfl
     ·rw[aeI] at hb;exact absurd hb h
    simp[this,h2]
  ·congr 1;by_cases h:a=b;·subst h;simp
   ·have h2:¬a.toNat=b.toNat:=λq=>h (UInt8.toNat_inj.1 q);rw[qz h2,beq_eq_false_iff_ne.2 h]
theorem awZ (a b:ByteArray):bytes (a++b)=bytes a++bytes b:=by unfold bytes;rw[ByteArray.data_append,Array.toList_append,adH]
theorem ak3 (k:IntKind)(a:Int)(h:0<=a):(BitVec.ofInt k.bits a).toNat=a.toNat%2^k.bits:=by
 rw[amL];obtain⟨n,rfl⟩:=Int.eq_ofNat_of_zero_le h;rw[acv];have:((n:Int)%((2^k.bits:Nat):Int))=((n%2^k.bits:Nat):Int):=by norm_cast
 rw[this,acv]
theorem amc {α:Type}(g:α->Option Bool)(body:α->Option Bool×Unit->Sem (ForInStep (Option Bool×Unit)))(w:World)
  (hb:∀a b,g a=some b->(body a (none,())).run P w=.ok (if b then .yield (none,()) else .done (some false,())) w):
  ∀(l:List α) (b:Bool),tB g l=some b->(forIn l (none,()) body).run P w=.ok (if b then (none,()) else (some false,())) w:=by
 intro l;induction l with
 |nil=>intro b h;simp only[tB,adn] at h;subst h;simp|cons a r ih=>
  intro b h;unfold tB at h;split at h;·rename_i hg;rw[List.forIn_cons,Sem.run_bind,hb a true hg];exact ih b h
  ·rename_i hg;cases h;rw[List.forIn_cons,Sem.run_bind,hb a false hg];simp
  ·cases h
theorem ajX (p q:ByteArray):(p==q)=(bytes p==bytes q):=by
 rw[bytes_beq];have h0:(p==q)=(p.data==q.data):=by cases p;cases q;rfl
 rw[h0];by_cases e:p.data=q.data;·rw[e];simp
 ·have:¬p.data.toList=q.data.toList:=λh2=>e (aes.1 h2);rw[beq_eq_false_iff_ne.2 e,beq_eq_false_iff_ne.2 this]
theorem ah5 (h:RH G F W e H w){i:Nat}(hc:clean H i=true):∃C el,i<e.N/\w.heap[e.b i]?=some (.cells C el (0,0))/\(∃o,H.h.get i=some o/\wr o=true):=by
 unfold clean at hc;split at hc
 ·rename_i c lo hi el hg;obtain⟨hN,ob,eN,eT,_⟩:=h.obj i _ hg;cases eT with
  |cells _ _ _ _ _ C fz hn ka h0 h1 hd=>
   have:=h0 rfl;subst this;exact⟨C,el,hN,eN,_,hg,rfl⟩
 ·cases hc
theorem MN (h:RH G F W e H w):∀(d D:Nat),d<=D->∀(t:TypeId) (x y:AV) (x' y':Value) (b:Bool),VR e x x'->VR e y y'->eE P d t x y H=some b->
  (Op.equalIn D t x' y').run P w=.ok b w:=by
 intro d;induction d with
 |zero=>intro D _ t x y x' y' b _ _ hb;cases hb
 |succ d ih=>
  intro D hD t x y x' y' b hx hy hb;obtain⟨D,rfl⟩:∃k,D=k+1:=⟨D-1,zzz⟩;unfold eE at hb;split at hb;·cases hb
  rename_i u hu;split at hb;·cases hx.yu;cases hy.yu;cases hb;simp[Op.equalIn,aL hu]
  ·cases hx.gV;cases hy.gV;split at hb;·rename_i hk;cases hb;simp[Op.equalIn,aL hu,hk]
   ·cases hb
  ·obtain⟨p,rfl,rfl⟩:=hx.nD;obtain⟨q,rfl,rfl⟩:=hy.nD;cases hb;have:=ajX p q;simp[Op.equalIn,aL hu,this]
  ·cases hx;cases hy;cases hb;simp[Op.equalIn,aL hu]
  ·cases hx;cases hy;cases hb;simp[Op.equalIn,aL hu]
  ·cases hx;cases hy;cases hb;simp[Op.equalIn,aL hu]
  ·rename_i el i a j c;split at hb
   ·rename_i n hn;obtain⟨o,hi,ho,rfl⟩:=hx.vb;obtain⟨o2,hj,qa,rfl⟩:=hy.vb;cases ml:Nat.beq i j with
    |true=>
     have:i=j:=abx ml;subst this;rw[ml] at hb;cases hb;have:(Nat.beq a c)=(o==o2):=by
      by_cases q:a=c;·subst q;have:o=o2:=zzz;subst this;simp
      ·rw[qz q,beq_eq_false_iff_ne.2 zzz]
     simp[Op.equalIn,aL hu,iZ hn,sameAddr,this];by_cases q:o=o2;·subst q;simp
     ·rw[beq_eq_false_iff_ne.2 q,beq_eq_false_iff_ne.2 (by simp;exact q)]
    |false=>
     rw[ml] at hb;cases sU:(clean H i&&clean H j) with
     |false=>rw[sU] at hb;cases hb
     |true=>
      rw[sU] at hb;cases hb;rw[aaA] at sU;obtain⟨C1,l1,_,g1,o1,q1,u1⟩:=ah5 h sU.1;obtain⟨C2,l2,_,g2,o3,q2,u2⟩:=ah5 h sU.2;have aF:¬e.b i=e.b j:=λq=>by have:=h.inj i j _ _ q1 q2 (.inl u1) q;subst this;simp at ml
      have f1:∀k,w.frozen? ⟨e.b i,k,none⟩=false:=λk=>by simp[World.frozen?,g1]
      have f2:∀k,w.frozen? ⟨e.b j,k,none⟩=false:=λk=>by simp[World.frozen?,g2]
      have s1:w.shape? (e.b i)=some (l1,C1.size):=by simp[World.shape?,g1]
      have s2:w.shape? (e.b j)=some (l2,C2.size):=by simp[World.shape?,g2]
      simp[Op.equalIn,aL hu,iZ hn,sameAddr,aF,f1,f2,noView,viewAt,s1,s2,mayBeOne,stringish]
   ·cases hb
  ·cases hx;cases hy;cases hb;simp[Op.equalIn,aL hu]
  ·cases hx;cases hy;cases hb;simp[Op.equalIn,aL hu]
  ·cases hx;cases hy;cases hb;simp[Op.equalIn,aL hu]
  ·rename_i t1 v1 t2 v2;cases hx with
   |iface _ _ v1' nZ=>
   cases hy with
   |iface _ _ HX vi=>
   split at hb
   ·rename_i ht;subst ht;split at hb
    ·rename_i inf jL;cases TC:inf.comparable with
     |false=>rw[TC] at hb;cases hb
     |true=>
      rw[TC] at hb;have:=ih D zzz t1 v1 v2 v1' HX b nZ vi hb;simp[Op.equalIn,aL hu,rC jL,TC,this]
    ·cases hb
   ·rename_i ht;cases hb;simp[Op.equalIn,aL hu,ht]
  ·rename_i fs xs ys;cases aC:P.stoodInHeld t with
   |true=>rw[aC] at hb;cases hb
   |false=>
    rw[aC] at hb;simp only[cond_false] at hb;obtain⟨vx,rfl,gi⟩:=hx.zJ;obtain⟨vy,rfl,YW⟩:=hy.zJ;have key:=amc (P:=P) (g:=λf:Field=>if f.name = "_" then some true else
     match oJ P f.type xs f.offset,oJ P f.type ys f.offset with
     |some a,some b=>eE P d f.type a b H|_,_=>none) (body:=λf Te=>
      if f.name = "_" then Pure.pure (ForInStep.yield (none,()))
      else do
       let FX <-part f.type vx f.offset
       let Sp <-part f.type vy f.offset
       let FX <-Op.equalIn D f.type FX Sp
       if FX=false then Pure.pure (ForInStep.done (some false,())) else Pure.pure (ForInStep.yield (none,()))) w (by
      intro f b hg;by_cases hn:f.name = "_";·rw[zz2 hn] at hg;cases hg;simp[hn]
      ·rw[zz1 hn] at hg;split at hg;·rename_i a1 a2 h1 h2;obtain⟨u1,zU,jC⟩:=CQ gi h1 w;obtain⟨u2,wA,qK⟩:=CQ YW h2 w;have:=ih D zzz f.type a1 a2 u1 u2 b jC qK hg;cases b<;>simp[hn,zU,wA,this]
       ·cases hg) fs.toList b hb
    simp only[Op.equalIn,Sem.run_bind,aL hu,Result.andThen_ok,run_program,aC];simp only[Array.forIn_toList] at key;simp[key];cases b<;>simp
  ·rename_i n el xs ys;split at hb
   ·rename_i s hs;obtain⟨vx,rfl,gi⟩:=hx.zJ;obtain⟨vy,rfl,YW⟩:=hy.zJ;have key:=amc (P:=P) (g:=λi:Nat=>
     match oJ P el xs (i*s),oJ P el ys (i*s) with
     |some a,some b=>eE P d el a b H|_,_=>none) (body:=λi Te=>do
       let FX <-part el vx (i*s)
       let Sp <-part el vy (i*s)
       let FX <-Op.equalIn D el FX Sp
       if FX=false then Pure.pure (ForInStep.done (some false,())) else Pure.pure (ForInStep.yield (none,()))) w (by
      intro f b hg;split at hg;·rename_i a1 a2 h1 h2;obtain⟨u1,zU,jC⟩:=CQ gi h1 w;obtain⟨u2,wA,qK⟩:=CQ YW h2 w;have:=ih D zzz el a1 a2 u1 u2 b jC qK hg;cases b<;>simp[zU,wA,this]
      ·cases hg) (List.range' 0 n) b hb
    simp[Op.equalIn,aL hu,iZ hs];simp[key];cases b<;>simp
   ·cases hb
  ·cases hx;cases hy;cases hb;simp[Op.equalIn,aL hu]
  ·cases hx;cases hb;rcases hy.nf with⟨o,c,hi,ho,hl,hc,jQ,hn,rfl⟩|⟨rfl,rfl,a,rfl⟩<;>simp[Op.equalIn,aL hu]
  ·cases hy;cases hb;rcases hx.nf with⟨o,c,hi,ho,hl,hc,jQ,hn,rfl⟩|⟨rfl,rfl,a,rfl⟩<;>simp[Op.equalIn,aL hu]
  ·cases hx;cases hy;cases hb;simp[Op.equalIn,aL hu]
  ·cases hx;cases hy;cases hb;simp[Op.equalIn,aL hu]
  ·cases hx;cases hy;cases hb;simp[Op.equalIn,aL hu]
  ·cases hx;cases hy;cases hb;simp[Op.equalIn,aL hu]
  ·cases hx;cases hy;cases hb;simp[Op.equalIn,aL hu]
  ·cases hx;cases hy;cases hb;simp[Op.equalIn,aL hu]
  ·cases hb
end
end
section
variable {P:Program}{G:Nat}{F:Nat->Prop}{W:World}{e:Em}{H:Hp}{w:World}
theorem aDU (k:IntKind)(a b:Int):((BitVec.ofInt k.bits a)&&&(BitVec.ofInt k.bits b)).toNat=lL k a&&&lL k b:=by rw[BitVec.toNat_and,amL,amL];rfl
theorem asf (k:IntKind)(a b:Int):((BitVec.ofInt k.bits a)|||(BitVec.ofInt k.bits b)).toNat=lL k a|||lL k b:=by rw[BitVec.toNat_or,amL,amL];rfl
theorem aEs (k:IntKind)(a b:Int):((BitVec.ofInt k.bits a) ^^^ (BitVec.ofInt k.bits b)).toNat=lL k a ^^^ lL k b:=by rw[BitVec.toNat_xor,amL,amL];rfl
theorem auf (k:IntKind)(a b:Int)(ha:0<=a)(hb:0<=b):((BitVec.ofInt k.bits a) ^^^ (BitVec.ofInt k.bits b)).toNat=(a.toNat%2^k.bits) ^^^ (b.toNat%2^k.bits):=by rw[BitVec.toNat_xor,ak3 k a ha,ak3 k b hb]
theorem RM (a b:ByteArray):(a.toList==b.toList)=(bytes a==bytes b):=by rw[ByteArray.toList_eq,ByteArray.toList_eq,bytes_beq]
theorem R4 (a b:ByteArray):Op.bytesLess a.toList b.toList=si (bytes a) (bytes b):=by rw[ByteArray.toList_eq,ByteArray.toList_eq];exact (al4 _ _).symm
section
variable {k:IntKind}{x y:AV}{x':Value}
theorem Pr {d:Nat}{t:TypeId}{b:Bool}(hb:eE P d t x y H=some b):x ≠ .du/\y ≠ .du:=by
 constructor
 ·rintro rfl;cases d with
  |zero=>cases hb
  |succ d=>
   unfold eE at hb;split at hb;·cases hb
   ·split at hb<;>first|(simp at*;done)|(simp_all;done)|cases hb
 ·rintro rfl;cases d with
  |zero=>cases hb
  |succ d=>
   unfold eE at hb;split at hb;·cases hb
   ·split at hb<;>first|(simp at*;done)|(simp_all;done)|cases hb
theorem VR.aer (h:VR e x x')(hj:x ≠ .du):(∀k a,x' ≠ .float k a)/\(∀k a b,x' ≠ .complex k a b):=by cases h<;>first|(exact absurd rfl hj)|(constructor<;>(intros;simp))
theorem awx {t:TypeId}{x y:Value}(h1:∀k a k' b,x=.int k a->y=.int k' b->False)(h2:∀a b,x=.string a->y=.string b->False)
  (h3:∀k a,x ≠ .float k a) (h4:∀k a b,x ≠ .complex k a b):binOp .eql t x y=(do Pure.pure (.bool (<-Op.equal t x y))):=by
 cases x<;>cases y<;>first|rfl|(exact absurd rfl (h3 _ _))|(exact absurd rfl (h4 _ _ _))|(exact (h1 _ _ _ _ rfl rfl).elim)|(exact (h2 _ _ rfl rfl).elim)
theorem atP {t:TypeId}{x y:Value}(h1:∀k a k' b,x=.int k a->y=.int k' b->False)(h2:∀a b,x=.string a->y=.string b->False)
  (h3:∀k a,x ≠ .float k a) (h4:∀k a b,x ≠ .complex k a b):binOp .neq t x y=(do Pure.pure (.bool (!(<-Op.equal t x y)))):=by
 cases x<;>cases y<;>first|rfl|(exact absurd rfl (h3 _ _))|(exact absurd rfl (h4 _ _ _))|(exact (h1 _ _ _ _ rfl rfl).elim)|(exact (h2 _ _ rfl rfl).elim)
theorem VR.Qq {n:Int}(h:VR e x (.int k n))(hj:x ≠ .du):x=.int k n:=by cases h<;>first|rfl|exact absurd rfl hj
theorem VR.PF {s:ByteArray}(h:VR e x (.string s))(hj:x ≠ .du):x=.str (bytes s):=by cases h<;>first|rfl|exact absurd rfl hj
theorem aAu (h:RH G F W e H w){op:BinOp}{t:TypeId}{x y v:AV}{x' y':Value}(hx:VR e x x')(hy:VR e y y')(hb:fT P op t x y H=some v):
  ∃v',(binOp op t x' y').run P w=.ok v' w/\VR e v v':=by
 unfold fT at hb;split at hb
 ·cases hx.gV;cases hy.gV;split at hb;·cases hb
  ·rename_i hn;cases hb;exact⟨_,by simp[binOp,Op.shift,hn],.int _ _⟩
 ·cases hx.gV;cases hy.gV;split at hb;·cases hb
  ·rename_i hn;cases hb;exact⟨_,by simp[binOp,Op.shift,hn],.int _ _⟩
 ·cases hx.gV;cases hy.gV;split at hb
  ·rename_i k a k' b n1 n2 hk;subst hk;split at hb;·cases hb;exact⟨_,by simp[binOp,Op.intArith],.int _ _⟩
   ·cases hb;exact⟨_,by simp[binOp,Op.intArith],.int _ _⟩
   ·cases hb;exact⟨_,by simp[binOp,Op.intArith],.int _ _⟩
   ·split at hb;·cases hb
    ·rename_i hz;cases hb;exact⟨_,by simp[binOp,Op.intDiv,hz],.int _ _⟩
   ·split at hb;·cases hb
    ·rename_i hz;cases hb;exact⟨_,by simp[binOp,Op.intDiv,hz],.int _ _⟩
   ·cases hb;rw[<-aDU k a b];exact⟨_,by simp only[binOp,Op.intBits,ne_eq,not_true_eq_false,if_false];rfl,.int _ _⟩
   ·cases hb;rw[<-asf k a b];exact⟨_,by simp only[binOp,Op.intBits,ne_eq,not_true_eq_false,if_false];rfl,.int _ _⟩
   ·cases hb;rw[<-aEs k a b];exact⟨_,by simp only[binOp,Op.intBits,ne_eq,not_true_eq_false,if_false];rfl,.int _ _⟩
   ·cases hb
   ·cases hb;exact⟨_,by simp[binOp,Op.intCmp],.bool _⟩
   ·cases hb;exact⟨_,by simp[binOp,Op.intCmp],.bool _⟩
   ·cases hb;exact⟨_,by simp[binOp,Op.intCmp],.bool _⟩
   ·cases hb;exact⟨_,by simp[binOp,Op.intCmp],.bool _⟩
   ·cases hb;exact⟨_,by simp[binOp,Op.intCmp],.bool _⟩
   ·cases hb;exact⟨_,by simp[binOp,Op.intCmp],.bool _⟩
   ·cases hb
  ·cases hb
 ·obtain⟨p,rfl,rfl⟩:=hx.nD;obtain⟨q,rfl,rfl⟩:=hy.nD;split at hb
  ·cases hle:Nat.ble ((bytes p).length+(bytes q).length) 4294967296 with
   |false=>rw[hle] at hb;cases hb
   |true=>
    rw[hle] at hb;cases hb;rw[af1,Au,Au] at hle;have:¬((p.size+q.size:Nat):Int)>9223372036854775807:=zzz;rw[<-awZ];refine⟨.string (p++q),?_,.str _⟩;simp only[binOp,Op.stringOp,IntKind.max_i64,zz1 this];rfl
  ·cases hb;exact⟨_,by simp[binOp,Op.stringOp,RM],.bool _⟩
  ·cases hb;exact⟨_,by simp[binOp,Op.stringOp,RM],.bool _⟩
  ·cases hb;exact⟨_,by simp[binOp,Op.stringOp,R4],.bool _⟩
  ·cases hb;exact⟨_,by simp[binOp,Op.stringOp,R4,RM],.bool _⟩
  ·cases hb;exact⟨_,by simp[binOp,Op.stringOp,R4,RM],.bool _⟩
  ·cases hb;exact⟨_,by simp[binOp,Op.stringOp,R4],.bool _⟩
  ·cases hb
 ·rename_i n1 n2;simp only[aal] at hb;obtain⟨b,hb,rfl⟩:=hb;have:=MN h 50 Op.maxDepth zzx t x y x' y' b hx hy hb;refine⟨.bool b,?_,.bool _⟩;obtain⟨j1,j2⟩:=Pr hb;obtain⟨f1,f2⟩:=hx.aer j1;rw[awx (λk a k' b p q=>n1 k a k' b (by rw[p] at hx;exact hx.Qq j1) (by rw[q] at hy;exact hy.Qq j2))
   (λa b p q=>n2 _ _ (by rw[p] at hx;exact hx.PF j1) (by rw[q] at hy;exact hy.PF j2)) f1 f2]
  simp only[Op.equal,Sem.run_bind,this];rfl
 ·rename_i n1 n2;simp only[aal] at hb;obtain⟨b,hb,rfl⟩:=hb;have:=MN h 50 Op.maxDepth zzx t x y x' y' b hx hy hb;refine⟨.bool !b,?_,.bool _⟩;obtain⟨j1,j2⟩:=Pr hb;obtain⟨f1,f2⟩:=hx.aer j1;rw[atP (λk a k' b p q=>n1 k a k' b (by rw[p] at hx;exact hx.Qq j1) (by rw[q] at hy;exact hy.Qq j2))
   (λa b p q=>n2 _ _ (by rw[p] at hx;exact hx.PF j1) (by rw[q] at hy;exact hy.PF j2)) f1 f2]
  simp only[Op.equal,Sem.run_bind,this];rfl
 ·cases hb
theorem aD6 {op:BinOp}{t:TypeId}{X Y:Operand}{v:AV}{y':Value}(hx:VR e x x')(hy:VR e y y')(hg:vR P op t X Y x y=true)(hb:fT P op t x y H=some v):
  (eqGuard op t X Y x' y').run P w=.ok () w:=by
 by_cases ho:op=.eql\/op=.neq
 ·have RY:x ≠ .du/\y ≠ .du:=by
   constructor;·rintro rfl;rcases ho with rfl|rfl<;>(unfold fT at hb;simp only[aal] at hb;obtain⟨b,hb,_⟩:=hb;exact (Pr hb).1 rfl)
   ·rintro rfl;rcases ho with rfl|rfl<;>(unfold fT at hb;cases x<;>simp only[aal] at hb<;>(obtain⟨b,hb,_⟩:=hb;exact (Pr hb).2 rfl))
  cases hx<;>cases hy<;>first
   |(exact absurd rfl RY.1)|(exact absurd rfl RY.2)
   |(rcases ho with rfl|rfl<;>rfl)
   |skip
  ·have FY:yJ X=true\/yJ Y=true:=by rcases ho with rfl|rfl<;>(simp only[vR,ajI] at hg;exact hg)
   rcases ho with rfl|rfl<;>(rcases FY with hc|hc<;>(cases X<;>cases Y<;>first|(simp[yJ] at hc;done)|rfl))
  ·have FY:P.eqGuardType P.depth t=false:=by rcases ho with rfl|rfl<;>(simp only[vR,amk] at hg;exact hg)
   rcases ho with rfl|rfl<;>simp[eqGuard,FY]
 ·have:(op matches .eql|.neq)=false:=by cases op<;>first|rfl|(exact absurd zzy ho)
  cases op<;>first|rfl|(exact absurd zzy ho)
end
end
end
section
variable {P:Program}{G:Nat}{F:Nat->Prop}{W:World}{e:Em}{H:Hp}{w:World}
section
variable {el off:Nat}{fs:Array Field}{parts:List (Nat×AV)}{Jh:Array (Nat×Value)}{x:AV}{x':Value}{z:List AV}
theorem asG {op:UnOp}{v:AV}(hx:VR e x x')(hb:dY op x=some v)(w:World):∃v',(Op.unary op x').run P w=.ok v' w/\VR e v v':=by
 unfold dY at hb;split at hb;·cases hx.gV;cases hb;exact⟨_,by simp[Op.unary,Op.intArith],.int _ _⟩
 ·cases hx.yu;cases hb;exact⟨_,by simp[Op.unary],.bool _⟩
 ·rename_i k n;cases hx.gV;split at hb;·cases hb
  ·rename_i hs;split at hb
   ·rename_i hn;cases hb;have hm:0<=k.max:=by cases k<;>simp[IntKind.max,IntKind.signed,IntKind.bits] at hs⊢
    rw[<-auf k k.max n hm hn];refine⟨_,?_,.int _ _⟩;simp only[Op.unary,Op.intBits,zz1 hs];rfl
   ·cases hb
 ·cases hb
theorem aff:∀(v:List Value) (off j:Nat) (cs:Array Value),off+j+v.length<=cs.size->
  ((v.zipIdx j).foldl (λcs (x:Value×Nat)=>cs.setIfInBounds (off+x.2) x.1) cs).size=cs.size/\
  ∀m,((v.zipIdx j).foldl (λcs (x:Value×Nat)=>cs.setIfInBounds (off+x.2) x.1) cs)[m]?=if off+j<=m/\m<off+j+v.length then v[m-(off+j)]? else cs[m]?
 |[],off,j,cs,h=>by refine⟨zzy,λm=>?_⟩;rw[zz1 (by rw[acU];omega)];simp
 |x::v,off,j,cs,h=>by
  simp only[aaG] at h;rw[List.zipIdx_cons,List.foldl_cons];obtain⟨h1,h2⟩:=aff v off (j+1) (cs.setIfInBounds (off+j) x) (by simp;omega);refine⟨by rw[h1];simp,λm=>?_⟩;rw[h2];simp only[aaG];by_cases hm:m=off+j;·subst hm;rw[zz1 zzz,zz2 zzz];rw[ajQ zzz];simp
  ·by_cases hr:off+(j+1)<=m/\m<off+(j+1)+v.length;·rw[zz2 hr,zz2 zzz];have:m-(off+j)=(m-(off+(j+1)))+1:=zzz;rw[this,adr]
   ·rw[zz1 hr,zz1 zzz,agY zzz]
theorem aV.axf {a c:List AV}{x:Array Value}{y:List Value}(ha:aV e a x.toList)(hc:aV e c y)(h:off+c.length<=a.length):
  aV e (a.take off++c++a.drop (off+c.length)) ((y.zipIdx).foldl (λcs (x:Value×Nat)=>cs.setIfInBounds (off+x.2) x.1) x).toList:=by
 have hx:x.size=a.length:=by have:=ha.1;simpa using this
 obtain⟨h1,h2⟩:=aff y off 0 x (by rw[hc.1,hx];omega);refine⟨by simp[h1,hx];omega,λi v v' hv bS=>?_⟩;rw[aeW,h2] at bS;simp only[ae9] at bS;rw[hc.1] at bS;by_cases hi:i<off;·rw[zz1 zzz] at bS;rw[acp,abE (by simp;omega),ajA,zz2 hi] at hv;exact ha.2 i v v' hv (by rw[aeW];exact bS)
 ·by_cases oC:i<off+c.length
  ·rw[zz2 zzz] at bS;rw[abE (by simp;omega),ab4 (by simp;omega)] at hv;have:i-(a.take off).length=i-off:=by simp;omega
   rw[this] at hv;exact hc.2 _ v v' hv bS
  ·rw[zz1 zzz] at bS;rw[ab4 (by simp;omega),ahf] at hv;have:off+c.length+(i-(a.take off++c).length)=i:=by simp;omega
   rw[this] at hv;exact ha.2 i v v' hv (by rw[aeW];exact bS)
def wE (e:Em)(l:List (Nat×AV))(l':List (Nat×Value)):Prop:=l'.map (·.1)=l.map (·.1)/\aV e (l.map (·.2)) (l'.map (·.2))
theorem PY {pl G2:Nat->Option (Nat×Nat)}(iY:∀i x,pl i=some x->G2 i=some x):∀(ps:List (Nat×AV)) (ps':List (Nat×Value)) (cells out:List AV) (Gq:Array Value),
  wE e ps ps'->aV e cells Gq.toList->xA pl cells ps=some out->∃mN,Instr.fill G2 Gq ps'=some mN/\aV e out mN.toList:=by
 intro ps;induction ps with
 |nil=>
  intro ps' cells out Gq hp hc hf;cases hf;obtain rfl:ps'=[]:=by have:=hp.1;simpa using this
  exact⟨Gq,rfl,hc⟩
 |cons p ps ih=>
  intro ps' cells out Gq hp hc hf;obtain⟨i,v⟩:=p;cases ps' with
  |nil=>have:=hp.1;simp at this|cons q ps'=>
   obtain⟨i',v'⟩:=q;obtain⟨h1,h2⟩:=hp;simp only[ab9,List.cons.injEq] at h1;obtain⟨rfl,h1⟩:=h1;obtain⟨u,us,hu,hv,u9⟩:=aV.cons_inv (by simpa using h2:aV e (v::ps.map (·.2)) (v'::ps'.map (·.2)));simp only[List.cons.injEq] at hu;obtain⟨rfl,rfl⟩:=hu;unfold xA at hf;split at hf;·cases hf
   ·rename_i off size vE;split at hf;·cases hf
    ·rename_i cs gG;split at hf
     ·rename_i uZ;have hl:=hv.cells gG;have fy:v'.cells.size=size:=by have:=hl.1;simp at this;omega
      have aFK:Gq.size=cells.length:=by have:=hc.1;simpa using this
      have mh:=hc.axf hl (off:=off) zzz;rw[uZ.1] at mh;obtain⟨mN,ho,hr⟩:=ih ps' _ out _ ⟨h1,u9⟩ mh hf;refine⟨mN,?_,hr⟩;unfold Instr.fill;rw[iY _ _ vE];have c1:(decide (v'.cells.size≠size)||decide (off+v'.cells.size>Gq.size))=false:=by simp;omega
      simp only[c1,abu,if_false];rw[<-ho];congr 1;rw[<-Array.foldl_toList,Array.toList_zipIdx]
     ·cases hf
theorem wE.map {ρ:Operand->AV}{σ:Operand->Value}(h:∀x,VR e (ρ x) (σ x))(l:List (Nat×Operand)):wE e (l.map λ(i,x)=>(i,ρ x)) (l.map λ(i,x)=>(i,σ x)):=by refine⟨by simp[Function.comp_def],?_⟩;have:=aV.map h (l.map (·.2));simpa[Function.comp_def] using this
theorem aks {α β:Type}{f:α->Option β}{g:α->Sem β}{w:World}(h:∀a b,f a=some b->(g a).run P w=.ok b w):∀(l:List α) (r:List β),ua f l=some r->(l.mapM g).run P w=.ok r w
 |[],r,hr=>by cases hr;simp
 |a::l,r,hr=>by
  unfold ua at hr;split at hr
  ·rename_i b hb;split at hr;·rename_i r' dA;cases hr;simp[h a b hb,aks h l r' dA]
   ·cases hr
  ·cases hr
theorem aDF {t:TypeId}{out:List AV}{pl:List (Nat×Nat)}(hz:zc P t=some z)(hu:P.underlying t=some (.struct fs))
  (iY:Yd P fs=some pl) (hp:wE e parts Jh.toList) (hf:xA (pl[·]?) z parts=some out) (w:World):∃v',(Instr.build t Jh).run P w=.ok v' w/\VR e (.agg out) v':=by
 obtain⟨i,z0,hi,gC,hl⟩:=BD (e:=e) hz;have hm:(fs.mapM (λf=>do Pure.pure (f.offset,<-sizeOf f.type)):Sem (Array (Nat×Nat))).run P w=.ok pl.toArray w:=by rw[<-Array.toArray_toList (xs:=fs),List.mapM_toArray];have:=aks (P:=P) (w:=w) (g:=λf:Field=>(do Pure.pure (f.offset,<-sizeOf f.type):Sem (Nat×Nat))) (f:=λf:Field=>(sz P f.type).map λn=>(f.offset,n)) (by intro a b hb;simp only[aal] at hb;obtain⟨n,hn,rfl⟩:=hb;simp[iZ hn]) fs.toList pl iY;rw[Sem.run_map,this];rfl
 obtain⟨mN,ho,hr⟩:=PY (e:=e) (G2:=(pl.toArray[·]?)) (λi x hx=>by simpa using hx) parts Jh.toList z out z0.cells hp hl hf;refine⟨.agg mN,?_,.agg _ _ hr.1 hr.2⟩;simp only[Instr.build,Sem.run_bind,uQ hi gC,Result.andThen_ok,aL hu,hm,ho];rfl
theorem awg {t s n:Nat}{out:List AV}(hz:zc P t=some z)(hu:P.underlying t=some (.array n el))
  (hs:sz P el=some s) (hp:wE e parts Jh.toList) (hf:xA (λi=>some (i*s,s)) z parts=some out) (w:World):∃v',(Instr.build t Jh).run P w=.ok v' w/\VR e (.agg out) v':=by
 obtain⟨i,z0,hi,gC,hl⟩:=BD (e:=e) hz;obtain⟨mN,ho,hr⟩:=PY (e:=e) (G2:=λi=>some (i*s,s)) (λi x hx=>hx) parts Jh.toList z out z0.cells hp hl hf;refine⟨.agg mN,?_,.agg _ _ hr.1 hr.2⟩;simp only[Instr.build,Sem.run_bind,uQ hi gC,Result.andThen_ok,aL hu,iZ hs,ho];rfl
theorem adq {α:Type}(z:List α):∀(n i:Nat),i<n*z.length->(List.replicate n z).flatten[i]?=z[i%z.length]?
 |0,i,h=>by simp at h
 |n+1,i,h=>by
  rw[List.replicate_succ,ahV];by_cases hi:i<z.length;·rw[abE hi,ajg hi]
  ·rw[ab4 zzz,adq z n _ (by rw[Nat.succ_mul] at h;omega)];congr 1;have:i=(i-z.length)+z.length:=zzz;rw[this,Nat.add_mod_right];congr 1;omega
theorem amw (z:Array Value)(n:Nat):((Array.range (n*z.size)).map (z[· % z.size]!)).toList=(List.replicate n z.toList).flatten:=by
 apply ak7;intro i;by_cases hi:i<n*z.size
 ·rw[adq z.toList n i (by simpa using hi)];have hz:0<z.size:=by
   rcases Nat.eq_zero_or_pos z.size with h|h;·rw[h] at hi;simp at hi
   ·exact h
  have aQ:i%z.size<z.size:=anK _ hz;simp[aeW,hi,aQ]
 ·rw[aid (by simp;omega),aid (by simp;omega)]
theorem aV.rep {z:List AV}{z':List Value}(h:aV e z z'):∀n,aV e (rep n z) (List.replicate n z').flatten
 |0=>by simpa[Am.rep] using aV.nil e
 |n+1=>by have:=h.append (aV.rep h n);simpa[Am.rep,List.replicate_succ] using this
end
end
end
section
variable {P:Program}{G:Nat}{F:Nat->Prop}{W:World}{e:Em}{H:Hp}{w:World}
theorem ZE:∀{l:List AV} {bs:List Nat} {cs:List Value},yC l=some bs->aV e l cs->∃us:List UInt8,bs=us.map (·.toNat)/\cs=us.map (λb=>Value.int .u8 b.toNat)
 |[],bs,cs,h,hl=>by cases h;rw[hl.lH];exact⟨[],rfl,rfl⟩
 |a::l,bs,cs,h,hl=>by
  unfold yC at h;split at h;·rename_i h0;cases h0
  ·rename_i n r h0;cases h0;obtain⟨v',ws,rfl,hv,qn⟩:=hl.cons_inv;cases hv.gV;split at h
   ·rename_i hn;simp only[aaA,zz5] at hn;simp only[acH,Option.pure_def,aba,adn] at h;obtain⟨bs',h1,rfl⟩:=h;obtain⟨us,rfl,rfl⟩:=ZE h1 qn;have hu:(UInt8.ofNat n.toNat).toNat=n.toNat:=by rw[UInt8.toNat_ofNat'];exact ajg zzz
    refine⟨UInt8.ofNat n.toNat::us,by simp only[ab9,hu],?_⟩;have:((UInt8.ofNat n.toNat).toNat:Int)=n:=by rw[hu];omega
    simp only[ab9,this]
   ·cases h
  ·cases h
theorem apk (us:List UInt8):bytes ⟨us.toArray⟩=us.map (·.toNat):=rfl
theorem ajP:∀(us:List UInt8) (s:ByteArray),(us.map λb=>(b.toNat:Int)).foldl (λr n=>r.push (UInt8.ofNat n.toNat)) s=⟨s.data++us.toArray⟩
 |[],s=>zzy|u::us,s=>by simp only[ab9,List.foldl_cons,ajP us];congr 1;simp[ByteArray.push]
theorem Xi {a:Addr}{us:List UInt8}{cap:Nat}(w:World)(h:∀j v,(us.map (λb=>Value.int .u8 b.toNat))[j]?=some v->w.cell? (a.add j)=some v):
  (Conv.bytesToString (.slice (some a) us.length cap)).run P w=.ok (.string ⟨us.toArray⟩) w:=by
 have h1:=run_loadCells_list (P:=P) w a (us.map (λb=>Value.int .u8 b.toNat)) h;rw[ab7] at h1;have h2:=run_bytesToString (P:=P) w a us.length cap (us.map λb=>(b.toNat:Int)) (by rw[h1];simp[Function.comp_def]);rw[h2,ajP];simp[ByteArray.empty,ByteArray.emptyWithCapacity];rfl
theorem aqg (n:Int)(h:0<=n/\n<128):bytes (Utf8.encode n)=[n.toNat]:=by
 obtain⟨k,rfl⟩:=Int.eq_ofNat_of_zero_le h.1;have hk:k<128:=zzz;have:∀k:Fin 128,bytes (Utf8.encode ((k.val:Nat):Int))=[k.val]:=by decide +kernel
 exact this ⟨k,hk⟩
theorem avh (w:World)(C:Array Value)(el:TypeId)(b:Nat)(hb:b=w.heap.size):
  World.freeze {w with heap:=w.heap.push (.cells C el (0,0))} {block:=b,off:=C.size} 1={w with heap:=w.heap.push (.cells C el (C.size,C.size+1))}:=by
 subst hb;simp only[World.freeze,Nat.one_ne_zero,if_false];congr 1;apply Array.ext_getElem?;intro k;rw[Array.getElem?_modify];by_cases hk:w.heap.size=k;·subst hk;simp
 ·rw[zz1 hk,amr,amr,zz1 (λq=>hk q.symm),zz1 (λq=>hk q.symm)]
def pC (w:World)(el:TypeId)(s:ByteArray):Nat:=(Question.appendCap s.size 0 el).cut (w.tape w.drawn (.appendCap s.size 0 el))
def xu (w:World)(el:TypeId)(s:ByteArray):List Value:=(s.data.toList.map λb=>Value.int .u8 b.toNat)++List.replicate (pC w el s-s.size) (.int .u8 0)
theorem Qx (w:World)(el:TypeId)(s:ByteArray):s.size<=pC w el s:=Nat.le_add_right _ _
theorem Xg (w:World)(el:TypeId)(s:ByteArray):(xu w el s).length=pC w el s:=by have:=Qx w el s;have h2:s.data.size=s.size:=rfl;simp[xu];omega
theorem afA (P:Program)(w:World)(el:TypeId)(s:ByteArray):
  (Conv.stringToBytes el s).run P w=.ok (.slice (some ⟨w.heap.size,0,none⟩) s.size (pC w el s)) {w with drawn:=w.drawn+1,heap:=w.heap.push (.cells (xu w el s).toArray el (pC w el s,pC w el s+1))}:=by
 let w1:World:={w with drawn:=w.drawn+1};let cap:=pC w el s;have jr:s.size<=cap:=Qx w el s;let rest:List Value:=List.replicate (cap-s.size) (.int .u8 0);have hlen:((s.data.toList.map λb=>Value.int .u8 b.toNat)++rest).length=cap:=Xg w el s;have hC:(s.data.map λb=>Value.int .u8 b.toNat)++Array.replicate (cap-s.size) (.int .u8 0)=((s.data.toList.map λb=>Value.int .u8 b.toNat)++rest).toArray:=by apply aes.1;simp[rest]
 have KF:(Question.appendCap s.size 0 el).forced=false:=rfl;simp only[Conv.stringToBytes,Sem.run_bind,run_choose,KF,abu,if_false,Result.andThen_ok,newRow,run_newObj,Sem.run_pure];have hC':(s.data.map λb=>Value.int .u8 b.toNat)++Array.replicate ((Question.appendCap s.size 0 el).cut (w.tape w.drawn (.appendCap s.size 0 el))-s.size) (.int .u8 0)=((s.data.toList.map λb=>Value.int .u8 b.toNat)++rest).toArray:=hC;rw[hC'];have fy:((s.data.toList.map λb=>Value.int .u8 b.toNat)++rest).toArray.size=cap:=by simpa using hlen
 have tK:(World.shape? {w1 with heap:=w.heap.push (.cells ((s.data.toList.map λb=>Value.int .u8 b.toNat)++rest).toArray el (0,0))} w.heap.size)=some (el,cap):=by simp only[World.shape?,Array.getElem?_push_size,fy]
 have NQ:=avh w1 ((s.data.toList.map λb=>Value.int .u8 b.toNat)++rest).toArray el w.heap.size rfl;rw[fy] at NQ;have arj:(World.shape? {w with heap:=w.heap.push (.cells ((s.data.toList.map λb=>Value.int .u8 b.toNat)++rest).toArray el (0,0)),drawn:=w.drawn+1} w.heap.size)=some (el,cap):=tK;simp only[markStringish,Sem.run_bind,run_shape,Result.andThen_ok,arj,run_freeze];have ars:World.freeze {w with heap:=w.heap.push (.cells ((s.data.toList.map λb=>Value.int .u8 b.toNat)++rest).toArray el (0,0)),drawn:=w.drawn+1} {block:=w.heap.size,off:=cap} 1=_:=NQ;rw[ars];rfl
theorem abX (e:Em)(s:ByteArray):aV e ((bytes s).map λ(b:Nat)=>AV.int .u8 b) (s.data.toList.map λb=>Value.int .u8 b.toNat):=by refine⟨by simp[bytes],λi v v' hv bS=>?_⟩;simp only[bytes,aoL,acV,aal] at hv bS;obtain⟨u,hu,rfl⟩:=hv;obtain⟨u',jW,rfl⟩:=bS;rw[hu] at jW;cases jW;exact .int _ _
theorem asQ (h:RH G F W e H w){s:ByteArray}{el i:Nat}{H':Hp}(hn:aA H ((bytes s).map λ(b:Nat)=>AV.int .u8 b) el 1=some (i,H')):
  ∃v' w' e',(Conv.stringToBytes el s).run P w=.ok v' w'/\e.le e'/\RH G F W e' H' w'/\VR e' (.slice i 0 (bytes s).length (bytes s).length false 1) v':=by
 have jr:=Qx w el s;have h1:RH G F W e H {w with drawn:=w.drawn+1}:=h.drawn _;have hlen:=Xg w el s;obtain⟨e',he,g1,g2,g3,g4,hr⟩:=h1.newRow (rest:=List.replicate (pC w el s-s.size) (.int .u8 0)) (fz:=(pC w el s,pC w el s+1)) hn (abX e s) zzy (λ_ k hk=>by have qV:k<(xu w el s).length:=hk;rw[hlen] at qV;simp;omega);refine⟨_,_,e',afA P w el s,he,hr,?_⟩;have hb:w.heap.size=e'.b i:=g2.symm;rw[hb,Au];have g4':e'.n i=(xu w el s).length:=g4;refine .slice i 0 s.size s.size false 1 0 _ g1 (by rw[g3];simp) jr jr zzy ?_;rw[g4',hlen];omega
theorem au6 {el:TypeId}{count:Nat}(hs:0<P.cellsOf el)(hc:P.cellsOf el<=count):liesAt P P.depth el (count / P.cellsOf el) 0 el 1=true:=by have hd:P.depth=(2*(P.types.size+Made.depth)+1)+1:=rfl;have h1:1<=count / P.cellsOf el:=(Nat.le_div_iff_mul_le hs).2 zzz;have h0:¬P.cellsOf el=0:=zzz;rw[hd];simp only[liesAt,ajI];left;rw[hd];simp only[rowAt,zz1 h0,ajI,aaA];left;simp[h1,sameLayout]
theorem Xy (h:RH G F W e H w){i:Nat}{c:Tr AV}{lo hi el fl:Nat}(hg:H.h.get i=some (.cells c lo hi el fl)):
  i<e.N/\∃C fz,w.heap[e.b i]?=some (.cells C el fz)/\C.size=e.n i/\(lo=0->e.d i=0)/\(fl=0->fz=(0,0)):=by
 obtain⟨hN,ob,eN,eT,_⟩:=h.obj i _ hg;cases eT with
 |cells _ _ _ _ _ C fz hn ka h0 h1 hd=>exact⟨hN,C,fz,eN,hn,hd,h0⟩
theorem azy (h:RH G F W e H w){src dst:TypeId}{x v:AV}{x':Value}{H':Hp}(hx:VR e x x')(hc:kD P src dst x H=some (v,H')):
  ∃v' w' e',(convert src dst x').run P w=.ok v' w'/\e.le e'/\RH G F W e' H' w'/\VR e' v v':=by
 unfold kD at hc;split at hc
 ·rename_i s d hs hd;split at hc;·cases hx.gV;cases hc;exact⟨_,w,e,by simp[convert,aL hs,aL hd,Conv.intToInt],e.le_refl,h,.int _ _⟩
  ·rename_i n;cases hx.gV;split at hc;·rename_i hn;cases hc;rw[<-aqg n hn];exact⟨_,w,e,by simp[convert,aL hs,aL hd,Conv.intToString],e.le_refl,h,.str _⟩
   ·cases hc
  ·obtain⟨b,rfl,rfl⟩:=hx.nD;cases hc;exact⟨_,w,e,by simp[convert,aL hs,aL hd],e.le_refl,h,.str _⟩
  ·rename_i el s;obtain⟨b,rfl,rfl⟩:=hx.nD;split at hc
   ·rename_i qq;split at hc;·rename_i i H2 hn;cases hc;obtain⟨v',w',e',h1,h2,h3,h4⟩:=asQ (P:=P) h hn;exact⟨v',w',e',by simp[convert,aL hs,aL hd,aL qq,h1],h2,h3,h4⟩
    ·cases hc
   ·cases hc
  ·rename_i el0 el i off len cap ex es;cases hb:(Nat.beq src dst&&Nat.blt 0 len) with
   |false=>rw[hb] at hc;cases hc
   |true=>
    rw[hb] at hc;simp only[cond_true] at hc;simp only[aaA,aeI] at hb;have hsd:src=dst:=abx hb.1;split at hc
    ·rename_i c lo hi el2 qq hg;cases hc;obtain⟨hN,C,fz,eN,hn,hdd,Ps⟩:=Xy h hg;have hf:=Ps rfl;subst hf;rcases hx.nf with⟨o,k,oC,ho,hl,BZ,jQ,iX,rfl⟩|⟨rfl,_,_,_⟩
     ·refine⟨.slice (some ⟨e.b i,o,none⟩) len k,w.freeze {block:=e.b i,off:=C.size} 1,e,?_,e.le_refl,?_,hx⟩
      ·have tK:w.shape? (e.b i)=some (el2,C.size):=by simp[World.shape?,eN]
       simp[convert,aL hs,aL hd,aL qq,hsd,markStringish,tK]
      ·refine h.put hg rfl (sD:=.cells C el2 (C.size,C.size+1)) ?_ ?_ ?_ ?_ rfl rfl rfl;·simp[World.freeze]
       ·simp only[World.freeze,Nat.one_ne_zero,if_false];rw[I2 _ _ _ eN];simp
       ·intro k hk;simp only[World.freeze,Nat.one_ne_zero,if_false];rw[HY _ _ _ _ (λq=>hk q.symm)]
       ·obtain⟨_,ob,ai3,eT,_⟩:=h.obj i _ hg;rw[eN] at ai3;cases ai3;cases eT with
        |cells _ _ _ _ _ C fz hn ka h0 h1 hd=>exact .cells _ _ _ _ _ _ _ hn ka zzy (λ_ k hk=>by simp;omega) hd
     ·omega
    ·cases hc
  ·rename_i el;cases hx;split at hc;·rename_i qq;cases hc;refine⟨.string .empty,w,e,by simp[convert,aL hs,aL hd,aL qq,Conv.bytesToString],e.le_refl,h,?_⟩;exact .str .empty
   ·cases hc
  ·rename_i el i off len a1 a2 a3;split at hc
   ·rename_i qq;cases hz:Nat.beq len 0 with
    |true=>
     rw[hz] at hc;cases hc;have:len=0:=abx hz;subst this;rcases hx.nf with⟨o,k,oC,ho,hl,BZ,jQ,iX,rfl⟩|⟨_,_,a,rfl⟩;·have:=Xi (P:=P) (a:=⟨e.b i,o,none⟩) (us:=[]) (cap:=k) w zzy;exact⟨_,w,e,by simp only[convert,Sem.run_bind,aL hs,aL hd,aL qq,Result.andThen_ok];exact this,e.le_refl,h,.str ⟨#[]⟩⟩
     ·have:=Xi (P:=P) (a:=a) (us:=[]) (cap:=0) w zzy;exact⟨_,w,e,by simp only[convert,Sem.run_bind,aL hs,aL hd,aL qq,Result.andThen_ok];exact this,e.le_refl,h,.str ⟨#[]⟩⟩
    |false=>
     rw[hz] at hc;simp only[cond_false,aba,aal,acC] at hc;obtain⟨cs,gG,bs,vF,rfl,rfl⟩:=hc;rcases hx.nf with⟨o,k,oC,ho,hl,BZ,jQ,iX,rfl⟩|⟨rfl,_,a,rfl⟩;·obtain⟨vs,h1,h2,h3⟩:=h.CI gG ho;obtain⟨us,rfl,rfl⟩:=ZE vF h1;rw[ab7] at h2;have:=Xi (P:=P) (a:=⟨e.b i,o,none⟩) (us:=us) (cap:=k) w (λj v hj=>by rw[add_lit];exact h3 j v hj);rw[h2] at this;refine⟨_,w,e,by simp only[convert,Sem.run_bind,aL hs,aL hd,aL qq,Result.andThen_ok];exact this,e.le_refl,h,?_⟩;rw[<-apk];exact .str _
     ·simp at hz
   ·cases hc
  ·rename_i t i o;cases hb:((cellAt H i o).isSome&&BX P t) with
   |false=>rw[hb] at hc;cases hc
   |true=>
    rw[hb] at hc;cases hc;rw[aaA] at hb;obtain⟨u,hu⟩:=ajZ.1 hb.1;obtain⟨n,hn⟩:∃n,sz P t=some (n+1):=by
     have:=hb.2;unfold BX at this;split at this;·rename_i n hn;exact⟨n,hn⟩
     ·cases this
    obtain⟨o',hi,ho,rfl⟩:=hx.vb;have aQ:=h.Zs hu ho;obtain⟨c,lo,jP,el,fl,hg,_,_,_⟩:=SD hu;obtain⟨hN,C,fz,eN,iX,_,_⟩:=Xy h hg;have tK:w.shape? (e.b i)=some (el,C.size):=by simp[World.shape?,eN]
    have uo:¬C.size<=o':=zzz;refine⟨_,w,e,?_,e.le_refl,h,hx⟩;simp[convert,aL hs,aL hd,Conv.unsafePointer,Conv.seenAt,viewAt,cellsIn,tK,iZ hn,uo]
  ·rename_i u i o;split at hc
   ·rename_i c lo hi el fl hg;cases hb:(Nat.beq el u&&Nat.beq lo 0&&Nat.beq o 0&&Nat.blt 0 (P.cellsOf u)&&(cellAt H i (P.cellsOf u-1)).isSome) with
    |false=>rw[hb] at hc;cases hc
    |true=>
     rw[hb] at hc;cases hc;simp only[aaA,aeI] at hb;obtain⟨⟨⟨⟨b1,b2⟩,b3⟩,b4⟩,b5⟩:=hb;have e1:el=u:=abx b1;have e2:lo=0:=abx b2;have e3:o=0:=abx b3;subst e1;subst e2;subst e3;obtain⟨q,hq⟩:=ajZ.1 b5;obtain⟨hN,C,fz,eN,iX,hdd,_⟩:=Xy h hg;obtain⟨o',hi,ho,rfl⟩:=hx.vb;have hd0:=hdd rfl;have ZZ:o'=0:=zzz;subst ZZ;have aQ:=h.Zs (o:=P.cellsOf el-1) hq zzz;have tK:w.shape? (e.b i)=some (el,C.size):=by simp[World.shape?,eN]
     have hl:=au6 (P:=P) (el:=el) (count:=C.size) b4 zzz;have arW:sz P el=some (P.cellsOf el):=by
      unfold sz;unfold Program.cellsOf at b4⊢;cases hi:P.info? el with
      |none=>simp[hi] at b4|some inf=>simp
     refine⟨_,w,e,?_,e.le_refl,h,hx⟩;simp[convert,aL hs,aL hd,Conv.unsafePointer,Conv.seenAt,viewAt,tK,iZ arW,variablesAt,hl]
   ·cases hc
  ·cases hc
 ·cases hc
end
end Go.Proofs.YtodfajmihkagnaaGreatDoor.Am
