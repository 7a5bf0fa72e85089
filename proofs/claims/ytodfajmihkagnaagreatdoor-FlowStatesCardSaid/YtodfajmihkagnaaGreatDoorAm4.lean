/- Laws that the proof uses. -/
import Derived.Test.YtodfajmihkagnaaGreatDoorAm3
set_option maxHeartbeats 2000000
set_option linter.unusedVariables false
set_option linter.unusedSimpArgs false
namespace Go.Proofs.YtodfajmihkagnaaGreatDoor.Am
section
section
section
section
section
variable {P:Program}{G:Nat}{F:Nat->Prop}{W:World}{e:Em}{H:Hp}{w:World}
theorem Lb {el s n:Nat}{z:List AV}(h:Ag P el s n=some z) :
  (n*s=0/\z=[])\/(¬ n*s=0/\z.length=n*s/\∃ inf z0,P.info? el=some inf/\inf.zero=some z0/\z0.cells.size=s/\bh e z ((Array.range (n*s)).map (z0.cells[· % z0.cells.size]!)).toList):=by
 unfold Ag at h
 cases hb:Nat.beq (n*s) 0 with
 | true=>
  rw[hb] at h
  cases h
  exact .inl ⟨abI hb,rfl⟩
 | false=>
  rw[hb] at h
  simp only[cond_false] at h
  have h0:¬ n*s=0:=fun q=>by rw[q] at hb;cases hb
  split at h
  ·rename_i z1 hz
   cases hl:Nat.beq z1.length s with
   | false=>rw[hl] at h;cases h
   | true=>
    rw[hl] at h
    cases h
    have rW:z1.length=s:=abI hl
    obtain⟨inf,z0,jd,fJ,zu⟩:=zd (e:=e) hz
    have eG:z0.cells.size=s:=by have:=zu.1;simp at this;omega
    have hr:bh e (rep n z1) ((Array.range (n*s)).map (z0.cells[· % z0.cells.size]!)).toList:=by
     have:=ad0 z0.cells n
     rw[eG] at this
     rw[eG,this]
     exact zu.rep n
    refine .inr ⟨h0,?_,inf,z0,jd,fJ,eG,hr⟩
    have:=hr.1
    simp at this
    omega
  ·cases h
theorem abY {pl:Nat->Option (Nat × Nat)}:∀ (ps:List (Nat × AV)) (cells out:List AV),vi pl cells ps=some out->out.length=cells.length
 | [],cells,out,h=>by cases h;rfl
 | (i,v)::ps,cells,out,h=>by
  unfold vi at h
  split at h
  ·cases h
  ·split at h
   ·cases h
   ·split at h
    ·rename_i hc
     rw[abY ps _ _ h]
     simp;omega
    ·cases h
theorem alO (h:RH G F W e H w){t len:Nat}{ps:List (Nat × AV)}{pQ:Array (Nat × Value)}{v:AV}{H':Hp}(hp:vL e ps pQ.toList)(hb:Ho P t len ps H=some (v,H')) :
  ∃ v' w' e',(Instr.buildSlice t len pQ).run P w = .ok v' w'/\e.le e'/\RH G F W e' H' w'/\VR e' v v':=by
 unfold Ho at hb
 split at hb
 ·rename_i el hu
  split at hb
  ·rename_i s hs
   cases hle:Nat.ble (len*s) 65536 with
   | false=>rw[hle] at hb;cases hb
   | true=>
   rw[hle] at hb
   simp only[cond_true] at hb
   rw[afV] at hle
   split at hb
   ·rename_i z hz
    split at hb
    ·rename_i cs fK
     simp only[aam,acv] at hb
     obtain⟨⟨i,H2⟩,hn,rfl,rfl⟩:=hb
     have hlen:=abY ps z cs fK
     have MS:¬ (len*s>2 ^ 24):=by omega
     rcases Lb (P:=P) (e:=e) hz with⟨h0,rfl⟩ | ⟨h0,YU,inf,z0,jd,fJ,eG,p9⟩
     ·obtain⟨mj,ho,hr⟩:=ML (e:=e) (Eg:=fun i=>some (i*s,s)) (fun i x hx=>hx) ps pQ.toList [] cs #[] hp (.nil e) fK
      obtain⟨e',he,g1,g2,g3,g4,pK⟩:=h.newRow (rest:=[]) (fz:=(0,0)) hn hr (fun _=>rfl) (by simp)
      refine⟨.slice (some ⟨w.heap.size,0,none⟩) len len,_,e',?_,he,pK,VR.B3 g2 g1 (by rw[g3];simp) (aaU _) (aaU _) (fun _=>rfl) ?_⟩
      ·simp only[Instr.buildSlice,Sem.run_bind,aI hu,Result.andThen_ok,hZ hs,if_neg MS]
       rw[if_pos h0]
       have Ce:Array.range 0 = #[]:=rfl
       simp[h0,Ce,ho,newRow]
      ·rw[g4];simp[h0]
     ·obtain⟨mj,ho,hr⟩:=ML (e:=e) (Eg:=fun i=>some (i*s,s)) (fun i x hx=>hx) ps pQ.toList z cs _ hp p9 fK
      obtain⟨e',he,g1,g2,g3,g4,pK⟩:=h.newRow (rest:=[]) (fz:=(0,0)) hn hr (fun _=>rfl) (by simp)
      refine⟨.slice (some ⟨w.heap.size,0,none⟩) len len,_,e',?_,he,pK,VR.B3 g2 g1 (by rw[g3];simp) (aaU _) (aaU _) (fun _=>rfl) ?_⟩
      ·simp only[Instr.buildSlice,Sem.run_bind,aI hu,Result.andThen_ok,hZ hs,if_neg MS]
       rw[if_neg h0]
       simp[rQ jd fJ,newRow] at ho ⊢
       simp[ho]
      ·rw[g4]
       have:=hr.1
       simp at this ⊢
       omega
    ·cases hb
   ·cases hb
  ·cases hb
 ·cases hb
theorem run_makeSlice {t:Nat}{k1 k2:IntKind}{n m:Int}{H H':Hp}{v:AV}(hb:wY P t (.int k1 n) (.int k2 m) H=some (v,H'))(w:World) :
  ∃ el s z row,P.underlying t=some (.slice el)/\sz P el=some s/\Ag P el s m.toNat=some z/\(∀ e:Em,bh e z row)/\n.toNat<=m.toNat/\row.length=m.toNat*s/\
   (Instr.makeSlice t (.int k1 n) (.int k2 m)).run P w = .ok (.slice (some ⟨w.heap.size,0,none⟩) n.toNat m.toNat) { w with heap:=w.heap.push (.cells row.toArray el (0,0)) }:=by
 unfold wY at hb
 split at hb
 ·rename_i el k1' n' FX m' hu q1 q2
  cases q1;cases q2
  split at hb
  ·rename_i s hs
   split at hb
   ·rename_i tv
    obtain⟨h1,h2,h3,h4⟩:=tv
    split at hb
    ·rename_i z hz
     obtain⟨inf,jd⟩:∃ inf,P.info? el=some inf:=by
      unfold sz at hs
      cases hq:P.info? el with
      | none=>simp[hq] at hs
      | some inf=>exact⟨inf,rfl⟩
     have RN:inf.bytes<=4096:=by unfold Program.bytesOf at h4;rw[jd] at h4;simpa using h4
     have w1:IntKind.i64.wrap n=n:=IntWalk.i64_in _ (by omega)
     have w2:IntKind.i64.wrap m=m:=IntWalk.i64_in _ (by omega)
     have Cb:¬ ((inf.bytes:Int)*m>2 ^ 48):=by
      have:(inf.bytes:Int)*m<=4096*1048576:=Int.mul_le_mul (by omega) (by omega) (by omega) (by omega)
      omega
     have c1:(decide (m<0)||decide ((inf.bytes:Int)*m>2 ^ 48))=false:=by simp;omega
     have CH:¬ (((decide (m<0)||decide ((inf.bytes:Int)*m>2 ^ 48))||decide (n<0)||decide (n>m))=true):=by
      rw[c1];simp;omega
     rcases Lb (P:=P) (e:=⟨id,fun _=>0,id,0⟩) hz with⟨h0,rfl⟩ | ⟨h0,YU,WI,z0,BW,fJ,eG,p9⟩
     ·refine⟨el,s,[],[],hu,hs,hz,fun e => .nil e,by omega,by simp[h0],?_⟩
      simp only[Instr.makeSlice,Sem.run_bind,aI hu,Result.andThen_ok,asInt,asIntOf,Sem.run_pure,qt jd,w1,w2,if_neg CH,run_askRoom,hZ hs]
      rw[if_pos h0]
      have Ce:Array.range 0 = #[]:=rfl
      simp[h0,Ce,newRow]
     ·refine⟨el,s,z,((Array.range (m.toNat*s)).map (z0.cells[· % z0.cells.size]!)).toList,hu,hs,hz,fun e => ?_,by omega,?_,?_⟩
      rotate_left 2
      ·simp only[Instr.makeSlice,Sem.run_bind,aI hu,Result.andThen_ok,asInt,asIntOf,Sem.run_pure,qt jd,w1,w2,if_neg CH,run_askRoom,hZ hs]
       rw[if_neg h0]
       simp[rQ BW fJ,newRow]
       congr 2
       apply aeU.1
       simp
      ·rcases Lb (P:=P) (e:=e) hz with⟨q,_⟩ | ⟨_,_,ayd,z3,abx,hz3,_,ahB⟩
       ·exact absurd q h0
       ·rw[BW] at abx;cases abx
        rw[fJ] at hz3;cases hz3
        exact ahB
      ·simp
    ·cases hb
   ·cases hb
  ·cases hb
 ·cases hb
theorem auV (h:RH G F W e H w){t:Nat}{l c v:AV}{l' c':Value}{H':Hp}(hl:VR e l l')(hc:VR e c c')(hb:wY P t l c H=some (v,H')) :
  ∃ v' w' e',(Instr.makeSlice t l' c').run P w = .ok v' w'/\e.le e'/\RH G F W e' H' w'/\VR e' v v':=by
 unfold wY at hb
 split at hb
 ·rename_i el k1 n k2 m hu
  cases hl.fZ;cases hc.fZ
  split at hb
  ·rename_i s hs
   split at hb
   ·rename_i tv
    obtain⟨h1,h2,h3,h4⟩:=tv
    split at hb
    ·rename_i z hz
     simp only[aam,acv] at hb
     obtain⟨⟨i,H2⟩,hn,rfl,rfl⟩:=hb
     obtain⟨inf,jd⟩:∃ inf,P.info? el=some inf:=by
      unfold sz at hs
      cases hq:P.info? el with
      | none=>simp[hq] at hs
      | some inf=>exact⟨inf,rfl⟩
     have RN:inf.bytes<=4096:=by unfold Program.bytesOf at h4;rw[jd] at h4;simpa using h4
     have w1:IntKind.i64.wrap n=n:=IntWalk.i64_in _ (by omega)
     have w2:IntKind.i64.wrap m=m:=IntWalk.i64_in _ (by omega)
     have Cb:¬ ((inf.bytes:Int)*m>2 ^ 48):=by
      have:(inf.bytes:Int)*m<=4096*1048576:=Int.mul_le_mul (by omega) (by omega) (by omega) (by omega)
      omega
     have c1:(decide (m<0)||decide ((inf.bytes:Int)*m>2 ^ 48))=false:=by simp;omega
     have MS:¬ ((decide (m<0)||decide ((inf.bytes:Int)*m>2 ^ 48))=true\/n<0\/n>m):=by
      rw[c1];simp;omega
     have CH:¬ (((decide (m<0)||decide ((inf.bytes:Int)*m>2 ^ 48))||decide (n<0)||decide (n>m))=true):=by
      rw[c1];simp;omega
     rcases Lb (P:=P) (e:=e) hz with⟨h0,rfl⟩ | ⟨h0,YU,WI,z0,BW,fJ,eG,p9⟩
     ·obtain⟨e',he,g1,g2,g3,g4,pK⟩:=h.newRow (rest:=[]) (fz:=(0,0)) hn (.nil e) (fun _=>rfl) (by simp)
      refine⟨.slice (some ⟨w.heap.size,0,none⟩) n.toNat m.toNat,_,e',?_,he,pK,VR.B3 g2 g1 (by rw[g3];simp) (by omega) (aaU _) (fun _=>rfl) (by rw[g4];simp[h0])⟩
      simp only[Instr.makeSlice,Sem.run_bind,aI hu,Result.andThen_ok,asInt,asIntOf,Sem.run_pure,qt jd,w1,w2,if_neg CH,run_askRoom,hZ hs]
      rw[if_pos h0]
      have Ce:Array.range 0 = #[]:=rfl
      simp[h0,Ce,newRow]
     ·obtain⟨e',he,g1,g2,g3,g4,pK⟩:=h.newRow (rest:=[]) (fz:=(0,0)) hn p9 (fun _=>rfl) (by simp)
      refine⟨.slice (some ⟨w.heap.size,0,none⟩) n.toNat m.toNat,_,e',?_,he,pK,VR.B3 g2 g1 (by rw[g3];simp) (by omega) (aaU _) (fun _=>rfl) (by rw[g4];simp)⟩
      simp only[Instr.makeSlice,Sem.run_bind,aI hu,Result.andThen_ok,asInt,asIntOf,Sem.run_pure,qt jd,w1,w2,if_neg CH,run_askRoom,hZ hs]
      rw[if_neg h0]
      simp[rQ BW fJ,newRow]
      congr 2
      apply aeU.1
      simp
    ·cases hb
   ·cases hb
  ·cases hb
 ·cases hb
theorem RH.new (h:RH G F W e H w){o:AO}{i:Nat}{H':Hp}(ha:Am.alloc H o=some (i,H')){ob:Obj}(eB:∀ e',e.le e'->e'.d i=0->OR e' i o ob) :
  ∃ e',e.le e'/\i<e'.N/\e'.b i=w.heap.size/\e'.d i=0/\RH G F W e' H' { w with heap:=w.heap.push ob }:=by
 have zU:i=e.N:=(xH ha).1.trans h.N.symm
 obtain⟨hi,hr⟩:=h.alloc (d:=0) (n:=0) ha (eB _ (Em.qj ..) (by rw[zU];exact Em.oc ..))
 subst hi
 exact⟨_,Em.qj ..,by simp[Em.ext],Em.n0 ..,Em.oc ..,hr⟩
theorem VR.aba {e:Em}{b i:Nat}(hb:e.b i=b)(hi:i<e.N)(hd:e.d i=0):VR e (.ptr i 0) (.pointer (some ⟨b,0,none⟩)):=by
 subst hb;exact .ptr i 0 0 hi (by rw[hd];simp)
theorem VR.BE {e:Em}{b i:Nat}(hb:e.b i=b)(hi:i<e.N):VR e (.map i) (.map (some b)):=by subst hb;exact .map i hi
theorem ajP (h:RH G F W e H w){t:Nat}{i:Nat}{H':Hp}(ha:Am.alloc H (.map [] 0)=some (i,H')) :
  ∃ v' w' e',(Instr.makeMap t none).run P w = .ok v' w'/\e.le e'/\RH G F W e' H' w'/\VR e' (.map i) v':=by
 obtain⟨e',he,g1,g2,g3,hr⟩:=h.new (ob := .map #[] 0) ha (fun e' _ _ => .map _ _ _ _ [] (List.Perm.refl _) ⟨rfl,by simp⟩ (by simp) (by simp))
 exact⟨.map (some w.heap.size),_,e',by simp[Instr.makeMap],he,hr,.BE g2 g1⟩
theorem arP (h:RH G F W e H w){t:Nat}{x v:AV}{x':Value}{H':Hp}(hx:VR e x x')(hb:zH P t x H=some (v,H')) :
  ∃ v' w' e',(Instr.range t x').run P w = .ok v' w'/\e.le e'/\RH G F W e' H' w'/\VR e' v v':=by
 unfold zH at hb
 split at hb
 ·rename_i s hu
  obtain⟨b,rfl,rfl⟩:=hx.mO
  simp only[aam,acv] at hb
  obtain⟨⟨i,H2⟩,hn,rfl,rfl⟩:=hb
  obtain⟨e',he,g1,g2,g3,hr⟩:=h.new (ob := .stringIter b 0) hn (fun e' _ hd => .tW _ _ _ rfl hd)
  exact⟨.pointer (some ⟨w.heap.size,0,none⟩),_,e',by simp[Instr.range,aI hu],he,hr,.aba g2 g1 g3⟩
 ·cases hb
theorem ag9 {s:ByteArray}{pos b:Nat}{r:List Nat}(h:(bytes s).drop pos=b::r)(hb:b<128):pos<s.size/\Utf8.decode s pos=(b,1):=by
 have hlen:((bytes s).drop pos).length=s.size-pos:=by rw[ahT,xp]
 rw[h] at hlen
 simp at hlen
 have ba:pos<s.size:=by omega
 refine⟨ba,?_⟩
 have h0:(bytes s)[pos]? = some b:=by
  have:=ahj (xs:=bytes s) (i:=pos) (j:=0)
  rw[h] at this
  simpa using this.symm
 simp only[bytes,aeI,aam] at h0
 obtain⟨u,hu,rfl⟩:=h0
 have ff:s.get! pos=u:=by
  cases s with
  | mk d=>
   have hd:pos<d.size:=ba
   have:=(aaw.1 hu).2
   simp only[ByteArray.get!]
   rw[getElem!_pos d pos hd,<-this]
   simp
 unfold Utf8.decode
 simp only[afF,ff]
 rw[if_pos hb]
theorem asH {b:Nat}{o ob:Obj}(hb:w.heap[b]? = some ob)(hn:∀ c el fz,ob ≠ .cells c el fz):(Go.setObj b o).run P w = .ok () { w with heap:=w.heap.setIfInBounds b o }:=by
 cases ob<;>first | (exact absurd rfl (hn _ _ _)) | (simp[Go.setObj,Sem.run,hb])
theorem anM {b:Nat}{ob:Obj}(hb:w.heap[b]? = some ob)(hn:∀ c el fz,ob ≠ .cells c el fz):(Go.getObj b).run P w = .ok ob w:=by
 cases ob<;>first | (exact absurd rfl (hn _ _ _)) | (simp[Go.getObj,Sem.run,hb])
theorem RH.aj6 (h:RH G F W e H w){i:Nat}{o o2:AO}(hg:H.h.get i=some o)(hw:wr o=true){ob qA:Obj}(hb:w.heap[e.b i]? = some ob)(eB:OR e i o2 qA) :
  RH G F W e (Am.setObj H i o2) { w with heap:=w.heap.setIfInBounds (e.b i) qA }:=by
 have ba:=(adt.1 hb).1
 refine h.put hg hw (qJ:=qA) (by simp) (by simp[ba]) (fun k hk => ?_) eB rfl rfl rfl
 simp only
 rw[ag2 (fun q=>hk q.symm)]
theorem VR.alq {a b c:AV}{a' b' c':Value}(ha:VR e a a')(hb:VR e b b')(hc:VR e c c'):VR e (.tuple [a,b,c]) (.tuple #[a',b',c']):=
 .tuple' (.cons ha (.cons hb (.cons hc (.nil e))))
theorem akR (h:RH G F W e H w){t:Nat}{it v:AV}{JI:Value}{rP:Bool}{H':Hp}(hx:VR e it JI)(hb:ye it rP H=some (v,H')) :
  ∃ v' w',(Instr.next JI rP t).run P w = .ok v' w'/\RH G F W e H' w'/\VR e v v':=by
 unfold ye at hb
 split at hb
 ·rename_i i
  obtain⟨o,hi,ho,rfl⟩:=hx.um
  split at hb
  ·rename_i s pos hg
   obtain⟨_,ob,ei,eB,hF⟩:=h.obj i _ hg
   cases eB with
   | tW _ _ s' hs hd=>
   have Us:o=0:=by omega
   subst Us
   have ff:(Go.getObj (e.b i)).run P w = .ok (.stringIter s' pos) w:=anM ei (by simp)
   split at hb
   ·rename_i AQ
    cases hb
    have hlen:=congrArg List.length AQ
    rw[ahT,<-hs,xp] at hlen
    have sI:¬ pos<s'.size:=by simp at hlen;omega
    exact⟨_,w,by simp[Instr.next,ff,sI],h,.tuple' (.cons (.bool false) (.nil e))⟩
   ·rename_i b r AQ
    cases ba:Nat.blt b 128 with
    | false=>rw[ba] at hb;cases hb
    | true=>
     rw[ba] at hb
     cases hb
     rw[ae2] at ba
     rw[<-hs] at AQ
     obtain⟨G2,arv⟩:=ag9 AQ ba
     refine⟨_,{ w with heap:=w.heap.setIfInBounds (e.b i) (.stringIter s' (pos+1)) },?_,h.aj6 hg rfl ei (.tW _ _ _ hs hd),VR.alq (.bool true) (.int _ _) (.int _ _)⟩
     have e9:(Go.setObj (e.b i) (.stringIter s' (pos+1))).run P w = .ok () { w with heap:=w.heap.setIfInBounds (e.b i) (.stringIter s' (pos+1)) }:=asH ei (by simp)
     simp only[Instr.next,Sem.run_bind,ff,Result.andThen_ok,G2,if_true,arv,e9]
     rfl
  ·cases hb
 ·cases hb
theorem ag7 (h:RH G F W e H w){it v:AV}{JI:Value}(hx:VR e it JI)(hb:Om it H=some v) :
  ∃ v',(Instr.entry JI).run P w = .ok v' w/\VR e v v':=by
 unfold Om at hb
 cases hb
theorem auH {wH t:TypeId}{x v:AV}{x':Value}{ok:Bool}(hx:VR e x x')(hb:GS P wH x ok=some v)(w:World) :
  ∃ v',(Instr.typeAssert x' t wH ok).run P w = .ok v' w/\VR e v v':=by
 unfold GS at hb
 split at hb
 ·cases hb
 ·rename_i d t2 u aH hu
  cases hx with
  | iface _ _ u' hr=>
  split at hb
  ·rename_i ht
   subst ht
   have hd:∀ ms,d ≠ .interface ms:=fun ms q=>aH ms q
   cases ok with
   | true=>
    cases hb
    refine⟨.tuple #[u',.bool true],?_,hr.pair (.bool true)⟩
    cases d<;>first | (exact absurd rfl (hd _)) | simp[Instr.typeAssert,aI hu]
   | false=>
    cases hb
    refine⟨u',?_,hr⟩
    cases d<;>first | (exact absurd rfl (hd _)) | simp[Instr.typeAssert,aI hu]
  ·cases hb
 ·cases hb
end
end
section
variable {P:Program}{G:Nat}{F:Nat->Prop}{W:World}{e:Em}{H:Hp}{w:World}
theorem arI {t:TypeId}{ps:List (Nat × AV)}{pQ:Array (Nat × Value)}{v:AV}(hp:vL e ps pQ.toList)(hb:J2 P t ps=some v)(w:World) :
  ∃ v',(Instr.build t pQ).run P w = .ok v' w/\VR e v v':=by
 unfold J2 at hb
 split at hb
 ·rename_i z fs hz hu
  split at hb
  ·rename_i pl jy
   simp only[aam] at hb
   obtain⟨out,hf,rfl⟩:=hb
   exact aph hz hu jy hp hf w
  ·cases hb
 ·rename_i z n el hz hu
  split at hb
  ·rename_i s hs
   simp only[aam] at hb
   obtain⟨out,hf,rfl⟩:=hb
   exact af8 hz hu hs hp hf w
  ·cases hb
 ·cases hb
theorem bh.Gq {ρ:Operand->AV}{σ:Operand->Value}(h:∀ x,VR e (ρ x) (σ x))(l:Array Operand):bh e (l.toList.map ρ) (l.map σ).toList:=by
 rw[Array.toList_map];exact bh.map h _
theorem apK (h:RH G F W e H w){b:Builtin}{cB:Array TypeId}{ty:TypeId}{cs:Array Bool}{args:List AV}{Gd:Array Value}{v:AV}{H':Hp}(ha:bh e args Gd.toList)(hb:gS P b cB args H=some (v,H')) :
  et P G F W e v H' ((builtin b cB ty cs Gd).run P w):=by
 have two:∀ {s x:AV},bh e [s,x] Gd.toList->∃ s' x',Gd = #[s',x']/\VR e s s'/\VR e x x':=by
  intro s x h2
  obtain⟨s',r,h1,hs,hr⟩:=h2.cons_inv
  obtain⟨x',r',rfl,hx,ea⟩:=hr.cons_inv
  rw[ea.kX] at h1
  exact⟨s',x',aeU.1 h1,hs,hx⟩
 have one:∀ {s:AV},bh e [s] Gd.toList->∃ s',Gd = #[s']/\VR e s s':=by
  intro s h2
  obtain⟨s',r,h1,hs,hr⟩:=h2.cons_inv
  rw[hr.kX] at h1
  exact⟨s',aeU.1 h1,hs⟩
 unfold gS at hb
 split at hb
 ·obtain⟨s',x',rfl,hs,hx⟩:=two ha
  obtain⟨v',w',e',h1,h2,h3,h4⟩:=akg (P:=P) (ty:=ty) h hs hx hb
  exact et.val h1 h2 h3 h4
 ·obtain⟨s',x',rfl,hs,hx⟩:=two ha
  obtain⟨v',w',h1,h3,h4⟩:=awq (P:=P) (ty:=ty) h hs hx hb
  exact et.val h1 e.le_refl h3 h4
 ·obtain⟨s',x',rfl,hs,hx⟩:=two ha
  simp only[aam,acv] at hb
  obtain⟨H2,hd,rfl,rfl⟩:=hb
  obtain⟨w',h1,h3⟩:=arw (P:=P) (ty:=ty) h hs hx hd
  exact et.val h1 e.le_refl h3 .undef
 ·obtain⟨s',rfl,hs⟩:=one ha
  simp only[aam,acv] at hb
  obtain⟨H2,hd,rfl,rfl⟩:=hb
  obtain⟨w',h1,h3⟩:=auG (P:=P) (ty:=ty) h hs hd
  exact et.val h1 e.le_refl h3 .undef
 ·obtain⟨s',rfl,hs⟩:=one ha
  simp only[aam,acv] at hb
  obtain⟨v2,hd,rfl,rfl⟩:=hb
  obtain⟨v',h1,h3⟩:=ahs (P:=P) (ty:=ty) h hs hd
  exact et.pure h h1 h3
 ·obtain⟨s',rfl,hs⟩:=one ha
  simp only[aam,acv] at hb
  obtain⟨v2,hd,rfl,rfl⟩:=hb
  obtain⟨v',h1,h3⟩:=agj (P:=P) (ty:=ty) hs hd w
  exact et.pure h h1 h3
 ·rename_i x r
  simp only[aam,acv] at hb
  obtain⟨v2,hd,rfl,rfl⟩:=hb
  obtain⟨x',r',mw,hx,hr⟩:=ha.cons_inv
  obtain⟨v',h1,h3⟩:=adB (P:=P) (w:=w) hx hr hd
  refine et.pure h (v':=v') ?_ h3
  unfold Builtin.min_
  rw[mw]
  exact h1
 ·rename_i x r
  simp only[aam,acv] at hb
  obtain⟨v2,hd,rfl,rfl⟩:=hb
  obtain⟨x',r',mw,hx,hr⟩:=ha.cons_inv
  obtain⟨v',h1,h3⟩:=afu (P:=P) (w:=w) hx hr hd
  refine et.pure h (v':=v') ?_ h3
  unfold Builtin.max_
  rw[mw]
  exact h1
 ·obtain⟨s',rfl,hs⟩:=one ha
  cases hs;cases hb
  exact et.pure h (Go.Lib.run_unsafeSliceData_nil (P:=P) w cB ty 0 0) .dR
 ·rename_i i off l c a1 a2
  obtain⟨s',rfl,hs⟩:=one ha
  cases hl:Nat.blt 0 l with
  | false=>rw[hl] at hb;cases hb
  | true=>
   rw[hl] at hb
   cases hb
   rw[ae2] at hl
   rcases hs.mC with⟨o,cc,hi,ho,lW,hc,je,hn,rfl⟩ | ⟨rfl,_,a,rfl⟩
   ·exact et.pure h (Go.Lib.run_unsafeSliceData_row (P:=P) w cB ty ⟨e.b i,o,none⟩ l cc (by omega)) (.ptr _ _ _ hi ho)
   ·omega
 ·rename_i p k n
  obtain⟨p',k',rfl,hp,hk⟩:=two ha
  cases hk.fZ
  obtain⟨v',w',h1,h3,h4⟩:=akk (P:=P) (ty:=ty) h hp hb
  exact et.val h1 e.le_refl h3 h4
 ·cases hb
theorem atn {x v:AV}{x':Value}(hx:VR e x x')(hb:aT x=some v) :
  v=x/\((∃ a,x' = .pointer (some a))\/(∃ f a b,x' = .func (.func f) a b)\/∃ t u,x' = .iface t u):=by
 unfold aT at hb
 split at hb
 ·cases hb
  obtain⟨o,_,_,rfl⟩:=hx.um
  exact⟨rfl,.inl ⟨_,rfl⟩⟩
 ·cases hb;cases hx;exact⟨rfl,.inr (.inl ⟨_,_,_,rfl⟩)⟩
 ·cases hb;cases hx;exact⟨rfl,.inr (.inr ⟨_,_,rfl⟩)⟩
 ·cases hb
end
theorem wA.map {e:Em}{ρ:Operand->AV}{σ:Operand->Value}(h:∀ x,VR e (ρ x) (σ x)):∀ o:Option Operand,wA e (o.map ρ) (o.map σ)
 | none=>trivial
 | some x=>h x
theorem vL.Gq {e:Em}{ρ:Operand->AV}{σ:Operand->Value}(h:∀ x,VR e (ρ x) (σ x))(l:Array (Nat × Operand)) :
  vL e (l.toList.map fun (i,x)=>(i,ρ x)) (l.map fun (i,x)=>(i,σ x)).toList:=by
 rw[Array.toList_map];exact vL.map h _
theorem asS {P:Program}{G:Nat}{F:Nat->Prop}{W:World}{e:Em}{H:Hp}{w:World}(h:RH G F W e H w){ρ:Operand->AV}{σ:Operand->Value}(hρ:∀ x,VR e (ρ x) (σ x)){o:Oper}{v:AV}{H':Hp}(ha:iV P ρ o H=some (v,H')) :
  et P G F W e v H' ((execOp σ o).run P w):=by
 unfold iV at ha
 unfold execOp
 split at ha
 ·rename_i x aY
  cases ha
  rw[aY]
  exact⟨.value (σ x),w,e,σ x,rfl,.inl rfl,e.le_refl,h,hρ x⟩
 ·rename_i x aY
  cases ha
  rw[aY]
  exact⟨.value (σ x),w,e,σ x,rfl,.inl rfl,e.le_refl,h,hρ x⟩
 ·rename_i c a b aY
  rw[aY]
  split at ha
  ·rename_i t ht
   cases ha
   have hc:=hρ c
   rw[ht] at hc
   have WU:=hc.xj
   cases t with
   | true=>exact⟨.value (σ a),w,e,σ a,by simp[WU,asBool],.inl rfl,e.le_refl,h,hρ a⟩
   | false=>exact⟨.value (σ b),w,e,σ b,by simp[WU,asBool],.inl rfl,e.le_refl,h,hρ b⟩
  ·cases ha
 ·rename_i t aY
  rw[aY]
  split at ha
  ·rename_i l hl
   simp only[aam,acv] at ha
   obtain⟨⟨i,H2⟩,hn,rfl,rfl⟩:=ha
   obtain⟨v',w',e',h1,h2,h3,h4⟩:=aqO (P:=P) h hl hn
   exact et.val h1 h2 h3 h4
  ·cases ha
 ·rename_i t x aY
  rw[aY]
  split at ha
  ·rename_i l hl
   simp only[aam,acv] at ha
   obtain⟨⟨i,H2⟩,hn,rfl,rfl⟩:=ha
   obtain⟨v',w',e',h1,h2,h3,h4⟩:=ali (P:=P) h (hρ x) hl hn
   exact et.val h1 h2 h3 h4
  ·cases ha
 ·rename_i t parts aY
  rw[aY]
  simp only[aam,acv] at ha
  obtain⟨v2,hb,rfl,rfl⟩:=ha
  obtain⟨v',h1,h2⟩:=arI (vL.Gq hρ parts) hb w
  exact et.pure h h1 h2
 ·rename_i t len parts aY
  rw[aY]
  obtain⟨v',w',e',h1,h2,h3,h4⟩:=alO (P:=P) h (vL.Gq hρ parts) ha
  exact et.val h1 h2 h3 h4
 ·rename_i t m k x aY
  rw[aY]
  simp only[aam,acv] at ha
  obtain⟨H2,hb,rfl,rfl⟩:=ha
  obtain⟨w',h1,h3⟩:=afh (P:=P) h (hρ m) (hρ k) (hρ x) hb
  exact et.unit h1 e.le_refl h3
 ·rename_i t m k x aY
  rw[aY]
  simp only[aam,acv] at ha
  obtain⟨H2,hb,rfl,rfl⟩:=ha
  obtain⟨w',h1,h3⟩:=afh (P:=P) h (hρ m) (hρ k) (hρ x) hb
  exact et.unit h1 e.le_refl h3
 ·rename_i t a aY
  rw[aY]
  simp only[aam,acv] at ha
  obtain⟨v2,hb,rfl,rfl⟩:=ha
  obtain⟨v',h1,h2⟩:=Xl h (hρ a) hb
  exact et.pure h h1 h2
 ·rename_i t a x aY
  rw[aY]
  simp only[aam,acv] at ha
  obtain⟨H2,hb,rfl,rfl⟩:=ha
  obtain⟨w',h1,h3⟩:=ajI (P:=P) h (hρ a) (hρ x) hb
  exact et.unit h1 e.le_refl h3
 ·rename_i x aY
  rw[aY]
  simp only[aam,acv] at ha
  obtain⟨v2,hb,rfl,rfl⟩:=ha
  obtain⟨rfl,h1⟩:=atn (hρ x) hb
  refine⟨.value (σ x),w,e,σ x,?_,.inl rfl,e.le_refl,h,hρ x⟩
  rcases h1 with⟨a,q⟩ | ⟨f,a,b,q⟩ | ⟨t,u,q⟩<;>(simp only[q];rfl)
 ·rename_i op t x y ty aY
  rw[aY]
  cases hg:uf P op t x y (ρ x) (ρ y) with
  | false=>rw[hg] at ha;cases ha
  | true=>
   rw[hg] at ha
   simp only[cond_true,aam,acv] at ha
   obtain⟨v2,hb,rfl,rfl⟩:=ha
   obtain⟨v',h1,h2⟩:=awL h (hρ x) (hρ y) hb
   have h0:=ahR (w:=w) (hρ x) (hρ y) hg hb
   refine et.pure h (v':=v') ?_ h2
   rw[Sem.run_bind,h0]
   exact h1
 ·rename_i op t x aY
  rw[aY]
  simp only[aam,acv] at ha
  obtain⟨v2,hb,rfl,rfl⟩:=ha
  obtain⟨v',h1,h2⟩:=ajZ (P:=P) (hρ x) hb w
  exact et.pure h h1 h2
 ·rename_i a b x aY
  rw[aY]
  obtain⟨v',w',e',h1,h2,h3,h4⟩:=avr (P:=P) h (hρ x) ha
  exact et.val h1 h2 h3 h4
 ·rename_i t x aY
  rw[aY]
  simp only[aam,acv] at ha
  obtain⟨v2,hb,rfl,rfl⟩:=ha
  unfold Oa at hb
  split at hb
  ·cases hb
  ·rename_i d aH hu
   cases hb
   have hd:∀ ms,d ≠ .interface ms:=fun ms q=>aH ms q
   refine et.pure h (v' := .iface t (σ x)) ?_ (.iface _ _ _ (hρ x))
   cases d<;>first | (exact absurd rfl (hd _)) | simp[Instr.makeInterface,aI hu]
  ·cases hb
 ·rename_i fn a b aY
  rw[aY]
  simp only[aam,acv] at ha
  obtain⟨v2,hb,rfl,rfl⟩:=ha
  have h1:=bh.Gq hρ a
  have h2:=bh.Gq hρ b
  unfold Mg at hb
  split at hb
  ·cases hb
  ·rename_i aH
   cases hb
   exact et.pure h (v' := .func fn (a.map σ) (b.map σ)) (by simp[Instr.makeFunc]) (.func fn aH _ _ _ _ h1.1 h2.1 h1.2 h2.2)
 ·rename_i t aY
  rw[aY]
  simp only[aam,acv] at ha
  obtain⟨⟨i,H2⟩,hn,rfl,rfl⟩:=ha
  obtain⟨v',w',e',h1,h2,h3,h4⟩:=ajP (P:=P) (t:=t) h hn
  exact et.val h1 h2 h3 h4
 ·rename_i t l c aY
  rw[aY]
  obtain⟨v',w',e',h1,h2,h3,h4⟩:=auV (P:=P) h (hρ l) (hρ c) ha
  exact et.val h1 h2 h3 h4
 ·rename_i t x lo hi mx aY
  rw[aY]
  simp only[aam,acv] at ha
  obtain⟨v2,hb,rfl,rfl⟩:=ha
  obtain⟨v',h1,h2⟩:=ata h (hρ x) (wA.map hρ lo) (wA.map hρ hi) (wA.map hρ mx) hb
  exact et.pure h h1 h2
 ·rename_i t x f aY
  rw[aY]
  simp only[aam,acv] at ha
  obtain⟨v2,hb,rfl,rfl⟩:=ha
  unfold NN at hb
  split at hb
  ·rename_i fs i off hu hx
   split at hb
   ·rename_i fd Iz
    cases hp:y9 P fd.type with
    | false=>rw[hp] at hb;cases hb
    | true=>
     rw[hp] at hb
     cases hb
     obtain⟨n,hn⟩:∃ n,sz P fd.type=some (n+1):=by
      unfold y9 at hp
      split at hp
      ·rename_i n hn;exact⟨n,hn⟩
      ·cases hp
     have oM:=hρ x
     rw[hx] at oM
     obtain⟨v',h1,h2⟩:=auj oM hu Iz hn (by omega) w
     exact et.pure h h1 h2
   ·cases hb
  ·cases hb
 ·rename_i t x f aY
  rw[aY]
  simp only[aam,acv] at ha
  obtain⟨v2,hb,rfl,rfl⟩:=ha
  unfold GM at hb
  split at hb
  ·rename_i fs cs hu hx
   split at hb
   ·rename_i fd Iz
    obtain⟨v',h1,h2⟩:=ag4 (hρ x) hu Iz hx hb w
    exact et.pure h h1 h2
   ·cases hb
  ·cases hb
 ·rename_i t x ix aY
  rw[aY]
  simp only[aam,acv] at ha
  obtain⟨v2,hb,rfl,rfl⟩:=ha
  obtain⟨v',h1,h2⟩:=avv (hρ x) (hρ ix) hb w
  exact et.pure h h1 h2
 ·rename_i t x ix aY
  rw[aY]
  simp only[aam,acv] at ha
  obtain⟨v2,hb,rfl,rfl⟩:=ha
  obtain⟨v',h1,h2⟩:=arG (hρ x) (hρ ix) hb w
  exact et.pure h h1 h2
 ·rename_i t x k ok aY
  rw[aY]
  simp only[aam,acv] at ha
  obtain⟨v2,hb,rfl,rfl⟩:=ha
  obtain⟨v',h1,h2⟩:=aoh h (hρ x) (hρ k) hb
  exact et.pure h h1 h2
 ·rename_i t x aY
  rw[aY]
  obtain⟨v',w',e',h1,h2,h3,h4⟩:=arP (P:=P) h (hρ x) ha
  exact et.val h1 h2 h3 h4
 ·rename_i it rP aY
  rw[aY]
  obtain⟨v',w',h1,h3,h4⟩:=akR (P:=P) (t:=o.type) h (hρ it) ha
  exact et.val h1 e.le_refl h3 h4
 ·rename_i it aY
  rw[aY]
  simp only[aam,acv] at ha
  obtain⟨v2,hb,rfl,rfl⟩:=ha
  obtain⟨v',h1,h2⟩:=ag7 (P:=P) h (hρ it) hb
  exact et.pure h h1 h2
 ·rename_i t ix aY
  rw[aY]
  split at ha
  ·rename_i l hl
   simp only[aam,acv] at ha
   obtain⟨v2,hb,rfl,rfl⟩:=ha
   have ht:=hρ t
   rw[hl] at ht
   obtain⟨vs,tf,hr⟩:=ht.W9
   obtain⟨v',cw,iL⟩:=hr.get hb
   rw[afj] at cw
   exact et.pure h (v':=v') (by rw[tf];simp[Instr.extract,cw]) iL
  ·cases ha
 ·rename_i x t wH ok aY
  rw[aY]
  simp only[aam,acv] at ha
  obtain⟨v2,hb,rfl,rfl⟩:=ha
  obtain⟨v',h1,h2⟩:=auH (P:=P) (t:=t) (hρ x) hb w
  exact et.pure h h1 h2
 ·rename_i c aY
  rw[aY]
  split at ha
  ·rename_i b hc
   have mw:=bh.Gq hρ c.args
   have Db:(do let d <-resolve σ c o.type;invoke d.target d.args:Sem Next)=builtin b c.argTypes o.type (c.args.map fun | .const _=>true | _=>false) (c.args.map σ):=by
    unfold resolve
    rw[hc]
    rfl
   show et P G F W e v H' ((do let d <-resolve σ c o.type;invoke d.target d.args:Sem Next).run P w)
   rw[Db]
   exact apK h mw ha
  ·cases ha
 ·cases ha
end
variable {P:Program}
theorem Px {ρ ρ':Operand->AV}{l:List Operand}(h:∀ x∈l,ρ x=ρ' x):l.map ρ=l.map ρ':=List.map_congr_left h
theorem Zj {ρ ρ':Operand->AV}{l:List (Nat × Operand)}(h:∀ x∈l.map (·.2),ρ x=ρ' x):(l.map fun (i,x)=>(i,ρ x))=l.map fun (i,x)=>(i,ρ' x):=by
 apply List.map_congr_left
 intro a ha
 obtain⟨i,x⟩:=a
 simp only
 rw[h x (adD.2 ⟨(i,x),ha,rfl⟩)]
theorem aiB {ρ ρ':Operand->AV}(o:Oper)(H:Hp)(h:∀ x∈o.op.operands.toList,ρ x=ρ' x):iV P ρ o H=iV P ρ' o H:=by
 unfold iV
 cases aY:o.op<;>rw[aY] at h<;>simp only[Op.operands] at h ⊢
 case move x=>rw[h x (by simp)]
 case assign x=>rw[h x (by simp)]
 case pick c a b=>rw[h c (by simp),h a (by simp),h b (by simp)]
 case box t x=>rw[h x (by simp)]
 case build t ps=>rw[Zj (by simpa using h)]
 case buildSlice t l ps=>rw[Zj (by simpa using h)]
 case insert t m k v=>rw[h m (by simp),h k (by simp),h v (by simp)]
 case mapUpdate t m k v=>rw[h m (by simp),h k (by simp),h v (by simp)]
 case load t a=>rw[h a (by simp)]
 case store t a v=>rw[h a (by simp),h v (by simp)]
 case nilCheck x=>rw[h x (by simp)]
 case binOp op t x y ty=>rw[h x (by simp),h y (by simp)]
 case unOp op t x=>rw[h x (by simp)]
 case convert a b x=>rw[h x (by simp)]
 case makeInterface t x=>rw[h x (by simp)]
 case makeFunc fn a b=>
  rw[Px (l:=a.toList) (fun x hx=>h x (by simp at hx ⊢;exact .inl hx)),Px (l:=b.toList) (fun x hx=>h x (by simp at hx ⊢;exact .inr hx))]
 case makeMap t r=>cases r<;>rfl
 case makeSlice t l c=>rw[h l (by simp),h c (by simp)]
 case slice t x lo hi mx=>
  have q:∀ y:Option Operand,(∀ z∈y.toList,ρ z=ρ' z)->y.map ρ=y.map ρ':=by
   intro y hy;cases y with
   | none=>rfl
   | some z=>simp only[ae6];rw[hy z (by simp)]
  rw[h x (by simp),q lo (fun z hz=>h z (by simp at hz ⊢;simp[hz])),q hi (fun z hz=>h z (by simp at hz ⊢;simp[hz])),q mx (fun z hz=>h z (by simp at hz ⊢;simp[hz]))]
 case fieldAddr t x f=>rw[h x (by simp)]
 case field t x f=>rw[h x (by simp)]
 case indexAddr t x ix=>rw[h x (by simp),h ix (by simp)]
 case index t x ix=>rw[h x (by simp),h ix (by simp)]
 case lookup t x k ok=>rw[h x (by simp),h k (by simp)]
 case range t x=>rw[h x (by simp)]
 case next it s=>rw[h it (by simp)]
 case entry it=>rw[h it (by simp)]
 case typeAssert x t wH ok=>rw[h x (by simp)]
 case extract t ix=>rw[h t (by simp)]
 case call c=>
  cases hc:c.callee with
  | builtin b=>
   simp only
   rw[Px (l:=c.args.toList) (fun x hx=>h x (by simp[Call.operands,hc] at hx ⊢;exact hx))]
  | value f=>rfl
  | invoke r m=>rfl
end
def Fv (G:Nat)(F:Nat->Prop)(W:World)(e:Em)(v:AV)(H':Hp)(en:Ending)(w':World):Prop:=
 ∃ e' v',en = .returned v'/\e.le e'/\RH G F W e' H' w'/\VR e' v v'
def vO (P:Program)(cf:CF):Prop:=
 ∀ (g:AV) (args:List AV) (H:Hp) (v:AV) (H':Hp),cf g args H=some (v,H')->
  ∃ bg first cap,g = .func (.func bg) first cap/\∀ (F:Nat->Prop) (W:World) (e:Em) (w:World) (aW:Array Value),RH P.globals.size F W e H w->bh e (first++args++cap) aW.toList->
   (∃ v' w' e',(callFunc bg aW).run P w = .ok (.value v') w'/\e.le e'/\RH P.globals.size F W e' H' w'/\VR e' v v')\/
   ((callFunc bg aW).run P w = .ok (.enter bg aW) w/\Calls P bg aW w (Fv P.globals.size F W e v H'))
section
variable {P:Program}{F:Nat->Prop}{W:World}{e:Em}{H:Hp}{w:World}
structure TR (e:Em)(n:Nat)(t:Tm)(a:Act):Prop where
 size:n<=a.tmps.size
 val:∀ x,VR e ((t.get x).getD cq) (a.tmps.getD x undef)
theorem TR.mono {e e':Em}(h:e.le e'){n:Nat}{t:Tm}{a:Act}(k:TR e n t a):TR e' n t a:=⟨k.size,fun x=>(k.val x).mono h⟩
theorem VR.ev (h:RH P.globals.size F W e H w){n:Nat}{t:Tm}{a:Act}(ht:TR e n t a)(x:Operand):VR e (ev P.globals.size t x) (a.eval x):=by
 cases x with
 | tmp d=>exact ht.val d
 | const v=>
  simp only[Am.ev,Act.eval]
  cases hc:Am.jL v with
  | none=>exact .dD v
  | some c=>exact .jL hc
 | global g=>
  simp only[Am.ev,Act.eval]
  cases hb:Nat.blt g P.globals.size with
  | false=>exact .dD _
  | true=>
   rw[ae2] at hb
   obtain⟨h1,h2,h3⟩:=h.si g hb
   have:=VR.ptr (e:=e) g 0 0 h1 (by rw[h3];simp)
   rw[h2] at this
   exact this
 | func f=>exact .func _ (by simp) [] [] #[] #[] rfl rfl (by simp) (by simp)
theorem Zd {t:Array Value}{d x:Nat}{v:Value}(h:d<t.size):(t.setIfInBounds d v).getD x undef=if x=d then v else t.getD x undef:=by
 simp only[ag3]
 by_cases hx:x=d
 ·subst hx;rw[aiz h,if_pos rfl];rfl
 ·rw[ag2 (fun q=>hx q.symm),if_neg hx]
theorem TR.put {n:Nat}{t t':Tm}{a:Act}(h:TR e n t a){dst:Option Tmp}{v:AV}{v':Value}(hp:gP n dst v t=some t')(hv:VR e v v'):TR e n t' (a.put dst v'):=by
 unfold gP at hp
 split at hp
 ·cases hp;exact h
 ·rename_i d
  cases hb:(Nat.blt d n&&Nat.blt d 4294967296) with
  | false=>rw[hb] at hp;cases hp
  | true=>
   rw[hb] at hp
   cases hp
   simp only[aaT,ae2] at hb
   have ba:d<a.tmps.size:=aew hb.1 h.size
   refine⟨by simp only[Act.put,Array.size_setIfInBounds];exact h.size,fun x => ?_⟩
   simp only[Act.put]
   rw[Zd ba,Tr.GK _ _ _ _ _ (by omega)]
   by_cases hx:x=d
   ·rw[if_pos hx,if_pos hx];exact hv
   ·rw[if_neg hx,if_neg hx];exact h.val x
theorem VR.ati {v:AV}{b:Bool}(h:VR e v (.bool b)):v = .bool b\/v = .dD:=by
 cases h with
 | dD=>exact .inr rfl
 | bool=>exact .inl rfl
theorem MD {ops:Array Oper}{o:Oper}{t:Tm}{a:Act}{b:Bool}(hw:ql ops o t=some b)(hT:∀ d,HK ops o=some d->VR e ((t.get d).getD cq) (a.tmps.getD d undef)) :
  Region.wanted o (yielded ops a.tmps)=b:=by
 unfold ql at hw
 unfold Region.wanted
 split at hw
 ·rename_i hg
  cases hw
  simp[hg]
 ·rename_i j want hg
  simp only[hg]
  have MP:HK ops o=(ops[j]?).bind (·.dst):=by simp[HK,hg]
  unfold yielded
  split at hw
  ·rename_i hd
   cases hw
   simp[hd]
  ·rename_i d hd
   have hv:=hT d (by rw[MP,hd])
   simp only[hd,acF]
   rw[ag3] at hv
   split at hw
   ·rename_i hn
    cases hw
    rw[hn] at hv
    obtain⟨vs,tf,_⟩:=VR.W9 (l:=[]) hv
    cases hq:a.tmps[d]? with
    | none=>simp
    | some u=>rw[hq] at tf;simp at tf;subst tf;simp
   ·rename_i c hc
    cases hw
    rw[hc] at hv
    have:=hv.xj
    cases hq:a.tmps[d]? with
    | none=>rw[hq] at this;simp[undef] at this
    | some u=>rw[hq] at this;simp at this;subst this;simp
   ·cases hw
   ·rename_i u Ph Mt hu
    cases hw
    rw[hu] at hv
    cases hq:a.tmps[d]? with
    | none=>simp
    | some z=>
     rw[hq] at hv
     simp at hv
     cases z<;>simp
     rename_i b
     rcases hv.ati with r | r
     ·exact (Ph _ r).elim
     ·exact (Mt r).elim
theorem an6 {σ:Operand->Value}{f:Operand}{args:Array Operand}{cB:Array TypeId}{ty bg:Nat}{first cap:Array Value}(hf:σ f = .func (.func bg) first cap) :
  (do let d <-resolve σ { callee := .value f,args,argTypes:=cB } ty;invoke d.target d.args:Sem Next)=callFunc bg (first++args.map σ++cap):=by
 unfold resolve
 simp only[hf,Deferred.ofValue]
 rfl
theorem IV {cf:CF}(gK:vO P cf)(h:RH P.globals.size F W e H w){t:Tm}{a:Act}{o:Oper}{v:AV}{H':Hp}(ho:tQ P cf t o H=some (v,H'))
  (hT:∀ x∈o.op.operands.toList,VR e (ev P.globals.size t x) (a.eval x)) {next:Act->World->Prop} {Q:Exit->Act->World->Prop}
  (hn:∀ e' v' w',e.le e'->RH P.globals.size F W e' H' w'->VR e' v v'->next (a.put o.dst v') w'):o.wp P a w next Q:=by
 classical
 let ρ:Operand->AV:=fun x=>if x∈o.op.operands.toList then ev P.globals.size t x else .dD
 have hρ:∀ x,VR e (ρ x) (a.eval x):=by
  intro x
  simp only[ρ]
  split
  ·rename_i hx;exact hT x hx
  ·exact .dD _
 have hρe:∀ x∈o.op.operands.toList,ev P.globals.size t x=ρ x:=by
  intro x hx;simp only[ρ,if_pos hx]
 have plain:iV P (ev P.globals.size t) o H=some (v,H')->o.wp P a w next Q:=by
  intro hA
  rw[aiB o H hρe] at hA
  obtain⟨n,w',e',v',hr,hv,he,hR,iL⟩:=asS h hρ hA
  unfold Oper.wp
  rw[hr]
  rcases hv with rfl | ⟨rfl,rfl⟩
  ·exact hn e' v' w' he hR iL
  ·exact hn e' _ w' he hR iL
 unfold tQ at ho
 split at ho
 ·rename_i f args cB aY
  obtain⟨bg,first,cap,hg,hs⟩:=gK _ _ _ _ _ ho
  have QG:f∈o.op.operands.toList:=by simp[aY,Op.operands,Call.operands]
  have hf:=hT f QG
  rw[hg] at hf
  cases Q9:a.eval f with
  | func fn Up uw=>
   rw[Q9] at hf
   cases hf with
   | func _ _ _ _ _ _ ha hc h1 h2=>
   have mw:bh e (args.toList.map (ev P.globals.size t)) (args.map a.eval).toList:=by
    rw[Array.toList_map]
    refine⟨by simp,fun i x x' hx Fs => ?_⟩
    simp only[aeI,aam] at hx Fs
    obtain⟨z,hz,rfl⟩:=hx
    obtain⟨z',Be,rfl⟩:=Fs
    rw[hz] at Be
    cases Be
    exact hT z (by simp[aY,Op.operands,Call.operands];exact .inr (by have:=aaO hz;simpa using this))
   have lI:bh e (first++args.toList.map (ev P.globals.size t)++cap) (Up++args.map a.eval++uw).toList:=by
    have q1:bh e first Up.toList:=⟨ha,h1⟩
    have q2:bh e cap uw.toList:=⟨hc,h2⟩
    have:=(q1.append mw).append q2
    simpa using this
   have hex:execOp a.eval o=callFunc bg (Up++args.map a.eval++uw):=by
    unfold execOp
    rw[aY]
    exact an6 Q9
   unfold Oper.wp
   rw[hex]
   rcases hs F W e w _ h lI with⟨v',w',e',hr,he,hR,iL⟩ | ⟨hr,asF⟩
   ·rw[hr];exact hn e' v' w' he hR iL
   ·rw[hr]
    refine asF.mono ?_
    rintro en QS ⟨e',v',rfl,he,hR,iL⟩
    exact hn e' v' QS he hR iL
  | _=>rw[Q9] at hf;cases hf
 ·exact plain ho
theorem aeA {cf:CF}(gK:vO P cf){ops:Array Oper}{n:Nat}{Q:Exit->Act->World->Prop}{t':Tm}{H':Hp}:∀ (r:List Oper) (i:Nat) (t:Tm) (H:Hp) (e:Em) (a:Act) (w:World),
  ops.toList.drop i=r->ub P cf n ops r t H=some (t',H')->RH P.globals.size F W e H w->TR e n t a->
  (∀ e' a' w',e.le e'->RH P.globals.size F W e' H' w'->TR e' n t' a'->a'.defers=a.defers->Q .normal a' w')->wpOps P ops Q (List.range' i r.length) a w:=by
 intro r
 induction r with
 | nil=>
  intro i t H e a w hd hs hR hT hQ
  cases hs
  exact hQ e a w e.le_refl hR hT rfl
 | cons o r ih=>
  intro i t H e a w hd hs hR hT hQ
  have hi:ops[i]? = some o:=by
   have:=congrArg (fun l=>l[0]?) hd
   simpa[ahj,afj] using this
  have fh:ops.toList.drop (i+1)=r:=by
   have:=congrArg List.tail hd
   simpa[List.tail_drop] using this
  rw[aa1,List.range'_succ]
  unfold ub at hs
  split at hs
  ·rename_i hw
   split at hs
   ·rename_i v H1 ho
    split at hs
    ·rename_i t1 hp
     simp only[wpOps,hi,MD (e:=e) (a:=a) hw (fun d _=>hT.val d),if_true]
     left
     refine IV gK hR ho (fun x _=>VR.ev hR hT x) ?_
     intro e' v' w' he bE hv
     have cU:=(hT.mono he).put hp hv
     refine ih (i+1) t1 H1 e' _ w' fh hs bE cU ?_
     intro e2 a2 w2 CY kK wo z8
     refine hQ e2 a2 w2 (Em.le_trans he CY) kK wo (z8.trans ?_)
     cases o.dst<;>rfl
    ·cases hs
   ·cases hs
  ·rename_i hw
   split at hs
   ·rename_i t1 hp
    simp only[wpOps,hi,MD (e:=e) (a:=a) hw (fun d _=>hT.val d),abH,if_false]
    have cU:=hT.put hp VR.undef
    refine ih (i+1) t1 H e _ w fh hs hR cU ?_
    intro e2 a2 w2 CY kK wo z8
    refine hQ e2 a2 w2 CY kK wo (z8.trans ?_)
    cases o.dst<;>rfl
   ·cases hs
  ·cases hs
end
end
def F7 (o:Oper)(acc:List Nat):Nat:=o.after.toList.foldl (fun s e=>if Region.binds .any e then s ||| 2 ^ e.on ||| acc.getD e.on 0 else s) 0
theorem acm (acc:List Nat)(j:Nat):∀ (l:List Edge) (s:Nat),(l.foldl (fun s e=>if Region.binds .any e then s ||| 2 ^ e.on ||| acc.getD e.on 0 else s) s).testBit j=true->
  s.testBit j=true\/∃ e∈l,Region.binds .any e=true/\(j=e.on\/(acc.getD e.on 0).testBit j=true)
 | [],s,h => .inl h
 | e::l,s,h=>by
  rw[List.foldl_cons] at h
  rcases acm acc j l _ h with h1 | ⟨e',NO,hb,hj⟩
  ·by_cases Af:Region.binds .any e=true
   ·rw[if_pos Af] at h1
    rw[Nat.testBit_or,Nat.testBit_or,aiy,aiy] at h1
    rcases h1 with (h1 | h1) | h1
    ·exact .inl h1
    ·right
     refine⟨e,List.mem_cons_self ..,Af,.inl ?_⟩
     rw[Nat.testBit_two_pow] at h1
     exact (of_decide_eq_true h1).symm
    ·exact .inr ⟨e,List.mem_cons_self ..,Af,.inr h1⟩
   ·rw[if_neg Af] at h1
    exact .inl h1
  ·exact .inr ⟨e',List.mem_cons_of_mem _ NO,hb,hj⟩
theorem ad7:∀ (r:List Oper) (acc:List Nat),(before r acc).length=acc.length+r.length
 | [],acc=>by simp[before]
 | o::r,acc=>by
  rw[before,ad7 r]
  simp;omega
theorem RB:∀ (r:List Oper) (acc:List Nat) (i:Nat),i<acc.length->(before r acc)[i]? = acc[i]?
 | [],acc,i,h=>by simp[before]
 | o::r,acc,i,h=>by
  rw[before,RB r _ i (by simp;omega)]
  rw[abX h]
theorem ZB:∀ (r:List Oper) (acc:List Nat) (i:Nat) (o:Oper),r[i]? = some o->(before r acc)[acc.length+i]? = some (F7 o ((before r acc).take (acc.length+i)))
 | [],acc,i,o,h=>by simp at h
 | p::r,acc,i,o,h=>by
  cases i with
  | zero=>
   simp at h
   subst h
   rw[before,afF,RB r _ _ (by simp)]
   have ht:(before r (acc++[F7 p acc])).take acc.length=acc:=by
    apply ajs
    intro k
    rw[aiC]
    split
    ·rw[RB r _ k (by simp;omega),abX (by assumption)]
    ·rw[ahX (by omega)]
   show (acc++[F7 p acc])[acc.length]? = some (F7 p ((before r (acc++[F7 p acc])).take acc.length))
   rw[ht]
   simp
  | succ i=>
   have:=ZB r (acc++[F7 p acc]) i o (by simpa using h)
   rw[abj,List.length_singleton] at this
   rw[before]
   have e1:acc.length+(i+1)=acc.length+1+i:=by omega
   rw[e1]
   exact this
structure Form (ops:Array Oper)(B:List Nat):Prop where
 len:B.length=ops.size
 back:∀ i o,ops[i]? = some o->∀ e∈o.after,Region.binds .any e=true->e.on<i
 bit:∀ i o,ops[i]? = some o->∀ j,(B.getD i 0).testBit j=true->∃ e∈o.after,Region.binds .any e=true/\(j=e.on\/(B.getD e.on 0).testBit j=true)
 one:∀ (i j:Nat) (oi oj:Oper) (d:Tmp),ops[i]? = some oi->ops[j]? = some oj->oi.dst=some d->oj.dst=some d->i=j
 rd:∀ (i j:Nat) (oi oj:Oper) (d:Tmp),ops[i]? = some oi->ops[j]? = some oj->oi.dst=some d->i≠j->DO ops oj d=true->if i<j then (B.getD j 0).testBit i=true else (B.getD i 0).testBit j=true
theorem aib {ops:Array Oper}(h:yk ops=true):Form ops (before ops.toList []):=by
 unfold yk at h
 simp only at h
 have hlen:(before ops.toList []).length=ops.size:=by rw[ad7];simp
 have hz:∀ i o,ops[i]? = some o->(i,(o,(before ops.toList []).getD i 0))∈(List.range ops.size).zip (ops.toList.zip (before ops.toList [])):=by
  intro i o ho
  have hi:i<ops.size:=(adt.1 ho).1
  apply aaO (i:=i)
  rw[List.getElem?_zip_eq_some]
  refine⟨by simp[hi],?_⟩
  rw[List.getElem?_zip_eq_some]
  refine⟨by simpa using ho,?_⟩
  simp only
  rw[ah7,aaC (by rw[hlen];exact hi)]
  rfl
 rw[aeO] at h
 have h1:∀ i o,ops[i]? = some o->∀ e∈o.after,Region.binds .any e=true->e.on<i:=by
  intro i o ho e he hb
  have:=h _ (hz i o ho)
  rw[aaT] at this
  have h2:=Array.all_eq_true_iff_forall_mem.1 this.1 e he
  rw[hb] at h2
  simpa using h2
 have h2:∀ i j oi oj,ops[i]? = some oi->ops[j]? = some oj->Ng ops i oi ((before ops.toList []).getD i 0) j oj ((before ops.toList []).getD j 0)=true:=by
  intro i j oi oj hi hj
  have:=h _ (hz i oi hi)
  rw[aaT] at this
  exact aeO.1 this.2 _ (hz j oj hj)
 refine⟨hlen,h1,?_,?_,?_⟩
 ·intro i o ho j hb
  have hi:i<ops.size:=(adt.1 ho).1
  have BV:=ZB ops.toList [] i o (by simpa using ho)
  simp only[acG,aeJ] at BV
  rw[ah7,BV] at hb
  simp only[ahb] at hb
  rcases acm _ j _ 0 hb with hq | ⟨e,he,Af,hj⟩
  ·simp at hq
  ·have NO:e∈o.after:=by simpa using he
   refine⟨e,NO,Af,hj.imp id fun hq => ?_⟩
   have ba:=h1 i o ho e NO Af
   rw[ah7,aiC,if_pos ba] at hq
   rw[ah7]
   exact hq
 ·intro i j oi oj d hi hj Uc rM
  have:=h2 i j oi oj hi hj
  unfold Ng at this
  rw[Uc] at this
  simp only[aiy,aaT] at this
  rcases this with q | ⟨q,_⟩
  ·exact abI q
  ·simp[rM] at q
 ·intro i j oi oj d hi hj Uc aH hr
  have:=h2 i j oi oj hi hj
  unfold Ng at this
  rw[Uc] at this
  simp only[aiy,aaT] at this
  rcases this with q | ⟨_,q⟩
  ·exact absurd (abI q) aH
  ·rcases q with q | q
   ·rw[hr] at q;simp at q
   ·by_cases ba:i<j
    ·rw[if_pos ba]
     have:Nat.blt i j=true:=by rw[ae2];exact ba
     rw[this] at q;exact q
    ·rw[if_neg ba]
     have:Nat.blt i j=false:=by
      cases hb:Nat.blt i j
      ·rfl
      ·rw[ae2] at hb;exact absurd hb ba
     rw[this] at q;exact q
def kk (P:Program)(x:Bool)(o:Oper):Kd:=if x then kd P o else .pure
def Oe (P:Program)(cf:CF)(n:Nat)(ops:Array Oper)(o:Oper)(x:Bool)(v:AV)(tp te kL kY:Tm)(hb hh tT yf:Hp):Prop:=
 ql ops o tp=some x/\
 match x,kd P o with
 | false,_=>v=cq/\gP n o.dst cq tp=some kL/\gP n o.dst cq te=some kY/\tT=hb/\yf=hh
 | true,.late=>iV P (ev P.globals.size te) o hh=some (v,yf)/\gP n o.dst .dD tp=some kL/\gP n o.dst v te=some kY/\tT=hb
 | true,.dE=>tQ P cf te o hh=some (v,yf)/\gP n o.dst v tp=some kL/\gP n o.dst v te=some kY/\tT=yf
 | true,_=>(∃ h',iV P (ev P.globals.size tp) o hb=some (v,h'))/\gP n o.dst v tp=some kL/\gP n o.dst v te=some kY/\tT=hb/\yf=hh
theorem aqh {P:Program}{cf:CF}{n:Nat}{ops:Array Oper}{B:List Nat}{tF:Tm}{HF:Hp}:∀ (r:List Oper) (bs:List Nat) (i:Nat) (tp te:Tm) (hb hh:Hp) (l:List kH),
  ops.toList.drop i=r->B.drop i=bs->lP P cf n ops i r bs tp te hb hh=some (l,tF,HF)->
  ∃ (TP TE:Nat->Tm) (HB HH:Nat->Hp) (V:Nat->AV) (X:Nat->Bool),TP i=tp/\TE i=te/\HB i=hb/\HH i=hh/\TE (i+r.length)=tF/\HH (i+r.length)=HF/\
   ∀ j o,i<=j->ops[j]? = some o->Oe P cf n ops o (X j) (V j) (TP j) (TE j) (TP (j+1)) (TE (j+1)) (HB j) (HH j) (HB (j+1)) (HH (j+1))/\
    (⟨j,o,B.getD j 0,X j,kk P (X j) o,V j,TP j,HB j,HB (j+1)⟩:kH)∈l:=by
 intro r
 induction r with
 | nil=>
  intro bs i tp te hb hh l hd uh hr
  simp only[lP,adE,acv] at hr
  obtain⟨rfl,rfl,rfl⟩:=hr
  refine⟨fun _=>tp,fun _=>te,fun _=>hb,fun _=>hh,fun _ => .dD,fun _=>false,rfl,rfl,rfl,rfl,rfl,rfl,?_⟩
  intro j o hj ho
  have ba:=(adt.1 ho).1
  have:=congrArg List.length hd
  simp at this
  omega
 | cons o r ih=>
  intro bs i tp te hb hh l hd uh hr
  have hi:ops[i]? = some o:=by
   have:=congrArg (fun l=>l[0]?) hd
   simpa[ahj,afj] using this
  have fh:ops.toList.drop (i+1)=r:=by
   have:=congrArg List.tail hd
   simpa[List.tail_drop] using this
  cases bs with
  | nil=>simp[lP] at hr
  | cons b bs=>
   have hbi:B.getD i 0=b:=by
    have:=congrArg (fun l=>l[0]?) uh
    simp[ahj] at this
    simp[ah7,this]
   have apU:B.drop (i+1)=bs:=by
    have:=congrArg List.tail uh
    simpa[List.tail_drop] using this
   have fin:∀ (x:Bool) (v:AV) (kL kY:Tm) (tT yf:Hp) (l':List kH),Oe P cf n ops o x v tp te kL kY hb hh tT yf->lP P cf n ops (i+1) r bs kL kY tT yf=some (l',tF,HF)->
     l=⟨i,o,b,x,kk P x o,v,tp,hb,tT⟩::l'->
     ∃ (TP TE:Nat->Tm) (HB HH:Nat->Hp) (V:Nat->AV) (X:Nat->Bool),TP i=tp/\TE i=te/\HB i=hb/\HH i=hh/\TE (i+(o::r).length)=tF/\HH (i+(o::r).length)=HF/\
   ∀ j o,i<=j->ops[j]? = some o->Oe P cf n ops o (X j) (V j) (TP j) (TE j) (TP (j+1)) (TE (j+1)) (HB j) (HH j) (HB (j+1)) (HH (j+1))/\
    (⟨j,o,B.getD j 0,X j,kk P (X j) o,V j,TP j,HB j,HB (j+1)⟩:kH)∈l:=by
    intro x v kL kY tT yf l' aqw yG hl
    obtain⟨TP,TE,HB,HH,V,X,q1,q2,q3,q4,q5,q6,q7⟩:=ih bs (i+1) kL kY tT yf l' fh apU yG
    have aH:¬ i+1=i:=by omega
    refine⟨fun j=>if j=i then tp else TP j,fun j=>if j=i then te else TE j,fun j=>if j=i then hb else HB j,fun j=>if j=i then hh else HH j,fun j=>if j=i then v else V j,fun j=>if j=i then x else X j,
     by simp,by simp,by simp,by simp,?_,?_,?_⟩
    ·simp only[aa1]
     rw[if_neg (by omega)]
     have:i+(r.length+1)=i+1+r.length:=by omega
     rw[this];exact q5
    ·simp only[aa1]
     rw[if_neg (by omega)]
     have:i+(r.length+1)=i+1+r.length:=by omega
     rw[this];exact q6
    ·intro j oj hj xC
     by_cases vW:j=i
     ·subst vW
      rw[hi] at xC
      cases xC
      simp only[if_true,if_neg aH,q1,q2,q3,q4,hbi]
      refine⟨aqw,?_⟩
      rw[hl];exact List.mem_cons_self ..
     ·have TF:¬ j+1=i:=by omega
      simp only[if_neg vW,if_neg TF]
      obtain⟨s1,s2⟩:=q7 j oj (by omega) xC
      exact⟨s1,by rw[hl];exact List.mem_cons_of_mem _ s2⟩
   unfold lP at hr
   split at hr
   ·rename_i hw
    split at hr
    ·rename_i hk
     split at hr
     ·rename_i v h' aY
      split at hr
      ·rename_i kL kY h1 h2
       simp only[aam,Prod.exists,acv] at hr
       obtain⟨l',a,b',yG,rfl,rfl,rfl⟩:=hr
       refine fin true v kL kY hb h' l' ⟨hw,?_⟩ yG (by simp[kk,hk])
       rw[hk];exact⟨aY,h1,h2,rfl⟩
      ·cases hr
     ·cases hr
    ·rename_i hk
     split at hr
     ·rename_i v h' aY
      split at hr
      ·rename_i kL kY h1 h2
       simp only[aam,Prod.exists,acv] at hr
       obtain⟨l',a,b',yG,rfl,rfl,rfl⟩:=hr
       refine fin true v kL kY h' h' l' ⟨hw,?_⟩ yG (by simp[kk,hk])
       rw[hk];exact⟨aY,h1,h2,rfl⟩
      ·cases hr
     ·cases hr
    ·rename_i vl gp
     split at hr
     ·rename_i v h' aY
      split at hr
      ·rename_i kL kY h1 h2
       simp only[aam,Prod.exists,acv] at hr
       obtain⟨l',a,b',yG,rfl,rfl,rfl⟩:=hr
       refine fin true v kL kY hb hh l' ⟨hw,?_⟩ yG (by simp[kk])
       cases c8:kd P o
       ·exact⟨⟨h',aY⟩,h1,h2,rfl,rfl⟩
       ·exact⟨⟨h',aY⟩,h1,h2,rfl,rfl⟩
       ·exact absurd c8 vl
       ·exact absurd c8 gp
      ·cases hr
     ·cases hr
   ·rename_i hw
    split at hr
    ·rename_i kL kY h1 h2
     simp only[aam,Prod.exists,acv] at hr
     obtain⟨l',a,b',yG,rfl,rfl,rfl⟩:=hr
     refine fin false cq kL kY hb hh l' ⟨hw,rfl,h1,h2,rfl,rfl⟩ yG (by simp[kk])
    ·cases hr
   ·cases hr
end Go.Proofs.YtodfajmihkagnaaGreatDoor.Am
