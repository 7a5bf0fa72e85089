/- The evaluator's operations are sound, third part; regions in the order of the text (of no program). -/
import Derived.Test.YtodfajmihkagnaaGreatDoorAm3
set_option linter.unusedVariables false
set_option linter.unusedSimpArgs false
namespace Go.Proofs.YtodfajmihkagnaaGreatDoor.Am
section
variable {P:Program} {G:Nat} {F:Nat->Prop} {W:World} {e:Em} {H:Hp} {w:World}
theorem K7 {el s n:Nat} {z:List AV} (h:yM P el s n=some z) :
  (n*s=0/\z=[])\/(¬ n*s=0/\z.length=n*s/\∃ inf z0,P.info? el=some inf/\inf.zero=some z0/\z0.cells.size=s/\aP e z ((Array.range (n*s)).map (z0.cells[· % z0.cells.size]!)).toList):=by
 unfold yM at h
 cases hb:Nat.beq (n*s) 0 with
 | true=>
  rw[hb] at h
  cases h
  exact .inl ⟨abC hb,rfl⟩
 | false=>
  rw[hb] at h
  simp only[cond_false] at h
  have h0:¬ n*s=0:=fun q=>by rw[q] at hb;cases hb
  split at h
  ·rename_i z1 hz
   cases hl:Nat.beq z1.length s with
   | false=>rw[hl] at h;cases h
   | true=>
    rw[hl] at h
    cases h
    have qG:z1.length=s:=abC hl
    obtain⟨inf,z0,iN,fD,wZ⟩:=xu (e:=e) hz
    have eH:z0.cells.size=s:=by have:=wZ.1;simp at this;omega
    have hr:aP e (rep n z1) ((Array.range (n*s)).map (z0.cells[· % z0.cells.size]!)).toList:=by
     have:=aaB z0.cells n
     rw[eH] at this
     rw[eH,this]
     exact wZ.rep n
    refine .inr ⟨h0,?_,inf,z0,iN,fD,eH,hr⟩
    have:=hr.1
    simp at this
    omega
  ·cases h
theorem aaO {pl:Nat->Option (Nat × Nat)}:∀ (ps:List (Nat × AV)) (cells out:List AV),tI pl cells ps=some out->out.length=cells.length
 | [],cells,out,h=>by cases h;rfl
 | (i,v)::ps,cells,out,h=>by
  unfold tI at h
  split at h
  ·cases h
  ·split at h
   ·cases h
   ·split at h
    ·rename_i hc
     rw[aaO ps _ _ h]
     simp;omega
    ·cases h
theorem adL (h:RH G F W e H w) {t len:Nat} {ps:List (Nat × AV)} {od:Array (Nat × Value)} {v:AV} {H':Hp} (hp:sX e ps od.toList) (hb:Ey P t len ps H=some (v,H')) :
  ∃ v' w' e',(Instr.buildSlice t len od).run P w = .ok v' w'/\e.le e'/\RH G F W e' H' w'/\VR e' v v':=by
 unfold Ey at hb
 split at hb
 ·rename_i el hu
  split at hb
  ·rename_i s hs
   cases hle:Nat.ble (len*s) 65536 with
   | false=>rw[hle] at hb;cases hb
   | true=>
   rw[hle] at hb
   simp only[cond_true] at hb
   rw[adH] at hle
   split at hb
   ·rename_i z hz
    split at hb
    ·rename_i cs fy
     simp only[aaF,ab7] at hb
     obtain⟨⟨i,H2⟩,hn,rfl,rfl⟩:=hb
     have hlen:=aaO ps z cs fy
     have Li:¬ (len*s>2 ^ 24):=by omega
     rcases K7 (P:=P) (e:=e) hz with⟨h0,rfl⟩ | ⟨h0,YE,inf,z0,iN,fD,eH,y7⟩
     ·obtain⟨kW,ho,hr⟩:=Ld (e:=e) (DH:=fun i=>some (i*s,s)) (fun i x hx=>hx) ps od.toList [] cs #[] hp (.nil e) fy
      obtain⟨e',he,g1,g2,g3,g4,oR⟩:=h.newRow (rest:=[]) (fz:=(0,0)) hn hr (fun _=>rfl) (by simp)
      refine⟨.slice (some ⟨w.heap.size,0,none⟩) len len,_,e',?_,he,oR,VR.Ab g2 g1 (by rw[g3];simp) (abe _) (abe _) (fun _=>rfl) ?_⟩
      ·simp only[Instr.buildSlice,Sem.run_bind,aJ hu,Result.andThen_ok,gN hs,if_neg Li]
       rw[if_pos h0]
       have Ac:Array.range 0 = #[]:=rfl
       simp[h0,Ac,ho,newRow]
      ·rw[g4];simp[h0]
     ·obtain⟨kW,ho,hr⟩:=Ld (e:=e) (DH:=fun i=>some (i*s,s)) (fun i x hx=>hx) ps od.toList z cs _ hp y7 fy
      obtain⟨e',he,g1,g2,g3,g4,oR⟩:=h.newRow (rest:=[]) (fz:=(0,0)) hn hr (fun _=>rfl) (by simp)
      refine⟨.slice (some ⟨w.heap.size,0,none⟩) len len,_,e',?_,he,oR,VR.Ab g2 g1 (by rw[g3];simp) (abe _) (abe _) (fun _=>rfl) ?_⟩
      ·simp only[Instr.buildSlice,Sem.run_bind,aJ hu,Result.andThen_ok,gN hs,if_neg Li]
       rw[if_neg h0]
       simp[rr iN fD,newRow] at ho ⊢
       simp[ho]
      ·rw[g4]
       have:=hr.1
       simp at this ⊢
       omega
    ·cases hb
   ·cases hb
  ·cases hb
 ·cases hb
theorem run_makeSlice {t:Nat} {k1 k2:IntKind} {n m:Int} {H H':Hp} {v:AV} (hb:uG P t (.int k1 n) (.int k2 m) H=some (v,H')) (w:World) :
  ∃ el s z row,P.underlying t=some (.slice el)/\sz P el=some s/\yM P el s m.toNat=some z/\(∀ e:Em,aP e z row)/\n.toNat<=m.toNat/\row.length=m.toNat*s/\
   (Instr.makeSlice t (.int k1 n) (.int k2 m)).run P w = .ok (.slice (some ⟨w.heap.size,0,none⟩) n.toNat m.toNat) { w with heap:=w.heap.push (.cells row.toArray el (0,0)) }:=by
 unfold uG at hb
 split at hb
 ·rename_i el k1' n' IQ m' hu q1 q2
  cases q1;cases q2
  split at hb
  ·rename_i s hs
   split at hb
   ·rename_i rX
    obtain⟨h1,h2,h3,h4⟩:=rX
    split at hb
    ·rename_i z hz
     obtain⟨inf,iN⟩:∃ inf,P.info? el=some inf:=by
      unfold sz at hs
      cases hq:P.info? el with
      | none=>simp[hq] at hs
      | some inf=>exact⟨inf,rfl⟩
     have Rg:inf.bytes<=4096:=by unfold Program.bytesOf at h4;rw[iN] at h4;simpa using h4
     have w1:IntKind.i64.wrap n=n:=IntWalk.i64_in _ (by omega)
     have w2:IntKind.i64.wrap m=m:=IntWalk.i64_in _ (by omega)
     have Ak:¬ ((inf.bytes:Int)*m>2 ^ 48):=by
      have:(inf.bytes:Int)*m<=4096*1048576:=Int.mul_le_mul (by omega) (by omega) (by omega) (by omega)
      omega
     have c1:(decide (m<0)||decide ((inf.bytes:Int)*m>2 ^ 48))=false:=by simp;omega
     have zU:¬ (((decide (m<0)||decide ((inf.bytes:Int)*m>2 ^ 48))||decide (n<0)||decide (n>m))=true):=by
      rw[c1];simp;omega
     rcases K7 (P:=P) (e:=⟨id,fun _=>0,id,0⟩) hz with⟨h0,rfl⟩ | ⟨h0,YE,Rv,z0,Ao,fD,eH,y7⟩
     ·refine⟨el,s,[],[],hu,hs,hz,fun e => .nil e,by omega,by simp[h0],?_⟩
      simp only[Instr.makeSlice,Sem.run_bind,aJ hu,Result.andThen_ok,asInt,asIntOf,Sem.run_pure,oV iN,w1,w2,if_neg zU,run_askRoom,gN hs]
      rw[if_pos h0]
      have Ac:Array.range 0 = #[]:=rfl
      simp[h0,Ac,newRow]
     ·refine⟨el,s,z,((Array.range (m.toNat*s)).map (z0.cells[· % z0.cells.size]!)).toList,hu,hs,hz,fun e => ?_,by omega,?_,?_⟩
      rotate_left 2
      ·simp only[Instr.makeSlice,Sem.run_bind,aJ hu,Result.andThen_ok,asInt,asIntOf,Sem.run_pure,oV iN,w1,w2,if_neg zU,run_askRoom,gN hs]
       rw[if_neg h0]
       simp[rr Ao fD,newRow]
       congr 2
       apply ado.1
       simp
      ·rcases K7 (P:=P) (e:=e) hz with⟨q,_⟩ | ⟨_,_,ao6,z3,aa4,Sr,_,acq⟩
       ·exact absurd q h0
       ·rw[Ao] at aa4;cases aa4
        rw[fD] at Sr;cases Sr
        exact acq
      ·simp
    ·cases hb
   ·cases hb
  ·cases hb
 ·cases hb
theorem akm (h:RH G F W e H w) {t:Nat} {l c v:AV} {l' c':Value} {H':Hp} (hl:VR e l l') (hc:VR e c c') (hb:uG P t l c H=some (v,H')) :
  ∃ v' w' e',(Instr.makeSlice t l' c').run P w = .ok v' w'/\e.le e'/\RH G F W e' H' w'/\VR e' v v':=by
 unfold uG at hb
 split at hb
 ·rename_i el k1 n k2 m hu
  cases hl.fN;cases hc.fN
  split at hb
  ·rename_i s hs
   split at hb
   ·rename_i rX
    obtain⟨h1,h2,h3,h4⟩:=rX
    split at hb
    ·rename_i z hz
     simp only[aaF,ab7] at hb
     obtain⟨⟨i,H2⟩,hn,rfl,rfl⟩:=hb
     obtain⟨inf,iN⟩:∃ inf,P.info? el=some inf:=by
      unfold sz at hs
      cases hq:P.info? el with
      | none=>simp[hq] at hs
      | some inf=>exact⟨inf,rfl⟩
     have Rg:inf.bytes<=4096:=by unfold Program.bytesOf at h4;rw[iN] at h4;simpa using h4
     have w1:IntKind.i64.wrap n=n:=IntWalk.i64_in _ (by omega)
     have w2:IntKind.i64.wrap m=m:=IntWalk.i64_in _ (by omega)
     have Ak:¬ ((inf.bytes:Int)*m>2 ^ 48):=by
      have:(inf.bytes:Int)*m<=4096*1048576:=Int.mul_le_mul (by omega) (by omega) (by omega) (by omega)
      omega
     have c1:(decide (m<0)||decide ((inf.bytes:Int)*m>2 ^ 48))=false:=by simp;omega
     have Li:¬ ((decide (m<0)||decide ((inf.bytes:Int)*m>2 ^ 48))=true\/n<0\/n>m):=by
      rw[c1];simp;omega
     have zU:¬ (((decide (m<0)||decide ((inf.bytes:Int)*m>2 ^ 48))||decide (n<0)||decide (n>m))=true):=by
      rw[c1];simp;omega
     rcases K7 (P:=P) (e:=e) hz with⟨h0,rfl⟩ | ⟨h0,YE,Rv,z0,Ao,fD,eH,y7⟩
     ·obtain⟨e',he,g1,g2,g3,g4,oR⟩:=h.newRow (rest:=[]) (fz:=(0,0)) hn (.nil e) (fun _=>rfl) (by simp)
      refine⟨.slice (some ⟨w.heap.size,0,none⟩) n.toNat m.toNat,_,e',?_,he,oR,VR.Ab g2 g1 (by rw[g3];simp) (by omega) (abe _) (fun _=>rfl) (by rw[g4];simp[h0])⟩
      simp only[Instr.makeSlice,Sem.run_bind,aJ hu,Result.andThen_ok,asInt,asIntOf,Sem.run_pure,oV iN,w1,w2,if_neg zU,run_askRoom,gN hs]
      rw[if_pos h0]
      have Ac:Array.range 0 = #[]:=rfl
      simp[h0,Ac,newRow]
     ·obtain⟨e',he,g1,g2,g3,g4,oR⟩:=h.newRow (rest:=[]) (fz:=(0,0)) hn y7 (fun _=>rfl) (by simp)
      refine⟨.slice (some ⟨w.heap.size,0,none⟩) n.toNat m.toNat,_,e',?_,he,oR,VR.Ab g2 g1 (by rw[g3];simp) (by omega) (abe _) (fun _=>rfl) (by rw[g4];simp)⟩
      simp only[Instr.makeSlice,Sem.run_bind,aJ hu,Result.andThen_ok,asInt,asIntOf,Sem.run_pure,oV iN,w1,w2,if_neg zU,run_askRoom,gN hs]
      rw[if_neg h0]
      simp[rr Ao fD,newRow]
      congr 2
      apply ado.1
      simp
    ·cases hb
   ·cases hb
  ·cases hb
 ·cases hb
theorem RH.new (h:RH G F W e H w) {o:AO} {i:Nat} {H':Hp} (ha:Am.alloc H o=some (i,H')) {ob:Obj} (eg:∀ e',e.le e'->e'.d i=0->OR e' i o ob) :
  ∃ e',e.le e'/\i<e'.N/\e'.b i=w.heap.size/\e'.d i=0/\RH G F W e' H' { w with heap:=w.heap.push ob }:=by
 have xX:i=e.N:=(wA ha).1.trans h.N.symm
 obtain⟨hi,hr⟩:=h.alloc (d:=0) (n:=0) ha (eg _ (Em.o9 ..) (by rw[xX];exact Em.mY ..))
 subst hi
 exact⟨_,Em.o9 ..,by simp[Em.ext],Em.mQ ..,Em.mY ..,hr⟩
theorem VR.NC {e:Em} {b i:Nat} (hb:e.b i=b) (hi:i<e.N) (hd:e.d i=0):VR e (.ptr i 0) (.pointer (some ⟨b,0,none⟩)):=by
 subst hb;exact .ptr i 0 0 hi (by rw[hd];simp)
theorem VR.yH {e:Em} {b i:Nat} (hb:e.b i=b) (hi:i<e.N):VR e (.map i) (.map (some b)):=by subst hb;exact .map i hi
theorem adS (h:RH G F W e H w) {t:Nat} {i:Nat} {H':Hp} (ha:Am.alloc H (.map [] 0)=some (i,H')) :
  ∃ v' w' e',(Instr.makeMap t none).run P w = .ok v' w'/\e.le e'/\RH G F W e' H' w'/\VR e' (.map i) v':=by
 obtain⟨e',he,g1,g2,g3,hr⟩:=h.new (ob := .map #[] 0) ha (fun e' _ _ => .map _ _ _ _ [] (List.Perm.refl _) ⟨rfl,by simp⟩ (by simp) (by simp))
 exact⟨.map (some w.heap.size),_,e',by simp[Instr.makeMap],he,hr,.yH g2 g1⟩
theorem acz (h:RH G F W e H w) {t:Nat} {x v:AV} {x':Value} {H':Hp} (hx:VR e x x') (hb:xC P t x H=some (v,H')) :
  ∃ v' w' e',(Instr.range t x').run P w = .ok v' w'/\e.le e'/\RH G F W e' H' w'/\VR e' v v':=by
 unfold xC at hb
 split at hb
 ·rename_i s hu
  obtain⟨b,rfl,rfl⟩:=hx.lR
  simp only[aaF,ab7] at hb
  obtain⟨⟨i,H2⟩,hn,rfl,rfl⟩:=hb
  obtain⟨e',he,g1,g2,g3,hr⟩:=h.new (ob := .stringIter b 0) hn (fun e' _ hd => .rB _ _ _ rfl hd)
  exact⟨.pointer (some ⟨w.heap.size,0,none⟩),_,e',by simp[Instr.range,aJ hu],he,hr,.NC g2 g1 g3⟩
 ·cases hb
theorem akr {s:ByteArray} {pos b:Nat} {r:List Nat} (h:(bytes s).drop pos=b::r) (hb:b<128):pos<s.size/\Utf8.decode s pos=(b,1):=by
 have hlen:((bytes s).drop pos).length=s.size-pos:=by rw[ae1,vf]
 rw[h] at hlen
 simp at hlen
 have aQ:pos<s.size:=by omega
 refine⟨aQ,?_⟩
 have h0:(bytes s)[pos]? = some b:=by
  have:=aeA (xs:=bytes s) (i:=pos) (j:=0)
  rw[h] at this
  simpa using this.symm
 simp only[bytes,ada,aaF] at h0
 obtain⟨u,hu,rfl⟩:=h0
 have eG:s.get! pos=u:=by
  cases s with
  | mk d=>
   have hd:pos<d.size:=aQ
   have:=(aaK.1 hu).2
   simp only[ByteArray.get!]
   rw[getElem!_pos d pos hd,<-this]
   simp
 unfold Utf8.decode
 simp only[adx,eG]
 rw[if_pos hb]
theorem alM {b:Nat} {o ob:Obj} (hb:w.heap[b]? = some ob) (hn:∀ c el fz,ob ≠ .cells c el fz):(Go.setObj b o).run P w = .ok () { w with heap:=w.heap.setIfInBounds b o }:=by
 cases ob<;>first | (exact absurd rfl (hn _ _ _)) | (simp[Go.setObj,Sem.run,hb])
theorem ahv {b:Nat} {ob:Obj} (hb:w.heap[b]? = some ob) (hn:∀ c el fz,ob ≠ .cells c el fz):(Go.getObj b).run P w = .ok ob w:=by
 cases ob<;>first | (exact absurd rfl (hn _ _ _)) | (simp[Go.getObj,Sem.run,hb])
theorem RH.akp (h:RH G F W e H w) {i:Nat} {o o2:AO} (hg:H.h.get i=some o) (hw:wr o=true) {ob o8:Obj} (hb:w.heap[e.b i]? = some ob) (eg:OR e i o2 o8) :
  RH G F W e (Am.setObj H i o2) { w with heap:=w.heap.setIfInBounds (e.b i) o8 }:=by
 have aQ:=(ab6.1 hb).1
 refine h.put hg hw (oZ:=o8) (by simp) (by simp[aQ]) (fun k hk => ?_) eg rfl rfl rfl
 simp only
 rw[adP (fun q=>hk q.symm)]
theorem VR.akA {a b c:AV} {a' b' c':Value} (ha:VR e a a') (hb:VR e b b') (hc:VR e c c'):VR e (.tuple [a,b,c]) (.tuple #[a',b',c']):=
 .tuple' (.cons ha (.cons hb (.cons hc (.nil e))))
set_option maxHeartbeats 1000000 in
theorem amH (h:RH G F W e H w) {t:Nat} {it v:AV} {GX:Value} {qJ:Bool} {H':Hp} (hx:VR e it GX) (hb:vD it qJ H=some (v,H')) :
  ∃ v' w',(Instr.next GX qJ t).run P w = .ok v' w'/\RH G F W e H' w'/\VR e v v':=by
 unfold vD at hb
 split at hb
 ·rename_i i
  obtain⟨o,hi,ho,rfl⟩:=hx.p8
  split at hb
  ·rename_i s pos hg
   obtain⟨_,ob,ep,eg,hF⟩:=h.obj i _ hg
   cases eg with
   | rB _ _ s' hs hd=>
   have AS:o=0:=by omega
   subst AS
   have eG:(Go.getObj (e.b i)).run P w = .ok (.stringIter s' pos) w:=ahv ep (by simp)
   split at hb
   ·rename_i ze
    cases hb
    have hlen:=congrArg List.length ze
    rw[ae1,<-hs,vf] at hlen
    have ru:¬ pos<s'.size:=by simp at hlen;omega
    exact⟨_,w,by simp[Instr.next,eG,ru],h,.tuple' (.cons (.bool false) (.nil e))⟩
   ·rename_i b r ze
    cases aQ:Nat.blt b 128 with
    | false=>rw[aQ] at hb;cases hb
    | true=>
     rw[aQ] at hb
     cases hb
     rw[adq] at aQ
     rw[<-hs] at ze
     obtain⟨DZ,acn⟩:=akr ze aQ
     refine⟨_,{ w with heap:=w.heap.setIfInBounds (e.b i) (.stringIter s' (pos+1)) },?_,h.akp hg rfl ep (.rB _ _ _ hs hd),VR.akA (.bool true) (.int _ _) (.int _ _)⟩
     have fg:(Go.setObj (e.b i) (.stringIter s' (pos+1))).run P w = .ok () { w with heap:=w.heap.setIfInBounds (e.b i) (.stringIter s' (pos+1)) }:=alM ep (by simp)
     simp only[Instr.next,Sem.run_bind,eG,Result.andThen_ok,DZ,if_true,acn,fg]
     rfl
  ·cases hb
 ·cases hb
theorem ame (h:RH G F W e H w) {it v:AV} {GX:Value} (hx:VR e it GX) (hb:Lm it H=some v) :
  ∃ v',(Instr.entry GX).run P w = .ok v' w/\VR e v v':=by
 unfold Lm at hb
 cases hb
theorem acN {uT t:TypeId} {x v:AV} {x':Value} {ok:Bool} (hx:VR e x x') (hb:Hz P uT x ok=some v) (w:World) :
  ∃ v',(Instr.typeAssert x' t uT ok).run P w = .ok v' w/\VR e v v':=by
 unfold Hz at hb
 split at hb
 ·cases hb
 ·rename_i d t2 u aH hu
  cases hx with
  | iface _ _ u' hr=>
  split at hb
  ·rename_i ht
   subst ht
   have hd:∀ ms,d ≠ .interface ms:=fun ms q=>aH ms q
   cases ok with
   | true=>
    cases hb
    refine⟨.tuple #[u',.bool true],?_,hr.pair (.bool true)⟩
    cases d<;>first | (exact absurd rfl (hd _)) | simp[Instr.typeAssert,aJ hu]
   | false=>
    cases hb
    refine⟨u',?_,hr⟩
    cases d<;>first | (exact absurd rfl (hd _)) | simp[Instr.typeAssert,aJ hu]
  ·cases hb
 ·cases hb
end
end Go.Proofs.YtodfajmihkagnaaGreatDoor.Am
namespace Go.Proofs.YtodfajmihkagnaaGreatDoor.Am
section
variable {P:Program} {G:Nat} {F:Nat->Prop} {W:World} {e:Em} {H:Hp} {w:World}
theorem akR {t:TypeId} {ps:List (Nat × AV)} {od:Array (Nat × Value)} {v:AV} (hp:sX e ps od.toList) (hb:D8 P t ps=some v) (w:World) :
  ∃ v',(Instr.build t od).run P w = .ok v' w/\VR e v v':=by
 unfold D8 at hb
 split at hb
 ·rename_i z fs hz hu
  split at hb
  ·rename_i pl lB
   simp only[aaF] at hb
   obtain⟨out,hf,rfl⟩:=hb
   exact alA hz hu lB hp hf w
  ·cases hb
 ·rename_i z n el hz hu
  split at hb
  ·rename_i s hs
   simp only[aaF] at hb
   obtain⟨out,hf,rfl⟩:=hb
   exact anJ hz hu hs hp hf w
  ·cases hb
 ·cases hb
theorem aP.B0 {ρ:Operand->AV} {σ:Operand->Value} (h:∀ x,VR e (ρ x) (σ x)) (l:Array Operand):aP e (l.toList.map ρ) (l.map σ).toList:=by
 rw[Array.toList_map];exact aP.map h _
theorem ah4 (h:RH G F W e H w) {b:Builtin} {cp:Array TypeId} {ty:TypeId} {cs:Array Bool} {args:List AV} {Cj:Array Value} {v:AV} {H':Hp} (ha:aP e args Cj.toList) (hb:gI P b cp args H=some (v,H')) :
  eu P G F W e v H' ((builtin b cp ty cs Cj).run P w):=by
 have two:∀ {s x:AV},aP e [s,x] Cj.toList->∃ s' x',Cj = #[s',x']/\VR e s s'/\VR e x x':=by
  intro s x h2
  obtain⟨s',r,h1,hs,hr⟩:=h2.cons_inv
  obtain⟨x',r',rfl,hx,eV⟩:=hr.cons_inv
  rw[eV.jQ] at h1
  exact⟨s',x',ado.1 h1,hs,hx⟩
 have one:∀ {s:AV},aP e [s] Cj.toList->∃ s',Cj = #[s']/\VR e s s':=by
  intro s h2
  obtain⟨s',r,h1,hs,hr⟩:=h2.cons_inv
  rw[hr.jQ] at h1
  exact⟨s',ado.1 h1,hs⟩
 unfold gI at hb
 split at hb
 ·obtain⟨s',x',rfl,hs,hx⟩:=two ha
  obtain⟨v',w',e',h1,h2,h3,h4⟩:=afn (P:=P) (ty:=ty) h hs hx hb
  exact eu.val h1 h2 h3 h4
 ·obtain⟨s',x',rfl,hs,hx⟩:=two ha
  obtain⟨v',w',h1,h3,h4⟩:=acQ (P:=P) (ty:=ty) h hs hx hb
  exact eu.val h1 e.le_refl h3 h4
 ·obtain⟨s',x',rfl,hs,hx⟩:=two ha
  simp only[aaF,ab7] at hb
  obtain⟨H2,hd,rfl,rfl⟩:=hb
  obtain⟨w',h1,h3⟩:=acX (P:=P) (ty:=ty) h hs hx hd
  exact eu.val h1 e.le_refl h3 .undef
 ·obtain⟨s',rfl,hs⟩:=one ha
  simp only[aaF,ab7] at hb
  obtain⟨H2,hd,rfl,rfl⟩:=hb
  obtain⟨w',h1,h3⟩:=amo (P:=P) (ty:=ty) h hs hd
  exact eu.val h1 e.le_refl h3 .undef
 ·obtain⟨s',rfl,hs⟩:=one ha
  simp only[aaF,ab7] at hb
  obtain⟨v2,hd,rfl,rfl⟩:=hb
  obtain⟨v',h1,h3⟩:=aeK (P:=P) (ty:=ty) h hs hd
  exact eu.pure h h1 h3
 ·obtain⟨s',rfl,hs⟩:=one ha
  simp only[aaF,ab7] at hb
  obtain⟨v2,hd,rfl,rfl⟩:=hb
  obtain⟨v',h1,h3⟩:=aja (P:=P) (ty:=ty) hs hd w
  exact eu.pure h h1 h3
 ·rename_i x r
  simp only[aaF,ab7] at hb
  obtain⟨v2,hd,rfl,rfl⟩:=hb
  obtain⟨x',r',lD,hx,hr⟩:=ha.cons_inv
  obtain⟨v',h1,h3⟩:=VG (P:=P) (w:=w) hx hr hd
  refine eu.pure h (v':=v') ?_ h3
  unfold Builtin.min_
  rw[lD]
  exact h1
 ·rename_i x r
  simp only[aaF,ab7] at hb
  obtain⟨v2,hd,rfl,rfl⟩:=hb
  obtain⟨x',r',lD,hx,hr⟩:=ha.cons_inv
  obtain⟨v',h1,h3⟩:=Vm (P:=P) (w:=w) hx hr hd
  refine eu.pure h (v':=v') ?_ h3
  unfold Builtin.max_
  rw[lD]
  exact h1
 ·obtain⟨s',rfl,hs⟩:=one ha
  cases hs;cases hb
  exact eu.pure h (Go.Lib.run_unsafeSliceData_nil (P:=P) w cp ty 0 0) .fB
 ·rename_i i off l c a1 a2
  obtain⟨s',rfl,hs⟩:=one ha
  cases hl:Nat.blt 0 l with
  | false=>rw[hl] at hb;cases hb
  | true=>
   rw[hl] at hb
   cases hb
   rw[adq] at hl
   rcases hs.lz with⟨o,cc,hi,ho,kK,hc,iO,hn,rfl⟩ | ⟨rfl,_,a,rfl⟩
   ·exact eu.pure h (Go.Lib.run_unsafeSliceData_row (P:=P) w cp ty ⟨e.b i,o,none⟩ l cc (by omega)) (.ptr _ _ _ hi ho)
   ·omega
 ·rename_i p k n
  obtain⟨p',k',rfl,hp,hk⟩:=two ha
  cases hk.fN
  obtain⟨v',w',h1,h3,h4⟩:=ahI (P:=P) (ty:=ty) h hp hb
  exact eu.val h1 e.le_refl h3 h4
 ·cases hb
theorem ajD {x v:AV} {x':Value} (hx:VR e x x') (hb:aW x=some v) :
  v=x/\((∃ a,x' = .pointer (some a))\/(∃ f a b,x' = .func (.func f) a b)\/∃ t u,x' = .iface t u):=by
 unfold aW at hb
 split at hb
 ·cases hb
  obtain⟨o,_,_,rfl⟩:=hx.p8
  exact⟨rfl,.inl ⟨_,rfl⟩⟩
 ·cases hb;cases hx;exact⟨rfl,.inr (.inl ⟨_,_,_,rfl⟩)⟩
 ·cases hb;cases hx;exact⟨rfl,.inr (.inr ⟨_,_,rfl⟩)⟩
 ·cases hb
end
theorem ua.map {e:Em} {ρ:Operand->AV} {σ:Operand->Value} (h:∀ x,VR e (ρ x) (σ x)):∀ o:Option Operand,ua e (o.map ρ) (o.map σ)
 | none=>trivial
 | some x=>h x
theorem sX.B0 {e:Em} {ρ:Operand->AV} {σ:Operand->Value} (h:∀ x,VR e (ρ x) (σ x)) (l:Array (Nat × Operand)) :
  sX e (l.toList.map fun (i,x)=>(i,ρ x)) (l.map fun (i,x)=>(i,σ x)).toList:=by
 rw[Array.toList_map];exact sX.map h _
set_option maxHeartbeats 2000000 in
theorem an0 {P:Program} {G:Nat} {F:Nat->Prop} {W:World} {e:Em} {H:Hp} {w:World} (h:RH G F W e H w) {ρ:Operand->AV} {σ:Operand->Value} (hρ:∀ x,VR e (ρ x) (σ x)) {o:Oper} {v:AV} {H':Hp} (ha:iJ P ρ o H=some (v,H')) :
  eu P G F W e v H' ((execOp σ o).run P w):=by
 unfold iJ at ha
 unfold execOp
 split at ha
 ·rename_i x ba
  cases ha
  rw[ba]
  exact⟨.value (σ x),w,e,σ x,rfl,.inl rfl,e.le_refl,h,hρ x⟩
 ·rename_i x ba
  cases ha
  rw[ba]
  exact⟨.value (σ x),w,e,σ x,rfl,.inl rfl,e.le_refl,h,hρ x⟩
 ·rename_i c a b ba
  rw[ba]
  split at ha
  ·rename_i t ht
   cases ha
   have hc:=hρ c
   rw[ht] at hc
   have WI:=hc.so
   cases t with
   | true=>exact⟨.value (σ a),w,e,σ a,by simp[WI,asBool],.inl rfl,e.le_refl,h,hρ a⟩
   | false=>exact⟨.value (σ b),w,e,σ b,by simp[WI,asBool],.inl rfl,e.le_refl,h,hρ b⟩
  ·cases ha
 ·rename_i t ba
  rw[ba]
  split at ha
  ·rename_i l hl
   simp only[aaF,ab7] at ha
   obtain⟨⟨i,H2⟩,hn,rfl,rfl⟩:=ha
   obtain⟨v',w',e',h1,h2,h3,h4⟩:=ams (P:=P) h hl hn
   exact eu.val h1 h2 h3 h4
  ·cases ha
 ·rename_i t x ba
  rw[ba]
  split at ha
  ·rename_i l hl
   simp only[aaF,ab7] at ha
   obtain⟨⟨i,H2⟩,hn,rfl,rfl⟩:=ha
   obtain⟨v',w',e',h1,h2,h3,h4⟩:=ad2 (P:=P) h (hρ x) hl hn
   exact eu.val h1 h2 h3 h4
  ·cases ha
 ·rename_i t parts ba
  rw[ba]
  simp only[aaF,ab7] at ha
  obtain⟨v2,hb,rfl,rfl⟩:=ha
  obtain⟨v',h1,h2⟩:=akR (sX.B0 hρ parts) hb w
  exact eu.pure h h1 h2
 ·rename_i t len parts ba
  rw[ba]
  obtain⟨v',w',e',h1,h2,h3,h4⟩:=adL (P:=P) h (sX.B0 hρ parts) ha
  exact eu.val h1 h2 h3 h4
 ·rename_i t m k x ba
  rw[ba]
  simp only[aaF,ab7] at ha
  obtain⟨H2,hb,rfl,rfl⟩:=ha
  obtain⟨w',h1,h3⟩:=RW (P:=P) h (hρ m) (hρ k) (hρ x) hb
  exact eu.unit h1 e.le_refl h3
 ·rename_i t m k x ba
  rw[ba]
  simp only[aaF,ab7] at ha
  obtain⟨H2,hb,rfl,rfl⟩:=ha
  obtain⟨w',h1,h3⟩:=RW (P:=P) h (hρ m) (hρ k) (hρ x) hb
  exact eu.unit h1 e.le_refl h3
 ·rename_i t a ba
  rw[ba]
  simp only[aaF,ab7] at ha
  obtain⟨v2,hb,rfl,rfl⟩:=ha
  obtain⟨v',h1,h2⟩:=Zd h (hρ a) hb
  exact eu.pure h h1 h2
 ·rename_i t a x ba
  rw[ba]
  simp only[aaF,ab7] at ha
  obtain⟨H2,hb,rfl,rfl⟩:=ha
  obtain⟨w',h1,h3⟩:=anx (P:=P) h (hρ a) (hρ x) hb
  exact eu.unit h1 e.le_refl h3
 ·rename_i x ba
  rw[ba]
  simp only[aaF,ab7] at ha
  obtain⟨v2,hb,rfl,rfl⟩:=ha
  obtain⟨rfl,h1⟩:=ajD (hρ x) hb
  refine⟨.value (σ x),w,e,σ x,?_,.inl rfl,e.le_refl,h,hρ x⟩
  rcases h1 with⟨a,q⟩ | ⟨f,a,b,q⟩ | ⟨t,u,q⟩<;>(simp only[q];rfl)
 ·rename_i op t x y ty ba
  rw[ba]
  cases hg:sw P op t x y (ρ x) (ρ y) with
  | false=>rw[hg] at ha;cases ha
  | true=>
   rw[hg] at ha
   simp only[cond_true,aaF,ab7] at ha
   obtain⟨v2,hb,rfl,rfl⟩:=ha
   obtain⟨v',h1,h2⟩:=ako h (hρ x) (hρ y) hb
   have h0:=anl (w:=w) (hρ x) (hρ y) hg hb
   refine eu.pure h (v':=v') ?_ h2
   rw[Sem.run_bind,h0]
   exact h1
 ·rename_i op t x ba
  rw[ba]
  simp only[aaF,ab7] at ha
  obtain⟨v2,hb,rfl,rfl⟩:=ha
  obtain⟨v',h1,h2⟩:=aj3 (P:=P) (hρ x) hb w
  exact eu.pure h h1 h2
 ·rename_i a b x ba
  rw[ba]
  obtain⟨v',w',e',h1,h2,h3,h4⟩:=ajQ (P:=P) h (hρ x) ha
  exact eu.val h1 h2 h3 h4
 ·rename_i t x ba
  rw[ba]
  simp only[aaF,ab7] at ha
  obtain⟨v2,hb,rfl,rfl⟩:=ha
  unfold Ju at hb
  split at hb
  ·cases hb
  ·rename_i d aH hu
   cases hb
   have hd:∀ ms,d ≠ .interface ms:=fun ms q=>aH ms q
   refine eu.pure h (v' := .iface t (σ x)) ?_ (.iface _ _ _ (hρ x))
   cases d<;>first | (exact absurd rfl (hd _)) | simp[Instr.makeInterface,aJ hu]
  ·cases hb
 ·rename_i fn a b ba
  rw[ba]
  simp only[aaF,ab7] at ha
  obtain⟨v2,hb,rfl,rfl⟩:=ha
  have h1:=aP.B0 hρ a
  have h2:=aP.B0 hρ b
  unfold K6 at hb
  split at hb
  ·cases hb
  ·rename_i aH
   cases hb
   exact eu.pure h (v' := .func fn (a.map σ) (b.map σ)) (by simp[Instr.makeFunc]) (.func fn aH _ _ _ _ h1.1 h2.1 h1.2 h2.2)
 ·rename_i t ba
  rw[ba]
  simp only[aaF,ab7] at ha
  obtain⟨⟨i,H2⟩,hn,rfl,rfl⟩:=ha
  obtain⟨v',w',e',h1,h2,h3,h4⟩:=adS (P:=P) (t:=t) h hn
  exact eu.val h1 h2 h3 h4
 ·rename_i t l c ba
  rw[ba]
  obtain⟨v',w',e',h1,h2,h3,h4⟩:=akm (P:=P) h (hρ l) (hρ c) ha
  exact eu.val h1 h2 h3 h4
 ·rename_i t x lo hi mx ba
  rw[ba]
  simp only[aaF,ab7] at ha
  obtain⟨v2,hb,rfl,rfl⟩:=ha
  obtain⟨v',h1,h2⟩:=am7 h (hρ x) (ua.map hρ lo) (ua.map hρ hi) (ua.map hρ mx) hb
  exact eu.pure h h1 h2
 ·rename_i t x f ba
  rw[ba]
  simp only[aaF,ab7] at ha
  obtain⟨v2,hb,rfl,rfl⟩:=ha
  unfold Ks at hb
  split at hb
  ·rename_i fs i off hu hx
   split at hb
   ·rename_i fd EI
    cases hp:xJ P fd.type with
    | false=>rw[hp] at hb;cases hb
    | true=>
     rw[hp] at hb
     cases hb
     obtain⟨n,hn⟩:∃ n,sz P fd.type=some (n+1):=by
      unfold xJ at hp
      split at hp
      ·rename_i n hn;exact⟨n,hn⟩
      ·cases hp
     have nQ:=hρ x
     rw[hx] at nQ
     obtain⟨v',h1,h2⟩:=amA nQ hu EI hn (by omega) w
     exact eu.pure h h1 h2
   ·cases hb
  ·cases hb
 ·rename_i t x f ba
  rw[ba]
  simp only[aaF,ab7] at ha
  obtain⟨v2,hb,rfl,rfl⟩:=ha
  unfold HW at hb
  split at hb
  ·rename_i fs cs hu hx
   split at hb
   ·rename_i fd EI
    obtain⟨v',h1,h2⟩:=aeO (hρ x) hu EI hx hb w
    exact eu.pure h h1 h2
   ·cases hb
  ·cases hb
 ·rename_i t x ix ba
  rw[ba]
  simp only[aaF,ab7] at ha
  obtain⟨v2,hb,rfl,rfl⟩:=ha
  obtain⟨v',h1,h2⟩:=ahg (hρ x) (hρ ix) hb w
  exact eu.pure h h1 h2
 ·rename_i t x ix ba
  rw[ba]
  simp only[aaF,ab7] at ha
  obtain⟨v2,hb,rfl,rfl⟩:=ha
  obtain⟨v',h1,h2⟩:=ad4 (hρ x) (hρ ix) hb w
  exact eu.pure h h1 h2
 ·rename_i t x k ok ba
  rw[ba]
  simp only[aaF,ab7] at ha
  obtain⟨v2,hb,rfl,rfl⟩:=ha
  obtain⟨v',h1,h2⟩:=agB h (hρ x) (hρ k) hb
  exact eu.pure h h1 h2
 ·rename_i t x ba
  rw[ba]
  obtain⟨v',w',e',h1,h2,h3,h4⟩:=acz (P:=P) h (hρ x) ha
  exact eu.val h1 h2 h3 h4
 ·rename_i it qJ ba
  rw[ba]
  obtain⟨v',w',h1,h3,h4⟩:=amH (P:=P) (t:=o.type) h (hρ it) ha
  exact eu.val h1 e.le_refl h3 h4
 ·rename_i it ba
  rw[ba]
  simp only[aaF,ab7] at ha
  obtain⟨v2,hb,rfl,rfl⟩:=ha
  obtain⟨v',h1,h2⟩:=ame (P:=P) h (hρ it) hb
  exact eu.pure h h1 h2
 ·rename_i t ix ba
  rw[ba]
  split at ha
  ·rename_i l hl
   simp only[aaF,ab7] at ha
   obtain⟨v2,hb,rfl,rfl⟩:=ha
   have ht:=hρ t
   rw[hl] at ht
   obtain⟨vs,sj,hr⟩:=ht.aa5
   obtain⟨v',cl,iq⟩:=hr.get hb
   rw[adw] at cl
   exact eu.pure h (v':=v') (by rw[sj];simp[Instr.extract,cl]) iq
  ·cases ha
 ·rename_i x t uT ok ba
  rw[ba]
  simp only[aaF,ab7] at ha
  obtain⟨v2,hb,rfl,rfl⟩:=ha
  obtain⟨v',h1,h2⟩:=acN (P:=P) (t:=t) (hρ x) hb w
  exact eu.pure h h1 h2
 ·rename_i c ba
  rw[ba]
  split at ha
  ·rename_i b hc
   have lD:=aP.B0 hρ c.args
   have Aj:(do let d <-resolve σ c o.type;invoke d.target d.args:Sem Next)=builtin b c.argTypes o.type (c.args.map fun | .const _=>true | _=>false) (c.args.map σ):=by
    unfold resolve
    rw[hc]
    rfl
   show eu P G F W e v H' ((do let d <-resolve σ c o.type;invoke d.target d.args:Sem Next).run P w)
   rw[Aj]
   exact ah4 h lD ha
  ·cases ha
 ·cases ha
end Go.Proofs.YtodfajmihkagnaaGreatDoor.Am
namespace Go.Proofs.YtodfajmihkagnaaGreatDoor.Am
variable {P:Program}
theorem MB {ρ ρ':Operand->AV} {l:List Operand} (h:∀ x∈l,ρ x=ρ' x):l.map ρ=l.map ρ':=List.map_congr_left h
theorem W0 {ρ ρ':Operand->AV} {l:List (Nat × Operand)} (h:∀ x∈l.map (·.2),ρ x=ρ' x):(l.map fun (i,x)=>(i,ρ x))=l.map fun (i,x)=>(i,ρ' x):=by
 apply List.map_congr_left
 intro a ha
 obtain⟨i,x⟩:=a
 simp only
 rw[h x (acI.2 ⟨(i,x),ha,rfl⟩)]
theorem adQ {ρ ρ':Operand->AV} (o:Oper) (H:Hp) (h:∀ x∈o.op.operands.toList,ρ x=ρ' x):iJ P ρ o H=iJ P ρ' o H:=by
 unfold iJ
 cases ba:o.op<;>rw[ba] at h<;>simp only[Op.operands] at h ⊢
 case move x=>rw[h x (by simp)]
 case assign x=>rw[h x (by simp)]
 case pick c a b=>rw[h c (by simp),h a (by simp),h b (by simp)]
 case box t x=>rw[h x (by simp)]
 case build t ps=>rw[W0 (by simpa using h)]
 case buildSlice t l ps=>rw[W0 (by simpa using h)]
 case insert t m k v=>rw[h m (by simp),h k (by simp),h v (by simp)]
 case mapUpdate t m k v=>rw[h m (by simp),h k (by simp),h v (by simp)]
 case load t a=>rw[h a (by simp)]
 case store t a v=>rw[h a (by simp),h v (by simp)]
 case nilCheck x=>rw[h x (by simp)]
 case binOp op t x y ty=>rw[h x (by simp),h y (by simp)]
 case unOp op t x=>rw[h x (by simp)]
 case convert a b x=>rw[h x (by simp)]
 case makeInterface t x=>rw[h x (by simp)]
 case makeFunc fn a b=>
  rw[MB (l:=a.toList) (fun x hx=>h x (by simp at hx ⊢;exact .inl hx)),MB (l:=b.toList) (fun x hx=>h x (by simp at hx ⊢;exact .inr hx))]
 case makeMap t r=>cases r<;>rfl
 case makeSlice t l c=>rw[h l (by simp),h c (by simp)]
 case slice t x lo hi mx=>
  have q:∀ y:Option Operand,(∀ z∈y.toList,ρ z=ρ' z)->y.map ρ=y.map ρ':=by
   intro y hy;cases y with
   | none=>rfl
   | some z=>simp only[ady];rw[hy z (by simp)]
  rw[h x (by simp),q lo (fun z hz=>h z (by simp at hz ⊢;simp[hz])),q hi (fun z hz=>h z (by simp at hz ⊢;simp[hz])),q mx (fun z hz=>h z (by simp at hz ⊢;simp[hz]))]
 case fieldAddr t x f=>rw[h x (by simp)]
 case field t x f=>rw[h x (by simp)]
 case indexAddr t x ix=>rw[h x (by simp),h ix (by simp)]
 case index t x ix=>rw[h x (by simp),h ix (by simp)]
 case lookup t x k ok=>rw[h x (by simp),h k (by simp)]
 case range t x=>rw[h x (by simp)]
 case next it s=>rw[h it (by simp)]
 case entry it=>rw[h it (by simp)]
 case typeAssert x t uT ok=>rw[h x (by simp)]
 case extract t ix=>rw[h t (by simp)]
 case call c=>
  cases hc:c.callee with
  | builtin b=>
   simp only
   rw[MB (l:=c.args.toList) (fun x hx=>h x (by simp[Call.operands,hc] at hx ⊢;exact hx))]
  | value f=>rfl
  | invoke r m=>rfl
end Go.Proofs.YtodfajmihkagnaaGreatDoor.Am
namespace Go.Proofs.YtodfajmihkagnaaGreatDoor.Am
def De (G:Nat) (F:Nat->Prop) (W:World) (e:Em) (v:AV) (H':Hp) (en:Ending) (w':World):Prop:=
 ∃ e' v',en = .returned v'/\e.le e'/\RH G F W e' H' w'/\VR e' v v'
def rC (P:Program) (cf:CF):Prop:=
 ∀ (g:AV) (args:List AV) (H:Hp) (v:AV) (H':Hp),cf g args H=some (v,H')->
  ∃ bf first cap,g = .func (.func bf) first cap/\∀ (F:Nat->Prop) (W:World) (e:Em) (w:World) (aY:Array Value),RH P.globals.size F W e H w->aP e (first++args++cap) aY.toList->
   (∃ v' w' e',(callFunc bf aY).run P w = .ok (.value v') w'/\e.le e'/\RH P.globals.size F W e' H' w'/\VR e' v v')\/
   ((callFunc bf aY).run P w = .ok (.enter bf aY) w/\Calls P bf aY w (De P.globals.size F W e v H'))
section
variable {P:Program} {F:Nat->Prop} {W:World} {e:Em} {H:Hp} {w:World}
structure TR (e:Em) (n:Nat) (t:Tm) (a:Act):Prop where
 size:n<=a.tmps.size
 val:∀ x,VR e ((t.get x).getD bS) (a.tmps.getD x undef)
theorem TR.mono {e e':Em} (h:e.le e') {n:Nat} {t:Tm} {a:Act} (k:TR e n t a):TR e' n t a:=⟨k.size,fun x=>(k.val x).mono h⟩
theorem VR.ev (h:RH P.globals.size F W e H w) {n:Nat} {t:Tm} {a:Act} (ht:TR e n t a) (x:Operand):VR e (ev P.globals.size t x) (a.eval x):=by
 cases x with
 | tmp d=>exact ht.val d
 | const v=>
  simp only[Am.ev,Act.eval]
  cases hc:Am.jB v with
  | none=>exact .du v
  | some c=>exact .jB hc
 | global g=>
  simp only[Am.ev,Act.eval]
  cases hb:Nat.blt g P.globals.size with
  | false=>exact .du _
  | true=>
   rw[adq] at hb
   obtain⟨h1,h2,h3⟩:=h.pf g hb
   have:=VR.ptr (e:=e) g 0 0 h1 (by rw[h3];simp)
   rw[h2] at this
   exact this
 | func f=>exact .func _ (by simp) [] [] #[] #[] rfl rfl (by simp) (by simp)
theorem Xf {t:Array Value} {d x:Nat} {v:Value} (h:d<t.size):(t.setIfInBounds d v).getD x undef=if x=d then v else t.getD x undef:=by
 simp only[aeo]
 by_cases hx:x=d
 ·subst hx;rw[afd h,if_pos rfl];rfl
 ·rw[adP (fun q=>hx q.symm),if_neg hx]
theorem TR.put {n:Nat} {t t':Tm} {a:Act} (h:TR e n t a) {dst:Option Tmp} {v:AV} {v':Value} (hp:gG n dst v t=some t') (hv:VR e v v'):TR e n t' (a.put dst v'):=by
 unfold gG at hp
 split at hp
 ·cases hp;exact h
 ·rename_i d
  cases hb:(Nat.blt d n&&Nat.blt d 4294967296) with
  | false=>rw[hb] at hp;cases hp
  | true=>
   rw[hb] at hp
   cases hp
   simp only[aa9,adq] at hb
   have aQ:d<a.tmps.size:=ac8 hb.1 h.size
   refine⟨by simp only[Act.put,Array.size_setIfInBounds];exact h.size,fun x => ?_⟩
   simp only[Act.put]
   rw[Xf aQ,Tr.FJ _ _ _ _ _ (by omega)]
   by_cases hx:x=d
   ·rw[if_pos hx,if_pos hx];exact hv
   ·rw[if_neg hx,if_neg hx];exact h.val x
theorem VR.agm {v:AV} {b:Bool} (h:VR e v (.bool b)):v = .bool b\/v = .du:=by
 cases h with
 | du=>exact .inr rfl
 | bool=>exact .inl rfl
theorem IL {ops:Array Oper} {o:Oper} {t:Tm} {a:Act} {b:Bool} (hw:pz ops o t=some b) (hT:∀ d,FY ops o=some d->VR e ((t.get d).getD bS) (a.tmps.getD d undef)) :
  Region.wanted o (yielded ops a.tmps)=b:=by
 unfold pz at hw
 unfold Region.wanted
 split at hw
 ·rename_i hg
  cases hw
  simp[hg]
 ·rename_i j want hg
  simp only[hg]
  have J0:FY ops o=(ops[j]?).bind (·.dst):=by simp[FY,hg]
  unfold yielded
  split at hw
  ·rename_i hd
   cases hw
   simp[hd]
  ·rename_i d hd
   have hv:=hT d (by rw[J0,hd])
   simp only[hd,acx]
   rw[aeo] at hv
   split at hw
   ·rename_i hn
    cases hw
    rw[hn] at hv
    obtain⟨vs,sj,_⟩:=VR.aa5 (l:=[]) hv
    cases hq:a.tmps[d]? with
    | none=>simp
    | some u=>rw[hq] at sj;simp at sj;subst sj;simp
   ·rename_i c hc
    cases hw
    rw[hc] at hv
    have:=hv.so
    cases hq:a.tmps[d]? with
    | none=>rw[hq] at this;simp[undef] at this
    | some u=>rw[hq] at this;simp at this;subst this;simp
   ·cases hw
   ·rename_i u yz J6 hu
    cases hw
    rw[hu] at hv
    cases hq:a.tmps[d]? with
    | none=>simp
    | some z=>
     rw[hq] at hv
     simp at hv
     cases z<;>simp
     rename_i b
     rcases hv.agm with r | r
     ·exact (yz _ r).elim
     ·exact (J6 r).elim
theorem anq {σ:Operand->Value} {f:Operand} {args:Array Operand} {cp:Array TypeId} {ty bf:Nat} {first cap:Array Value} (hf:σ f = .func (.func bf) first cap) :
  (do let d <-resolve σ { callee := .value f,args,argTypes:=cp } ty;invoke d.target d.args:Sem Next)=callFunc bf (first++args.map σ++cap):=by
 unfold resolve
 simp only[hf,Deferred.ofValue]
 rfl
theorem E9 {cf:CF} (gj:rC P cf) (h:RH P.globals.size F W e H w) {t:Tm} {a:Act} {o:Oper} {v:AV} {H':Hp} (ho:oU P cf t o H=some (v,H'))
  (hT:∀ x∈o.op.operands.toList,VR e (ev P.globals.size t x) (a.eval x)) {next:Act->World->Prop} {Q:Exit->Act->World->Prop}
  (hn:∀ e' v' w',e.le e'->RH P.globals.size F W e' H' w'->VR e' v v'->next (a.put o.dst v') w'):o.wp P a w next Q:=by
 classical
 let ρ:Operand->AV:=fun x=>if x∈o.op.operands.toList then ev P.globals.size t x else .du
 have hρ:∀ x,VR e (ρ x) (a.eval x):=by
  intro x
  simp only[ρ]
  split
  ·rename_i hx;exact hT x hx
  ·exact .du _
 have hρe:∀ x∈o.op.operands.toList,ev P.globals.size t x=ρ x:=by
  intro x hx;simp only[ρ,if_pos hx]
 have plain:iJ P (ev P.globals.size t) o H=some (v,H')->o.wp P a w next Q:=by
  intro hA
  rw[adQ o H hρe] at hA
  obtain⟨n,w',e',v',hr,hv,he,hR,iq⟩:=an0 h hρ hA
  unfold Oper.wp
  rw[hr]
  rcases hv with rfl | ⟨rfl,rfl⟩
  ·exact hn e' v' w' he hR iq
  ·exact hn e' _ w' he hR iq
 unfold oU at ho
 split at ho
 ·rename_i f args cp ba
  obtain⟨bf,first,cap,hg,hs⟩:=gj _ _ _ _ _ ho
  have PA:f∈o.op.operands.toList:=by simp[ba,Op.operands,Call.operands]
  have hf:=hT f PA
  rw[hg] at hf
  cases Rb:a.eval f with
  | func fn Ob rF=>
   rw[Rb] at hf
   cases hf with
   | func _ _ _ _ _ _ ha hc h1 h2=>
   have lD:aP e (args.toList.map (ev P.globals.size t)) (args.map a.eval).toList:=by
    rw[Array.toList_map]
    refine⟨by simp,fun i x x' hx KS => ?_⟩
    simp only[ada,aaF] at hx KS
    obtain⟨z,hz,rfl⟩:=hx
    obtain⟨z',yW,rfl⟩:=KS
    rw[hz] at yW
    cases yW
    exact hT z (by simp[ba,Op.operands,Call.operands];exact .inr (by have:=aa2 hz;simpa using this))
   have kD:aP e (first++args.toList.map (ev P.globals.size t)++cap) (Ob++args.map a.eval++rF).toList:=by
    have q1:aP e first Ob.toList:=⟨ha,h1⟩
    have q2:aP e cap rF.toList:=⟨hc,h2⟩
    have:=(q1.append lD).append q2
    simpa using this
   have hex:execOp a.eval o=callFunc bf (Ob++args.map a.eval++rF):=by
    unfold execOp
    rw[ba]
    exact anq Rb
   unfold Oper.wp
   rw[hex]
   rcases hs F W e w _ h kD with⟨v',w',e',hr,he,hR,iq⟩ | ⟨hr,afT⟩
   ·rw[hr];exact hn e' v' w' he hR iq
   ·rw[hr]
    refine afT.mono ?_
    rintro en w'' ⟨e',v',rfl,he,hR,iq⟩
    exact hn e' v' w'' he hR iq
  | _=>rw[Rb] at hf;cases hf
 ·exact plain ho
theorem YI {cf:CF} (gj:rC P cf) {ops:Array Oper} {n:Nat} {Q:Exit->Act->World->Prop} {t':Tm} {H':Hp}:∀ (r:List Oper) (i:Nat) (t:Tm) (H:Hp) (e:Em) (a:Act) (w:World),
  ops.toList.drop i=r->rI P cf n ops r t H=some (t',H')->RH P.globals.size F W e H w->TR e n t a->
  (∀ e' a' w',e.le e'->RH P.globals.size F W e' H' w'->TR e' n t' a'->a'.defers=a.defers->Q .normal a' w')->wpOps P ops Q (List.range' i r.length) a w:=by
 intro r
 induction r with
 | nil=>
  intro i t H e a w hd hs hR hT hQ
  cases hs
  exact hQ e a w e.le_refl hR hT rfl
 | cons o r ih=>
  intro i t H e a w hd hs hR hT hQ
  have hi:ops[i]? = some o:=by
   have:=congrArg (fun l=>l[0]?) hd
   simpa[aeA,adw] using this
  have fc:ops.toList.drop (i+1)=r:=by
   have:=congrArg List.tail hd
   simpa[List.tail_drop] using this
  rw[abx,aiw]
  unfold rI at hs
  split at hs
  ·rename_i hw
   split at hs
   ·rename_i v H1 ho
    split at hs
    ·rename_i t1 hp
     simp only[wpOps,hi,IL (e:=e) (a:=a) hw (fun d _=>hT.val d),if_true]
     left
     refine E9 gj hR ho (fun x _=>VR.ev hR hT x) ?_
     intro e' v' w' he bJ hv
     have cZ:=(hT.mono he).put hp hv
     refine ih (i+1) t1 H1 e' _ w' fc hs bJ cZ ?_
     intro e2 a2 w2 AG gJ mF zP
     refine hQ e2 a2 w2 (Em.le_trans he AG) gJ mF (zP.trans ?_)
     cases o.dst<;>rfl
    ·cases hs
   ·cases hs
  ·rename_i hw
   split at hs
   ·rename_i t1 hp
    simp only[wpOps,hi,IL (e:=e) (a:=a) hw (fun d _=>hT.val d),abD,if_false]
    have cZ:=hT.put hp VR.undef
    refine ih (i+1) t1 H e _ w fc hs hR cZ ?_
    intro e2 a2 w2 AG gJ mF zP
    refine hQ e2 a2 w2 AG gJ mF (zP.trans ?_)
    cases o.dst<;>rfl
   ·cases hs
  ·cases hs
end
end Go.Proofs.YtodfajmihkagnaaGreatDoor.Am
namespace Go.Proofs.YtodfajmihkagnaaGreatDoor.Am
def B6 (o:Oper) (acc:List Nat):Nat:=o.after.toList.foldl (fun s e=>if Region.binds .any e then s ||| 2 ^ e.on ||| acc.getD e.on 0 else s) 0
theorem YU (acc:List Nat) (j:Nat):∀ (l:List Edge) (s:Nat),(l.foldl (fun s e=>if Region.binds .any e then s ||| 2 ^ e.on ||| acc.getD e.on 0 else s) s).testBit j=true->
  s.testBit j=true\/∃ e∈l,Region.binds .any e=true/\(j=e.on\/(acc.getD e.on 0).testBit j=true)
 | [],s,h => .inl h
 | e::l,s,h=>by
  rw[List.foldl_cons] at h
  rcases YU acc j l _ h with h1 | ⟨e',KW,hb,hj⟩
  ·by_cases wN:Region.binds .any e=true
   ·rw[if_pos wN] at h1
    rw[Nat.testBit_or,Nat.testBit_or,af0,af0] at h1
    rcases h1 with (h1 | h1) | h1
    ·exact .inl h1
    ·right
     refine⟨e,List.mem_cons_self ..,wN,.inl ?_⟩
     rw[Nat.testBit_two_pow] at h1
     exact (of_decide_eq_true h1).symm
    ·exact .inr ⟨e,List.mem_cons_self ..,wN,.inr h1⟩
   ·rw[if_neg wN] at h1
    exact .inl h1
  ·exact .inr ⟨e',List.mem_cons_of_mem _ KW,hb,hj⟩
theorem YZ:∀ (r:List Oper) (acc:List Nat),(before r acc).length=acc.length+r.length
 | [],acc=>by simp[before]
 | o::r,acc=>by
  rw[before,YZ r]
  simp;omega
theorem Qc:∀ (r:List Oper) (acc:List Nat) (i:Nat),i<acc.length->(before r acc)[i]? = acc[i]?
 | [],acc,i,h=>by simp[before]
 | o::r,acc,i,h=>by
  rw[before,Qc r _ i (by simp;omega)]
  rw[abN h]
theorem Uv:∀ (r:List Oper) (acc:List Nat) (i:Nat) (o:Oper),r[i]? = some o->(before r acc)[acc.length+i]? = some (B6 o ((before r acc).take (acc.length+i)))
 | [],acc,i,o,h=>by simp at h
 | p::r,acc,i,o,h=>by
  cases i with
  | zero=>
   simp at h
   subst h
   rw[before,adx,Qc r _ _ (by simp)]
   have ht:(before r (acc++[B6 p acc])).take acc.length=acc:=by
    apply agM
    intro k
    rw[afW]
    split
    ·rw[Qc r _ k (by simp;omega),abN (by assumption)]
    ·rw[afj (by omega)]
   show (acc++[B6 p acc])[acc.length]? = some (B6 p ((before r (acc++[B6 p acc])).take acc.length))
   rw[ht]
   simp
  | succ i=>
   have:=Uv r (acc++[B6 p acc]) i o (by simpa using h)
   rw[aby,List.length_singleton] at this
   rw[before]
   have e1:acc.length+(i+1)=acc.length+1+i:=by omega
   rw[e1]
   exact this
structure Form (ops:Array Oper) (B:List Nat):Prop where
 len:B.length=ops.size
 back:∀ i o,ops[i]? = some o->∀ e∈o.after,Region.binds .any e=true->e.on<i
 bit:∀ i o,ops[i]? = some o->∀ j,(B.getD i 0).testBit j=true->∃ e∈o.after,Region.binds .any e=true/\(j=e.on\/(B.getD e.on 0).testBit j=true)
 one:∀ (i j:Nat) (oi oj:Oper) (d:Tmp),ops[i]? = some oi->ops[j]? = some oj->oi.dst=some d->oj.dst=some d->i=j
 rd:∀ (i j:Nat) (oi oj:Oper) (d:Tmp),ops[i]? = some oi->ops[j]? = some oj->oi.dst=some d->i≠j->By ops oj d=true->if i<j then (B.getD j 0).testBit i=true else (B.getD i 0).testBit j=true
theorem af1 {ops:Array Oper} (h:wj ops=true):Form ops (before ops.toList []):=by
 unfold wj at h
 simp only at h
 have hlen:(before ops.toList []).length=ops.size:=by rw[YZ];simp
 have hz:∀ i o,ops[i]? = some o->(i,(o,(before ops.toList []).getD i 0))∈(List.range ops.size).zip (ops.toList.zip (before ops.toList [])):=by
  intro i o ho
  have hi:i<ops.size:=(ab6.1 ho).1
  apply aa2 (i:=i)
  rw[List.getElem?_zip_eq_some]
  refine⟨by simp[hi],?_⟩
  rw[List.getElem?_zip_eq_some]
  refine⟨by simpa using ho,?_⟩
  simp only
  rw[afz,aaM (by rw[hlen];exact hi)]
  rfl
 rw[adn] at h
 have h1:∀ i o,ops[i]? = some o->∀ e∈o.after,Region.binds .any e=true->e.on<i:=by
  intro i o ho e he hb
  have:=h _ (hz i o ho)
  rw[aa9] at this
  have h2:=Array.all_eq_true_iff_forall_mem.1 this.1 e he
  rw[hb] at h2
  simpa using h2
 have h2:∀ i j oi oj,ops[i]? = some oi->ops[j]? = some oj->JL ops i oi ((before ops.toList []).getD i 0) j oj ((before ops.toList []).getD j 0)=true:=by
  intro i j oi oj hi hj
  have:=h _ (hz i oi hi)
  rw[aa9] at this
  exact adn.1 this.2 _ (hz j oj hj)
 refine⟨hlen,h1,?_,?_,?_⟩
 ·intro i o ho j hb
  have hi:i<ops.size:=(ab6.1 ho).1
  have Ia:=Uv ops.toList [] i o (by simpa using ho)
  simp only[acm,adt] at Ia
  rw[afz,Ia] at hb
  simp only[ae0] at hb
  rcases YU _ j _ 0 hb with hq | ⟨e,he,wN,hj⟩
  ·simp at hq
  ·have KW:e∈o.after:=by simpa using he
   refine⟨e,KW,wN,hj.imp id fun hq => ?_⟩
   have aQ:=h1 i o ho e KW wN
   rw[afz,afW,if_pos aQ] at hq
   rw[afz]
   exact hq
 ·intro i j oi oj d hi hj Be se
  have:=h2 i j oi oj hi hj
  unfold JL at this
  rw[Be] at this
  simp only[af0,aa9] at this
  rcases this with q | ⟨q,_⟩
  ·exact abC q
  ·simp[se] at q
 ·intro i j oi oj d hi hj Be aH hr
  have:=h2 i j oi oj hi hj
  unfold JL at this
  rw[Be] at this
  simp only[af0,aa9] at this
  rcases this with q | ⟨_,q⟩
  ·exact absurd (abC q) aH
  ·rcases q with q | q
   ·rw[hr] at q;simp at q
   ·by_cases aQ:i<j
    ·rw[if_pos aQ]
     have:Nat.blt i j=true:=by rw[adq];exact aQ
     rw[this] at q;exact q
    ·rw[if_neg aQ]
     have:Nat.blt i j=false:=by
      cases hb:Nat.blt i j
      ·rfl
      ·rw[adq] at hb;exact absurd hb aQ
     rw[this] at q;exact q
def kk (P:Program) (x:Bool) (o:Oper):Kd:=if x then kd P o else .pure
def KL (P:Program) (cf:CF) (n:Nat) (ops:Array Oper) (o:Oper) (x:Bool) (v:AV) (tp te jN jT:Tm) (hb hh sE wE:Hp):Prop:=
 pz ops o tp=some x/\
 match x,kd P o with
 | false,_=>v=bS/\gG n o.dst bS tp=some jN/\gG n o.dst bS te=some jT/\sE=hb/\wE=hh
 | true,.late=>iJ P (ev P.globals.size te) o hh=some (v,wE)/\gG n o.dst .du tp=some jN/\gG n o.dst v te=some jT/\sE=hb
 | true,.dE=>oU P cf te o hh=some (v,wE)/\gG n o.dst v tp=some jN/\gG n o.dst v te=some jT/\sE=wE
 | true,_=>(∃ h',iJ P (ev P.globals.size tp) o hb=some (v,h'))/\gG n o.dst v tp=some jN/\gG n o.dst v te=some jT/\sE=hb/\wE=hh
theorem ahY {P:Program} {cf:CF} {n:Nat} {ops:Array Oper} {B:List Nat} {tF:Tm} {HF:Hp}:∀ (r:List Oper) (bs:List Nat) (i:Nat) (tp te:Tm) (hb hh:Hp) (l:List jH),
  ops.toList.drop i=r->B.drop i=bs->kX P cf n ops i r bs tp te hb hh=some (l,tF,HF)->
  ∃ (TP TE:Nat->Tm) (HB HH:Nat->Hp) (V:Nat->AV) (X:Nat->Bool),TP i=tp/\TE i=te/\HB i=hb/\HH i=hh/\TE (i+r.length)=tF/\HH (i+r.length)=HF/\
   ∀ j o,i<=j->ops[j]? = some o->KL P cf n ops o (X j) (V j) (TP j) (TE j) (TP (j+1)) (TE (j+1)) (HB j) (HH j) (HB (j+1)) (HH (j+1))/\
    (⟨j,o,B.getD j 0,X j,kk P (X j) o,V j,TP j,HB j,HB (j+1)⟩:jH)∈l:=by
 intro r
 induction r with
 | nil=>
  intro bs i tp te hb hh l hd rY hr
  simp only[kX,acu,ab7] at hr
  obtain⟨rfl,rfl,rfl⟩:=hr
  refine⟨fun _=>tp,fun _=>te,fun _=>hb,fun _=>hh,fun _ => .du,fun _=>false,rfl,rfl,rfl,rfl,rfl,rfl,?_⟩
  intro j o hj ho
  have aQ:=(ab6.1 ho).1
  have:=congrArg List.length hd
  simp at this
  omega
 | cons o r ih=>
  intro bs i tp te hb hh l hd rY hr
  have hi:ops[i]? = some o:=by
   have:=congrArg (fun l=>l[0]?) hd
   simpa[aeA,adw] using this
  have fc:ops.toList.drop (i+1)=r:=by
   have:=congrArg List.tail hd
   simpa[List.tail_drop] using this
  cases bs with
  | nil=>simp[kX] at hr
  | cons b bs=>
   have Al:B.getD i 0=b:=by
    have:=congrArg (fun l=>l[0]?) rY
    simp[aeA] at this
    simp[afz,this]
   have agW:B.drop (i+1)=bs:=by
    have:=congrArg List.tail rY
    simpa[List.tail_drop] using this
   have fin:∀ (x:Bool) (v:AV) (jN jT:Tm) (sE wE:Hp) (l':List jH),KL P cf n ops o x v tp te jN jT hb hh sE wE->kX P cf n ops (i+1) r bs jN jT sE wE=some (l',tF,HF)->
     l=⟨i,o,b,x,kk P x o,v,tp,hb,sE⟩::l'->
     ∃ (TP TE:Nat->Tm) (HB HH:Nat->Hp) (V:Nat->AV) (X:Nat->Bool),TP i=tp/\TE i=te/\HB i=hb/\HH i=hh/\TE (i+(o::r).length)=tF/\HH (i+(o::r).length)=HF/\
   ∀ j o,i<=j->ops[j]? = some o->KL P cf n ops o (X j) (V j) (TP j) (TE j) (TP (j+1)) (TE (j+1)) (HB j) (HH j) (HB (j+1)) (HH (j+1))/\
    (⟨j,o,B.getD j 0,X j,kk P (X j) o,V j,TP j,HB j,HB (j+1)⟩:jH)∈l:=by
    intro x v jN jT sE wE l' ajM xT hl
    obtain⟨TP,TE,HB,HH,V,X,q1,q2,q3,q4,q5,q6,q7⟩:=ih bs (i+1) jN jT sE wE l' fc agW xT
    have aH:¬ i+1=i:=by omega
    refine⟨fun j=>if j=i then tp else TP j,fun j=>if j=i then te else TE j,fun j=>if j=i then hb else HB j,fun j=>if j=i then hh else HH j,fun j=>if j=i then v else V j,fun j=>if j=i then x else X j,
     by simp,by simp,by simp,by simp,?_,?_,?_⟩
    ·simp only[abx]
     rw[if_neg (by omega)]
     have:i+(r.length+1)=i+1+r.length:=by omega
     rw[this];exact q5
    ·simp only[abx]
     rw[if_neg (by omega)]
     have:i+(r.length+1)=i+1+r.length:=by omega
     rw[this];exact q6
    ·intro j oj hj va
     by_cases uk:j=i
     ·subst uk
      rw[hi] at va
      cases va
      simp only[if_true,if_neg aH,q1,q2,q3,q4,Al]
      refine⟨ajM,?_⟩
      rw[hl];exact List.mem_cons_self ..
     ·have Nx:¬ j+1=i:=by omega
      simp only[if_neg uk,if_neg Nx]
      obtain⟨s1,s2⟩:=q7 j oj (by omega) va
      exact⟨s1,by rw[hl];exact List.mem_cons_of_mem _ s2⟩
   unfold kX at hr
   split at hr
   ·rename_i hw
    split at hr
    ·rename_i hk
     split at hr
     ·rename_i v h' ba
      split at hr
      ·rename_i jN jT h1 h2
       simp only[aaF,Prod.exists,ab7] at hr
       obtain⟨l',a,b',xT,rfl,rfl,rfl⟩:=hr
       refine fin true v jN jT hb h' l' ⟨hw,?_⟩ xT (by simp[kk,hk])
       rw[hk];exact⟨ba,h1,h2,rfl⟩
      ·cases hr
     ·cases hr
    ·rename_i hk
     split at hr
     ·rename_i v h' ba
      split at hr
      ·rename_i jN jT h1 h2
       simp only[aaF,Prod.exists,ab7] at hr
       obtain⟨l',a,b',xT,rfl,rfl,rfl⟩:=hr
       refine fin true v jN jT h' h' l' ⟨hw,?_⟩ xT (by simp[kk,hk])
       rw[hk];exact⟨ba,h1,h2,rfl⟩
      ·cases hr
     ·cases hr
    ·rename_i tD fV
     split at hr
     ·rename_i v h' ba
      split at hr
      ·rename_i jN jT h1 h2
       simp only[aaF,Prod.exists,ab7] at hr
       obtain⟨l',a,b',xT,rfl,rfl,rfl⟩:=hr
       refine fin true v jN jT hb hh l' ⟨hw,?_⟩ xT (by simp[kk])
       cases cF:kd P o
       ·exact⟨⟨h',ba⟩,h1,h2,rfl,rfl⟩
       ·exact⟨⟨h',ba⟩,h1,h2,rfl,rfl⟩
       ·exact absurd cF tD
       ·exact absurd cF fV
      ·cases hr
     ·cases hr
   ·rename_i hw
    split at hr
    ·rename_i jN jT h1 h2
     simp only[aaF,Prod.exists,ab7] at hr
     obtain⟨l',a,b',xT,rfl,rfl,rfl⟩:=hr
     refine fin false bS jN jT hb hh l' ⟨hw,rfl,h1,h2,rfl,rfl⟩ xT (by simp[kk])
    ·cases hr
   ·cases hr
end Go.Proofs.YtodfajmihkagnaaGreatDoor.Am
