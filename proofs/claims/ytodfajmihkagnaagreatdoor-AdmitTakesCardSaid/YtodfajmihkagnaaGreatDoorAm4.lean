/- Laws that the proof uses. -/
import Derived.Test.YtodfajmihkagnaaGreatDoorAm3
set_option maxHeartbeats 2000000
set_option linter.unusedVariables false
set_option linter.unusedSimpArgs false
namespace Go.Proofs.YtodfajmihkagnaaGreatDoor.Am
section
section
section
section
section
variable {P:Program}{G:Nat}{F:Nat->Prop}{W:World}{e:Em}{H:Hp}{w:World}
theorem IJ {el s n:Nat}{z:List AV}(h:yD P el s n=some z) :
  (n*s=0/\z=[])\/(¬ n*s=0/\z.length=n*s/\∃ inf z0,P.info? el=some inf/\inf.zero=some z0/\z0.cells.size=s/\aQ e z ((Array.range (n*s)).map (z0.cells[· % z0.cells.size]!)).toList):=by
 unfold yD at h
 cases hb:Nat.beq (n*s) 0 with
 | true=>
  rw[hb] at h
  cases h
  exact .inl ⟨aa9 hb,rfl⟩
 | false=>
  rw[hb] at h
  simp only[cond_false] at h
  have h0:¬ n*s=0:=fun q=>by rw[q] at hb;cases hb
  split at h
  ·rename_i z1 hz
   cases hl:Nat.beq z1.length s with
   | false=>rw[hl] at h;cases h
   | true=>
    rw[hl] at h
    cases h
    have qA:z1.length=s:=aa9 hl
    obtain⟨inf,z0,iG,fw,xf⟩:=wS (e:=e) hz
    have eF:z0.cells.size=s:=by have:=xf.1;simp at this;omega
    have hr:aQ e (rep n z1) ((Array.range (n*s)).map (z0.cells[· % z0.cells.size]!)).toList:=by
     have:=Tz z0.cells n
     rw[eF] at this
     rw[eF,this]
     exact xf.rep n
    refine .inr ⟨h0,?_,inf,z0,iG,fw,eF,hr⟩
    have:=hr.1
    simp at this
    omega
  ·cases h
theorem Yo {pl:Nat->Option (Nat × Nat)}:∀ (ps:List (Nat × AV)) (cells out:List AV),sJ pl cells ps=some out->out.length=cells.length
 | [],cells,out,h=>by cases h;rfl
 | (i,v)::ps,cells,out,h=>by
  unfold sJ at h
  split at h
  ·cases h
  ·split at h
   ·cases h
   ·split at h
    ·rename_i hc
     rw[Yo ps _ _ h]
     simp;omega
    ·cases h
theorem ap5 (h:RH G F W e H w){t len:Nat}{ps:List (Nat × AV)}{nP:Array (Nat × Value)}{v:AV}{H':Hp}(hp:tn e ps nP.toList)(hb:D9 P t len ps H=some (v,H')) :
  ∃ v' w' e',(Instr.buildSlice t len nP).run P w = .ok v' w'/\e.le e'/\RH G F W e' H' w'/\VR e' v v':=by
 unfold D9 at hb
 split at hb
 ·rename_i el hu
  split at hb
  ·rename_i s hs
   cases hle:Nat.ble (len*s) 65536 with
   | false=>rw[hle] at hb;cases hb
   | true=>
   rw[hle] at hb
   simp only[cond_true] at hb
   rw[aez] at hle
   split at hb
   ·rename_i z hz
    split at hb
    ·rename_i cs fu
     simp only[aaa,acI] at hb
     obtain⟨⟨i,H2⟩,hn,rfl,rfl⟩:=hb
     have hlen:=Yo ps z cs fu
     have JA:¬ (len*s>2 ^ 24):=by omega
     rcases IJ (P:=P) (e:=e) hz with⟨h0,rfl⟩ | ⟨h0,aaS,inf,z0,iG,fw,eF,yT⟩
     ·obtain⟨kF,ho,hr⟩:=K3 (e:=e) (B8:=fun i=>some (i*s,s)) (fun i x hx=>hx) ps nP.toList [] cs #[] hp (.nil e) fu
      obtain⟨e',he,g1,g2,g3,g4,ot⟩:=h.newRow (rest:=[]) (fz:=(0,0)) hn hr (fun _=>rfl) (by simp)
      refine⟨.slice (some ⟨w.heap.size,0,none⟩) len len,_,e',?_,he,ot,VR.Bn g2 g1 (by rw[g3];simp) (aaH _) (aaH _) (fun _=>rfl) ?_⟩
      ·simp only[Instr.buildSlice,Sem.run_bind,aH hu,Result.andThen_ok,gP hs,if_neg JA]
       rw[if_pos h0]
       have zP:Array.range 0 = #[]:=rfl
       simp[h0,zP,ho,newRow]
      ·rw[g4];simp[h0]
     ·obtain⟨kF,ho,hr⟩:=K3 (e:=e) (B8:=fun i=>some (i*s,s)) (fun i x hx=>hx) ps nP.toList z cs _ hp yT fu
      obtain⟨e',he,g1,g2,g3,g4,ot⟩:=h.newRow (rest:=[]) (fz:=(0,0)) hn hr (fun _=>rfl) (by simp)
      refine⟨.slice (some ⟨w.heap.size,0,none⟩) len len,_,e',?_,he,ot,VR.Bn g2 g1 (by rw[g3];simp) (aaH _) (aaH _) (fun _=>rfl) ?_⟩
      ·simp only[Instr.buildSlice,Sem.run_bind,aH hu,Result.andThen_ok,gP hs,if_neg JA]
       rw[if_neg h0]
       simp[rr iG fw,newRow] at ho ⊢
       simp[ho]
      ·rw[g4]
       have:=hr.1
       simp at this ⊢
       omega
    ·cases hb
   ·cases hb
  ·cases hb
 ·cases hb
theorem run_makeSlice {t:Nat}{k1 k2:IntKind}{n m:Int}{H H':Hp}{v:AV}(hb:ux P t (.int k1 n) (.int k2 m) H=some (v,H'))(w:World) :
  ∃ el s z row,P.underlying t=some (.slice el)/\sz P el=some s/\yD P el s m.toNat=some z/\(∀ e:Em,aQ e z row)/\n.toNat<=m.toNat/\row.length=m.toNat*s/\
   (Instr.makeSlice t (.int k1 n) (.int k2 m)).run P w = .ok (.slice (some ⟨w.heap.size,0,none⟩) n.toNat m.toNat) { w with heap:=w.heap.push (.cells row.toArray el (0,0)) }:=by
 unfold ux at hb
 split at hb
 ·rename_i el k1' n' J1 m' hu q1 q2
  cases q1;cases q2
  split at hb
  ·rename_i s hs
   split at hb
   ·rename_i sF
    obtain⟨h1,h2,h3,h4⟩:=sF
    split at hb
    ·rename_i z hz
     obtain⟨inf,iG⟩:∃ inf,P.info? el=some inf:=by
      unfold sz at hs
      cases hq:P.info? el with
      | none=>simp[hq] at hs
      | some inf=>exact⟨inf,rfl⟩
     have O3:inf.bytes<=4096:=by unfold Program.bytesOf at h4;rw[iG] at h4;simpa using h4
     have w1:IntKind.i64.wrap n=n:=IntWalk.i64_in _ (by omega)
     have w2:IntKind.i64.wrap m=m:=IntWalk.i64_in _ (by omega)
     have AY:¬ ((inf.bytes:Int)*m>2 ^ 48):=by
      have:(inf.bytes:Int)*m<=4096*1048576:=Int.mul_le_mul (by omega) (by omega) (by omega) (by omega)
      omega
     have c1:(decide (m<0)||decide ((inf.bytes:Int)*m>2 ^ 48))=false:=by simp;omega
     have Ae:¬ (((decide (m<0)||decide ((inf.bytes:Int)*m>2 ^ 48))||decide (n<0)||decide (n>m))=true):=by
      rw[c1];simp;omega
     rcases IJ (P:=P) (e:=⟨id,fun _=>0,id,0⟩) hz with⟨h0,rfl⟩ | ⟨h0,aaS,Xj,z0,Bc,fw,eF,yT⟩
     ·refine⟨el,s,[],[],hu,hs,hz,fun e => .nil e,by omega,by simp[h0],?_⟩
      simp only[Instr.makeSlice,Sem.run_bind,aH hu,Result.andThen_ok,asInt,asIntOf,Sem.run_pure,pt iG,w1,w2,if_neg Ae,run_askRoom,gP hs]
      rw[if_pos h0]
      have zP:Array.range 0 = #[]:=rfl
      simp[h0,zP,newRow]
     ·refine⟨el,s,z,((Array.range (m.toNat*s)).map (z0.cells[· % z0.cells.size]!)).toList,hu,hs,hz,fun e => ?_,by omega,?_,?_⟩
      rotate_left 2
      ·simp only[Instr.makeSlice,Sem.run_bind,aH hu,Result.andThen_ok,asInt,asIntOf,Sem.run_pure,pt iG,w1,w2,if_neg Ae,run_askRoom,gP hs]
       rw[if_neg h0]
       simp[rr Bc fw,newRow]
       congr 2
       apply adZ.1
       simp
      ·rcases IJ (P:=P) (e:=e) hz with⟨q,_⟩ | ⟨_,_,aqo,z3,S9,Z2,_,akS⟩
       ·exact absurd q h0
       ·rw[Bc] at S9;cases S9
        rw[fw] at Z2;cases Z2
        exact akS
      ·simp
    ·cases hb
   ·cases hb
  ·cases hb
 ·cases hb
theorem agn (h:RH G F W e H w){t:Nat}{l c v:AV}{l' c':Value}{H':Hp}(hl:VR e l l')(hc:VR e c c')(hb:ux P t l c H=some (v,H')) :
  ∃ v' w' e',(Instr.makeSlice t l' c').run P w = .ok v' w'/\e.le e'/\RH G F W e' H' w'/\VR e' v v':=by
 unfold ux at hb
 split at hb
 ·rename_i el k1 n k2 m hu
  cases hl.fF;cases hc.fF
  split at hb
  ·rename_i s hs
   split at hb
   ·rename_i sF
    obtain⟨h1,h2,h3,h4⟩:=sF
    split at hb
    ·rename_i z hz
     simp only[aaa,acI] at hb
     obtain⟨⟨i,H2⟩,hn,rfl,rfl⟩:=hb
     obtain⟨inf,iG⟩:∃ inf,P.info? el=some inf:=by
      unfold sz at hs
      cases hq:P.info? el with
      | none=>simp[hq] at hs
      | some inf=>exact⟨inf,rfl⟩
     have O3:inf.bytes<=4096:=by unfold Program.bytesOf at h4;rw[iG] at h4;simpa using h4
     have w1:IntKind.i64.wrap n=n:=IntWalk.i64_in _ (by omega)
     have w2:IntKind.i64.wrap m=m:=IntWalk.i64_in _ (by omega)
     have AY:¬ ((inf.bytes:Int)*m>2 ^ 48):=by
      have:(inf.bytes:Int)*m<=4096*1048576:=Int.mul_le_mul (by omega) (by omega) (by omega) (by omega)
      omega
     have c1:(decide (m<0)||decide ((inf.bytes:Int)*m>2 ^ 48))=false:=by simp;omega
     have JA:¬ ((decide (m<0)||decide ((inf.bytes:Int)*m>2 ^ 48))=true\/n<0\/n>m):=by
      rw[c1];simp;omega
     have Ae:¬ (((decide (m<0)||decide ((inf.bytes:Int)*m>2 ^ 48))||decide (n<0)||decide (n>m))=true):=by
      rw[c1];simp;omega
     rcases IJ (P:=P) (e:=e) hz with⟨h0,rfl⟩ | ⟨h0,aaS,Xj,z0,Bc,fw,eF,yT⟩
     ·obtain⟨e',he,g1,g2,g3,g4,ot⟩:=h.newRow (rest:=[]) (fz:=(0,0)) hn (.nil e) (fun _=>rfl) (by simp)
      refine⟨.slice (some ⟨w.heap.size,0,none⟩) n.toNat m.toNat,_,e',?_,he,ot,VR.Bn g2 g1 (by rw[g3];simp) (by omega) (aaH _) (fun _=>rfl) (by rw[g4];simp[h0])⟩
      simp only[Instr.makeSlice,Sem.run_bind,aH hu,Result.andThen_ok,asInt,asIntOf,Sem.run_pure,pt iG,w1,w2,if_neg Ae,run_askRoom,gP hs]
      rw[if_pos h0]
      have zP:Array.range 0 = #[]:=rfl
      simp[h0,zP,newRow]
     ·obtain⟨e',he,g1,g2,g3,g4,ot⟩:=h.newRow (rest:=[]) (fz:=(0,0)) hn yT (fun _=>rfl) (by simp)
      refine⟨.slice (some ⟨w.heap.size,0,none⟩) n.toNat m.toNat,_,e',?_,he,ot,VR.Bn g2 g1 (by rw[g3];simp) (by omega) (aaH _) (fun _=>rfl) (by rw[g4];simp)⟩
      simp only[Instr.makeSlice,Sem.run_bind,aH hu,Result.andThen_ok,asInt,asIntOf,Sem.run_pure,pt iG,w1,w2,if_neg Ae,run_askRoom,gP hs]
      rw[if_neg h0]
      simp[rr Bc fw,newRow]
      congr 2
      apply adZ.1
      simp
    ·cases hb
   ·cases hb
  ·cases hb
 ·cases hb
theorem RH.new (h:RH G F W e H w){o:AO}{i:Nat}{H':Hp}(ha:Am.alloc H o=some (i,H')){ob:Obj}(dK:∀ e',e.le e'->e'.d i=0->OR e' i o ob) :
  ∃ e',e.le e'/\i<e'.N/\e'.b i=w.heap.size/\e'.d i=0/\RH G F W e' H' { w with heap:=w.heap.push ob }:=by
 have wU:i=e.N:=(vC ha).1.trans h.N.symm
 obtain⟨hi,hr⟩:=h.alloc (d:=0) (n:=0) ha (dK _ (Em.oX ..) (by rw[wU];exact Em.mP ..))
 subst hi
 exact⟨_,Em.oX ..,by simp[Em.ext],Em.mN ..,Em.mP ..,hr⟩
theorem VR.Mz {e:Em}{b i:Nat}(hb:e.b i=b)(hi:i<e.N)(hd:e.d i=0):VR e (.ptr i 0) (.pointer (some ⟨b,0,none⟩)):=by
 subst hb;exact .ptr i 0 0 hi (by rw[hd];simp)
theorem VR.y9 {e:Em}{b i:Nat}(hb:e.b i=b)(hi:i<e.N):VR e (.map i) (.map (some b)):=by subst hb;exact .map i hi
theorem aoA (h:RH G F W e H w){t:Nat}{i:Nat}{H':Hp}(ha:Am.alloc H (.map [] 0)=some (i,H')) :
  ∃ v' w' e',(Instr.makeMap t none).run P w = .ok v' w'/\e.le e'/\RH G F W e' H' w'/\VR e' (.map i) v':=by
 obtain⟨e',he,g1,g2,g3,hr⟩:=h.new (ob := .map #[] 0) ha (fun e' _ _ => .map _ _ _ _ [] (List.Perm.refl _) ⟨rfl,by simp⟩ (by simp) (by simp))
 exact⟨.map (some w.heap.size),_,e',by simp[Instr.makeMap],he,hr,.y9 g2 g1⟩
theorem ahq (h:RH G F W e H w){t:Nat}{x v:AV}{x':Value}{H':Hp}(hx:VR e x x')(hb:xF P t x H=some (v,H')) :
  ∃ v' w' e',(Instr.range t x').run P w = .ok v' w'/\e.le e'/\RH G F W e' H' w'/\VR e' v v':=by
 unfold xF at hb
 split at hb
 ·rename_i s hu
  obtain⟨b,rfl,rfl⟩:=hx.lP
  simp only[aaa,acI] at hb
  obtain⟨⟨i,H2⟩,hn,rfl,rfl⟩:=hb
  obtain⟨e',he,g1,g2,g3,hr⟩:=h.new (ob := .stringIter b 0) hn (fun e' _ hd => .sA _ _ _ rfl hd)
  exact⟨.pointer (some ⟨w.heap.size,0,none⟩),_,e',by simp[Instr.range,aH hu],he,hr,.Mz g2 g1 g3⟩
 ·cases hb
theorem aip {s:ByteArray}{pos b:Nat}{r:List Nat}(h:(bytes s).drop pos=b::r)(hb:b<128):pos<s.size/\Utf8.decode s pos=(b,1):=by
 have hlen:((bytes s).drop pos).length=s.size-pos:=by rw[afK,vO]
 rw[h] at hlen
 simp at hlen
 have aI:pos<s.size:=by omega
 refine⟨aI,?_⟩
 have h0:(bytes s)[pos]? = some b:=by
  have:=afT (xs:=bytes s) (i:=pos) (j:=0)
  rw[h] at this
  simpa using this.symm
 simp only[bytes,adX,aaa] at h0
 obtain⟨u,hu,rfl⟩:=h0
 have eB:s.get! pos=u:=by
  cases s with
  | mk d=>
   have hd:pos<d.size:=aI
   have:=(aas.1 hu).2
   simp only[ByteArray.get!]
   rw[getElem!_pos d pos hd,<-this]
   simp
 unfold Utf8.decode
 simp only[aem,eB]
 rw[if_pos hb]
theorem aeU {b:Nat}{o ob:Obj}(hb:w.heap[b]? = some ob)(hn:∀ c el fz,ob ≠ .cells c el fz):(Go.setObj b o).run P w = .ok () { w with heap:=w.heap.setIfInBounds b o }:=by
 cases ob<;>first | (exact absurd rfl (hn _ _ _)) | (simp[Go.setObj,Sem.run,hb])
theorem aih {b:Nat}{ob:Obj}(hb:w.heap[b]? = some ob)(hn:∀ c el fz,ob ≠ .cells c el fz):(Go.getObj b).run P w = .ok ob w:=by
 cases ob<;>first | (exact absurd rfl (hn _ _ _)) | (simp[Go.getObj,Sem.run,hb])
theorem RH.afQ (h:RH G F W e H w){i:Nat}{o o2:AO}(hg:H.h.get i=some o)(hw:wr o=true){ob pw:Obj}(hb:w.heap[e.b i]? = some ob)(dK:OR e i o2 pw) :
  RH G F W e (Am.setObj H i o2) { w with heap:=w.heap.setIfInBounds (e.b i) pw }:=by
 have aI:=(acH.1 hb).1
 refine h.put hg hw (oO:=pw) (by simp) (by simp[aI]) (fun k hk => ?_) dK rfl rfl rfl
 simp only
 rw[aeE (fun q=>hk q.symm)]
theorem VR.aoL {a b c:AV}{a' b' c':Value}(ha:VR e a a')(hb:VR e b b')(hc:VR e c c'):VR e (.tuple [a,b,c]) (.tuple #[a',b',c']):=
 .tuple' (.cons ha (.cons hb (.cons hc (.nil e))))
theorem amq (h:RH G F W e H w){t:Nat}{it v:AV}{G8:Value}{qM:Bool}{H':Hp}(hx:VR e it G8)(hb:vV it qM H=some (v,H')) :
  ∃ v' w',(Instr.next G8 qM t).run P w = .ok v' w'/\RH G F W e H' w'/\VR e v v':=by
 unfold vV at hb
 split at hb
 ·rename_i i
  obtain⟨o,hi,ho,rfl⟩:=hx.qd
  split at hb
  ·rename_i s pos hg
   obtain⟨_,ob,dP,dK,hF⟩:=h.obj i _ hg
   cases dK with
   | sA _ _ s' hs hd=>
   have AK:o=0:=by omega
   subst AK
   have eB:(Go.getObj (e.b i)).run P w = .ok (.stringIter s' pos) w:=aih dP (by simp)
   split at hb
   ·rename_i yJ
    cases hb
    have hlen:=congrArg List.length yJ
    rw[afK,<-hs,vO] at hlen
    have qB:¬ pos<s'.size:=by simp at hlen;omega
    exact⟨_,w,by simp[Instr.next,eB,qB],h,.tuple' (.cons (.bool false) (.nil e))⟩
   ·rename_i b r yJ
    cases aI:Nat.blt b 128 with
    | false=>rw[aI] at hb;cases hb
    | true=>
     rw[aI] at hb
     cases hb
     rw[ad5] at aI
     rw[<-hs] at yJ
     obtain⟨Gh,acG⟩:=aip yJ aI
     refine⟨_,{ w with heap:=w.heap.setIfInBounds (e.b i) (.stringIter s' (pos+1)) },?_,h.afQ hg rfl dP (.sA _ _ _ hs hd),VR.aoL (.bool true) (.int _ _) (.int _ _)⟩
     have fh:(Go.setObj (e.b i) (.stringIter s' (pos+1))).run P w = .ok () { w with heap:=w.heap.setIfInBounds (e.b i) (.stringIter s' (pos+1)) }:=aeU dP (by simp)
     simp only[Instr.next,Sem.run_bind,eB,Result.andThen_ok,Gh,if_true,acG,fh]
     rfl
  ·cases hb
 ·cases hb
theorem akj (h:RH G F W e H w){it v:AV}{G8:Value}(hx:VR e it G8)(hb:I1 it H=some v) :
  ∃ v',(Instr.entry G8).run P w = .ok v' w/\VR e v v':=by
 unfold I1 at hb
 cases hb
theorem afV {uk t:TypeId}{x v:AV}{x':Value}{ok:Bool}(hx:VR e x x')(hb:Ft P uk x ok=some v)(w:World) :
  ∃ v',(Instr.typeAssert x' t uk ok).run P w = .ok v' w/\VR e v v':=by
 unfold Ft at hb
 split at hb
 ·cases hb
 ·rename_i d t2 u aO hu
  cases hx with
  | iface _ _ u' hr=>
  split at hb
  ·rename_i ht
   subst ht
   have hd:∀ ms,d ≠ .interface ms:=fun ms q=>aO ms q
   cases ok with
   | true=>
    cases hb
    refine⟨.tuple #[u',.bool true],?_,hr.pair (.bool true)⟩
    cases d<;>first | (exact absurd rfl (hd _)) | simp[Instr.typeAssert,aH hu]
   | false=>
    cases hb
    refine⟨u',?_,hr⟩
    cases d<;>first | (exact absurd rfl (hd _)) | simp[Instr.typeAssert,aH hu]
  ·cases hb
 ·cases hb
end
end
section
variable {P:Program}{G:Nat}{F:Nat->Prop}{W:World}{e:Em}{H:Hp}{w:World}
theorem ah3 {t:TypeId}{ps:List (Nat × AV)}{nP:Array (Nat × Value)}{v:AV}(hp:tn e ps nP.toList)(hb:FW P t ps=some v)(w:World) :
  ∃ v',(Instr.build t nP).run P w = .ok v' w/\VR e v v':=by
 unfold FW at hb
 split at hb
 ·rename_i z fs hz hu
  split at hb
  ·rename_i pl ml
   simp only[aaa] at hb
   obtain⟨out,hf,rfl⟩:=hb
   exact adq hz hu ml hp hf w
  ·cases hb
 ·rename_i z n el hz hu
  split at hb
  ·rename_i s hs
   simp only[aaa] at hb
   obtain⟨out,hf,rfl⟩:=hb
   exact ahM hz hu hs hp hf w
  ·cases hb
 ·cases hb
theorem aQ.C8 {ρ:Operand->AV}{σ:Operand->Value}(h:∀ x,VR e (ρ x) (σ x))(l:Array Operand):aQ e (l.toList.map ρ) (l.map σ).toList:=by
 rw[Array.toList_map];exact aQ.map h _
theorem apP (h:RH G F W e H w){b:Builtin}{bV:Array TypeId}{ty:TypeId}{cs:Array Bool}{args:List AV}{Dg:Array Value}{v:AV}{H':Hp}(ha:aQ e args Dg.toList)(hb:gG P b bV args H=some (v,H')) :
  ef P G F W e v H' ((builtin b bV ty cs Dg).run P w):=by
 have two:∀ {s x:AV},aQ e [s,x] Dg.toList->∃ s' x',Dg = #[s',x']/\VR e s s'/\VR e x x':=by
  intro s x h2
  obtain⟨s',r,h1,hs,hr⟩:=h2.cons_inv
  obtain⟨x',r',rfl,hx,eH⟩:=hr.cons_inv
  rw[eH.jP] at h1
  exact⟨s',x',adZ.1 h1,hs,hx⟩
 have one:∀ {s:AV},aQ e [s] Dg.toList->∃ s',Dg = #[s']/\VR e s s':=by
  intro s h2
  obtain⟨s',r,h1,hs,hr⟩:=h2.cons_inv
  rw[hr.jP] at h1
  exact⟨s',adZ.1 h1,hs⟩
 unfold gG at hb
 split at hb
 ·obtain⟨s',x',rfl,hs,hx⟩:=two ha
  obtain⟨v',w',e',h1,h2,h3,h4⟩:=ajp (P:=P) (ty:=ty) h hs hx hb
  exact ef.val h1 h2 h3 h4
 ·obtain⟨s',x',rfl,hs,hx⟩:=two ha
  obtain⟨v',w',h1,h3,h4⟩:=aoc (P:=P) (ty:=ty) h hs hx hb
  exact ef.val h1 e.le_refl h3 h4
 ·obtain⟨s',x',rfl,hs,hx⟩:=two ha
  simp only[aaa,acI] at hb
  obtain⟨H2,hd,rfl,rfl⟩:=hb
  obtain⟨w',h1,h3⟩:=acU (P:=P) (ty:=ty) h hs hx hd
  exact ef.val h1 e.le_refl h3 .undef
 ·obtain⟨s',rfl,hs⟩:=one ha
  simp only[aaa,acI] at hb
  obtain⟨H2,hd,rfl,rfl⟩:=hb
  obtain⟨w',h1,h3⟩:=apN (P:=P) (ty:=ty) h hs hd
  exact ef.val h1 e.le_refl h3 .undef
 ·obtain⟨s',rfl,hs⟩:=one ha
  simp only[aaa,acI] at hb
  obtain⟨v2,hd,rfl,rfl⟩:=hb
  obtain⟨v',h1,h3⟩:=ago (P:=P) (ty:=ty) h hs hd
  exact ef.pure h h1 h3
 ·obtain⟨s',rfl,hs⟩:=one ha
  simp only[aaa,acI] at hb
  obtain⟨v2,hd,rfl,rfl⟩:=hb
  obtain⟨v',h1,h3⟩:=aen (P:=P) (ty:=ty) hs hd w
  exact ef.pure h h1 h3
 ·rename_i x r
  simp only[aaa,acI] at hb
  obtain⟨v2,hd,rfl,rfl⟩:=hb
  obtain⟨x',r',kV,hx,hr⟩:=ha.cons_inv
  obtain⟨v',h1,h3⟩:=YY (P:=P) (w:=w) hx hr hd
  refine ef.pure h (v':=v') ?_ h3
  unfold Builtin.min_
  rw[kV]
  exact h1
 ·rename_i x r
  simp only[aaa,acI] at hb
  obtain⟨v2,hd,rfl,rfl⟩:=hb
  obtain⟨x',r',kV,hx,hr⟩:=ha.cons_inv
  obtain⟨v',h1,h3⟩:=Vf (P:=P) (w:=w) hx hr hd
  refine ef.pure h (v':=v') ?_ h3
  unfold Builtin.max_
  rw[kV]
  exact h1
 ·obtain⟨s',rfl,hs⟩:=one ha
  cases hs;cases hb
  exact ef.pure h (Go.Lib.run_unsafeSliceData_nil (P:=P) w bV ty 0 0) .fB
 ·rename_i i off l c a1 a2
  obtain⟨s',rfl,hs⟩:=one ha
  cases hl:Nat.blt 0 l with
  | false=>rw[hl] at hb;cases hb
  | true=>
   rw[hl] at hb
   cases hb
   rw[ad5] at hl
   rcases hs.lz with⟨o,cc,hi,ho,kD,hc,iE,hn,rfl⟩ | ⟨rfl,_,a,rfl⟩
   ·exact ef.pure h (Go.Lib.run_unsafeSliceData_row (P:=P) w bV ty ⟨e.b i,o,none⟩ l cc (by omega)) (.ptr _ _ _ hi ho)
   ·omega
 ·rename_i p k n
  obtain⟨p',k',rfl,hp,hk⟩:=two ha
  cases hk.fF
  obtain⟨v',w',h1,h3,h4⟩:=aqd (P:=P) (ty:=ty) h hp hb
  exact ef.val h1 e.le_refl h3 h4
 ·cases hb
theorem aeJ {x v:AV}{x':Value}(hx:VR e x x')(hb:aV x=some v) :
  v=x/\((∃ a,x' = .pointer (some a))\/(∃ f a b,x' = .func (.func f) a b)\/∃ t u,x' = .iface t u):=by
 unfold aV at hb
 split at hb
 ·cases hb
  obtain⟨o,_,_,rfl⟩:=hx.qd
  exact⟨rfl,.inl ⟨_,rfl⟩⟩
 ·cases hb;cases hx;exact⟨rfl,.inr (.inl ⟨_,_,_,rfl⟩)⟩
 ·cases hb;cases hx;exact⟨rfl,.inr (.inr ⟨_,_,rfl⟩)⟩
 ·cases hb
end
theorem ud.map {e:Em}{ρ:Operand->AV}{σ:Operand->Value}(h:∀ x,VR e (ρ x) (σ x)):∀ o:Option Operand,ud e (o.map ρ) (o.map σ)
 | none=>trivial
 | some x=>h x
theorem tn.C8 {e:Em}{ρ:Operand->AV}{σ:Operand->Value}(h:∀ x,VR e (ρ x) (σ x))(l:Array (Nat × Operand)) :
  tn e (l.toList.map fun (i,x)=>(i,ρ x)) (l.map fun (i,x)=>(i,σ x)).toList:=by
 rw[Array.toList_map];exact tn.map h _
theorem af0 {P:Program}{G:Nat}{F:Nat->Prop}{W:World}{e:Em}{H:Hp}{w:World}(h:RH G F W e H w){ρ:Operand->AV}{σ:Operand->Value}(hρ:∀ x,VR e (ρ x) (σ x)){o:Oper}{v:AV}{H':Hp}(ha:il P ρ o H=some (v,H')) :
  ef P G F W e v H' ((execOp σ o).run P w):=by
 unfold il at ha
 unfold execOp
 split at ha
 ·rename_i x aU
  cases ha
  rw[aU]
  exact⟨.value (σ x),w,e,σ x,rfl,.inl rfl,e.le_refl,h,hρ x⟩
 ·rename_i x aU
  cases ha
  rw[aU]
  exact⟨.value (σ x),w,e,σ x,rfl,.inl rfl,e.le_refl,h,hρ x⟩
 ·rename_i c a b aU
  rw[aU]
  split at ha
  ·rename_i t ht
   cases ha
   have hc:=hρ c
   rw[ht] at hc
   have Tj:=hc.rQ
   cases t with
   | true=>exact⟨.value (σ a),w,e,σ a,by simp[Tj,asBool],.inl rfl,e.le_refl,h,hρ a⟩
   | false=>exact⟨.value (σ b),w,e,σ b,by simp[Tj,asBool],.inl rfl,e.le_refl,h,hρ b⟩
  ·cases ha
 ·rename_i t aU
  rw[aU]
  split at ha
  ·rename_i l hl
   simp only[aaa,acI] at ha
   obtain⟨⟨i,H2⟩,hn,rfl,rfl⟩:=ha
   obtain⟨v',w',e',h1,h2,h3,h4⟩:=ajv (P:=P) h hl hn
   exact ef.val h1 h2 h3 h4
  ·cases ha
 ·rename_i t x aU
  rw[aU]
  split at ha
  ·rename_i l hl
   simp only[aaa,acI] at ha
   obtain⟨⟨i,H2⟩,hn,rfl,rfl⟩:=ha
   obtain⟨v',w',e',h1,h2,h3,h4⟩:=aqb (P:=P) h (hρ x) hl hn
   exact ef.val h1 h2 h3 h4
  ·cases ha
 ·rename_i t parts aU
  rw[aU]
  simp only[aaa,acI] at ha
  obtain⟨v2,hb,rfl,rfl⟩:=ha
  obtain⟨v',h1,h2⟩:=ah3 (tn.C8 hρ parts) hb w
  exact ef.pure h h1 h2
 ·rename_i t len parts aU
  rw[aU]
  obtain⟨v',w',e',h1,h2,h3,h4⟩:=ap5 (P:=P) h (tn.C8 hρ parts) ha
  exact ef.val h1 h2 h3 h4
 ·rename_i t m k x aU
  rw[aU]
  simp only[aaa,acI] at ha
  obtain⟨H2,hb,rfl,rfl⟩:=ha
  obtain⟨w',h1,h3⟩:=ZE (P:=P) h (hρ m) (hρ k) (hρ x) hb
  exact ef.unit h1 e.le_refl h3
 ·rename_i t m k x aU
  rw[aU]
  simp only[aaa,acI] at ha
  obtain⟨H2,hb,rfl,rfl⟩:=ha
  obtain⟨w',h1,h3⟩:=ZE (P:=P) h (hρ m) (hρ k) (hρ x) hb
  exact ef.unit h1 e.le_refl h3
 ·rename_i t a aU
  rw[aU]
  simp only[aaa,acI] at ha
  obtain⟨v2,hb,rfl,rfl⟩:=ha
  obtain⟨v',h1,h2⟩:=XO h (hρ a) hb
  exact ef.pure h h1 h2
 ·rename_i t a x aU
  rw[aU]
  simp only[aaa,acI] at ha
  obtain⟨H2,hb,rfl,rfl⟩:=ha
  obtain⟨w',h1,h3⟩:=anB (P:=P) h (hρ a) (hρ x) hb
  exact ef.unit h1 e.le_refl h3
 ·rename_i x aU
  rw[aU]
  simp only[aaa,acI] at ha
  obtain⟨v2,hb,rfl,rfl⟩:=ha
  obtain⟨rfl,h1⟩:=aeJ (hρ x) hb
  refine⟨.value (σ x),w,e,σ x,?_,.inl rfl,e.le_refl,h,hρ x⟩
  rcases h1 with⟨a,q⟩ | ⟨f,a,b,q⟩ | ⟨t,u,q⟩<;>(simp only[q];rfl)
 ·rename_i op t x y ty aU
  rw[aU]
  cases hg:rO P op t x y (ρ x) (ρ y) with
  | false=>rw[hg] at ha;cases ha
  | true=>
   rw[hg] at ha
   simp only[cond_true,aaa,acI] at ha
   obtain⟨v2,hb,rfl,rfl⟩:=ha
   obtain⟨v',h1,h2⟩:=ajK h (hρ x) (hρ y) hb
   have h0:=ao6 (w:=w) (hρ x) (hρ y) hg hb
   refine ef.pure h (v':=v') ?_ h2
   rw[Sem.run_bind,h0]
   exact h1
 ·rename_i op t x aU
  rw[aU]
  simp only[aaa,acI] at ha
  obtain⟨v2,hb,rfl,rfl⟩:=ha
  obtain⟨v',h1,h2⟩:=alz (P:=P) (hρ x) hb w
  exact ef.pure h h1 h2
 ·rename_i a b x aU
  rw[aU]
  obtain⟨v',w',e',h1,h2,h3,h4⟩:=adF (P:=P) h (hρ x) ha
  exact ef.val h1 h2 h3 h4
 ·rename_i t x aU
  rw[aU]
  simp only[aaa,acI] at ha
  obtain⟨v2,hb,rfl,rfl⟩:=ha
  unfold Lr at hb
  split at hb
  ·cases hb
  ·rename_i d aO hu
   cases hb
   have hd:∀ ms,d ≠ .interface ms:=fun ms q=>aO ms q
   refine ef.pure h (v' := .iface t (σ x)) ?_ (.iface _ _ _ (hρ x))
   cases d<;>first | (exact absurd rfl (hd _)) | simp[Instr.makeInterface,aH hu]
  ·cases hb
 ·rename_i fn a b aU
  rw[aU]
  simp only[aaa,acI] at ha
  obtain⟨v2,hb,rfl,rfl⟩:=ha
  have h1:=aQ.C8 hρ a
  have h2:=aQ.C8 hρ b
  unfold IB at hb
  split at hb
  ·cases hb
  ·rename_i aO
   cases hb
   exact ef.pure h (v' := .func fn (a.map σ) (b.map σ)) (by simp[Instr.makeFunc]) (.func fn aO _ _ _ _ h1.1 h2.1 h1.2 h2.2)
 ·rename_i t aU
  rw[aU]
  simp only[aaa,acI] at ha
  obtain⟨⟨i,H2⟩,hn,rfl,rfl⟩:=ha
  obtain⟨v',w',e',h1,h2,h3,h4⟩:=aoA (P:=P) (t:=t) h hn
  exact ef.val h1 h2 h3 h4
 ·rename_i t l c aU
  rw[aU]
  obtain⟨v',w',e',h1,h2,h3,h4⟩:=agn (P:=P) h (hρ l) (hρ c) ha
  exact ef.val h1 h2 h3 h4
 ·rename_i t x lo hi mx aU
  rw[aU]
  simp only[aaa,acI] at ha
  obtain⟨v2,hb,rfl,rfl⟩:=ha
  obtain⟨v',h1,h2⟩:=aic h (hρ x) (ud.map hρ lo) (ud.map hρ hi) (ud.map hρ mx) hb
  exact ef.pure h h1 h2
 ·rename_i t x f aU
  rw[aU]
  simp only[aaa,acI] at ha
  obtain⟨v2,hb,rfl,rfl⟩:=ha
  unfold K1 at hb
  split at hb
  ·rename_i fs i off hu hx
   split at hb
   ·rename_i fd Gk
    cases hp:xC P fd.type with
    | false=>rw[hp] at hb;cases hb
    | true=>
     rw[hp] at hb
     cases hb
     obtain⟨n,hn⟩:∃ n,sz P fd.type=some (n+1):=by
      unfold xC at hp
      split at hp
      ·rename_i n hn;exact⟨n,hn⟩
      ·cases hp
     have oC:=hρ x
     rw[hx] at oC
     obtain⟨v',h1,h2⟩:=ang oC hu Gk hn (by omega) w
     exact ef.pure h h1 h2
   ·cases hb
  ·cases hb
 ·rename_i t x f aU
  rw[aU]
  simp only[aaa,acI] at ha
  obtain⟨v2,hb,rfl,rfl⟩:=ha
  unfold EK at hb
  split at hb
  ·rename_i fs cs hu hx
   split at hb
   ·rename_i fd Gk
    obtain⟨v',h1,h2⟩:=ahf (hρ x) hu Gk hx hb w
    exact ef.pure h h1 h2
   ·cases hb
  ·cases hb
 ·rename_i t x ix aU
  rw[aU]
  simp only[aaa,acI] at ha
  obtain⟨v2,hb,rfl,rfl⟩:=ha
  obtain⟨v',h1,h2⟩:=agE (hρ x) (hρ ix) hb w
  exact ef.pure h h1 h2
 ·rename_i t x ix aU
  rw[aU]
  simp only[aaa,acI] at ha
  obtain⟨v2,hb,rfl,rfl⟩:=ha
  obtain⟨v',h1,h2⟩:=afx (hρ x) (hρ ix) hb w
  exact ef.pure h h1 h2
 ·rename_i t x k ok aU
  rw[aU]
  simp only[aaa,acI] at ha
  obtain⟨v2,hb,rfl,rfl⟩:=ha
  obtain⟨v',h1,h2⟩:=alv h (hρ x) (hρ k) hb
  exact ef.pure h h1 h2
 ·rename_i t x aU
  rw[aU]
  obtain⟨v',w',e',h1,h2,h3,h4⟩:=ahq (P:=P) h (hρ x) ha
  exact ef.val h1 h2 h3 h4
 ·rename_i it qM aU
  rw[aU]
  obtain⟨v',w',h1,h3,h4⟩:=amq (P:=P) (t:=o.type) h (hρ it) ha
  exact ef.val h1 e.le_refl h3 h4
 ·rename_i it aU
  rw[aU]
  simp only[aaa,acI] at ha
  obtain⟨v2,hb,rfl,rfl⟩:=ha
  obtain⟨v',h1,h2⟩:=akj (P:=P) h (hρ it) hb
  exact ef.pure h h1 h2
 ·rename_i t ix aU
  rw[aU]
  split at ha
  ·rename_i l hl
   simp only[aaa,acI] at ha
   obtain⟨v2,hb,rfl,rfl⟩:=ha
   have ht:=hρ t
   rw[hl] at ht
   obtain⟨vs,rD,hr⟩:=ht.V2
   obtain⟨v',bQ,ij⟩:=hr.get hb
   rw[aeg] at bQ
   exact ef.pure h (v':=v') (by rw[rD];simp[Instr.extract,bQ]) ij
  ·cases ha
 ·rename_i x t uk ok aU
  rw[aU]
  simp only[aaa,acI] at ha
  obtain⟨v2,hb,rfl,rfl⟩:=ha
  obtain⟨v',h1,h2⟩:=afV (P:=P) (t:=t) (hρ x) hb w
  exact ef.pure h h1 h2
 ·rename_i c aU
  rw[aU]
  split at ha
  ·rename_i b hc
   have kV:=aQ.C8 hρ c.args
   have AI:(do let d <-resolve σ c o.type;invoke d.target d.args:Sem Next)=builtin b c.argTypes o.type (c.args.map fun | .const _=>true | _=>false) (c.args.map σ):=by
    unfold resolve
    rw[hc]
    rfl
   show ef P G F W e v H' ((do let d <-resolve σ c o.type;invoke d.target d.args:Sem Next).run P w)
   rw[AI]
   exact apP h kV ha
  ·cases ha
 ·cases ha
end
variable {P:Program}
theorem P2 {ρ ρ':Operand->AV}{l:List Operand}(h:∀ x∈l,ρ x=ρ' x):l.map ρ=l.map ρ':=List.map_congr_left h
theorem abn {ρ ρ':Operand->AV}{l:List (Nat × Operand)}(h:∀ x∈l.map (·.2),ρ x=ρ' x):(l.map fun (i,x)=>(i,ρ x))=l.map fun (i,x)=>(i,ρ' x):=by
 apply List.map_congr_left
 intro a ha
 obtain⟨i,x⟩:=a
 simp only
 rw[h x (adD.2 ⟨(i,x),ha,rfl⟩)]
theorem aoG {ρ ρ':Operand->AV}(o:Oper)(H:Hp)(h:∀ x∈o.op.operands.toList,ρ x=ρ' x):il P ρ o H=il P ρ' o H:=by
 unfold il
 cases aU:o.op<;>rw[aU] at h<;>simp only[Op.operands] at h ⊢
 case move x=>rw[h x (by simp)]
 case assign x=>rw[h x (by simp)]
 case pick c a b=>rw[h c (by simp),h a (by simp),h b (by simp)]
 case box t x=>rw[h x (by simp)]
 case build t ps=>rw[abn (by simpa using h)]
 case buildSlice t l ps=>rw[abn (by simpa using h)]
 case insert t m k v=>rw[h m (by simp),h k (by simp),h v (by simp)]
 case mapUpdate t m k v=>rw[h m (by simp),h k (by simp),h v (by simp)]
 case load t a=>rw[h a (by simp)]
 case store t a v=>rw[h a (by simp),h v (by simp)]
 case nilCheck x=>rw[h x (by simp)]
 case binOp op t x y ty=>rw[h x (by simp),h y (by simp)]
 case unOp op t x=>rw[h x (by simp)]
 case convert a b x=>rw[h x (by simp)]
 case makeInterface t x=>rw[h x (by simp)]
 case makeFunc fn a b=>
  rw[P2 (l:=a.toList) (fun x hx=>h x (by simp at hx ⊢;exact .inl hx)),P2 (l:=b.toList) (fun x hx=>h x (by simp at hx ⊢;exact .inr hx))]
 case makeMap t r=>cases r<;>rfl
 case makeSlice t l c=>rw[h l (by simp),h c (by simp)]
 case slice t x lo hi mx=>
  have q:∀ y:Option Operand,(∀ z∈y.toList,ρ z=ρ' z)->y.map ρ=y.map ρ':=by
   intro y hy;cases y with
   | none=>rfl
   | some z=>simp only[aek];rw[hy z (by simp)]
  rw[h x (by simp),q lo (fun z hz=>h z (by simp at hz ⊢;simp[hz])),q hi (fun z hz=>h z (by simp at hz ⊢;simp[hz])),q mx (fun z hz=>h z (by simp at hz ⊢;simp[hz]))]
 case fieldAddr t x f=>rw[h x (by simp)]
 case field t x f=>rw[h x (by simp)]
 case indexAddr t x ix=>rw[h x (by simp),h ix (by simp)]
 case index t x ix=>rw[h x (by simp),h ix (by simp)]
 case lookup t x k ok=>rw[h x (by simp),h k (by simp)]
 case range t x=>rw[h x (by simp)]
 case next it s=>rw[h it (by simp)]
 case entry it=>rw[h it (by simp)]
 case typeAssert x t uk ok=>rw[h x (by simp)]
 case extract t ix=>rw[h t (by simp)]
 case call c=>
  cases hc:c.callee with
  | builtin b=>
   simp only
   rw[P2 (l:=c.args.toList) (fun x hx=>h x (by simp[Call.operands,hc] at hx ⊢;exact hx))]
  | value f=>rfl
  | invoke r m=>rfl
end
def Bv (G:Nat)(F:Nat->Prop)(W:World)(e:Em)(v:AV)(H':Hp)(en:Ending)(w':World):Prop:=
 ∃ e' v',en = .returned v'/\e.le e'/\RH G F W e' H' w'/\VR e' v v'
def rX (P:Program)(cf:CF):Prop:=
 ∀ (g:AV) (args:List AV) (H:Hp) (v:AV) (H':Hp),cf g args H=some (v,H')->
  ∃ aY first cap,g = .func (.func aY) first cap/\∀ (F:Nat->Prop) (W:World) (e:Em) (w:World) (aS:Array Value),RH P.globals.size F W e H w->aQ e (first++args++cap) aS.toList->
   (∃ v' w' e',(callFunc aY aS).run P w = .ok (.value v') w'/\e.le e'/\RH P.globals.size F W e' H' w'/\VR e' v v')\/
   ((callFunc aY aS).run P w = .ok (.enter aY aS) w/\Calls P aY aS w (Bv P.globals.size F W e v H'))
section
variable {P:Program}{F:Nat->Prop}{W:World}{e:Em}{H:Hp}{w:World}
structure TR (e:Em)(n:Nat)(t:Tm)(a:Act):Prop where
 size:n<=a.tmps.size
 val:∀ x,VR e ((t.get x).getD bK) (a.tmps.getD x undef)
theorem TR.mono {e e':Em}(h:e.le e'){n:Nat}{t:Tm}{a:Act}(k:TR e n t a):TR e' n t a:=⟨k.size,fun x=>(k.val x).mono h⟩
theorem VR.ev (h:RH P.globals.size F W e H w){n:Nat}{t:Tm}{a:Act}(ht:TR e n t a)(x:Operand):VR e (ev P.globals.size t x) (a.eval x):=by
 cases x with
 | tmp d=>exact ht.val d
 | const v=>
  simp only[Am.ev,Act.eval]
  cases hc:Am.jr v with
  | none=>exact .cU v
  | some c=>exact .jr hc
 | global g=>
  simp only[Am.ev,Act.eval]
  cases hb:Nat.blt g P.globals.size with
  | false=>exact .cU _
  | true=>
   rw[ad5] at hb
   obtain⟨h1,h2,h3⟩:=h.pY g hb
   have:=VR.ptr (e:=e) g 0 0 h1 (by rw[h3];simp)
   rw[h2] at this
   exact this
 | func f=>exact .func _ (by simp) [] [] #[] #[] rfl rfl (by simp) (by simp)
theorem aa2 {t:Array Value}{d x:Nat}{v:Value}(h:d<t.size):(t.setIfInBounds d v).getD x undef=if x=d then v else t.getD x undef:=by
 simp only[afh]
 by_cases hx:x=d
 ·subst hx;rw[agc h,if_pos rfl];rfl
 ·rw[aeE (fun q=>hx q.symm),if_neg hx]
theorem TR.put {n:Nat}{t t':Tm}{a:Act}(h:TR e n t a){dst:Option Tmp}{v:AV}{v':Value}(hp:gI n dst v t=some t')(hv:VR e v v'):TR e n t' (a.put dst v'):=by
 unfold gI at hp
 split at hp
 ·cases hp;exact h
 ·rename_i d
  cases hb:(Nat.blt d n&&Nat.blt d 4294967296) with
  | false=>rw[hb] at hp;cases hp
  | true=>
   rw[hb] at hp
   cases hp
   simp only[aaG,ad5] at hb
   have aI:d<a.tmps.size:=adW hb.1 h.size
   refine⟨by simp only[Act.put,Array.size_setIfInBounds];exact h.size,fun x => ?_⟩
   simp only[Act.put]
   rw[aa2 aI,Tr.GB _ _ _ _ _ (by omega)]
   by_cases hx:x=d
   ·rw[if_pos hx,if_pos hx];exact hv
   ·rw[if_neg hx,if_neg hx];exact h.val x
theorem VR.adn {v:AV}{b:Bool}(h:VR e v (.bool b)):v = .bool b\/v = .cU:=by
 cases h with
 | cU=>exact .inr rfl
 | bool=>exact .inl rfl
theorem Lc {ops:Array Oper}{o:Oper}{t:Tm}{a:Act}{b:Bool}(hw:oQ ops o t=some b)(hT:∀ d,Fo ops o=some d->VR e ((t.get d).getD bK) (a.tmps.getD d undef)) :
  Region.wanted o (yielded ops a.tmps)=b:=by
 unfold oQ at hw
 unfold Region.wanted
 split at hw
 ·rename_i hg
  cases hw
  simp[hg]
 ·rename_i j want hg
  simp only[hg]
  have It:Fo ops o=(ops[j]?).bind (·.dst):=by simp[Fo,hg]
  unfold yielded
  split at hw
  ·rename_i hd
   cases hw
   simp[hd]
  ·rename_i d hd
   have hv:=hT d (by rw[It,hd])
   simp only[hd,adu]
   rw[afh] at hv
   split at hw
   ·rename_i hn
    cases hw
    rw[hn] at hv
    obtain⟨vs,rD,_⟩:=VR.V2 (l:=[]) hv
    cases hq:a.tmps[d]? with
    | none=>simp
    | some u=>rw[hq] at rD;simp at rD;subst rD;simp
   ·rename_i c hc
    cases hw
    rw[hc] at hv
    have:=hv.rQ
    cases hq:a.tmps[d]? with
    | none=>rw[hq] at this;simp[undef] at this
    | some u=>rw[hq] at this;simp at this;subst this;simp
   ·cases hw
   ·rename_i u zp LI hu
    cases hw
    rw[hu] at hv
    cases hq:a.tmps[d]? with
    | none=>simp
    | some z=>
     rw[hq] at hv
     simp at hv
     cases z<;>simp
     rename_i b
     rcases hv.adn with r | r
     ·exact (zp _ r).elim
     ·exact (LI r).elim
theorem afs {σ:Operand->Value}{f:Operand}{args:Array Operand}{bV:Array TypeId}{ty aY:Nat}{first cap:Array Value}(hf:σ f = .func (.func aY) first cap) :
  (do let d <-resolve σ { callee := .value f,args,argTypes:=bV } ty;invoke d.target d.args:Sem Next)=callFunc aY (first++args.map σ++cap):=by
 unfold resolve
 simp only[hf,Deferred.ofValue]
 rfl
theorem FJ {cf:CF}(gr:rX P cf)(h:RH P.globals.size F W e H w){t:Tm}{a:Act}{o:Oper}{v:AV}{H':Hp}(ho:pB P cf t o H=some (v,H'))
  (hT:∀ x∈o.op.operands.toList,VR e (ev P.globals.size t x) (a.eval x)) {next:Act->World->Prop} {Q:Exit->Act->World->Prop}
  (hn:∀ e' v' w',e.le e'->RH P.globals.size F W e' H' w'->VR e' v v'->next (a.put o.dst v') w'):o.wp P a w next Q:=by
 classical
 let ρ:Operand->AV:=fun x=>if x∈o.op.operands.toList then ev P.globals.size t x else .cU
 have hρ:∀ x,VR e (ρ x) (a.eval x):=by
  intro x
  simp only[ρ]
  split
  ·rename_i hx;exact hT x hx
  ·exact .cU _
 have hρe:∀ x∈o.op.operands.toList,ev P.globals.size t x=ρ x:=by
  intro x hx;simp only[ρ,if_pos hx]
 have plain:il P (ev P.globals.size t) o H=some (v,H')->o.wp P a w next Q:=by
  intro hA
  rw[aoG o H hρe] at hA
  obtain⟨n,w',e',v',hr,hv,he,hR,ij⟩:=af0 h hρ hA
  unfold Oper.wp
  rw[hr]
  rcases hv with rfl | ⟨rfl,rfl⟩
  ·exact hn e' v' w' he hR ij
  ·exact hn e' _ w' he hR ij
 unfold pB at ho
 split at ho
 ·rename_i f args bV aU
  obtain⟨aY,first,cap,hg,hs⟩:=gr _ _ _ _ _ ho
  have RJ:f∈o.op.operands.toList:=by simp[aU,Op.operands,Call.operands]
  have hf:=hT f RJ
  rw[hg] at hf
  cases Nt:a.eval f with
  | func fn Sc se=>
   rw[Nt] at hf
   cases hf with
   | func _ _ _ _ _ _ ha hc h1 h2=>
   have kV:aQ e (args.toList.map (ev P.globals.size t)) (args.map a.eval).toList:=by
    rw[Array.toList_map]
    refine⟨by simp,fun i x x' hx JJ => ?_⟩
    simp only[adX,aaa] at hx JJ
    obtain⟨z,hz,rfl⟩:=hx
    obtain⟨z',Dc,rfl⟩:=JJ
    rw[hz] at Dc
    cases Dc
    exact hT z (by simp[aU,Op.operands,Call.operands];exact .inr (by have:=aaF hz;simpa using this))
   have jZ:aQ e (first++args.toList.map (ev P.globals.size t)++cap) (Sc++args.map a.eval++se).toList:=by
    have q1:aQ e first Sc.toList:=⟨ha,h1⟩
    have q2:aQ e cap se.toList:=⟨hc,h2⟩
    have:=(q1.append kV).append q2
    simpa using this
   have hex:execOp a.eval o=callFunc aY (Sc++args.map a.eval++se):=by
    unfold execOp
    rw[aU]
    exact afs Nt
   unfold Oper.wp
   rw[hex]
   rcases hs F W e w _ h jZ with⟨v',w',e',hr,he,hR,ij⟩ | ⟨hr,agb⟩
   ·rw[hr];exact hn e' v' w' he hR ij
   ·rw[hr]
    refine agb.mono ?_
    rintro en w'' ⟨e',v',rfl,he,hR,ij⟩
    exact hn e' v' w'' he hR ij
  | _=>rw[Nt] at hf;cases hf
 ·exact plain ho
theorem Yh {cf:CF}(gr:rX P cf){ops:Array Oper}{n:Nat}{Q:Exit->Act->World->Prop}{t':Tm}{H':Hp}:∀ (r:List Oper) (i:Nat) (t:Tm) (H:Hp) (e:Em) (a:Act) (w:World),
  ops.toList.drop i=r->rS P cf n ops r t H=some (t',H')->RH P.globals.size F W e H w->TR e n t a->
  (∀ e' a' w',e.le e'->RH P.globals.size F W e' H' w'->TR e' n t' a'->a'.defers=a.defers->Q .normal a' w')->wpOps P ops Q (List.range' i r.length) a w:=by
 intro r
 induction r with
 | nil=>
  intro i t H e a w hd hs hR hT hQ
  cases hs
  exact hQ e a w e.le_refl hR hT rfl
 | cons o r ih=>
  intro i t H e a w hd hs hR hT hQ
  have hi:ops[i]? = some o:=by
   have:=congrArg (fun l=>l[0]?) hd
   simpa[afT,aeg] using this
  have eW:ops.toList.drop (i+1)=r:=by
   have:=congrArg List.tail hd
   simpa[List.tail_drop] using this
  rw[aaN,akt]
  unfold rS at hs
  split at hs
  ·rename_i hw
   split at hs
   ·rename_i v H1 ho
    split at hs
    ·rename_i t1 hp
     simp only[wpOps,hi,Lc (e:=e) (a:=a) hw (fun d _=>hT.val d),if_true]
     left
     refine FJ gr hR ho (fun x _=>VR.ev hR hT x) ?_
     intro e' v' w' he bA hv
     have cz:=(hT.mono he).put hp hv
     refine ih (i+1) t1 H1 e' _ w' eW hs bA cz ?_
     intro e2 a2 w2 zX gN mX zL
     refine hQ e2 a2 w2 (Em.le_trans he zX) gN mX (zL.trans ?_)
     cases o.dst<;>rfl
    ·cases hs
   ·cases hs
  ·rename_i hw
   split at hs
   ·rename_i t1 hp
    simp only[wpOps,hi,Lc (e:=e) (a:=a) hw (fun d _=>hT.val d),abz,if_false]
    have cz:=hT.put hp VR.undef
    refine ih (i+1) t1 H e _ w eW hs hR cz ?_
    intro e2 a2 w2 zX gN mX zL
    refine hQ e2 a2 w2 zX gN mX (zL.trans ?_)
    cases o.dst<;>rfl
   ·cases hs
  ·cases hs
end
end
def B3 (o:Oper)(acc:List Nat):Nat:=o.after.toList.foldl (fun s e=>if Region.binds .any e then s ||| 2 ^ e.on ||| acc.getD e.on 0 else s) 0
theorem UG (acc:List Nat)(j:Nat):∀ (l:List Edge) (s:Nat),(l.foldl (fun s e=>if Region.binds .any e then s ||| 2 ^ e.on ||| acc.getD e.on 0 else s) s).testBit j=true->
  s.testBit j=true\/∃ e∈l,Region.binds .any e=true/\(j=e.on\/(acc.getD e.on 0).testBit j=true)
 | [],s,h => .inl h
 | e::l,s,h=>by
  rw[List.foldl_cons] at h
  rcases UG acc j l _ h with h1 | ⟨e',I4,hb,hj⟩
  ·by_cases xL:Region.binds .any e=true
   ·rw[if_pos xL] at h1
    rw[Nat.testBit_or,Nat.testBit_or,ag6,ag6] at h1
    rcases h1 with (h1 | h1) | h1
    ·exact .inl h1
    ·right
     refine⟨e,List.mem_cons_self ..,xL,.inl ?_⟩
     rw[Nat.testBit_two_pow] at h1
     exact (of_decide_eq_true h1).symm
    ·exact .inr ⟨e,List.mem_cons_self ..,xL,.inr h1⟩
   ·rw[if_neg xL] at h1
    exact .inl h1
  ·exact .inr ⟨e',List.mem_cons_of_mem _ I4,hb,hj⟩
theorem S5:∀ (r:List Oper) (acc:List Nat),(before r acc).length=acc.length+r.length
 | [],acc=>by simp[before]
 | o::r,acc=>by
  rw[before,S5 r]
  simp;omega
theorem O5:∀ (r:List Oper) (acc:List Nat) (i:Nat),i<acc.length->(before r acc)[i]? = acc[i]?
 | [],acc,i,h=>by simp[before]
 | o::r,acc,i,h=>by
  rw[before,O5 r _ i (by simp;omega)]
  rw[abD h]
theorem abJ:∀ (r:List Oper) (acc:List Nat) (i:Nat) (o:Oper),r[i]? = some o->(before r acc)[acc.length+i]? = some (B3 o ((before r acc).take (acc.length+i)))
 | [],acc,i,o,h=>by simp at h
 | p::r,acc,i,o,h=>by
  cases i with
  | zero=>
   simp at h
   subst h
   rw[before,aem,O5 r _ _ (by simp)]
   have ht:(before r (acc++[B3 p acc])).take acc.length=acc:=by
    apply aij
    intro k
    rw[ahB]
    split
    ·rw[O5 r _ k (by simp;omega),abD (by assumption)]
    ·rw[agl (by omega)]
   show (acc++[B3 p acc])[acc.length]? = some (B3 p ((before r (acc++[B3 p acc])).take acc.length))
   rw[ht]
   simp
  | succ i=>
   have:=abJ r (acc++[B3 p acc]) i o (by simpa using h)
   rw[aa0,List.length_singleton] at this
   rw[before]
   have e1:acc.length+(i+1)=acc.length+1+i:=by omega
   rw[e1]
   exact this
structure Form (ops:Array Oper)(B:List Nat):Prop where
 len:B.length=ops.size
 back:∀ i o,ops[i]? = some o->∀ e∈o.after,Region.binds .any e=true->e.on<i
 bit:∀ i o,ops[i]? = some o->∀ j,(B.getD i 0).testBit j=true->∃ e∈o.after,Region.binds .any e=true/\(j=e.on\/(B.getD e.on 0).testBit j=true)
 one:∀ (i j:Nat) (oi oj:Oper) (d:Tmp),ops[i]? = some oi->ops[j]? = some oj->oi.dst=some d->oj.dst=some d->i=j
 rd:∀ (i j:Nat) (oi oj:Oper) (d:Tmp),ops[i]? = some oi->ops[j]? = some oj->oi.dst=some d->i≠j->DJ ops oj d=true->if i<j then (B.getD j 0).testBit i=true else (B.getD i 0).testBit j=true
theorem ai3 {ops:Array Oper}(h:u9 ops=true):Form ops (before ops.toList []):=by
 unfold u9 at h
 simp only at h
 have hlen:(before ops.toList []).length=ops.size:=by rw[S5];simp
 have hz:∀ i o,ops[i]? = some o->(i,(o,(before ops.toList []).getD i 0))∈(List.range ops.size).zip (ops.toList.zip (before ops.toList [])):=by
  intro i o ho
  have hi:i<ops.size:=(acH.1 ho).1
  apply aaF (i:=i)
  rw[List.getElem?_zip_eq_some]
  refine⟨by simp[hi],?_⟩
  rw[List.getElem?_zip_eq_some]
  refine⟨by simpa using ho,?_⟩
  simp only
  rw[agQ,aau (by rw[hlen];exact hi)]
  rfl
 rw[adY] at h
 have h1:∀ i o,ops[i]? = some o->∀ e∈o.after,Region.binds .any e=true->e.on<i:=by
  intro i o ho e he hb
  have:=h _ (hz i o ho)
  rw[aaG] at this
  have h2:=Array.all_eq_true_iff_forall_mem.1 this.1 e he
  rw[hb] at h2
  simpa using h2
 have h2:∀ i j oi oj,ops[i]? = some oi->ops[j]? = some oj->Ku ops i oi ((before ops.toList []).getD i 0) j oj ((before ops.toList []).getD j 0)=true:=by
  intro i j oi oj hi hj
  have:=h _ (hz i oi hi)
  rw[aaG] at this
  exact adY.1 this.2 _ (hz j oj hj)
 refine⟨hlen,h1,?_,?_,?_⟩
 ·intro i o ho j hb
  have hi:i<ops.size:=(acH.1 ho).1
  have KQ:=abJ ops.toList [] i o (by simpa using ho)
  simp only[ads,ad6] at KQ
  rw[agQ,KQ] at hb
  simp only[afI] at hb
  rcases UG _ j _ 0 hb with hq | ⟨e,he,xL,hj⟩
  ·simp at hq
  ·have I4:e∈o.after:=by simpa using he
   refine⟨e,I4,xL,hj.imp id fun hq => ?_⟩
   have aI:=h1 i o ho e I4 xL
   rw[agQ,ahB,if_pos aI] at hq
   rw[agQ]
   exact hq
 ·intro i j oi oj d hi hj Ay sC
  have:=h2 i j oi oj hi hj
  unfold Ku at this
  rw[Ay] at this
  simp only[ag6,aaG] at this
  rcases this with q | ⟨q,_⟩
  ·exact aa9 q
  ·simp[sC] at q
 ·intro i j oi oj d hi hj Ay aO hr
  have:=h2 i j oi oj hi hj
  unfold Ku at this
  rw[Ay] at this
  simp only[ag6,aaG] at this
  rcases this with q | ⟨_,q⟩
  ·exact absurd (aa9 q) aO
  ·rcases q with q | q
   ·rw[hr] at q;simp at q
   ·by_cases aI:i<j
    ·rw[if_pos aI]
     have:Nat.blt i j=true:=by rw[ad5];exact aI
     rw[this] at q;exact q
    ·rw[if_neg aI]
     have:Nat.blt i j=false:=by
      cases hb:Nat.blt i j
      ·rfl
      ·rw[ad5] at hb;exact absurd hb aI
     rw[this] at q;exact q
def kk (P:Program)(x:Bool)(o:Oper):Kd:=if x then kd P o else .pure
def Kk (P:Program)(cf:CF)(n:Nat)(ops:Array Oper)(o:Oper)(x:Bool)(v:AV)(tp te jH jS:Tm)(hb hh rT va:Hp):Prop:=
 oQ ops o tp=some x/\
 match x,kd P o with
 | false,_=>v=bK/\gI n o.dst bK tp=some jH/\gI n o.dst bK te=some jS/\rT=hb/\va=hh
 | true,.late=>il P (ev P.globals.size te) o hh=some (v,va)/\gI n o.dst .cU tp=some jH/\gI n o.dst v te=some jS/\rT=hb
 | true,.db=>pB P cf te o hh=some (v,va)/\gI n o.dst v tp=some jH/\gI n o.dst v te=some jS/\rT=va
 | true,_=>(∃ h',il P (ev P.globals.size tp) o hb=some (v,h'))/\gI n o.dst v tp=some jH/\gI n o.dst v te=some jS/\rT=hb/\va=hh
theorem ai1 {P:Program}{cf:CF}{n:Nat}{ops:Array Oper}{B:List Nat}{tF:Tm}{HF:Hp}:∀ (r:List Oper) (bs:List Nat) (i:Nat) (tp te:Tm) (hb hh:Hp) (l:List jB),
  ops.toList.drop i=r->B.drop i=bs->ku P cf n ops i r bs tp te hb hh=some (l,tF,HF)->
  ∃ (TP TE:Nat->Tm) (HB HH:Nat->Hp) (V:Nat->AV) (X:Nat->Bool),TP i=tp/\TE i=te/\HB i=hb/\HH i=hh/\TE (i+r.length)=tF/\HH (i+r.length)=HF/\
   ∀ j o,i<=j->ops[j]? = some o->Kk P cf n ops o (X j) (V j) (TP j) (TE j) (TP (j+1)) (TE (j+1)) (HB j) (HH j) (HB (j+1)) (HH (j+1))/\
    (⟨j,o,B.getD j 0,X j,kk P (X j) o,V j,TP j,HB j,HB (j+1)⟩:jB)∈l:=by
 intro r
 induction r with
 | nil=>
  intro bs i tp te hb hh l hd sB hr
  simp only[ku,adG,acI] at hr
  obtain⟨rfl,rfl,rfl⟩:=hr
  refine⟨fun _=>tp,fun _=>te,fun _=>hb,fun _=>hh,fun _ => .cU,fun _=>false,rfl,rfl,rfl,rfl,rfl,rfl,?_⟩
  intro j o hj ho
  have aI:=(acH.1 ho).1
  have:=congrArg List.length hd
  simp at this
  omega
 | cons o r ih=>
  intro bs i tp te hb hh l hd sB hr
  have hi:ops[i]? = some o:=by
   have:=congrArg (fun l=>l[0]?) hd
   simpa[afT,aeg] using this
  have eW:ops.toList.drop (i+1)=r:=by
   have:=congrArg List.tail hd
   simpa[List.tail_drop] using this
  cases bs with
  | nil=>simp[ku] at hr
  | cons b bs=>
   have zH:B.getD i 0=b:=by
    have:=congrArg (fun l=>l[0]?) sB
    simp[afT] at this
    simp[agQ,this]
   have ajA:B.drop (i+1)=bs:=by
    have:=congrArg List.tail sB
    simpa[List.tail_drop] using this
   have fin:∀ (x:Bool) (v:AV) (jH jS:Tm) (rT va:Hp) (l':List jB),Kk P cf n ops o x v tp te jH jS hb hh rT va->ku P cf n ops (i+1) r bs jH jS rT va=some (l',tF,HF)->
     l=⟨i,o,b,x,kk P x o,v,tp,hb,rT⟩::l'->
     ∃ (TP TE:Nat->Tm) (HB HH:Nat->Hp) (V:Nat->AV) (X:Nat->Bool),TP i=tp/\TE i=te/\HB i=hb/\HH i=hh/\TE (i+(o::r).length)=tF/\HH (i+(o::r).length)=HF/\
   ∀ j o,i<=j->ops[j]? = some o->Kk P cf n ops o (X j) (V j) (TP j) (TE j) (TP (j+1)) (TE (j+1)) (HB j) (HH j) (HB (j+1)) (HH (j+1))/\
    (⟨j,o,B.getD j 0,X j,kk P (X j) o,V j,TP j,HB j,HB (j+1)⟩:jB)∈l:=by
    intro x v jH jS rT va l' ajH xn hl
    obtain⟨TP,TE,HB,HH,V,X,q1,q2,q3,q4,q5,q6,q7⟩:=ih bs (i+1) jH jS rT va l' eW ajA xn
    have aO:¬ i+1=i:=by omega
    refine⟨fun j=>if j=i then tp else TP j,fun j=>if j=i then te else TE j,fun j=>if j=i then hb else HB j,fun j=>if j=i then hh else HH j,fun j=>if j=i then v else V j,fun j=>if j=i then x else X j,
     by simp,by simp,by simp,by simp,?_,?_,?_⟩
    ·simp only[aaN]
     rw[if_neg (by omega)]
     have:i+(r.length+1)=i+1+r.length:=by omega
     rw[this];exact q5
    ·simp only[aaN]
     rw[if_neg (by omega)]
     have:i+(r.length+1)=i+1+r.length:=by omega
     rw[this];exact q6
    ·intro j oj hj vF
     by_cases tZ:j=i
     ·subst tZ
      rw[hi] at vF
      cases vF
      simp only[if_true,if_neg aO,q1,q2,q3,q4,zH]
      refine⟨ajH,?_⟩
      rw[hl];exact List.mem_cons_self ..
     ·have MJ:¬ j+1=i:=by omega
      simp only[if_neg tZ,if_neg MJ]
      obtain⟨s1,s2⟩:=q7 j oj (by omega) vF
      exact⟨s1,by rw[hl];exact List.mem_cons_of_mem _ s2⟩
   unfold ku at hr
   split at hr
   ·rename_i hw
    split at hr
    ·rename_i hk
     split at hr
     ·rename_i v h' aU
      split at hr
      ·rename_i jH jS h1 h2
       simp only[aaa,Prod.exists,acI] at hr
       obtain⟨l',a,b',xn,rfl,rfl,rfl⟩:=hr
       refine fin true v jH jS hb h' l' ⟨hw,?_⟩ xn (by simp[kk,hk])
       rw[hk];exact⟨aU,h1,h2,rfl⟩
      ·cases hr
     ·cases hr
    ·rename_i hk
     split at hr
     ·rename_i v h' aU
      split at hr
      ·rename_i jH jS h1 h2
       simp only[aaa,Prod.exists,acI] at hr
       obtain⟨l',a,b',xn,rfl,rfl,rfl⟩:=hr
       refine fin true v jH jS h' h' l' ⟨hw,?_⟩ xn (by simp[kk,hk])
       rw[hk];exact⟨aU,h1,h2,rfl⟩
      ·cases hr
     ·cases hr
    ·rename_i tu fR
     split at hr
     ·rename_i v h' aU
      split at hr
      ·rename_i jH jS h1 h2
       simp only[aaa,Prod.exists,acI] at hr
       obtain⟨l',a,b',xn,rfl,rfl,rfl⟩:=hr
       refine fin true v jH jS hb hh l' ⟨hw,?_⟩ xn (by simp[kk])
       cases cq:kd P o
       ·exact⟨⟨h',aU⟩,h1,h2,rfl,rfl⟩
       ·exact⟨⟨h',aU⟩,h1,h2,rfl,rfl⟩
       ·exact absurd cq tu
       ·exact absurd cq fR
      ·cases hr
     ·cases hr
   ·rename_i hw
    split at hr
    ·rename_i jH jS h1 h2
     simp only[aaa,Prod.exists,acI] at hr
     obtain⟨l',a,b',xn,rfl,rfl,rfl⟩:=hr
     refine fin false bK jH jS hb hh l' ⟨hw,rfl,h1,h2,rfl,rfl⟩ xn (by simp[kk])
    ·cases hr
   ·cases hr
end Go.Proofs.YtodfajmihkagnaaGreatDoor.Am
