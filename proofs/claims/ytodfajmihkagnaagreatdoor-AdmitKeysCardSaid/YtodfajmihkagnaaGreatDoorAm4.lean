/- Laws that the proof uses. -/
import Derived.Test.YtodfajmihkagnaaGreatDoorAm3
set_option maxHeartbeats 2000000
set_option linter.unusedVariables false
set_option linter.unusedSimpArgs false
namespace Go.Proofs.YtodfajmihkagnaaGreatDoor.Am
section
section
section
section
section
variable {P:Program}{G:Nat}{F:Nat->Prop}{W:World}{e:Em}{H:Hp}{w:World}
theorem Kb {el s n:Nat}{z:List AV}(h:yj P el s n=some z) :
  (n*s=0/\z=[])\/(¬ n*s=0/\z.length=n*s/\∃ inf z0,P.info? el=some inf/\inf.zero=some z0/\z0.cells.size=s/\aP e z ((Array.range (n*s)).map (z0.cells[· % z0.cells.size]!)).toList):=by
 unfold yj at h
 cases hb:Nat.beq (n*s) 0 with
 | true=>
  rw[hb] at h
  cases h
  exact .inl ⟨abp hb,rfl⟩
 | false=>
  rw[hb] at h
  simp only[cond_false] at h
  have h0:¬ n*s=0:=fun q=>by rw[q] at hb;cases hb
  split at h
  ·rename_i z1 hz
   cases hl:Nat.beq z1.length s with
   | false=>rw[hl] at h;cases h
   | true=>
    rw[hl] at h
    cases h
    have rq:z1.length=s:=abp hl
    obtain⟨inf,z0,iN,ft,wO⟩:=wK (e:=e) hz
    have ez:z0.cells.size=s:=by have:=wO.1;simp at this;omega
    have hr:aP e (rep n z1) ((Array.range (n*s)).map (z0.cells[· % z0.cells.size]!)).toList:=by
     have:=Ye z0.cells n
     rw[ez] at this
     rw[ez,this]
     exact wO.rep n
    refine .inr ⟨h0,?_,inf,z0,iN,ft,ez,hr⟩
    have:=hr.1
    simp at this
    omega
  ·cases h
theorem Vq {pl:Nat->Option (Nat × Nat)}:∀ (ps:List (Nat × AV)) (cells out:List AV),tf pl cells ps=some out->out.length=cells.length
 | [],cells,out,h=>by cases h;rfl
 | (i,v)::ps,cells,out,h=>by
  unfold tf at h
  split at h
  ·cases h
  ·split at h
   ·cases h
   ·split at h
    ·rename_i hc
     rw[Vq ps _ _ h]
     simp;omega
    ·cases h
theorem ag1 (h:RH G F W e H w){t len:Nat}{ps:List (Nat × AV)}{oc:Array (Nat × Value)}{v:AV}{H':Hp}(hp:tZ e ps oc.toList)(hb:D7 P t len ps H=some (v,H')) :
  ∃ v' w' e',(Instr.buildSlice t len oc).run P w = .ok v' w'/\e.le e'/\RH G F W e' H' w'/\VR e' v v':=by
 unfold D7 at hb
 split at hb
 ·rename_i el hu
  split at hb
  ·rename_i s hs
   cases hle:Nat.ble (len*s) 65536 with
   | false=>rw[hle] at hb;cases hb
   | true=>
   rw[hle] at hb
   simp only[cond_true] at hb
   rw[aer] at hle
   split at hb
   ·rename_i z hz
    split at hb
    ·rename_i cs fu
     simp only[aaa,acn] at hb
     obtain⟨⟨i,H2⟩,hn,rfl,rfl⟩:=hb
     have hlen:=Vq ps z cs fu
     have KH:¬ (len*s>2 ^ 24):=by omega
     rcases Kb (P:=P) (e:=e) hz with⟨h0,rfl⟩ | ⟨h0,Y0,inf,z0,iN,ft,ez,yw⟩
     ·obtain⟨kC,ho,hr⟩:=K9 (e:=e) (Dt:=fun i=>some (i*s,s)) (fun i x hx=>hx) ps oc.toList [] cs #[] hp (.nil e) fu
      obtain⟨e',he,g1,g2,g3,g4,oI⟩:=h.newRow (rest:=[]) (fz:=(0,0)) hn hr (fun _=>rfl) (by simp)
      refine⟨.slice (some ⟨w.heap.size,0,none⟩) len len,_,e',?_,he,oI,VR.zD g2 g1 (by rw[g3];simp) (aaC _) (aaC _) (fun _=>rfl) ?_⟩
      ·simp only[Instr.buildSlice,Sem.run_bind,aH hu,Result.andThen_ok,gQ hs,if_neg KH]
       rw[if_pos h0]
       have Bi:Array.range 0 = #[]:=rfl
       simp[h0,Bi,ho,newRow]
      ·rw[g4];simp[h0]
     ·obtain⟨kC,ho,hr⟩:=K9 (e:=e) (Dt:=fun i=>some (i*s,s)) (fun i x hx=>hx) ps oc.toList z cs _ hp yw fu
      obtain⟨e',he,g1,g2,g3,g4,oI⟩:=h.newRow (rest:=[]) (fz:=(0,0)) hn hr (fun _=>rfl) (by simp)
      refine⟨.slice (some ⟨w.heap.size,0,none⟩) len len,_,e',?_,he,oI,VR.zD g2 g1 (by rw[g3];simp) (aaC _) (aaC _) (fun _=>rfl) ?_⟩
      ·simp only[Instr.buildSlice,Sem.run_bind,aH hu,Result.andThen_ok,gQ hs,if_neg KH]
       rw[if_neg h0]
       simp[qU iN ft,newRow] at ho ⊢
       simp[ho]
      ·rw[g4]
       have:=hr.1
       simp at this ⊢
       omega
    ·cases hb
   ·cases hb
  ·cases hb
 ·cases hb
theorem run_makeSlice {t:Nat}{k1 k2:IntKind}{n m:Int}{H H':Hp}{v:AV}(hb:uU P t (.int k1 n) (.int k2 m) H=some (v,H'))(w:World) :
  ∃ el s z row,P.underlying t=some (.slice el)/\sz P el=some s/\yj P el s m.toNat=some z/\(∀ e:Em,aP e z row)/\n.toNat<=m.toNat/\row.length=m.toNat*s/\
   (Instr.makeSlice t (.int k1 n) (.int k2 m)).run P w = .ok (.slice (some ⟨w.heap.size,0,none⟩) n.toNat m.toNat) { w with heap:=w.heap.push (.cells row.toArray el (0,0)) }:=by
 unfold uU at hb
 split at hb
 ·rename_i el k1' n' JI m' hu q1 q2
  cases q1;cases q2
  split at hb
  ·rename_i s hs
   split at hb
   ·rename_i rI
    obtain⟨h1,h2,h3,h4⟩:=rI
    split at hb
    ·rename_i z hz
     obtain⟨inf,iN⟩:∃ inf,P.info? el=some inf:=by
      unfold sz at hs
      cases hq:P.info? el with
      | none=>simp[hq] at hs
      | some inf=>exact⟨inf,rfl⟩
     have Rm:inf.bytes<=4096:=by unfold Program.bytesOf at h4;rw[iN] at h4;simpa using h4
     have w1:IntKind.i64.wrap n=n:=IntWalk.i64_in _ (by omega)
     have w2:IntKind.i64.wrap m=m:=IntWalk.i64_in _ (by omega)
     have Bp:¬ ((inf.bytes:Int)*m>2 ^ 48):=by
      have:(inf.bytes:Int)*m<=4096*1048576:=Int.mul_le_mul (by omega) (by omega) (by omega) (by omega)
      omega
     have c1:(decide (m<0)||decide ((inf.bytes:Int)*m>2 ^ 48))=false:=by simp;omega
     have Ay:¬ (((decide (m<0)||decide ((inf.bytes:Int)*m>2 ^ 48))||decide (n<0)||decide (n>m))=true):=by
      rw[c1];simp;omega
     rcases Kb (P:=P) (e:=⟨id,fun _=>0,id,0⟩) hz with⟨h0,rfl⟩ | ⟨h0,Y0,X8,z0,zw,ft,ez,yw⟩
     ·refine⟨el,s,[],[],hu,hs,hz,fun e => .nil e,by omega,by simp[h0],?_⟩
      simp only[Instr.makeSlice,Sem.run_bind,aH hu,Result.andThen_ok,asInt,asIntOf,Sem.run_pure,pE iN,w1,w2,if_neg Ay,run_askRoom,gQ hs]
      rw[if_pos h0]
      have Bi:Array.range 0 = #[]:=rfl
      simp[h0,Bi,newRow]
     ·refine⟨el,s,z,((Array.range (m.toNat*s)).map (z0.cells[· % z0.cells.size]!)).toList,hu,hs,hz,fun e => ?_,by omega,?_,?_⟩
      rotate_left 2
      ·simp only[Instr.makeSlice,Sem.run_bind,aH hu,Result.andThen_ok,asInt,asIntOf,Sem.run_pure,pE iN,w1,w2,if_neg Ay,run_askRoom,gQ hs]
       rw[if_neg h0]
       simp[qU zw ft,newRow]
       congr 2
       apply adB.1
       simp
      ·rcases Kb (P:=P) (e:=e) hz with⟨q,_⟩ | ⟨_,_,aqx,z3,Tq,hz3,_,aj8⟩
       ·exact absurd q h0
       ·rw[zw] at Tq;cases Tq
        rw[ft] at hz3;cases hz3
        exact aj8
      ·simp
    ·cases hb
   ·cases hb
  ·cases hb
 ·cases hb
theorem alW (h:RH G F W e H w){t:Nat}{l c v:AV}{l' c':Value}{H':Hp}(hl:VR e l l')(hc:VR e c c')(hb:uU P t l c H=some (v,H')) :
  ∃ v' w' e',(Instr.makeSlice t l' c').run P w = .ok v' w'/\e.le e'/\RH G F W e' H' w'/\VR e' v v':=by
 unfold uU at hb
 split at hb
 ·rename_i el k1 n k2 m hu
  cases hl.fE;cases hc.fE
  split at hb
  ·rename_i s hs
   split at hb
   ·rename_i rI
    obtain⟨h1,h2,h3,h4⟩:=rI
    split at hb
    ·rename_i z hz
     simp only[aaa,acn] at hb
     obtain⟨⟨i,H2⟩,hn,rfl,rfl⟩:=hb
     obtain⟨inf,iN⟩:∃ inf,P.info? el=some inf:=by
      unfold sz at hs
      cases hq:P.info? el with
      | none=>simp[hq] at hs
      | some inf=>exact⟨inf,rfl⟩
     have Rm:inf.bytes<=4096:=by unfold Program.bytesOf at h4;rw[iN] at h4;simpa using h4
     have w1:IntKind.i64.wrap n=n:=IntWalk.i64_in _ (by omega)
     have w2:IntKind.i64.wrap m=m:=IntWalk.i64_in _ (by omega)
     have Bp:¬ ((inf.bytes:Int)*m>2 ^ 48):=by
      have:(inf.bytes:Int)*m<=4096*1048576:=Int.mul_le_mul (by omega) (by omega) (by omega) (by omega)
      omega
     have c1:(decide (m<0)||decide ((inf.bytes:Int)*m>2 ^ 48))=false:=by simp;omega
     have KH:¬ ((decide (m<0)||decide ((inf.bytes:Int)*m>2 ^ 48))=true\/n<0\/n>m):=by
      rw[c1];simp;omega
     have Ay:¬ (((decide (m<0)||decide ((inf.bytes:Int)*m>2 ^ 48))||decide (n<0)||decide (n>m))=true):=by
      rw[c1];simp;omega
     rcases Kb (P:=P) (e:=e) hz with⟨h0,rfl⟩ | ⟨h0,Y0,X8,z0,zw,ft,ez,yw⟩
     ·obtain⟨e',he,g1,g2,g3,g4,oI⟩:=h.newRow (rest:=[]) (fz:=(0,0)) hn (.nil e) (fun _=>rfl) (by simp)
      refine⟨.slice (some ⟨w.heap.size,0,none⟩) n.toNat m.toNat,_,e',?_,he,oI,VR.zD g2 g1 (by rw[g3];simp) (by omega) (aaC _) (fun _=>rfl) (by rw[g4];simp[h0])⟩
      simp only[Instr.makeSlice,Sem.run_bind,aH hu,Result.andThen_ok,asInt,asIntOf,Sem.run_pure,pE iN,w1,w2,if_neg Ay,run_askRoom,gQ hs]
      rw[if_pos h0]
      have Bi:Array.range 0 = #[]:=rfl
      simp[h0,Bi,newRow]
     ·obtain⟨e',he,g1,g2,g3,g4,oI⟩:=h.newRow (rest:=[]) (fz:=(0,0)) hn yw (fun _=>rfl) (by simp)
      refine⟨.slice (some ⟨w.heap.size,0,none⟩) n.toNat m.toNat,_,e',?_,he,oI,VR.zD g2 g1 (by rw[g3];simp) (by omega) (aaC _) (fun _=>rfl) (by rw[g4];simp)⟩
      simp only[Instr.makeSlice,Sem.run_bind,aH hu,Result.andThen_ok,asInt,asIntOf,Sem.run_pure,pE iN,w1,w2,if_neg Ay,run_askRoom,gQ hs]
      rw[if_neg h0]
      simp[qU zw ft,newRow]
      congr 2
      apply adB.1
      simp
    ·cases hb
   ·cases hb
  ·cases hb
 ·cases hb
theorem RH.new (h:RH G F W e H w){o:AO}{i:Nat}{H':Hp}(ha:Am.alloc H o=some (i,H')){ob:Obj}(dO:∀ e',e.le e'->e'.d i=0->OR e' i o ob) :
  ∃ e',e.le e'/\i<e'.N/\e'.b i=w.heap.size/\e'.d i=0/\RH G F W e' H' { w with heap:=w.heap.push ob }:=by
 have wN:i=e.N:=(vz ha).1.trans h.N.symm
 obtain⟨hi,hr⟩:=h.alloc (d:=0) (n:=0) ha (dO _ (Em.pq ..) (by rw[wN];exact Em.mJ ..))
 subst hi
 exact⟨_,Em.pq ..,by simp[Em.ext],Em.mO ..,Em.mJ ..,hr⟩
theorem VR.Qb {e:Em}{b i:Nat}(hb:e.b i=b)(hi:i<e.N)(hd:e.d i=0):VR e (.ptr i 0) (.pointer (some ⟨b,0,none⟩)):=by
 subst hb;exact .ptr i 0 0 hi (by rw[hd];simp)
theorem VR.ye {e:Em}{b i:Nat}(hb:e.b i=b)(hi:i<e.N):VR e (.map i) (.map (some b)):=by subst hb;exact .map i hi
theorem ag0 (h:RH G F W e H w){t:Nat}{i:Nat}{H':Hp}(ha:Am.alloc H (.map [] 0)=some (i,H')) :
  ∃ v' w' e',(Instr.makeMap t none).run P w = .ok v' w'/\e.le e'/\RH G F W e' H' w'/\VR e' (.map i) v':=by
 obtain⟨e',he,g1,g2,g3,hr⟩:=h.new (ob := .map #[] 0) ha (fun e' _ _ => .map _ _ _ _ [] (List.Perm.refl _) ⟨rfl,by simp⟩ (by simp) (by simp))
 exact⟨.map (some w.heap.size),_,e',by simp[Instr.makeMap],he,hr,.ye g2 g1⟩
theorem apu (h:RH G F W e H w){t:Nat}{x v:AV}{x':Value}{H':Hp}(hx:VR e x x')(hb:xy P t x H=some (v,H')) :
  ∃ v' w' e',(Instr.range t x').run P w = .ok v' w'/\e.le e'/\RH G F W e' H' w'/\VR e' v v':=by
 unfold xy at hb
 split at hb
 ·rename_i s hu
  obtain⟨b,rfl,rfl⟩:=hx.lU
  simp only[aaa,acn] at hb
  obtain⟨⟨i,H2⟩,hn,rfl,rfl⟩:=hb
  obtain⟨e',he,g1,g2,g3,hr⟩:=h.new (ob := .stringIter b 0) hn (fun e' _ hd => .rL _ _ _ rfl hd)
  exact⟨.pointer (some ⟨w.heap.size,0,none⟩),_,e',by simp[Instr.range,aH hu],he,hr,.Qb g2 g1 g3⟩
 ·cases hb
theorem ao9 {s:ByteArray}{pos b:Nat}{r:List Nat}(h:(bytes s).drop pos=b::r)(hb:b<128):pos<s.size/\Utf8.decode s pos=(b,1):=by
 have hlen:((bytes s).drop pos).length=s.size-pos:=by rw[agf,vK]
 rw[h] at hlen
 simp at hlen
 have aJ:pos<s.size:=by omega
 refine⟨aJ,?_⟩
 have h0:(bytes s)[pos]? = some b:=by
  have:=afL (xs:=bytes s) (i:=pos) (j:=0)
  rw[h] at this
  simpa using this.symm
 simp only[bytes,adL,aaa] at h0
 obtain⟨u,hu,rfl⟩:=h0
 have ey:s.get! pos=u:=by
  cases s with
  | mk d=>
   have hd:pos<d.size:=aJ
   have:=(aah.1 hu).2
   simp only[ByteArray.get!]
   rw[getElem!_pos d pos hd,<-this]
   simp
 unfold Utf8.decode
 simp only[aej,ey]
 rw[if_pos hb]
theorem ajZ {b:Nat}{o ob:Obj}(hb:w.heap[b]? = some ob)(hn:∀ c el fz,ob ≠ .cells c el fz):(Go.setObj b o).run P w = .ok () { w with heap:=w.heap.setIfInBounds b o }:=by
 cases ob<;>first | (exact absurd rfl (hn _ _ _)) | (simp[Go.setObj,Sem.run,hb])
theorem am3 {b:Nat}{ob:Obj}(hb:w.heap[b]? = some ob)(hn:∀ c el fz,ob ≠ .cells c el fz):(Go.getObj b).run P w = .ok ob w:=by
 cases ob<;>first | (exact absurd rfl (hn _ _ _)) | (simp[Go.getObj,Sem.run,hb])
theorem RH.adV (h:RH G F W e H w){i:Nat}{o o2:AO}(hg:H.h.get i=some o)(hw:wr o=true){ob oV:Obj}(hb:w.heap[e.b i]? = some ob)(dO:OR e i o2 oV) :
  RH G F W e (Am.setObj H i o2) { w with heap:=w.heap.setIfInBounds (e.b i) oV }:=by
 have aJ:=(abZ.1 hb).1
 refine h.put hg hw (pf:=oV) (by simp) (by simp[aJ]) (fun k hk => ?_) dO rfl rfl rfl
 simp only
 rw[aex (fun q=>hk q.symm)]
theorem VR.agG {a b c:AV}{a' b' c':Value}(ha:VR e a a')(hb:VR e b b')(hc:VR e c c'):VR e (.tuple [a,b,c]) (.tuple #[a',b',c']):=
 .tuple' (.cons ha (.cons hb (.cons hc (.nil e))))
theorem aeJ (h:RH G F W e H w){t:Nat}{it v:AV}{GQ:Value}{qJ:Bool}{H':Hp}(hx:VR e it GQ)(hb:u6 it qJ H=some (v,H')) :
  ∃ v' w',(Instr.next GQ qJ t).run P w = .ok v' w'/\RH G F W e H' w'/\VR e v v':=by
 unfold u6 at hb
 split at hb
 ·rename_i i
  obtain⟨o,hi,ho,rfl⟩:=hx.pL
  split at hb
  ·rename_i s pos hg
   obtain⟨_,ob,dV,dO,hF⟩:=h.obj i _ hg
   cases dO with
   | rL _ _ s' hs hd=>
   have Ah:o=0:=by omega
   subst Ah
   have ey:(Go.getObj (e.b i)).run P w = .ok (.stringIter s' pos) w:=am3 dV (by simp)
   split at hb
   ·rename_i yo
    cases hb
    have hlen:=congrArg List.length yo
    rw[agf,<-hs,vK] at hlen
    have qM:¬ pos<s'.size:=by simp at hlen;omega
    exact⟨_,w,by simp[Instr.next,ey,qM],h,.tuple' (.cons (.bool false) (.nil e))⟩
   ·rename_i b r yo
    cases aJ:Nat.blt b 128 with
    | false=>rw[aJ] at hb;cases hb
    | true=>
     rw[aJ] at hb
     cases hb
     rw[adE] at aJ
     rw[<-hs] at yo
     obtain⟨Ei,ams⟩:=ao9 yo aJ
     refine⟨_,{ w with heap:=w.heap.setIfInBounds (e.b i) (.stringIter s' (pos+1)) },?_,h.adV hg rfl dV (.rL _ _ _ hs hd),VR.agG (.bool true) (.int _ _) (.int _ _)⟩
     have fh:(Go.setObj (e.b i) (.stringIter s' (pos+1))).run P w = .ok () { w with heap:=w.heap.setIfInBounds (e.b i) (.stringIter s' (pos+1)) }:=ajZ dV (by simp)
     simp only[Instr.next,Sem.run_bind,ey,Result.andThen_ok,Ei,if_true,ams,fh]
     rfl
  ·cases hb
 ·cases hb
theorem ajx (h:RH G F W e H w){it v:AV}{GQ:Value}(hx:VR e it GQ)(hb:IA it H=some v) :
  ∃ v',(Instr.entry GQ).run P w = .ok v' w/\VR e v v':=by
 unfold IA at hb
 cases hb
theorem alf {uf t:TypeId}{x v:AV}{x':Value}{ok:Bool}(hx:VR e x x')(hb:Gc P uf x ok=some v)(w:World) :
  ∃ v',(Instr.typeAssert x' t uf ok).run P w = .ok v' w/\VR e v v':=by
 unfold Gc at hb
 split at hb
 ·cases hb
 ·rename_i d t2 u aO hu
  cases hx with
  | iface _ _ u' hr=>
  split at hb
  ·rename_i ht
   subst ht
   have hd:∀ ms,d ≠ .interface ms:=fun ms q=>aO ms q
   cases ok with
   | true=>
    cases hb
    refine⟨.tuple #[u',.bool true],?_,hr.pair (.bool true)⟩
    cases d<;>first | (exact absurd rfl (hd _)) | simp[Instr.typeAssert,aH hu]
   | false=>
    cases hb
    refine⟨u',?_,hr⟩
    cases d<;>first | (exact absurd rfl (hd _)) | simp[Instr.typeAssert,aH hu]
  ·cases hb
 ·cases hb
end
end
section
variable {P:Program}{G:Nat}{F:Nat->Prop}{W:World}{e:Em}{H:Hp}{w:World}
theorem afn {t:TypeId}{ps:List (Nat × AV)}{oc:Array (Nat × Value)}{v:AV}(hp:tZ e ps oc.toList)(hb:HX P t ps=some v)(w:World) :
  ∃ v',(Instr.build t oc).run P w = .ok v' w/\VR e v v':=by
 unfold HX at hb
 split at hb
 ·rename_i z fs hz hu
  split at hb
  ·rename_i pl mz
   simp only[aaa] at hb
   obtain⟨out,hf,rfl⟩:=hb
   exact aeh hz hu mz hp hf w
  ·cases hb
 ·rename_i z n el hz hu
  split at hb
  ·rename_i s hs
   simp only[aaa] at hb
   obtain⟨out,hf,rfl⟩:=hb
   exact ak8 hz hu hs hp hf w
  ·cases hb
 ·cases hb
theorem aP.DF {ρ:Operand->AV}{σ:Operand->Value}(h:∀ x,VR e (ρ x) (σ x))(l:Array Operand):aP e (l.toList.map ρ) (l.map σ).toList:=by
 rw[Array.toList_map];exact aP.map h _
theorem ada (h:RH G F W e H w){b:Builtin}{bV:Array TypeId}{ty:TypeId}{cs:Array Bool}{args:List AV}{BK:Array Value}{v:AV}{H':Hp}(ha:aP e args BK.toList)(hb:gp P b bV args H=some (v,H')) :
  dY P G F W e v H' ((builtin b bV ty cs BK).run P w):=by
 have two:∀ {s x:AV},aP e [s,x] BK.toList->∃ s' x',BK = #[s',x']/\VR e s s'/\VR e x x':=by
  intro s x h2
  obtain⟨s',r,h1,hs,hr⟩:=h2.cons_inv
  obtain⟨x',r',rfl,hx,eu⟩:=hr.cons_inv
  rw[eu.jE] at h1
  exact⟨s',x',adB.1 h1,hs,hx⟩
 have one:∀ {s:AV},aP e [s] BK.toList->∃ s',BK = #[s']/\VR e s s':=by
  intro s h2
  obtain⟨s',r,h1,hs,hr⟩:=h2.cons_inv
  rw[hr.jE] at h1
  exact⟨s',adB.1 h1,hs⟩
 unfold gp at hb
 split at hb
 ·obtain⟨s',x',rfl,hs,hx⟩:=two ha
  obtain⟨v',w',e',h1,h2,h3,h4⟩:=adR (P:=P) (ty:=ty) h hs hx hb
  exact dY.val h1 h2 h3 h4
 ·obtain⟨s',x',rfl,hs,hx⟩:=two ha
  obtain⟨v',w',h1,h3,h4⟩:=an7 (P:=P) (ty:=ty) h hs hx hb
  exact dY.val h1 e.le_refl h3 h4
 ·obtain⟨s',x',rfl,hs,hx⟩:=two ha
  simp only[aaa,acn] at hb
  obtain⟨H2,hd,rfl,rfl⟩:=hb
  obtain⟨w',h1,h3⟩:=aiK (P:=P) (ty:=ty) h hs hx hd
  exact dY.val h1 e.le_refl h3 .undef
 ·obtain⟨s',rfl,hs⟩:=one ha
  simp only[aaa,acn] at hb
  obtain⟨H2,hd,rfl,rfl⟩:=hb
  obtain⟨w',h1,h3⟩:=ajq (P:=P) (ty:=ty) h hs hd
  exact dY.val h1 e.le_refl h3 .undef
 ·obtain⟨s',rfl,hs⟩:=one ha
  simp only[aaa,acn] at hb
  obtain⟨v2,hd,rfl,rfl⟩:=hb
  obtain⟨v',h1,h3⟩:=ae1 (P:=P) (ty:=ty) h hs hd
  exact dY.pure h h1 h3
 ·obtain⟨s',rfl,hs⟩:=one ha
  simp only[aaa,acn] at hb
  obtain⟨v2,hd,rfl,rfl⟩:=hb
  obtain⟨v',h1,h3⟩:=adK (P:=P) (ty:=ty) hs hd w
  exact dY.pure h h1 h3
 ·rename_i x r
  simp only[aaa,acn] at hb
  obtain⟨v2,hd,rfl,rfl⟩:=hb
  obtain⟨x',r',lh,hx,hr⟩:=ha.cons_inv
  obtain⟨v',h1,h3⟩:=Yu (P:=P) (w:=w) hx hr hd
  refine dY.pure h (v':=v') ?_ h3
  unfold Builtin.min_
  rw[lh]
  exact h1
 ·rename_i x r
  simp only[aaa,acn] at hb
  obtain⟨v2,hd,rfl,rfl⟩:=hb
  obtain⟨x',r',lh,hx,hr⟩:=ha.cons_inv
  obtain⟨v',h1,h3⟩:=Ua (P:=P) (w:=w) hx hr hd
  refine dY.pure h (v':=v') ?_ h3
  unfold Builtin.max_
  rw[lh]
  exact h1
 ·obtain⟨s',rfl,hs⟩:=one ha
  cases hs;cases hb
  exact dY.pure h (Go.Lib.run_unsafeSliceData_nil (P:=P) w bV ty 0 0) .fD
 ·rename_i i off l c a1 a2
  obtain⟨s',rfl,hs⟩:=one ha
  cases hl:Nat.blt 0 l with
  | false=>rw[hl] at hb;cases hb
  | true=>
   rw[hl] at hb
   cases hb
   rw[adE] at hl
   rcases hs.lj with⟨o,cc,hi,ho,kO,hc,iL,hn,rfl⟩ | ⟨rfl,_,a,rfl⟩
   ·exact dY.pure h (Go.Lib.run_unsafeSliceData_row (P:=P) w bV ty ⟨e.b i,o,none⟩ l cc (by omega)) (.ptr _ _ _ hi ho)
   ·omega
 ·rename_i p k n
  obtain⟨p',k',rfl,hp,hk⟩:=two ha
  cases hk.fE
  obtain⟨v',w',h1,h3,h4⟩:=acY (P:=P) (ty:=ty) h hp hb
  exact dY.val h1 e.le_refl h3 h4
 ·cases hb
theorem aqg {x v:AV}{x':Value}(hx:VR e x x')(hb:aV x=some v) :
  v=x/\((∃ a,x' = .pointer (some a))\/(∃ f a b,x' = .func (.func f) a b)\/∃ t u,x' = .iface t u):=by
 unfold aV at hb
 split at hb
 ·cases hb
  obtain⟨o,_,_,rfl⟩:=hx.pL
  exact⟨rfl,.inl ⟨_,rfl⟩⟩
 ·cases hb;cases hx;exact⟨rfl,.inr (.inl ⟨_,_,_,rfl⟩)⟩
 ·cases hb;cases hx;exact⟨rfl,.inr (.inr ⟨_,_,rfl⟩)⟩
 ·cases hb
end
theorem uS.map {e:Em}{ρ:Operand->AV}{σ:Operand->Value}(h:∀ x,VR e (ρ x) (σ x)):∀ o:Option Operand,uS e (o.map ρ) (o.map σ)
 | none=>trivial
 | some x=>h x
theorem tZ.DF {e:Em}{ρ:Operand->AV}{σ:Operand->Value}(h:∀ x,VR e (ρ x) (σ x))(l:Array (Nat × Operand)) :
  tZ e (l.toList.map fun (i,x)=>(i,ρ x)) (l.map fun (i,x)=>(i,σ x)).toList:=by
 rw[Array.toList_map];exact tZ.map h _
theorem afC {P:Program}{G:Nat}{F:Nat->Prop}{W:World}{e:Em}{H:Hp}{w:World}(h:RH G F W e H w){ρ:Operand->AV}{σ:Operand->Value}(hρ:∀ x,VR e (ρ x) (σ x)){o:Oper}{v:AV}{H':Hp}(ha:iC P ρ o H=some (v,H')) :
  dY P G F W e v H' ((execOp σ o).run P w):=by
 unfold iC at ha
 unfold execOp
 split at ha
 ·rename_i x aT
  cases ha
  rw[aT]
  exact⟨.value (σ x),w,e,σ x,rfl,.inl rfl,e.le_refl,h,hρ x⟩
 ·rename_i x aT
  cases ha
  rw[aT]
  exact⟨.value (σ x),w,e,σ x,rfl,.inl rfl,e.le_refl,h,hρ x⟩
 ·rename_i c a b aT
  rw[aT]
  split at ha
  ·rename_i t ht
   cases ha
   have hc:=hρ c
   rw[ht] at hc
   have Vl:=hc.sw
   cases t with
   | true=>exact⟨.value (σ a),w,e,σ a,by simp[Vl,asBool],.inl rfl,e.le_refl,h,hρ a⟩
   | false=>exact⟨.value (σ b),w,e,σ b,by simp[Vl,asBool],.inl rfl,e.le_refl,h,hρ b⟩
  ·cases ha
 ·rename_i t aT
  rw[aT]
  split at ha
  ·rename_i l hl
   simp only[aaa,acn] at ha
   obtain⟨⟨i,H2⟩,hn,rfl,rfl⟩:=ha
   obtain⟨v',w',e',h1,h2,h3,h4⟩:=agV (P:=P) h hl hn
   exact dY.val h1 h2 h3 h4
  ·cases ha
 ·rename_i t x aT
  rw[aT]
  split at ha
  ·rename_i l hl
   simp only[aaa,acn] at ha
   obtain⟨⟨i,H2⟩,hn,rfl,rfl⟩:=ha
   obtain⟨v',w',e',h1,h2,h3,h4⟩:=aof (P:=P) h (hρ x) hl hn
   exact dY.val h1 h2 h3 h4
  ·cases ha
 ·rename_i t parts aT
  rw[aT]
  simp only[aaa,acn] at ha
  obtain⟨v2,hb,rfl,rfl⟩:=ha
  obtain⟨v',h1,h2⟩:=afn (tZ.DF hρ parts) hb w
  exact dY.pure h h1 h2
 ·rename_i t len parts aT
  rw[aT]
  obtain⟨v',w',e',h1,h2,h3,h4⟩:=ag1 (P:=P) h (tZ.DF hρ parts) ha
  exact dY.val h1 h2 h3 h4
 ·rename_i t m k x aT
  rw[aT]
  simp only[aaa,acn] at ha
  obtain⟨H2,hb,rfl,rfl⟩:=ha
  obtain⟨w',h1,h3⟩:=Xi (P:=P) h (hρ m) (hρ k) (hρ x) hb
  exact dY.unit h1 e.le_refl h3
 ·rename_i t m k x aT
  rw[aT]
  simp only[aaa,acn] at ha
  obtain⟨H2,hb,rfl,rfl⟩:=ha
  obtain⟨w',h1,h3⟩:=Xi (P:=P) h (hρ m) (hρ k) (hρ x) hb
  exact dY.unit h1 e.le_refl h3
 ·rename_i t a aT
  rw[aT]
  simp only[aaa,acn] at ha
  obtain⟨v2,hb,rfl,rfl⟩:=ha
  obtain⟨v',h1,h2⟩:=YO h (hρ a) hb
  exact dY.pure h h1 h2
 ·rename_i t a x aT
  rw[aT]
  simp only[aaa,acn] at ha
  obtain⟨H2,hb,rfl,rfl⟩:=ha
  obtain⟨w',h1,h3⟩:=anU (P:=P) h (hρ a) (hρ x) hb
  exact dY.unit h1 e.le_refl h3
 ·rename_i x aT
  rw[aT]
  simp only[aaa,acn] at ha
  obtain⟨v2,hb,rfl,rfl⟩:=ha
  obtain⟨rfl,h1⟩:=aqg (hρ x) hb
  refine⟨.value (σ x),w,e,σ x,?_,.inl rfl,e.le_refl,h,hρ x⟩
  rcases h1 with⟨a,q⟩ | ⟨f,a,b,q⟩ | ⟨t,u,q⟩<;>(simp only[q];rfl)
 ·rename_i op t x y ty aT
  rw[aT]
  cases hg:rP P op t x y (ρ x) (ρ y) with
  | false=>rw[hg] at ha;cases ha
  | true=>
   rw[hg] at ha
   simp only[cond_true,aaa,acn] at ha
   obtain⟨v2,hb,rfl,rfl⟩:=ha
   obtain⟨v',h1,h2⟩:=acj h (hρ x) (hρ y) hb
   have h0:=aoW (w:=w) (hρ x) (hρ y) hg hb
   refine dY.pure h (v':=v') ?_ h2
   rw[Sem.run_bind,h0]
   exact h1
 ·rename_i op t x aT
  rw[aT]
  simp only[aaa,acn] at ha
  obtain⟨v2,hb,rfl,rfl⟩:=ha
  obtain⟨v',h1,h2⟩:=ahE (P:=P) (hρ x) hb w
  exact dY.pure h h1 h2
 ·rename_i a b x aT
  rw[aT]
  obtain⟨v',w',e',h1,h2,h3,h4⟩:=aiW (P:=P) h (hρ x) ha
  exact dY.val h1 h2 h3 h4
 ·rename_i t x aT
  rw[aT]
  simp only[aaa,acn] at ha
  obtain⟨v2,hb,rfl,rfl⟩:=ha
  unfold Kw at hb
  split at hb
  ·cases hb
  ·rename_i d aO hu
   cases hb
   have hd:∀ ms,d ≠ .interface ms:=fun ms q=>aO ms q
   refine dY.pure h (v' := .iface t (σ x)) ?_ (.iface _ _ _ (hρ x))
   cases d<;>first | (exact absurd rfl (hd _)) | simp[Instr.makeInterface,aH hu]
  ·cases hb
 ·rename_i fn a b aT
  rw[aT]
  simp only[aaa,acn] at ha
  obtain⟨v2,hb,rfl,rfl⟩:=ha
  have h1:=aP.DF hρ a
  have h2:=aP.DF hρ b
  unfold Kt at hb
  split at hb
  ·cases hb
  ·rename_i aO
   cases hb
   exact dY.pure h (v' := .func fn (a.map σ) (b.map σ)) (by simp[Instr.makeFunc]) (.func fn aO _ _ _ _ h1.1 h2.1 h1.2 h2.2)
 ·rename_i t aT
  rw[aT]
  simp only[aaa,acn] at ha
  obtain⟨⟨i,H2⟩,hn,rfl,rfl⟩:=ha
  obtain⟨v',w',e',h1,h2,h3,h4⟩:=ag0 (P:=P) (t:=t) h hn
  exact dY.val h1 h2 h3 h4
 ·rename_i t l c aT
  rw[aT]
  obtain⟨v',w',e',h1,h2,h3,h4⟩:=alW (P:=P) h (hρ l) (hρ c) ha
  exact dY.val h1 h2 h3 h4
 ·rename_i t x lo hi mx aT
  rw[aT]
  simp only[aaa,acn] at ha
  obtain⟨v2,hb,rfl,rfl⟩:=ha
  obtain⟨v',h1,h2⟩:=alI h (hρ x) (uS.map hρ lo) (uS.map hρ hi) (uS.map hρ mx) hb
  exact dY.pure h h1 h2
 ·rename_i t x f aT
  rw[aT]
  simp only[aaa,acn] at ha
  obtain⟨v2,hb,rfl,rfl⟩:=ha
  unfold Kc at hb
  split at hb
  ·rename_i fs i off hu hx
   split at hb
   ·rename_i fd GZ
    cases hp:wW P fd.type with
    | false=>rw[hp] at hb;cases hb
    | true=>
     rw[hp] at hb
     cases hb
     obtain⟨n,hn⟩:∃ n,sz P fd.type=some (n+1):=by
      unfold wW at hp
      split at hp
      ·rename_i n hn;exact⟨n,hn⟩
      ·cases hp
     have og:=hρ x
     rw[hx] at og
     obtain⟨v',h1,h2⟩:=agl og hu GZ hn (by omega) w
     exact dY.pure h h1 h2
   ·cases hb
  ·cases hb
 ·rename_i t x f aT
  rw[aT]
  simp only[aaa,acn] at ha
  obtain⟨v2,hb,rfl,rfl⟩:=ha
  unfold Ie at hb
  split at hb
  ·rename_i fs cs hu hx
   split at hb
   ·rename_i fd GZ
    obtain⟨v',h1,h2⟩:=afH (hρ x) hu GZ hx hb w
    exact dY.pure h h1 h2
   ·cases hb
  ·cases hb
 ·rename_i t x ix aT
  rw[aT]
  simp only[aaa,acn] at ha
  obtain⟨v2,hb,rfl,rfl⟩:=ha
  obtain⟨v',h1,h2⟩:=akD (hρ x) (hρ ix) hb w
  exact dY.pure h h1 h2
 ·rename_i t x ix aT
  rw[aT]
  simp only[aaa,acn] at ha
  obtain⟨v2,hb,rfl,rfl⟩:=ha
  obtain⟨v',h1,h2⟩:=apU (hρ x) (hρ ix) hb w
  exact dY.pure h h1 h2
 ·rename_i t x k ok aT
  rw[aT]
  simp only[aaa,acn] at ha
  obtain⟨v2,hb,rfl,rfl⟩:=ha
  obtain⟨v',h1,h2⟩:=aoE h (hρ x) (hρ k) hb
  exact dY.pure h h1 h2
 ·rename_i t x aT
  rw[aT]
  obtain⟨v',w',e',h1,h2,h3,h4⟩:=apu (P:=P) h (hρ x) ha
  exact dY.val h1 h2 h3 h4
 ·rename_i it qJ aT
  rw[aT]
  obtain⟨v',w',h1,h3,h4⟩:=aeJ (P:=P) (t:=o.type) h (hρ it) ha
  exact dY.val h1 e.le_refl h3 h4
 ·rename_i it aT
  rw[aT]
  simp only[aaa,acn] at ha
  obtain⟨v2,hb,rfl,rfl⟩:=ha
  obtain⟨v',h1,h2⟩:=ajx (P:=P) h (hρ it) hb
  exact dY.pure h h1 h2
 ·rename_i t ix aT
  rw[aT]
  split at ha
  ·rename_i l hl
   simp only[aaa,acn] at ha
   obtain⟨v2,hb,rfl,rfl⟩:=ha
   have ht:=hρ t
   rw[hl] at ht
   obtain⟨vs,rF,hr⟩:=ht.X5
   obtain⟨v',bQ,gZ⟩:=hr.get hb
   rw[adS] at bQ
   exact dY.pure h (v':=v') (by rw[rF];simp[Instr.extract,bQ]) gZ
  ·cases ha
 ·rename_i x t uf ok aT
  rw[aT]
  simp only[aaa,acn] at ha
  obtain⟨v2,hb,rfl,rfl⟩:=ha
  obtain⟨v',h1,h2⟩:=alf (P:=P) (t:=t) (hρ x) hb w
  exact dY.pure h h1 h2
 ·rename_i c aT
  rw[aT]
  split at ha
  ·rename_i b hc
   have lh:=aP.DF hρ c.args
   have BA:(do let d <-resolve σ c o.type;invoke d.target d.args:Sem Next)=builtin b c.argTypes o.type (c.args.map fun | .const _=>true | _=>false) (c.args.map σ):=by
    unfold resolve
    rw[hc]
    rfl
   show dY P G F W e v H' ((do let d <-resolve σ c o.type;invoke d.target d.args:Sem Next).run P w)
   rw[BA]
   exact ada h lh ha
  ·cases ha
 ·cases ha
end
variable {P:Program}
theorem N7 {ρ ρ':Operand->AV}{l:List Operand}(h:∀ x∈l,ρ x=ρ' x):l.map ρ=l.map ρ':=List.map_congr_left h
theorem abH {ρ ρ':Operand->AV}{l:List (Nat × Operand)}(h:∀ x∈l.map (·.2),ρ x=ρ' x):(l.map fun (i,x)=>(i,ρ x))=l.map fun (i,x)=>(i,ρ' x):=by
 apply List.map_congr_left
 intro a ha
 obtain⟨i,x⟩:=a
 simp only
 rw[h x (acS.2 ⟨(i,x),ha,rfl⟩)]
theorem ako {ρ ρ':Operand->AV}(o:Oper)(H:Hp)(h:∀ x∈o.op.operands.toList,ρ x=ρ' x):iC P ρ o H=iC P ρ' o H:=by
 unfold iC
 cases aT:o.op<;>rw[aT] at h<;>simp only[Op.operands] at h ⊢
 case move x=>rw[h x (by simp)]
 case assign x=>rw[h x (by simp)]
 case pick c a b=>rw[h c (by simp),h a (by simp),h b (by simp)]
 case box t x=>rw[h x (by simp)]
 case build t ps=>rw[abH (by simpa using h)]
 case buildSlice t l ps=>rw[abH (by simpa using h)]
 case insert t m k v=>rw[h m (by simp),h k (by simp),h v (by simp)]
 case mapUpdate t m k v=>rw[h m (by simp),h k (by simp),h v (by simp)]
 case load t a=>rw[h a (by simp)]
 case store t a v=>rw[h a (by simp),h v (by simp)]
 case nilCheck x=>rw[h x (by simp)]
 case binOp op t x y ty=>rw[h x (by simp),h y (by simp)]
 case unOp op t x=>rw[h x (by simp)]
 case convert a b x=>rw[h x (by simp)]
 case makeInterface t x=>rw[h x (by simp)]
 case makeFunc fn a b=>
  rw[N7 (l:=a.toList) (fun x hx=>h x (by simp at hx ⊢;exact .inl hx)),N7 (l:=b.toList) (fun x hx=>h x (by simp at hx ⊢;exact .inr hx))]
 case makeMap t r=>cases r<;>rfl
 case makeSlice t l c=>rw[h l (by simp),h c (by simp)]
 case slice t x lo hi mx=>
  have q:∀ y:Option Operand,(∀ z∈y.toList,ρ z=ρ' z)->y.map ρ=y.map ρ':=by
   intro y hy;cases y with
   | none=>rfl
   | some z=>simp only[aee];rw[hy z (by simp)]
  rw[h x (by simp),q lo (fun z hz=>h z (by simp at hz ⊢;simp[hz])),q hi (fun z hz=>h z (by simp at hz ⊢;simp[hz])),q mx (fun z hz=>h z (by simp at hz ⊢;simp[hz]))]
 case fieldAddr t x f=>rw[h x (by simp)]
 case field t x f=>rw[h x (by simp)]
 case indexAddr t x ix=>rw[h x (by simp),h ix (by simp)]
 case index t x ix=>rw[h x (by simp),h ix (by simp)]
 case lookup t x k ok=>rw[h x (by simp),h k (by simp)]
 case range t x=>rw[h x (by simp)]
 case next it s=>rw[h it (by simp)]
 case entry it=>rw[h it (by simp)]
 case typeAssert x t uf ok=>rw[h x (by simp)]
 case extract t ix=>rw[h t (by simp)]
 case call c=>
  cases hc:c.callee with
  | builtin b=>
   simp only
   rw[N7 (l:=c.args.toList) (fun x hx=>h x (by simp[Call.operands,hc] at hx ⊢;exact hx))]
  | value f=>rfl
  | invoke r m=>rfl
end
def DH (G:Nat)(F:Nat->Prop)(W:World)(e:Em)(v:AV)(H':Hp)(en:Ending)(w':World):Prop:=
 ∃ e' v',en = .returned v'/\e.le e'/\RH G F W e' H' w'/\VR e' v v'
def sy (P:Program)(cf:CF):Prop:=
 ∀ (g:AV) (args:List AV) (H:Hp) (v:AV) (H':Hp),cf g args H=some (v,H')->
  ∃ aX first cap,g = .func (.func aX) first cap/\∀ (F:Nat->Prop) (W:World) (e:Em) (w:World) (aR:Array Value),RH P.globals.size F W e H w->aP e (first++args++cap) aR.toList->
   (∃ v' w' e',(callFunc aX aR).run P w = .ok (.value v') w'/\e.le e'/\RH P.globals.size F W e' H' w'/\VR e' v v')\/
   ((callFunc aX aR).run P w = .ok (.enter aX aR) w/\Calls P aX aR w (DH P.globals.size F W e v H'))
section
variable {P:Program}{F:Nat->Prop}{W:World}{e:Em}{H:Hp}{w:World}
structure TR (e:Em)(n:Nat)(t:Tm)(a:Act):Prop where
 size:n<=a.tmps.size
 val:∀ x,VR e ((t.get x).getD bJ) (a.tmps.getD x undef)
theorem TR.mono {e e':Em}(h:e.le e'){n:Nat}{t:Tm}{a:Act}(k:TR e n t a):TR e' n t a:=⟨k.size,fun x=>(k.val x).mono h⟩
theorem VR.ev (h:RH P.globals.size F W e H w){n:Nat}{t:Tm}{a:Act}(ht:TR e n t a)(x:Operand):VR e (ev P.globals.size t x) (a.eval x):=by
 cases x with
 | tmp d=>exact ht.val d
 | const v=>
  simp only[Am.ev,Act.eval]
  cases hc:Am.ja v with
  | none=>exact .cP v
  | some c=>exact .ja hc
 | global g=>
  simp only[Am.ev,Act.eval]
  cases hb:Nat.blt g P.globals.size with
  | false=>exact .cP _
  | true=>
   rw[adE] at hb
   obtain⟨h1,h2,h3⟩:=h.pK g hb
   have:=VR.ptr (e:=e) g 0 0 h1 (by rw[h3];simp)
   rw[h2] at this
   exact this
 | func f=>exact .func _ (by simp) [] [] #[] #[] rfl rfl (by simp) (by simp)
theorem XZ {t:Array Value}{d x:Nat}{v:Value}(h:d<t.size):(t.setIfInBounds d v).getD x undef=if x=d then v else t.getD x undef:=by
 simp only[ae2]
 by_cases hx:x=d
 ·subst hx;rw[afY h,if_pos rfl];rfl
 ·rw[aex (fun q=>hx q.symm),if_neg hx]
theorem TR.put {n:Nat}{t t':Tm}{a:Act}(h:TR e n t a){dst:Option Tmp}{v:AV}{v':Value}(hp:gF n dst v t=some t')(hv:VR e v v'):TR e n t' (a.put dst v'):=by
 unfold gF at hp
 split at hp
 ·cases hp;exact h
 ·rename_i d
  cases hb:(Nat.blt d n&&Nat.blt d 4294967296) with
  | false=>rw[hb] at hp;cases hp
  | true=>
   rw[hb] at hp
   cases hp
   simp only[aau,adE] at hb
   have aJ:d<a.tmps.size:=adm hb.1 h.size
   refine⟨by simp only[Act.put,Array.size_setIfInBounds];exact h.size,fun x => ?_⟩
   simp only[Act.put]
   rw[XZ aJ,Tr.Gi _ _ _ _ _ (by omega)]
   by_cases hx:x=d
   ·rw[if_pos hx,if_pos hx];exact hv
   ·rw[if_neg hx,if_neg hx];exact h.val x
theorem VR.akT {v:AV}{b:Bool}(h:VR e v (.bool b)):v = .bool b\/v = .cP:=by
 cases h with
 | cP=>exact .inr rfl
 | bool=>exact .inl rfl
theorem It {ops:Array Oper}{o:Oper}{t:Tm}{a:Act}{b:Bool}(hw:pJ ops o t=some b)(hT:∀ d,EM ops o=some d->VR e ((t.get d).getD bJ) (a.tmps.getD d undef)) :
  Region.wanted o (yielded ops a.tmps)=b:=by
 unfold pJ at hw
 unfold Region.wanted
 split at hw
 ·rename_i hg
  cases hw
  simp[hg]
 ·rename_i j want hg
  simp only[hg]
  have Im:EM ops o=(ops[j]?).bind (·.dst):=by simp[EM,hg]
  unfold yielded
  split at hw
  ·rename_i hd
   cases hw
   simp[hd]
  ·rename_i d hd
   have hv:=hT d (by rw[Im,hd])
   simp only[hd,acK]
   rw[ae2] at hv
   split at hw
   ·rename_i hn
    cases hw
    rw[hn] at hv
    obtain⟨vs,rF,_⟩:=VR.X5 (l:=[]) hv
    cases hq:a.tmps[d]? with
    | none=>simp
    | some u=>rw[hq] at rF;simp at rF;subst rF;simp
   ·rename_i c hc
    cases hw
    rw[hc] at hv
    have:=hv.sw
    cases hq:a.tmps[d]? with
    | none=>rw[hq] at this;simp[undef] at this
    | some u=>rw[hq] at this;simp at this;subst this;simp
   ·cases hw
   ·rename_i u zb Lm hu
    cases hw
    rw[hu] at hv
    cases hq:a.tmps[d]? with
    | none=>simp
    | some z=>
     rw[hq] at hv
     simp at hv
     cases z<;>simp
     rename_i b
     rcases hv.akT with r | r
     ·exact (zb _ r).elim
     ·exact (Lm r).elim
theorem akJ {σ:Operand->Value}{f:Operand}{args:Array Operand}{bV:Array TypeId}{ty aX:Nat}{first cap:Array Value}(hf:σ f = .func (.func aX) first cap) :
  (do let d <-resolve σ { callee := .value f,args,argTypes:=bV } ty;invoke d.target d.args:Sem Next)=callFunc aX (first++args.map σ++cap):=by
 unfold resolve
 simp only[hf,Deferred.ofValue]
 rfl
theorem Gn {cf:CF}(gr:sy P cf)(h:RH P.globals.size F W e H w){t:Tm}{a:Act}{o:Oper}{v:AV}{H':Hp}(ho:oR P cf t o H=some (v,H'))
  (hT:∀ x∈o.op.operands.toList,VR e (ev P.globals.size t x) (a.eval x)) {next:Act->World->Prop} {Q:Exit->Act->World->Prop}
  (hn:∀ e' v' w',e.le e'->RH P.globals.size F W e' H' w'->VR e' v v'->next (a.put o.dst v') w'):o.wp P a w next Q:=by
 classical
 let ρ:Operand->AV:=fun x=>if x∈o.op.operands.toList then ev P.globals.size t x else .cP
 have hρ:∀ x,VR e (ρ x) (a.eval x):=by
  intro x
  simp only[ρ]
  split
  ·rename_i hx;exact hT x hx
  ·exact .cP _
 have hρe:∀ x∈o.op.operands.toList,ev P.globals.size t x=ρ x:=by
  intro x hx;simp only[ρ,if_pos hx]
 have plain:iC P (ev P.globals.size t) o H=some (v,H')->o.wp P a w next Q:=by
  intro hA
  rw[ako o H hρe] at hA
  obtain⟨n,w',e',v',hr,hv,he,hR,gZ⟩:=afC h hρ hA
  unfold Oper.wp
  rw[hr]
  rcases hv with rfl | ⟨rfl,rfl⟩
  ·exact hn e' v' w' he hR gZ
  ·exact hn e' _ w' he hR gZ
 unfold oR at ho
 split at ho
 ·rename_i f args bV aT
  obtain⟨aX,first,cap,hg,hs⟩:=gr _ _ _ _ _ ho
  have RX:f∈o.op.operands.toList:=by simp[aT,Op.operands,Call.operands]
  have hf:=hT f RX
  rw[hg] at hf
  cases Ox:a.eval f with
  | func fn MC sL=>
   rw[Ox] at hf
   cases hf with
   | func _ _ _ _ _ _ ha hc h1 h2=>
   have lh:aP e (args.toList.map (ev P.globals.size t)) (args.map a.eval).toList:=by
    rw[Array.toList_map]
    refine⟨by simp,fun i x x' hx Lt => ?_⟩
    simp only[adL,aaa] at hx Lt
    obtain⟨z,hz,rfl⟩:=hx
    obtain⟨z',Dn,rfl⟩:=Lt
    rw[hz] at Dn
    cases Dn
    exact hT z (by simp[aT,Op.operands,Call.operands];exact .inr (by have:=aao hz;simpa using this))
   have jY:aP e (first++args.toList.map (ev P.globals.size t)++cap) (MC++args.map a.eval++sL).toList:=by
    have q1:aP e first MC.toList:=⟨ha,h1⟩
    have q2:aP e cap sL.toList:=⟨hc,h2⟩
    have:=(q1.append lh).append q2
    simpa using this
   have hex:execOp a.eval o=callFunc aX (MC++args.map a.eval++sL):=by
    unfold execOp
    rw[aT]
    exact akJ Ox
   unfold Oper.wp
   rw[hex]
   rcases hs F W e w _ h jY with⟨v',w',e',hr,he,hR,gZ⟩ | ⟨hr,ady⟩
   ·rw[hr];exact hn e' v' w' he hR gZ
   ·rw[hr]
    refine ady.mono ?_
    rintro en w'' ⟨e',v',rfl,he,hR,gZ⟩
    exact hn e' v' w'' he hR gZ
  | _=>rw[Ox] at hf;cases hf
 ·exact plain ho
theorem T7 {cf:CF}(gr:sy P cf){ops:Array Oper}{n:Nat}{Q:Exit->Act->World->Prop}{t':Tm}{H':Hp}:∀ (r:List Oper) (i:Nat) (t:Tm) (H:Hp) (e:Em) (a:Act) (w:World),
  ops.toList.drop i=r->sj P cf n ops r t H=some (t',H')->RH P.globals.size F W e H w->TR e n t a->
  (∀ e' a' w',e.le e'->RH P.globals.size F W e' H' w'->TR e' n t' a'->a'.defers=a.defers->Q .normal a' w')->wpOps P ops Q (List.range' i r.length) a w:=by
 intro r
 induction r with
 | nil=>
  intro i t H e a w hd hs hR hT hQ
  cases hs
  exact hQ e a w e.le_refl hR hT rfl
 | cons o r ih=>
  intro i t H e a w hd hs hR hT hQ
  have hi:ops[i]? = some o:=by
   have:=congrArg (fun l=>l[0]?) hd
   simpa[afL,adS] using this
  have eX:ops.toList.drop (i+1)=r:=by
   have:=congrArg List.tail hd
   simpa[List.tail_drop] using this
  rw[aaL,aiO]
  unfold sj at hs
  split at hs
  ·rename_i hw
   split at hs
   ·rename_i v H1 ho
    split at hs
    ·rename_i t1 hp
     simp only[wpOps,hi,It (e:=e) (a:=a) hw (fun d _=>hT.val d),if_true]
     left
     refine Gn gr hR ho (fun x _=>VR.ev hR hT x) ?_
     intro e' v' w' he bw hv
     have cC:=(hT.mono he).put hp hv
     refine ih (i+1) t1 H1 e' _ w' eX hs bw cC ?_
     intro e2 a2 w2 A8 gI nc AE
     refine hQ e2 a2 w2 (Em.le_trans he A8) gI nc (AE.trans ?_)
     cases o.dst<;>rfl
    ·cases hs
   ·cases hs
  ·rename_i hw
   split at hs
   ·rename_i t1 hp
    simp only[wpOps,hi,It (e:=e) (a:=a) hw (fun d _=>hT.val d),aby,if_false]
    have cC:=hT.put hp VR.undef
    refine ih (i+1) t1 H e _ w eX hs hR cC ?_
    intro e2 a2 w2 A8 gI nc AE
    refine hQ e2 a2 w2 A8 gI nc (AE.trans ?_)
    cases o.dst<;>rfl
   ·cases hs
  ·cases hs
end
end
def DA (o:Oper)(acc:List Nat):Nat:=o.after.toList.foldl (fun s e=>if Region.binds .any e then s ||| 2 ^ e.on ||| acc.getD e.on 0 else s) 0
theorem abQ (acc:List Nat)(j:Nat):∀ (l:List Edge) (s:Nat),(l.foldl (fun s e=>if Region.binds .any e then s ||| 2 ^ e.on ||| acc.getD e.on 0 else s) s).testBit j=true->
  s.testBit j=true\/∃ e∈l,Region.binds .any e=true/\(j=e.on\/(acc.getD e.on 0).testBit j=true)
 | [],s,h => .inl h
 | e::l,s,h=>by
  rw[List.foldl_cons] at h
  rcases abQ acc j l _ h with h1 | ⟨e',Jv,hb,hj⟩
  ·by_cases xW:Region.binds .any e=true
   ·rw[if_pos xW] at h1
    rw[Nat.testBit_or,Nat.testBit_or,agK,agK] at h1
    rcases h1 with (h1 | h1) | h1
    ·exact .inl h1
    ·right
     refine⟨e,List.mem_cons_self ..,xW,.inl ?_⟩
     rw[Nat.testBit_two_pow] at h1
     exact (of_decide_eq_true h1).symm
    ·exact .inr ⟨e,List.mem_cons_self ..,xW,.inr h1⟩
   ·rw[if_neg xW] at h1
    exact .inl h1
  ·exact .inr ⟨e',List.mem_cons_of_mem _ Jv,hb,hj⟩
theorem V2:∀ (r:List Oper) (acc:List Nat),(before r acc).length=acc.length+r.length
 | [],acc=>by simp[before]
 | o::r,acc=>by
  rw[before,V2 r]
  simp;omega
theorem O0:∀ (r:List Oper) (acc:List Nat) (i:Nat),i<acc.length->(before r acc)[i]? = acc[i]?
 | [],acc,i,h=>by simp[before]
 | o::r,acc,i,h=>by
  rw[before,O0 r _ i (by simp;omega)]
  rw[abO h]
theorem aaR:∀ (r:List Oper) (acc:List Nat) (i:Nat) (o:Oper),r[i]? = some o->(before r acc)[acc.length+i]? = some (DA o ((before r acc).take (acc.length+i)))
 | [],acc,i,o,h=>by simp at h
 | p::r,acc,i,o,h=>by
  cases i with
  | zero=>
   simp at h
   subst h
   rw[before,aej,O0 r _ _ (by simp)]
   have ht:(before r (acc++[DA p acc])).take acc.length=acc:=by
    apply ahF
    intro k
    rw[ag7]
    split
    ·rw[O0 r _ k (by simp;omega),abO (by assumption)]
    ·rw[af1 (by omega)]
   show (acc++[DA p acc])[acc.length]? = some (DA p ((before r (acc++[DA p acc])).take acc.length))
   rw[ht]
   simp
  | succ i=>
   have:=aaR r (acc++[DA p acc]) i o (by simpa using h)
   rw[aaX,List.length_singleton] at this
   rw[before]
   have e1:acc.length+(i+1)=acc.length+1+i:=by omega
   rw[e1]
   exact this
structure Form (ops:Array Oper)(B:List Nat):Prop where
 len:B.length=ops.size
 back:∀ i o,ops[i]? = some o->∀ e∈o.after,Region.binds .any e=true->e.on<i
 bit:∀ i o,ops[i]? = some o->∀ j,(B.getD i 0).testBit j=true->∃ e∈o.after,Region.binds .any e=true/\(j=e.on\/(B.getD e.on 0).testBit j=true)
 one:∀ (i j:Nat) (oi oj:Oper) (d:Tmp),ops[i]? = some oi->ops[j]? = some oj->oi.dst=some d->oj.dst=some d->i=j
 rd:∀ (i j:Nat) (oi oj:Oper) (d:Tmp),ops[i]? = some oi->ops[j]? = some oj->oi.dst=some d->i≠j->Ch ops oj d=true->if i<j then (B.getD j 0).testBit i=true else (B.getD i 0).testBit j=true
theorem agw {ops:Array Oper}(h:wg ops=true):Form ops (before ops.toList []):=by
 unfold wg at h
 simp only at h
 have hlen:(before ops.toList []).length=ops.size:=by rw[V2];simp
 have hz:∀ i o,ops[i]? = some o->(i,(o,(before ops.toList []).getD i 0))∈(List.range ops.size).zip (ops.toList.zip (before ops.toList [])):=by
  intro i o ho
  have hi:i<ops.size:=(abZ.1 ho).1
  apply aao (i:=i)
  rw[List.getElem?_zip_eq_some]
  refine⟨by simp[hi],?_⟩
  rw[List.getElem?_zip_eq_some]
  refine⟨by simpa using ho,?_⟩
  simp only
  rw[agp,aai (by rw[hlen];exact hi)]
  rfl
 rw[adA] at h
 have h1:∀ i o,ops[i]? = some o->∀ e∈o.after,Region.binds .any e=true->e.on<i:=by
  intro i o ho e he hb
  have:=h _ (hz i o ho)
  rw[aau] at this
  have h2:=Array.all_eq_true_iff_forall_mem.1 this.1 e he
  rw[hb] at h2
  simpa using h2
 have h2:∀ i j oi oj,ops[i]? = some oi->ops[j]? = some oj->JM ops i oi ((before ops.toList []).getD i 0) j oj ((before ops.toList []).getD j 0)=true:=by
  intro i j oi oj hi hj
  have:=h _ (hz i oi hi)
  rw[aau] at this
  exact adA.1 this.2 _ (hz j oj hj)
 refine⟨hlen,h1,?_,?_,?_⟩
 ·intro i o ho j hb
  have hi:i<ops.size:=(abZ.1 ho).1
  have Ka:=aaR ops.toList [] i o (by simpa using ho)
  simp only[acG,adG] at Ka
  rw[agp,Ka] at hb
  simp only[afG] at hb
  rcases abQ _ j _ 0 hb with hq | ⟨e,he,xW,hj⟩
  ·simp at hq
  ·have Jv:e∈o.after:=by simpa using he
   refine⟨e,Jv,xW,hj.imp id fun hq => ?_⟩
   have aJ:=h1 i o ho e Jv xW
   rw[agp,ag7,if_pos aJ] at hq
   rw[agp]
   exact hq
 ·intro i j oi oj d hi hj Ak rC
  have:=h2 i j oi oj hi hj
  unfold JM at this
  rw[Ak] at this
  simp only[agK,aau] at this
  rcases this with q | ⟨q,_⟩
  ·exact abp q
  ·simp[rC] at q
 ·intro i j oi oj d hi hj Ak aO hr
  have:=h2 i j oi oj hi hj
  unfold JM at this
  rw[Ak] at this
  simp only[agK,aau] at this
  rcases this with q | ⟨_,q⟩
  ·exact absurd (abp q) aO
  ·rcases q with q | q
   ·rw[hr] at q;simp at q
   ·by_cases aJ:i<j
    ·rw[if_pos aJ]
     have:Nat.blt i j=true:=by rw[adE];exact aJ
     rw[this] at q;exact q
    ·rw[if_neg aJ]
     have:Nat.blt i j=false:=by
      cases hb:Nat.blt i j
      ·rfl
      ·rw[adE] at hb;exact absurd hb aJ
     rw[this] at q;exact q
def kk (P:Program)(x:Bool)(o:Oper):Kd:=if x then kd P o else .pure
def KW (P:Program)(cf:CF)(n:Nat)(ops:Array Oper)(o:Oper)(x:Bool)(v:AV)(tp te jT jM:Tm)(hb hh su vI:Hp):Prop:=
 pJ ops o tp=some x/\
 match x,kd P o with
 | false,_=>v=bJ/\gF n o.dst bJ tp=some jT/\gF n o.dst bJ te=some jM/\su=hb/\vI=hh
 | true,.late=>iC P (ev P.globals.size te) o hh=some (v,vI)/\gF n o.dst .cP tp=some jT/\gF n o.dst v te=some jM/\su=hb
 | true,.cW=>oR P cf te o hh=some (v,vI)/\gF n o.dst v tp=some jT/\gF n o.dst v te=some jM/\su=vI
 | true,_=>(∃ h',iC P (ev P.globals.size tp) o hb=some (v,h'))/\gF n o.dst v tp=some jT/\gF n o.dst v te=some jM/\su=hb/\vI=hh
theorem alo {P:Program}{cf:CF}{n:Nat}{ops:Array Oper}{B:List Nat}{tF:Tm}{HF:Hp}:∀ (r:List Oper) (bs:List Nat) (i:Nat) (tp te:Tm) (hb hh:Hp) (l:List jA),
  ops.toList.drop i=r->B.drop i=bs->kA P cf n ops i r bs tp te hb hh=some (l,tF,HF)->
  ∃ (TP TE:Nat->Tm) (HB HH:Nat->Hp) (V:Nat->AV) (X:Nat->Bool),TP i=tp/\TE i=te/\HB i=hb/\HH i=hh/\TE (i+r.length)=tF/\HH (i+r.length)=HF/\
   ∀ j o,i<=j->ops[j]? = some o->KW P cf n ops o (X j) (V j) (TP j) (TE j) (TP (j+1)) (TE (j+1)) (HB j) (HH j) (HB (j+1)) (HH (j+1))/\
    (⟨j,o,B.getD j 0,X j,kk P (X j) o,V j,TP j,HB j,HB (j+1)⟩:jA)∈l:=by
 intro r
 induction r with
 | nil=>
  intro bs i tp te hb hh l hd so hr
  simp only[kA,acV,acn] at hr
  obtain⟨rfl,rfl,rfl⟩:=hr
  refine⟨fun _=>tp,fun _=>te,fun _=>hb,fun _=>hh,fun _ => .cP,fun _=>false,rfl,rfl,rfl,rfl,rfl,rfl,?_⟩
  intro j o hj ho
  have aJ:=(abZ.1 ho).1
  have:=congrArg List.length hd
  simp at this
  omega
 | cons o r ih=>
  intro bs i tp te hb hh l hd so hr
  have hi:ops[i]? = some o:=by
   have:=congrArg (fun l=>l[0]?) hd
   simpa[afL,adS] using this
  have eX:ops.toList.drop (i+1)=r:=by
   have:=congrArg List.tail hd
   simpa[List.tail_drop] using this
  cases bs with
  | nil=>simp[kA] at hr
  | cons b bs=>
   have zX:B.getD i 0=b:=by
    have:=congrArg (fun l=>l[0]?) so
    simp[afL] at this
    simp[agp,this]
   have akg:B.drop (i+1)=bs:=by
    have:=congrArg List.tail so
    simpa[List.tail_drop] using this
   have fin:∀ (x:Bool) (v:AV) (jT jM:Tm) (su vI:Hp) (l':List jA),KW P cf n ops o x v tp te jT jM hb hh su vI->kA P cf n ops (i+1) r bs jT jM su vI=some (l',tF,HF)->
     l=⟨i,o,b,x,kk P x o,v,tp,hb,su⟩::l'->
     ∃ (TP TE:Nat->Tm) (HB HH:Nat->Hp) (V:Nat->AV) (X:Nat->Bool),TP i=tp/\TE i=te/\HB i=hb/\HH i=hh/\TE (i+(o::r).length)=tF/\HH (i+(o::r).length)=HF/\
   ∀ j o,i<=j->ops[j]? = some o->KW P cf n ops o (X j) (V j) (TP j) (TE j) (TP (j+1)) (TE (j+1)) (HB j) (HH j) (HB (j+1)) (HH (j+1))/\
    (⟨j,o,B.getD j 0,X j,kk P (X j) o,V j,TP j,HB j,HB (j+1)⟩:jA)∈l:=by
    intro x v jT jM su vI l' ae4 wZ hl
    obtain⟨TP,TE,HB,HH,V,X,q1,q2,q3,q4,q5,q6,q7⟩:=ih bs (i+1) jT jM su vI l' eX akg wZ
    have aO:¬ i+1=i:=by omega
    refine⟨fun j=>if j=i then tp else TP j,fun j=>if j=i then te else TE j,fun j=>if j=i then hb else HB j,fun j=>if j=i then hh else HH j,fun j=>if j=i then v else V j,fun j=>if j=i then x else X j,
     by simp,by simp,by simp,by simp,?_,?_,?_⟩
    ·simp only[aaL]
     rw[if_neg (by omega)]
     have:i+(r.length+1)=i+1+r.length:=by omega
     rw[this];exact q5
    ·simp only[aaL]
     rw[if_neg (by omega)]
     have:i+(r.length+1)=i+1+r.length:=by omega
     rw[this];exact q6
    ·intro j oj hj vZ
     by_cases uj:j=i
     ·subst uj
      rw[hi] at vZ
      cases vZ
      simp only[if_true,if_neg aO,q1,q2,q3,q4,zX]
      refine⟨ae4,?_⟩
      rw[hl];exact List.mem_cons_self ..
     ·have Sq:¬ j+1=i:=by omega
      simp only[if_neg uj,if_neg Sq]
      obtain⟨s1,s2⟩:=q7 j oj (by omega) vZ
      exact⟨s1,by rw[hl];exact List.mem_cons_of_mem _ s2⟩
   unfold kA at hr
   split at hr
   ·rename_i hw
    split at hr
    ·rename_i hk
     split at hr
     ·rename_i v h' aT
      split at hr
      ·rename_i jT jM h1 h2
       simp only[aaa,Prod.exists,acn] at hr
       obtain⟨l',a,b',wZ,rfl,rfl,rfl⟩:=hr
       refine fin true v jT jM hb h' l' ⟨hw,?_⟩ wZ (by simp[kk,hk])
       rw[hk];exact⟨aT,h1,h2,rfl⟩
      ·cases hr
     ·cases hr
    ·rename_i hk
     split at hr
     ·rename_i v h' aT
      split at hr
      ·rename_i jT jM h1 h2
       simp only[aaa,Prod.exists,acn] at hr
       obtain⟨l',a,b',wZ,rfl,rfl,rfl⟩:=hr
       refine fin true v jT jM h' h' l' ⟨hw,?_⟩ wZ (by simp[kk,hk])
       rw[hk];exact⟨aT,h1,h2,rfl⟩
      ·cases hr
     ·cases hr
    ·rename_i tB fN
     split at hr
     ·rename_i v h' aT
      split at hr
      ·rename_i jT jM h1 h2
       simp only[aaa,Prod.exists,acn] at hr
       obtain⟨l',a,b',wZ,rfl,rfl,rfl⟩:=hr
       refine fin true v jT jM hb hh l' ⟨hw,?_⟩ wZ (by simp[kk])
       cases cl:kd P o
       ·exact⟨⟨h',aT⟩,h1,h2,rfl,rfl⟩
       ·exact⟨⟨h',aT⟩,h1,h2,rfl,rfl⟩
       ·exact absurd cl tB
       ·exact absurd cl fN
      ·cases hr
     ·cases hr
   ·rename_i hw
    split at hr
    ·rename_i jT jM h1 h2
     simp only[aaa,Prod.exists,acn] at hr
     obtain⟨l',a,b',wZ,rfl,rfl,rfl⟩:=hr
     refine fin false bJ jT jM hb hh l' ⟨hw,rfl,h1,h2,rfl,rfl⟩ wZ (by simp[kk])
    ·cases hr
   ·cases hr
end Go.Proofs.YtodfajmihkagnaaGreatDoor.Am
