/- Laws that the proof uses. -/
import Derived.Test.YtehhgkgeldinkaaGreatDoorAm3
set_option maxHeartbeats 2000000
set_option linter.unusedVariables false
set_option linter.unusedSimpArgs false
namespace Go.Proofs.YtehhgkgeldinkaaGreatDoor.Am
section
section
section
section
section
variable {P:Program}{G:Nat}{F:Nat->Prop}{W:World}{e:Em}{H:Hp}{w:World}
theorem Gd {el s n:Nat}{z:List AV}(h:yP P el s n=some z) :
  (n*s=0/\z=[])\/(¬ n*s=0/\z.length=n*s/\∃ inf z0,P.info? el=some inf/\inf.zero=some z0/\z0.cells.size=s/\az e z ((Array.range (n*s)).map (z0.cells[· % z0.cells.size]!)).toList):=by
 unfold yP at h
 cases hb:Nat.beq (n*s) 0 with
 | true=>
  rw[hb] at h
  cases h
  exact .inl ⟨aba hb,rfl⟩
 | false=>
  rw[hb] at h
  simp only[cond_false] at h
  have h0:¬ n*s=0:=fun q=>by rw[q] at hb;cases hb
  split at h
  ·rename_i z1 hz
   cases hl:Nat.beq z1.length s with
   | false=>rw[hl] at h;cases h
   | true=>
    rw[hl] at h
    cases h
    have sD:z1.length=s:=aba hl
    obtain⟨inf,z0,iB,fQ,xT⟩:=xI (e:=e) hz
    have dp:z0.cells.size=s:=by have:=xT.1;simp at this;omega
    have hr:az e (rep n z1) ((Array.range (n*s)).map (z0.cells[· % z0.cells.size]!)).toList:=by
     have:=acd z0.cells n
     rw[dp] at this
     rw[dp,this]
     exact xT.rep n
    refine .inr ⟨h0,?_,inf,z0,iB,fQ,dp,hr⟩
    have:=hr.1
    simp at this
    omega
  ·cases h
theorem NJ {pl:Nat->Option (Nat × Nat)}:∀ (ps:List (Nat × AV)) (cells out:List AV),uf pl cells ps=some out->out.length=cells.length
 | [],cells,out,h=>by cases h;rfl
 | (i,v)::ps,cells,out,h=>by
  unfold uf at h
  split at h
  ·cases h
  ·split at h
   ·cases h
   ·split at h
    ·rename_i hc
     rw[NJ ps _ _ h]
     simp;omega
    ·cases h
theorem ah3 (h:RH G F W e H w){t len:Nat}{ps:List (Nat × AV)}{oR:Array (Nat × Value)}{v:AV}{H':Hp}(hp:sh e ps oR.toList)(hb:Ad P t len ps H=some (v,H')) :
  ∃ v' w' e',(Instr.buildSlice t len oR).run P w = .ok v' w'/\e.le e'/\RH G F W e' H' w'/\VR e' v v':=by
 unfold Ad at hb
 split at hb
 ·rename_i el hu
  split at hb
  ·rename_i s hs
   cases hle:Nat.ble (len*s) 65536 with
   | false=>rw[hle] at hb;cases hb
   | true=>
   rw[hle] at hb
   simp only[cond_true] at hb
   rw[ado] at hle
   split at hb
   ·rename_i z hz
    split at hb
    ·rename_i cs fC
     simp only[yB,abT] at hb
     obtain⟨⟨i,H2⟩,hn,rfl,rfl⟩:=hb
     have hlen:=NJ ps z cs fC
     have Bt:¬ (len*s>2 ^ 24):=by omega
     rcases Gd (P:=P) (e:=e) hz with⟨h0,rfl⟩ | ⟨h0,PD,inf,z0,iB,fQ,dp,rB⟩
     ·obtain⟨kW,ho,hr⟩:=DP (e:=e) (yT:=fun i=>some (i*s,s)) (fun i x hx=>hx) ps oR.toList [] cs #[] hp (.nil e) fC
      obtain⟨e',he,g1,g2,g3,g4,oO⟩:=h.newRow (rest:=[]) (fz:=(0,0)) hn hr (fun _=>rfl) (by simp)
      refine⟨.slice (some ⟨w.heap.size,0,none⟩) len len,_,e',?_,he,oO,VR.A7 g2 g1 (by rw[g3];simp) (aar _) (aar _) (fun _=>rfl) ?_⟩
      ·simp only[Instr.buildSlice,Sem.run_bind,au hu,Result.andThen_ok,gT hs,if_neg Bt]
       rw[if_pos h0]
       have wP:Array.range 0 = #[]:=rfl
       simp[h0,wP,ho,newRow]
      ·rw[g4];simp[h0]
     ·obtain⟨kW,ho,hr⟩:=DP (e:=e) (yT:=fun i=>some (i*s,s)) (fun i x hx=>hx) ps oR.toList z cs _ hp rB fC
      obtain⟨e',he,g1,g2,g3,g4,oO⟩:=h.newRow (rest:=[]) (fz:=(0,0)) hn hr (fun _=>rfl) (by simp)
      refine⟨.slice (some ⟨w.heap.size,0,none⟩) len len,_,e',?_,he,oO,VR.A7 g2 g1 (by rw[g3];simp) (aar _) (aar _) (fun _=>rfl) ?_⟩
      ·simp only[Instr.buildSlice,Sem.run_bind,au hu,Result.andThen_ok,gT hs,if_neg Bt]
       rw[if_neg h0]
       simp[qT iB fQ,newRow] at ho ⊢
       simp[ho]
      ·rw[g4]
       have:=hr.1
       simp at this ⊢
       omega
    ·cases hb
   ·cases hb
  ·cases hb
 ·cases hb
theorem run_makeSlice {t:Nat}{k1 k2:IntKind}{n m:Int}{H H':Hp}{v:AV}(hb:vG P t (.int k1 n) (.int k2 m) H=some (v,H'))(w:World) :
  ∃ el s z row,P.underlying t=some (.slice el)/\sz P el=some s/\yP P el s m.toNat=some z/\(∀ e:Em,az e z row)/\n.toNat<=m.toNat/\row.length=m.toNat*s/\
   (Instr.makeSlice t (.int k1 n) (.int k2 m)).run P w = .ok (.slice (some ⟨w.heap.size,0,none⟩) n.toNat m.toNat) { w with heap:=w.heap.push (.cells row.toArray el (0,0)) }:=by
 unfold vG at hb
 split at hb
 ·rename_i el rz n' J2 m' hu q1 q2
  cases q1;cases q2
  split at hb
  ·rename_i s hs
   split at hb
   ·rename_i uB
    obtain⟨h1,h2,h3,h4⟩:=uB
    split at hb
    ·rename_i z hz
     obtain⟨inf,iB⟩:∃ inf,P.info? el=some inf:=by
      unfold sz at hs
      cases hq:P.info? el with
      | none=>simp[hq] at hs
      | some inf=>exact⟨inf,rfl⟩
     have OI:inf.bytes<=4096:=by unfold Program.bytesOf at h4;rw[iB] at h4;simpa using h4
     have w1:IntKind.i64.wrap n=n:=IntWalk.i64_in _ (by omega)
     have w2:IntKind.i64.wrap m=m:=IntWalk.i64_in _ (by omega)
     have tu:¬ ((inf.bytes:Int)*m>2 ^ 48):=by
      have:(inf.bytes:Int)*m<=4096*1048576:=Int.mul_le_mul (by omega) (by omega) (by omega) (by omega)
      omega
     have c1:(decide (m<0)||decide ((inf.bytes:Int)*m>2 ^ 48))=false:=by simp;omega
     have BH:¬ (((decide (m<0)||decide ((inf.bytes:Int)*m>2 ^ 48))||decide (n<0)||decide (n>m))=true):=by
      rw[c1];simp;omega
     rcases Gd (P:=P) (e:=⟨id,fun _=>0,id,0⟩) hz with⟨h0,rfl⟩ | ⟨h0,PD,XH,z0,BQ,fQ,dp,rB⟩
     ·refine⟨el,s,[],[],hu,hs,hz,fun e => .nil e,by omega,by simp[h0],?_⟩
      simp only[Instr.makeSlice,Sem.run_bind,au hu,Result.andThen_ok,asInt,asIntOf,Sem.run_pure,pT iB,w1,w2,if_neg BH,run_askRoom,gT hs]
      rw[if_pos h0]
      have wP:Array.range 0 = #[]:=rfl
      simp[h0,wP,newRow]
     ·refine⟨el,s,z,((Array.range (m.toNat*s)).map (z0.cells[· % z0.cells.size]!)).toList,hu,hs,hz,fun e => ?_,by omega,?_,?_⟩
      rotate_left 2
      ·simp only[Instr.makeSlice,Sem.run_bind,au hu,Result.andThen_ok,asInt,asIntOf,Sem.run_pure,pT iB,w1,w2,if_neg BH,run_askRoom,gT hs]
       rw[if_neg h0]
       simp[qT BQ fQ,newRow]
       congr 2
       apply adl.1
       simp
      ·rcases Gd (P:=P) (e:=e) hz with⟨q,_⟩ | ⟨_,_,asc,z3,aaM,JE,_,ac2⟩
       ·exact absurd q h0
       ·rw[BQ] at aaM;cases aaM
        rw[fQ] at JE;cases JE
        exact ac2
      ·simp
    ·cases hb
   ·cases hb
  ·cases hb
 ·cases hb
theorem am2 (h:RH G F W e H w){t:Nat}{l c v:AV}{l' c':Value}{H':Hp}(hl:VR e l l')(hc:VR e c c')(hb:vG P t l c H=some (v,H')) :
  ∃ v' w' e',(Instr.makeSlice t l' c').run P w = .ok v' w'/\e.le e'/\RH G F W e' H' w'/\VR e' v v':=by
 unfold vG at hb
 split at hb
 ·rename_i el k1 n k2 m hu
  cases hl.gQ;cases hc.gQ
  split at hb
  ·rename_i s hs
   split at hb
   ·rename_i uB
    obtain⟨h1,h2,h3,h4⟩:=uB
    split at hb
    ·rename_i z hz
     simp only[yB,abT] at hb
     obtain⟨⟨i,H2⟩,hn,rfl,rfl⟩:=hb
     obtain⟨inf,iB⟩:∃ inf,P.info? el=some inf:=by
      unfold sz at hs
      cases hq:P.info? el with
      | none=>simp[hq] at hs
      | some inf=>exact⟨inf,rfl⟩
     have OI:inf.bytes<=4096:=by unfold Program.bytesOf at h4;rw[iB] at h4;simpa using h4
     have w1:IntKind.i64.wrap n=n:=IntWalk.i64_in _ (by omega)
     have w2:IntKind.i64.wrap m=m:=IntWalk.i64_in _ (by omega)
     have tu:¬ ((inf.bytes:Int)*m>2 ^ 48):=by
      have:(inf.bytes:Int)*m<=4096*1048576:=Int.mul_le_mul (by omega) (by omega) (by omega) (by omega)
      omega
     have c1:(decide (m<0)||decide ((inf.bytes:Int)*m>2 ^ 48))=false:=by simp;omega
     have Bt:¬ ((decide (m<0)||decide ((inf.bytes:Int)*m>2 ^ 48))=true\/n<0\/n>m):=by
      rw[c1];simp;omega
     have BH:¬ (((decide (m<0)||decide ((inf.bytes:Int)*m>2 ^ 48))||decide (n<0)||decide (n>m))=true):=by
      rw[c1];simp;omega
     rcases Gd (P:=P) (e:=e) hz with⟨h0,rfl⟩ | ⟨h0,PD,XH,z0,BQ,fQ,dp,rB⟩
     ·obtain⟨e',he,g1,g2,g3,g4,oO⟩:=h.newRow (rest:=[]) (fz:=(0,0)) hn (.nil e) (fun _=>rfl) (by simp)
      refine⟨.slice (some ⟨w.heap.size,0,none⟩) n.toNat m.toNat,_,e',?_,he,oO,VR.A7 g2 g1 (by rw[g3];simp) (by omega) (aar _) (fun _=>rfl) (by rw[g4];simp[h0])⟩
      simp only[Instr.makeSlice,Sem.run_bind,au hu,Result.andThen_ok,asInt,asIntOf,Sem.run_pure,pT iB,w1,w2,if_neg BH,run_askRoom,gT hs]
      rw[if_pos h0]
      have wP:Array.range 0 = #[]:=rfl
      simp[h0,wP,newRow]
     ·obtain⟨e',he,g1,g2,g3,g4,oO⟩:=h.newRow (rest:=[]) (fz:=(0,0)) hn rB (fun _=>rfl) (by simp)
      refine⟨.slice (some ⟨w.heap.size,0,none⟩) n.toNat m.toNat,_,e',?_,he,oO,VR.A7 g2 g1 (by rw[g3];simp) (by omega) (aar _) (fun _=>rfl) (by rw[g4];simp)⟩
      simp only[Instr.makeSlice,Sem.run_bind,au hu,Result.andThen_ok,asInt,asIntOf,Sem.run_pure,pT iB,w1,w2,if_neg BH,run_askRoom,gT hs]
      rw[if_neg h0]
      simp[qT BQ fQ,newRow]
      congr 2
      apply adl.1
      simp
    ·cases hb
   ·cases hb
  ·cases hb
 ·cases hb
theorem RH.new (h:RH G F W e H w){o:AO}{i:Nat}{H':Hp}(ha:Am.alloc H o=some (i,H')){ob:Obj}(dH:∀ e',e.le e'->e'.d i=0->OR e' i o ob) :
  ∃ e',e.le e'/\i<e'.N/\e'.b i=w.heap.size/\e'.d i=0/\RH G F W e' H' { w with heap:=w.heap.push ob }:=by
 have vq:i=e.N:=(qz ha).1.trans h.N.symm
 obtain⟨hi,hr⟩:=h.alloc (d:=0) (n:=0) ha (dH _ (Em.nf ..) (by rw[vq];exact Em.jN ..))
 subst hi
 exact⟨_,Em.nf ..,by simp[Em.ext],Em.jL ..,Em.jN ..,hr⟩
theorem VR.L9 {e:Em}{b i:Nat}(hb:e.b i=b)(hi:i<e.N)(hd:e.d i=0):VR e (.ptr i 0) (.pointer (some ⟨b,0,none⟩)):=by
 subst hb;exact .ptr i 0 0 hi (by rw[hd];simp)
theorem VR.wQ {e:Em}{b i:Nat}(hb:e.b i=b)(hi:i<e.N):VR e (.map i) (.map (some b)):=by subst hb;exact .map i hi
theorem adH (h:RH G F W e H w){t:Nat}{i:Nat}{H':Hp}(ha:Am.alloc H (.map [] 0)=some (i,H')) :
  ∃ v' w' e',(Instr.makeMap t none).run P w = .ok v' w'/\e.le e'/\RH G F W e' H' w'/\VR e' (.map i) v':=by
 obtain⟨e',he,g1,g2,g3,hr⟩:=h.new (ob := .map #[] 0) ha (fun e' _ _ => .map _ _ _ _ [] (List.Perm.refl _) ⟨rfl,by simp⟩ (by simp) (by simp))
 exact⟨.map (some w.heap.size),_,e',by simp[Instr.makeMap],he,hr,.wQ g2 g1⟩
theorem anq (h:RH G F W e H w){t:Nat}{x v:AV}{x':Value}{H':Hp}(hx:VR e x x')(hb:sd P t x H=some (v,H')) :
  ∃ v' w' e',(Instr.range t x').run P w = .ok v' w'/\e.le e'/\RH G F W e' H' w'/\VR e' v v':=by
 unfold sd at hb
 split at hb
 ·rename_i s hu
  obtain⟨b,rfl,rfl⟩:=hx.lj
  simp only[yB,abT] at hb
  obtain⟨⟨i,H2⟩,hn,rfl,rfl⟩:=hb
  obtain⟨e',he,g1,g2,g3,hr⟩:=h.new (ob := .stringIter b 0) hn (fun e' _ hd => .sA _ _ _ rfl hd)
  exact⟨.pointer (some ⟨w.heap.size,0,none⟩),_,e',by simp[Instr.range,au hu],he,hr,.L9 g2 g1 g3⟩
 ·rename_i kt el hu
  cases hx
  simp only[yB,abT] at hb
  obtain⟨⟨i,H2⟩,hn,rfl,rfl⟩:=hb
  obtain⟨e',he,g1,g2,g3,hr⟩:=h.new (ob := .mapIter none 0 #[] 0) hn (fun e' _ hd => .Jr _ _ _ _ _ _ hd)
  exact⟨.pointer (some ⟨w.heap.size,0,none⟩),_,e',by simp[Instr.range,au hu],he,hr,.L9 g2 g1 g3⟩
 ·rename_i kt el m hu
  obtain⟨hm,rfl⟩:=hx.EF
  split at hb
  ·rename_i c hg
   simp only[yB,abT] at hb
   obtain⟨⟨i,H2⟩,hn,rfl,rfl⟩:=hb
   obtain⟨_,aq,c',fs,uP,_⟩:=wQ h hg
   obtain⟨e',he,g1,g2,g3,hr⟩:=h.new (ob := .mapIter (some (e.b m)) c' #[] c') hn (fun e' xi hd=>by
    rw[<- (xi.2 m hm).1]
    exact .uT m _ _ _ _ _ _ (adi hm xi.1) hd)
   exact⟨.pointer (some ⟨w.heap.size,0,none⟩),_,e',by simp[Instr.range,au hu,xP uP],he,hr,.L9 g2 g1 g3⟩
  ·cases hb
 ·cases hb
theorem an9 {s:ByteArray}{pos b:Nat}{r:List Nat}(h:(bytes s).drop pos=b::r)(hb:b<128):pos<s.size/\Utf8.decode s pos=(b,1):=by
 have hlen:((bytes s).drop pos).length=s.size-pos:=by rw[aef,wy]
 rw[h] at hlen
 simp at hlen
 have ah:pos<s.size:=by omega
 refine⟨ah,?_⟩
 have h0:(bytes s)[pos]? = some b:=by
  have:=adG (xs:=bytes s) (i:=pos) (j:=0)
  rw[h] at this
  simpa using this.symm
 simp only[bytes,adh,yB] at h0
 obtain⟨u,hu,rfl⟩:=h0
 have eF:s.get! pos=u:=by
  cases s with
  | mk d=>
   have hd:pos<d.size:=ah
   have:=(abf.1 hu).2
   simp only[ByteArray.get!]
   rw[getElem!_pos d pos hd,<-this]
   simp
 unfold Utf8.decode
 simp only[ae6,eF]
 rw[if_pos hb]
theorem aju {b:Nat}{o ob:Obj}(hb:w.heap[b]? = some ob)(hn:∀ c el fz,ob ≠ .cells c el fz):(Go.setObj b o).run P w = .ok () { w with heap:=w.heap.setIfInBounds b o }:=by
 cases ob<;>first | (exact absurd rfl (hn _ _ _)) | (simp[Go.setObj,Sem.run,hb])
theorem Od {b:Nat}{ob:Obj}(hb:w.heap[b]? = some ob)(hn:∀ c el fz,ob ≠ .cells c el fz):(Go.getObj b).run P w = .ok ob w:=by
 cases ob<;>first | (exact absurd rfl (hn _ _ _)) | (simp[Go.getObj,Sem.run,hb])
theorem RH.akx (h:RH G F W e H w){i:Nat}{o o2:AO}(hg:H.h.get i=some o)(hw:wr o=true){ob nH:Obj}(hb:w.heap[e.b i]? = some ob)(dH:OR e i o2 nH) :
  RH G F W e (Am.setObj H i o2) { w with heap:=w.heap.setIfInBounds (e.b i) nH }:=by
 have ah:=(abM.1 hb).1
 refine h.put hg hw (rp:=nH) (by simp) (by simp[ah]) (fun k hk => ?_) dH rfl rfl rfl
 simp only
 rw[aft (fun q=>hk q.symm)]
theorem VR.an7 {a b c:AV}{a' b' c':Value}(ha:VR e a a')(hb:VR e b b')(hc:VR e c c'):VR e (.tuple [a,b,c]) (.tuple #[a',b',c']):=
 .tuple' (.cons ha (.cons hb (.cons hc (.nil e))))
theorem aip (h:RH G F W e H w){t:Nat}{it v:AV}{Hk:Value}{rQ:Bool}{H':Hp}(hx:VR e it Hk)(hb:pW it rQ H=some (v,H')) :
  ∃ v' w',(Instr.next Hk rQ t).run P w = .ok v' w'/\RH G F W e H' w'/\VR e v v':=by
 unfold pW at hb
 split at hb
 ·rename_i i
  obtain⟨o,hi,ho,rfl⟩:=hx.pA
  split at hb
  ·rename_i s pos hg
   obtain⟨_,ob,dP,dH,hF⟩:=h.obj i _ hg
   cases dH with
   | sA _ _ s' hs hd=>
   have Cv:o=0:=by omega
   subst Cv
   have eF:(Go.getObj (e.b i)).run P w = .ok (.stringIter s' pos) w:=Od dP (by simp)
   split at hb
   ·rename_i sM
    cases hb
    have hlen:=congrArg List.length sM
    rw[aef,<-hs,wy] at hlen
    have kZ:¬ pos<s'.size:=by simp at hlen;omega
    exact⟨_,w,by simp[Instr.next,eF,kZ],h,.tuple' (.cons (.bool false) (.nil e))⟩
   ·rename_i b r sM
    cases ah:Nat.blt b 128 with
    | false=>rw[ah] at hb;cases hb
    | true=>
     rw[ah] at hb
     cases hb
     rw[adn] at ah
     rw[<-hs] at sM
     obtain⟨AH,agC⟩:=an9 sM ah
     refine⟨_,{ w with heap:=w.heap.setIfInBounds (e.b i) (.stringIter s' (pos+1)) },?_,h.akx hg rfl dP (.sA _ _ _ hs hd),VR.an7 (.bool true) (.int _ _) (.int _ _)⟩
     have fM:(Go.setObj (e.b i) (.stringIter s' (pos+1))).run P w = .ok () { w with heap:=w.heap.setIfInBounds (e.b i) (.stringIter s' (pos+1)) }:=aju dP (by simp)
     simp only[Instr.next,Sem.run_bind,eF,Result.andThen_ok,AH,if_true,agC,fM]
     rfl
  ·rename_i q1 q2 q3 hg
   cases hb
   obtain⟨_,ob,dP,dH,hF⟩:=h.obj i _ hg
   cases dH with
   | Jr _ _ _ a' b' c' hd=>
   have Cv:o=0:=by omega
   subst Cv
   have eF:(Go.getObj (e.b i)).run P w = .ok (.mapIter none a' b' c') w:=Od dP (by simp)
   exact⟨.tuple #[.bool false],w,by simp[Instr.next,eF],h,.tuple' (.cons (.bool false) (.nil e))⟩
  ·rename_i m q1 q2 q3 hg
   obtain⟨_,ob,dP,dH,hF⟩:=h.obj i _ hg
   cases dH with
   | uT _ _ _ _ a' b' c' hm hd=>
   have Cv:o=0:=by omega
   subst Cv
   have eF:(Go.getObj (e.b i)).run P w = .ok (.mapIter (some (e.b m)) a' b' c') w:=Od dP (by simp)
   split at hb
   ·rename_i cc hgm
    cases hb
    obtain⟨_,aq,cm,fs,uP,hp,kQ,_⟩:=wQ h hgm
    have tv:fs=[]:=agG kQ.1
    subst tv
    have dC:aq = #[]:=adl.1 (List.nil_perm.1 hp)
    subst dC
    have anu:(Go.getObj (e.b m)).run P w = .ok (.map #[] cm) w:=xP uP
    refine⟨.tuple #[.bool false],w,?_,h,.tuple' (.cons (.bool false) (.nil e))⟩
    simp[Instr.next,eF,anu,Question.forced]
   ·cases hb
  ·cases hb
 ·cases hb
theorem arB (h:RH G F W e H w){it v:AV}{Hk:Value}(hx:VR e it Hk)(hb:Lr it H=some v) :
  ∃ v',(Instr.entry Hk).run P w = .ok v' w/\VR e v v':=by
 unfold Lr at hb
 cases hb
theorem arP {uv t:TypeId}{x v:AV}{x':Value}{ok:Bool}(hx:VR e x x')(hb:F4 P uv x ok=some v)(w:World) :
  ∃ v',(Instr.typeAssert x' t uv ok).run P w = .ok v' w/\VR e v v':=by
 unfold F4 at hb
 split at hb
 ·cases hb
 ·rename_i d t2 u cL hu
  cases hx with
  | iface _ _ u' hr=>
  split at hb
  ·rename_i ht
   subst ht
   have hd:∀ ms,d ≠ .interface ms:=fun ms q=>cL ms q
   cases ok with
   | true=>
    cases hb
    refine⟨.tuple #[u',.bool true],?_,hr.pair (.bool true)⟩
    cases d<;>first | (exact absurd rfl (hd _)) | simp[Instr.typeAssert,au hu]
   | false=>
    cases hb
    refine⟨u',?_,hr⟩
    cases d<;>first | (exact absurd rfl (hd _)) | simp[Instr.typeAssert,au hu]
  ·cases hb
 ·cases hb
end
end
section
variable {P:Program}{G:Nat}{F:Nat->Prop}{W:World}{e:Em}{H:Hp}{w:World}
theorem ao8 {t:TypeId}{ps:List (Nat × AV)}{oR:Array (Nat × Value)}{v:AV}(hp:sh e ps oR.toList)(hb:E4 P t ps=some v)(w:World) :
  ∃ v',(Instr.build t oR).run P w = .ok v' w/\VR e v v':=by
 unfold E4 at hb
 split at hb
 ·rename_i z fs hz hu
  split at hb
  ·rename_i pl vK
   simp only[yB] at hb
   obtain⟨out,hf,rfl⟩:=hb
   exact aqx hz hu vK hp hf w
  ·cases hb
 ·rename_i z n el hz hu
  split at hb
  ·rename_i s hs
   simp only[yB] at hb
   obtain⟨out,hf,rfl⟩:=hb
   exact akk hz hu hs hp hf w
  ·cases hb
 ·cases hb
theorem az.B0 {ρ:Operand->AV}{σ:Operand->Value}(h:∀ x,VR e (ρ x) (σ x))(l:Array Operand):az e (l.toList.map ρ) (l.map σ).toList:=by
 rw[Array.toList_map];exact az.map h _
theorem aiY (h:RH G F W e H w){b:Builtin}{dq:Array TypeId}{ty:TypeId}{cs:Array Bool}{args:List AV}{CO:Array Value}{v:AV}{H':Hp}(ha:az e args CO.toList)(hb:eP P b dq args H=some (v,H')) :
  eQ P G F W e v H' ((builtin b dq ty cs CO).run P w):=by
 have two:∀ {s x:AV},az e [s,x] CO.toList->∃ s' x',CO = #[s',x']/\VR e s s'/\VR e x x':=by
  intro s x h2
  obtain⟨s',r,h1,hs,hr⟩:=h2.cons_inv
  obtain⟨x',r',rfl,hx,eg⟩:=hr.cons_inv
  rw[eg.iW] at h1
  exact⟨s',x',adl.1 h1,hs,hx⟩
 have one:∀ {s:AV},az e [s] CO.toList->∃ s',CO = #[s']/\VR e s s':=by
  intro s h2
  obtain⟨s',r,h1,hs,hr⟩:=h2.cons_inv
  rw[hr.iW] at h1
  exact⟨s',adl.1 h1,hs⟩
 unfold eP at hb
 split at hb
 ·obtain⟨s',x',rfl,hs,hx⟩:=two ha
  obtain⟨v',w',e',h1,h2,h3,h4⟩:=arz (P:=P) (ty:=ty) h hs hx hb
  exact eQ.val h1 h2 h3 h4
 ·obtain⟨s',x',rfl,hs,hx⟩:=two ha
  obtain⟨v',w',h1,h3,h4⟩:=agP (P:=P) (ty:=ty) h hs hx hb
  exact eQ.val h1 e.le_refl h3 h4
 ·obtain⟨s',x',rfl,hs,hx⟩:=two ha
  simp only[yB,abT] at hb
  obtain⟨H2,hd,rfl,rfl⟩:=hb
  obtain⟨w',h1,h3⟩:=ap4 (P:=P) (ty:=ty) h hs hx hd
  exact eQ.val h1 e.le_refl h3 .undef
 ·obtain⟨s',rfl,hs⟩:=one ha
  simp only[yB,abT] at hb
  obtain⟨H2,hd,rfl,rfl⟩:=hb
  obtain⟨w',h1,h3⟩:=acv (P:=P) (ty:=ty) h hs hd
  exact eQ.val h1 e.le_refl h3 .undef
 ·obtain⟨s',rfl,hs⟩:=one ha
  simp only[yB,abT] at hb
  obtain⟨v2,hd,rfl,rfl⟩:=hb
  obtain⟨v',h1,h3⟩:=aoV (P:=P) (ty:=ty) h hs hd
  exact eQ.pure h h1 h3
 ·obtain⟨s',rfl,hs⟩:=one ha
  simp only[yB,abT] at hb
  obtain⟨v2,hd,rfl,rfl⟩:=hb
  obtain⟨v',h1,h3⟩:=aqO (P:=P) (ty:=ty) hs hd w
  exact eQ.pure h h1 h3
 ·rename_i x r
  simp only[yB,abT] at hb
  obtain⟨v2,hd,rfl,rfl⟩:=hb
  obtain⟨x',r',lx,hx,hr⟩:=ha.cons_inv
  obtain⟨v',h1,h3⟩:=UQ (P:=P) (w:=w) hx hr hd
  refine eQ.pure h (v':=v') ?_ h3
  unfold Builtin.min_
  rw[lx]
  exact h1
 ·rename_i x r
  simp only[yB,abT] at hb
  obtain⟨v2,hd,rfl,rfl⟩:=hb
  obtain⟨x',r',lx,hx,hr⟩:=ha.cons_inv
  obtain⟨v',h1,h3⟩:=U5 (P:=P) (w:=w) hx hr hd
  refine eQ.pure h (v':=v') ?_ h3
  unfold Builtin.max_
  rw[lx]
  exact h1
 ·obtain⟨s',rfl,hs⟩:=one ha
  cases hs;cases hb
  exact eQ.pure h (Go.Lib.run_unsafeSliceData_nil (P:=P) w dq ty 0 0) .aC
 ·rename_i i off l c a1 a2
  obtain⟨s',rfl,hs⟩:=one ha
  cases hl:Nat.blt 0 l with
  | false=>rw[hl] at hb;cases hb
  | true=>
   rw[hl] at hb
   cases hb
   rw[adn] at hl
   rcases hs.lM with⟨o,cc,hi,ho,oX,hc,gK,hn,rfl⟩ | ⟨rfl,_,a,rfl⟩
   ·exact eQ.pure h (Go.Lib.run_unsafeSliceData_row (P:=P) w dq ty ⟨e.b i,o,none⟩ l cc (by omega)) (.ptr _ _ _ hi ho)
   ·omega
 ·rename_i p k n
  obtain⟨p',k',rfl,hp,hk⟩:=two ha
  cases hk.gQ
  obtain⟨v',w',h1,h3,h4⟩:=ale (P:=P) (ty:=ty) h hp hb
  exact eQ.val h1 e.le_refl h3 h4
 ·cases hb
theorem aqj {x v:AV}{x':Value}(hx:VR e x x')(hb:ag x=some v) :
  v=x/\((∃ a,x' = .pointer (some a))\/(∃ f a b,x' = .func (.func f) a b)\/∃ t u,x' = .iface t u):=by
 unfold ag at hb
 split at hb
 ·cases hb
  obtain⟨o,_,_,rfl⟩:=hx.pA
  exact⟨rfl,.inl ⟨_,rfl⟩⟩
 ·cases hb;cases hx;exact⟨rfl,.inr (.inl ⟨_,_,_,rfl⟩)⟩
 ·cases hb;cases hx;exact⟨rfl,.inr (.inr ⟨_,_,rfl⟩)⟩
 ·cases hb
end
theorem ve.map {e:Em}{ρ:Operand->AV}{σ:Operand->Value}(h:∀ x,VR e (ρ x) (σ x)):∀ o:Option Operand,ve e (o.map ρ) (o.map σ)
 | none=>trivial
 | some x=>h x
theorem sh.B0 {e:Em}{ρ:Operand->AV}{σ:Operand->Value}(h:∀ x,VR e (ρ x) (σ x))(l:Array (Nat × Operand)) :
  sh e (l.toList.map fun (i,x)=>(i,ρ x)) (l.map fun (i,x)=>(i,σ x)).toList:=by
 rw[Array.toList_map];exact sh.map h _
theorem amo {P:Program}{G:Nat}{F:Nat->Prop}{W:World}{e:Em}{H:Hp}{w:World}(h:RH G F W e H w){ρ:Operand->AV}{σ:Operand->Value}(hρ:∀ x,VR e (ρ x) (σ x)){o:Oper}{v:AV}{H':Hp}(ha:fH P ρ o H=some (v,H')) :
  eQ P G F W e v H' ((execOp σ o).run P w):=by
 unfold fH at ha
 unfold execOp
 split at ha
 ·rename_i x ay
  cases ha
  rw[ay]
  exact⟨.value (σ x),w,e,σ x,rfl,.inl rfl,e.le_refl,h,hρ x⟩
 ·rename_i x ay
  cases ha
  rw[ay]
  exact⟨.value (σ x),w,e,σ x,rfl,.inl rfl,e.le_refl,h,hρ x⟩
 ·rename_i c a b ay
  rw[ay]
  split at ha
  ·rename_i t ht
   cases ha
   have hc:=hρ c
   rw[ht] at hc
   have A3:=hc.uU
   cases t with
   | true=>exact⟨.value (σ a),w,e,σ a,by simp[A3,asBool],.inl rfl,e.le_refl,h,hρ a⟩
   | false=>exact⟨.value (σ b),w,e,σ b,by simp[A3,asBool],.inl rfl,e.le_refl,h,hρ b⟩
  ·cases ha
 ·rename_i t ay
  rw[ay]
  split at ha
  ·rename_i l hl
   simp only[yB,abT] at ha
   obtain⟨⟨i,H2⟩,hn,rfl,rfl⟩:=ha
   obtain⟨v',w',e',h1,h2,h3,h4⟩:=acN (P:=P) h hl hn
   exact eQ.val h1 h2 h3 h4
  ·cases ha
 ·rename_i t x ay
  rw[ay]
  split at ha
  ·rename_i l hl
   simp only[yB,abT] at ha
   obtain⟨⟨i,H2⟩,hn,rfl,rfl⟩:=ha
   obtain⟨v',w',e',h1,h2,h3,h4⟩:=aeJ (P:=P) h (hρ x) hl hn
   exact eQ.val h1 h2 h3 h4
  ·cases ha
 ·rename_i t parts ay
  rw[ay]
  simp only[yB,abT] at ha
  obtain⟨v2,hb,rfl,rfl⟩:=ha
  obtain⟨v',h1,h2⟩:=ao8 (sh.B0 hρ parts) hb w
  exact eQ.pure h h1 h2
 ·rename_i t len parts ay
  rw[ay]
  obtain⟨v',w',e',h1,h2,h3,h4⟩:=ah3 (P:=P) h (sh.B0 hρ parts) ha
  exact eQ.val h1 h2 h3 h4
 ·rename_i t m k x ay
  rw[ay]
  simp only[yB,abT] at ha
  obtain⟨H2,hb,rfl,rfl⟩:=ha
  obtain⟨w',h1,h3⟩:=XZ (P:=P) h (hρ m) (hρ k) (hρ x) hb
  exact eQ.unit h1 e.le_refl h3
 ·rename_i t m k x ay
  rw[ay]
  simp only[yB,abT] at ha
  obtain⟨H2,hb,rfl,rfl⟩:=ha
  obtain⟨w',h1,h3⟩:=XZ (P:=P) h (hρ m) (hρ k) (hρ x) hb
  exact eQ.unit h1 e.le_refl h3
 ·rename_i t a ay
  rw[ay]
  simp only[yB,abT] at ha
  obtain⟨v2,hb,rfl,rfl⟩:=ha
  obtain⟨v',h1,h2⟩:=Ve h (hρ a) hb
  exact eQ.pure h h1 h2
 ·rename_i t a x ay
  rw[ay]
  simp only[yB,abT] at ha
  obtain⟨H2,hb,rfl,rfl⟩:=ha
  obtain⟨w',h1,h3⟩:=aeb (P:=P) h (hρ a) (hρ x) hb
  exact eQ.unit h1 e.le_refl h3
 ·rename_i x ay
  rw[ay]
  simp only[yB,abT] at ha
  obtain⟨v2,hb,rfl,rfl⟩:=ha
  obtain⟨rfl,h1⟩:=aqj (hρ x) hb
  refine⟨.value (σ x),w,e,σ x,?_,.inl rfl,e.le_refl,h,hρ x⟩
  rcases h1 with⟨a,q⟩ | ⟨f,a,b,q⟩ | ⟨t,u,q⟩<;>(simp only[q];rfl)
 ·rename_i op t x y ty ay
  rw[ay]
  cases hg:sS P op t x y (ρ x) (ρ y) with
  | false=>rw[hg] at ha;cases ha
  | true=>
   rw[hg] at ha
   simp only[cond_true,yB,abT] at ha
   obtain⟨v2,hb,rfl,rfl⟩:=ha
   obtain⟨v',h1,h2⟩:=anR h (hρ x) (hρ y) hb
   have h0:=aq1 (w:=w) (hρ x) (hρ y) hg hb
   refine eQ.pure h (v':=v') ?_ h2
   rw[Sem.run_bind,h0]
   exact h1
 ·rename_i op t x ay
  rw[ay]
  simp only[yB,abT] at ha
  obtain⟨v2,hb,rfl,rfl⟩:=ha
  obtain⟨v',h1,h2⟩:=ahn (P:=P) (hρ x) hb w
  exact eQ.pure h h1 h2
 ·rename_i a b x ay
  rw[ay]
  obtain⟨v',w',e',h1,h2,h3,h4⟩:=amV (P:=P) h (hρ x) ha
  exact eQ.val h1 h2 h3 h4
 ·rename_i t x ay
  rw[ay]
  simp only[yB,abT] at ha
  obtain⟨v2,hb,rfl,rfl⟩:=ha
  unfold JK at hb
  split at hb
  ·cases hb
  ·rename_i d cL hu
   cases hb
   have hd:∀ ms,d ≠ .interface ms:=fun ms q=>cL ms q
   refine eQ.pure h (v' := .iface t (σ x)) ?_ (.iface _ _ _ (hρ x))
   cases d<;>first | (exact absurd rfl (hd _)) | simp[Instr.makeInterface,au hu]
  ·cases hb
 ·rename_i fn a b ay
  rw[ay]
  simp only[yB,abT] at ha
  obtain⟨v2,hb,rfl,rfl⟩:=ha
  have h1:=az.B0 hρ a
  have h2:=az.B0 hρ b
  unfold Ky at hb
  split at hb
  ·cases hb
  ·rename_i cL
   cases hb
   exact eQ.pure h (v' := .func fn (a.map σ) (b.map σ)) (by simp[Instr.makeFunc]) (.func fn cL _ _ _ _ h1.1 h2.1 h1.2 h2.2)
 ·rename_i t ay
  rw[ay]
  simp only[yB,abT] at ha
  obtain⟨⟨i,H2⟩,hn,rfl,rfl⟩:=ha
  obtain⟨v',w',e',h1,h2,h3,h4⟩:=adH (P:=P) (t:=t) h hn
  exact eQ.val h1 h2 h3 h4
 ·rename_i t l c ay
  rw[ay]
  obtain⟨v',w',e',h1,h2,h3,h4⟩:=am2 (P:=P) h (hρ l) (hρ c) ha
  exact eQ.val h1 h2 h3 h4
 ·rename_i t x lo hi mx ay
  rw[ay]
  simp only[yB,abT] at ha
  obtain⟨v2,hb,rfl,rfl⟩:=ha
  obtain⟨v',h1,h2⟩:=aiS h (hρ x) (ve.map hρ lo) (ve.map hρ hi) (ve.map hρ mx) hb
  exact eQ.pure h h1 h2
 ·rename_i t x f ay
  rw[ay]
  simp only[yB,abT] at ha
  obtain⟨v2,hb,rfl,rfl⟩:=ha
  unfold IW at hb
  split at hb
  ·rename_i fs i off hu hx
   split at hb
   ·rename_i fd Hm
    cases hp:yh P fd.type with
    | false=>rw[hp] at hb;cases hb
    | true=>
     rw[hp] at hb
     cases hb
     obtain⟨n,hn⟩:∃ n,sz P fd.type=some (n+1):=by
      unfold yh at hp
      split at hp
      ·rename_i n hn;exact⟨n,hn⟩
      ·cases hp
     have qm:=hρ x
     rw[hx] at qm
     obtain⟨v',h1,h2⟩:=adO qm hu Hm hn (by omega) w
     exact eQ.pure h h1 h2
   ·cases hb
  ·cases hb
 ·rename_i t x f ay
  rw[ay]
  simp only[yB,abT] at ha
  obtain⟨v2,hb,rfl,rfl⟩:=ha
  unfold FD at hb
  split at hb
  ·rename_i fs cs hu hx
   split at hb
   ·rename_i fd Hm
    obtain⟨v',h1,h2⟩:=ait (hρ x) hu Hm hx hb w
    exact eQ.pure h h1 h2
   ·cases hb
  ·cases hb
 ·rename_i t x ix ay
  rw[ay]
  simp only[yB,abT] at ha
  obtain⟨v2,hb,rfl,rfl⟩:=ha
  obtain⟨v',h1,h2⟩:=ajM (hρ x) (hρ ix) hb w
  exact eQ.pure h h1 h2
 ·rename_i t x ix ay
  rw[ay]
  simp only[yB,abT] at ha
  obtain⟨v2,hb,rfl,rfl⟩:=ha
  obtain⟨v',h1,h2⟩:=acA (hρ x) (hρ ix) hb w
  exact eQ.pure h h1 h2
 ·rename_i t x k ok ay
  rw[ay]
  simp only[yB,abT] at ha
  obtain⟨v2,hb,rfl,rfl⟩:=ha
  obtain⟨v',h1,h2⟩:=aoa h (hρ x) (hρ k) hb
  exact eQ.pure h h1 h2
 ·rename_i t x ay
  rw[ay]
  obtain⟨v',w',e',h1,h2,h3,h4⟩:=anq (P:=P) h (hρ x) ha
  exact eQ.val h1 h2 h3 h4
 ·rename_i it rQ ay
  rw[ay]
  obtain⟨v',w',h1,h3,h4⟩:=aip (P:=P) (t:=o.type) h (hρ it) ha
  exact eQ.val h1 e.le_refl h3 h4
 ·rename_i it ay
  rw[ay]
  simp only[yB,abT] at ha
  obtain⟨v2,hb,rfl,rfl⟩:=ha
  obtain⟨v',h1,h2⟩:=arB (P:=P) h (hρ it) hb
  exact eQ.pure h h1 h2
 ·rename_i t ix ay
  rw[ay]
  split at ha
  ·rename_i l hl
   simp only[yB,abT] at ha
   obtain⟨v2,hb,rfl,rfl⟩:=ha
   have ht:=hρ t
   rw[hl] at ht
   obtain⟨vs,su,hr⟩:=ht.Zd
   obtain⟨v',cQ,gu⟩:=hr.get hb
   rw[adm] at cQ
   exact eQ.pure h (v':=v') (by rw[su];simp[Instr.extract,cQ]) gu
  ·cases ha
 ·rename_i x t uv ok ay
  rw[ay]
  simp only[yB,abT] at ha
  obtain⟨v2,hb,rfl,rfl⟩:=ha
  obtain⟨v',h1,h2⟩:=arP (P:=P) (t:=t) (hρ x) hb w
  exact eQ.pure h h1 h2
 ·rename_i c ay
  rw[ay]
  split at ha
  ·rename_i b hc
   have lx:=az.B0 hρ c.args
   have pR:(do let d <-resolve σ c o.type;invoke d.target d.args:Sem Next)=builtin b c.argTypes o.type (c.args.map fun | .const _=>true | _=>false) (c.args.map σ):=by
    unfold resolve
    rw[hc]
    rfl
   show eQ P G F W e v H' ((do let d <-resolve σ c o.type;invoke d.target d.args:Sem Next).run P w)
   rw[pR]
   exact aiY h lx ha
  ·cases ha
 ·cases ha
end
variable {P:Program}
theorem Ta {ρ ρ':Operand->AV}{l:List Operand}(h:∀ x∈l,ρ x=ρ' x):l.map ρ=l.map ρ':=ag4 h
theorem abq {ρ ρ':Operand->AV}{l:List (Nat × Operand)}(h:∀ x∈l.map (·.2),ρ x=ρ' x):(l.map fun (i,x)=>(i,ρ x))=l.map fun (i,x)=>(i,ρ' x):=by
 apply ag4
 intro a ha
 obtain⟨i,x⟩:=a
 simp only
 rw[h x (adj.2 ⟨(i,x),ha,rfl⟩)]
theorem X6 {ρ ρ':Operand->AV}(o:Oper)(H:Hp)(h:∀ x∈o.op.operands.toList,ρ x=ρ' x):fH P ρ o H=fH P ρ' o H:=by
 unfold fH
 cases ay:o.op<;>rw[ay] at h<;>simp only[Op.operands] at h ⊢
 case move x=>rw[h x (by simp)]
 case assign x=>rw[h x (by simp)]
 case pick c a b=>rw[h c (by simp),h a (by simp),h b (by simp)]
 case box t x=>rw[h x (by simp)]
 case build t ps=>rw[abq (by simpa using h)]
 case buildSlice t l ps=>rw[abq (by simpa using h)]
 case insert t m k v=>rw[h m (by simp),h k (by simp),h v (by simp)]
 case mapUpdate t m k v=>rw[h m (by simp),h k (by simp),h v (by simp)]
 case load t a=>rw[h a (by simp)]
 case store t a v=>rw[h a (by simp),h v (by simp)]
 case nilCheck x=>rw[h x (by simp)]
 case binOp op t x y ty=>rw[h x (by simp),h y (by simp)]
 case unOp op t x=>rw[h x (by simp)]
 case convert a b x=>rw[h x (by simp)]
 case makeInterface t x=>rw[h x (by simp)]
 case makeFunc fn a b=>
  rw[Ta (l:=a.toList) (fun x hx=>h x (by simp at hx ⊢;exact .inl hx)),Ta (l:=b.toList) (fun x hx=>h x (by simp at hx ⊢;exact .inr hx))]
 case makeMap t r=>cases r<;>rfl
 case makeSlice t l c=>rw[h l (by simp),h c (by simp)]
 case slice t x lo hi mx=>
  have q:∀ y:Option Operand,(∀ z∈y.toList,ρ z=ρ' z)->y.map ρ=y.map ρ':=by
   intro y hy;cases y with
   | none=>rfl
   | some z=>simp only[ahk];rw[hy z (by simp)]
  rw[h x (by simp),q lo (fun z hz=>h z (by simp at hz ⊢;simp[hz])),q hi (fun z hz=>h z (by simp at hz ⊢;simp[hz])),q mx (fun z hz=>h z (by simp at hz ⊢;simp[hz]))]
 case fieldAddr t x f=>rw[h x (by simp)]
 case field t x f=>rw[h x (by simp)]
 case indexAddr t x ix=>rw[h x (by simp),h ix (by simp)]
 case index t x ix=>rw[h x (by simp),h ix (by simp)]
 case lookup t x k ok=>rw[h x (by simp),h k (by simp)]
 case range t x=>rw[h x (by simp)]
 case next it s=>rw[h it (by simp)]
 case entry it=>rw[h it (by simp)]
 case typeAssert x t uv ok=>rw[h x (by simp)]
 case extract t ix=>rw[h t (by simp)]
 case call c=>
  cases hc:c.callee with
  | builtin b=>
   simp only
   rw[Ta (l:=c.args.toList) (fun x hx=>h x (by simp[Call.operands,hc] at hx ⊢;exact hx))]
  | value f=>rfl
  | invoke r m=>rfl
end
def Dw (G:Nat)(F:Nat->Prop)(W:World)(e:Em)(v:AV)(H':Hp)(en:Ending)(w':World):Prop:=
 ∃ e' v',en = .returned v'/\e.le e'/\RH G F W e' H' w'/\VR e' v v'
def rC (P:Program)(cf:CF):Prop:=
 ∀ (g:AV) (args:List AV) (H:Hp) (v:AV) (H':Hp),cf g args H=some (v,H')->
  ∃ aB first cap,g = .func (.func aB) first cap/\∀ (F:Nat->Prop) (W:World) (e:Em) (w:World) (ar:Array Value),RH P.globals.size F W e H w->az e (first++args++cap) ar.toList->
   (∃ v' w' e',(callFunc aB ar).run P w = .ok (.value v') w'/\e.le e'/\RH P.globals.size F W e' H' w'/\VR e' v v')\/
   ((callFunc aB ar).run P w = .ok (.enter aB ar) w/\Calls P aB ar w (Dw P.globals.size F W e v H'))
section
variable {P:Program}{F:Nat->Prop}{W:World}{e:Em}{H:Hp}{w:World}
structure TR (e:Em)(n:Nat)(t:Tm)(a:Act):Prop where
 size:n<=a.tmps.size
 val:∀ x,VR e ((t.get x).getD cP) (a.tmps.getD x undef)
theorem TR.mono {e e':Em}(h:e.le e'){n:Nat}{t:Tm}{a:Act}(k:TR e n t a):TR e' n t a:=⟨k.size,fun x=>(k.val x).mono h⟩
theorem VR.ev (h:RH P.globals.size F W e H w){n:Nat}{t:Tm}{a:Act}(ht:TR e n t a)(x:Operand):VR e (ev P.globals.size t x) (a.eval x):=by
 cases x with
 | tmp d=>exact ht.val d
 | const v=>
  simp only[Am.ev,Act.eval]
  cases hc:Am.kf v with
  | none=>exact .dT v
  | some c=>exact .kf hc
 | global g=>
  simp only[Am.ev,Act.eval]
  cases hb:Nat.blt g P.globals.size with
  | false=>exact .dT _
  | true=>
   rw[adn] at hb
   obtain⟨h1,h2,h3⟩:=h.nW g hb
   have:=VR.ptr (e:=e) g 0 0 h1 (by rw[h3];simp)
   rw[h2] at this
   exact this
 | func f=>exact .func _ (by simp) [] [] #[] #[] rfl rfl (by simp) (by simp)
theorem XD {t:Array Value}{d x:Nat}{v:Value}(h:d<t.size):(t.setIfInBounds d v).getD x undef=if x=d then v else t.getD x undef:=by
 simp only[adt]
 by_cases hx:x=d
 ·subst hx;rw[aen h,if_pos rfl];rfl
 ·rw[aft (fun q=>hx q.symm),if_neg hx]
theorem TR.put {n:Nat}{t t':Tm}{a:Act}(h:TR e n t a){dst:Option Tmp}{v:AV}{v':Value}(hp:hZ n dst v t=some t')(hv:VR e v v'):TR e n t' (a.put dst v'):=by
 unfold hZ at hp
 split at hp
 ·cases hp;exact h
 ·rename_i d
  cases hb:(Nat.blt d n&&Nat.blt d 4294967296) with
  | false=>rw[hb] at hp;cases hp
  | true=>
   rw[hb] at hp
   cases hp
   simp only[zf,adn] at hb
   have ah:d<a.tmps.size:=adi hb.1 h.size
   refine⟨by simp only[Act.put,Array.size_setIfInBounds];exact h.size,fun x => ?_⟩
   simp only[Act.put]
   rw[XD ah,Tr.Ij _ _ _ _ _ (by omega)]
   by_cases hx:x=d
   ·rw[if_pos hx,if_pos hx];exact hv
   ·rw[if_neg hx,if_neg hx];exact h.val x
theorem VR.agu {v:AV}{b:Bool}(h:VR e v (.bool b)):v = .bool b\/v = .dT:=by
 cases h with
 | dT=>exact .inr rfl
 | bool=>exact .inl rfl
theorem FQ {ops:Array Oper}{o:Oper}{t:Tm}{a:Act}{b:Bool}(hw:mI ops o t=some b)(hT:∀ d,Fw ops o=some d->VR e ((t.get d).getD cP) (a.tmps.getD d undef)) :
  Region.wanted o (yielded ops a.tmps)=b:=by
 unfold mI at hw
 unfold Region.wanted
 split at hw
 ·rename_i hg
  cases hw
  simp[hg]
 ·rename_i j want hg
  simp only[hg]
  have hgt:Fw ops o=(ops[j]?).bind (·.dst):=by simp[Fw,hg]
  unfold yielded
  split at hw
  ·rename_i hd
   cases hw
   simp[hd]
  ·rename_i d hd
   have hv:=hT d (by rw[hgt,hd])
   simp only[hd,ac0]
   rw[adt] at hv
   split at hw
   ·rename_i hn
    cases hw
    rw[hn] at hv
    obtain⟨vs,su,_⟩:=VR.Zd (l:=[]) hv
    cases hq:a.tmps[d]? with
    | none=>simp
    | some u=>rw[hq] at su;simp at su;subst su;simp
   ·rename_i c hc
    cases hw
    rw[hc] at hv
    have:=hv.uU
    cases hq:a.tmps[d]? with
    | none=>rw[hq] at this;simp[undef] at this
    | some u=>rw[hq] at this;simp at this;subst this;simp
   ·cases hw
   ·rename_i u OT Av hu
    cases hw
    rw[hu] at hv
    cases hq:a.tmps[d]? with
    | none=>simp
    | some z=>
     rw[hq] at hv
     simp at hv
     cases z<;>simp
     rename_i b
     rcases hv.agu with r | r
     ·exact (OT _ r).elim
     ·exact (Av r).elim
theorem ah5 {σ:Operand->Value}{f:Operand}{args:Array Operand}{dq:Array TypeId}{ty aB:Nat}{first cap:Array Value}(hf:σ f = .func (.func aB) first cap) :
  (do let d <-resolve σ { callee := .value f,args,argTypes:=dq } ty;invoke d.target d.args:Sem Next)=callFunc aB (first++args.map σ++cap):=by
 unfold resolve
 simp only[hf,Deferred.ofValue]
 rfl
theorem BU {cf:CF}(gm:rC P cf)(h:RH P.globals.size F W e H w){t:Tm}{a:Act}{o:Oper}{v:AV}{H':Hp}(ho:rk P cf t o H=some (v,H'))
  (hT:∀ x∈o.op.operands.toList,VR e (ev P.globals.size t x) (a.eval x)) {next:Act->World->Prop} {Q:Exit->Act->World->Prop}
  (hn:∀ e' v' w',e.le e'->RH P.globals.size F W e' H' w'->VR e' v v'->next (a.put o.dst v') w'):o.wp P a w next Q:=by
 classical
 let ρ:Operand->AV:=fun x=>if x∈o.op.operands.toList then ev P.globals.size t x else .dT
 have hρ:∀ x,VR e (ρ x) (a.eval x):=by
  intro x
  simp only[ρ]
  split
  ·rename_i hx;exact hT x hx
  ·exact .dT _
 have hρe:∀ x∈o.op.operands.toList,ev P.globals.size t x=ρ x:=by
  intro x hx;simp only[ρ,if_pos hx]
 have plain:fH P (ev P.globals.size t) o H=some (v,H')->o.wp P a w next Q:=by
  intro hA
  rw[X6 o H hρe] at hA
  obtain⟨n,w',e',v',hr,hv,he,hR,gu⟩:=amo h hρ hA
  unfold Oper.wp
  rw[hr]
  rcases hv with rfl | ⟨rfl,rfl⟩
  ·exact hn e' v' w' he hR gu
  ·exact hn e' _ w' he hR gu
 unfold rk at ho
 split at ho
 ·rename_i f args dq ay
  obtain⟨aB,first,cap,hg,hs⟩:=gm _ _ _ _ _ ho
  have Gk:f∈o.op.operands.toList:=by simp[ay,Op.operands,Call.operands]
  have hf:=hT f Gk
  rw[hg] at hf
  cases R9:a.eval f with
  | func fn Ot rZ=>
   rw[R9] at hf
   cases hf with
   | func _ _ _ _ _ _ ha hc h1 h2=>
   have lx:az e (args.toList.map (ev P.globals.size t)) (args.map a.eval).toList:=by
    rw[Array.toList_map]
    refine⟨by simp,fun i x x' hx qu => ?_⟩
    simp only[adh,yB] at hx qu
    obtain⟨z,hz,rfl⟩:=hx
    obtain⟨z',Aj,rfl⟩:=qu
    rw[hz] at Aj
    cases Aj
    exact hT z (by simp[ay,Op.operands,Call.operands];exact .inr (by have:=acx hz;simpa using this))
   have gC:az e (first++args.toList.map (ev P.globals.size t)++cap) (Ot++args.map a.eval++rZ).toList:=by
    have q1:az e first Ot.toList:=⟨ha,h1⟩
    have q2:az e cap rZ.toList:=⟨hc,h2⟩
    have:=(q1.append lx).append q2
    simpa using this
   have hex:execOp a.eval o=callFunc aB (Ot++args.map a.eval++rZ):=by
    unfold execOp
    rw[ay]
    exact ah5 R9
   unfold Oper.wp
   rw[hex]
   rcases hs F W e w _ h gC with⟨v',w',e',hr,he,hR,gu⟩ | ⟨hr,alS⟩
   ·rw[hr];exact hn e' v' w' he hR gu
   ·rw[hr]
    refine alS.mono ?_
    rintro en tQ ⟨e',v',rfl,he,hR,gu⟩
    exact hn e' v' tQ he hR gu
  | _=>rw[R9] at hf;cases hf
 ·exact plain ho
theorem U8 {cf:CF}(gm:rC P cf){ops:Array Oper}{n:Nat}{Q:Exit->Act->World->Prop}{t':Tm}{H':Hp}:∀ (r:List Oper) (i:Nat) (t:Tm) (H:Hp) (e:Em) (a:Act) (w:World),
  ops.toList.drop i=r->lN P cf n ops r t H=some (t',H')->RH P.globals.size F W e H w->TR e n t a->
  (∀ e' a' w',e.le e'->RH P.globals.size F W e' H' w'->TR e' n t' a'->a'.defers=a.defers->Q .normal a' w')->wpOps P ops Q (List.range' i r.length) a w:=by
 intro r
 induction r with
 | nil=>
  intro i t H e a w hd hs hR hT hQ
  cases hs
  exact hQ e a w e.le_refl hR hT rfl
 | cons o r ih=>
  intro i t H e a w hd hs hR hT hQ
  have hi:ops[i]? = some o:=by
   have:=congrArg (fun l=>l[0]?) hd
   simpa[adG,adm] using this
  have gP:ops.toList.drop (i+1)=r:=by
   have:=congrArg List.tail hd
   simpa[List.tail_drop] using this
  rw[abn,List.range'_succ]
  unfold lN at hs
  split at hs
  ·rename_i hw
   split at hs
   ·rename_i v H1 ho
    split at hs
    ·rename_i t1 hp
     simp only[wpOps,hi,FQ (e:=e) (a:=a) hw (fun d _=>hT.val d),if_true]
     left
     refine BU gm hR ho (fun x _=>VR.ev hR hT x) ?_
     intro e' v' w' he cH hv
     have dE:=(hT.mono he).put hp hv
     refine ih (i+1) t1 H1 e' _ w' gP hs cH dE ?_
     intro e2 a2 w2 kI sR Ci Bl
     refine hQ e2 a2 w2 (Em.le_trans he kI) sR Ci (Bl.trans ?_)
     cases o.dst<;>rfl
    ·cases hs
   ·cases hs
  ·rename_i hw
   split at hs
   ·rename_i t1 hp
    simp only[wpOps,hi,FQ (e:=e) (a:=a) hw (fun d _=>hT.val d),abZ,if_false]
    have dE:=hT.put hp VR.undef
    refine ih (i+1) t1 H e _ w gP hs hR dE ?_
    intro e2 a2 w2 kI sR Ci Bl
    refine hQ e2 a2 w2 kI sR Ci (Bl.trans ?_)
    cases o.dst<;>rfl
   ·cases hs
  ·cases hs
end
end
def Ek (o:Oper)(acc:List Nat):Nat:=o.after.toList.foldl (fun s e=>if Region.binds .any e then s ||| 2 ^ e.on ||| acc.getD e.on 0 else s) 0
theorem YA (acc:List Nat)(j:Nat):∀ (l:List Edge) (s:Nat),(l.foldl (fun s e=>if Region.binds .any e then s ||| 2 ^ e.on ||| acc.getD e.on 0 else s) s).testBit j=true->
  s.testBit j=true\/∃ e∈l,Region.binds .any e=true/\(j=e.on\/(acc.getD e.on 0).testBit j=true)
 | [],s,h => .inl h
 | e::l,s,h=>by
  rw[List.foldl_cons] at h
  rcases YA acc j l _ h with h1 | ⟨e',xi,hb,hj⟩
  ·by_cases yF:Region.binds .any e=true
   ·rw[if_pos yF] at h1
    rw[Nat.testBit_or,Nat.testBit_or,aff,aff] at h1
    rcases h1 with (h1 | h1) | h1
    ·exact .inl h1
    ·right
     refine⟨e,ajg ..,yF,.inl ?_⟩
     rw[Nat.testBit_two_pow] at h1
     exact (of_decide_eq_true h1).symm
    ·exact .inr ⟨e,ajg ..,yF,.inr h1⟩
   ·rw[if_neg yF] at h1
    exact .inl h1
  ·exact .inr ⟨e',List.mem_cons_of_mem _ xi,hb,hj⟩
theorem XE:∀ (r:List Oper) (acc:List Nat),(before r acc).length=acc.length+r.length
 | [],acc=>by simp[before]
 | o::r,acc=>by
  rw[before,XE r]
  simp;omega
theorem Ox:∀ (r:List Oper) (acc:List Nat) (i:Nat),i<acc.length->(before r acc)[i]? = acc[i]?
 | [],acc,i,h=>by simp[before]
 | o::r,acc,i,h=>by
  rw[before,Ox r _ i (by simp;omega)]
  rw[abU h]
theorem X8:∀ (r:List Oper) (acc:List Nat) (i:Nat) (o:Oper),r[i]? = some o->(before r acc)[acc.length+i]? = some (Ek o ((before r acc).take (acc.length+i)))
 | [],acc,i,o,h=>by simp at h
 | p::r,acc,i,o,h=>by
  cases i with
  | zero=>
   simp at h
   subst h
   rw[before,ae6,Ox r _ _ (by simp)]
   have ht:(before r (acc++[Ek p acc])).take acc.length=acc:=by
    apply List.ext_getElem?
    intro k
    rw[adM]
    split
    ·rw[Ox r _ k (by simp;omega),abU (by assumption)]
    ·rw[List.getElem?_eq_none (by omega)]
   show (acc++[Ek p acc])[acc.length]? = some (Ek p ((before r (acc++[Ek p acc])).take acc.length))
   rw[ht]
   simp
  | succ i=>
   have:=X8 r (acc++[Ek p acc]) i o (by simpa using h)
   rw[abz,List.length_singleton] at this
   rw[before]
   have e1:acc.length+(i+1)=acc.length+1+i:=by omega
   rw[e1]
   exact this
structure Form (ops:Array Oper)(B:List Nat):Prop where
 len:B.length=ops.size
 back:∀ i o,ops[i]? = some o->∀ e∈o.after,Region.binds .any e=true->e.on<i
 bit:∀ i o,ops[i]? = some o->∀ j,(B.getD i 0).testBit j=true->∃ e∈o.after,Region.binds .any e=true/\(j=e.on\/(B.getD e.on 0).testBit j=true)
 one:∀ (i j:Nat) (oi oj:Oper) (d:Tmp),ops[i]? = some oi->ops[j]? = some oj->oi.dst=some d->oj.dst=some d->i=j
 rd:∀ (i j:Nat) (oi oj:Oper) (d:Tmp),ops[i]? = some oi->ops[j]? = some oj->oi.dst=some d->i≠j->yg ops oj d=true->if i<j then (B.getD j 0).testBit i=true else (B.getD i 0).testBit j=true
theorem YP {ops:Array Oper}(h:uI ops=true):Form ops (before ops.toList []):=by
 unfold uI at h
 simp only at h
 have hlen:(before ops.toList []).length=ops.size:=by rw[XE];simp
 have hz:∀ i o,ops[i]? = some o->(i,(o,(before ops.toList []).getD i 0))∈(List.range ops.size).zip (ops.toList.zip (before ops.toList [])):=by
  intro i o ho
  have hi:i<ops.size:=(abM.1 ho).1
  apply acx (i:=i)
  rw[afT]
  refine⟨by simp[hi],?_⟩
  rw[afT]
  refine⟨by simpa using ho,?_⟩
  simp only
  rw[agt,aax (by rw[hlen];exact hi)]
  rfl
 rw[ac6] at h
 have h1:∀ i o,ops[i]? = some o->∀ e∈o.after,Region.binds .any e=true->e.on<i:=by
  intro i o ho e he hb
  have:=h _ (hz i o ho)
  rw[zf] at this
  have h2:=Array.all_eq_true_iff_forall_mem.1 this.1 e he
  rw[hb] at h2
  simpa using h2
 have h2:∀ i j oi oj,ops[i]? = some oi->ops[j]? = some oj->Ki ops i oi ((before ops.toList []).getD i 0) j oj ((before ops.toList []).getD j 0)=true:=by
  intro i j oi oj hi hj
  have:=h _ (hz i oi hi)
  rw[zf] at this
  exact ac6.1 this.2 _ (hz j oj hj)
 refine⟨hlen,h1,?_,?_,?_⟩
 ·intro i o ho j hb
  have hi:i<ops.size:=(abM.1 ho).1
  have wH:=X8 ops.toList [] i o (by simpa using ho)
  simp only[abY,yS] at wH
  rw[agt,wH] at hb
  simp only[agy] at hb
  rcases YA _ j _ 0 hb with hq | ⟨e,he,yF,hj⟩
  ·simp at hq
  ·have xi:e∈o.after:=by simpa using he
   refine⟨e,xi,yF,hj.imp id fun hq => ?_⟩
   have ah:=h1 i o ho e xi yF
   rw[agt,adM,if_pos ah] at hq
   rw[agt]
   exact hq
 ·intro i j oi oj d hi hj TK Db
  have:=h2 i j oi oj hi hj
  unfold Ki at this
  rw[TK] at this
  simp only[aff,zf] at this
  rcases this with q | ⟨q,_⟩
  ·exact aba q
  ·simp[Db] at q
 ·intro i j oi oj d hi hj TK cL hr
  have:=h2 i j oi oj hi hj
  unfold Ki at this
  rw[TK] at this
  simp only[aff,zf] at this
  rcases this with q | ⟨_,q⟩
  ·exact absurd (aba q) cL
  ·rcases q with q | q
   ·rw[hr] at q;simp at q
   ·by_cases ah:i<j
    ·rw[if_pos ah]
     have:Nat.blt i j=true:=by rw[adn];exact ah
     rw[this] at q;exact q
    ·rw[if_neg ah]
     have:Nat.blt i j=false:=by
      cases hb:Nat.blt i j
      ·rfl
      ·rw[adn] at hb;exact absurd hb ah
     rw[this] at q;exact q
def kk (P:Program)(x:Bool)(o:Oper):Kd:=if x then kd P o else .pure
def J3 (P:Program)(cf:CF)(n:Nat)(ops:Array Oper)(o:Oper)(x:Bool)(v:AV)(tp te ko ka:Tm)(hb hh lO vT:Hp):Prop:=
 mI ops o tp=some x/\
 match x,kd P o with
 | false,_=>v=cP/\hZ n o.dst cP tp=some ko/\hZ n o.dst cP te=some ka/\lO=hb/\vT=hh
 | true,.late=>fH P (ev P.globals.size tp) o hh=some (v,vT)/\hZ n o.dst .dT tp=some ko/\hZ n o.dst v te=some ka/\lO=hb
 | true,.dU=>rk P cf te o hh=some (v,vT)/\hZ n o.dst v tp=some ko/\hZ n o.dst v te=some ka/\lO=vT
 | true,_=>(∃ h',fH P (ev P.globals.size tp) o hb=some (v,h'))/\hZ n o.dst v tp=some ko/\hZ n o.dst v te=some ka/\lO=hb/\vT=hh
theorem arh {P:Program}{cf:CF}{n:Nat}{ops:Array Oper}{B:List Nat}{tF:Tm}{HF:Hp}:∀ (r:List Oper) (bs:List Nat) (i:Nat) (tp te:Tm) (hb hh:Hp) (l:List jW),
  ops.toList.drop i=r->B.drop i=bs->kV P cf n ops i r bs tp te hb hh=some (l,tF,HF)->
  ∃ (TP TE:Nat->Tm) (HB HH:Nat->Hp) (V:Nat->AV) (X:Nat->Bool),TP i=tp/\TE i=te/\HB i=hb/\HH i=hh/\TE (i+r.length)=tF/\HH (i+r.length)=HF/\
   ∀ j o,i<=j->ops[j]? = some o->J3 P cf n ops o (X j) (V j) (TP j) (TE j) (TP (j+1)) (TE (j+1)) (HB j) (HH j) (HB (j+1)) (HH (j+1))/\
    (⟨j,o,B.getD j 0,X j,kk P (X j) o,V j,TP j,HB j,HB (j+1)⟩:jW)∈l:=by
 intro r
 induction r with
 | nil=>
  intro bs i tp te hb hh l hd BY hr
  simp only[kV,acS,abT] at hr
  obtain⟨rfl,rfl,rfl⟩:=hr
  refine⟨fun _=>tp,fun _=>te,fun _=>hb,fun _=>hh,fun _ => .dT,fun _=>false,rfl,rfl,rfl,rfl,rfl,rfl,?_⟩
  intro j o hj ho
  have ah:=(abM.1 ho).1
  have:=congrArg List.length hd
  simp at this
  omega
 | cons o r ih=>
  intro bs i tp te hb hh l hd BY hr
  have hi:ops[i]? = some o:=by
   have:=congrArg (fun l=>l[0]?) hd
   simpa[adG,adm] using this
  have gP:ops.toList.drop (i+1)=r:=by
   have:=congrArg List.tail hd
   simpa[List.tail_drop] using this
  cases bs with
  | nil=>simp[kV] at hr
  | cons b bs=>
   have hbi:B.getD i 0=b:=by
    have:=congrArg (fun l=>l[0]?) BY
    simp[adG] at this
    simp[agt,this]
   have aqf:B.drop (i+1)=bs:=by
    have:=congrArg List.tail BY
    simpa[List.tail_drop] using this
   have fin:∀ (x:Bool) (v:AV) (ko ka:Tm) (lO vT:Hp) (l':List jW),J3 P cf n ops o x v tp te ko ka hb hh lO vT->kV P cf n ops (i+1) r bs ko ka lO vT=some (l',tF,HF)->
     l=⟨i,o,b,x,kk P x o,v,tp,hb,lO⟩::l'->
     ∃ (TP TE:Nat->Tm) (HB HH:Nat->Hp) (V:Nat->AV) (X:Nat->Bool),TP i=tp/\TE i=te/\HB i=hb/\HH i=hh/\TE (i+(o::r).length)=tF/\HH (i+(o::r).length)=HF/\
   ∀ j o,i<=j->ops[j]? = some o->J3 P cf n ops o (X j) (V j) (TP j) (TE j) (TP (j+1)) (TE (j+1)) (HB j) (HH j) (HB (j+1)) (HH (j+1))/\
    (⟨j,o,B.getD j 0,X j,kk P (X j) o,V j,TP j,HB j,HB (j+1)⟩:jW)∈l:=by
    intro x v ko ka lO vT l' hstep xM hl
    obtain⟨TP,TE,HB,HH,V,X,q1,q2,q3,q4,q5,q6,q7⟩:=ih bs (i+1) ko ka lO vT l' gP aqf xM
    have cL:¬ i+1=i:=by omega
    refine⟨fun j=>if j=i then tp else TP j,fun j=>if j=i then te else TE j,fun j=>if j=i then hb else HB j,fun j=>if j=i then hh else HH j,fun j=>if j=i then v else V j,fun j=>if j=i then x else X j,
     by simp,by simp,by simp,by simp,?_,?_,?_⟩
    ·simp only[abn]
     rw[if_neg (by omega)]
     have:i+(r.length+1)=i+1+r.length:=by omega
     rw[this];exact q5
    ·simp only[abn]
     rw[if_neg (by omega)]
     have:i+(r.length+1)=i+1+r.length:=by omega
     rw[this];exact q6
    ·intro j oj hj nL
     by_cases oJ:j=i
     ·subst oJ
      rw[hi] at nL
      cases nL
      simp only[if_true,if_neg cL,q1,q2,q3,q4,hbi]
      refine⟨hstep,?_⟩
      rw[hl];exact ajg ..
     ·have Ni:¬ j+1=i:=by omega
      simp only[if_neg oJ,if_neg Ni]
      obtain⟨s1,s2⟩:=q7 j oj (by omega) nL
      exact⟨s1,by rw[hl];exact List.mem_cons_of_mem _ s2⟩
   unfold kV at hr
   split at hr
   ·rename_i hw
    split at hr
    ·rename_i hk
     split at hr
     ·rename_i v h' ay
      split at hr
      ·rename_i ko ka h1 h2
       simp only[yB,Prod.exists,abT] at hr
       obtain⟨l',a,b',xM,rfl,rfl,rfl⟩:=hr
       refine fin true v ko ka hb h' l' ⟨hw,?_⟩ xM (by simp[kk,hk])
       rw[hk];exact⟨ay,h1,h2,rfl⟩
      ·cases hr
     ·cases hr
    ·rename_i hk
     split at hr
     ·rename_i v h' ay
      split at hr
      ·rename_i ko ka h1 h2
       simp only[yB,Prod.exists,abT] at hr
       obtain⟨l',a,b',xM,rfl,rfl,rfl⟩:=hr
       refine fin true v ko ka h' h' l' ⟨hw,?_⟩ xM (by simp[kk,hk])
       rw[hk];exact⟨ay,h1,h2,rfl⟩
      ·cases hr
     ·cases hr
    ·rename_i ql jm
     split at hr
     ·rename_i v h' ay
      split at hr
      ·rename_i ko ka h1 h2
       simp only[yB,Prod.exists,abT] at hr
       obtain⟨l',a,b',xM,rfl,rfl,rfl⟩:=hr
       refine fin true v ko ka hb hh l' ⟨hw,?_⟩ xM (by simp[kk])
       cases cU:kd P o
       ·exact⟨⟨h',ay⟩,h1,h2,rfl,rfl⟩
       ·exact⟨⟨h',ay⟩,h1,h2,rfl,rfl⟩
       ·exact absurd cU ql
       ·exact absurd cU jm
      ·cases hr
     ·cases hr
   ·rename_i hw
    split at hr
    ·rename_i ko ka h1 h2
     simp only[yB,Prod.exists,abT] at hr
     obtain⟨l',a,b',xM,rfl,rfl,rfl⟩:=hr
     refine fin false cP ko ka hb hh l' ⟨hw,rfl,h1,h2,rfl,rfl⟩ xM (by simp[kk])
    ·cases hr
   ·cases hr
end Go.Proofs.YtehhgkgeldinkaaGreatDoor.Am
