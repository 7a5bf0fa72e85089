/- Laws that the proof uses. -/
import Derived.Test.YtbdlbhlhnpblpaaGreatDoorAm3
set_option maxHeartbeats 2000000
set_option linter.unusedVariables false
set_option linter.unusedSimpArgs false
namespace Go.Proofs.YtbdlbhlhnpblpaaGreatDoor.Am
section
section
section
section
section
variable {P:Program}{G:Nat}{F:Nat->Prop}{W:World}{e:Em}{H:Hp}{w:World}
theorem Fj {el s n:Nat}{z:List AV}(h:wV P el s n=some z) :
  (n*s=0/\z=[])\/(¬ n*s=0/\z.length=n*s/\∃ inf z0,P.info? el=some inf/\inf.zero=some z0/\z0.cells.size=s/\cj e z ((Array.range (n*s)).map (z0.cells[· % z0.cells.size]!)).toList):=by
 unfold wV at h
 cases hb:Nat.beq (n*s) 0 with
 | true=>
  rw[hb] at h
  cases h
  exact .inl ⟨aaV hb,rfl⟩
 | false=>
  rw[hb] at h
  simp only[cond_false] at h
  have h0:¬ n*s=0:=fun q=>by rw[q] at hb;cases hb
  split at h
  ·rename_i z1 hz
   cases hl:Nat.beq z1.length s with
   | false=>rw[hl] at h;cases h
   | true=>
    rw[hl] at h
    cases h
    have pW:z1.length=s:=aaV hl
    obtain⟨inf,z0,fT,dD,sS⟩:=vC (e:=e) hz
    have cC:z0.cells.size=s:=by have:=sS.1;simp at this;omega
    have hr:cj e (rep n z1) ((Array.range (n*s)).map (z0.cells[· % z0.cells.size]!)).toList:=by
     have:=abq z0.cells n
     rw[cC] at this
     rw[cC,this]
     exact sS.rep n
    refine .inr ⟨h0,?_,inf,z0,fT,dD,cC,hr⟩
    have:=hr.1
    simp at this
    omega
  ·cases h
theorem MC {pl:Nat->Option (Nat × Nat)}:∀ (ps:List (Nat × AV)) (cells out:List AV),rF pl cells ps=some out->out.length=cells.length
 | [],cells,out,h=>by cases h;rfl
 | (i,v)::ps,cells,out,h=>by
  unfold rF at h
  split at h
  ·cases h
  ·split at h
   ·cases h
   ·split at h
    ·rename_i hc
     rw[MC ps _ _ h]
     simp;omega
    ·cases h
theorem afv (h:RH G F W e H w){t len:Nat}{ps:List (Nat × AV)}{lX:Array (Nat × Value)}{v:AV}{H':Hp}(hp:pI e ps lX.toList)(hb:yk P t len ps H=some (v,H')) :
  ∃ v' w' e',(Instr.buildSlice t len lX).run P w = .ok v' w'/\e.le e'/\RH G F W e' H' w'/\VR e' v v':=by
 unfold yk at hb
 split at hb
 ·rename_i el hu
  split at hb
  ·rename_i s hs
   cases hle:Nat.ble (len*s) 65536 with
   | false=>rw[hle] at hb;cases hb
   | true=>
   rw[hle] at hb
   simp only[cond_true] at hb
   rw[acN] at hle
   split at hb
   ·rename_i z hz
    split at hb
    ·rename_i cs dP
     simp only[yS,abI] at hb
     obtain⟨⟨i,H2⟩,hn,rfl,rfl⟩:=hb
     have hlen:=MC ps z cs dP
     have zI:¬ (len*s>2 ^ 24):=by omega
     rcases Fj (P:=P) (e:=e) hz with⟨h0,rfl⟩ | ⟨h0,O6,inf,z0,fT,dD,cC,nI⟩
     ·obtain⟨ja,ho,hr⟩:=Cw (e:=e) (wY:=fun i=>some (i*s,s)) (fun i x hx=>hx) ps lX.toList [] cs #[] hp (.nil e) dP
      obtain⟨e',he,g1,g2,g3,g4,lT⟩:=h.newRow (rest:=[]) (fz:=(0,0)) hn hr (fun _=>rfl) (by simp)
      refine⟨.slice (some ⟨w.heap.size,0,none⟩) len len,_,e',?_,he,lT,VR.zk g2 g1 (by rw[g3];simp) (zf _) (zf _) (fun _=>rfl) ?_⟩
      ·simp only[Instr.buildSlice,Sem.run_bind,bY hu,Result.andThen_ok,fw hs,if_neg zI]
       rw[if_pos h0]
       have kq:Array.range 0 = #[]:=rfl
       simp[h0,kq,ho,newRow]
      ·rw[g4];simp[h0]
     ·obtain⟨ja,ho,hr⟩:=Cw (e:=e) (wY:=fun i=>some (i*s,s)) (fun i x hx=>hx) ps lX.toList z cs _ hp nI dP
      obtain⟨e',he,g1,g2,g3,g4,lT⟩:=h.newRow (rest:=[]) (fz:=(0,0)) hn hr (fun _=>rfl) (by simp)
      refine⟨.slice (some ⟨w.heap.size,0,none⟩) len len,_,e',?_,he,lT,VR.zk g2 g1 (by rw[g3];simp) (zf _) (zf _) (fun _=>rfl) ?_⟩
      ·simp only[Instr.buildSlice,Sem.run_bind,bY hu,Result.andThen_ok,fw hs,if_neg zI]
       rw[if_neg h0]
       simp[oh fT dD,newRow] at ho ⊢
       simp[ho]
      ·rw[g4]
       have:=hr.1
       simp at this ⊢
       omega
    ·cases hb
   ·cases hb
  ·cases hb
 ·cases hb
theorem run_makeSlice {t:Nat}{k1 k2:IntKind}{n m:Int}{H H':Hp}{v:AV}(hb:tE P t (.int k1 n) (.int k2 m) H=some (v,H'))(w:World) :
  ∃ el s z row,P.underlying t=some (.slice el)/\sz P el=some s/\wV P el s m.toNat=some z/\(∀ e:Em,cj e z row)/\n.toNat<=m.toNat/\row.length=m.toNat*s/\
   (Instr.makeSlice t (.int k1 n) (.int k2 m)).run P w = .ok (.slice (some ⟨w.heap.size,0,none⟩) n.toNat m.toNat) { w with heap:=w.heap.push (.cells row.toArray el (0,0)) }:=by
 unfold tE at hb
 split at hb
 ·rename_i el qW n' Xw m' hu q1 q2
  cases q1;cases q2
  split at hb
  ·rename_i s hs
   split at hb
   ·rename_i sh
    obtain⟨h1,h2,h3,h4⟩:=sh
    split at hb
    ·rename_i z hz
     obtain⟨inf,fT⟩:∃ inf,P.info? el=some inf:=by
      unfold sz at hs
      cases hq:P.info? el with
      | none=>simp[hq] at hs
      | some inf=>exact⟨inf,rfl⟩
     have NS:inf.bytes<=4096:=by unfold Program.bytesOf at h4;rw[fT] at h4;simpa using h4
     have w1:IntKind.i64.wrap n=n:=IntWalk.i64_in _ (by omega)
     have w2:IntKind.i64.wrap m=m:=IntWalk.i64_in _ (by omega)
     have kD:¬ ((inf.bytes:Int)*m>2 ^ 48):=by
      have:(inf.bytes:Int)*m<=4096*1048576:=Int.mul_le_mul (by omega) (by omega) (by omega) (by omega)
      omega
     have c1:(decide (m<0)||decide ((inf.bytes:Int)*m>2 ^ 48))=false:=by simp;omega
     have zU:¬ (((decide (m<0)||decide ((inf.bytes:Int)*m>2 ^ 48))||decide (n<0)||decide (n>m))=true):=by
      rw[c1];simp;omega
     rcases Fj (P:=P) (e:=⟨id,fun _=>0,id,0⟩) hz with⟨h0,rfl⟩ | ⟨h0,O6,Xv,z0,Af,dD,cC,nI⟩
     ·refine⟨el,s,[],[],hu,hs,hz,fun e => .nil e,by omega,by simp[h0],?_⟩
      simp only[Instr.makeSlice,Sem.run_bind,bY hu,Result.andThen_ok,asInt,asIntOf,Sem.run_pure,mV fT,w1,w2,if_neg zU,run_askRoom,fw hs]
      rw[if_pos h0]
      have kq:Array.range 0 = #[]:=rfl
      simp[h0,kq,newRow]
     ·refine⟨el,s,z,((Array.range (m.toNat*s)).map (z0.cells[· % z0.cells.size]!)).toList,hu,hs,hz,fun e => ?_,by omega,?_,?_⟩
      rotate_left 2
      ·simp only[Instr.makeSlice,Sem.run_bind,bY hu,Result.andThen_ok,asInt,asIntOf,Sem.run_pure,mV fT,w1,w2,if_neg zU,run_askRoom,fw hs]
       rw[if_neg h0]
       simp[oh Af dD,newRow]
       congr 2
       apply acB.1
       simp
      ·rcases Fj (P:=P) (e:=e) hz with⟨q,_⟩ | ⟨_,_,anr,z3,aan,WH,_,ab7⟩
       ·exact absurd q h0
       ·rw[Af] at aan;cases aan
        rw[dD] at WH;cases WH
        exact ab7
      ·simp
    ·cases hb
   ·cases hb
  ·cases hb
 ·cases hb
theorem ajd (h:RH G F W e H w){t:Nat}{l c v:AV}{l' c':Value}{H':Hp}(hl:VR e l l')(hc:VR e c c')(hb:tE P t l c H=some (v,H')) :
  ∃ v' w' e',(Instr.makeSlice t l' c').run P w = .ok v' w'/\e.le e'/\RH G F W e' H' w'/\VR e' v v':=by
 unfold tE at hb
 split at hb
 ·rename_i el k1 n k2 m hu
  cases hl.fh;cases hc.fh
  split at hb
  ·rename_i s hs
   split at hb
   ·rename_i sh
    obtain⟨h1,h2,h3,h4⟩:=sh
    split at hb
    ·rename_i z hz
     simp only[yS,abI] at hb
     obtain⟨⟨i,H2⟩,hn,rfl,rfl⟩:=hb
     obtain⟨inf,fT⟩:∃ inf,P.info? el=some inf:=by
      unfold sz at hs
      cases hq:P.info? el with
      | none=>simp[hq] at hs
      | some inf=>exact⟨inf,rfl⟩
     have NS:inf.bytes<=4096:=by unfold Program.bytesOf at h4;rw[fT] at h4;simpa using h4
     have w1:IntKind.i64.wrap n=n:=IntWalk.i64_in _ (by omega)
     have w2:IntKind.i64.wrap m=m:=IntWalk.i64_in _ (by omega)
     have kD:¬ ((inf.bytes:Int)*m>2 ^ 48):=by
      have:(inf.bytes:Int)*m<=4096*1048576:=Int.mul_le_mul (by omega) (by omega) (by omega) (by omega)
      omega
     have c1:(decide (m<0)||decide ((inf.bytes:Int)*m>2 ^ 48))=false:=by simp;omega
     have zI:¬ ((decide (m<0)||decide ((inf.bytes:Int)*m>2 ^ 48))=true\/n<0\/n>m):=by
      rw[c1];simp;omega
     have zU:¬ (((decide (m<0)||decide ((inf.bytes:Int)*m>2 ^ 48))||decide (n<0)||decide (n>m))=true):=by
      rw[c1];simp;omega
     rcases Fj (P:=P) (e:=e) hz with⟨h0,rfl⟩ | ⟨h0,O6,Xv,z0,Af,dD,cC,nI⟩
     ·obtain⟨e',he,g1,g2,g3,g4,lT⟩:=h.newRow (rest:=[]) (fz:=(0,0)) hn (.nil e) (fun _=>rfl) (by simp)
      refine⟨.slice (some ⟨w.heap.size,0,none⟩) n.toNat m.toNat,_,e',?_,he,lT,VR.zk g2 g1 (by rw[g3];simp) (by omega) (zf _) (fun _=>rfl) (by rw[g4];simp[h0])⟩
      simp only[Instr.makeSlice,Sem.run_bind,bY hu,Result.andThen_ok,asInt,asIntOf,Sem.run_pure,mV fT,w1,w2,if_neg zU,run_askRoom,fw hs]
      rw[if_pos h0]
      have kq:Array.range 0 = #[]:=rfl
      simp[h0,kq,newRow]
     ·obtain⟨e',he,g1,g2,g3,g4,lT⟩:=h.newRow (rest:=[]) (fz:=(0,0)) hn nI (fun _=>rfl) (by simp)
      refine⟨.slice (some ⟨w.heap.size,0,none⟩) n.toNat m.toNat,_,e',?_,he,lT,VR.zk g2 g1 (by rw[g3];simp) (by omega) (zf _) (fun _=>rfl) (by rw[g4];simp)⟩
      simp only[Instr.makeSlice,Sem.run_bind,bY hu,Result.andThen_ok,asInt,asIntOf,Sem.run_pure,mV fT,w1,w2,if_neg zU,run_askRoom,fw hs]
      rw[if_neg h0]
      simp[oh Af dD,newRow]
      congr 2
      apply acB.1
      simp
    ·cases hb
   ·cases hb
  ·cases hb
 ·cases hb
theorem RH.new (h:RH G F W e H w){o:AO}{i:Nat}{H':Hp}(ha:Am.alloc H o=some (i,H')){ob:Obj}(da:∀ e',e.le e'->e'.d i=0->OR e' i o ob) :
  ∃ e',e.le e'/\i<e'.N/\e'.b i=w.heap.size/\e'.d i=0/\RH G F W e' H' { w with heap:=w.heap.push ob }:=by
 have tv:i=e.N:=(oV ha).1.trans h.N.symm
 obtain⟨hi,hr⟩:=h.alloc (d:=0) (n:=0) ha (da _ (Em.kK ..) (by rw[tv];exact Em.ik ..))
 subst hi
 exact⟨_,Em.kK ..,by simp[Em.ext],Em.ig ..,Em.ik ..,hr⟩
theorem VR.aaS {e:Em}{b i:Nat}(hb:e.b i=b)(hi:i<e.N)(hd:e.d i=0):VR e (.ptr i 0) (.pointer (some ⟨b,0,none⟩)):=by
 subst hb;exact .ptr i 0 0 hi (by rw[hd];simp)
theorem VR.yx {e:Em}{b i:Nat}(hb:e.b i=b)(hi:i<e.N):VR e (.map i) (.map (some b)):=by subst hb;exact .map i hi
theorem acE (h:RH G F W e H w){t:Nat}{i:Nat}{H':Hp}(ha:Am.alloc H (.map [] 0)=some (i,H')) :
  ∃ v' w' e',(Instr.makeMap t none).run P w = .ok v' w'/\e.le e'/\RH G F W e' H' w'/\VR e' (.map i) v':=by
 obtain⟨e',he,g1,g2,g3,hr⟩:=h.new (ob := .map #[] 0) ha (fun e' _ _ => .map _ _ _ _ [] (List.Perm.refl _) ⟨rfl,by simp⟩ (by simp) (by simp))
 exact⟨.map (some w.heap.size),_,e',by simp[Instr.makeMap],he,hr,.yx g2 g1⟩
theorem ajG (h:RH G F W e H w){t:Nat}{x v:AV}{x':Value}{H':Hp}(hx:VR e x x')(hb:Li P t x H=some (v,H')) :
  ∃ v' w' e',(Instr.range t x').run P w = .ok v' w'/\e.le e'/\RH G F W e' H' w'/\VR e' v v':=by
 unfold Li at hb
 split at hb
 ·rename_i s hu
  obtain⟨b,rfl,rfl⟩:=hx.iS
  simp only[yS,abI] at hb
  obtain⟨⟨i,H2⟩,hn,rfl,rfl⟩:=hb
  obtain⟨e',he,g1,g2,g3,hr⟩:=h.new (ob := .stringIter b 0) hn (fun e' _ hd => .tV _ _ _ rfl hd)
  exact⟨.pointer (some ⟨w.heap.size,0,none⟩),_,e',by simp[Instr.range,bY hu],he,hr,.aaS g2 g1 g3⟩
 ·cases hb
theorem akd {s:ByteArray}{pos b:Nat}{r:List Nat}(h:(bytes s).drop pos=b::r)(hb:b<128):pos<s.size/\Utf8.decode s pos=(b,1):=by
 have hlen:((bytes s).drop pos).length=s.size-pos:=by rw[adi,uv]
 rw[h] at hlen
 simp at hlen
 have bW:pos<s.size:=by omega
 refine⟨bW,?_⟩
 have h0:(bytes s)[pos]? = some b:=by
  have:=acL (xs:=bytes s) (i:=pos) (j:=0)
  rw[h] at this
  simpa using this.symm
 simp only[bytes,acD,yS] at h0
 obtain⟨u,hu,rfl⟩:=h0
 have dM:s.get! pos=u:=by
  cases s with
  | mk d=>
   have hd:pos<d.size:=bW
   have:=(aaL.1 hu).2
   simp only[ByteArray.get!]
   rw[getElem!_pos d pos hd,<-this]
   simp
 unfold Utf8.decode
 simp only[acJ,dM]
 rw[if_pos hb]
theorem agA {b:Nat}{o ob:Obj}(hb:w.heap[b]? = some ob)(hn:∀ c el fz,ob ≠ .cells c el fz):(Go.setObj b o).run P w = .ok () { w with heap:=w.heap.setIfInBounds b o }:=by
 cases ob<;>first | (exact absurd rfl (hn _ _ _)) | (simp[Go.setObj,Sem.run,hb])
theorem adW {b:Nat}{ob:Obj}(hb:w.heap[b]? = some ob)(hn:∀ c el fz,ob ≠ .cells c el fz):(Go.getObj b).run P w = .ok ob w:=by
 cases ob<;>first | (exact absurd rfl (hn _ _ _)) | (simp[Go.getObj,Sem.run,hb])
theorem RH.ag9 (h:RH G F W e H w){i:Nat}{o o2:AO}(hg:H.h.get i=some o)(hw:wr o=true){ob kW:Obj}(hb:w.heap[e.b i]? = some ob)(da:OR e i o2 kW) :
  RH G F W e (Am.setObj H i o2) { w with heap:=w.heap.setIfInBounds (e.b i) kW }:=by
 have bW:=(abH.1 hb).1
 refine h.put hg hw (nB:=kW) (by simp) (by simp[bW]) (fun k hk => ?_) da rfl rfl rfl
 simp only
 rw[aez (fun q=>hk q.symm)]
theorem VR.akc {a b c:AV}{a' b' c':Value}(ha:VR e a a')(hb:VR e b b')(hc:VR e c c'):VR e (.tuple [a,b,c]) (.tuple #[a',b',c']):=
 .tuple' (.cons ha (.cons hb (.cons hc (.nil e))))
theorem afL (h:RH G F W e H w){t:Nat}{it v:AV}{GF:Value}{px:Bool}{H':Hp}(hx:VR e it GF)(hb:Ko it px H=some (v,H')) :
  ∃ v' w',(Instr.next GF px t).run P w = .ok v' w'/\RH G F W e H' w'/\VR e v v':=by
 unfold Ko at hb
 split at hb
 ·rename_i i
  obtain⟨o,hi,ho,rfl⟩:=hx.jX
  split at hb
  ·rename_i s pos hg
   obtain⟨_,ob,db,da,hF⟩:=h.obj i _ hg
   cases da with
   | tV _ _ s' hs hd=>
   have TA:o=0:=by omega
   subst TA
   have dM:(Go.getObj (e.b i)).run P w = .ok (.stringIter s' pos) w:=adW db (by simp)
   split at hb
   ·rename_i uu
    cases hb
    have hlen:=congrArg List.length uu
    rw[adi,<-hs,uv] at hlen
    have dR:¬ pos<s'.size:=by simp at hlen;omega
    exact⟨_,w,by simp[Instr.next,dM,dR],h,.tuple' (.cons (.bool false) (.nil e))⟩
   ·rename_i b r uu
    cases bW:Nat.blt b 128 with
    | false=>rw[bW] at hb;cases hb
    | true=>
     rw[bW] at hb
     cases hb
     rw[acY] at bW
     rw[<-hs] at uu
     obtain⟨Bw,aey⟩:=akd uu bW
     refine⟨_,{ w with heap:=w.heap.setIfInBounds (e.b i) (.stringIter s' (pos+1)) },?_,h.ag9 hg rfl db (.tV _ _ _ hs hd),VR.akc (.bool true) (.int _ _) (.int _ _)⟩
     have je:(Go.setObj (e.b i) (.stringIter s' (pos+1))).run P w = .ok () { w with heap:=w.heap.setIfInBounds (e.b i) (.stringIter s' (pos+1)) }:=agA db (by simp)
     simp only[Instr.next,Sem.run_bind,dM,Result.andThen_ok,Bw,if_true,aey,je]
     rfl
  ·cases hb
 ·cases hb
theorem amX (h:RH G F W e H w){it v:AV}{GF:Value}(hx:VR e it GF)(hb:Ky it H=some v) :
  ∃ v',(Instr.entry GF).run P w = .ok v' w/\VR e v v':=by
 unfold Ky at hb
 cases hb
theorem am6 {rW t:TypeId}{x v:AV}{x':Value}{ok:Bool}(hx:VR e x x')(hb:E3 P rW x ok=some v)(w:World) :
  ∃ v',(Instr.typeAssert x' t rW ok).run P w = .ok v' w/\VR e v v':=by
 unfold E3 at hb
 split at hb
 ·cases hb
 ·rename_i d t2 u cx hu
  cases hx with
  | iface _ _ u' hr=>
  split at hb
  ·rename_i ht
   subst ht
   have hd:∀ ms,d ≠ .interface ms:=fun ms q=>cx ms q
   cases ok with
   | true=>
    cases hb
    refine⟨.tuple #[u',.bool true],?_,hr.pair (.bool true)⟩
    cases d<;>first | (exact absurd rfl (hd _)) | simp[Instr.typeAssert,bY hu]
   | false=>
    cases hb
    refine⟨u',?_,hr⟩
    cases d<;>first | (exact absurd rfl (hd _)) | simp[Instr.typeAssert,bY hu]
  ·cases hb
 ·cases hb
end
end
section
variable {P:Program}{G:Nat}{F:Nat->Prop}{W:World}{e:Em}{H:Hp}{w:World}
theorem akQ {t:TypeId}{ps:List (Nat × AV)}{lX:Array (Nat × Value)}{v:AV}(hp:pI e ps lX.toList)(hb:DI P t ps=some v)(w:World) :
  ∃ v',(Instr.build t lX).run P w = .ok v' w/\VR e v v':=by
 unfold DI at hb
 split at hb
 ·rename_i z fs hz hu
  split at hb
  ·rename_i pl hZ
   simp only[yS] at hb
   obtain⟨out,hf,rfl⟩:=hb
   exact al1 hz hu hZ hp hf w
  ·cases hb
 ·rename_i z n el hz hu
  split at hb
  ·rename_i s hs
   simp only[yS] at hb
   obtain⟨out,hf,rfl⟩:=hb
   exact agX hz hu hs hp hf w
  ·cases hb
 ·cases hb
theorem cj.Au {ρ:Operand->AV}{σ:Operand->Value}(h:∀ x,VR e (ρ x) (σ x))(l:Array Operand):cj e (l.toList.map ρ) (l.map σ).toList:=by
 rw[Array.toList_map];exact cj.map h _
theorem agd (h:RH G F W e H w){b:Builtin}{cM:Array TypeId}{ty:TypeId}{cs:Array Bool}{args:List AV}{BC:Array Value}{v:AV}{H':Hp}(ha:cj e args BC.toList)(hb:fx P b cM args H=some (v,H')) :
  dG P G F W e v H' ((builtin b cM ty cs BC).run P w):=by
 have two:∀ {s x:AV},cj e [s,x] BC.toList->∃ s' x',BC = #[s',x']/\VR e s s'/\VR e x x':=by
  intro s x h2
  obtain⟨s',r,h1,hs,hr⟩:=h2.cons_inv
  obtain⟨x',r',rfl,hx,dg⟩:=hr.cons_inv
  rw[dg.gg] at h1
  exact⟨s',x',acB.1 h1,hs,hx⟩
 have one:∀ {s:AV},cj e [s] BC.toList->∃ s',BC = #[s']/\VR e s s':=by
  intro s h2
  obtain⟨s',r,h1,hs,hr⟩:=h2.cons_inv
  rw[hr.gg] at h1
  exact⟨s',acB.1 h1,hs⟩
 unfold fx at hb
 split at hb
 ·obtain⟨s',x',rfl,hs,hx⟩:=two ha
  obtain⟨v',w',e',h1,h2,h3,h4⟩:=amW (P:=P) (ty:=ty) h hs hx hb
  exact dG.val h1 h2 h3 h4
 ·obtain⟨s',x',rfl,hs,hx⟩:=two ha
  obtain⟨v',w',h1,h3,h4⟩:=aeJ (P:=P) (ty:=ty) h hs hx hb
  exact dG.val h1 e.le_refl h3 h4
 ·obtain⟨s',x',rfl,hs,hx⟩:=two ha
  simp only[yS,abI] at hb
  obtain⟨H2,hd,rfl,rfl⟩:=hb
  obtain⟨w',h1,h3⟩:=alH (P:=P) (ty:=ty) h hs hx hd
  exact dG.val h1 e.le_refl h3 .undef
 ·obtain⟨s',rfl,hs⟩:=one ha
  simp only[yS,abI] at hb
  obtain⟨H2,hd,rfl,rfl⟩:=hb
  obtain⟨w',h1,h3⟩:=abF (P:=P) (ty:=ty) h hs hd
  exact dG.val h1 e.le_refl h3 .undef
 ·obtain⟨s',rfl,hs⟩:=one ha
  simp only[yS,abI] at hb
  obtain⟨v2,hd,rfl,rfl⟩:=hb
  obtain⟨v',h1,h3⟩:=akH (P:=P) (ty:=ty) h hs hd
  exact dG.pure h h1 h3
 ·obtain⟨s',rfl,hs⟩:=one ha
  simp only[yS,abI] at hb
  obtain⟨v2,hd,rfl,rfl⟩:=hb
  obtain⟨v',h1,h3⟩:=amh (P:=P) (ty:=ty) hs hd w
  exact dG.pure h h1 h3
 ·rename_i x r
  simp only[yS,abI] at hb
  obtain⟨v2,hd,rfl,rfl⟩:=hb
  obtain⟨x',r',jy,hx,hr⟩:=ha.cons_inv
  obtain⟨v',h1,h3⟩:=UF (P:=P) (w:=w) hx hr hd
  refine dG.pure h (v':=v') ?_ h3
  unfold Builtin.min_
  rw[jy]
  exact h1
 ·rename_i x r
  simp only[yS,abI] at hb
  obtain⟨v2,hd,rfl,rfl⟩:=hb
  obtain⟨x',r',jy,hx,hr⟩:=ha.cons_inv
  obtain⟨v',h1,h3⟩:=US (P:=P) (w:=w) hx hr hd
  refine dG.pure h (v':=v') ?_ h3
  unfold Builtin.max_
  rw[jy]
  exact h1
 ·obtain⟨s',rfl,hs⟩:=one ha
  cases hs;cases hb
  exact dG.pure h (Go.Lib.run_unsafeSliceData_nil (P:=P) w cM ty 0 0) .cD
 ·rename_i i off l c a1 a2
  obtain⟨s',rfl,hs⟩:=one ha
  cases hl:Nat.blt 0 l with
  | false=>rw[hl] at hb;cases hb
  | true=>
   rw[hl] at hb
   cases hb
   rw[acY] at hl
   rcases hs.jJ with⟨o,cc,hi,ho,kL,hc,hO,hn,rfl⟩ | ⟨rfl,_,a,rfl⟩
   ·exact dG.pure h (Go.Lib.run_unsafeSliceData_row (P:=P) w cM ty ⟨e.b i,o,none⟩ l cc (by omega)) (.ptr _ _ _ hi ho)
   ·omega
 ·rename_i p k n
  obtain⟨p',k',rfl,hp,hk⟩:=two ha
  cases hk.fh
  obtain⟨v',w',h1,h3,h4⟩:=ahY (P:=P) (ty:=ty) h hp hb
  exact dG.val h1 e.le_refl h3 h4
 ·cases hb
theorem alS {x v:AV}{x':Value}(hx:VR e x x')(hb:cg x=some v) :
  v=x/\((∃ a,x' = .pointer (some a))\/(∃ f a b,x' = .func (.func f) a b)\/∃ t u,x' = .iface t u):=by
 unfold cg at hb
 split at hb
 ·cases hb
  obtain⟨o,_,_,rfl⟩:=hx.jX
  exact⟨rfl,.inl ⟨_,rfl⟩⟩
 ·cases hb;cases hx;exact⟨rfl,.inr (.inl ⟨_,_,_,rfl⟩)⟩
 ·cases hb;cases hx;exact⟨rfl,.inr (.inr ⟨_,_,rfl⟩)⟩
 ·cases hb
end
theorem sW.map {e:Em}{ρ:Operand->AV}{σ:Operand->Value}(h:∀ x,VR e (ρ x) (σ x)):∀ o:Option Operand,sW e (o.map ρ) (o.map σ)
 | none=>trivial
 | some x=>h x
theorem pI.Au {e:Em}{ρ:Operand->AV}{σ:Operand->Value}(h:∀ x,VR e (ρ x) (σ x))(l:Array (Nat × Operand)) :
  pI e (l.toList.map fun (i,x)=>(i,ρ x)) (l.map fun (i,x)=>(i,σ x)).toList:=by
 rw[Array.toList_map];exact pI.map h _
theorem aiM {P:Program}{G:Nat}{F:Nat->Prop}{W:World}{e:Em}{H:Hp}{w:World}(h:RH G F W e H w){ρ:Operand->AV}{σ:Operand->Value}(hρ:∀ x,VR e (ρ x) (σ x)){o:Oper}{v:AV}{H':Hp}(ha:fH P ρ o H=some (v,H')) :
  dG P G F W e v H' ((execOp σ o).run P w):=by
 unfold fH at ha
 unfold execOp
 split at ha
 ·rename_i x ck
  cases ha
  rw[ck]
  exact⟨.value (σ x),w,e,σ x,rfl,.inl rfl,e.le_refl,h,hρ x⟩
 ·rename_i x ck
  cases ha
  rw[ck]
  exact⟨.value (σ x),w,e,σ x,rfl,.inl rfl,e.le_refl,h,hρ x⟩
 ·rename_i c a b ck
  rw[ck]
  split at ha
  ·rename_i t ht
   cases ha
   have hc:=hρ c
   rw[ht] at hc
   have tW:=hc.sH
   cases t with
   | true=>exact⟨.value (σ a),w,e,σ a,by simp[tW,asBool],.inl rfl,e.le_refl,h,hρ a⟩
   | false=>exact⟨.value (σ b),w,e,σ b,by simp[tW,asBool],.inl rfl,e.le_refl,h,hρ b⟩
  ·cases ha
 ·rename_i t ck
  rw[ck]
  split at ha
  ·rename_i l hl
   simp only[yS,abI] at ha
   obtain⟨⟨i,H2⟩,hn,rfl,rfl⟩:=ha
   obtain⟨v',w',e',h1,h2,h3,h4⟩:=abV (P:=P) h hl hn
   exact dG.val h1 h2 h3 h4
  ·cases ha
 ·rename_i t x ck
  rw[ck]
  split at ha
  ·rename_i l hl
   simp only[yS,abI] at ha
   obtain⟨⟨i,H2⟩,hn,rfl,rfl⟩:=ha
   obtain⟨v',w',e',h1,h2,h3,h4⟩:=adw (P:=P) h (hρ x) hl hn
   exact dG.val h1 h2 h3 h4
  ·cases ha
 ·rename_i t parts ck
  rw[ck]
  simp only[yS,abI] at ha
  obtain⟨v2,hb,rfl,rfl⟩:=ha
  obtain⟨v',h1,h2⟩:=akQ (pI.Au hρ parts) hb w
  exact dG.pure h h1 h2
 ·rename_i t len parts ck
  rw[ck]
  obtain⟨v',w',e',h1,h2,h3,h4⟩:=afv (P:=P) h (pI.Au hρ parts) ha
  exact dG.val h1 h2 h3 h4
 ·rename_i t m k x ck
  rw[ck]
  simp only[yS,abI] at ha
  obtain⟨H2,hb,rfl,rfl⟩:=ha
  obtain⟨w',h1,h3⟩:=XN (P:=P) h (hρ m) (hρ k) (hρ x) hb
  exact dG.unit h1 e.le_refl h3
 ·rename_i t m k x ck
  rw[ck]
  simp only[yS,abI] at ha
  obtain⟨H2,hb,rfl,rfl⟩:=ha
  obtain⟨w',h1,h3⟩:=XN (P:=P) h (hρ m) (hρ k) (hρ x) hb
  exact dG.unit h1 e.le_refl h3
 ·rename_i t a ck
  rw[ck]
  simp only[yS,abI] at ha
  obtain⟨v2,hb,rfl,rfl⟩:=ha
  obtain⟨v',h1,h2⟩:=UZ h (hρ a) hb
  exact dG.pure h h1 h2
 ·rename_i t a x ck
  rw[ck]
  simp only[yS,abI] at ha
  obtain⟨H2,hb,rfl,rfl⟩:=ha
  obtain⟨w',h1,h3⟩:=ac5 (P:=P) h (hρ a) (hρ x) hb
  exact dG.unit h1 e.le_refl h3
 ·rename_i x ck
  rw[ck]
  simp only[yS,abI] at ha
  obtain⟨v2,hb,rfl,rfl⟩:=ha
  obtain⟨rfl,h1⟩:=alS (hρ x) hb
  refine⟨.value (σ x),w,e,σ x,?_,.inl rfl,e.le_refl,h,hρ x⟩
  rcases h1 with⟨a,q⟩ | ⟨f,a,b,q⟩ | ⟨t,u,q⟩<;>(simp only[q];rfl)
 ·rename_i op t x y ty ck
  rw[ck]
  cases hg:qg P op t x y (ρ x) (ρ y) with
  | false=>rw[hg] at ha;cases ha
  | true=>
   rw[hg] at ha
   simp only[cond_true,yS,abI] at ha
   obtain⟨v2,hb,rfl,rfl⟩:=ha
   obtain⟨v',h1,h2⟩:=ajZ h (hρ x) (hρ y) hb
   have h0:=amr (w:=w) (hρ x) (hρ y) hg hb
   refine dG.pure h (v':=v') ?_ h2
   rw[Sem.run_bind,h0]
   exact h1
 ·rename_i op t x ck
  rw[ck]
  simp only[yS,abI] at ha
  obtain⟨v2,hb,rfl,rfl⟩:=ha
  obtain⟨v',h1,h2⟩:=aeZ (P:=P) (hρ x) hb w
  exact dG.pure h h1 h2
 ·rename_i a b x ck
  rw[ck]
  obtain⟨v',w',e',h1,h2,h3,h4⟩:=aja (P:=P) h (hρ x) ha
  exact dG.val h1 h2 h3 h4
 ·rename_i t x ck
  rw[ck]
  simp only[yS,abI] at ha
  obtain⟨v2,hb,rfl,rfl⟩:=ha
  unfold Jg at hb
  split at hb
  ·cases hb
  ·rename_i d cx hu
   cases hb
   have hd:∀ ms,d ≠ .interface ms:=fun ms q=>cx ms q
   refine dG.pure h (v' := .iface t (σ x)) ?_ (.iface _ _ _ (hρ x))
   cases d<;>first | (exact absurd rfl (hd _)) | simp[Instr.makeInterface,bY hu]
  ·cases hb
 ·rename_i fn a b ck
  rw[ck]
  simp only[yS,abI] at ha
  obtain⟨v2,hb,rfl,rfl⟩:=ha
  have h1:=cj.Au hρ a
  have h2:=cj.Au hρ b
  unfold JM at hb
  split at hb
  ·cases hb
  ·rename_i cx
   cases hb
   exact dG.pure h (v' := .func fn (a.map σ) (b.map σ)) (by simp[Instr.makeFunc]) (.func fn cx _ _ _ _ h1.1 h2.1 h1.2 h2.2)
 ·rename_i t ck
  rw[ck]
  simp only[yS,abI] at ha
  obtain⟨⟨i,H2⟩,hn,rfl,rfl⟩:=ha
  obtain⟨v',w',e',h1,h2,h3,h4⟩:=acE (P:=P) (t:=t) h hn
  exact dG.val h1 h2 h3 h4
 ·rename_i t l c ck
  rw[ck]
  obtain⟨v',w',e',h1,h2,h3,h4⟩:=ajd (P:=P) h (hρ l) (hρ c) ha
  exact dG.val h1 h2 h3 h4
 ·rename_i t x lo hi mx ck
  rw[ck]
  simp only[yS,abI] at ha
  obtain⟨v2,hb,rfl,rfl⟩:=ha
  obtain⟨v',h1,h2⟩:=af4 h (hρ x) (sW.map hρ lo) (sW.map hρ hi) (sW.map hρ mx) hb
  exact dG.pure h h1 h2
 ·rename_i t x f ck
  rw[ck]
  simp only[yS,abI] at ha
  obtain⟨v2,hb,rfl,rfl⟩:=ha
  unfold Im at hb
  split at hb
  ·rename_i fs i off hu hx
   split at hb
   ·rename_i fd GI
    cases hp:yl P fd.type with
    | false=>rw[hp] at hb;cases hb
    | true=>
     rw[hp] at hb
     cases hb
     obtain⟨n,hn⟩:∃ n,sz P fd.type=some (n+1):=by
      unfold yl at hp
      split at hp
      ·rename_i n hn;exact⟨n,hn⟩
      ·cases hp
     have qM:=hρ x
     rw[hx] at qM
     obtain⟨v',h1,h2⟩:=acM qM hu GI hn (by omega) w
     exact dG.pure h h1 h2
   ·cases hb
  ·cases hb
 ·rename_i t x f ck
  rw[ck]
  simp only[yS,abI] at ha
  obtain⟨v2,hb,rfl,rfl⟩:=ha
  unfold Ex at hb
  split at hb
  ·rename_i fs cs hu hx
   split at hb
   ·rename_i fd GI
    obtain⟨v',h1,h2⟩:=afO (hρ x) hu GI hx hb w
    exact dG.pure h h1 h2
   ·cases hb
  ·cases hb
 ·rename_i t x ix ck
  rw[ck]
  simp only[yS,abI] at ha
  obtain⟨v2,hb,rfl,rfl⟩:=ha
  obtain⟨v',h1,h2⟩:=agI (hρ x) (hρ ix) hb w
  exact dG.pure h h1 h2
 ·rename_i t x ix ck
  rw[ck]
  simp only[yS,abI] at ha
  obtain⟨v2,hb,rfl,rfl⟩:=ha
  obtain⟨v',h1,h2⟩:=abL (hρ x) (hρ ix) hb w
  exact dG.pure h h1 h2
 ·rename_i t x k ok ck
  rw[ck]
  simp only[yS,abI] at ha
  obtain⟨v2,hb,rfl,rfl⟩:=ha
  obtain⟨v',h1,h2⟩:=ake h (hρ x) (hρ k) hb
  exact dG.pure h h1 h2
 ·rename_i t x ck
  rw[ck]
  obtain⟨v',w',e',h1,h2,h3,h4⟩:=ajG (P:=P) h (hρ x) ha
  exact dG.val h1 h2 h3 h4
 ·rename_i it px ck
  rw[ck]
  obtain⟨v',w',h1,h3,h4⟩:=afL (P:=P) (t:=o.type) h (hρ it) ha
  exact dG.val h1 e.le_refl h3 h4
 ·rename_i it ck
  rw[ck]
  simp only[yS,abI] at ha
  obtain⟨v2,hb,rfl,rfl⟩:=ha
  obtain⟨v',h1,h2⟩:=amX (P:=P) h (hρ it) hb
  exact dG.pure h h1 h2
 ·rename_i t ix ck
  rw[ck]
  split at ha
  ·rename_i l hl
   simp only[yS,abI] at ha
   obtain⟨v2,hb,rfl,rfl⟩:=ha
   have ht:=hρ t
   rw[hl] at ht
   obtain⟨vs,mF,hr⟩:=ht.YW
   obtain⟨v',cH,dT⟩:=hr.get hb
   rw[acF] at cH
   exact dG.pure h (v':=v') (by rw[mF];simp[Instr.extract,cH]) dT
  ·cases ha
 ·rename_i x t rW ok ck
  rw[ck]
  simp only[yS,abI] at ha
  obtain⟨v2,hb,rfl,rfl⟩:=ha
  obtain⟨v',h1,h2⟩:=am6 (P:=P) (t:=t) (hρ x) hb w
  exact dG.pure h h1 h2
 ·rename_i c ck
  rw[ck]
  split at ha
  ·rename_i b hc
   have jy:=cj.Au hρ c.args
   have nU:(do let d <-resolve σ c o.type;invoke d.target d.args:Sem Next)=builtin b c.argTypes o.type (c.args.map fun | .const _=>true | _=>false) (c.args.map σ):=by
    unfold resolve
    rw[hc]
    rfl
   show dG P G F W e v H' ((do let d <-resolve σ c o.type;invoke d.target d.args:Sem Next).run P w)
   rw[nU]
   exact agd h jy ha
  ·cases ha
 ·cases ha
end
variable {P:Program}
theorem S1 {ρ ρ':Operand->AV}{l:List Operand}(h:∀ x∈l,ρ x=ρ' x):l.map ρ=l.map ρ':=afu h
theorem aaR {ρ ρ':Operand->AV}{l:List (Nat × Operand)}(h:∀ x∈l.map (·.2),ρ x=ρ' x):(l.map fun (i,x)=>(i,ρ x))=l.map fun (i,x)=>(i,ρ' x):=by
 apply afu
 intro a ha
 obtain⟨i,x⟩:=a
 simp only
 rw[h x (abn.2 ⟨(i,x),ha,rfl⟩)]
theorem XV {ρ ρ':Operand->AV}(o:Oper)(H:Hp)(h:∀ x∈o.op.operands.toList,ρ x=ρ' x):fH P ρ o H=fH P ρ' o H:=by
 unfold fH
 cases ck:o.op<;>rw[ck] at h<;>simp only[Op.operands] at h ⊢
 case move x=>rw[h x (by simp)]
 case assign x=>rw[h x (by simp)]
 case pick c a b=>rw[h c (by simp),h a (by simp),h b (by simp)]
 case box t x=>rw[h x (by simp)]
 case build t ps=>rw[aaR (by simpa using h)]
 case buildSlice t l ps=>rw[aaR (by simpa using h)]
 case insert t m k v=>rw[h m (by simp),h k (by simp),h v (by simp)]
 case mapUpdate t m k v=>rw[h m (by simp),h k (by simp),h v (by simp)]
 case load t a=>rw[h a (by simp)]
 case store t a v=>rw[h a (by simp),h v (by simp)]
 case nilCheck x=>rw[h x (by simp)]
 case binOp op t x y ty=>rw[h x (by simp),h y (by simp)]
 case unOp op t x=>rw[h x (by simp)]
 case convert a b x=>rw[h x (by simp)]
 case makeInterface t x=>rw[h x (by simp)]
 case makeFunc fn a b=>
  rw[S1 (l:=a.toList) (fun x hx=>h x (by simp at hx ⊢;exact .inl hx)),S1 (l:=b.toList) (fun x hx=>h x (by simp at hx ⊢;exact .inr hx))]
 case makeMap t r=>cases r<;>rfl
 case makeSlice t l c=>rw[h l (by simp),h c (by simp)]
 case slice t x lo hi mx=>
  have q:∀ y:Option Operand,(∀ z∈y.toList,ρ z=ρ' z)->y.map ρ=y.map ρ':=by
   intro y hy;cases y with
   | none=>rfl
   | some z=>simp only[ahH];rw[hy z (by simp)]
  rw[h x (by simp),q lo (fun z hz=>h z (by simp at hz ⊢;simp[hz])),q hi (fun z hz=>h z (by simp at hz ⊢;simp[hz])),q mx (fun z hz=>h z (by simp at hz ⊢;simp[hz]))]
 case fieldAddr t x f=>rw[h x (by simp)]
 case field t x f=>rw[h x (by simp)]
 case indexAddr t x ix=>rw[h x (by simp),h ix (by simp)]
 case index t x ix=>rw[h x (by simp),h ix (by simp)]
 case lookup t x k ok=>rw[h x (by simp),h k (by simp)]
 case range t x=>rw[h x (by simp)]
 case next it s=>rw[h it (by simp)]
 case entry it=>rw[h it (by simp)]
 case typeAssert x t rW ok=>rw[h x (by simp)]
 case extract t ix=>rw[h t (by simp)]
 case call c=>
  cases hc:c.callee with
  | builtin b=>
   simp only
   rw[S1 (l:=c.args.toList) (fun x hx=>h x (by simp[Call.operands,hc] at hx ⊢;exact hx))]
  | value f=>rfl
  | invoke r m=>rfl
end
def xF (G:Nat)(F:Nat->Prop)(W:World)(e:Em)(v:AV)(H':Hp)(en:Ending)(w':World):Prop:=
 ∃ e' v',en = .returned v'/\e.le e'/\RH G F W e' H' w'/\VR e' v v'
def sO (P:Program)(cf:CF):Prop:=
 ∀ (g:AV) (args:List AV) (H:Hp) (v:AV) (H':Hp),cf g args H=some (v,H')->
  ∃ cl first cap,g = .func (.func cl) first cap/\∀ (F:Nat->Prop) (W:World) (e:Em) (w:World) (bV:Array Value),RH P.globals.size F W e H w->cj e (first++args++cap) bV.toList->
   (∃ v' w' e',(callFunc cl bV).run P w = .ok (.value v') w'/\e.le e'/\RH P.globals.size F W e' H' w'/\VR e' v v')\/
   ((callFunc cl bV).run P w = .ok (.enter cl bV) w/\Calls P cl bV w (xF P.globals.size F W e v H'))
section
variable {P:Program}{F:Nat->Prop}{W:World}{e:Em}{H:Hp}{w:World}
structure TR (e:Em)(n:Nat)(t:Tm)(a:Act):Prop where
 size:n<=a.tmps.size
 val:∀ x,VR e ((t.get x).getD cF) (a.tmps.getD x undef)
theorem TR.mono {e e':Em}(h:e.le e'){n:Nat}{t:Tm}{a:Act}(k:TR e n t a):TR e' n t a:=⟨k.size,fun x=>(k.val x).mono h⟩
theorem VR.ev (h:RH P.globals.size F W e H w){n:Nat}{t:Tm}{a:Act}(ht:TR e n t a)(x:Operand):VR e (ev P.globals.size t x) (a.eval x):=by
 cases x with
 | tmp d=>exact ht.val d
 | const v=>
  simp only[Am.ev,Act.eval]
  cases hc:Am.iz v with
  | none=>exact .dE v
  | some c=>exact .iz hc
 | global g=>
  simp only[Am.ev,Act.eval]
  cases hb:Nat.blt g P.globals.size with
  | false=>exact .dE _
  | true=>
   rw[acY] at hb
   obtain⟨h1,h2,h3⟩:=h.mG g hb
   have:=VR.ptr (e:=e) g 0 0 h1 (by rw[h3];simp)
   rw[h2] at this
   exact this
 | func f=>exact .func _ (by simp) [] [] #[] #[] rfl rfl (by simp) (by simp)
theorem Xs {t:Array Value}{d x:Nat}{v:Value}(h:d<t.size):(t.setIfInBounds d v).getD x undef=if x=d then v else t.getD x undef:=by
 simp only[ads]
 by_cases hx:x=d
 ·subst hx;rw[aff h,if_pos rfl];rfl
 ·rw[aez (fun q=>hx q.symm),if_neg hx]
theorem TR.put {n:Nat}{t t':Tm}{a:Act}(h:TR e n t a){dst:Option Tmp}{v:AV}{v':Value}(hp:gr n dst v t=some t')(hv:VR e v v'):TR e n t' (a.put dst v'):=by
 unfold gr at hp
 split at hp
 ·cases hp;exact h
 ·rename_i d
  cases hb:(Nat.blt d n&&Nat.blt d 4294967296) with
  | false=>rw[hb] at hp;cases hp
  | true=>
   rw[hb] at hp
   cases hp
   simp only[aaK,acY] at hb
   have bW:d<a.tmps.size:=aci hb.1 h.size
   refine⟨by simp only[Act.put,Array.size_setIfInBounds];exact h.size,fun x => ?_⟩
   simp only[Act.put]
   rw[Xs bW,Tr.Le _ _ _ _ _ (by omega)]
   by_cases hx:x=d
   ·rw[if_pos hx,if_pos hx];exact hv
   ·rw[if_neg hx,if_neg hx];exact h.val x
theorem VR.aet {v:AV}{b:Bool}(h:VR e v (.bool b)):v = .bool b\/v = .dE:=by
 cases h with
 | dE=>exact .inr rfl
 | bool=>exact .inl rfl
theorem N7 {ops:Array Oper}{o:Oper}{t:Tm}{a:Act}{b:Bool}(hw:pB ops o t=some b)(hT:∀ d,El ops o=some d->VR e ((t.get d).getD cF) (a.tmps.getD d undef)) :
  Region.wanted o (yielded ops a.tmps)=b:=by
 unfold pB at hw
 unfold Region.wanted
 split at hw
 ·rename_i hg
  cases hw
  simp[hg]
 ·rename_i j want hg
  simp only[hg]
  have hgt:El ops o=(ops[j]?).bind (·.dst):=by simp[El,hg]
  unfold yielded
  split at hw
  ·rename_i hd
   cases hw
   simp[hd]
  ·rename_i d hd
   have hv:=hT d (by rw[hgt,hd])
   simp only[hd,ach]
   rw[ads] at hv
   split at hw
   ·rename_i hn
    cases hw
    rw[hn] at hv
    obtain⟨vs,mF,_⟩:=VR.YW (l:=[]) hv
    cases hq:a.tmps[d]? with
    | none=>simp
    | some u=>rw[hq] at mF;simp at mF;subst mF;simp
   ·rename_i c hc
    cases hw
    rw[hc] at hv
    have:=hv.sH
    cases hq:a.tmps[d]? with
    | none=>rw[hq] at this;simp[undef] at this
    | some u=>rw[hq] at this;simp at this;subst this;simp
   ·cases hw
   ·rename_i u hnb yD hu
    cases hw
    rw[hu] at hv
    cases hq:a.tmps[d]? with
    | none=>simp
    | some z=>
     rw[hq] at hv
     simp at hv
     cases z<;>simp
     rename_i b
     rcases hv.aet with r | r
     ·exact (hnb _ r).elim
     ·exact (yD r).elim
theorem afw {σ:Operand->Value}{f:Operand}{args:Array Operand}{cM:Array TypeId}{ty cl:Nat}{first cap:Array Value}(hf:σ f = .func (.func cl) first cap) :
  (do let d <-resolve σ { callee := .value f,args,argTypes:=cM } ty;invoke d.target d.args:Sem Next)=callFunc cl (first++args.map σ++cap):=by
 unfold resolve
 simp only[hf,Deferred.ofValue]
 rfl
theorem Kb {cf:CF}(fj:sO P cf)(h:RH P.globals.size F W e H w){t:Tm}{a:Act}{o:Oper}{v:AV}{H':Hp}(ho:qL P cf t o H=some (v,H'))
  (hT:∀ x∈o.op.operands.toList,VR e (ev P.globals.size t x) (a.eval x)) {next:Act->World->Prop} {Q:Exit->Act->World->Prop}
  (hn:∀ e' v' w',e.le e'->RH P.globals.size F W e' H' w'->VR e' v v'->next (a.put o.dst v') w'):o.wp P a w next Q:=by
 classical
 let ρ:Operand->AV:=fun x=>if x∈o.op.operands.toList then ev P.globals.size t x else .dE
 have hρ:∀ x,VR e (ρ x) (a.eval x):=by
  intro x
  simp only[ρ]
  split
  ·rename_i hx;exact hT x hx
  ·exact .dE _
 have hρe:∀ x∈o.op.operands.toList,ev P.globals.size t x=ρ x:=by
  intro x hx;simp only[ρ,if_pos hx]
 have plain:fH P (ev P.globals.size t) o H=some (v,H')->o.wp P a w next Q:=by
  intro hA
  rw[XV o H hρe] at hA
  obtain⟨n,w',e',v',hr,hv,he,hR,dT⟩:=aiM h hρ hA
  unfold Oper.wp
  rw[hr]
  rcases hv with rfl | ⟨rfl,rfl⟩
  ·exact hn e' v' w' he hR dT
  ·exact hn e' _ w' he hR dT
 unfold qL at ho
 split at ho
 ·rename_i f args cM ck
  obtain⟨cl,first,cap,hg,hs⟩:=fj _ _ _ _ _ ho
  have Fv:f∈o.op.operands.toList:=by simp[ck,Op.operands,Call.operands]
  have hf:=hT f Fv
  rw[hg] at hf
  cases RJ:a.eval f with
  | func fn NG na=>
   rw[RJ] at hf
   cases hf with
   | func _ _ _ _ _ _ ha hc h1 h2=>
   have jy:cj e (args.toList.map (ev P.globals.size t)) (args.map a.eval).toList:=by
    rw[Array.toList_map]
    refine⟨by simp,fun i x x' hx sL => ?_⟩
    simp only[acD,yS] at hx sL
    obtain⟨z,hz,rfl⟩:=hx
    obtain⟨z',eF,rfl⟩:=sL
    rw[hz] at eF
    cases eF
    exact hT z (by simp[ck,Op.operands,Call.operands];exact .inr (by have:=abY hz;simpa using this))
   have gS:cj e (first++args.toList.map (ev P.globals.size t)++cap) (NG++args.map a.eval++na).toList:=by
    have q1:cj e first NG.toList:=⟨ha,h1⟩
    have q2:cj e cap na.toList:=⟨hc,h2⟩
    have:=(q1.append jy).append q2
    simpa using this
   have hex:execOp a.eval o=callFunc cl (NG++args.map a.eval++na):=by
    unfold execOp
    rw[ck]
    exact afw RJ
   unfold Oper.wp
   rw[hex]
   rcases hs F W e w _ h gS with⟨v',w',e',hr,he,hR,dT⟩ | ⟨hr,aim⟩
   ·rw[hr];exact hn e' v' w' he hR dT
   ·rw[hr]
    refine aim.mono ?_
    rintro en w'' ⟨e',v',rfl,he,hR,dT⟩
    exact hn e' v' w'' he hR dT
  | _=>rw[RJ] at hf;cases hf
 ·exact plain ho
theorem UW {cf:CF}(fj:sO P cf){ops:Array Oper}{n:Nat}{Q:Exit->Act->World->Prop}{t':Tm}{H':Hp}:∀ (r:List Oper) (i:Nat) (t:Tm) (H:Hp) (e:Em) (a:Act) (w:World),
  ops.toList.drop i=r->pU P cf n ops r t H=some (t',H')->RH P.globals.size F W e H w->TR e n t a->
  (∀ e' a' w',e.le e'->RH P.globals.size F W e' H' w'->TR e' n t' a'->a'.defers=a.defers->Q .normal a' w')->wpOps P ops Q (List.range' i r.length) a w:=by
 intro r
 induction r with
 | nil=>
  intro i t H e a w hd hs hR hT hQ
  cases hs
  exact hQ e a w e.le_refl hR hT rfl
 | cons o r ih=>
  intro i t H e a w hd hs hR hT hQ
  have hi:ops[i]? = some o:=by
   have:=congrArg (fun l=>l[0]?) hd
   simpa[acL,acF] using this
  have eQ:ops.toList.drop (i+1)=r:=by
   have:=congrArg List.tail hd
   simpa[List.tail_drop] using this
  rw[abg,List.range'_succ]
  unfold pU at hs
  split at hs
  ·rename_i hw
   split at hs
   ·rename_i v H1 ho
    split at hs
    ·rename_i t1 hp
     simp only[wpOps,hi,N7 (e:=e) (a:=a) hw (fun d _=>hT.val d),if_true]
     left
     refine Kb fj hR ho (fun x _=>VR.ev hR hT x) ?_
     intro e' v' w' he cA hv
     have cV:=(hT.mono he).put hp hv
     refine ih (i+1) t1 H1 e' _ w' eQ hs cA cV ?_
     intro e2 a2 w2 jP kS AS zE
     refine hQ e2 a2 w2 (Em.le_trans he jP) kS AS (zE.trans ?_)
     cases o.dst<;>rfl
    ·cases hs
   ·cases hs
  ·rename_i hw
   split at hs
   ·rename_i t1 hp
    simp only[wpOps,hi,N7 (e:=e) (a:=a) hw (fun d _=>hT.val d),abP,if_false]
    have cV:=hT.put hp VR.undef
    refine ih (i+1) t1 H e _ w eQ hs hR cV ?_
    intro e2 a2 w2 jP kS AS zE
    refine hQ e2 a2 w2 jP kS AS (zE.trans ?_)
    cases o.dst<;>rfl
   ·cases hs
  ·cases hs
end
end
def C3 (o:Oper)(acc:List Nat):Nat:=o.after.toList.foldl (fun s e=>if Region.binds .any e then s ||| 2 ^ e.on ||| acc.getD e.on 0 else s) 0
theorem Yl (acc:List Nat)(j:Nat):∀ (l:List Edge) (s:Nat),(l.foldl (fun s e=>if Region.binds .any e then s ||| 2 ^ e.on ||| acc.getD e.on 0 else s) s).testBit j=true->
  s.testBit j=true\/∃ e∈l,Region.binds .any e=true/\(j=e.on\/(acc.getD e.on 0).testBit j=true)
 | [],s,h => .inl h
 | e::l,s,h=>by
  rw[List.foldl_cons] at h
  rcases Yl acc j l _ h with h1 | ⟨e',Iy,hb,hj⟩
  ·by_cases wL:Region.binds .any e=true
   ·rw[if_pos wL] at h1
    rw[Nat.testBit_or,Nat.testBit_or,af0,af0] at h1
    rcases h1 with (h1 | h1) | h1
    ·exact .inl h1
    ·right
     refine⟨e,List.mem_cons_self ..,wL,.inl ?_⟩
     rw[Nat.testBit_two_pow] at h1
     exact (of_decide_eq_true h1).symm
    ·exact .inr ⟨e,List.mem_cons_self ..,wL,.inr h1⟩
   ·rw[if_neg wL] at h1
    exact .inl h1
  ·exact .inr ⟨e',List.mem_cons_of_mem _ Iy,hb,hj⟩
theorem Xt:∀ (r:List Oper) (acc:List Nat),(before r acc).length=acc.length+r.length
 | [],acc=>by simp[before]
 | o::r,acc=>by
  rw[before,Xt r]
  simp;omega
theorem NM:∀ (r:List Oper) (acc:List Nat) (i:Nat),i<acc.length->(before r acc)[i]? = acc[i]?
 | [],acc,i,h=>by simp[before]
 | o::r,acc,i,h=>by
  rw[before,NM r _ i (by simp;omega)]
  rw[abi h]
theorem XZ:∀ (r:List Oper) (acc:List Nat) (i:Nat) (o:Oper),r[i]? = some o->(before r acc)[acc.length+i]? = some (C3 o ((before r acc).take (acc.length+i)))
 | [],acc,i,o,h=>by simp at h
 | p::r,acc,i,o,h=>by
  cases i with
  | zero=>
   simp at h
   subst h
   rw[before,acJ,NM r _ _ (by simp)]
   have ht:(before r (acc++[C3 p acc])).take acc.length=acc:=by
    apply List.ext_getElem?
    intro k
    rw[ac1]
    split
    ·rw[NM r _ k (by simp;omega),abi (by assumption)]
    ·rw[List.getElem?_eq_none (by omega)]
   show (acc++[C3 p acc])[acc.length]? = some (C3 p ((before r (acc++[C3 p acc])).take acc.length))
   rw[ht]
   simp
  | succ i=>
   have:=XZ r (acc++[C3 p acc]) i o (by simpa using h)
   rw[aaO,List.length_singleton] at this
   rw[before]
   have e1:acc.length+(i+1)=acc.length+1+i:=by omega
   rw[e1]
   exact this
structure Form (ops:Array Oper)(B:List Nat):Prop where
 len:B.length=ops.size
 back:∀ i o,ops[i]? = some o->∀ e∈o.after,Region.binds .any e=true->e.on<i
 bit:∀ i o,ops[i]? = some o->∀ j,(B.getD i 0).testBit j=true->∃ e∈o.after,Region.binds .any e=true/\(j=e.on\/(B.getD e.on 0).testBit j=true)
 one:∀ (i j:Nat) (oi oj:Oper) (d:Tmp),ops[i]? = some oi->ops[j]? = some oj->oi.dst=some d->oj.dst=some d->i=j
 rd:∀ (i j:Nat) (oi oj:Oper) (d:Tmp),ops[i]? = some oi->ops[j]? = some oj->oi.dst=some d->i≠j->CU ops oj d=true->if i<j then (B.getD j 0).testBit i=true else (B.getD i 0).testBit j=true
theorem ah9 {ops:Array Oper}(h:tZ ops=true):Form ops (before ops.toList []):=by
 unfold tZ at h
 simp only at h
 have hlen:(before ops.toList []).length=ops.size:=by rw[Xt];simp
 have hz:∀ i o,ops[i]? = some o->(i,(o,(before ops.toList []).getD i 0))∈(List.range ops.size).zip (ops.toList.zip (before ops.toList [])):=by
  intro i o ho
  have hi:i<ops.size:=(abH.1 ho).1
  apply abY (i:=i)
  rw[List.getElem?_zip_eq_some]
  refine⟨by simp[hi],?_⟩
  rw[List.getElem?_zip_eq_some]
  refine⟨by simpa using ho,?_⟩
  simp only
  rw[agb,abb (by rw[hlen];exact hi)]
  rfl
 rw[adh] at h
 have h1:∀ i o,ops[i]? = some o->∀ e∈o.after,Region.binds .any e=true->e.on<i:=by
  intro i o ho e he hb
  have:=h _ (hz i o ho)
  rw[aaK] at this
  have h2:=Array.all_eq_true_iff_forall_mem.1 this.1 e he
  rw[hb] at h2
  simpa using h2
 have h2:∀ i j oi oj,ops[i]? = some oi->ops[j]? = some oj->JB ops i oi ((before ops.toList []).getD i 0) j oj ((before ops.toList []).getD j 0)=true:=by
  intro i j oi oj hi hj
  have:=h _ (hz i oi hi)
  rw[aaK] at this
  exact adh.1 this.2 _ (hz j oj hj)
 refine⟨hlen,h1,?_,?_,?_⟩
 ·intro i o ho j hb
  have hi:i<ops.size:=(abH.1 ho).1
  have mq:=XZ ops.toList [] i o (by simpa using ho)
  simp only[abQ,wc] at mq
  rw[agb,mq] at hb
  simp only[afy] at hb
  rcases Yl _ j _ 0 hb with hq | ⟨e,he,wL,hj⟩
  ·simp at hq
  ·have Iy:e∈o.after:=by simpa using he
   refine⟨e,Iy,wL,hj.imp id fun hq => ?_⟩
   have bW:=h1 i o ho e Iy wL
   rw[agb,ac1,if_pos bW] at hq
   rw[agb]
   exact hq
 ·intro i j oi oj d hi hj TG hdj
  have:=h2 i j oi oj hi hj
  unfold JB at this
  rw[TG] at this
  simp only[af0,aaK] at this
  rcases this with q | ⟨q,_⟩
  ·exact aaV q
  ·simp[hdj] at q
 ·intro i j oi oj d hi hj TG cx hr
  have:=h2 i j oi oj hi hj
  unfold JB at this
  rw[TG] at this
  simp only[af0,aaK] at this
  rcases this with q | ⟨_,q⟩
  ·exact absurd (aaV q) cx
  ·rcases q with q | q
   ·rw[hr] at q;simp at q
   ·by_cases bW:i<j
    ·rw[if_pos bW]
     have:Nat.blt i j=true:=by rw[acY];exact bW
     rw[this] at q;exact q
    ·rw[if_neg bW]
     have:Nat.blt i j=false:=by
      cases hb:Nat.blt i j
      ·rfl
      ·rw[acY] at hb;exact absurd hb bW
     rw[this] at q;exact q
def kk (P:Program)(x:Bool)(o:Oper):Kd:=if x then kd P o else .pure
def Js (P:Program)(cf:CF)(n:Nat)(ops:Array Oper)(o:Oper)(x:Bool)(v:AV)(tp te iB iy:Tm)(hb hh gU tS:Hp):Prop:=
 pB ops o tp=some x/\
 match x,kd P o with
 | false,_=>v=cF/\gr n o.dst cF tp=some iB/\gr n o.dst cF te=some iy/\gU=hb/\tS=hh
 | true,.late=>fH P (ev P.globals.size tp) o hh=some (v,tS)/\gr n o.dst .dE tp=some iB/\gr n o.dst v te=some iy/\gU=hb
 | true,.dj=>qL P cf te o hh=some (v,tS)/\gr n o.dst v tp=some iB/\gr n o.dst v te=some iy/\gU=tS
 | true,_=>(∃ h',fH P (ev P.globals.size tp) o hb=some (v,h'))/\gr n o.dst v tp=some iB/\gr n o.dst v te=some iy/\gU=hb/\tS=hh
theorem amE {P:Program}{cf:CF}{n:Nat}{ops:Array Oper}{B:List Nat}{tF:Tm}{HF:Hp}:∀ (r:List Oper) (bs:List Nat) (i:Nat) (tp te:Tm) (hb hh:Hp) (l:List iv),
  ops.toList.drop i=r->B.drop i=bs->iY P cf n ops i r bs tp te hb hh=some (l,tF,HF)->
  ∃ (TP TE:Nat->Tm) (HB HH:Nat->Hp) (V:Nat->AV) (X:Nat->Bool),TP i=tp/\TE i=te/\HB i=hb/\HH i=hh/\TE (i+r.length)=tF/\HH (i+r.length)=HF/\
   ∀ j o,i<=j->ops[j]? = some o->Js P cf n ops o (X j) (V j) (TP j) (TE j) (TP (j+1)) (TE (j+1)) (HB j) (HH j) (HB (j+1)) (HH (j+1))/\
    (⟨j,o,B.getD j 0,X j,kk P (X j) o,V j,TP j,HB j,HB (j+1)⟩:iv)∈l:=by
 intro r
 induction r with
 | nil=>
  intro bs i tp te hb hh l hd Ap hr
  simp only[iY,acf,abI] at hr
  obtain⟨rfl,rfl,rfl⟩:=hr
  refine⟨fun _=>tp,fun _=>te,fun _=>hb,fun _=>hh,fun _ => .dE,fun _=>false,rfl,rfl,rfl,rfl,rfl,rfl,?_⟩
  intro j o hj ho
  have bW:=(abH.1 ho).1
  have:=congrArg List.length hd
  simp at this
  omega
 | cons o r ih=>
  intro bs i tp te hb hh l hd Ap hr
  have hi:ops[i]? = some o:=by
   have:=congrArg (fun l=>l[0]?) hd
   simpa[acL,acF] using this
  have eQ:ops.toList.drop (i+1)=r:=by
   have:=congrArg List.tail hd
   simpa[List.tail_drop] using this
  cases bs with
  | nil=>simp[iY] at hr
  | cons b bs=>
   have hbi:B.getD i 0=b:=by
    have:=congrArg (fun l=>l[0]?) Ap
    simp[acL] at this
    simp[agb,this]
   have alQ:B.drop (i+1)=bs:=by
    have:=congrArg List.tail Ap
    simpa[List.tail_drop] using this
   have fin:∀ (x:Bool) (v:AV) (iB iy:Tm) (gU tS:Hp) (l':List iv),Js P cf n ops o x v tp te iB iy hb hh gU tS->iY P cf n ops (i+1) r bs iB iy gU tS=some (l',tF,HF)->
     l=⟨i,o,b,x,kk P x o,v,tp,hb,gU⟩::l'->
     ∃ (TP TE:Nat->Tm) (HB HH:Nat->Hp) (V:Nat->AV) (X:Nat->Bool),TP i=tp/\TE i=te/\HB i=hb/\HH i=hh/\TE (i+(o::r).length)=tF/\HH (i+(o::r).length)=HF/\
   ∀ j o,i<=j->ops[j]? = some o->Js P cf n ops o (X j) (V j) (TP j) (TE j) (TP (j+1)) (TE (j+1)) (HB j) (HH j) (HB (j+1)) (HH (j+1))/\
    (⟨j,o,B.getD j 0,X j,kk P (X j) o,V j,TP j,HB j,HB (j+1)⟩:iv)∈l:=by
    intro x v iB iy gU tS l' hstep vF hl
    obtain⟨TP,TE,HB,HH,V,X,q1,q2,q3,q4,q5,q6,q7⟩:=ih bs (i+1) iB iy gU tS l' eQ alQ vF
    have cx:¬ i+1=i:=by omega
    refine⟨fun j=>if j=i then tp else TP j,fun j=>if j=i then te else TE j,fun j=>if j=i then hb else HB j,fun j=>if j=i then hh else HH j,fun j=>if j=i then v else V j,fun j=>if j=i then x else X j,
     by simp,by simp,by simp,by simp,?_,?_,?_⟩
    ·simp only[abg]
     rw[if_neg (by omega)]
     have:i+(r.length+1)=i+1+r.length:=by omega
     rw[this];exact q5
    ·simp only[abg]
     rw[if_neg (by omega)]
     have:i+(r.length+1)=i+1+r.length:=by omega
     rw[this];exact q6
    ·intro j oj hj tK
     by_cases sc:j=i
     ·subst sc
      rw[hi] at tK
      cases tK
      simp only[if_true,if_neg cx,q1,q2,q3,q4,hbi]
      refine⟨hstep,?_⟩
      rw[hl];exact List.mem_cons_self ..
     ·have Mf:¬ j+1=i:=by omega
      simp only[if_neg sc,if_neg Mf]
      obtain⟨s1,s2⟩:=q7 j oj (by omega) tK
      exact⟨s1,by rw[hl];exact List.mem_cons_of_mem _ s2⟩
   unfold iY at hr
   split at hr
   ·rename_i hw
    split at hr
    ·rename_i hk
     split at hr
     ·rename_i v h' ck
      split at hr
      ·rename_i iB iy h1 h2
       simp only[yS,Prod.exists,abI] at hr
       obtain⟨l',a,b',vF,rfl,rfl,rfl⟩:=hr
       refine fin true v iB iy hb h' l' ⟨hw,?_⟩ vF (by simp[kk,hk])
       rw[hk];exact⟨ck,h1,h2,rfl⟩
      ·cases hr
     ·cases hr
    ·rename_i hk
     split at hr
     ·rename_i v h' ck
      split at hr
      ·rename_i iB iy h1 h2
       simp only[yS,Prod.exists,abI] at hr
       obtain⟨l',a,b',vF,rfl,rfl,rfl⟩:=hr
       refine fin true v iB iy h' h' l' ⟨hw,?_⟩ vF (by simp[kk,hk])
       rw[hk];exact⟨ck,h1,h2,rfl⟩
      ·cases hr
     ·cases hr
    ·rename_i mC gj
     split at hr
     ·rename_i v h' ck
      split at hr
      ·rename_i iB iy h1 h2
       simp only[yS,Prod.exists,abI] at hr
       obtain⟨l',a,b',vF,rfl,rfl,rfl⟩:=hr
       refine fin true v iB iy hb hh l' ⟨hw,?_⟩ vF (by simp[kk])
       cases cE:kd P o
       ·exact⟨⟨h',ck⟩,h1,h2,rfl,rfl⟩
       ·exact⟨⟨h',ck⟩,h1,h2,rfl,rfl⟩
       ·exact absurd cE mC
       ·exact absurd cE gj
      ·cases hr
     ·cases hr
   ·rename_i hw
    split at hr
    ·rename_i iB iy h1 h2
     simp only[yS,Prod.exists,abI] at hr
     obtain⟨l',a,b',vF,rfl,rfl,rfl⟩:=hr
     refine fin false cF iB iy hb hh l' ⟨hw,rfl,h1,h2,rfl,rfl⟩ vF (by simp[kk])
    ·cases hr
   ·cases hr
end Go.Proofs.YtbdlbhlhnpblpaaGreatDoor.Am
