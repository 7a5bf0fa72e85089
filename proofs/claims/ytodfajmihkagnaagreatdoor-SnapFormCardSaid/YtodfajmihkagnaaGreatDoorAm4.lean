/- Laws that the proof uses. -/
import Derived.Test.YtodfajmihkagnaaGreatDoorAm3
set_option maxHeartbeats 2000000
set_option linter.unusedVariables false
set_option linter.unusedSimpArgs false
namespace Go.Proofs.YtodfajmihkagnaaGreatDoor.Am
section
section
section
section
section
variable {P:Program}{G:Nat}{F:Nat->Prop}{W:World}{e:Em}{H:Hp}{w:World}
theorem PA {el s n:Nat}{z:List AV}(h:CA P el s n=some z):
  (n*s=0/\z=[])\/(¬n*s=0/\z.length=n*s/\∃inf z0,P.info? el=some inf/\inf.zero=some z0/\z0.cells.size=s/\aV e z ((Array.range (n*s)).map (z0.cells[· % z0.cells.size]!)).toList):=by
 unfold CA at h;cases hb:Nat.beq (n*s) 0 with
 |true=>
  rw[hb] at h;cases h;exact .inl ⟨abx hb,rfl⟩
 |false=>
  rw[hb] at h;simp only[cond_false] at h;have h0:¬n*s=0:=λq=>by rw[q] at hb;cases hb
  split at h
  ·rename_i z1 hz;cases hl:Nat.beq z1.length s with
   |false=>rw[hl] at h;cases h
   |true=>
    rw[hl] at h;cases h;have qn:z1.length=s:=abx hl;obtain⟨inf,z0,jL,gC,BT⟩:=BD (e:=e) hz;have fy:z0.cells.size=s:=by have:=BT.1;simp at this;omega
    have hr:aV e (rep n z1) ((Array.range (n*s)).map (z0.cells[· % z0.cells.size]!)).toList:=by have:=amw z0.cells n;rw[fy] at this;rw[fy,this];exact BT.rep n
    refine .inr ⟨h0,?_,inf,z0,jL,gC,fy,hr⟩;have:=hr.1;simp at this;omega
  ·cases h
theorem abT {pl:Nat->Option (Nat×Nat)}:∀(ps:List (Nat×AV)) (cells out:List AV),xA pl cells ps=some out->out.length=cells.length
 |[],cells,out,h=>by cases h;rfl
 |(i,v)::ps,cells,out,h=>by
  unfold xA at h;split at h;·cases h
  ·split at h;·cases h
   ·split at h;·rename_i hc;rw[abT ps _ _ h];simp;omega
    ·cases h
section
variable {H':Hp}{c x:AV}{c' x':Value}{e:Em}{i:Nat}{o:AO}{ob:Obj}{ps:List (Nat×AV)}{ps':Array (Nat×Value)}
theorem atB (h:RH G F W e H w){t len:Nat}{v:AV}(hp:wE e ps ps'.toList)(hb:Ma P t len ps H=some (v,H')):
  ∃v' w' e',(Instr.buildSlice t len ps').run P w=.ok v' w'/\e.le e'/\RH G F W e' H' w'/\VR e' v v':=by
 unfold Ma at hb;split at hb
 ·rename_i el hu;split at hb
  ·rename_i s hs;cases hle:Nat.ble (len*s) 65536 with
   |false=>rw[hle] at hb;cases hb
   |true=>
   rw[hle] at hb;simp only[cond_true] at hb;rw[af1] at hle;split at hb
   ·rename_i z hz;split at hb
    ·rename_i cs gG;simp only[aal,acC] at hb;obtain⟨⟨i,H2⟩,hn,rfl,rfl⟩:=hb;have hlen:=abT ps z cs gG;have PD:¬(len*s>2^24):=zzz;rcases PA (P:=P) (e:=e) hz with⟨h0,rfl⟩|⟨h0,afj,inf,z0,jL,gC,fy,rr⟩
     ·obtain⟨mN,ho,hr⟩:=PY (e:=e) (G2:=λi=>some (i*s,s)) (λi x hx=>hx) ps ps'.toList [] cs #[] hp (.nil e) gG;obtain⟨e',he,g1,g2,g3,g4,ql⟩:=h.newRow (rest:=[]) (fz:=(0,0)) hn hr (λ_=>rfl) zzy;refine⟨.slice (some ⟨w.heap.size,0,none⟩) len len,_,e',?_,he,ql,VR.Ey g2 g1 (by rw[g3];simp) (aaC _) (aaC _) (λ_=>rfl) ?_⟩;·simp only[Instr.buildSlice,Sem.run_bind,aL hu,Result.andThen_ok,iZ hs,zz1 PD];rw[zz2 h0];have Gs:Array.range 0=#[]:=rfl;simp[h0,Gs,ho,newRow]
      ·rw[g4];simp[h0]
     ·obtain⟨mN,ho,hr⟩:=PY (e:=e) (G2:=λi=>some (i*s,s)) (λi x hx=>hx) ps ps'.toList z cs _ hp rr gG;obtain⟨e',he,g1,g2,g3,g4,ql⟩:=h.newRow (rest:=[]) (fz:=(0,0)) hn hr (λ_=>rfl) zzy;refine⟨.slice (some ⟨w.heap.size,0,none⟩) len len,_,e',?_,he,ql,VR.Ey g2 g1 (by rw[g3];simp) (aaC _) (aaC _) (λ_=>rfl) ?_⟩;·simp only[Instr.buildSlice,Sem.run_bind,aL hu,Result.andThen_ok,iZ hs,zz1 PD];rw[zz1 h0];simp[uQ jL gC,newRow] at ho⊢;simp[ho]
      ·rw[g4];have:=hr.1;simp at this⊢;omega
    ·cases hb
   ·cases hb
  ·cases hb
 ·cases hb
theorem run_makeSlice {t:Nat}{k1 k2:IntKind}{n m:Int}{H:Hp}{v:AV}(hb:zr P t (.int k1 n) (.int k2 m) H=some (v,H'))(w:World):
  ∃el s z row,P.underlying t=some (.slice el)/\sz P el=some s/\CA P el s m.toNat=some z/\(∀e:Em,aV e z row)/\n.toNat<=m.toNat/\row.length=m.toNat*s/\
   (Instr.makeSlice t (.int k1 n) (.int k2 m)).run P w=.ok (.slice (some ⟨w.heap.size,0,none⟩) n.toNat m.toNat) {w with heap:=w.heap.push (.cells row.toArray el (0,0))}:=by
 unfold zr at hb;split at hb
 ·rename_i el k1' n' HU m' hu q1 q2;cases q1;cases q2;split at hb
  ·rename_i s hs;split at hb
   ·rename_i uZ;obtain⟨h1,h2,h3,h4⟩:=uZ;split at hb
    ·rename_i z hz;obtain⟨inf,jL⟩:∃inf,P.info? el=some inf:=by
      unfold sz at hs;cases hq:P.info? el with
      |none=>simp[hq] at hs|some inf=>exact⟨inf,rfl⟩
     have Uz:inf.bytes<=4096:=by unfold Program.bytesOf at h4;rw[jL] at h4;simpa using h4
     have w1:IntKind.i64.wrap n=n:=IntWalk.i64_in _ zzz;have w2:IntKind.i64.wrap m=m:=IntWalk.i64_in _ zzz;have Eh:¬((inf.bytes:Int)*m>2^48):=by have:(inf.bytes:Int)*m<=4096*1048576:=Int.mul_le_mul zzz zzz zzz zzz;omega
     have c1:(decide (m<0)||decide ((inf.bytes:Int)*m>2^48))=false:=by simp;omega
     have FC:¬(((decide (m<0)||decide ((inf.bytes:Int)*m>2^48))||decide (n<0)||decide (n>m))=true):=by rw[c1];simp;omega
     rcases PA (P:=P) (e:=⟨id,λ_=>0,id,0⟩) hz with⟨h0,rfl⟩|⟨h0,afj,afx,z0,FJ,gC,fy,rr⟩;·refine⟨el,s,[],[],hu,hs,hz,λe=>.nil e,zzz,by simp[h0],?_⟩;simp only[Instr.makeSlice,Sem.run_bind,aL hu,Result.andThen_ok,asInt,asIntOf,Sem.run_pure,rC jL,w1,w2,zz1 FC,run_askRoom,iZ hs];rw[zz2 h0];have Gs:Array.range 0=#[]:=rfl;simp[h0,Gs,newRow]
     ·refine⟨el,s,z,((Array.range (m.toNat*s)).map (z0.cells[· % z0.cells.size]!)).toList,hu,hs,hz,λe=>?_,zzz,?_,?_⟩
      rotate_left 2
      ·simp only[Instr.makeSlice,Sem.run_bind,aL hu,Result.andThen_ok,asInt,asIntOf,Sem.run_pure,rC jL,w1,w2,zz1 FC,run_askRoom,iZ hs];rw[zz1 h0];simp[uQ FJ gC,newRow];congr 2;apply aes.1;simp
      ·rcases PA (P:=P) (e:=e) hz with⟨q,_⟩|⟨_,_,aFq,z3,amz,hz3,_,an2⟩;·exact absurd q h0
       ·rw[FJ] at amz;cases amz;rw[gC] at hz3;cases hz3;exact an2
      ·simp
    ·cases hb
   ·cases hb
  ·cases hb
 ·cases hb
theorem azH (h:RH G F W e H w){t:Nat}{l v:AV}{l':Value}(hl:VR e l l')(hc:VR e c c')(hb:zr P t l c H=some (v,H')):
  ∃v' w' e',(Instr.makeSlice t l' c').run P w=.ok v' w'/\e.le e'/\RH G F W e' H' w'/\VR e' v v':=by
 unfold zr at hb;split at hb
 ·rename_i el k1 n k2 m hu;cases hl.gV;cases hc.gV;split at hb
  ·rename_i s hs;split at hb
   ·rename_i uZ;obtain⟨h1,h2,h3,h4⟩:=uZ;split at hb
    ·rename_i z hz;simp only[aal,acC] at hb;obtain⟨⟨i,H2⟩,hn,rfl,rfl⟩:=hb;obtain⟨inf,jL⟩:∃inf,P.info? el=some inf:=by
      unfold sz at hs;cases hq:P.info? el with
      |none=>simp[hq] at hs|some inf=>exact⟨inf,rfl⟩
     have Uz:inf.bytes<=4096:=by unfold Program.bytesOf at h4;rw[jL] at h4;simpa using h4
     have w1:IntKind.i64.wrap n=n:=IntWalk.i64_in _ zzz;have w2:IntKind.i64.wrap m=m:=IntWalk.i64_in _ zzz;have Eh:¬((inf.bytes:Int)*m>2^48):=by have:(inf.bytes:Int)*m<=4096*1048576:=Int.mul_le_mul zzz zzz zzz zzz;omega
     have c1:(decide (m<0)||decide ((inf.bytes:Int)*m>2^48))=false:=by simp;omega
     have PD:¬((decide (m<0)||decide ((inf.bytes:Int)*m>2^48))=true\/n<0\/n>m):=by rw[c1];simp;omega
     have FC:¬(((decide (m<0)||decide ((inf.bytes:Int)*m>2^48))||decide (n<0)||decide (n>m))=true):=by rw[c1];simp;omega
     rcases PA (P:=P) (e:=e) hz with⟨h0,rfl⟩|⟨h0,afj,afx,z0,FJ,gC,fy,rr⟩;·obtain⟨e',he,g1,g2,g3,g4,ql⟩:=h.newRow (rest:=[]) (fz:=(0,0)) hn (.nil e) (λ_=>rfl) zzy;refine⟨.slice (some ⟨w.heap.size,0,none⟩) n.toNat m.toNat,_,e',?_,he,ql,VR.Ey g2 g1 (by rw[g3];simp) zzz (aaC _) (λ_=>rfl) (by rw[g4];simp[h0])⟩;simp only[Instr.makeSlice,Sem.run_bind,aL hu,Result.andThen_ok,asInt,asIntOf,Sem.run_pure,rC jL,w1,w2,zz1 FC,run_askRoom,iZ hs];rw[zz2 h0];have Gs:Array.range 0=#[]:=rfl;simp[h0,Gs,newRow]
     ·obtain⟨e',he,g1,g2,g3,g4,ql⟩:=h.newRow (rest:=[]) (fz:=(0,0)) hn rr (λ_=>rfl) zzy;refine⟨.slice (some ⟨w.heap.size,0,none⟩) n.toNat m.toNat,_,e',?_,he,ql,VR.Ey g2 g1 (by rw[g3];simp) zzz (aaC _) (λ_=>rfl) (by rw[g4];simp)⟩;simp only[Instr.makeSlice,Sem.run_bind,aL hu,Result.andThen_ok,asInt,asIntOf,Sem.run_pure,rC jL,w1,w2,zz1 FC,run_askRoom,iZ hs];rw[zz1 h0];simp[uQ FJ gC,newRow];congr 2;apply aes.1;simp
    ·cases hb
   ·cases hb
  ·cases hb
 ·cases hb
theorem RH.new (h:RH G F W e H w)(ha:Am.alloc H o=some (i,H'))(eT:∀e',e.le e'->e'.d i=0->OR e' i o ob):
  ∃e',e.le e'/\i<e'.N/\e'.b i=w.heap.size/\e'.d i=0/\RH G F W e' H' {w with heap:=w.heap.push ob}:=by
 have B8:i=e.N:=(Al ha).1.trans h.N.symm;obtain⟨hi,hr⟩:=h.alloc (d:=0) (n:=0) ha (eT _ (Em.rp ..) (by rw[B8];exact Em.po ..));subst hi;exact⟨_,Em.rp ..,by simp[Em.ext],Em.pj ..,Em.po ..,hr⟩
theorem VR.alq {b:Nat}(hb:e.b i=b)(hi:i<e.N)(hd:e.d i=0):VR e (.ptr i 0) (.pointer (some ⟨b,0,none⟩)):=by subst hb;exact .ptr i 0 0 hi (by rw[hd];simp)
theorem VR.DO {b:Nat}(hb:e.b i=b)(hi:i<e.N):VR e (.map i) (.map (some b)):=by subst hb;exact .map i hi
theorem aoI (h:RH G F W e H w){t:Nat}(ha:Am.alloc H (.map [] 0)=some (i,H')):
  ∃v' w' e',(Instr.makeMap t none).run P w=.ok v' w'/\e.le e'/\RH G F W e' H' w'/\VR e' (.map i) v':=by
 obtain⟨e',he,g1,g2,g3,hr⟩:=h.new (ob:=.map #[] 0) ha (λe' _ _=>.map _ _ _ _ [] (List.Perm.refl _) ⟨rfl,zzy⟩ zzy zzy);exact⟨.map (some w.heap.size),_,e',by simp[Instr.makeMap],he,hr,.DO g2 g1⟩
theorem az4 (h:RH G F W e H w){t:Nat}{v:AV}(hx:VR e x x')(hb:Cl P t x H=some (v,H')):
  ∃v' w' e',(Instr.range t x').run P w=.ok v' w'/\e.le e'/\RH G F W e' H' w'/\VR e' v v':=by
 unfold Cl at hb;split at hb;·rename_i s hu;obtain⟨b,rfl,rfl⟩:=hx.nD;simp only[aal,acC] at hb;obtain⟨⟨i,H2⟩,hn,rfl,rfl⟩:=hb;obtain⟨e',he,g1,g2,g3,hr⟩:=h.new (ob:=.stringIter b 0) hn (λe' _ hd=>.va _ _ _ rfl hd);exact⟨.pointer (some ⟨w.heap.size,0,none⟩),_,e',by simp[Instr.range,aL hu],he,hr,.alq g2 g1 g3⟩
 ·cases hb
theorem aAN {s:ByteArray}{pos b:Nat}{r:List Nat}(h:(bytes s).drop pos=b::r)(hb:b<128):pos<s.size/\Utf8.decode s pos=(b,1):=by
 have hlen:((bytes s).drop pos).length=s.size-pos:=by rw[af5,Au]
 rw[h] at hlen;simp at hlen;have aQ:pos<s.size:=zzz;refine⟨aQ,?_⟩;have h0:(bytes s)[pos]?=some b:=by have:=ahf (xs:=bytes s) (i:=pos) (j:=0);rw[h] at this;simpa using this.symm
 simp only[bytes,acV,aal] at h0;obtain⟨u,hu,rfl⟩:=h0;have gj:s.get! pos=u:=by
  cases s with
  |mk d=>
   have hd:pos<d.size:=aQ;have:=(aak.1 hu).2;simp only[ByteArray.get!];rw[getElem!_pos d pos hd,<-this];simp
 unfold Utf8.decode;simp only[ae9,gj];rw[zz2 hb]
theorem avn {b:Nat}{o:Obj}(hb:w.heap[b]?=some ob)(hn:∀c el fz,ob ≠ .cells c el fz):(Go.setObj b o).run P w=.ok () {w with heap:=w.heap.setIfInBounds b o}:=by cases ob<;>first|(exact absurd rfl (hn _ _ _))|(simp[Go.setObj,Sem.run,hb])
theorem aqY {b:Nat}(hb:w.heap[b]?=some ob)(hn:∀c el fz,ob ≠ .cells c el fz):(Go.getObj b).run P w=.ok ob w:=by cases ob<;>first|(exact absurd rfl (hn _ _ _))|(simp[Go.getObj,Sem.run,hb])
theorem RH.awv (h:RH G F W e H w){o2:AO}(hg:H.h.get i=some o)(hw:wr o=true){rM:Obj}(hb:w.heap[e.b i]?=some ob)(eT:OR e i o2 rM):
  RH G F W e (Am.setObj H i o2) {w with heap:=w.heap.setIfInBounds (e.b i) rM}:=by
 have aQ:=(adh.1 hb).1;refine h.put hg hw (sD:=rM) zzy (by simp[aQ]) (λk hk=>?_) eT rfl rfl rfl;simp only;rw[agY (λq=>hk q.symm)]
theorem VR.aAM {a b:AV}{a' b':Value}(ha:VR e a a')(hb:VR e b b')(hc:VR e c c'):VR e (.tuple [a,b,c]) (.tuple #[a',b',c']):=
 .tuple' (.cons ha (.cons hb (.cons hc (.nil e))))
theorem atY (h:RH G F W e H w){t:Nat}{it v:AV}{Mq:Value}{uC:Bool}{H':Hp}(hx:VR e it Mq)(hb:AD it uC H=some (v,H')):
  ∃v' w',(Instr.next Mq uC t).run P w=.ok v' w'/\RH G F W e H' w'/\VR e v v':=by
 unfold AD at hb;split at hb
 ·rename_i i;obtain⟨o,hi,ho,rfl⟩:=hx.vb;split at hb
  ·rename_i s pos hg;obtain⟨_,ob,eN,eT,hF⟩:=h.obj i _ hg;cases eT with
   |va _ _ s' hs hd=>
   have ZZ:o=0:=zzz;subst ZZ;have gj:(Go.getObj (e.b i)).run P w=.ok (.stringIter s' pos) w:=aqY eN zzy;split at hb
   ·rename_i Dt;cases hb;have hlen:=congrArg List.length Dt;rw[af5,<-hs,Au] at hlen;have uo:¬pos<s'.size:=by simp at hlen;omega
    exact⟨_,w,by simp[Instr.next,gj,uo],h,.tuple' (.cons (.bool false) (.nil e))⟩
   ·rename_i b r Dt;cases aQ:Nat.blt b 128 with
    |false=>rw[aQ] at hb;cases hb
    |true=>
     rw[aQ] at hb;cases hb;rw[aeI] at aQ;rw[<-hs] at Dt;obtain⟨JD,arT⟩:=aAN Dt aQ;refine⟨_,{w with heap:=w.heap.setIfInBounds (e.b i) (.stringIter s' (pos+1))},?_,h.awv hg rfl eN (.va _ _ _ hs hd),VR.aAM (.bool true) (.int _ _) (.int _ _)⟩;have fO:(Go.setObj (e.b i) (.stringIter s' (pos+1))).run P w=.ok () {w with heap:=w.heap.setIfInBounds (e.b i) (.stringIter s' (pos+1))}:=avn eN zzy;simp only[Instr.next,Sem.run_bind,gj,Result.andThen_ok,JD,if_true,arT,fO];rfl
  ·cases hb
 ·cases hb
theorem aEP (h:RH G F W e H w){it v:AV}{Mq:Value}(hx:VR e it Mq)(hb:Q1 it H=some v):
  ∃v',(Instr.entry Mq).run P w=.ok v' w/\VR e v v':=by
 unfold Q1 at hb;cases hb
theorem aEX {xW t:TypeId}{v:AV}{ok:Bool}(hx:VR e x x')(hb:KI P xW x ok=some v)(w:World):
  ∃v',(Instr.typeAssert x' t xW ok).run P w=.ok v' w/\VR e v v':=by
 unfold KI at hb;split at hb;·cases hb
 ·rename_i d t2 u aF hu;cases hx with
  |iface _ _ u' hr=>
  split at hb
  ·rename_i ht;subst ht;have hd:∀ms,d ≠ .interface ms:=λms q=>aF ms q;cases ok with
   |true=>
    cases hb;refine⟨.tuple #[u',.bool true],?_,hr.pair (.bool true)⟩;cases d<;>first|(exact absurd rfl (hd _))|simp[Instr.typeAssert,aL hu]
   |false=>
    cases hb;refine⟨u',?_,hr⟩;cases d<;>first|(exact absurd rfl (hd _))|simp[Instr.typeAssert,aL hu]
  ·cases hb
 ·cases hb
end
end
end
section
variable {P:Program}{G:Nat}{F:Nat->Prop}{W:World}{e:Em}{H:Hp}{w:World}
theorem aBO {t:TypeId}{ps:List (Nat×AV)}{ps':Array (Nat×Value)}{v:AV}(hp:wE e ps ps'.toList)(hb:JE P t ps=some v)(w:World):
  ∃v',(Instr.build t ps').run P w=.ok v' w/\VR e v v':=by
 unfold JE at hb;split at hb
 ·rename_i z fs hz hu;split at hb;·rename_i pl iY;simp only[aal] at hb;obtain⟨out,hf,rfl⟩:=hb;exact aDF hz hu iY hp hf w
  ·cases hb
 ·rename_i z n el hz hu;split at hb;·rename_i s hs;simp only[aal] at hb;obtain⟨out,hf,rfl⟩:=hb;exact awg hz hu hs hp hf w
  ·cases hb
 ·cases hb
theorem aV.IC {ρ:Operand->AV}{σ:Operand->Value}(h:∀x,VR e (ρ x) (σ x))(l:Array Operand):aV e (l.toList.map ρ) (l.map σ).toList:=by rw[Array.toList_map];exact aV.map h _
theorem auO (h:RH G F W e H w){b:Builtin}{cB:Array TypeId}{ty:TypeId}{cs:Array Bool}{args:List AV}{G0:Array Value}{v:AV}{H':Hp}(ha:aV e args G0.toList)(hb:iW P b cB args H=some (v,H')):
  eR P G F W e v H' ((builtin b cB ty cs G0).run P w):=by
 have two:∀{s x:AV},aV e [s,x] G0.toList->∃s' x',G0=#[s',x']/\VR e s s'/\VR e x x':=by intro s x h2;obtain⟨s',r,h1,hs,hr⟩:=h2.cons_inv;obtain⟨x',r',rfl,hx,dA⟩:=hr.cons_inv;rw[dA.lH] at h1;exact⟨s',x',aes.1 h1,hs,hx⟩
 have one:∀{s:AV},aV e [s] G0.toList->∃s',G0=#[s']/\VR e s s':=by intro s h2;obtain⟨s',r,h1,hs,hr⟩:=h2.cons_inv;rw[hr.lH] at h1;exact⟨s',aes.1 h1,hs⟩
 unfold iW at hb;split at hb;·obtain⟨s',x',rfl,hs,hx⟩:=two ha;obtain⟨v',w',e',h1,h2,h3,h4⟩:=aEO (P:=P) (ty:=ty) h hs hx hb;exact eR.val h1 h2 h3 h4
 ·obtain⟨s',x',rfl,hs,hx⟩:=two ha;obtain⟨v',w',h1,h3,h4⟩:=asc (P:=P) (ty:=ty) h hs hx hb;exact eR.val h1 e.le_refl h3 h4
 ·obtain⟨s',x',rfl,hs,hx⟩:=two ha;simp only[aal,acC] at hb;obtain⟨H2,hd,rfl,rfl⟩:=hb;obtain⟨w',h1,h3⟩:=aC6 (P:=P) (ty:=ty) h hs hx hd;exact eR.val h1 e.le_refl h3 .undef
 ·obtain⟨s',rfl,hs⟩:=one ha;simp only[aal,acC] at hb;obtain⟨H2,hd,rfl,rfl⟩:=hb;obtain⟨w',h1,h3⟩:=amV (P:=P) (ty:=ty) h hs hd;exact eR.val h1 e.le_refl h3 .undef
 ·obtain⟨s',rfl,hs⟩:=one ha;simp only[aal,acC] at hb;obtain⟨v2,hd,rfl,rfl⟩:=hb;obtain⟨v',h1,h3⟩:=aBG (P:=P) (ty:=ty) h hs hd;exact eR.pure h h1 h3
 ·obtain⟨s',rfl,hs⟩:=one ha;simp only[aal,acC] at hb;obtain⟨v2,hd,rfl,rfl⟩:=hb;obtain⟨v',h1,h3⟩:=aDW (P:=P) (ty:=ty) hs hd w;exact eR.pure h h1 h3
 ·rename_i x r;simp only[aal,acC] at hb;obtain⟨v2,hd,rfl,rfl⟩:=hb;obtain⟨x',r',nz,hx,hr⟩:=ha.cons_inv;obtain⟨v',h1,h3⟩:=abb (P:=P) (w:=w) hx hr hd;refine eR.pure h (v':=v') ?_ h3;unfold Builtin.min_;rw[nz];exact h1
 ·rename_i x r;simp only[aal,acC] at hb;obtain⟨v2,hd,rfl,rfl⟩:=hb;obtain⟨x',r',nz,hx,hr⟩:=ha.cons_inv;obtain⟨v',h1,h3⟩:=abB (P:=P) (w:=w) hx hr hd;refine eR.pure h (v':=v') ?_ h3;unfold Builtin.max_;rw[nz];exact h1
 ·obtain⟨s',rfl,hs⟩:=one ha;cases hs;cases hb;exact eR.pure h (Go.Lib.run_unsafeSliceData_nil (P:=P) w cB ty 0 0) .db
 ·rename_i i off l c a1 a2;obtain⟨s',rfl,hs⟩:=one ha;cases hl:Nat.blt 0 l with
  |false=>rw[hl] at hb;cases hb
  |true=>
   rw[hl] at hb;cases hb;rw[aeI] at hl;rcases hs.nf with⟨o,cc,hi,ho,lP,hc,jQ,hn,rfl⟩|⟨rfl,_,a,rfl⟩;·exact eR.pure h (Go.Lib.run_unsafeSliceData_row (P:=P) w cB ty ⟨e.b i,o,none⟩ l cc zzz) (.ptr _ _ _ hi ho)
   ·omega
 ·rename_i p k n;obtain⟨p',k',rfl,hp,hk⟩:=two ha;cases hk.gV;obtain⟨v',w',h1,h3,h4⟩:=axl (P:=P) (ty:=ty) h hp hb;exact eR.val h1 e.le_refl h3 h4
 ·cases hb
theorem aDq {x v:AV}{x':Value}(hx:VR e x x')(hb:aJ x=some v):
  v=x/\((∃a,x'=.pointer (some a))\/(∃f a b,x'=.func (.func f) a b)\/∃t u,x'=.iface t u):=by
 unfold aJ at hb;split at hb;·cases hb;obtain⟨o,_,_,rfl⟩:=hx.vb;exact⟨rfl,.inl ⟨_,rfl⟩⟩
 ·cases hb;cases hx;exact⟨rfl,.inr (.inl ⟨_,_,_,rfl⟩)⟩
 ·cases hb;cases hx;exact⟨rfl,.inr (.inr ⟨_,_,rfl⟩)⟩
 ·cases hb
end
section
variable {e:Em}{ρ:Operand->AV}{σ:Operand->Value}
theorem yQ.map (h:∀x,VR e (ρ x) (σ x)):∀o:Option Operand,yQ e (o.map ρ) (o.map σ)
 |none=>trivial|some x=>h x
theorem wE.IC (h:∀x,VR e (ρ x) (σ x))(l:Array (Nat×Operand)):
  wE e (l.toList.map λ(i,x)=>(i,ρ x)) (l.map λ(i,x)=>(i,σ x)).toList:=by
 rw[Array.toList_map];exact wE.map h _
theorem ayL {P:Program}{G:Nat}{F:Nat->Prop}{W:World}{e:Em}{H:Hp}{w:World}(h:RH G F W e H w){ρ:Operand->AV}{σ:Operand->Value}(hρ:∀x,VR e (ρ x) (σ x)){o:Oper}{v:AV}{H':Hp}(ha:jx P ρ o H=some (v,H')):
  eR P G F W e v H' ((execOp σ o).run P w):=by
 unfold jx at ha;unfold execOp;split at ha;·rename_i x aR;cases ha;rw[aR];exact⟨.value (σ x),w,e,σ x,rfl,.inl rfl,e.le_refl,h,hρ x⟩
 ·rename_i x aR;cases ha;rw[aR];exact⟨.value (σ x),w,e,σ x,rfl,.inl rfl,e.le_refl,h,hρ x⟩
 ·rename_i c a b aR;rw[aR];split at ha
  ·rename_i t ht;cases ha;have hc:=hρ c;rw[ht] at hc;have hc':=hc.yu;cases t with
   |true=>exact⟨.value (σ a),w,e,σ a,by simp[hc',asBool],.inl rfl,e.le_refl,h,hρ a⟩|false=>exact⟨.value (σ b),w,e,σ b,by simp[hc',asBool],.inl rfl,e.le_refl,h,hρ b⟩
  ·cases ha
 ·rename_i t aR;rw[aR];split at ha;·rename_i l hl;simp only[aal,acC] at ha;obtain⟨⟨i,H2⟩,hn,rfl,rfl⟩:=ha;obtain⟨v',w',e',h1,h2,h3,h4⟩:=anp (P:=P) h hl hn;exact eR.val h1 h2 h3 h4
  ·cases ha
 ·rename_i t x aR;rw[aR];split at ha;·rename_i l hl;simp only[aal,acC] at ha;obtain⟨⟨i,H2⟩,hn,rfl,rfl⟩:=ha;obtain⟨v',w',e',h1,h2,h3,h4⟩:=aqi (P:=P) h (hρ x) hl hn;exact eR.val h1 h2 h3 h4
  ·cases ha
 ·rename_i t parts aR;rw[aR];simp only[aal,acC] at ha;obtain⟨v2,hb,rfl,rfl⟩:=ha;obtain⟨v',h1,h2⟩:=aBO (wE.IC hρ parts) hb w;exact eR.pure h h1 h2
 ·rename_i t len parts aR;rw[aR];obtain⟨v',w',e',h1,h2,h3,h4⟩:=atB (P:=P) h (wE.IC hρ parts) ha;exact eR.val h1 h2 h3 h4
 ·rename_i t m k x aR;rw[aR];simp only[aal,acC] at ha;obtain⟨H2,hb,rfl,rfl⟩:=ha;obtain⟨w',h1,h3⟩:=agh (P:=P) h (hρ m) (hρ k) (hρ x) hb;exact eR.unit h1 e.le_refl h3
 ·rename_i t m k x aR;rw[aR];simp only[aal,acC] at ha;obtain⟨H2,hb,rfl,rfl⟩:=ha;obtain⟨w',h1,h3⟩:=agh (P:=P) h (hρ m) (hρ k) (hρ x) hb;exact eR.unit h1 e.le_refl h3
 ·rename_i t a aR;rw[aR];simp only[aal,acC] at ha;obtain⟨v2,hb,rfl,rfl⟩:=ha;obtain⟨v',h1,h2⟩:=abL h (hρ a) hb;exact eR.pure h h1 h2
 ·rename_i t a x aR;rw[aR];simp only[aal,acC] at ha;obtain⟨H2,hb,rfl,rfl⟩:=ha;obtain⟨w',h1,h3⟩:=apv (P:=P) h (hρ a) (hρ x) hb;exact eR.unit h1 e.le_refl h3
 ·rename_i x aR;rw[aR];simp only[aal,acC] at ha;obtain⟨v2,hb,rfl,rfl⟩:=ha;obtain⟨rfl,h1⟩:=aDq (hρ x) hb;refine⟨.value (σ x),w,e,σ x,?_,.inl rfl,e.le_refl,h,hρ x⟩;rcases h1 with⟨a,q⟩|⟨f,a,b,q⟩|⟨t,u,q⟩<;>(simp only[q];rfl)
 ·rename_i op t x y ty aR;rw[aR];cases hg:vR P op t x y (ρ x) (ρ y) with
  |false=>rw[hg] at ha;cases ha
  |true=>
   rw[hg] at ha;simp only[cond_true,aal,acC] at ha;obtain⟨v2,hb,rfl,rfl⟩:=ha;obtain⟨v',h1,h2⟩:=aAu h (hρ x) (hρ y) hb;have h0:=aD6 (w:=w) (hρ x) (hρ y) hg hb;refine eR.pure h (v':=v') ?_ h2;rw[Sem.run_bind,h0];exact h1
 ·rename_i op t x aR;rw[aR];simp only[aal,acC] at ha;obtain⟨v2,hb,rfl,rfl⟩:=ha;obtain⟨v',h1,h2⟩:=asG (P:=P) (hρ x) hb w;exact eR.pure h h1 h2
 ·rename_i a b x aR;rw[aR];obtain⟨v',w',e',h1,h2,h3,h4⟩:=azy (P:=P) h (hρ x) ha;exact eR.val h1 h2 h3 h4
 ·rename_i t x aR;rw[aR];simp only[aal,acC] at ha;obtain⟨v2,hb,rfl,rfl⟩:=ha;unfold Py at hb;split at hb;·cases hb
  ·rename_i d aF hu;cases hb;have hd:∀ms,d ≠ .interface ms:=λms q=>aF ms q;refine eR.pure h (v':=.iface t (σ x)) ?_ (.iface _ _ _ (hρ x));cases d<;>first|(exact absurd rfl (hd _))|simp[Instr.makeInterface,aL hu]
  ·cases hb
 ·rename_i fn a b aR;rw[aR];simp only[aal,acC] at ha;obtain⟨v2,hb,rfl,rfl⟩:=ha;have h1:=aV.IC hρ a;have h2:=aV.IC hρ b;unfold P1 at hb;split at hb;·cases hb
  ·rename_i aF;cases hb;exact eR.pure h (v':=.func fn (a.map σ) (b.map σ)) (by simp[Instr.makeFunc]) (.func fn aF _ _ _ _ h1.1 h2.1 h1.2 h2.2)
 ·rename_i t aR;rw[aR];simp only[aal,acC] at ha;obtain⟨⟨i,H2⟩,hn,rfl,rfl⟩:=ha;obtain⟨v',w',e',h1,h2,h3,h4⟩:=aoI (P:=P) (t:=t) h hn;exact eR.val h1 h2 h3 h4
 ·rename_i t l c aR;rw[aR];obtain⟨v',w',e',h1,h2,h3,h4⟩:=azH (P:=P) h (hρ l) (hρ c) ha;exact eR.val h1 h2 h3 h4
 ·rename_i t x lo hi mx aR;rw[aR];simp only[aal,acC] at ha;obtain⟨v2,hb,rfl,rfl⟩:=ha;obtain⟨v',h1,h2⟩:=auE h (hρ x) (yQ.map hρ lo) (yQ.map hρ hi) (yQ.map hρ mx) hb;exact eR.pure h h1 h2
 ·rename_i t x f aR;rw[aR];simp only[aal,acC] at ha;obtain⟨v2,hb,rfl,rfl⟩:=ha;unfold Oa at hb;split at hb
  ·rename_i fs i off hu hx;split at hb
   ·rename_i fd Mv;cases hp:BX P fd.type with
    |false=>rw[hp] at hb;cases hb
    |true=>
     rw[hp] at hb;cases hb;obtain⟨n,hn⟩:∃n,sz P fd.type=some (n+1):=by
      unfold BX at hp;split at hp;·rename_i n hn;exact⟨n,hn⟩
      ·cases hp
     have sA:=hρ x;rw[hx] at sA;obtain⟨v',h1,h2⟩:=aoT sA hu Mv hn zzz w;exact eR.pure h h1 h2
   ·cases hb
  ·cases hb
 ·rename_i t x f aR;rw[aR];simp only[aal,acC] at ha;obtain⟨v2,hb,rfl,rfl⟩:=ha;unfold Kc at hb;split at hb
  ·rename_i fs cs hu hx;split at hb;·rename_i fd Mv;obtain⟨v',h1,h2⟩:=at6 (hρ x) hu Mv hx hb w;exact eR.pure h h1 h2
   ·cases hb
  ·cases hb
 ·rename_i t x ix aR;rw[aR];simp only[aal,acC] at ha;obtain⟨v2,hb,rfl,rfl⟩:=ha;obtain⟨v',h1,h2⟩:=avK (hρ x) (hρ ix) hb w;exact eR.pure h h1 h2
 ·rename_i t x ix aR;rw[aR];simp only[aal,acC] at ha;obtain⟨v2,hb,rfl,rfl⟩:=ha;obtain⟨v',h1,h2⟩:=am5 (hρ x) (hρ ix) hb w;exact eR.pure h h1 h2
 ·rename_i t x k ok aR;rw[aR];simp only[aal,acC] at ha;obtain⟨v2,hb,rfl,rfl⟩:=ha;obtain⟨v',h1,h2⟩:=aAO h (hρ x) (hρ k) hb;exact eR.pure h h1 h2
 ·rename_i t x aR;rw[aR];obtain⟨v',w',e',h1,h2,h3,h4⟩:=az4 (P:=P) h (hρ x) ha;exact eR.val h1 h2 h3 h4
 ·rename_i it uC aR;rw[aR];obtain⟨v',w',h1,h3,h4⟩:=atY (P:=P) (t:=o.type) h (hρ it) ha;exact eR.val h1 e.le_refl h3 h4
 ·rename_i it aR;rw[aR];simp only[aal,acC] at ha;obtain⟨v2,hb,rfl,rfl⟩:=ha;obtain⟨v',h1,h2⟩:=aEP (P:=P) h (hρ it) hb;exact eR.pure h h1 h2
 ·rename_i t ix aR;rw[aR];split at ha;·rename_i l hl;simp only[aal,acC] at ha;obtain⟨v2,hb,rfl,rfl⟩:=ha;have ht:=hρ t;rw[hl] at ht;obtain⟨vs,u9,hr⟩:=ht.aic;obtain⟨v',bS,jh⟩:=hr.get hb;rw[aeW] at bS;exact eR.pure h (v':=v') (by rw[u9];simp[Instr.extract,bS]) jh
  ·cases ha
 ·rename_i x t xW ok aR;rw[aR];simp only[aal,acC] at ha;obtain⟨v2,hb,rfl,rfl⟩:=ha;obtain⟨v',h1,h2⟩:=aEX (P:=P) (t:=t) (hρ x) hb w;exact eR.pure h h1 h2
 ·rename_i c aR;rw[aR];split at ha
  ·rename_i b hc;have nz:=aV.IC hρ c.args;have FN:(do let d <-resolve σ c o.type;invoke d.target d.args:Sem Next)=builtin b c.argTypes o.type (c.args.map λ|.const _=>true|_=>false) (c.args.map σ):=by unfold resolve;rw[hc];rfl
   show eR P G F W e v H' ((do let d <-resolve σ c o.type;invoke d.target d.args:Sem Next).run P w);rw[FN];exact auO h nz ha
  ·cases ha
 ·cases ha
end
end
variable {P:Program}
section
variable {ρ ρ':Operand->AV}
theorem ZC {l:List Operand}(h:∀x∈l,ρ x=ρ' x):l.map ρ=l.map ρ':=List.map_congr_left h
theorem alp {l:List (Nat×Operand)}(h:∀x∈l.map (·.2),ρ x=ρ' x):(l.map λ(i,x)=>(i,ρ x))=l.map λ(i,x)=>(i,ρ' x):=by apply List.map_congr_left;intro a ha;obtain⟨i,x⟩:=a;simp only;rw[h x (acx.2 ⟨(i,x),ha,rfl⟩)]
theorem av7 (o:Oper)(H:Hp)(h:∀x∈o.op.operands.toList,ρ x=ρ' x):jx P ρ o H=jx P ρ' o H:=by
 unfold jx;cases aR:o.op<;>rw[aR] at h<;>simp only[Op.operands] at h⊢
 case move x=>rw[h x zzy]
 case assign x=>rw[h x zzy]
 case pick c a b=>rw[h c zzy,h a zzy,h b zzy]
 case box t x=>rw[h x zzy]
 case build t ps=>rw[alp (by simpa using h)]
 case buildSlice t l ps=>rw[alp (by simpa using h)]
 case insert t m k v=>rw[h m zzy,h k zzy,h v zzy]
 case mapUpdate t m k v=>rw[h m zzy,h k zzy,h v zzy]
 case load t a=>rw[h a zzy]
 case store t a v=>rw[h a zzy,h v zzy]
 case nilCheck x=>rw[h x zzy]
 case binOp op t x y ty=>rw[h x zzy,h y zzy]
 case unOp op t x=>rw[h x zzy]
 case convert a b x=>rw[h x zzy]
 case makeInterface t x=>rw[h x zzy]
 case makeFunc fn a b=>
  rw[ZC (l:=a.toList) (λx hx=>h x (by simp at hx⊢;exact .inl hx)),ZC (l:=b.toList) (λx hx=>h x (by simp at hx⊢;exact .inr hx))]
 case makeMap t r=>cases r<;>rfl
 case makeSlice t l c=>rw[h l zzy,h c zzy]
 case slice t x lo hi mx=>
  have q:∀y:Option Operand,(∀z∈y.toList,ρ z=ρ' z)->y.map ρ=y.map ρ':=by
   intro y hy;cases y with
   |none=>rfl|some z=>simp only[aeL];rw[hy z zzy]
  rw[h x zzy,q lo (λz hz=>h z (by simp at hz⊢;simp[hz])),q hi (λz hz=>h z (by simp at hz⊢;simp[hz])),q mx (λz hz=>h z (by simp at hz⊢;simp[hz]))]
 case fieldAddr t x f=>rw[h x zzy]
 case field t x f=>rw[h x zzy]
 case indexAddr t x ix=>rw[h x zzy,h ix zzy]
 case index t x ix=>rw[h x zzy,h ix zzy]
 case lookup t x k ok=>rw[h x zzy,h k zzy]
 case range t x=>rw[h x zzy]
 case next it s=>rw[h it zzy]
 case entry it=>rw[h it zzy]
 case typeAssert x t xW ok=>rw[h x zzy]
 case extract t ix=>rw[h t zzy]
 case call c=>
  cases hc:c.callee with
  |builtin b=>
   simp only;rw[ZC (l:=c.args.toList) (λx hx=>h x (by simp[Call.operands,hc] at hx⊢;exact hx))]
  |value f=>rfl|invoke r m=>rfl
end
end
def HP (G:Nat)(F:Nat->Prop)(W:World)(e:Em)(v:AV)(H':Hp)(en:Ending)(w':World):Prop:=
 ∃e' v',en=.returned v'/\e.le e'/\RH G F W e' H' w'/\VR e' v v'
def xm (P:Program)(cf:CF):Prop:=
 ∀(g:AV) (args:List AV) (H:Hp) (v:AV) (H':Hp),cf g args H=some (v,H')->
  ∃aU first cap,g=.func (.func aU) first cap/\∀(F:Nat->Prop) (W:World) (e:Em) (w:World) (as':Array Value),RH P.globals.size F W e H w->aV e (first++args++cap) as'.toList->
   (∃v' w' e',(callFunc aU as').run P w=.ok (.value v') w'/\e.le e'/\RH P.globals.size F W e' H' w'/\VR e' v v')\/
   ((callFunc aU as').run P w=.ok (.enter aU as') w/\Calls P aU as' w (HP P.globals.size F W e v H'))
section
variable {P:Program}{F:Nat->Prop}{W:World}{e:Em}{H:Hp}{w:World}
structure TR (e:Em)(n:Nat)(t:Tm)(a:Act):Prop where
 size:n<=a.tmps.size
 val:∀x,VR e ((t.get x).getD bP) (a.tmps.getD x undef)
section
variable {H':Hp}{Q:Exit->Act->World->Prop}{a:Act}{cB:Array TypeId}{cf:CF}{e:Em}{ops:Array Oper}{t':Tm}{σ:Operand->Value}
theorem TR.mono {e':Em}(h:e.le e'){n:Nat}{t:Tm}(k:TR e n t a):TR e' n t a:=⟨k.size,λx=>(k.val x).mono h⟩
theorem VR.ev (h:RH P.globals.size F W e H w){n:Nat}{t:Tm}{a:Act}(ht:TR e n t a)(x:Operand):VR e (ev P.globals.size t x) (a.eval x):=by
 cases x with
 |tmp d=>exact ht.val d|const v=>
  simp only[Am.ev,Act.eval];cases hc:Am.kK v with
  |none=>exact .du v|some c=>exact .kK hc
 |global g=>
  simp only[Am.ev,Act.eval];cases hb:Nat.blt g P.globals.size with
  |false=>exact .du _|true=>
   rw[aeI] at hb;obtain⟨h1,h2,h3⟩:=h.ub g hb;have:=VR.ptr (e:=e) g 0 0 h1 (by rw[h3];simp);rw[h2] at this;exact this
 |func f=>exact .func _ zzy [] [] #[] #[] rfl rfl zzy zzy
theorem afs {t:Array Value}{d x:Nat}{v:Value}(h:d<t.size):(t.setIfInBounds d v).getD x undef=if x=d then v else t.getD x undef:=by
 simp only[ahi];by_cases hx:x=d;·subst hx;rw[ajQ h,zz2 rfl];rfl
 ·rw[agY (λq=>hx q.symm),zz1 hx]
theorem TR.put {n:Nat}{t:Tm}(h:TR e n t a){dst:Option Tmp}{v:AV}{v':Value}(hp:iU n dst v t=some t')(hv:VR e v v'):TR e n t' (a.put dst v'):=by
 unfold iU at hp;split at hp;·cases hp;exact h
 ·rename_i d;cases hb:(Nat.blt d n&&Nat.blt d 4294967296) with
  |false=>rw[hb] at hp;cases hp
  |true=>
   rw[hb] at hp;cases hp;simp only[aaA,aeI] at hb;have aQ:d<a.tmps.size:=aec hb.1 h.size;refine⟨by simp only[Act.put,Array.size_setIfInBounds];exact h.size,λx=>?_⟩;simp only[Act.put];rw[afs aQ,Tr.M9 _ _ _ _ _ zzz];by_cases hx:x=d;·rw[zz2 hx,zz2 hx];exact hv
   ·rw[zz1 hx,zz1 hx];exact h.val x
theorem VR.arM {v:AV}{b:Bool}(h:VR e v (.bool b)):v=.bool b\/v=.du:=by
 cases h with
 |du=>exact .inr rfl|bool=>exact .inl rfl
theorem O9 {o:Oper}{t:Tm}{b:Bool}(hw:rH ops o t=some b)(hT:∀d,J8 ops o=some d->VR e ((t.get d).getD bP) (a.tmps.getD d undef)):
  Region.wanted o (yielded ops a.tmps)=b:=by
 unfold rH at hw;unfold Region.wanted;split at hw;·rename_i hg;cases hw;simp[hg]
 ·rename_i j want hg;simp only[hg];have Oq:J8 ops o=(ops[j]?).bind (·.dst):=by simp[J8,hg]
  unfold yielded;split at hw;·rename_i hd;cases hw;simp[hd]
  ·rename_i d hd;have hv:=hT d (by rw[Oq,hd]);simp only[hd,acQ];rw[ahi] at hv;split at hw
   ·rename_i hn;cases hw;rw[hn] at hv;obtain⟨vs,u9,_⟩:=VR.aic (l:=[]) hv;cases hq:a.tmps[d]? with
    |none=>simp|some u=>rw[hq] at u9;simp at u9;subst u9;simp
   ·rename_i c hc;cases hw;rw[hc] at hv;have:=hv.yu;cases hq:a.tmps[d]? with
    |none=>rw[hq] at this;simp[undef] at this|some u=>rw[hq] at this;simp at this;subst this;simp
   ·cases hw
   ·rename_i u UF RY hu;cases hw;rw[hu] at hv;cases hq:a.tmps[d]? with
    |none=>simp|some z=>
     rw[hq] at hv;simp at hv;cases z<;>simp;rename_i b;rcases hv.arM with r|r;·exact (UF _ r).elim
     ·exact (RY r).elim
theorem atG {f:Operand}{args:Array Operand}{ty aU:Nat}{first cap:Array Value}(hf:σ f=.func (.func aU) first cap):
  (do let d <-resolve σ {callee:=.value f,args,argTypes:=cB} ty;invoke d.target d.args:Sem Next)=callFunc aU (first++args.map σ++cap):=by
 unfold resolve;simp only[hf,Deferred.ofValue];rfl
theorem LB (iM:xm P cf)(h:RH P.globals.size F W e H w){t:Tm}{o:Oper}{v:AV}(ho:u7 P cf t o H=some (v,H'))
  (hT:∀x∈o.op.operands.toList,VR e (ev P.globals.size t x) (a.eval x)) {next:Act->World->Prop}
  (hn:∀e' v' w',e.le e'->RH P.globals.size F W e' H' w'->VR e' v v'->next (a.put o.dst v') w'):o.wp P a w next Q:=by
 classical
 let ρ:Operand->AV:=λx=>if x∈o.op.operands.toList then ev P.globals.size t x else .du
 have hρ:∀x,VR e (ρ x) (a.eval x):=by
  intro x;simp only[ρ];split;·rename_i hx;exact hT x hx
  ·exact .du _
 have hρe:∀x∈o.op.operands.toList,ev P.globals.size t x=ρ x:=by intro x hx;simp only[ρ,zz2 hx]
 have plain:jx P (ev P.globals.size t) o H=some (v,H')->o.wp P a w next Q:=by
  intro hA;rw[av7 o H hρe] at hA;obtain⟨n,w',e',v',hr,hv,he,hR,jh⟩:=ayL h hρ hA;unfold Oper.wp;rw[hr];rcases hv with rfl|⟨rfl,rfl⟩;·exact hn e' v' w' he hR jh
  ·exact hn e' _ w' he hR jh
 unfold u7 at ho;split at ho
 ·rename_i f args cB aR;obtain⟨aU,first,cap,hg,hs⟩:=iM _ _ _ _ _ ho;have V5:f∈o.op.operands.toList:=by simp[aR,Op.operands,Call.operands]
  have hf:=hT f V5;rw[hg] at hf;cases Yz:a.eval f with
  |func fn Uo wi=>
   rw[Yz] at hf;cases hf with
   |func _ _ _ _ _ _ ha hc h1 h2=>
   have nz:aV e (args.toList.map (ev P.globals.size t)) (args.map a.eval).toList:=by rw[Array.toList_map];refine⟨zzy,λi x x' hx vt=>?_⟩;simp only[acV,aal] at hx vt;obtain⟨z,hz,rfl⟩:=hx;obtain⟨z',DG,rfl⟩:=vt;rw[hz] at DG;cases DG;exact hT z (by simp[aR,Op.operands,Call.operands];exact .inr (by have:=aad hz;simpa using this))
   have mn:aV e (first++args.toList.map (ev P.globals.size t)++cap) (Uo++args.map a.eval++wi).toList:=by
    have q1:aV e first Uo.toList:=⟨ha,h1⟩
    have q2:aV e cap wi.toList:=⟨hc,h2⟩;have:=(q1.append nz).append q2;simpa using this
   have hex:execOp a.eval o=callFunc aU (Uo++args.map a.eval++wi):=by unfold execOp;rw[aR];exact atG Yz
   unfold Oper.wp;rw[hex];rcases hs F W e w _ h mn with⟨v',w',e',hr,he,hR,jh⟩|⟨hr,ax7⟩;·rw[hr];exact hn e' v' w' he hR jh
   ·rw[hr];refine ax7.mono ?_;rintro en VG ⟨e',v',rfl,he,hR,jh⟩;exact hn e' v' VG he hR jh
  |_=>rw[Yz] at hf;cases hf
 ·exact plain ho
theorem abD (iM:xm P cf){n:Nat}:∀(r:List Oper) (i:Nat) (t:Tm) (H:Hp) (e:Em) (a:Act) (w:World),
  ops.toList.drop i=r->vl P cf n ops r t H=some (t',H')->RH P.globals.size F W e H w->TR e n t a->
  (∀e' a' w',e.le e'->RH P.globals.size F W e' H' w'->TR e' n t' a'->a'.defers=a.defers->Q .normal a' w')->wpOps P ops Q (List.range' i r.length) a w:=by
 intro r;induction r with
 |nil=>
  intro i t H e a w hd hs hR hT hQ;cases hs;exact hQ e a w e.le_refl hR hT rfl
 |cons o r ih=>
  intro i t H e a w hd hs hR hT hQ;have hi:ops[i]?=some o:=by have:=congrArg (λl=>l[0]?) hd;simpa[ahf,aeW] using this
  have gh:ops.toList.drop (i+1)=r:=by have:=congrArg List.tail hd;simpa[List.tail_drop] using this
  rw[aaG,List.range'_succ];unfold vl at hs;split at hs
  ·rename_i hw;split at hs
   ·rename_i v H1 ho;split at hs;·rename_i t1 hp;simp only[wpOps,hi,O9 (e:=e) (a:=a) hw (λd _=>hT.val d),if_true];left;refine LB iM hR ho (λx _=>VR.ev hR hT x) ?_;intro e' v' w' he bg hv;have cq:=(hT.mono he).put hp hv;refine ih (i+1) t1 H1 e' _ w' gh hs bg cq ?_;intro e2 a2 w2 FW lT ze Bx;refine hQ e2 a2 w2 (Em.le_trans he FW) lT ze (Bx.trans ?_);cases o.dst<;>rfl
    ·cases hs
   ·cases hs
  ·rename_i hw;split at hs;·rename_i t1 hp;simp only[wpOps,hi,O9 (e:=e) (a:=a) hw (λd _=>hT.val d),abu,if_false];have cq:=hT.put hp VR.undef;refine ih (i+1) t1 H e _ w gh hs hR cq ?_;intro e2 a2 w2 FW lT ze Bx;refine hQ e2 a2 w2 FW lT ze (Bx.trans ?_);cases o.dst<;>rfl
   ·cases hs
  ·cases hs
end
end
end
def IU (o:Oper)(acc:List Nat):Nat:=o.after.toList.foldl (λs e=>if Region.binds .any e then s|||2^e.on|||acc.getD e.on 0 else s) 0
theorem ahm (acc:List Nat)(j:Nat):∀(l:List Edge) (s:Nat),(l.foldl (λs e=>if Region.binds .any e then s|||2^e.on|||acc.getD e.on 0 else s) s).testBit j=true->
  s.testBit j=true\/∃e∈l,Region.binds .any e=true/\(j=e.on\/(acc.getD e.on 0).testBit j=true)
 |[],s,h=>.inl h|e::l,s,h=>by
  rw[List.foldl_cons] at h;rcases ahm acc j l _ h with h1|⟨e',Oj,hb,hj⟩
  ·by_cases Ct:Region.binds .any e=true
   ·rw[zz2 Ct] at h1;rw[Nat.testBit_or,Nat.testBit_or,ajI,ajI] at h1;rcases h1 with (h1|h1)|h1;·exact .inl h1
    ·right;refine⟨e,List.mem_cons_self ..,Ct,.inl ?_⟩;rw[Nat.testBit_two_pow] at h1;exact (of_decide_eq_true h1).symm
    ·exact .inr ⟨e,List.mem_cons_self ..,Ct,.inr h1⟩
   ·rw[zz1 Ct] at h1;exact .inl h1
  ·exact .inr ⟨e',List.mem_cons_of_mem _ Oj,hb,hj⟩
theorem afu:∀(r:List Oper) (acc:List Nat),(before r acc).length=acc.length+r.length
 |[],acc=>by simp[before]
 |o::r,acc=>by rw[before,afu r];simp;omega
theorem Up:∀(r:List Oper) (acc:List Nat) (i:Nat),i<acc.length->(before r acc)[i]?=acc[i]?
 |[],acc,i,h=>by simp[before]
 |o::r,acc,i,h=>by rw[before,Up r _ i (by simp;omega)];rw[abE h]
theorem agB:∀(r:List Oper) (acc:List Nat) (i:Nat) (o:Oper),r[i]?=some o->(before r acc)[acc.length+i]?=some (IU o ((before r acc).take (acc.length+i)))
 |[],acc,i,o,h=>by simp at h
 |p::r,acc,i,o,h=>by
  cases i with
  |zero=>
   simp at h;subst h;rw[before,ae9,Up r _ _ zzy];have ht:(before r (acc++[IU p acc])).take acc.length=acc:=by
    apply ak7;intro k;rw[ajA];split;·rw[Up r _ k (by simp;omega),abE (by assumption)]
    ·rw[aid zzz]
   show (acc++[IU p acc])[acc.length]?=some (IU p ((before r (acc++[IU p acc])).take acc.length));rw[ht];simp
  |succ i=>
   have:=agB r (acc++[IU p acc]) i o (by simpa using h);rw[aam,List.length_singleton] at this;rw[before];have e1:acc.length+(i+1)=acc.length+1+i:=zzz;rw[e1];exact this
structure Form (ops:Array Oper)(B:List Nat):Prop where
 len:B.length=ops.size
 back:∀i o,ops[i]?=some o->∀e∈o.after,Region.binds .any e=true->e.on<i
 bit:∀i o,ops[i]?=some o->∀j,(B.getD i 0).testBit j=true->∃e∈o.after,Region.binds .any e=true/\(j=e.on\/(B.getD e.on 0).testBit j=true)
 one:∀(i j:Nat) (oi oj:Oper) (d:Tmp),ops[i]?=some oi->ops[j]?=some oj->oi.dst=some d->oj.dst=some d->i=j
 rd:∀(i j:Nat) (oi oj:Oper) (d:Tmp),ops[i]?=some oi->ops[j]?=some oj->oi.dst=some d->i≠j->IK ops oj d=true->if i<j then (B.getD j 0).testBit i=true else (B.getD i 0).testBit j=true
theorem axH {ops:Array Oper}(h:z6 ops=true):Form ops (before ops.toList []):=by
 unfold z6 at h;simp only at h;have hlen:(before ops.toList []).length=ops.size:=by rw[afu];simp
 have hz:∀i o,ops[i]?=some o->(i,(o,(before ops.toList []).getD i 0))∈(List.range ops.size).zip (ops.toList.zip (before ops.toList [])):=by intro i o ho;have hi:i<ops.size:=(adh.1 ho).1;apply aad (i:=i);rw[List.getElem?_zip_eq_some];refine⟨by simp[hi],?_⟩;rw[List.getElem?_zip_eq_some];refine⟨by simpa using ho,?_⟩;simp only;rw[ajp,aap (by rw[hlen];exact hi)];rfl
 rw[aeh] at h;have h1:∀i o,ops[i]?=some o->∀e∈o.after,Region.binds .any e=true->e.on<i:=by intro i o ho e he hb;have:=h _ (hz i o ho);rw[aaA] at this;have h2:=Array.all_eq_true_iff_forall_mem.1 this.1 e he;rw[hb] at h2;simpa using h2
 have h2:∀i j oi oj,ops[i]?=some oi->ops[j]?=some oj->PM ops i oi ((before ops.toList []).getD i 0) j oj ((before ops.toList []).getD j 0)=true:=by intro i j oi oj hi hj;have:=h _ (hz i oi hi);rw[aaA] at this;exact aeh.1 this.2 _ (hz j oj hj)
 refine⟨hlen,h1,?_,?_,?_⟩
 ·intro i o ho j hb;have hi:i<ops.size:=(adh.1 ho).1;have Gf:=agB ops.toList [] i o (by simpa using ho);simp only[acU,ad0] at Gf;rw[ajp,Gf] at hb;simp only[ahr] at hb;rcases ahm _ j _ 0 hb with hq|⟨e,he,Ct,hj⟩;·simp at hq
  ·have Oj:e∈o.after:=by simpa using he
   refine⟨e,Oj,Ct,hj.imp id λhq=>?_⟩;have aQ:=h1 i o ho e Oj Ct;rw[ajp,ajA,zz2 aQ] at hq;rw[ajp];exact hq
 ·intro i j oi oj d hi hj Z2 uf;have:=h2 i j oi oj hi hj;unfold PM at this;rw[Z2] at this;simp only[ajI,aaA] at this;rcases this with q|⟨q,_⟩;·exact abx q
  ·simp[uf] at q
 ·intro i j oi oj d hi hj Z2 aF hr;have:=h2 i j oi oj hi hj;unfold PM at this;rw[Z2] at this;simp only[ajI,aaA] at this;rcases this with q|⟨_,q⟩;·exact absurd (abx q) aF
  ·rcases q with q|q;·rw[hr] at q;simp at q
   ·by_cases aQ:i<j
    ·rw[zz2 aQ];have:Nat.blt i j=true:=by rw[aeI];exact aQ
     rw[this] at q;exact q
    ·rw[zz1 aQ];have:Nat.blt i j=false:=by
      cases hb:Nat.blt i j;·rfl
      ·rw[aeI] at hb;exact absurd hb aQ
     rw[this] at q;exact q
def kk (P:Program)(x:Bool)(o:Oper):Kd:=if x then kd P o else .pure
def PE (P:Program)(cf:CF)(n:Nat)(ops:Array Oper)(o:Oper)(x:Bool)(v:AV)(tp te lV lN:Tm)(hb hh vn zP:Hp):Prop:=
 rH ops o tp=some x/\
 match x,kd P o with
 |false,_=>v=bP/\iU n o.dst bP tp=some lV/\iU n o.dst bP te=some lN/\vn=hb/\zP=hh|true,.late=>jx P (ev P.globals.size te) o hh=some (v,zP)/\iU n o.dst .du tp=some lV/\iU n o.dst v te=some lN/\vn=hb|true,.dG=>u7 P cf te o hh=some (v,zP)/\iU n o.dst v tp=some lV/\iU n o.dst v te=some lN/\vn=zP|true,_=>(∃h',jx P (ev P.globals.size tp) o hb=some (v,h'))/\iU n o.dst v tp=some lV/\iU n o.dst v te=some lN/\vn=hb/\zP=hh
theorem aEl {P:Program}{cf:CF}{n:Nat}{ops:Array Oper}{B:List Nat}{tF:Tm}{HF:Hp}:∀(r:List Oper) (bs:List Nat) (i:Nat) (tp te:Tm) (hb hh:Hp) (l:List lD),
  ops.toList.drop i=r->B.drop i=bs->mL P cf n ops i r bs tp te hb hh=some (l,tF,HF)->
  ∃(TP TE:Nat->Tm) (HB HH:Nat->Hp) (V:Nat->AV) (X:Nat->Bool),TP i=tp/\TE i=te/\HB i=hb/\HH i=hh/\TE (i+r.length)=tF/\HH (i+r.length)=HF/\
   ∀j o,i<=j->ops[j]?=some o->PE P cf n ops o (X j) (V j) (TP j) (TE j) (TP (j+1)) (TE (j+1)) (HB j) (HH j) (HB (j+1)) (HH (j+1))/\
    (⟨j,o,B.getD j 0,X j,kk P (X j) o,V j,TP j,HB j,HB (j+1)⟩:lD)∈l:=by
 intro r;induction r with
 |nil=>
  intro bs i tp te hb hh l hd vF hr;simp only[mL,adn,acC] at hr;obtain⟨rfl,rfl,rfl⟩:=hr;refine⟨λ_=>tp,λ_=>te,λ_=>hb,λ_=>hh,λ_=>.du,λ_=>false,rfl,rfl,rfl,rfl,rfl,rfl,?_⟩;intro j o hj ho;have aQ:=(adh.1 ho).1;have:=congrArg List.length hd;simp at this;omega
 |cons o r ih=>
  intro bs i tp te hb hh l hd vF hr;have hi:ops[i]?=some o:=by have:=congrArg (λl=>l[0]?) hd;simpa[ahf,aeW] using this
  have gh:ops.toList.drop (i+1)=r:=by have:=congrArg List.tail hd;simpa[List.tail_drop] using this
  cases bs with
  |nil=>simp[mL] at hr|cons b bs=>
   have hbi:B.getD i 0=b:=by have:=congrArg (λl=>l[0]?) vF;simp[ahf] at this;simp[ajp,this]
   have aDi:B.drop (i+1)=bs:=by have:=congrArg List.tail vF;simpa[List.tail_drop] using this
   have fin:∀(x:Bool) (v:AV) (lV lN:Tm) (vn zP:Hp) (l':List lD),PE P cf n ops o x v tp te lV lN hb hh vn zP->mL P cf n ops (i+1) r bs lV lN vn zP=some (l',tF,HF)->
     l=⟨i,o,b,x,kk P x o,v,tp,hb,vn⟩::l'->
     ∃(TP TE:Nat->Tm) (HB HH:Nat->Hp) (V:Nat->AV) (X:Nat->Bool),TP i=tp/\TE i=te/\HB i=hb/\HH i=hh/\TE (i+(o::r).length)=tF/\HH (i+(o::r).length)=HF/\
   ∀j o,i<=j->ops[j]?=some o->PE P cf n ops o (X j) (V j) (TP j) (TE j) (TP (j+1)) (TE (j+1)) (HB j) (HH j) (HB (j+1)) (HH (j+1))/\
    (⟨j,o,B.getD j 0,X j,kk P (X j) o,V j,TP j,HB j,HB (j+1)⟩:lD)∈l:=by
    intro x v lV lN vn zP l' aBe BH hl;obtain⟨TP,TE,HB,HH,V,X,q1,q2,q3,q4,q5,q6,q7⟩:=ih bs (i+1) lV lN vn zP l' gh aDi BH;have aF:¬i+1=i:=zzz;refine⟨λj=>if j=i then tp else TP j,λj=>if j=i then te else TE j,λj=>if j=i then hb else HB j,λj=>if j=i then hh else HH j,λj=>if j=i then v else V j,λj=>if j=i then x else X j,
     by simp,zzy,zzy,zzy,?_,?_,?_⟩
    ·simp only[aaG];rw[zz1 zzz];have:i+(r.length+1)=i+1+r.length:=zzz;rw[this];exact q5
    ·simp only[aaG];rw[zz1 zzz];have:i+(r.length+1)=i+1+r.length:=zzz;rw[this];exact q6
    ·intro j oj hj zC;by_cases ya:j=i;·subst ya;rw[hi] at zC;cases zC;simp only[if_true,zz1 aF,q1,q2,q3,q4,hbi];refine⟨aBe,?_⟩;rw[hl];exact List.mem_cons_self ..
     ·have SX:¬j+1=i:=zzz;simp only[zz1 ya,zz1 SX];obtain⟨s1,s2⟩:=q7 j oj zzz zC;exact⟨s1,by rw[hl];exact List.mem_cons_of_mem _ s2⟩
   unfold mL at hr;split at hr
   ·rename_i hw;split at hr
    ·rename_i hk;split at hr
     ·rename_i v h' aR;split at hr;·rename_i lV lN h1 h2;simp only[aal,Prod.exists,acC] at hr;obtain⟨l',a,b',BH,rfl,rfl,rfl⟩:=hr;refine fin true v lV lN hb h' l' ⟨hw,?_⟩ BH (by simp[kk,hk]);rw[hk];exact⟨aR,h1,h2,rfl⟩
      ·cases hr
     ·cases hr
    ·rename_i hk;split at hr
     ·rename_i v h' aR;split at hr;·rename_i lV lN h1 h2;simp only[aal,Prod.exists,acC] at hr;obtain⟨l',a,b',BH,rfl,rfl,rfl⟩:=hr;refine fin true v lV lN h' h' l' ⟨hw,?_⟩ BH (by simp[kk,hk]);rw[hk];exact⟨aR,h1,h2,rfl⟩
      ·cases hr
     ·cases hr
    ·rename_i wT gZ;split at hr
     ·rename_i v h' aR;split at hr
      ·rename_i lV lN h1 h2;simp only[aal,Prod.exists,acC] at hr;obtain⟨l',a,b',BH,rfl,rfl,rfl⟩:=hr;refine fin true v lV lN hb hh l' ⟨hw,?_⟩ BH (by simp[kk]);cases cw:kd P o;·exact⟨⟨h',aR⟩,h1,h2,rfl,rfl⟩
       ·exact⟨⟨h',aR⟩,h1,h2,rfl,rfl⟩
       ·exact absurd cw wT
       ·exact absurd cw gZ
      ·cases hr
     ·cases hr
   ·rename_i hw;split at hr;·rename_i lV lN h1 h2;simp only[aal,Prod.exists,acC] at hr;obtain⟨l',a,b',BH,rfl,rfl,rfl⟩:=hr;refine fin false bP lV lN hb hh l' ⟨hw,rfl,h1,h2,rfl,rfl⟩ BH (by simp[kk])
    ·cases hr
   ·cases hr
end Go.Proofs.YtodfajmihkagnaaGreatDoor.Am
