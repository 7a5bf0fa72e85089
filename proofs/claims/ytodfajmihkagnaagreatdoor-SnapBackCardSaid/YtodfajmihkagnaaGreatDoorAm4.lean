/- Laws that the proof uses. -/
import Derived.Test.YtodfajmihkagnaaGreatDoorAm3
set_option maxHeartbeats 2000000
set_option linter.unusedVariables false
set_option linter.unusedSimpArgs false
namespace Go.Proofs.YtodfajmihkagnaaGreatDoor.Am
section
section
section
section
section
variable {P:Program}{G:Nat}{F:Nat->Prop}{W:World}{e:Em}{H:Hp}{w:World}
theorem Rf {el s n:Nat}{z:List AV}(h:Dm P el s n=some z):
  (n*s=0/\z=[])\/(¬n*s=0/\z.length=n*s/\∃inf z0,P.info? el=some inf/\inf.zero=some z0/\z0.cells.size=s/\aW e z ((Array.range (n*s)).map (z0.cells[· % z0.cells.size]!)).toList):=by
 unfold Dm at h;cases hb:Nat.beq (n*s) 0 with
 |true=>
  rw[hb] at h;cases h;exact .inl ⟨aa9 hb,rfl⟩
 |false=>
  rw[hb] at h;simp only[cond_false] at h;have h0:¬n*s=0:=λq=>by rw[q] at hb;cases hb
  split at h
  ·rename_i z1 hz;cases hl:Nat.beq z1.length s with
   |false=>rw[hl] at h;cases h
   |true=>
    rw[hl] at h;cases h;have qZ:z1.length=s:=aa9 hl;obtain⟨inf,z0,jX,gN,Cx⟩:=Cj (e:=e) hz;have fN:z0.cells.size=s:=by have:=Cx.1;simp at this;omega
    have hr:aW e (rep n z1) ((Array.range (n*s)).map (z0.cells[· % z0.cells.size]!)).toList:=by have:=apl z0.cells n;rw[fN] at this;rw[fN,this];exact Cx.rep n
    refine .inr ⟨h0,?_,inf,z0,jX,gN,fN,hr⟩;have:=hr.1;simp at this;omega
  ·cases h
theorem aes {pl:Nat->Option (Nat×Nat)}:∀(ps:List (Nat×AV)) (cells out:List AV),ya pl cells ps=some out->out.length=cells.length
 |[],cells,out,h=>by cases h;rfl
 |(i,v)::ps,cells,out,h=>by
  unfold ya at h;split at h;·cases h
  ·split at h;·cases h
   ·split at h;·rename_i hc;rw[aes ps _ _ h];simp;omega
    ·cases h
section
variable {H':Hp}{c x:AV}{c' x':Value}{e:Em}{i:Nat}{o:AO}{ob:Obj}{ps:List (Nat×AV)}{ps':Array (Nat×Value)}
theorem awP (h:RH G F W e H w){t len:Nat}{v:AV}(hp:xi e ps ps'.toList)(hb:Nv P t len ps H=some (v,H')):
  ∃v' w' e',(Instr.buildSlice t len ps').run P w=.ok v' w'/\e.le e'/\RH G F W e' H' w'/\VR e' v v':=by
 unfold Nv at hb;split at hb
 ·rename_i el hu;split at hb
  ·rename_i s hs;cases hle:Nat.ble (len*s) 65536 with
   |false=>rw[hle] at hb;cases hb
   |true=>
   rw[hle] at hb;simp only[cond_true] at hb;rw[ae2] at hle;split at hb
   ·rename_i z hz;split at hb
    ·rename_i cs gQ;simp only[aaq,abW] at hb;obtain⟨⟨i,H2⟩,hn,rfl,rfl⟩:=hb;have hlen:=aes ps z cs gQ;have Ri:¬(len*s>2^24):=zzz;rcases Rf (P:=P) (e:=e) hz with⟨h0,rfl⟩|⟨h0,ahX,inf,z0,jX,gN,fN,sE⟩
     ·obtain⟨nj,ho,hr⟩:=RM (e:=e) (Io:=λi=>some (i*s,s)) (λi x hx=>hx) ps ps'.toList [] cs #[] hp (.nil e) gQ;obtain⟨e',he,g1,g2,g3,g4,qX⟩:=h.newRow (rest:=[]) (fz:=(0,0)) hn hr (λ_=>rfl) zzy;refine⟨.slice (some ⟨w.heap.size,0,none⟩) len len,_,e',?_,he,qX,VR.FF g2 g1 (by rw[g3];simp) (aaO _) (aaO _) (λ_=>rfl) ?_⟩;·simp only[Instr.buildSlice,Sem.run_bind,aL hu,Result.andThen_ok,ji hs,zz1 Ri];rw[zz2 h0];have Hw:Array.range 0=#[]:=rfl;simp[h0,Hw,ho,newRow]
      ·rw[g4];simp[h0]
     ·obtain⟨nj,ho,hr⟩:=RM (e:=e) (Io:=λi=>some (i*s,s)) (λi x hx=>hx) ps ps'.toList z cs _ hp sE gQ;obtain⟨e',he,g1,g2,g3,g4,qX⟩:=h.newRow (rest:=[]) (fz:=(0,0)) hn hr (λ_=>rfl) zzy;refine⟨.slice (some ⟨w.heap.size,0,none⟩) len len,_,e',?_,he,qX,VR.FF g2 g1 (by rw[g3];simp) (aaO _) (aaO _) (λ_=>rfl) ?_⟩;·simp only[Instr.buildSlice,Sem.run_bind,aL hu,Result.andThen_ok,ji hs,zz1 Ri];rw[zz1 h0];simp[vt jX gN,newRow] at ho⊢;simp[ho]
      ·rw[g4];have:=hr.1;simp at this⊢;omega
    ·cases hb
   ·cases hb
  ·cases hb
 ·cases hb
theorem run_makeSlice {t:Nat}{k1 k2:IntKind}{n m:Int}{H:Hp}{v:AV}(hb:Ac P t (.int k1 n) (.int k2 m) H=some (v,H'))(w:World):
  ∃el s z row,P.underlying t=some (.slice el)/\sz P el=some s/\Dm P el s m.toNat=some z/\(∀e:Em,aW e z row)/\n.toNat<=m.toNat/\row.length=m.toNat*s/\
   (Instr.makeSlice t (.int k1 n) (.int k2 m)).run P w=.ok (.slice (some ⟨w.heap.size,0,none⟩) n.toNat m.toNat) {w with heap:=w.heap.push (.cells row.toArray el (0,0))}:=by
 unfold Ac at hb;split at hb
 ·rename_i el k1' n' I9 m' hu q1 q2;cases q1;cases q2;split at hb
  ·rename_i s hs;split at hb
   ·rename_i vJ;obtain⟨h1,h2,h3,h4⟩:=vJ;split at hb
    ·rename_i z hz;obtain⟨inf,jX⟩:∃inf,P.info? el=some inf:=by
      unfold sz at hs;cases hq:P.info? el with
      |none=>simp[hq] at hs|some inf=>exact⟨inf,rfl⟩
     have WB:inf.bytes<=4096:=by unfold Program.bytesOf at h4;rw[jX] at h4;simpa using h4
     have w1:IntKind.i64.wrap n=n:=IntWalk.i64_in _ zzz;have w2:IntKind.i64.wrap m=m:=IntWalk.i64_in _ zzz;have Fl:¬((inf.bytes:Int)*m>2^48):=by have:(inf.bytes:Int)*m<=4096*1048576:=Int.mul_le_mul zzz zzz zzz zzz;omega
     have c1:(decide (m<0)||decide ((inf.bytes:Int)*m>2^48))=false:=by simp;omega
     have GA:¬(((decide (m<0)||decide ((inf.bytes:Int)*m>2^48))||decide (n<0)||decide (n>m))=true):=by rw[c1];simp;omega
     rcases Rf (P:=P) (e:=⟨id,λ_=>0,id,0⟩) hz with⟨h0,rfl⟩|⟨h0,ahX,aib,z0,GJ,gN,fN,sE⟩;·refine⟨el,s,[],[],hu,hs,hz,λe=>.nil e,zzz,by simp[h0],?_⟩;simp only[Instr.makeSlice,Sem.run_bind,aL hu,Result.andThen_ok,asInt,asIntOf,Sem.run_pure,sK jX,w1,w2,zz1 GA,run_askRoom,ji hs];rw[zz2 h0];have Hw:Array.range 0=#[]:=rfl;simp[h0,Hw,newRow]
     ·refine⟨el,s,z,((Array.range (m.toNat*s)).map (z0.cells[· % z0.cells.size]!)).toList,hu,hs,hz,λe=>?_,zzz,?_,?_⟩
      rotate_left 2
      ·simp only[Instr.makeSlice,Sem.run_bind,aL hu,Result.andThen_ok,asInt,asIntOf,Sem.run_pure,sK jX,w1,w2,zz1 GA,run_askRoom,ji hs];rw[zz1 h0];simp[vt GJ gN,newRow];congr 2;apply adT.1;simp
      ·rcases Rf (P:=P) (e:=e) hz with⟨q,_⟩|⟨_,_,aI4,z3,apq,hz3,_,aqQ⟩;·exact absurd q h0
       ·rw[GJ] at apq;cases apq;rw[gN] at hz3;cases hz3;exact aqQ
      ·simp
    ·cases hb
   ·cases hb
  ·cases hb
 ·cases hb
theorem aC5 (h:RH G F W e H w){t:Nat}{l v:AV}{l':Value}(hl:VR e l l')(hc:VR e c c')(hb:Ac P t l c H=some (v,H')):
  ∃v' w' e',(Instr.makeSlice t l' c').run P w=.ok v' w'/\e.le e'/\RH G F W e' H' w'/\VR e' v v':=by
 unfold Ac at hb;split at hb
 ·rename_i el k1 n k2 m hu;cases hl.ij;cases hc.ij;split at hb
  ·rename_i s hs;split at hb
   ·rename_i vJ;obtain⟨h1,h2,h3,h4⟩:=vJ;split at hb
    ·rename_i z hz;simp only[aaq,abW] at hb;obtain⟨⟨i,H2⟩,hn,rfl,rfl⟩:=hb;obtain⟨inf,jX⟩:∃inf,P.info? el=some inf:=by
      unfold sz at hs;cases hq:P.info? el with
      |none=>simp[hq] at hs|some inf=>exact⟨inf,rfl⟩
     have WB:inf.bytes<=4096:=by unfold Program.bytesOf at h4;rw[jX] at h4;simpa using h4
     have w1:IntKind.i64.wrap n=n:=IntWalk.i64_in _ zzz;have w2:IntKind.i64.wrap m=m:=IntWalk.i64_in _ zzz;have Fl:¬((inf.bytes:Int)*m>2^48):=by have:(inf.bytes:Int)*m<=4096*1048576:=Int.mul_le_mul zzz zzz zzz zzz;omega
     have c1:(decide (m<0)||decide ((inf.bytes:Int)*m>2^48))=false:=by simp;omega
     have Ri:¬((decide (m<0)||decide ((inf.bytes:Int)*m>2^48))=true\/n<0\/n>m):=by rw[c1];simp;omega
     have GA:¬(((decide (m<0)||decide ((inf.bytes:Int)*m>2^48))||decide (n<0)||decide (n>m))=true):=by rw[c1];simp;omega
     rcases Rf (P:=P) (e:=e) hz with⟨h0,rfl⟩|⟨h0,ahX,aib,z0,GJ,gN,fN,sE⟩;·obtain⟨e',he,g1,g2,g3,g4,qX⟩:=h.newRow (rest:=[]) (fz:=(0,0)) hn (.nil e) (λ_=>rfl) zzy;refine⟨.slice (some ⟨w.heap.size,0,none⟩) n.toNat m.toNat,_,e',?_,he,qX,VR.FF g2 g1 (by rw[g3];simp) zzz (aaO _) (λ_=>rfl) (by rw[g4];simp[h0])⟩;simp only[Instr.makeSlice,Sem.run_bind,aL hu,Result.andThen_ok,asInt,asIntOf,Sem.run_pure,sK jX,w1,w2,zz1 GA,run_askRoom,ji hs];rw[zz2 h0];have Hw:Array.range 0=#[]:=rfl;simp[h0,Hw,newRow]
     ·obtain⟨e',he,g1,g2,g3,g4,qX⟩:=h.newRow (rest:=[]) (fz:=(0,0)) hn sE (λ_=>rfl) zzy;refine⟨.slice (some ⟨w.heap.size,0,none⟩) n.toNat m.toNat,_,e',?_,he,qX,VR.FF g2 g1 (by rw[g3];simp) zzz (aaO _) (λ_=>rfl) (by rw[g4];simp)⟩;simp only[Instr.makeSlice,Sem.run_bind,aL hu,Result.andThen_ok,asInt,asIntOf,Sem.run_pure,sK jX,w1,w2,zz1 GA,run_askRoom,ji hs];rw[zz1 h0];simp[vt GJ gN,newRow];congr 2;apply adT.1;simp
    ·cases hb
   ·cases hb
  ·cases hb
 ·cases hb
theorem RH.new (h:RH G F W e H w)(ha:Am.alloc H o=some (i,H'))(fj:∀e',e.le e'->e'.d i=0->OR e' i o ob):
  ∃e',e.le e'/\i<e'.N/\e'.b i=w.heap.size/\e'.d i=0/\RH G F W e' H' {w with heap:=w.heap.push ob}:=by
 have CT:i=e.N:=(A6 ha).1.trans h.N.symm;obtain⟨hi,hr⟩:=h.alloc (d:=0) (n:=0) ha (fj _ (Em.sC ..) (by rw[CT];exact Em.pW ..));subst hi;exact⟨_,Em.sC ..,by simp[Em.ext],Em.pU ..,Em.pW ..,hr⟩
theorem VR.aoj {b:Nat}(hb:e.b i=b)(hi:i<e.N)(hd:e.d i=0):VR e (.ptr i 0) (.pointer (some ⟨b,0,none⟩)):=by subst hb;exact .ptr i 0 0 hi (by rw[hd];simp)
theorem VR.EE {b:Nat}(hb:e.b i=b)(hi:i<e.N):VR e (.map i) (.map (some b)):=by subst hb;exact .map i hi
theorem arB (h:RH G F W e H w){t:Nat}(ha:Am.alloc H (.map [] 0)=some (i,H')):
  ∃v' w' e',(Instr.makeMap t none).run P w=.ok v' w'/\e.le e'/\RH G F W e' H' w'/\VR e' (.map i) v':=by
 obtain⟨e',he,g1,g2,g3,hr⟩:=h.new (ob:=.map #[] 0) ha (λe' _ _=>.map _ _ _ _ [] (List.Perm.refl _) ⟨rfl,zzy⟩ zzy zzy);exact⟨.map (some w.heap.size),_,e',by simp[Instr.makeMap],he,hr,.EE g2 g1⟩
theorem aDt (h:RH G F W e H w){t:Nat}{v:AV}(hx:VR e x x')(hb:C6 P t x H=some (v,H')):
  ∃v' w' e',(Instr.range t x').run P w=.ok v' w'/\e.le e'/\RH G F W e' H' w'/\VR e' v v':=by
 unfold C6 at hb;split at hb;·rename_i s hu;obtain⟨b,rfl,rfl⟩:=hx.og;simp only[aaq,abW] at hb;obtain⟨⟨i,H2⟩,hn,rfl,rfl⟩:=hb;obtain⟨e',he,g1,g2,g3,hr⟩:=h.new (ob:=.stringIter b 0) hn (λe' _ hd=>.vO _ _ _ rfl hd);exact⟨.pointer (some ⟨w.heap.size,0,none⟩),_,e',by simp[Instr.range,aL hu],he,hr,.aoj g2 g1 g3⟩
 ·cases hb
theorem aEd {s:ByteArray}{pos b:Nat}{r:List Nat}(h:(bytes s).drop pos=b::r)(hb:b<128):pos<s.size/\Utf8.decode s pos=(b,1):=by
 have hlen:((bytes s).drop pos).length=s.size-pos:=by rw[aeF,Be]
 rw[h] at hlen;simp at hlen;have aR:pos<s.size:=zzz;refine⟨aR,?_⟩;have h0:(bytes s)[pos]?=some b:=by have:=agr (xs:=bytes s) (i:=pos) (j:=0);rw[h] at this;simpa using this.symm
 simp only[bytes,ab9,aaq] at h0;obtain⟨u,hu,rfl⟩:=h0;have gE:s.get! pos=u:=by
  cases s with
  |mk d=>
   have hd:pos<d.size:=aR;have:=(aag.1 hu).2;simp only[ByteArray.get!];rw[getElem!_pos d pos hd,<-this];simp
 unfold Utf8.decode;simp only[aed,gE];rw[zz2 hb]
theorem ayy {b:Nat}{o:Obj}(hb:w.heap[b]?=some ob)(hn:∀c el fz,ob ≠ .cells c el fz):(Go.setObj b o).run P w=.ok () {w with heap:=w.heap.setIfInBounds b o}:=by cases ob<;>first|(exact absurd rfl (hn _ _ _))|(simp[Go.setObj,Sem.run,hb])
theorem auc {b:Nat}(hb:w.heap[b]?=some ob)(hn:∀c el fz,ob ≠ .cells c el fz):(Go.getObj b).run P w=.ok ob w:=by cases ob<;>first|(exact absurd rfl (hn _ _ _))|(simp[Go.getObj,Sem.run,hb])
theorem RH.azM (h:RH G F W e H w){o2:AO}(hg:H.h.get i=some o)(hw:wr o=true){sR:Obj}(hb:w.heap[e.b i]?=some ob)(fj:OR e i o2 sR):
  RH G F W e (Am.setObj H i o2) {w with heap:=w.heap.setIfInBounds (e.b i) sR}:=by
 have aR:=(acA.1 hb).1;refine h.put hg hw (tA:=sR) zzy (by simp[aR]) (λk hk=>?_) fj rfl rfl rfl;simp only;rw[afv (λq=>hk q.symm)]
theorem VR.aEc {a b:AV}{a' b':Value}(ha:VR e a a')(hb:VR e b b')(hc:VR e c c'):VR e (.tuple [a,b,c]) (.tuple #[a',b',c']):=
 .tuple' (.cons ha (.cons hb (.cons hc (.nil e))))
theorem axb (h:RH G F W e H w){t:Nat}{it v:AV}{NO:Value}{vb:Bool}{H':Hp}(hx:VR e it NO)(hb:Bm it vb H=some (v,H')):
  ∃v' w',(Instr.next NO vb t).run P w=.ok v' w'/\RH G F W e H' w'/\VR e v v':=by
 unfold Bm at hb;split at hb
 ·rename_i i;obtain⟨o,hi,ho,rfl⟩:=hx.vP;split at hb
  ·rename_i s pos hg;obtain⟨_,ob,eW,fj,hF⟩:=h.obj i _ hg;cases fj with
   |vO _ _ s' hs hd=>
   have ho0:o=0:=zzz;subst ho0;have gE:(Go.getObj (e.b i)).run P w=.ok (.stringIter s' pos) w:=auc eW zzy;split at hb
   ·rename_i Eh;cases hb;have hlen:=congrArg List.length Eh;rw[aeF,<-hs,Be] at hlen;have uS:¬pos<s'.size:=by simp at hlen;omega
    exact⟨_,w,by simp[Instr.next,gE,uS],h,.tuple' (.cons (.bool false) (.nil e))⟩
   ·rename_i b r Eh;cases aR:Nat.blt b 128 with
    |false=>rw[aR] at hb;cases hb
    |true=>
     rw[aR] at hb;cases hb;rw[adW] at aR;rw[<-hs] at Eh;obtain⟨KM,au5⟩:=aEd Eh aR;refine⟨_,{w with heap:=w.heap.setIfInBounds (e.b i) (.stringIter s' (pos+1))},?_,h.azM hg rfl eW (.vO _ _ _ hs hd),VR.aEc (.bool true) (.int _ _) (.int _ _)⟩;have fY:(Go.setObj (e.b i) (.stringIter s' (pos+1))).run P w=.ok () {w with heap:=w.heap.setIfInBounds (e.b i) (.stringIter s' (pos+1))}:=ayy eW zzy;simp only[Instr.next,Sem.run_bind,gE,Result.andThen_ok,KM,if_true,au5,fY];rfl
  ·cases hb
 ·cases hb
theorem aIo (h:RH G F W e H w){it v:AV}{NO:Value}(hx:VR e it NO)(hb:Ti it H=some v):
  ∃v',(Instr.entry NO).run P w=.ok v' w/\VR e v v':=by
 unfold Ti at hb;cases hb
theorem aIw {yv t:TypeId}{v:AV}{ok:Bool}(hx:VR e x x')(hb:L1 P yv x ok=some v)(w:World):
  ∃v',(Instr.typeAssert x' t yv ok).run P w=.ok v' w/\VR e v v':=by
 unfold L1 at hb;split at hb;·cases hb
 ·rename_i d t2 u aF hu;cases hx with
  |iface _ _ u' hr=>
  split at hb
  ·rename_i ht;subst ht;have hd:∀ms,d ≠ .interface ms:=λms q=>aF ms q;cases ok with
   |true=>
    cases hb;refine⟨.tuple #[u',.bool true],?_,hr.pair (.bool true)⟩;cases d<;>first|(exact absurd rfl (hd _))|simp[Instr.typeAssert,aL hu]
   |false=>
    cases hb;refine⟨u',?_,hr⟩;cases d<;>first|(exact absurd rfl (hd _))|simp[Instr.typeAssert,aL hu]
  ·cases hb
 ·cases hb
end
end
end
section
variable {P:Program}{G:Nat}{F:Nat->Prop}{W:World}{e:Em}{H:Hp}{w:World}
theorem aFi {t:TypeId}{ps:List (Nat×AV)}{ps':Array (Nat×Value)}{v:AV}(hp:xi e ps ps'.toList)(hb:KP P t ps=some v)(w:World):
  ∃v',(Instr.build t ps').run P w=.ok v' w/\VR e v v':=by
 unfold KP at hb;split at hb
 ·rename_i z fs hz hu;split at hb;·rename_i pl gR;simp only[aaq] at hb;obtain⟨out,hf,rfl⟩:=hb;exact aG4 hz hu gR hp hf w
  ·cases hb
 ·rename_i z n el hz hu;split at hb;·rename_i s hs;simp only[aaq] at hb;obtain⟨out,hf,rfl⟩:=hb;exact azs hz hu hs hp hf w
  ·cases hb
 ·cases hb
theorem aW.JI {ρ:Operand->AV}{σ:Operand->Value}(h:∀x,VR e (ρ x) (σ x))(l:Array Operand):aW e (l.toList.map ρ) (l.map σ).toList:=by rw[Array.toList_map];exact aW.map h _
theorem axX (h:RH G F W e H w){b:Builtin}{cI:Array TypeId}{ty:TypeId}{cs:Array Bool}{args:List AV}{Im:Array Value}{v:AV}{H':Hp}(ha:aW e args Im.toList)(hb:jh P b cI args H=some (v,H')):
  fg P G F W e v H' ((builtin b cI ty cs Im).run P w):=by
 have two:∀{s x:AV},aW e [s,x] Im.toList->∃s' x',Im=#[s',x']/\VR e s s'/\VR e x x':=by intro s x h2;obtain⟨s',r,h1,hs,hr⟩:=h2.cons_inv;obtain⟨x',r',rfl,hx,dH⟩:=hr.cons_inv;rw[dH.mh] at h1;exact⟨s',x',adT.1 h1,hs,hx⟩
 have one:∀{s:AV},aW e [s] Im.toList->∃s',Im=#[s']/\VR e s s':=by intro s h2;obtain⟨s',r,h1,hs,hr⟩:=h2.cons_inv;rw[hr.mh] at h1;exact⟨s',adT.1 h1,hs⟩
 unfold jh at hb;split at hb;·obtain⟨s',x',rfl,hs,hx⟩:=two ha;obtain⟨v',w',e',h1,h2,h3,h4⟩:=aIn (P:=P) (ty:=ty) h hs hx hb;exact fg.val h1 h2 h3 h4
 ·obtain⟨s',x',rfl,hs,hx⟩:=two ha;obtain⟨v',w',h1,h3,h4⟩:=avp (P:=P) (ty:=ty) h hs hx hb;exact fg.val h1 e.le_refl h3 h4
 ·obtain⟨s',x',rfl,hs,hx⟩:=two ha;simp only[aaq,abW] at hb;obtain⟨H2,hd,rfl,rfl⟩:=hb;obtain⟨w',h1,h3⟩:=aGt (P:=P) (ty:=ty) h hs hx hd;exact fg.val h1 e.le_refl h3 .undef
 ·obtain⟨s',rfl,hs⟩:=one ha;simp only[aaq,abW] at hb;obtain⟨H2,hd,rfl,rfl⟩:=hb;obtain⟨w',h1,h3⟩:=apL (P:=P) (ty:=ty) h hs hd;exact fg.val h1 e.le_refl h3 .undef
 ·obtain⟨s',rfl,hs⟩:=one ha;simp only[aaq,abW] at hb;obtain⟨v2,hd,rfl,rfl⟩:=hb;obtain⟨v',h1,h3⟩:=aE9 (P:=P) (ty:=ty) h hs hd;exact fg.pure h h1 h3
 ·obtain⟨s',rfl,hs⟩:=one ha;simp only[aaq,abW] at hb;obtain⟨v2,hd,rfl,rfl⟩:=hb;obtain⟨v',h1,h3⟩:=aHq (P:=P) (ty:=ty) hs hd w;exact fg.pure h h1 h3
 ·rename_i x r;simp only[aaq,abW] at hb;obtain⟨v2,hd,rfl,rfl⟩:=hb;obtain⟨x',r',nH,hx,hr⟩:=ha.cons_inv;obtain⟨v',h1,h3⟩:=adN (P:=P) (w:=w) hx hr hd;refine fg.pure h (v':=v') ?_ h3;unfold Builtin.min_;rw[nH];exact h1
 ·rename_i x r;simp only[aaq,abW] at hb;obtain⟨v2,hd,rfl,rfl⟩:=hb;obtain⟨x',r',nH,hx,hr⟩:=ha.cons_inv;obtain⟨v',h1,h3⟩:=aea (P:=P) (w:=w) hx hr hd;refine fg.pure h (v':=v') ?_ h3;unfold Builtin.max_;rw[nH];exact h1
 ·obtain⟨s',rfl,hs⟩:=one ha;cases hs;cases hb;exact fg.pure h (Go.Lib.run_unsafeSliceData_nil (P:=P) w cI ty 0 0) .da
 ·rename_i i off l c a1 a2;obtain⟨s',rfl,hs⟩:=one ha;cases hl:Nat.blt 0 l with
  |false=>rw[hl] at hb;cases hb
  |true=>
   rw[hl] at hb;cases hb;rw[adW] at hl;rcases hs.nN with⟨o,cc,hi,ho,mu,hc,ki,hn,rfl⟩|⟨rfl,_,a,rfl⟩;·exact fg.pure h (Go.Lib.run_unsafeSliceData_row (P:=P) w cI ty ⟨e.b i,o,none⟩ l cc zzz) (.ptr _ _ _ hi ho)
   ·omega
 ·rename_i p k n;obtain⟨p',k',rfl,hp,hk⟩:=two ha;cases hk.ij;obtain⟨v',w',h1,h3,h4⟩:=aAJ (P:=P) (ty:=ty) h hp hb;exact fg.val h1 e.le_refl h3 h4
 ·cases hb
theorem aGO {x v:AV}{x':Value}(hx:VR e x x')(hb:aJ x=some v):
  v=x/\((∃a,x'=.pointer (some a))\/(∃f a b,x'=.func (.func f) a b)\/∃t u,x'=.iface t u):=by
 unfold aJ at hb;split at hb;·cases hb;obtain⟨o,_,_,rfl⟩:=hx.vP;exact⟨rfl,.inl ⟨_,rfl⟩⟩
 ·cases hb;cases hx;exact⟨rfl,.inr (.inl ⟨_,_,_,rfl⟩)⟩
 ·cases hb;cases hx;exact⟨rfl,.inr (.inr ⟨_,_,rfl⟩)⟩
 ·cases hb
end
section
variable {e:Em}{ρ:Operand->AV}{σ:Operand->Value}
theorem zC.map (h:∀x,VR e (ρ x) (σ x)):∀o:Option Operand,zC e (o.map ρ) (o.map σ)
 |none=>trivial|some x=>h x
theorem xi.JI (h:∀x,VR e (ρ x) (σ x))(l:Array (Nat×Operand)):
  xi e (l.toList.map λ(i,x)=>(i,ρ x)) (l.map λ(i,x)=>(i,σ x)).toList:=by
 rw[Array.toList_map];exact xi.map h _
theorem aB8 {P:Program}{G:Nat}{F:Nat->Prop}{W:World}{e:Em}{H:Hp}{w:World}(h:RH G F W e H w){ρ:Operand->AV}{σ:Operand->Value}(hρ:∀x,VR e (ρ x) (σ x)){o:Oper}{v:AV}{H':Hp}(ha:jJ P ρ o H=some (v,H')):
  fg P G F W e v H' ((execOp σ o).run P w):=by
 unfold jJ at ha;unfold execOp;split at ha;·rename_i x aS;cases ha;rw[aS];exact⟨.value (σ x),w,e,σ x,rfl,.inl rfl,e.le_refl,h,hρ x⟩
 ·rename_i x aS;cases ha;rw[aS];exact⟨.value (σ x),w,e,σ x,rfl,.inl rfl,e.le_refl,h,hρ x⟩
 ·rename_i c a b aS;rw[aS];split at ha
  ·rename_i t ht;cases ha;have hc:=hρ c;rw[ht] at hc;have hc':=hc.y7;cases t with
   |true=>exact⟨.value (σ a),w,e,σ a,by simp[hc',asBool],.inl rfl,e.le_refl,h,hρ a⟩|false=>exact⟨.value (σ b),w,e,σ b,by simp[hc',asBool],.inl rfl,e.le_refl,h,hρ b⟩
  ·cases ha
 ·rename_i t aS;rw[aS];split at ha;·rename_i l hl;simp only[aaq,abW] at ha;obtain⟨⟨i,H2⟩,hn,rfl,rfl⟩:=ha;obtain⟨v',w',e',h1,h2,h3,h4⟩:=aqh (P:=P) h hl hn;exact fg.val h1 h2 h3 h4
  ·cases ha
 ·rename_i t x aS;rw[aS];split at ha;·rename_i l hl;simp only[aaq,abW] at ha;obtain⟨⟨i,H2⟩,hn,rfl,rfl⟩:=ha;obtain⟨v',w',e',h1,h2,h3,h4⟩:=atm (P:=P) h (hρ x) hl hn;exact fg.val h1 h2 h3 h4
  ·cases ha
 ·rename_i t parts aS;rw[aS];simp only[aaq,abW] at ha;obtain⟨v2,hb,rfl,rfl⟩:=ha;obtain⟨v',h1,h2⟩:=aFi (xi.JI hρ parts) hb w;exact fg.pure h h1 h2
 ·rename_i t len parts aS;rw[aS];obtain⟨v',w',e',h1,h2,h3,h4⟩:=awP (P:=P) h (xi.JI hρ parts) ha;exact fg.val h1 h2 h3 h4
 ·rename_i t m k x aS;rw[aS];simp only[aaq,abW] at ha;obtain⟨H2,hb,rfl,rfl⟩:=ha;obtain⟨w',h1,h3⟩:=aiW (P:=P) h (hρ m) (hρ k) (hρ x) hb;exact fg.unit h1 e.le_refl h3
 ·rename_i t m k x aS;rw[aS];simp only[aaq,abW] at ha;obtain⟨H2,hb,rfl,rfl⟩:=ha;obtain⟨w',h1,h3⟩:=aiW (P:=P) h (hρ m) (hρ k) (hρ x) hb;exact fg.unit h1 e.le_refl h3
 ·rename_i t a aS;rw[aS];simp only[aaq,abW] at ha;obtain⟨v2,hb,rfl,rfl⟩:=ha;obtain⟨v',h1,h2⟩:=aek h (hρ a) hb;exact fg.pure h h1 h2
 ·rename_i t a x aS;rw[aS];simp only[aaq,abW] at ha;obtain⟨H2,hb,rfl,rfl⟩:=ha;obtain⟨w',h1,h3⟩:=asr (P:=P) h (hρ a) (hρ x) hb;exact fg.unit h1 e.le_refl h3
 ·rename_i x aS;rw[aS];simp only[aaq,abW] at ha;obtain⟨v2,hb,rfl,rfl⟩:=ha;obtain⟨rfl,h1⟩:=aGO (hρ x) hb;refine⟨.value (σ x),w,e,σ x,?_,.inl rfl,e.le_refl,h,hρ x⟩;rcases h1 with⟨a,q⟩|⟨f,a,b,q⟩|⟨t,u,q⟩<;>(simp only[q];rfl)
 ·rename_i op t x y ty aS;rw[aS];cases hg:wK P op t x y (ρ x) (ρ y) with
  |false=>rw[hg] at ha;cases ha
  |true=>
   rw[hg] at ha;simp only[cond_true,aaq,abW] at ha;obtain⟨v2,hb,rfl,rfl⟩:=ha;obtain⟨v',h1,h2⟩:=aDU h (hρ x) (hρ y) hb;have h0:=aHz (w:=w) (hρ x) (hρ y) hg hb;refine fg.pure h (v':=v') ?_ h2;rw[Sem.run_bind,h0];exact h1
 ·rename_i op t x aS;rw[aS];simp only[aaq,abW] at ha;obtain⟨v2,hb,rfl,rfl⟩:=ha;obtain⟨v',h1,h2⟩:=avU (P:=P) (hρ x) hb w;exact fg.pure h h1 h2
 ·rename_i a b x aS;rw[aS];obtain⟨v',w',e',h1,h2,h3,h4⟩:=aCX (P:=P) h (hρ x) ha;exact fg.val h1 h2 h3 h4
 ·rename_i t x aS;rw[aS];simp only[aaq,abW] at ha;obtain⟨v2,hb,rfl,rfl⟩:=ha;unfold Rb at hb;split at hb;·cases hb
  ·rename_i d aF hu;cases hb;have hd:∀ms,d ≠ .interface ms:=λms q=>aF ms q;refine fg.pure h (v':=.iface t (σ x)) ?_ (.iface _ _ _ (hρ x));cases d<;>first|(exact absurd rfl (hd _))|simp[Instr.makeInterface,aL hu]
  ·cases hb
 ·rename_i fn a b aS;rw[aS];simp only[aaq,abW] at ha;obtain⟨v2,hb,rfl,rfl⟩:=ha;have h1:=aW.JI hρ a;have h2:=aW.JI hρ b;unfold RP at hb;split at hb;·cases hb
  ·rename_i aF;cases hb;exact fg.pure h (v':=.func fn (a.map σ) (b.map σ)) (by simp[Instr.makeFunc]) (.func fn aF _ _ _ _ h1.1 h2.1 h1.2 h2.2)
 ·rename_i t aS;rw[aS];simp only[aaq,abW] at ha;obtain⟨⟨i,H2⟩,hn,rfl,rfl⟩:=ha;obtain⟨v',w',e',h1,h2,h3,h4⟩:=arB (P:=P) (t:=t) h hn;exact fg.val h1 h2 h3 h4
 ·rename_i t l c aS;rw[aS];obtain⟨v',w',e',h1,h2,h3,h4⟩:=aC5 (P:=P) h (hρ l) (hρ c) ha;exact fg.val h1 h2 h3 h4
 ·rename_i t x lo hi mx aS;rw[aS];simp only[aaq,abW] at ha;obtain⟨v2,hb,rfl,rfl⟩:=ha;obtain⟨v',h1,h2⟩:=axO h (hρ x) (zC.map hρ lo) (zC.map hρ hi) (zC.map hρ mx) hb;exact fg.pure h h1 h2
 ·rename_i t x f aS;rw[aS];simp only[aaq,abW] at ha;obtain⟨v2,hb,rfl,rfl⟩:=ha;unfold PZ at hb;split at hb
  ·rename_i fs i off hu hx;split at hb
   ·rename_i fd NV;cases hp:CI P fd.type with
    |false=>rw[hp] at hb;cases hb
    |true=>
     rw[hp] at hb;cases hb;obtain⟨n,hn⟩:∃n,sz P fd.type=some (n+1):=by
      unfold CI at hp;split at hp;·rename_i n hn;exact⟨n,hn⟩
      ·cases hp
     have mI:=hρ x;rw[hx] at mI;obtain⟨v',h1,h2⟩:=arN mI hu NV hn zzz w;exact fg.pure h h1 h2
   ·cases hb
  ·cases hb
 ·rename_i t x f aS;rw[aS];simp only[aaq,abW] at ha;obtain⟨v2,hb,rfl,rfl⟩:=ha;unfold Ls at hb;split at hb
  ·rename_i fs cs hu hx;split at hb;·rename_i fd NV;obtain⟨v',h1,h2⟩:=axi (hρ x) hu NV hx hb w;exact fg.pure h h1 h2
   ·cases hb
  ·cases hb
 ·rename_i t x ix aS;rw[aS];simp only[aaq,abW] at ha;obtain⟨v2,hb,rfl,rfl⟩:=ha;obtain⟨v',h1,h2⟩:=ayX (hρ x) (hρ ix) hb w;exact fg.pure h h1 h2
 ·rename_i t x ix aS;rw[aS];simp only[aaq,abW] at ha;obtain⟨v2,hb,rfl,rfl⟩:=ha;obtain⟨v',h1,h2⟩:=apW (hρ x) (hρ ix) hb w;exact fg.pure h h1 h2
 ·rename_i t x k ok aS;rw[aS];simp only[aaq,abW] at ha;obtain⟨v2,hb,rfl,rfl⟩:=ha;obtain⟨v',h1,h2⟩:=aEe h (hρ x) (hρ k) hb;exact fg.pure h h1 h2
 ·rename_i t x aS;rw[aS];obtain⟨v',w',e',h1,h2,h3,h4⟩:=aDt (P:=P) h (hρ x) ha;exact fg.val h1 h2 h3 h4
 ·rename_i it vb aS;rw[aS];obtain⟨v',w',h1,h3,h4⟩:=axb (P:=P) (t:=o.type) h (hρ it) ha;exact fg.val h1 e.le_refl h3 h4
 ·rename_i it aS;rw[aS];simp only[aaq,abW] at ha;obtain⟨v2,hb,rfl,rfl⟩:=ha;obtain⟨v',h1,h2⟩:=aIo (P:=P) h (hρ it) hb;exact fg.pure h h1 h2
 ·rename_i t ix aS;rw[aS];split at ha;·rename_i l hl;simp only[aaq,abW] at ha;obtain⟨v2,hb,rfl,rfl⟩:=ha;have ht:=hρ t;rw[hl] at ht;obtain⟨vs,vN,hr⟩:=ht.akW;obtain⟨v',bQ,jt⟩:=hr.get hb;rw[ad6] at bQ;exact fg.pure h (v':=v') (by rw[vN];simp[Instr.extract,bQ]) jt
  ·cases ha
 ·rename_i x t yv ok aS;rw[aS];simp only[aaq,abW] at ha;obtain⟨v2,hb,rfl,rfl⟩:=ha;obtain⟨v',h1,h2⟩:=aIw (P:=P) (t:=t) (hρ x) hb w;exact fg.pure h h1 h2
 ·rename_i c aS;rw[aS];split at ha
  ·rename_i b hc;have nH:=aW.JI hρ c.args;have GM:(do let d <-resolve σ c o.type;invoke d.target d.args:Sem Next)=builtin b c.argTypes o.type (c.args.map λ|.const _=>true|_=>false) (c.args.map σ):=by unfold resolve;rw[hc];rfl
   show fg P G F W e v H' ((do let d <-resolve σ c o.type;invoke d.target d.args:Sem Next).run P w);rw[GM];exact axX h nH ha
  ·cases ha
 ·cases ha
end
end
variable {P:Program}
section
variable {ρ ρ':Operand->AV}
theorem ab4 {l:List Operand}(h:∀x∈l,ρ x=ρ' x):l.map ρ=l.map ρ':=List.map_congr_left h
theorem aoi {l:List (Nat×Operand)}(h:∀x∈l.map (·.2),ρ x=ρ' x):(l.map λ(i,x)=>(i,ρ x))=l.map λ(i,x)=>(i,ρ' x):=by apply List.map_congr_left;intro a ha;obtain⟨i,x⟩:=a;simp only;rw[h x (abT.2 ⟨(i,x),ha,rfl⟩)]
theorem azi (o:Oper)(H:Hp)(h:∀x∈o.op.operands.toList,ρ x=ρ' x):jJ P ρ o H=jJ P ρ' o H:=by
 unfold jJ;cases aS:o.op<;>rw[aS] at h<;>simp only[Op.operands] at h⊢
 case move x=>rw[h x zzy]
 case assign x=>rw[h x zzy]
 case pick c a b=>rw[h c zzy,h a zzy,h b zzy]
 case box t x=>rw[h x zzy]
 case build t ps=>rw[aoi (by simpa using h)]
 case buildSlice t l ps=>rw[aoi (by simpa using h)]
 case insert t m k v=>rw[h m zzy,h k zzy,h v zzy]
 case mapUpdate t m k v=>rw[h m zzy,h k zzy,h v zzy]
 case load t a=>rw[h a zzy]
 case store t a v=>rw[h a zzy,h v zzy]
 case nilCheck x=>rw[h x zzy]
 case binOp op t x y ty=>rw[h x zzy,h y zzy]
 case unOp op t x=>rw[h x zzy]
 case convert a b x=>rw[h x zzy]
 case makeInterface t x=>rw[h x zzy]
 case makeFunc fn a b=>
  rw[ab4 (l:=a.toList) (λx hx=>h x (by simp at hx⊢;exact .inl hx)),ab4 (l:=b.toList) (λx hx=>h x (by simp at hx⊢;exact .inr hx))]
 case makeMap t r=>cases r<;>rfl
 case makeSlice t l c=>rw[h l zzy,h c zzy]
 case slice t x lo hi mx=>
  have q:∀y:Option Operand,(∀z∈y.toList,ρ z=ρ' z)->y.map ρ=y.map ρ':=by
   intro y hy;cases y with
   |none=>rfl|some z=>simp only[adX];rw[hy z zzy]
  rw[h x zzy,q lo (λz hz=>h z (by simp at hz⊢;simp[hz])),q hi (λz hz=>h z (by simp at hz⊢;simp[hz])),q mx (λz hz=>h z (by simp at hz⊢;simp[hz]))]
 case fieldAddr t x f=>rw[h x zzy]
 case field t x f=>rw[h x zzy]
 case indexAddr t x ix=>rw[h x zzy,h ix zzy]
 case index t x ix=>rw[h x zzy,h ix zzy]
 case lookup t x k ok=>rw[h x zzy,h k zzy]
 case range t x=>rw[h x zzy]
 case next it s=>rw[h it zzy]
 case entry it=>rw[h it zzy]
 case typeAssert x t yv ok=>rw[h x zzy]
 case extract t ix=>rw[h t zzy]
 case call c=>
  cases hc:c.callee with
  |builtin b=>
   simp only;rw[ab4 (l:=c.args.toList) (λx hx=>h x (by simp[Call.operands,hc] at hx⊢;exact hx))]
  |value f=>rfl|invoke r m=>rfl
end
end
def I5 (G:Nat)(F:Nat->Prop)(W:World)(e:Em)(v:AV)(H':Hp)(en:Ending)(w':World):Prop:=
 ∃e' v',en=.returned v'/\e.le e'/\RH G F W e' H' w'/\VR e' v v'
def xN (P:Program)(cf:CF):Prop:=
 ∀(g:AV) (args:List AV) (H:Hp) (v:AV) (H':Hp),cf g args H=some (v,H')->
  ∃aU first cap,g=.func (.func aU) first cap/\∀(F:Nat->Prop) (W:World) (e:Em) (w:World) (as':Array Value),RH P.globals.size F W e H w->aW e (first++args++cap) as'.toList->
   (∃v' w' e',(callFunc aU as').run P w=.ok (.value v') w'/\e.le e'/\RH P.globals.size F W e' H' w'/\VR e' v v')\/
   ((callFunc aU as').run P w=.ok (.enter aU as') w/\Calls P aU as' w (I5 P.globals.size F W e v H'))
section
variable {P:Program}{F:Nat->Prop}{W:World}{e:Em}{H:Hp}{w:World}
structure TR (e:Em)(n:Nat)(t:Tm)(a:Act):Prop where
 size:n<=a.tmps.size
 val:∀x,VR e ((t.get x).getD bS) (a.tmps.getD x undef)
section
variable {H':Hp}{Q:Exit->Act->World->Prop}{a:Act}{cI:Array TypeId}{cf:CF}{e:Em}{ops:Array Oper}{t':Tm}{σ:Operand->Value}
theorem TR.mono {e':Em}(h:e.le e'){n:Nat}{t:Tm}(k:TR e n t a):TR e' n t a:=⟨k.size,λx=>(k.val x).mono h⟩
theorem VR.ev (h:RH P.globals.size F W e H w){n:Nat}{t:Tm}{a:Act}(ht:TR e n t a)(x:Operand):VR e (ev P.globals.size t x) (a.eval x):=by
 cases x with
 |tmp d=>exact ht.val d|const v=>
  simp only[Am.ev,Act.eval];cases hc:Am.lA v with
  |none=>exact .dG v|some c=>exact .lA hc
 |global g=>
  simp only[Am.ev,Act.eval];cases hb:Nat.blt g P.globals.size with
  |false=>exact .dG _|true=>
   rw[adW] at hb;obtain⟨h1,h2,h3⟩:=h.uH g hb;have:=VR.ptr (e:=e) g 0 0 h1 (by rw[h3];simp);rw[h2] at this;exact this
 |func f=>exact .func _ zzy [] [] #[] #[] rfl rfl zzy zzy
theorem ah7 {t:Array Value}{d x:Nat}{v:Value}(h:d<t.size):(t.setIfInBounds d v).getD x undef=if x=d then v else t.getD x undef:=by
 simp only[afI];by_cases hx:x=d;·subst hx;rw[ai0 h,zz2 rfl];rfl
 ·rw[afv (λq=>hx q.symm),zz1 hx]
theorem TR.put {n:Nat}{t:Tm}(h:TR e n t a){dst:Option Tmp}{v:AV}{v':Value}(hp:je n dst v t=some t')(hv:VR e v v'):TR e n t' (a.put dst v'):=by
 unfold je at hp;split at hp;·cases hp;exact h
 ·rename_i d;cases hb:(Nat.blt d n&&Nat.blt d 4294967296) with
  |false=>rw[hb] at hp;cases hp
  |true=>
   rw[hb] at hp;cases hp;simp only[aaM,adW] at hb;have aR:d<a.tmps.size:=adi hb.1 h.size;refine⟨by simp only[Act.put,Array.size_setIfInBounds];exact h.size,λx=>?_⟩;simp only[Act.put];rw[ah7 aR,Tr.OI _ _ _ _ _ zzz];by_cases hx:x=d;·rw[zz2 hx,zz2 hx];exact hv
   ·rw[zz1 hx,zz1 hx];exact h.val x
theorem VR.auX {v:AV}{b:Bool}(h:VR e v (.bool b)):v=.bool b\/v=.dG:=by
 cases h with
 |dG=>exact .inr rfl|bool=>exact .inl rfl
theorem QK {o:Oper}{t:Tm}{b:Bool}(hw:sO ops o t=some b)(hT:∀d,Ll ops o=some d->VR e ((t.get d).getD bS) (a.tmps.getD d undef)):
  Region.wanted o (yielded ops a.tmps)=b:=by
 unfold sO at hw;unfold Region.wanted;split at hw;·rename_i hg;cases hw;simp[hg]
 ·rename_i j want hg;simp only[hg];have Qe:Ll ops o=(ops[j]?).bind (·.dst):=by simp[Ll,hg]
  unfold yielded;split at hw;·rename_i hd;cases hw;simp[hd]
  ·rename_i d hd;have hv:=hT d (by rw[Qe,hd]);simp only[hd,acf];rw[afI] at hv;split at hw
   ·rename_i hn;cases hw;rw[hn] at hv;obtain⟨vs,vN,_⟩:=VR.akW (l:=[]) hv;cases hq:a.tmps[d]? with
    |none=>simp|some u=>rw[hq] at vN;simp at vN;subst vN;simp
   ·rename_i c hc;cases hw;rw[hc] at hv;have:=hv.y7;cases hq:a.tmps[d]? with
    |none=>rw[hq] at this;simp[undef] at this|some u=>rw[hq] at this;simp at this;subst this;simp
   ·cases hw
   ·rename_i u WJ Un hu;cases hw;rw[hu] at hv;cases hq:a.tmps[d]? with
    |none=>simp|some z=>
     rw[hq] at hv;simp at hv;cases z<;>simp;rename_i b;rcases hv.auX with r|r;·exact (WJ _ r).elim
     ·exact (Un r).elim
theorem awS {f:Operand}{args:Array Operand}{ty aU:Nat}{first cap:Array Value}(hf:σ f=.func (.func aU) first cap):
  (do let d <-resolve σ {callee:=.value f,args,argTypes:=cI} ty;invoke d.target d.args:Sem Next)=callFunc aU (first++args.map σ++cap):=by
 unfold resolve;simp only[hf,Deferred.ofValue];rfl
theorem M4 (iZ:xN P cf)(h:RH P.globals.size F W e H w){t:Tm}{o:Oper}{v:AV}(ho:vL P cf t o H=some (v,H'))
  (hT:∀x∈o.op.operands.toList,VR e (ev P.globals.size t x) (a.eval x)) {next:Act->World->Prop}
  (hn:∀e' v' w',e.le e'->RH P.globals.size F W e' H' w'->VR e' v v'->next (a.put o.dst v') w'):o.wp P a w next Q:=by
 classical
 let ρ:Operand->AV:=λx=>if x∈o.op.operands.toList then ev P.globals.size t x else .dG
 have hρ:∀x,VR e (ρ x) (a.eval x):=by
  intro x;simp only[ρ];split;·rename_i hx;exact hT x hx
  ·exact .dG _
 have hρe:∀x∈o.op.operands.toList,ev P.globals.size t x=ρ x:=by intro x hx;simp only[ρ,zz2 hx]
 have plain:jJ P (ev P.globals.size t) o H=some (v,H')->o.wp P a w next Q:=by
  intro hA;rw[azi o H hρe] at hA;obtain⟨n,w',e',v',hr,hv,he,hR,jt⟩:=aB8 h hρ hA;unfold Oper.wp;rw[hr];rcases hv with rfl|⟨rfl,rfl⟩;·exact hn e' v' w' he hR jt
  ·exact hn e' _ w' he hR jt
 unfold vL at ho;split at ho
 ·rename_i f args cI aS;obtain⟨aU,first,cap,hg,hs⟩:=iZ _ _ _ _ _ ho;have Yu:f∈o.op.operands.toList:=by simp[aS,Op.operands,Call.operands]
  have hf:=hT f Yu;rw[hg] at hf;cases hfe:a.eval f with
  |func fn Wq wV=>
   rw[hfe] at hf;cases hf with
   |func _ _ _ _ _ _ ha hc h1 h2=>
   have nH:aW e (args.toList.map (ev P.globals.size t)) (args.map a.eval).toList:=by rw[Array.toList_map];refine⟨zzy,λi x x' hx wi=>?_⟩;simp only[ab9,aaq] at hx wi;obtain⟨z,hz,rfl⟩:=hx;obtain⟨z',Eu,rfl⟩:=wi;rw[hz] at Eu;cases Eu;exact hT z (by simp[aS,Op.operands,Call.operands];exact .inr (by have:=aac hz;simpa using this))
   have mP:aW e (first++args.toList.map (ev P.globals.size t)++cap) (Wq++args.map a.eval++wV).toList:=by
    have q1:aW e first Wq.toList:=⟨ha,h1⟩
    have q2:aW e cap wV.toList:=⟨hc,h2⟩;have:=(q1.append nH).append q2;simpa using this
   have hex:execOp a.eval o=callFunc aU (Wq++args.map a.eval++wV):=by unfold execOp;rw[aS];exact awS hfe
   unfold Oper.wp;rw[hex];rcases hs F W e w _ h mP with⟨v',w',e',hr,he,hR,jt⟩|⟨hr,aBu⟩;·rw[hr];exact hn e' v' w' he hR jt
   ·rw[hr];refine aBu.mono ?_;rintro en X2 ⟨e',v',rfl,he,hR,jt⟩;exact hn e' v' X2 he hR jt
  |_=>rw[hfe] at hf;cases hf
 ·exact plain ho
theorem aec (iZ:xN P cf){n:Nat}:∀(r:List Oper) (i:Nat) (t:Tm) (H:Hp) (e:Em) (a:Act) (w:World),
  ops.toList.drop i=r->vV P cf n ops r t H=some (t',H')->RH P.globals.size F W e H w->TR e n t a->
  (∀e' a' w',e.le e'->RH P.globals.size F W e' H' w'->TR e' n t' a'->a'.defers=a.defers->Q .normal a' w')->wpOps P ops Q (List.range' i r.length) a w:=by
 intro r;induction r with
 |nil=>
  intro i t H e a w hd hs hR hT hQ;cases hs;exact hQ e a w e.le_refl hR hT rfl
 |cons o r ih=>
  intro i t H e a w hd hs hR hT hQ;have hi:ops[i]?=some o:=by have:=congrArg (λl=>l[0]?) hd;simpa[agr,ad6] using this
  have gz:ops.toList.drop (i+1)=r:=by have:=congrArg List.tail hd;simpa[List.tail_drop] using this
  rw[aaP,List.range'_succ];unfold vV at hs;split at hs
  ·rename_i hw;split at hs
   ·rename_i v H1 ho;split at hs;·rename_i t1 hp;simp only[wpOps,hi,QK (e:=e) (a:=a) hw (λd _=>hT.val d),if_true];left;refine M4 iZ hR ho (λx _=>VR.ev hR hT x) ?_;intro e' v' w' he bp hv;have cC:=(hT.mono he).put hp hv;refine ih (i+1) t1 H1 e' _ w' gz hs bp cC ?_;intro e2 a2 w2 GU mA zU Cb;refine hQ e2 a2 w2 (Em.le_trans he GU) mA zU (Cb.trans ?_);cases o.dst<;>rfl
    ·cases hs
   ·cases hs
  ·rename_i hw;split at hs;·rename_i t1 hp;simp only[wpOps,hi,QK (e:=e) (a:=a) hw (λd _=>hT.val d),aa8,if_false];have cC:=hT.put hp VR.undef;refine ih (i+1) t1 H e _ w gz hs hR cC ?_;intro e2 a2 w2 GU mA zU Cb;refine hQ e2 a2 w2 GU mA zU (Cb.trans ?_);cases o.dst<;>rfl
   ·cases hs
  ·cases hs
end
end
end
def JZ (o:Oper)(acc:List Nat):Nat:=o.after.toList.foldl (λs e=>if Region.binds .any e then s|||2^e.on|||acc.getD e.on 0 else s) 0
theorem aj1 (acc:List Nat)(j:Nat):∀(l:List Edge) (s:Nat),(l.foldl (λs e=>if Region.binds .any e then s|||2^e.on|||acc.getD e.on 0 else s) s).testBit j=true->
  s.testBit j=true\/∃e∈l,Region.binds .any e=true/\(j=e.on\/(acc.getD e.on 0).testBit j=true)
 |[],s,h=>.inl h|e::l,s,h=>by
  rw[List.foldl_cons] at h;rcases aj1 acc j l _ h with h1|⟨e',P9,hb,hj⟩
  ·by_cases De:Region.binds .any e=true
   ·rw[zz2 De] at h1;rw[Nat.testBit_or,Nat.testBit_or,aiK,aiK] at h1;rcases h1 with (h1|h1)|h1;·exact .inl h1
    ·right;refine⟨e,List.mem_cons_self ..,De,.inl ?_⟩;rw[Nat.testBit_two_pow] at h1;exact (zz8 h1).symm
    ·exact .inr ⟨e,List.mem_cons_self ..,De,.inr h1⟩
   ·rw[zz1 De] at h1;exact .inl h1
  ·exact .inr ⟨e',List.mem_cons_of_mem _ P9,hb,hj⟩
theorem ah8:∀(r:List Oper) (acc:List Nat),(before r acc).length=acc.length+r.length
 |[],acc=>by simp[before]
 |o::r,acc=>by rw[before,ah8 r];simp;omega
theorem Ws:∀(r:List Oper) (acc:List Nat) (i:Nat),i<acc.length->(before r acc)[i]?=acc[i]?
 |[],acc,i,h=>by simp[before]
 |o::r,acc,i,h=>by rw[before,Ws r _ i (by simp;omega)];rw[abd h]
theorem ajf:∀(r:List Oper) (acc:List Nat) (i:Nat) (o:Oper),r[i]?=some o->(before r acc)[acc.length+i]?=some (JZ o ((before r acc).take (acc.length+i)))
 |[],acc,i,o,h=>by simp at h
 |p::r,acc,i,o,h=>by
  cases i with
  |zero=>
   simp at h;subst h;rw[before,aed,Ws r _ _ zzy];have ht:(before r (acc++[JZ p acc])).take acc.length=acc:=by
    apply akn;intro k;rw[ajz];split;·rw[Ws r _ k (by simp;omega),abd (by assumption)]
    ·rw[agQ zzz]
   show (acc++[JZ p acc])[acc.length]?=some (JZ p ((before r (acc++[JZ p acc])).take acc.length));rw[ht];simp
  |succ i=>
   have:=ajf r (acc++[JZ p acc]) i o (by simpa using h);rw[aal,List.length_singleton] at this;rw[before];have e1:acc.length+(i+1)=acc.length+1+i:=zzz;rw[e1];exact this
structure Form (ops:Array Oper)(B:List Nat):Prop where
 len:B.length=ops.size
 back:∀i o,ops[i]?=some o->∀e∈o.after,Region.binds .any e=true->e.on<i
 bit:∀i o,ops[i]?=some o->∀j,(B.getD i 0).testBit j=true->∃e∈o.after,Region.binds .any e=true/\(j=e.on\/(B.getD e.on 0).testBit j=true)
 one:∀(i j:Nat) (oi oj:Oper) (d:Tmp),ops[i]?=some oi->ops[j]?=some oj->oi.dst=some d->oj.dst=some d->i=j
 rd:∀(i j:Nat) (oi oj:Oper) (d:Tmp),ops[i]?=some oi->ops[j]?=some oj->oi.dst=some d->i≠j->JP ops oj d=true->if i<j then (B.getD j 0).testBit i=true else (B.getD i 0).testBit j=true
theorem aA3 {ops:Array Oper}(h:AL ops=true):Form ops (before ops.toList []):=by
 unfold AL at h;simp only at h;have hlen:(before ops.toList []).length=ops.size:=by rw[ah8];simp
 have hz:∀i o,ops[i]?=some o->(i,(o,(before ops.toList []).getD i 0))∈(List.range ops.size).zip (ops.toList.zip (before ops.toList [])):=by intro i o ho;have hi:i<ops.size:=(acA.1 ho).1;apply aac (i:=i);rw[List.getElem?_zip_eq_some];refine⟨by simp[hi],?_⟩;rw[List.getElem?_zip_eq_some];refine⟨by simpa using ho,?_⟩;simp only;rw[aie,aaC (by rw[hlen];exact hi)];rfl
 rw[acT] at h;have h1:∀i o,ops[i]?=some o->∀e∈o.after,Region.binds .any e=true->e.on<i:=by intro i o ho e he hb;have:=h _ (hz i o ho);rw[aaM] at this;have h2:=Array.all_eq_true_iff_forall_mem.1 this.1 e he;rw[hb] at h2;simpa using h2
 have h2:∀i j oi oj,ops[i]?=some oi->ops[j]?=some oj->Rv ops i oi ((before ops.toList []).getD i 0) j oj ((before ops.toList []).getD j 0)=true:=by intro i j oi oj hi hj;have:=h _ (hz i oi hi);rw[aaM] at this;exact acT.1 this.2 _ (hz j oj hj)
 refine⟨hlen,h1,?_,?_,?_⟩
 ·intro i o ho j hb;have hi:i<ops.size:=(acA.1 ho).1;have Hf:=ajf ops.toList [] i o (by simpa using ho);simp only[ach,ade] at Hf;rw[aie,Hf] at hb;simp only[af7] at hb;rcases aj1 _ j _ 0 hb with hq|⟨e,he,De,hj⟩;·simp at hq
  ·have P9:e∈o.after:=by simpa using he
   refine⟨e,P9,De,hj.imp id λhq=>?_⟩;have aR:=h1 i o ho e P9 De;rw[aie,ajz,zz2 aR] at hq;rw[aie];exact hq
 ·intro i j oi oj d hi hj hdi uK;have:=h2 i j oi oj hi hj;unfold Rv at this;rw[hdi] at this;simp only[aiK,aaM] at this;rcases this with q|⟨q,_⟩;·exact aa9 q
  ·simp[uK] at q
 ·intro i j oi oj d hi hj hdi aF hr;have:=h2 i j oi oj hi hj;unfold Rv at this;rw[hdi] at this;simp only[aiK,aaM] at this;rcases this with q|⟨_,q⟩;·exact absurd (aa9 q) aF
  ·rcases q with q|q;·rw[hr] at q;simp at q
   ·by_cases aR:i<j
    ·rw[zz2 aR];have:Nat.blt i j=true:=by rw[adW];exact aR
     rw[this] at q;exact q
    ·rw[zz1 aR];have:Nat.blt i j=false:=by
      cases hb:Nat.blt i j;·rfl
      ·rw[adW] at hb;exact absurd hb aR
     rw[this] at q;exact q
def kk (P:Program)(x:Bool)(o:Oper):Kd:=if x then kd P o else .pure
def Rj (P:Program)(cf:CF)(n:Nat)(ops:Array Oper)(o:Oper)(x:Bool)(v:AV)(tp te mB mq:Tm)(hb hh vX AA:Hp):Prop:=
 sO ops o tp=some x/\
 match x,kd P o with
 |false,_=>v=bS/\je n o.dst bS tp=some mB/\je n o.dst bS te=some mq/\vX=hb/\AA=hh|true,.late=>jJ P (ev P.globals.size te) o hh=some (v,AA)/\je n o.dst .dG tp=some mB/\je n o.dst v te=some mq/\vX=hb|true,.dS=>vL P cf te o hh=some (v,AA)/\je n o.dst v tp=some mB/\je n o.dst v te=some mq/\vX=AA|true,_=>(∃h',jJ P (ev P.globals.size tp) o hb=some (v,h'))/\je n o.dst v tp=some mB/\je n o.dst v te=some mq/\vX=hb/\AA=hh
theorem aHS {P:Program}{cf:CF}{n:Nat}{ops:Array Oper}{B:List Nat}{tF:Tm}{HF:Hp}:∀(r:List Oper) (bs:List Nat) (i:Nat) (tp te:Tm) (hb hh:Hp) (l:List me),
  ops.toList.drop i=r->B.drop i=bs->nh P cf n ops i r bs tp te hb hh=some (l,tF,HF)->
  ∃(TP TE:Nat->Tm) (HB HH:Nat->Hp) (V:Nat->AV) (X:Nat->Bool),TP i=tp/\TE i=te/\HB i=hb/\HH i=hh/\TE (i+r.length)=tF/\HH (i+r.length)=HF/\
   ∀j o,i<=j->ops[j]?=some o->Rj P cf n ops o (X j) (V j) (TP j) (TE j) (TP (j+1)) (TE (j+1)) (HB j) (HH j) (HB (j+1)) (HH (j+1))/\
    (⟨j,o,B.getD j 0,X j,kk P (X j) o,V j,TP j,HB j,HB (j+1)⟩:me)∈l:=by
 intro r;induction r with
 |nil=>
  intro bs i tp te hb hh l hd wA hr;simp only[nh,acD,abW] at hr;obtain⟨rfl,rfl,rfl⟩:=hr;refine⟨λ_=>tp,λ_=>te,λ_=>hb,λ_=>hh,λ_=>.dG,λ_=>false,rfl,rfl,rfl,rfl,rfl,rfl,?_⟩;intro j o hj ho;have aR:=(acA.1 ho).1;have:=congrArg List.length hd;simp at this;omega
 |cons o r ih=>
  intro bs i tp te hb hh l hd wA hr;have hi:ops[i]?=some o:=by have:=congrArg (λl=>l[0]?) hd;simpa[agr,ad6] using this
  have gz:ops.toList.drop (i+1)=r:=by have:=congrArg List.tail hd;simpa[List.tail_drop] using this
  cases bs with
  |nil=>simp[nh] at hr|cons b bs=>
   have hbi:B.getD i 0=b:=by have:=congrArg (λl=>l[0]?) wA;simp[agr] at this;simp[aie,this]
   have aGG:B.drop (i+1)=bs:=by have:=congrArg List.tail wA;simpa[List.tail_drop] using this
   have fin:∀(x:Bool) (v:AV) (mB mq:Tm) (vX AA:Hp) (l':List me),Rj P cf n ops o x v tp te mB mq hb hh vX AA->nh P cf n ops (i+1) r bs mB mq vX AA=some (l',tF,HF)->
     l=⟨i,o,b,x,kk P x o,v,tp,hb,vX⟩::l'->
     ∃(TP TE:Nat->Tm) (HB HH:Nat->Hp) (V:Nat->AV) (X:Nat->Bool),TP i=tp/\TE i=te/\HB i=hb/\HH i=hh/\TE (i+(o::r).length)=tF/\HH (i+(o::r).length)=HF/\
   ∀j o,i<=j->ops[j]?=some o->Rj P cf n ops o (X j) (V j) (TP j) (TE j) (TP (j+1)) (TE (j+1)) (HB j) (HH j) (HB (j+1)) (HH (j+1))/\
    (⟨j,o,B.getD j 0,X j,kk P (X j) o,V j,TP j,HB j,HB (j+1)⟩:me)∈l:=by
    intro x v mB mq vX AA l' aEI Co hl;obtain⟨TP,TE,HB,HH,V,X,q1,q2,q3,q4,q5,q6,q7⟩:=ih bs (i+1) mB mq vX AA l' gz aGG Co;have aF:¬i+1=i:=zzz;refine⟨λj=>if j=i then tp else TP j,λj=>if j=i then te else TE j,λj=>if j=i then hb else HB j,λj=>if j=i then hh else HH j,λj=>if j=i then v else V j,λj=>if j=i then x else X j,
     by simp,zzy,zzy,zzy,?_,?_,?_⟩
    ·simp only[aaP];rw[zz1 zzz];have:i+(r.length+1)=i+1+r.length:=zzz;rw[this];exact q5
    ·simp only[aaP];rw[zz1 zzz];have:i+(r.length+1)=i+1+r.length:=zzz;rw[this];exact q6
    ·intro j oj hj Ap;by_cases yz:j=i;·subst yz;rw[hi] at Ap;cases Ap;simp only[if_true,zz1 aF,q1,q2,q3,q4,hbi];refine⟨aEI,?_⟩;rw[hl];exact List.mem_cons_self ..
     ·have Vd:¬j+1=i:=zzz;simp only[zz1 yz,zz1 Vd];obtain⟨s1,s2⟩:=q7 j oj zzz Ap;exact⟨s1,by rw[hl];exact List.mem_cons_of_mem _ s2⟩
   unfold nh at hr;split at hr
   ·rename_i hw;split at hr
    ·rename_i hk;split at hr
     ·rename_i v h' aS;split at hr;·rename_i mB mq h1 h2;simp only[aaq,Prod.exists,abW] at hr;obtain⟨l',a,b',Co,rfl,rfl,rfl⟩:=hr;refine fin true v mB mq hb h' l' ⟨hw,?_⟩ Co (by simp[kk,hk]);rw[hk];exact⟨aS,h1,h2,rfl⟩
      ·cases hr
     ·cases hr
    ·rename_i hk;split at hr
     ·rename_i v h' aS;split at hr;·rename_i mB mq h1 h2;simp only[aaq,Prod.exists,abW] at hr;obtain⟨l',a,b',Co,rfl,rfl,rfl⟩:=hr;refine fin true v mB mq h' h' l' ⟨hw,?_⟩ Co (by simp[kk,hk]);rw[hk];exact⟨aS,h1,h2,rfl⟩
      ·cases hr
     ·cases hr
    ·rename_i xA iu;split at hr
     ·rename_i v h' aS;split at hr
      ·rename_i mB mq h1 h2;simp only[aaq,Prod.exists,abW] at hr;obtain⟨l',a,b',Co,rfl,rfl,rfl⟩:=hr;refine fin true v mB mq hb hh l' ⟨hw,?_⟩ Co (by simp[kk]);cases cG:kd P o;·exact⟨⟨h',aS⟩,h1,h2,rfl,rfl⟩
       ·exact⟨⟨h',aS⟩,h1,h2,rfl,rfl⟩
       ·exact absurd cG xA
       ·exact absurd cG iu
      ·cases hr
     ·cases hr
   ·rename_i hw;split at hr;·rename_i mB mq h1 h2;simp only[aaq,Prod.exists,abW] at hr;obtain⟨l',a,b',Co,rfl,rfl,rfl⟩:=hr;refine fin false bS mB mq hb hh l' ⟨hw,rfl,h1,h2,rfl,rfl⟩ Co (by simp[kk])
    ·cases hr
   ·cases hr
end Go.Proofs.YtodfajmihkagnaaGreatDoor.Am
