/- Laws that the proof uses. -/
import Derived.Test.YtodfajmihkagnaaGreatDoorAm3
set_option linter.unusedVariables false
set_option linter.unusedSimpArgs false
set_option maxHeartbeats 2000000
namespace Go.Proofs.YtodfajmihkagnaaGreatDoor.Am
section
section
section
section
section
variable {P:Program}{G:Nat}{F:Nat->Prop}{W:World}{e:Em}{H:Hp}{w:World}
theorem QR {el s n:Nat}{z:List AV}(h:Dn P el s n=some z):
  (n*s=0/\z=[])\/(¬n*s=0/\z.length=n*s/\∃inf z0,P.info? el=some inf/\inf.zero=some z0/\z0.cells.size=s/\aR e z ((Array.range (n*s)).map (z0.cells[· % z0.cells.size]!)).toList):=by
 unfold Dn at h;cases hb:Nat.beq (n*s) 0 with
 |true=>
  rw[hb] at h;cases h;exact .inl ⟨aaY hb,rfl⟩
 |false=>
  rw[hb] at h;simp only[cond_false] at h;have h0:¬n*s=0:=λq=>by rw[q] at hb;cases hb
  split at h
  ·rename_i z1 hz;cases hl:Nat.beq z1.length s with
   |false=>rw[hl] at h;cases h
   |true=>
    rw[hl] at h;cases h;have q8:z1.length=s:=aaY hl;obtain⟨inf,z0,kA,gN,Cu⟩:=Cf (e:=e) hz;have fK:z0.cells.size=s:=by have:=Cu.1;simp at this;omega
    have hr:aR e (rep n z1) ((Array.range (n*s)).map (z0.cells[· % z0.cells.size]!)).toList:=by have:=aoA z0.cells n;rw[fK] at this;rw[fK,this];exact Cu.rep n
    refine .inr ⟨h0,?_,inf,z0,kA,gN,fK,hr⟩;have:=hr.1;simp at this;omega
  ·cases h
theorem adE {pl:Nat->Option (Nat×Nat)}:∀(ps:List (Nat×AV)) (cells out:List AV),ye pl cells ps=some out->out.length=cells.length
 |[],cells,out,h=>by cases h;rfl
 |(i,v)::ps,cells,out,h=>by
  unfold ye at h;split at h;·cases h
  ·split at h;·cases h
   ·split at h;·rename_i hc;rw[adE ps _ _ h];simp;omega
    ·cases h
section
variable {H':Hp}{c x:AV}{c' x':Value}{e:Em}{i:Nat}{o:AO}{ob:Obj}{ps:List (Nat×AV)}{ps':Array (Nat×Value)}
theorem av2 (h:RH G F W e H w){t len:Nat}{v:AV}(hp:xp e ps ps'.toList)(hb:Nn P t len ps H=some (v,H')):
  ∃v' w' e',(Instr.buildSlice t len ps').run P w=.ok v' w'/\e.le e'/\RH G F W e' H' w'/\VR e' v v':=by
 unfold Nn at hb;split at hb
 ·rename_i el hu;split at hb
  ·rename_i s hs;cases hle:Nat.ble (len*s) 65536 with
   |false=>rw[hle] at hb;cases hb
   |true=>
   rw[hle] at hb;simp only[cond_true] at hb;rw[aeF] at hle;split at hb
   ·rename_i z hz;split at hb
    ·rename_i cs gS;simp only[aag,abX] at hb;obtain⟨⟨i,H2⟩,hn,rfl,rfl⟩:=hb;have hlen:=adE ps z cs gS;have QT:¬(len*s>2^24):=zzz;rcases QR (P:=P) (e:=e) hz with⟨h0,rfl⟩|⟨h0,ag9,inf,z0,kA,gN,fK,sG⟩
     ·obtain⟨nh,ho,hr⟩:=Rg (e:=e) (HZ:=λi=>some (i*s,s)) (λi x hx=>hx) ps ps'.toList [] cs #[] hp (.nil e) gS;obtain⟨e',he,g1,g2,g3,g4,qX⟩:=h.newRow (rest:=[]) (fz:=(0,0)) hn hr (λ_=>rfl) zzy;refine⟨.slice (some ⟨w.heap.size,0,none⟩) len len,_,e',?_,he,qX,VR.Fw g2 g1 (by rw[g3];simp) (aaq _) (aaq _) (λ_=>rfl) ?_⟩;·simp only[Instr.buildSlice,Sem.run_bind,aL hu,Result.andThen_ok,jq hs,zz1 QT];rw[zz2 h0];have Hi:Array.range 0=#[]:=rfl;simp[h0,Hi,ho,newRow]
      ·rw[g4];simp[h0]
     ·obtain⟨nh,ho,hr⟩:=Rg (e:=e) (HZ:=λi=>some (i*s,s)) (λi x hx=>hx) ps ps'.toList z cs _ hp sG gS;obtain⟨e',he,g1,g2,g3,g4,qX⟩:=h.newRow (rest:=[]) (fz:=(0,0)) hn hr (λ_=>rfl) zzy;refine⟨.slice (some ⟨w.heap.size,0,none⟩) len len,_,e',?_,he,qX,VR.Fw g2 g1 (by rw[g3];simp) (aaq _) (aaq _) (λ_=>rfl) ?_⟩;·simp only[Instr.buildSlice,Sem.run_bind,aL hu,Result.andThen_ok,jq hs,zz1 QT];rw[zz1 h0];simp[vH kA gN,newRow] at ho⊢;simp[ho]
      ·rw[g4];have:=hr.1;simp at this⊢;omega
    ·cases hb
   ·cases hb
  ·cases hb
 ·cases hb
theorem run_makeSlice {t:Nat}{k1 k2:IntKind}{n m:Int}{H:Hp}{v:AV}(hb:zX P t (.int k1 n) (.int k2 m) H=some (v,H'))(w:World):
  ∃el s z row,P.underlying t=some (.slice el)/\sz P el=some s/\Dn P el s m.toNat=some z/\(∀e:Em,aR e z row)/\n.toNat<=m.toNat/\row.length=m.toNat*s/\
   (Instr.makeSlice t (.int k1 n) (.int k2 m)).run P w=.ok (.slice (some ⟨w.heap.size,0,none⟩) n.toNat m.toNat) {w with heap:=w.heap.push (.cells row.toArray el (0,0))}:=by
 unfold zX at hb;split at hb
 ·rename_i el k1' n' I3 m' hu q1 q2;cases q1;cases q2;split at hb
  ·rename_i s hs;split at hb
   ·rename_i vP;obtain⟨h1,h2,h3,h4⟩:=vP;split at hb
    ·rename_i z hz;obtain⟨inf,kA⟩:∃inf,P.info? el=some inf:=by
      unfold sz at hs;cases hq:P.info? el with
      |none=>simp[hq] at hs|some inf=>exact⟨inf,rfl⟩
     have V5:inf.bytes<=4096:=by unfold Program.bytesOf at h4;rw[kA] at h4;simpa using h4
     have w1:IntKind.i64.wrap n=n:=IntWalk.i64_in _ zzz;have w2:IntKind.i64.wrap m=m:=IntWalk.i64_in _ zzz;have Fe:¬((inf.bytes:Int)*m>2^48):=by have:(inf.bytes:Int)*m<=4096*1048576:=Int.mul_le_mul zzz zzz zzz zzz;omega
     have c1:(decide (m<0)||decide ((inf.bytes:Int)*m>2^48))=false:=by simp;omega
     have Gt:¬(((decide (m<0)||decide ((inf.bytes:Int)*m>2^48))||decide (n<0)||decide (n>m))=true):=by rw[c1];simp;omega
     rcases QR (P:=P) (e:=⟨id,λ_=>0,id,0⟩) hz with⟨h0,rfl⟩|⟨h0,ag9,ahm,z0,GA,gN,fK,sG⟩;·refine⟨el,s,[],[],hu,hs,hz,λe=>.nil e,zzz,by simp[h0],?_⟩;simp only[Instr.makeSlice,Sem.run_bind,aL hu,Result.andThen_ok,asInt,asIntOf,Sem.run_pure,sM kA,w1,w2,zz1 Gt,run_askRoom,jq hs];rw[zz2 h0];have Hi:Array.range 0=#[]:=rfl;simp[h0,Hi,newRow]
     ·refine⟨el,s,z,((Array.range (m.toNat*s)).map (z0.cells[· % z0.cells.size]!)).toList,hu,hs,hz,λe=>?_,zzz,?_,?_⟩
      rotate_left 2
      ·simp only[Instr.makeSlice,Sem.run_bind,aL hu,Result.andThen_ok,asInt,asIntOf,Sem.run_pure,sM kA,w1,w2,zz1 Gt,run_askRoom,jq hs];rw[zz1 h0];simp[vH GA gN,newRow];congr 2;apply aee.1;simp
      ·rcases QR (P:=P) (e:=e) hz with⟨q,_⟩|⟨_,_,aIk,z3,aoD,hz3,_,ap9⟩;·exact absurd q h0
       ·rw[GA] at aoD;cases aoD;rw[gN] at hz3;cases hz3;exact ap9
      ·simp
    ·cases hb
   ·cases hb
  ·cases hb
 ·cases hb
theorem aCi (h:RH G F W e H w){t:Nat}{l v:AV}{l':Value}(hl:VR e l l')(hc:VR e c c')(hb:zX P t l c H=some (v,H')):
  ∃v' w' e',(Instr.makeSlice t l' c').run P w=.ok v' w'/\e.le e'/\RH G F W e' H' w'/\VR e' v v':=by
 unfold zX at hb;split at hb
 ·rename_i el k1 n k2 m hu;cases hl.il;cases hc.il;split at hb
  ·rename_i s hs;split at hb
   ·rename_i vP;obtain⟨h1,h2,h3,h4⟩:=vP;split at hb
    ·rename_i z hz;simp only[aag,abX] at hb;obtain⟨⟨i,H2⟩,hn,rfl,rfl⟩:=hb;obtain⟨inf,kA⟩:∃inf,P.info? el=some inf:=by
      unfold sz at hs;cases hq:P.info? el with
      |none=>simp[hq] at hs|some inf=>exact⟨inf,rfl⟩
     have V5:inf.bytes<=4096:=by unfold Program.bytesOf at h4;rw[kA] at h4;simpa using h4
     have w1:IntKind.i64.wrap n=n:=IntWalk.i64_in _ zzz;have w2:IntKind.i64.wrap m=m:=IntWalk.i64_in _ zzz;have Fe:¬((inf.bytes:Int)*m>2^48):=by have:(inf.bytes:Int)*m<=4096*1048576:=Int.mul_le_mul zzz zzz zzz zzz;omega
     have c1:(decide (m<0)||decide ((inf.bytes:Int)*m>2^48))=false:=by simp;omega
     have QT:¬((decide (m<0)||decide ((inf.bytes:Int)*m>2^48))=true\/n<0\/n>m):=by rw[c1];simp;omega
     have Gt:¬(((decide (m<0)||decide ((inf.bytes:Int)*m>2^48))||decide (n<0)||decide (n>m))=true):=by rw[c1];simp;omega
     rcases QR (P:=P) (e:=e) hz with⟨h0,rfl⟩|⟨h0,ag9,ahm,z0,GA,gN,fK,sG⟩;·obtain⟨e',he,g1,g2,g3,g4,qX⟩:=h.newRow (rest:=[]) (fz:=(0,0)) hn (.nil e) (λ_=>rfl) zzy;refine⟨.slice (some ⟨w.heap.size,0,none⟩) n.toNat m.toNat,_,e',?_,he,qX,VR.Fw g2 g1 (by rw[g3];simp) zzz (aaq _) (λ_=>rfl) (by rw[g4];simp[h0])⟩;simp only[Instr.makeSlice,Sem.run_bind,aL hu,Result.andThen_ok,asInt,asIntOf,Sem.run_pure,sM kA,w1,w2,zz1 Gt,run_askRoom,jq hs];rw[zz2 h0];have Hi:Array.range 0=#[]:=rfl;simp[h0,Hi,newRow]
     ·obtain⟨e',he,g1,g2,g3,g4,qX⟩:=h.newRow (rest:=[]) (fz:=(0,0)) hn sG (λ_=>rfl) zzy;refine⟨.slice (some ⟨w.heap.size,0,none⟩) n.toNat m.toNat,_,e',?_,he,qX,VR.Fw g2 g1 (by rw[g3];simp) zzz (aaq _) (λ_=>rfl) (by rw[g4];simp)⟩;simp only[Instr.makeSlice,Sem.run_bind,aL hu,Result.andThen_ok,asInt,asIntOf,Sem.run_pure,sM kA,w1,w2,zz1 Gt,run_askRoom,jq hs];rw[zz1 h0];simp[vH GA gN,newRow];congr 2;apply aee.1;simp
    ·cases hb
   ·cases hb
  ·cases hb
 ·cases hb
theorem RH.new (h:RH G F W e H w)(ha:Am.alloc H o=some (i,H'))(eN:∀e',e.le e'->e'.d i=0->OR e' i o ob):
  ∃e',e.le e'/\i<e'.N/\e'.b i=w.heap.size/\e'.d i=0/\RH G F W e' H' {w with heap:=w.heap.push ob}:=by
 have CP:i=e.N:=(AS ha).1.trans h.N.symm;obtain⟨hi,hr⟩:=h.alloc (d:=0) (n:=0) ha (eN _ (Em.sE ..) (by rw[CP];exact Em.pQ ..));subst hi;exact⟨_,Em.sE ..,by simp[Em.ext],Em.pP ..,Em.pQ ..,hr⟩
theorem VR.abh {b:Nat}(hb:e.b i=b)(hi:i<e.N)(hd:e.d i=0):VR e (.ptr i 0) (.pointer (some ⟨b,0,none⟩)):=by subst hb;exact .ptr i 0 0 hi (by rw[hd];simp)
theorem VR.EF {b:Nat}(hb:e.b i=b)(hi:i<e.N):VR e (.map i) (.map (some b)):=by subst hb;exact .map i hi
theorem aqQ (h:RH G F W e H w){t:Nat}(ha:Am.alloc H (.map [] 0)=some (i,H')):
  ∃v' w' e',(Instr.makeMap t none).run P w=.ok v' w'/\e.le e'/\RH G F W e' H' w'/\VR e' (.map i) v':=by
 obtain⟨e',he,g1,g2,g3,hr⟩:=h.new (ob:=.map #[] 0) ha (λe' _ _=>.map _ _ _ _ [] (List.Perm.refl _) ⟨rfl,zzy⟩ zzy zzy);exact⟨.map (some w.heap.size),_,e',by simp[Instr.makeMap],he,hr,.EF g2 g1⟩
theorem aCJ (h:RH G F W e H w){t:Nat}{v:AV}(hx:VR e x x')(hb:C9 P t x H=some (v,H')):
  ∃v' w' e',(Instr.range t x').run P w=.ok v' w'/\e.le e'/\RH G F W e' H' w'/\VR e' v v':=by
 unfold C9 at hb;split at hb;·rename_i s hu;obtain⟨b,rfl,rfl⟩:=hx.oc;simp only[aag,abX] at hb;obtain⟨⟨i,H2⟩,hn,rfl,rfl⟩:=hb;obtain⟨e',he,g1,g2,g3,hr⟩:=h.new (ob:=.stringIter b 0) hn (λe' _ hd=>.vS _ _ _ rfl hd);exact⟨.pointer (some ⟨w.heap.size,0,none⟩),_,e',by simp[Instr.range,aL hu],he,hr,.abh g2 g1 g3⟩
 ·cases hb
theorem aDv {s:ByteArray}{pos b:Nat}{r:List Nat}(h:(bytes s).drop pos=b::r)(hb:b<128):pos<s.size/\Utf8.decode s pos=(b,1):=by
 have hlen:((bytes s).drop pos).length=s.size-pos:=by rw[aeG,AZ]
 rw[h] at hlen;simp at hlen;have aN:pos<s.size:=zzz;refine⟨aN,?_⟩;have h0:(bytes s)[pos]?=some b:=by have:=afX (xs:=bytes s) (i:=pos) (j:=0);rw[h] at this;simpa using this.symm
 simp only[bytes,acd,aag] at h0;obtain⟨u,hu,rfl⟩:=h0;have fP:s.get! pos=u:=by
  cases s with
  |mk d=>
   have hd:pos<d.size:=aN;have:=(aac.1 hu).2;simp only[ByteArray.get!];rw[getElem!_pos d pos hd,<-this];simp
 unfold Utf8.decode;simp only[aeA,fP];rw[zz2 hb]
theorem axN {b:Nat}{o:Obj}(hb:w.heap[b]?=some ob)(hn:∀c el fz,ob ≠ .cells c el fz):(Go.setObj b o).run P w=.ok () {w with heap:=w.heap.setIfInBounds b o}:=by cases ob<;>first|(exact absurd rfl (hn _ _ _))|(simp[Go.setObj,Sem.run,hb])
theorem ato {b:Nat}(hb:w.heap[b]?=some ob)(hn:∀c el fz,ob ≠ .cells c el fz):(Go.getObj b).run P w=.ok ob w:=by cases ob<;>first|(exact absurd rfl (hn _ _ _))|(simp[Go.getObj,Sem.run,hb])
theorem RH.ay0 (h:RH G F W e H w){o2:AO}(hg:H.h.get i=some o)(hw:wr o=true){sW:Obj}(hb:w.heap[e.b i]?=some ob)(eN:OR e i o2 sW):
  RH G F W e (Am.setObj H i o2) {w with heap:=w.heap.setIfInBounds (e.b i) sW}:=by
 have aN:=(abW.1 hb).1;refine h.put hg hw (su:=sW) zzy (by simp[aN]) (λk hk=>?_) eN rfl rfl rfl;simp only;rw[aeT (λq=>hk q.symm)]
theorem VR.aDu {a b:AV}{a' b':Value}(ha:VR e a a')(hb:VR e b b')(hc:VR e c c'):VR e (.tuple [a,b,c]) (.tuple #[a',b',c']):=
 .tuple' (.cons ha (.cons hb (.cons hc (.nil e))))
theorem awn (h:RH G F W e H w){t:Nat}{it v:AV}{ND:Value}{vl:Bool}{H':Hp}(hx:VR e it ND)(hb:Bf it vl H=some (v,H')):
  ∃v' w',(Instr.next ND vl t).run P w=.ok v' w'/\RH G F W e H' w'/\VR e v v':=by
 unfold Bf at hb;split at hb
 ·rename_i i;obtain⟨o,hi,ho,rfl⟩:=hx.tG;split at hb
  ·rename_i s pos hg;obtain⟨_,ob,eW,eN,hF⟩:=h.obj i _ hg;cases eN with
   |vS _ _ s' hs hd=>
   have Hw:o=0:=zzz;subst Hw;have fP:(Go.getObj (e.b i)).run P w=.ok (.stringIter s' pos) w:=ato eW zzy;split at hb
   ·rename_i Ej;cases hb;have hlen:=congrArg List.length Ej;rw[aeG,<-hs,AZ] at hlen;have u7:¬pos<s'.size:=by simp at hlen;omega
    exact⟨_,w,by simp[Instr.next,fP,u7],h,.tuple' (.cons (.bool false) (.nil e))⟩
   ·rename_i b r Ej;cases aN:Nat.blt b 128 with
    |false=>rw[aN] at hb;cases hb
    |true=>
     rw[aN] at hb;cases hb;rw[aeg] at aN;rw[<-hs] at Ej;obtain⟨KH,aum⟩:=aDv Ej aN;refine⟨_,{w with heap:=w.heap.setIfInBounds (e.b i) (.stringIter s' (pos+1))},?_,h.ay0 hg rfl eW (.vS _ _ _ hs hd),VR.aDu (.bool true) (.int _ _) (.int _ _)⟩;have fY:(Go.setObj (e.b i) (.stringIter s' (pos+1))).run P w=.ok () {w with heap:=w.heap.setIfInBounds (e.b i) (.stringIter s' (pos+1))}:=axN eW zzy;simp only[Instr.next,Sem.run_bind,fP,Result.andThen_ok,KH,if_true,aum,fY];rfl
  ·cases hb
 ·cases hb
theorem aHJ (h:RH G F W e H w){it v:AV}{ND:Value}(hx:VR e it ND)(hb:SL it H=some v):
  ∃v',(Instr.entry ND).run P w=.ok v' w/\VR e v v':=by
 unfold SL at hb;cases hb
theorem aHR {yy t:TypeId}{v:AV}{ok:Bool}(hx:VR e x x')(hb:LW P yy x ok=some v)(w:World):
  ∃v',(Instr.typeAssert x' t yy ok).run P w=.ok v' w/\VR e v v':=by
 unfold LW at hb;split at hb;·cases hb
 ·rename_i d t2 u aE hu;cases hx with
  |iface _ _ u' hr=>
  split at hb
  ·rename_i ht;subst ht;have hd:∀ms,d ≠ .interface ms:=λms q=>aE ms q;cases ok with
   |true=>
    cases hb;refine⟨.tuple #[u',.bool true],?_,hr.pair (.bool true)⟩;cases d<;>first|(exact absurd rfl (hd _))|simp[Instr.typeAssert,aL hu]
   |false=>
    cases hb;refine⟨u',?_,hr⟩;cases d<;>first|(exact absurd rfl (hd _))|simp[Instr.typeAssert,aL hu]
  ·cases hb
 ·cases hb
end
end
end
section
variable {P:Program}{G:Nat}{F:Nat->Prop}{W:World}{e:Em}{H:Hp}{w:World}
theorem aEx {t:TypeId}{ps:List (Nat×AV)}{ps':Array (Nat×Value)}{v:AV}(hp:xp e ps ps'.toList)(hb:KI P t ps=some v)(w:World):
  ∃v',(Instr.build t ps').run P w=.ok v' w/\VR e v v':=by
 unfold KI at hb;split at hb
 ·rename_i z fs hz hu;split at hb;·rename_i pl iS;simp only[aag] at hb;obtain⟨out,hf,rfl⟩:=hb;exact aGw hz hu iS hp hf w
  ·cases hb
 ·rename_i z n el hz hu;split at hb;·rename_i s hs;simp only[aag] at hb;obtain⟨out,hf,rfl⟩:=hb;exact ayK hz hu hs hp hf w
  ·cases hb
 ·cases hb
theorem aR.Jw {ρ:Operand->AV}{σ:Operand->Value}(h:∀x,VR e (ρ x) (σ x))(l:Array Operand):aR e (l.toList.map ρ) (l.map σ).toList:=by rw[Array.toList_map];exact aR.map h _
theorem axb (h:RH G F W e H w){b:Builtin}{cL:Array TypeId}{ty:TypeId}{cs:Array Bool}{args:List AV}{HY:Array Value}{v:AV}{H':Hp}(ha:aR e args HY.toList)(hb:jn P b cL args H=some (v,H')):
  ff P G F W e v H' ((builtin b cL ty cs HY).run P w):=by
 have two:∀{s x:AV},aR e [s,x] HY.toList->∃s' x',HY=#[s',x']/\VR e s s'/\VR e x x':=by intro s x h2;obtain⟨s',r,h1,hs,hr⟩:=h2.cons_inv;obtain⟨x',r',rfl,hx,dH⟩:=hr.cons_inv;rw[dH.mc] at h1;exact⟨s',x',aee.1 h1,hs,hx⟩
 have one:∀{s:AV},aR e [s] HY.toList->∃s',HY=#[s']/\VR e s s':=by intro s h2;obtain⟨s',r,h1,hs,hr⟩:=h2.cons_inv;rw[hr.mc] at h1;exact⟨s',aee.1 h1,hs⟩
 unfold jn at hb;split at hb;·obtain⟨s',x',rfl,hs,hx⟩:=two ha;obtain⟨v',w',e',h1,h2,h3,h4⟩:=aHI (P:=P) (ty:=ty) h hs hx hb;exact ff.val h1 h2 h3 h4
 ·obtain⟨s',x',rfl,hs,hx⟩:=two ha;obtain⟨v',w',h1,h3,h4⟩:=auG (P:=P) (ty:=ty) h hs hx hb;exact ff.val h1 e.le_refl h3 h4
 ·obtain⟨s',x',rfl,hs,hx⟩:=two ha;simp only[aag,abX] at hb;obtain⟨H2,hd,rfl,rfl⟩:=hb;obtain⟨w',h1,h3⟩:=aFT (P:=P) (ty:=ty) h hs hx hd;exact ff.val h1 e.le_refl h3 .undef
 ·obtain⟨s',rfl,hs⟩:=one ha;simp only[aag,abX] at hb;obtain⟨H2,hd,rfl,rfl⟩:=hb;obtain⟨w',h1,h3⟩:=ao0 (P:=P) (ty:=ty) h hs hd;exact ff.val h1 e.le_refl h3 .undef
 ·obtain⟨s',rfl,hs⟩:=one ha;simp only[aag,abX] at hb;obtain⟨v2,hd,rfl,rfl⟩:=hb;obtain⟨v',h1,h3⟩:=aEp (P:=P) (ty:=ty) h hs hd;exact ff.pure h h1 h3
 ·obtain⟨s',rfl,hs⟩:=one ha;simp only[aag,abX] at hb;obtain⟨v2,hd,rfl,rfl⟩:=hb;obtain⟨v',h1,h3⟩:=aGO (P:=P) (ty:=ty) hs hd w;exact ff.pure h h1 h3
 ·rename_i x r;simp only[aag,abX] at hb;obtain⟨v2,hd,rfl,rfl⟩:=hb;obtain⟨x',r',nX,hx,hr⟩:=ha.cons_inv;obtain⟨v',h1,h3⟩:=acS (P:=P) (w:=w) hx hr hd;refine ff.pure h (v':=v') ?_ h3;unfold Builtin.min_;rw[nX];exact h1
 ·rename_i x r;simp only[aag,abX] at hb;obtain⟨v2,hd,rfl,rfl⟩:=hb;obtain⟨x',r',nX,hx,hr⟩:=ha.cons_inv;obtain⟨v',h1,h3⟩:=adk (P:=P) (w:=w) hx hr hd;refine ff.pure h (v':=v') ?_ h3;unfold Builtin.max_;rw[nX];exact h1
 ·obtain⟨s',rfl,hs⟩:=one ha;cases hs;cases hb;exact ff.pure h (Go.Lib.run_unsafeSliceData_nil (P:=P) w cL ty 0 0) .dE
 ·rename_i i off l c a1 a2;obtain⟨s',rfl,hs⟩:=one ha;cases hl:Nat.blt 0 l with
  |false=>rw[hl] at hb;cases hb
  |true=>
   rw[hl] at hb;cases hb;rw[aeg] at hl;rcases hs.nL with⟨o,cc,hi,ho,mr,hc,kC,hn,rfl⟩|⟨rfl,_,a,rfl⟩;·exact ff.pure h (Go.Lib.run_unsafeSliceData_row (P:=P) w cL ty ⟨e.b i,o,none⟩ l cc zzz) (.ptr _ _ _ hi ho)
   ·omega
 ·rename_i p k n;obtain⟨p',k',rfl,hp,hk⟩:=two ha;cases hk.il;obtain⟨v',w',h1,h3,h4⟩:=azV (P:=P) (ty:=ty) h hp hb;exact ff.val h1 e.le_refl h3 h4
 ·cases hb
theorem aGf {x v:AV}{x':Value}(hx:VR e x x')(hb:aI x=some v):
  v=x/\((∃a,x'=.pointer (some a))\/(∃f a b,x'=.func (.func f) a b)\/∃t u,x'=.iface t u):=by
 unfold aI at hb;split at hb;·cases hb;obtain⟨o,_,_,rfl⟩:=hx.tG;exact⟨rfl,.inl ⟨_,rfl⟩⟩
 ·cases hb;cases hx;exact⟨rfl,.inr (.inl ⟨_,_,_,rfl⟩)⟩
 ·cases hb;cases hx;exact⟨rfl,.inr (.inr ⟨_,_,rfl⟩)⟩
 ·cases hb
end
section
variable {e:Em}{ρ:Operand->AV}{σ:Operand->Value}
theorem zy.map (h:∀x,VR e (ρ x) (σ x)):∀o:Option Operand,zy e (o.map ρ) (o.map σ)
 |none=>trivial|some x=>h x
theorem xp.Jw (h:∀x,VR e (ρ x) (σ x))(l:Array (Nat×Operand)):
  xp e (l.toList.map λ(i,x)=>(i,ρ x)) (l.map λ(i,x)=>(i,σ x)).toList:=by
 rw[Array.toList_map];exact xp.map h _
theorem aBl {P:Program}{G:Nat}{F:Nat->Prop}{W:World}{e:Em}{H:Hp}{w:World}(h:RH G F W e H w){ρ:Operand->AV}{σ:Operand->Value}(hρ:∀x,VR e (ρ x) (σ x)){o:Oper}{v:AV}{H':Hp}(ha:jQ P ρ o H=some (v,H')):
  ff P G F W e v H' ((execOp σ o).run P w):=by
 unfold jQ at ha;unfold execOp;split at ha;·rename_i x aT;cases ha;rw[aT];exact⟨.value (σ x),w,e,σ x,rfl,.inl rfl,e.le_refl,h,hρ x⟩
 ·rename_i x aT;cases ha;rw[aT];exact⟨.value (σ x),w,e,σ x,rfl,.inl rfl,e.le_refl,h,hρ x⟩
 ·rename_i c a b aT;rw[aT];split at ha
  ·rename_i t ht;cases ha;have hc:=hρ c;rw[ht] at hc;have hc':=hc.wj;cases t with
   |true=>exact⟨.value (σ a),w,e,σ a,by simp[hc',asBool],.inl rfl,e.le_refl,h,hρ a⟩|false=>exact⟨.value (σ b),w,e,σ b,by simp[hc',asBool],.inl rfl,e.le_refl,h,hρ b⟩
  ·cases ha
 ·rename_i t aT;rw[aT];split at ha;·rename_i l hl;simp only[aag,abX] at ha;obtain⟨⟨i,H2⟩,hn,rfl,rfl⟩:=ha;obtain⟨v',w',e',h1,h2,h3,h4⟩:=apA (P:=P) h hl hn;exact ff.val h1 h2 h3 h4
  ·cases ha
 ·rename_i t x aT;rw[aT];split at ha;·rename_i l hl;simp only[aag,abX] at ha;obtain⟨⟨i,H2⟩,hn,rfl,rfl⟩:=ha;obtain⟨v',w',e',h1,h2,h3,h4⟩:=asw (P:=P) h (hρ x) hl hn;exact ff.val h1 h2 h3 h4
  ·cases ha
 ·rename_i t parts aT;rw[aT];simp only[aag,abX] at ha;obtain⟨v2,hb,rfl,rfl⟩:=ha;obtain⟨v',h1,h2⟩:=aEx (xp.Jw hρ parts) hb w;exact ff.pure h h1 h2
 ·rename_i t len parts aT;rw[aT];obtain⟨v',w',e',h1,h2,h3,h4⟩:=av2 (P:=P) h (xp.Jw hρ parts) ha;exact ff.val h1 h2 h3 h4
 ·rename_i t m k x aT;rw[aT];simp only[aag,abX] at ha;obtain⟨H2,hb,rfl,rfl⟩:=ha;obtain⟨w',h1,h3⟩:=ah3 (P:=P) h (hρ m) (hρ k) (hρ x) hb;exact ff.unit h1 e.le_refl h3
 ·rename_i t m k x aT;rw[aT];simp only[aag,abX] at ha;obtain⟨H2,hb,rfl,rfl⟩:=ha;obtain⟨w',h1,h3⟩:=ah3 (P:=P) h (hρ m) (hρ k) (hρ x) hb;exact ff.unit h1 e.le_refl h3
 ·rename_i t a aT;rw[aT];simp only[aag,abX] at ha;obtain⟨v2,hb,rfl,rfl⟩:=ha;obtain⟨v',h1,h2⟩:=adw h (hρ a) hb;exact ff.pure h h1 h2
 ·rename_i t a x aT;rw[aT];simp only[aag,abX] at ha;obtain⟨H2,hb,rfl,rfl⟩:=ha;obtain⟨w',h1,h3⟩:=arI (P:=P) h (hρ a) (hρ x) hb;exact ff.unit h1 e.le_refl h3
 ·rename_i x aT;rw[aT];simp only[aag,abX] at ha;obtain⟨v2,hb,rfl,rfl⟩:=ha;obtain⟨rfl,h1⟩:=aGf (hρ x) hb;refine⟨.value (σ x),w,e,σ x,?_,.inl rfl,e.le_refl,h,hρ x⟩;rcases h1 with⟨a,q⟩|⟨f,a,b,q⟩|⟨t,u,q⟩<;>(simp only[q];rfl)
 ·rename_i op t x y ty aT;rw[aT];cases hg:wQ P op t x y (ρ x) (ρ y) with
  |false=>rw[hg] at ha;cases ha
  |true=>
   rw[hg] at ha;simp only[cond_true,aag,abX] at ha;obtain⟨v2,hb,rfl,rfl⟩:=ha;obtain⟨v',h1,h2⟩:=aDd h (hρ x) (hρ y) hb;have h0:=aG0 (w:=w) (hρ x) (hρ y) hg hb;refine ff.pure h (v':=v') ?_ h2;rw[Sem.run_bind,h0];exact h1
 ·rename_i op t x aT;rw[aT];simp only[aag,abX] at ha;obtain⟨v2,hb,rfl,rfl⟩:=ha;obtain⟨v',h1,h2⟩:=avb (P:=P) (hρ x) hb w;exact ff.pure h h1 h2
 ·rename_i a b x aT;rw[aT];obtain⟨v',w',e',h1,h2,h3,h4⟩:=aB8 (P:=P) h (hρ x) ha;exact ff.val h1 h2 h3 h4
 ·rename_i t x aT;rw[aT];simp only[aag,abX] at ha;obtain⟨v2,hb,rfl,rfl⟩:=ha;unfold QO at hb;split at hb;·cases hb
  ·rename_i d aE hu;cases hb;have hd:∀ms,d ≠ .interface ms:=λms q=>aE ms q;refine ff.pure h (v':=.iface t (σ x)) ?_ (.iface _ _ _ (hρ x));cases d<;>first|(exact absurd rfl (hd _))|simp[Instr.makeInterface,aL hu]
  ·cases hb
 ·rename_i fn a b aT;rw[aT];simp only[aag,abX] at ha;obtain⟨v2,hb,rfl,rfl⟩:=ha;have h1:=aR.Jw hρ a;have h2:=aR.Jw hρ b;unfold Rk at hb;split at hb;·cases hb
  ·rename_i aE;cases hb;exact ff.pure h (v':=.func fn (a.map σ) (b.map σ)) (by simp[Instr.makeFunc]) (.func fn aE _ _ _ _ h1.1 h2.1 h1.2 h2.2)
 ·rename_i t aT;rw[aT];simp only[aag,abX] at ha;obtain⟨⟨i,H2⟩,hn,rfl,rfl⟩:=ha;obtain⟨v',w',e',h1,h2,h3,h4⟩:=aqQ (P:=P) (t:=t) h hn;exact ff.val h1 h2 h3 h4
 ·rename_i t l c aT;rw[aT];obtain⟨v',w',e',h1,h2,h3,h4⟩:=aCi (P:=P) h (hρ l) (hρ c) ha;exact ff.val h1 h2 h3 h4
 ·rename_i t x lo hi mx aT;rw[aT];simp only[aag,abX] at ha;obtain⟨v2,hb,rfl,rfl⟩:=ha;obtain⟨v',h1,h2⟩:=aw1 h (hρ x) (zy.map hρ lo) (zy.map hρ hi) (zy.map hρ mx) hb;exact ff.pure h h1 h2
 ·rename_i t x f aT;rw[aT];simp only[aag,abX] at ha;obtain⟨v2,hb,rfl,rfl⟩:=ha;unfold PB at hb;split at hb
  ·rename_i fs i off hu hx;split at hb
   ·rename_i fd NL;cases hp:CC P fd.type with
    |false=>rw[hp] at hb;cases hb
    |true=>
     rw[hp] at hb;cases hb;obtain⟨n,hn⟩:∃n,sz P fd.type=some (n+1):=by
      unfold CC at hp;split at hp;·rename_i n hn;exact⟨n,hn⟩
      ·cases hp
     have qU:=hρ x;rw[hx] at qU;obtain⟨v',h1,h2⟩:=aq4 qU hu NL hn zzz w;exact ff.pure h h1 h2
   ·cases hb
  ·cases hb
 ·rename_i t x f aT;rw[aT];simp only[aag,abX] at ha;obtain⟨v2,hb,rfl,rfl⟩:=ha;unfold Li at hb;split at hb
  ·rename_i fs cs hu hx;split at hb;·rename_i fd NL;obtain⟨v',h1,h2⟩:=awv (hρ x) hu NL hx hb w;exact ff.pure h h1 h2
   ·cases hb
  ·cases hb
 ·rename_i t x ix aT;rw[aT];simp only[aag,abX] at ha;obtain⟨v2,hb,rfl,rfl⟩:=ha;obtain⟨v',h1,h2⟩:=ayb (hρ x) (hρ ix) hb w;exact ff.pure h h1 h2
 ·rename_i t x ix aT;rw[aT];simp only[aag,abX] at ha;obtain⟨v2,hb,rfl,rfl⟩:=ha;obtain⟨v',h1,h2⟩:=ao9 (hρ x) (hρ ix) hb w;exact ff.pure h h1 h2
 ·rename_i t x k ok aT;rw[aT];simp only[aag,abX] at ha;obtain⟨v2,hb,rfl,rfl⟩:=ha;obtain⟨v',h1,h2⟩:=aDw h (hρ x) (hρ k) hb;exact ff.pure h h1 h2
 ·rename_i t x aT;rw[aT];obtain⟨v',w',e',h1,h2,h3,h4⟩:=aCJ (P:=P) h (hρ x) ha;exact ff.val h1 h2 h3 h4
 ·rename_i it vl aT;rw[aT];obtain⟨v',w',h1,h3,h4⟩:=awn (P:=P) (t:=o.type) h (hρ it) ha;exact ff.val h1 e.le_refl h3 h4
 ·rename_i it aT;rw[aT];simp only[aag,abX] at ha;obtain⟨v2,hb,rfl,rfl⟩:=ha;obtain⟨v',h1,h2⟩:=aHJ (P:=P) h (hρ it) hb;exact ff.pure h h1 h2
 ·rename_i t ix aT;rw[aT];split at ha;·rename_i l hl;simp only[aag,abX] at ha;obtain⟨v2,hb,rfl,rfl⟩:=ha;have ht:=hρ t;rw[hl] at ht;obtain⟨vs,vR,hr⟩:=ht.aj7;obtain⟨v',bT,jy⟩:=hr.get hb;rw[aeq] at bT;exact ff.pure h (v':=v') (by rw[vR];simp[Instr.extract,bT]) jy
  ·cases ha
 ·rename_i x t yy ok aT;rw[aT];simp only[aag,abX] at ha;obtain⟨v2,hb,rfl,rfl⟩:=ha;obtain⟨v',h1,h2⟩:=aHR (P:=P) (t:=t) (hρ x) hb w;exact ff.pure h h1 h2
 ·rename_i c aT;rw[aT];split at ha
  ·rename_i b hc;have nX:=aR.Jw hρ c.args;have GC:(do let d <-resolve σ c o.type;invoke d.target d.args:Sem Next)=builtin b c.argTypes o.type (c.args.map λ|.const _=>true|_=>false) (c.args.map σ):=by unfold resolve;rw[hc];rfl
   show ff P G F W e v H' ((do let d <-resolve σ c o.type;invoke d.target d.args:Sem Next).run P w);rw[GC];exact axb h nX ha
  ·cases ha
 ·cases ha
end
end
variable {P:Program}
section
variable {ρ ρ':Operand->AV}
theorem abb {l:List Operand}(h:∀x∈l,ρ x=ρ' x):l.map ρ=l.map ρ':=alV h
theorem anr {l:List (Nat×Operand)}(h:∀x∈l.map (·.2),ρ x=ρ' x):(l.map λ(i,x)=>(i,ρ x))=l.map λ(i,x)=>(i,ρ' x):=by apply alV;intro a ha;obtain⟨i,x⟩:=a;simp only;rw[h x (abN.2 ⟨(i,x),ha,rfl⟩)]
theorem ayA (o:Oper)(H:Hp)(h:∀x∈o.op.operands.toList,ρ x=ρ' x):jQ P ρ o H=jQ P ρ' o H:=by
 unfold jQ;cases aT:o.op<;>rw[aT] at h<;>simp only[Op.operands] at h⊢
 case move x=>rw[h x zzy]
 case assign x=>rw[h x zzy]
 case pick c a b=>rw[h c zzy,h a zzy,h b zzy]
 case box t x=>rw[h x zzy]
 case build t ps=>rw[anr (by simpa using h)]
 case buildSlice t l ps=>rw[anr (by simpa using h)]
 case insert t m k v=>rw[h m zzy,h k zzy,h v zzy]
 case mapUpdate t m k v=>rw[h m zzy,h k zzy,h v zzy]
 case load t a=>rw[h a zzy]
 case store t a v=>rw[h a zzy,h v zzy]
 case nilCheck x=>rw[h x zzy]
 case binOp op t x y ty=>rw[h x zzy,h y zzy]
 case unOp op t x=>rw[h x zzy]
 case convert a b x=>rw[h x zzy]
 case makeInterface t x=>rw[h x zzy]
 case makeFunc fn a b=>
  rw[abb (l:=a.toList) (λx hx=>h x (by simp at hx⊢;exact .inl hx)),abb (l:=b.toList) (λx hx=>h x (by simp at hx⊢;exact .inr hx))]
 case makeMap t r=>cases r<;>rfl
 case makeSlice t l c=>rw[h l zzy,h c zzy]
 case slice t x lo hi mx=>
  have q:∀y:Option Operand,(∀z∈y.toList,ρ z=ρ' z)->y.map ρ=y.map ρ':=by
   intro y hy;cases y with
   |none=>rfl|some z=>simp only[ael];rw[hy z zzy]
  rw[h x zzy,q lo (λz hz=>h z (by simp at hz⊢;simp[hz])),q hi (λz hz=>h z (by simp at hz⊢;simp[hz])),q mx (λz hz=>h z (by simp at hz⊢;simp[hz]))]
 case fieldAddr t x f=>rw[h x zzy]
 case field t x f=>rw[h x zzy]
 case indexAddr t x ix=>rw[h x zzy,h ix zzy]
 case index t x ix=>rw[h x zzy,h ix zzy]
 case lookup t x k ok=>rw[h x zzy,h k zzy]
 case range t x=>rw[h x zzy]
 case next it s=>rw[h it zzy]
 case entry it=>rw[h it zzy]
 case typeAssert x t yy ok=>rw[h x zzy]
 case extract t ix=>rw[h t zzy]
 case call c=>
  cases hc:c.callee with
  |builtin b=>
   simp only;rw[abb (l:=c.args.toList) (λx hx=>h x (by simp[Call.operands,hc] at hx⊢;exact hx))]
  |value f=>rfl|invoke r m=>rfl
end
end
def IY (G:Nat)(F:Nat->Prop)(W:World)(e:Em)(v:AV)(H':Hp)(en:Ending)(w':World):Prop:=
 ∃e' v',en=.returned v'/\e.le e'/\RH G F W e' H' w'/\VR e' v v'
def wz (P:Program)(cf:CF):Prop:=
 ∀(g:AV) (args:List AV) (H:Hp) (v:AV) (H':Hp),cf g args H=some (v,H')->
  ∃aV first cap,g=.func (.func aV) first cap/\∀(F:Nat->Prop) (W:World) (e:Em) (w:World) (as':Array Value),RH P.globals.size F W e H w->aR e (first++args++cap) as'.toList->
   (∃v' w' e',(callFunc aV as').run P w=.ok (.value v') w'/\e.le e'/\RH P.globals.size F W e' H' w'/\VR e' v v')\/
   ((callFunc aV as').run P w=.ok (.enter aV as') w/\Calls P aV as' w (IY P.globals.size F W e v H'))
section
variable {P:Program}{F:Nat->Prop}{W:World}{e:Em}{H:Hp}{w:World}
structure TR (e:Em)(n:Nat)(t:Tm)(a:Act):Prop where
 size:n<=a.tmps.size
 val:∀x,VR e ((t.get x).getD bP) (a.tmps.getD x undef)
section
variable {H':Hp}{Q:Exit->Act->World->Prop}{a:Act}{cL:Array TypeId}{cf:CF}{e:Em}{ops:Array Oper}{t':Tm}{σ:Operand->Value}
theorem TR.mono {e':Em}(h:e.le e'){n:Nat}{t:Tm}(k:TR e n t a):TR e' n t a:=⟨k.size,λx=>(k.val x).mono h⟩
theorem VR.ev (h:RH P.globals.size F W e H w){n:Nat}{t:Tm}{a:Act}(ht:TR e n t a)(x:Operand):VR e (ev P.globals.size t x) (a.eval x):=by
 cases x with
 |tmp d=>exact ht.val d|const v=>
  simp only[Am.ev,Act.eval];cases hc:Am.lj v with
  |none=>exact .dG v|some c=>exact .lj hc
 |global g=>
  simp only[Am.ev,Act.eval];cases hb:Nat.blt g P.globals.size with
  |false=>exact .dG _|true=>
   rw[aeg] at hb;obtain⟨h1,h2,h3⟩:=h.tI g hb;have:=VR.ptr (e:=e) g 0 0 h1 (by rw[h3];simp);rw[h2] at this;exact this
 |func f=>exact .func _ zzy [] [] #[] #[] rfl rfl zzy zzy
theorem ahi {t:Array Value}{d x:Nat}{v:Value}(h:d<t.size):(t.setIfInBounds d v).getD x undef=if x=d then v else t.getD x undef:=by
 simp only[afG];by_cases hx:x=d;·subst hx;rw[agL h,zz2 rfl];rfl
 ·rw[aeT (λq=>hx q.symm),zz1 hx]
theorem TR.put {n:Nat}{t:Tm}(h:TR e n t a){dst:Option Tmp}{v:AV}{v':Value}(hp:jk n dst v t=some t')(hv:VR e v v'):TR e n t' (a.put dst v'):=by
 unfold jk at hp;split at hp;·cases hp;exact h
 ·rename_i d;cases hb:(Nat.blt d n&&Nat.blt d 4294967296) with
  |false=>rw[hb] at hp;cases hp
  |true=>
   rw[hb] at hp;cases hp;simp only[aam,aeg] at hb;have aN:d<a.tmps.size:=ac2 hb.1 h.size;refine⟨by simp only[Act.put,Array.size_setIfInBounds];exact h.size,λx=>?_⟩;simp only[Act.put];rw[ahi aN,Tr.Om _ _ _ _ _ zzz];by_cases hx:x=d;·rw[zz2 hx,zz2 hx];exact hv
   ·rw[zz1 hx,zz1 hx];exact h.val x
theorem VR.aue {v:AV}{b:Bool}(h:VR e v (.bool b)):v=.bool b\/v=.dG:=by
 cases h with
 |dG=>exact .inr rfl|bool=>exact .inl rfl
theorem Qr {o:Oper}{t:Tm}{b:Bool}(hw:sQ ops o t=some b)(hT:∀d,Le ops o=some d->VR e ((t.get d).getD bP) (a.tmps.getD d undef)):
  Region.wanted o (yielded ops a.tmps)=b:=by
 unfold sQ at hw;unfold Region.wanted;split at hw;·rename_i hg;cases hw;simp[hg]
 ·rename_i j want hg;simp only[hg];have PV:Le ops o=(ops[j]?).bind (·.dst):=by simp[Le,hg]
  unfold yielded;split at hw;·rename_i hd;cases hw;simp[hd]
  ·rename_i d hd;have hv:=hT d (by rw[PV,hd]);simp only[hd,acf];rw[afG] at hv;split at hw
   ·rename_i hn;cases hw;rw[hn] at hv;obtain⟨vs,vR,_⟩:=VR.aj7 (l:=[]) hv;cases hq:a.tmps[d]? with
    |none=>simp|some u=>rw[hq] at vR;simp at vR;subst vR;simp
   ·rename_i c hc;cases hw;rw[hc] at hv;have:=hv.wj;cases hq:a.tmps[d]? with
    |none=>rw[hq] at this;simp[undef] at this|some u=>rw[hq] at this;simp at this;subst this;simp
   ·cases hw
   ·rename_i u DI TF hu;cases hw;rw[hu] at hv;cases hq:a.tmps[d]? with
    |none=>simp|some z=>
     rw[hq] at hv;simp at hv;cases z<;>simp;rename_i b;rcases hv.aue with r|r;·exact (DI _ r).elim
     ·exact (TF r).elim
theorem av6 {f:Operand}{args:Array Operand}{ty aV:Nat}{first cap:Array Value}(hf:σ f=.func (.func aV) first cap):
  (do let d <-resolve σ {callee:=.value f,args,argTypes:=cL} ty;invoke d.target d.args:Sem Next)=callFunc aV (first++args.map σ++cap):=by
 unfold resolve;simp only[hf,Deferred.ofValue];rfl
theorem MV (jb:wz P cf)(h:RH P.globals.size F W e H w){t:Tm}{o:Oper}{v:AV}(ho:si P cf t o H=some (v,H'))
  (hT:∀x∈o.op.operands.toList,VR e (ev P.globals.size t x) (a.eval x)) {next:Act->World->Prop}
  (hn:∀e' v' w',e.le e'->RH P.globals.size F W e' H' w'->VR e' v v'->next (a.put o.dst v') w'):o.wp P a w next Q:=by
 classical
 let ρ:Operand->AV:=λx=>if x∈o.op.operands.toList then ev P.globals.size t x else .dG
 have hρ:∀x,VR e (ρ x) (a.eval x):=by
  intro x;simp only[ρ];split;·rename_i hx;exact hT x hx
  ·exact .dG _
 have hρe:∀x∈o.op.operands.toList,ev P.globals.size t x=ρ x:=by intro x hx;simp only[ρ,zz2 hx]
 have plain:jQ P (ev P.globals.size t) o H=some (v,H')->o.wp P a w next Q:=by
  intro hA;rw[ayA o H hρe] at hA;obtain⟨n,w',e',v',hr,hv,he,hR,jy⟩:=aBl h hρ hA;unfold Oper.wp;rw[hr];rcases hv with rfl|⟨rfl,rfl⟩;·exact hn e' v' w' he hR jy
  ·exact hn e' _ w' he hR jy
 unfold si at ho;split at ho
 ·rename_i f args cL aT;obtain⟨aV,first,cap,hg,hs⟩:=jb _ _ _ _ _ ho;have XL:f∈o.op.operands.toList:=by simp[aT,Op.operands,Call.operands]
  have hf:=hT f XL;rw[hg] at hf;cases Z8:a.eval f with
  |func fn VU xa=>
   rw[Z8] at hf;cases hf with
   |func _ _ _ _ _ _ ha hc h1 h2=>
   have nX:aR e (args.toList.map (ev P.globals.size t)) (args.map a.eval).toList:=by rw[Array.toList_map];refine⟨zzy,λi x x' hx wu=>?_⟩;simp only[acd,aag] at hx wu;obtain⟨z,hz,rfl⟩:=hx;obtain⟨z',Ez,rfl⟩:=wu;rw[hz] at Ez;cases Ez;exact hT z (by simp[aT,Op.operands,Call.operands];exact .inr (by have:=aab hz;simpa using this))
   have mM:aR e (first++args.toList.map (ev P.globals.size t)++cap) (VU++args.map a.eval++xa).toList:=by
    have q1:aR e first VU.toList:=⟨ha,h1⟩
    have q2:aR e cap xa.toList:=⟨hc,h2⟩;have:=(q1.append nX).append q2;simpa using this
   have hex:execOp a.eval o=callFunc aV (VU++args.map a.eval++xa):=by unfold execOp;rw[aT];exact av6 Z8
   unfold Oper.wp;rw[hex];rcases hs F W e w _ h mM with⟨v',w',e',hr,he,hR,jy⟩|⟨hr,aAH⟩;·rw[hr];exact hn e' v' w' he hR jy
   ·rw[hr];refine aAH.mono ?_;rintro en Xn ⟨e',v',rfl,he,hR,jy⟩;exact hn e' v' Xn he hR jy
  |_=>rw[Z8] at hf;cases hf
 ·exact plain ho
theorem adm (jb:wz P cf){n:Nat}:∀(r:List Oper) (i:Nat) (t:Tm) (H:Hp) (e:Em) (a:Act) (w:World),
  ops.toList.drop i=r->wg P cf n ops r t H=some (t',H')->RH P.globals.size F W e H w->TR e n t a->
  (∀e' a' w',e.le e'->RH P.globals.size F W e' H' w'->TR e' n t' a'->a'.defers=a.defers->Q .normal a' w')->wpOps P ops Q (List.range' i r.length) a w:=by
 intro r;induction r with
 |nil=>
  intro i t H e a w hd hs hR hT hQ;cases hs;exact hQ e a w e.le_refl hR hT rfl
 |cons o r ih=>
  intro i t H e a w hd hs hR hT hQ;have hi:ops[i]?=some o:=by have:=congrArg (λl=>l[0]?) hd;simpa[afX,aeq] using this
  have gw:ops.toList.drop (i+1)=r:=by have:=congrArg List.tail hd;simpa[List.tail_drop] using this
  rw[aau,anE];unfold wg at hs;split at hs
  ·rename_i hw;split at hs
   ·rename_i v H1 ho;split at hs;·rename_i t1 hp;simp only[wpOps,hi,Qr (e:=e) (a:=a) hw (λd _=>hT.val d),if_true];left;refine MV jb hR ho (λx _=>VR.ev hR hT x) ?_;intro e' v' w' he bp hv;have cI:=(hT.mono he).put hp hv;refine ih (i+1) t1 H1 e' _ w' gw hs bp cI ?_;intro e2 a2 w2 GJ iK qd B9;refine hQ e2 a2 w2 (Em.le_trans he GJ) iK qd (B9.trans ?_);cases o.dst<;>rfl
    ·cases hs
   ·cases hs
  ·rename_i hw;split at hs;·rename_i t1 hp;simp only[wpOps,hi,Qr (e:=e) (a:=a) hw (λd _=>hT.val d),aa4,if_false];have cI:=hT.put hp VR.undef;refine ih (i+1) t1 H e _ w gw hs hR cI ?_;intro e2 a2 w2 GJ iK qd B9;refine hQ e2 a2 w2 GJ iK qd (B9.trans ?_);cases o.dst<;>rfl
   ·cases hs
  ·cases hs
end
end
end
def JO (o:Oper)(acc:List Nat):Nat:=o.after.toList.foldl (λs e=>if Region.binds .any e then s|||2^e.on|||acc.getD e.on 0 else s) 0
theorem ajd (acc:List Nat)(j:Nat):∀(l:List Edge) (s:Nat),(l.foldl (λs e=>if Region.binds .any e then s|||2^e.on|||acc.getD e.on 0 else s) s).testBit j=true->
  s.testBit j=true\/∃e∈l,Region.binds .any e=true/\(j=e.on\/(acc.getD e.on 0).testBit j=true)
 |[],s,h=>.inl h|e::l,s,h=>by
  rw[List.foldl_cons] at h;rcases ajd acc j l _ h with h1|⟨e',PL,hb,hj⟩
  ·by_cases Dh:Region.binds .any e=true
   ·rw[zz2 Dh] at h1;rw[Nat.testBit_or,Nat.testBit_or,aiJ,aiJ] at h1;rcases h1 with (h1|h1)|h1;·exact .inl h1
    ·right;refine⟨e,List.mem_cons_self ..,Dh,.inl ?_⟩;rw[Nat.testBit_two_pow] at h1;exact (zz9 h1).symm
    ·exact .inr ⟨e,List.mem_cons_self ..,Dh,.inr h1⟩
   ·rw[zz1 Dh] at h1;exact .inl h1
  ·exact .inr ⟨e',List.mem_cons_of_mem _ PL,hb,hj⟩
theorem ahj:∀(r:List Oper) (acc:List Nat),(before r acc).length=acc.length+r.length
 |[],acc=>by simp[before]
 |o::r,acc=>by rw[before,ahj r];simp;omega
theorem VV:∀(r:List Oper) (acc:List Nat) (i:Nat),i<acc.length->(before r acc)[i]?=acc[i]?
 |[],acc,i,h=>by simp[before]
 |o::r,acc,i,h=>by rw[before,VV r _ i (by simp;omega)];rw[abi h]
theorem aiq:∀(r:List Oper) (acc:List Nat) (i:Nat) (o:Oper),r[i]?=some o->(before r acc)[acc.length+i]?=some (JO o ((before r acc).take (acc.length+i)))
 |[],acc,i,o,h=>by simp at h
 |p::r,acc,i,o,h=>by
  cases i with
  |zero=>
   simp at h;subst h;rw[before,aeA,VV r _ _ zzy];have ht:(before r (acc++[JO p acc])).take acc.length=acc:=by
    apply aj8;intro k;rw[ajg];split;·rw[VV r _ k (by simp;omega),abi (by assumption)]
    ·rw[agM zzz]
   show (acc++[JO p acc])[acc.length]?=some (JO p ((before r (acc++[JO p acc])).take acc.length));rw[ht];simp
  |succ i=>
   have:=aiq r (acc++[JO p acc]) i o (by simpa using h);rw[aah,List.length_singleton] at this;rw[before];have e1:acc.length+(i+1)=acc.length+1+i:=zzz;rw[e1];exact this
structure Form (ops:Array Oper)(B:List Nat):Prop where
 len:B.length=ops.size
 back:∀i o,ops[i]?=some o->∀e∈o.after,Region.binds .any e=true->e.on<i
 bit:∀i o,ops[i]?=some o->∀j,(B.getD i 0).testBit j=true->∃e∈o.after,Region.binds .any e=true/\(j=e.on\/(B.getD e.on 0).testBit j=true)
 one:∀(i j:Nat) (oi oj:Oper) (d:Tmp),ops[i]?=some oi->ops[j]?=some oj->oi.dst=some d->oj.dst=some d->i=j
 rd:∀(i j:Nat) (oi oj:Oper) (d:Tmp),ops[i]?=some oi->ops[j]?=some oj->oi.dst=some d->i≠j->JE ops oj d=true->if i<j then (B.getD j 0).testBit i=true else (B.getD i 0).testBit j=true
theorem aAg {ops:Array Oper}(h:AD ops=true):Form ops (before ops.toList []):=by
 unfold AD at h;simp only at h;have hlen:(before ops.toList []).length=ops.size:=by rw[ahj];simp
 have hz:∀i o,ops[i]?=some o->(i,(o,(before ops.toList []).getD i 0))∈(List.range ops.size).zip (ops.toList.zip (before ops.toList [])):=by intro i o ho;have hi:i<ops.size:=(abW.1 ho).1;apply aab (i:=i);rw[alB];refine⟨by simp[hi],?_⟩;rw[alB];refine⟨by simpa using ho,?_⟩;simp only;rw[aij,aai (by rw[hlen];exact hi)];rfl
 rw[adP] at h;have h1:∀i o,ops[i]?=some o->∀e∈o.after,Region.binds .any e=true->e.on<i:=by intro i o ho e he hb;have:=h _ (hz i o ho);rw[aam] at this;have h2:=Array.all_eq_true_iff_forall_mem.1 this.1 e he;rw[hb] at h2;simpa using h2
 have h2:∀i j oi oj,ops[i]?=some oi->ops[j]?=some oj->Q4 ops i oi ((before ops.toList []).getD i 0) j oj ((before ops.toList []).getD j 0)=true:=by intro i j oi oj hi hj;have:=h _ (hz i oi hi);rw[aam] at this;exact adP.1 this.2 _ (hz j oj hj)
 refine⟨hlen,h1,?_,?_,?_⟩
 ·intro i o ho j hb;have hi:i<ops.size:=(abW.1 ho).1;have G2:=aiq ops.toList [] i o (by simpa using ho);simp only[acj,adn] at G2;rw[aij,G2] at hb;simp only[afK] at hb;rcases ajd _ j _ 0 hb with hq|⟨e,he,Dh,hj⟩;·simp at hq
  ·have PL:e∈o.after:=by simpa using he
   refine⟨e,PL,Dh,hj.imp id λhq=>?_⟩;have aN:=h1 i o ho e PL Dh;rw[aij,ajg,zz2 aN] at hq;rw[aij];exact hq
 ·intro i j oi oj d hi hj Hz qp;have:=h2 i j oi oj hi hj;unfold Q4 at this;rw[Hz] at this;simp only[aiJ,aam] at this;rcases this with q|⟨q,_⟩;·exact aaY q
  ·simp[qp] at q
 ·intro i j oi oj d hi hj Hz aE hr;have:=h2 i j oi oj hi hj;unfold Q4 at this;rw[Hz] at this;simp only[aiJ,aam] at this;rcases this with q|⟨_,q⟩;·exact absurd (aaY q) aE
  ·rcases q with q|q;·rw[hr] at q;simp at q
   ·by_cases aN:i<j
    ·rw[zz2 aN];have:Nat.blt i j=true:=by rw[aeg];exact aN
     rw[this] at q;exact q
    ·rw[zz1 aN];have:Nat.blt i j=false:=by
      cases hb:Nat.blt i j;·rfl
      ·rw[aeg] at hb;exact absurd hb aN
     rw[this] at q;exact q
def kk (P:Program)(x:Bool)(o:Oper):Kd:=if x then kd P o else .pure
def QV (P:Program)(cf:CF)(n:Nat)(ops:Array Oper)(o:Oper)(x:Bool)(v:AV)(tp te mA mn:Tm)(hb hh wi As:Hp):Prop:=
 sQ ops o tp=some x/\
 match x,kd P o with
 |false,_=>v=bP/\jk n o.dst bP tp=some mA/\jk n o.dst bP te=some mn/\wi=hb/\As=hh|true,.late=>jQ P (ev P.globals.size te) o hh=some (v,As)/\jk n o.dst .dG tp=some mA/\jk n o.dst v te=some mn/\wi=hb|true,.dP=>si P cf te o hh=some (v,As)/\jk n o.dst v tp=some mA/\jk n o.dst v te=some mn/\wi=As|true,_=>(∃h',jQ P (ev P.globals.size tp) o hb=some (v,h'))/\jk n o.dst v tp=some mA/\jk n o.dst v te=some mn/\wi=hb/\As=hh
theorem aHe {P:Program}{cf:CF}{n:Nat}{ops:Array Oper}{B:List Nat}{tF:Tm}{HF:Hp}:∀(r:List Oper) (bs:List Nat) (i:Nat) (tp te:Tm) (hb hh:Hp) (l:List lX),
  ops.toList.drop i=r->B.drop i=bs->nf P cf n ops i r bs tp te hb hh=some (l,tF,HF)->
  ∃(TP TE:Nat->Tm) (HB HH:Nat->Hp) (V:Nat->AV) (X:Nat->Bool),TP i=tp/\TE i=te/\HB i=hb/\HH i=hh/\TE (i+r.length)=tF/\HH (i+r.length)=HF/\
   ∀j o,i<=j->ops[j]?=some o->QV P cf n ops o (X j) (V j) (TP j) (TE j) (TP (j+1)) (TE (j+1)) (HB j) (HH j) (HB (j+1)) (HH (j+1))/\
    (⟨j,o,B.getD j 0,X j,kk P (X j) o,V j,TP j,HB j,HB (j+1)⟩:lX)∈l:=by
 intro r;induction r with
 |nil=>
  intro bs i tp te hb hh l hd wG hr;simp only[nf,acM,abX] at hr;obtain⟨rfl,rfl,rfl⟩:=hr;refine⟨λ_=>tp,λ_=>te,λ_=>hb,λ_=>hh,λ_=>.dG,λ_=>false,rfl,rfl,rfl,rfl,rfl,rfl,?_⟩;intro j o hj ho;have aN:=(abW.1 ho).1;have:=congrArg List.length hd;simp at this;omega
 |cons o r ih=>
  intro bs i tp te hb hh l hd wG hr;have hi:ops[i]?=some o:=by have:=congrArg (λl=>l[0]?) hd;simpa[afX,aeq] using this
  have gw:ops.toList.drop (i+1)=r:=by have:=congrArg List.tail hd;simpa[List.tail_drop] using this
  cases bs with
  |nil=>simp[nf] at hr|cons b bs=>
   have FN:B.getD i 0=b:=by have:=congrArg (λl=>l[0]?) wG;simp[afX] at this;simp[aij,this]
   have aF7:B.drop (i+1)=bs:=by have:=congrArg List.tail wG;simpa[List.tail_drop] using this
   have fin:∀(x:Bool) (v:AV) (mA mn:Tm) (wi As:Hp) (l':List lX),QV P cf n ops o x v tp te mA mn hb hh wi As->nf P cf n ops (i+1) r bs mA mn wi As=some (l',tF,HF)->
     l=⟨i,o,b,x,kk P x o,v,tp,hb,wi⟩::l'->
     ∃(TP TE:Nat->Tm) (HB HH:Nat->Hp) (V:Nat->AV) (X:Nat->Bool),TP i=tp/\TE i=te/\HB i=hb/\HH i=hh/\TE (i+(o::r).length)=tF/\HH (i+(o::r).length)=HF/\
   ∀j o,i<=j->ops[j]?=some o->QV P cf n ops o (X j) (V j) (TP j) (TE j) (TP (j+1)) (TE (j+1)) (HB j) (HH j) (HB (j+1)) (HH (j+1))/\
    (⟨j,o,B.getD j 0,X j,kk P (X j) o,V j,TP j,HB j,HB (j+1)⟩:lX)∈l:=by
    intro x v mA mn wi As l' aDW Cj hl;obtain⟨TP,TE,HB,HH,V,X,q1,q2,q3,q4,q5,q6,q7⟩:=ih bs (i+1) mA mn wi As l' gw aF7 Cj;have aE:¬i+1=i:=zzz;refine⟨λj=>if j=i then tp else TP j,λj=>if j=i then te else TE j,λj=>if j=i then hb else HB j,λj=>if j=i then hh else HH j,λj=>if j=i then v else V j,λj=>if j=i then x else X j,
     by simp,zzy,zzy,zzy,?_,?_,?_⟩
    ·simp only[aau];rw[zz1 zzz];have:i+(r.length+1)=i+1+r.length:=zzz;rw[this];exact q5
    ·simp only[aau];rw[zz1 zzz];have:i+(r.length+1)=i+1+r.length:=zzz;rw[this];exact q6
    ·intro j oj hj Ae;by_cases yD:j=i;·subst yD;rw[hi] at Ae;cases Ae;simp only[if_true,zz1 aE,q1,q2,q3,q4,FN];refine⟨aDW,?_⟩;rw[hl];exact List.mem_cons_self ..
     ·have UH:¬j+1=i:=zzz;simp only[zz1 yD,zz1 UH];obtain⟨s1,s2⟩:=q7 j oj zzz Ae;exact⟨s1,by rw[hl];exact List.mem_cons_of_mem _ s2⟩
   unfold nf at hr;split at hr
   ·rename_i hw;split at hr
    ·rename_i hk;split at hr
     ·rename_i v h' aT;split at hr;·rename_i mA mn h1 h2;simp only[aag,Prod.exists,abX] at hr;obtain⟨l',a,b',Cj,rfl,rfl,rfl⟩:=hr;refine fin true v mA mn hb h' l' ⟨hw,?_⟩ Cj (by simp[kk,hk]);rw[hk];exact⟨aT,h1,h2,rfl⟩
      ·cases hr
     ·cases hr
    ·rename_i hk;split at hr
     ·rename_i v h' aT;split at hr;·rename_i mA mn h1 h2;simp only[aag,Prod.exists,abX] at hr;obtain⟨l',a,b',Cj,rfl,rfl,rfl⟩:=hr;refine fin true v mA mn h' h' l' ⟨hw,?_⟩ Cj (by simp[kk,hk]);rw[hk];exact⟨aT,h1,h2,rfl⟩
      ·cases hr
     ·cases hr
    ·rename_i xF iw;split at hr
     ·rename_i v h' aT;split at hr
      ·rename_i mA mn h1 h2;simp only[aag,Prod.exists,abX] at hr;obtain⟨l',a,b',Cj,rfl,rfl,rfl⟩:=hr;refine fin true v mA mn hb hh l' ⟨hw,?_⟩ Cj (by simp[kk]);cases cF:kd P o;·exact⟨⟨h',aT⟩,h1,h2,rfl,rfl⟩
       ·exact⟨⟨h',aT⟩,h1,h2,rfl,rfl⟩
       ·exact absurd cF xF
       ·exact absurd cF iw
      ·cases hr
     ·cases hr
   ·rename_i hw;split at hr;·rename_i mA mn h1 h2;simp only[aag,Prod.exists,abX] at hr;obtain⟨l',a,b',Cj,rfl,rfl,rfl⟩:=hr;refine fin false bP mA mn hb hh l' ⟨hw,rfl,h1,h2,rfl,rfl⟩ Cj (by simp[kk])
    ·cases hr
   ·cases hr
end Go.Proofs.YtodfajmihkagnaaGreatDoor.Am
