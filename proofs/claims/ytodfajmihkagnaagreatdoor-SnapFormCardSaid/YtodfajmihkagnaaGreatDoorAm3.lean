/- Laws that the proof uses. -/
import Derived.Test.YtodfajmihkagnaaGreatDoorAm2
set_option maxHeartbeats 1000000
set_option linter.unusedVariables false
set_option linter.unusedSimpArgs false
namespace Go.Proofs.YtodfajmihkagnaaGreatDoor.Am
section
section
section
section
variable {P:Program}{G:Nat}{F:Nat->Prop}{W:World}{e:Em}{H:Hp}{w:World}
theorem acY (n:Nat):∀(r c:Nat),c<=2*n+192->Builtin.growBy n r c<=2*n+192
 |0,c,h=>h|r+1,c,h=>by
  unfold Builtin.growBy;split;·exact h
  ·exact acY n r _ zzz
section
variable {H':Hp}{cB:Array TypeId}{c cap el i o pF jt:Nat}{nv:List Value}{ty:TypeId}{x:AV}{x':Value}
theorem nextslicecap_le {Pz:Nat}(h:cap<Pz):Builtin.nextslicecap Pz cap<=2*Pz+192:=by
 unfold Builtin.nextslicecap;split;·omega
 ·split;·omega
  ·exact acY Pz 4 cap zzz
theorem arf (b o el:Nat)(fz:Nat×Nat):∀(vs:List Value) (k:Nat) (w:World) (C:Array Value),w.heap[b]?=some (.cells C el fz)->o+k+vs.length<=C.size->
  (∀m,m<C.size->(decide (fz.1<=m)&&decide (m<fz.2))=false)->(∀v∈vs,v.oneCell'=true)->
  ∃w' C',(storeCells ⟨b,o,none⟩ vs k).run P w=.ok () w'/\w'.heap[b]?=some (.cells C' el fz)/\C'.size=C.size/\
   (∀m,C'[m]?=if o+k<=m/\m<o+k+vs.length then vs[m-(o+k)]? else C[m]?)/\(∀j,j≠b->w'.heap[j]?=w.heap[j]?)/\w'.heap.size=w.heap.size/\w'.os=w.os/\w'.tape=w.tape/\w'.output=w.output:=by
 intro vs;induction vs with
 |nil=>
  intro k w C hb hs hf h1;exact⟨w,C,by simp[storeCells],hb,rfl,λm=>by rw[zz1 (by rw[acU];omega)],λ_ _=>rfl,rfl,rfl,rfl,rfl⟩
 |cons v vs ih=>
  intro k w C hb hs hf h1;simp only[aaG] at hs;have aQ:o+k<C.size:=zzz;have hc:w.cell? ⟨b,o+k,none⟩=some C[o+k]:=by simp[World.cell?,hb,aQ]
  have NQ:w.frozen? ⟨b,o+k,none⟩=false:=by simp only[World.frozen?,hb];exact hf _ aQ
  have hb1:(w.setCell ⟨b,o+k,none⟩ v).heap[b]?=some (.cells (C.setIfInBounds (o+k) v) el fz):=by simp only[World.setCell];rw[I2 _ _ _ hb];rfl
  obtain⟨w',C',r1,r2,r3,r4,r5,r6,r7,r8,r9⟩:=ih (k+1) _ _ hb1 (by simp;omega) (by simpa using hf) (λu hu=>h1 u (List.mem_cons_of_mem _ hu));refine⟨w',C',?_,r2,by simpa using r3,λm=>?_,λj hj=>?_,?_,r7,r8,r9⟩;·simp only[storeCells,Sem.run_bind,add_lit,run_store P w _ _ _ (h1 v (List.mem_cons_self ..)),hc,NQ,abu,if_false,Result.andThen_ok];exact r1
  ·rw[r4 m];simp only[aaG];by_cases hm:m=o+k;·subst hm;rw[zz1 zzz,zz2 zzz,ajQ zzz];simp
   ·by_cases hr:o+(k+1)<=m/\m<o+(k+1)+vs.length;·rw[zz2 hr,zz2 zzz];have:m-(o+k)=(m-(o+(k+1)))+1:=zzz;rw[this,adr]
    ·rw[zz1 hr,zz1 zzz,agY zzz]
  ·rw[r5 j hj];simp only[World.setCell];rw[HY _ _ _ _ (λq=>hj q.symm)]
  ·rw[r6];simp[World.setCell]
theorem RH.del (h:RH G F W e H w)(i:Nat):RH G F W e {H with h:=H.h.del i} w:=by
 have gj:∀j o,(H.h.del i).get j=some o->H.h.get j=some o/\j≠i:=by
  intro j o hj;rw[Tr.YG] at hj;split at hj;·cases hj
  ·exact⟨hj,by assumption⟩
 exact⟨h.N,λj o hj=>h.obj j o (gj j o hj).1,λj k oj ok hj hk hq=>h.inj j k oj ok (gj j oj hj).1 (gj k ok hk).1 hq,h.ub,h.frame,h.os,h.tape,h.output,h.size,h.nL⟩
theorem RH.move (h:RH G F W e H w){o o':AO}(hg:H.h.get i=some o)(hw:wr o=true){j:Nat}(ha:Am.alloc {H with h:=H.h.del i} o'=some (j,H'))
  {sD:Obj} {w':World} (fy:w'.heap.size=w.heap.size) (hb:w'.heap[e.b i]?=some sD) (aF:∀k,k≠e.b i->w'.heap[k]?=w.heap[k]?)
  (eT:OR (e.ext (e.b i) (e.d i) (e.n i)) j o' sD) (os:w'.os=w.os) (tape:w'.tape=w.tape) (output:w'.output=w.output):
  j=e.N/\RH G F W (e.ext (e.b i) (e.d i) (e.n i)) H' w':=by
 obtain⟨rfl,awj,rfl⟩:=Al ha;obtain⟨hN,ob,eN,_,hF⟩:=h.obj i o hg;have Fl:=h.N;have hle:=Em.rp e (e.b i) (e.d i) (e.n i);have gj:∀k x,((H.h.del i).put 34 H.next o').get k=some x->(k=H.next/\x=o')\/(k≠H.next/\k≠i/\H.h.get k=some x):=by
  intro k x hk;rw[Tr.put,Tr.gw] at hk;split at hk;·cases hk;exact .inl ⟨by assumption,rfl⟩
  ·rw[Tr.YG] at hk;split at hk;·cases hk
   ·exact .inr ⟨by assumption,by assumption,hk⟩
 have je:∀k x,H.h.get k=some x->(e.ext (e.b i) (e.d i) (e.n i)).b k=e.b k:=λk x hk=>(hle.2 k (h.obj k x hk).1).1;refine⟨Fl.symm,?_,?_,?_,?_,?_,os.trans h.os,tape.trans h.tape,output.trans h.output,by rw[fy];exact h.size,by obtain⟨g1,g2,g3⟩:=h.nL;rw[fy,(hle.2 G g2).2.2];simp[Em.ext];omega⟩;·simp[Em.ext,Fl]
 ·intro k x hk;rcases gj k x hk with⟨rfl,rfl⟩|⟨k1,k2,k3⟩
  ·refine⟨by simp[Em.ext,Fl],sD,?_,eT,?_⟩;·rw[<-Fl,Em.pj];exact hb
   ·intro _;rw[<-Fl,Em.pj];exact hF (.inl hw)
  ·obtain⟨a,rM,b2,c2,d2⟩:=h.obj k x k3;refine⟨by simp[Em.ext];omega,rM,?_,c2.mono hle a,?_⟩;·rw[je k x k3,aF _ (λq=>k2 (h.inj i k o x hg k3 (.inl hw) q.symm).symm)];exact b2
   ·intro Nf;rw[je k x k3,(hle.2 G h.nL.2.1).2.2] at Nf;rw[je k x k3];exact d2 Nf
 ·intro k m x y hk hm hq he;rcases gj k x hk with⟨rfl,rfl⟩|⟨k1,k2,k3⟩<;>rcases gj m y hm with⟨rfl,rfl⟩|⟨m1,m2,m3⟩;·rfl
  ·rw[<-Fl,Em.pj,je m y m3] at he;exact absurd (h.inj i m o y hg m3 (.inl hw) he).symm m2
  ·rw[<-Fl,Em.pj,je k x k3] at he;exact absurd (h.inj i k o x hg k3 (.inl hw) he.symm).symm k2
  ·rw[je k x k3,(hle.2 G h.nL.2.1).2.2] at hq;rw[je k x k3,je m y m3] at he;exact h.inj k m x y k3 m3 hq he
 ·intro g mC;obtain⟨a,b,c⟩:=h.ub g mC;obtain⟨x,y,_⟩:=hle.2 g a;exact⟨by simp[Em.ext];omega,x.trans b,y.trans c⟩
 ·intro k hk;obtain⟨a,b⟩:=h.frame k hk;refine⟨by rw[fy];exact a,?_⟩;rw[aF k (λq=>hF (.inl hw) (q▸hk))];exact b
theorem abd {z:Array Value}{es:Nat}(hz:z.size=es)(n:Nat):(Builtin.zeroCells z n).toList=(List.replicate n z.toList).flatten:=by unfold Builtin.zeroCells;exact amw z n
theorem apA (h:RH G F W e H w){fX:Bool}{es n:Nat}{new:List AV}(hx:VR e x x')(hs:sz P el=some es)(hn:LR P fX el es x H=some (n,new)):
  ∃nv:List Value,aV e new nv/\nv.length=n*es/\
   (fX=true->∃k:Int,x'=.int .i64 k/\0<=k/\k<16777216/\k.toNat=n/\∃i z0,P.info? el=some i/\i.zero=some z0/\z0.cells.size=es/\nv=(List.replicate n z0.cells.toList).flatten)/\
   (fX=false->∀w1:World,w1.heap=w.heap->(Builtin.lenOf x').run P w1=.ok n w1/\(Builtin.firstCells es n x').run P w1=.ok nv.toArray w1):=by
 unfold LR at hn;split at hn
 ·rename_i k;cases hx.gV;split at hn
  ·rename_i hk;split at hn
   ·rename_i z hz;split at hn
    ·rename_i rr;cases hn;obtain⟨i,z0,hi,gC,hl⟩:=BD (e:=e) hz;have fy:z0.cells.size=es:=by have:=hl.1;simp at this;omega
     refine⟨_,hl.rep _,?_,λ_=>⟨k,rfl,hk.1,hk.2,rfl,i,z0,hi,gC,fy,rfl⟩,zzy⟩;simp[fy]
    ·cases hn
   ·cases hn
  ·cases hn
 ·cases hn;cases hx;exact⟨[],.nil e,zzy,zzy,λ_ w1 Ie=>⟨by simp[Builtin.lenOf],by simp[Builtin.firstCells]⟩⟩
 ·rename_i i off len a1 a2 a3;simp only[aal,acC] at hn;obtain⟨l,hl,rfl,rfl⟩:=hn;rcases hx.nf with⟨o,k,oC,ho,lP,BZ,jQ,iX,rfl⟩|⟨rfl,_,a,rfl⟩;·obtain⟨cs,h1,h2,h3⟩:=h.CI hl ho;refine⟨cs,h1,h2,zzy,λ_ w1 Ie=>⟨by simp[Builtin.lenOf],?_⟩⟩;have:=run_loadCells_list (P:=P) w1 ⟨e.b i,o,none⟩ cs (λj v hj=>by rw[add_lit];have q:=h3 j v hj;unfold World.cell? at q⊢;rw[Ie];exact q);rw[h2] at this;simp[Builtin.firstCells,this]
  ·rw[ai8] at hl;cases hl;refine⟨[],.nil e,zzy,zzy,λ_ w1 Ie=>⟨by simp[Builtin.lenOf],?_⟩⟩;simp[Builtin.firstCells,loadCells,loadCellsFrom]
 ·rename_i s;obtain⟨b,rfl,rfl⟩:=hx.nD;split at hn
  ·rename_i uz;subst uz;simp only[adn,acC] at hn;obtain⟨rfl,rfl⟩:=hn;refine⟨b.data.toList.map λu=>Value.int .u8 u.toNat,?_,?_,zzy,λ_ w1 Ie=>⟨by simp[Builtin.lenOf,Au],?_⟩⟩;·refine⟨by simp[bytes],λi v v' hv bS=>?_⟩;simp only[bytes,aoL,acV,aal] at hv bS;obtain⟨u,hu,rfl⟩:=hv;obtain⟨u',jW,rfl⟩:=bS;rw[hu] at jW;cases jW;exact .int _ _
   ·simp[bytes]
   ·simp only[Builtin.firstCells,Au];have:b.extract 0 b.size=b:=ByteArray.extract_zero_size;rw[this];simp only[Sem.run_pure];congr 1;apply aes.1;simp
  ·cases hn
 ·cases hn
theorem Zi {fX:Bool}(h:Jq P cB=some fX):
  (cB[1]?=none/\fX=false)\/∃t d,cB[1]?=some t/\P.underlying t=some d/\Builtin.append_.match_1 (λ_=>Bool) d (λ_=>true) (λ_=>false)=fX:=by
 unfold Jq at h;split at h;·rename_i t ht;simp only[aal] at h;obtain⟨d,hd,rfl⟩:=h;refine .inr ⟨t,d,ht,hd,?_⟩;cases d<;>rfl
 ·rename_i ht;cases h;exact .inl ⟨ht,rfl⟩
theorem GH {fX:Bool}{t0 es n:Nat}{s':Value}{base:Option Addr}{i:TypeInfo}{z0:Value}
  (h0:cB[0]?=some t0) (hu:P.underlying t0=some (.slice el)) (hz:Jq P cB=some fX) (hs:sz P el=some es) (oK:P.bytesOf el<=4096)
  (hi:P.info? el=some i) (gC:i.zero=some z0) (xo:z0.cells.size=es)
  (rF:s'=.slice base jt pF) (aF:jt+n<=16777216) (ru:nv.length=n*es)
  (Bp:fX=true->∃k:Int,x'=.int .i64 k/\0<=k/\k<16777216/\k.toNat=n/\∃i z0,P.info? el=some i/\i.zero=some z0/\z0.cells.size=es/\nv=(List.replicate n z0.cells.toList).flatten)
  (Bo:fX=false->∀w1:World,w1.heap=w.heap->(Builtin.lenOf x').run P w1=.ok n w1/\(Builtin.firstCells es n x').run P w1=.ok nv.toArray w1):
  (jt+n<=pF->∀ w',(∀ a,base=some a->(storeCells (a.add (jt*es)) nv).run P w = .ok () w')->(base=none->w'=w)->
   (Builtin.append_ cB ty #[s',x']).run P w=.ok (.slice base (jt+n) pF) w')/\
  (pF<jt+n->∀ ov:List Value,(∀ w1:World,w1.heap=w.heap->(Builtin.firstCells es jt s').run P w1 = .ok ov.toArray w1)->
   ∃c,jt+n<=c/\(Builtin.append_ cB ty #[s',x']).run P w=
    .ok (.slice (some ⟨w.heap.size,0,none⟩) (jt+n) c) {w with drawn:=w.drawn+1,heap:=w.heap.push (.cells (ov++nv++(List.replicate (c-(jt+n)) z0.cells.toList).flatten).toArray el (0,0))}):=by
 have fy:=λw=>iZ (P:=P) hs w;have Uz:i.bytes<=4096:=by unfold Program.bytesOf at oK;rw[hi] at oK;simpa using oK
 subst rF;have Jw:¬(((jt+n:Nat):Int)>IntKind.i64.max):=by rw[IntKind.max_i64];omega
 have Ol:∀c,(Builtin.zeroCells z0.cells c)=(List.replicate c z0.cells.toList).flatten.toArray:=λc=>aes.1 (by rw[abd xo]);have aji:pF<jt+n->¬(Builtin.nextslicecap (jt+n) pF*i.bytes>2^48):=by intro aQ;have h1:=nextslicecap_le aQ;have:Builtin.nextslicecap (jt+n) pF*i.bytes<=(2*16777216+192)*4096:=Nat.mul_le_mul zzz Uz;omega
 have KF:(Question.appendCap (jt+n) pF el).forced=false:=rfl;have DH:jt+n<=(Question.appendCap (jt+n) pF el).cut (w.tape w.drawn (.appendCap (jt+n) pF el)):=Nat.le_add_right _ _;cases fX with
 |false=>
  have hf:=Bo rfl;constructor
  ·intro hle w' aC IG;obtain⟨f1,f2⟩:=hf w rfl;have fin:(do
     let new <-Builtin.firstCells es n x'
     match base with
     |some a=>do storeCells (a.add (jt*es)) new.toList;Pure.pure (Value.slice base (jt+n) pF)
     |x=>Pure.pure (Value.slice base (jt+n) pF):Sem Value).run P w=.ok (.slice base (jt+n) pF) w':=by
    cases base with
    |none=>simp[f2,IG rfl]|some a=>simp[f2,aC a rfl]
   rcases Zi (P:=P) hz with⟨h1,_⟩|⟨t,d,h1,hd,hm⟩;·simp[Builtin.append_,h0,h1,aL hu,fy,f1,hle] at fin⊢;exact fin
   ·simp only[Builtin.append_,h0,h1,agm,adW,adr,Sem.run_bind,aL hu,aL hd,Result.andThen_ok,fy,Sem.run_pure];rw[hm];simp[f1,hle] at fin⊢;exact fin
  ·intro aQ ov xx;refine⟨_,DH,?_⟩;have hb:=aji aQ;have Q9:¬(jt+n<=pF):=zzz;obtain⟨f1,_⟩:=hf w rfl;obtain⟨_,f2⟩:=hf {w with drawn:=w.drawn+1} rfl;have o1:=xx {w with drawn:=w.drawn+1} rfl;rcases Zi (P:=P) hz with⟨h1,_⟩|⟨t,d,h1,hd,hm⟩;·simp only[Builtin.append_,h0,h1,agm,adW,adr,Sem.run_bind,aL hu,Result.andThen_ok,fy,Sem.run_pure,abu,if_false,f1,zz1 Q9,rC hi];rw[zz1 (λq=>Jw q.1),Sem.run_bind,rC hi,Result.andThen_ok,zz1 hb];simp only[Sem.run_bind,run_choose,KF,abu,if_false,anu,if_true,Result.andThen_ok,rC hi,run_askRoom,o1,f2,uQ hi gC,Ol,newRow,run_newObj,Sem.run_pure];simp
   ·simp only[Builtin.append_,h0,h1,agm,adW,adr,Sem.run_bind,aL hu,aL hd,Result.andThen_ok,fy,Sem.run_pure];rw[hm];simp only[abu,if_false,Sem.run_bind,f1,Result.andThen_ok,zz1 Q9,rC hi];rw[zz1 (λq=>Jw q.1),Sem.run_bind,rC hi,Result.andThen_ok,zz1 hb];simp only[Sem.run_bind,run_choose,KF,abu,if_false,anu,if_true,Result.andThen_ok,rC hi,run_askRoom,o1,f2,uQ hi gC,Ol,newRow,run_newObj,Sem.run_pure];simp
 |true=>
  obtain⟨k,rfl,k1,k2,k3,i2,z2,oC,Aj,aF3,ay8⟩:=Bp rfl;rw[hi] at oC;cases oC;rw[gC] at Aj;cases Aj;have hw:IntKind.i64.wrap k=k:=IntWalk.i64_in _ zzz;have jf:¬k*(i.bytes:Int)>2^48:=by have:k*(i.bytes:Int)<=16777216*4096:=Int.mul_le_mul zzz zzz zzz zzz;omega
  have Es:¬k<0:=zzz;rcases Zi (P:=P) hz with⟨h1,hf⟩|⟨t,d,h1,hd,hm⟩;·cases hf
  have IS:∀w1:World,((if n*es=0 then Pure.pure #[] else do Pure.pure (Builtin.zeroCells (<-zeroValue el).cells n)):Sem (Array Value)).run P w1=.ok nv.toArray w1:=by
   intro w1;by_cases nj:n*es=0;·rw[zz2 nj];have:nv=[]:=am7 zzz;subst this;rfl
   ·rw[zz1 nj];simp only[Sem.run_bind,uQ hi gC,Result.andThen_ok,Sem.run_pure,Ol,ay8]
  constructor
  ·intro hle w' aC IG;have fin:(do
     let new <- (if n*es=0 then Pure.pure #[] else do Pure.pure (Builtin.zeroCells (<-zeroValue el).cells n))
     match base with
     |some a=>do storeCells (a.add (jt*es)) new.toList;Pure.pure (Value.slice base (jt+n) pF)
     |x=>Pure.pure (Value.slice base (jt+n) pF):Sem Value).run P w=.ok (.slice base (jt+n) pF) w':=by
    rw[Sem.run_bind,IS w];cases base with
    |none=>simp[IG rfl]|some a=>simp[aC a rfl]
   simp only[Builtin.append_,h0,h1,agm,adW,adr,Sem.run_bind,aL hu,aL hd,Result.andThen_ok,fy,Sem.run_pure];rw[hm];simp only[if_true,Sem.run_bind,asInt,asIntOf,Sem.run_pure,Result.andThen_ok,hw,zz1 Es,rC hi,zz1 jf,k3,zz2 hle,amB,abu,if_false] at fin⊢;exact fin
  ·intro aQ ov xx;refine⟨_,DH,?_⟩;have hb:=aji aQ;have Q9:¬(jt+n<=pF):=zzz;have o1:=xx {w with drawn:=w.drawn+1} rfl;have f2:=IS {w with drawn:=w.drawn+1};simp only[Builtin.append_,h0,h1,agm,adW,adr,Sem.run_bind,aL hu,aL hd,Result.andThen_ok,fy,Sem.run_pure];rw[hm];simp only[if_true,Sem.run_bind,asInt,asIntOf,Sem.run_pure,Result.andThen_ok,hw,zz1 Es,rC hi,zz1 jf,k3,zz1 Q9,amB,abu,if_false];rw[zz1 (λq=>Jw q.1),Sem.run_bind,rC hi,Result.andThen_ok,zz1 hb];simp only[Sem.run_bind,run_choose,KF,abu,if_false,Result.andThen_ok,rC hi,run_askRoom,o1,f2,uQ hi gC,Ol,newRow,run_newObj,Sem.run_pure];simp
theorem VR.Ey {e:Em}{b off len es:Nat}{ex:Bool}(hb:e.b i=b)(hi:i<e.N)(ho:(o:Int)=off+e.d i)(hl:len<=c)(hc:cap<=c)(hx:ex=true->c=cap)(hn:o+c*es<=e.n i):
  VR e (.slice i off len cap ex es) (.slice (some ⟨b,o,none⟩) len c):=by
 subst hb;exact .slice i off len cap ex es o c hi ho hl hc hx hn
theorem aV.one {new:List AV}(h:aV e new nv)(ho:new.all aX=true):∀v∈nv,v.oneCell'=true:=by
 intro v hv;obtain⟨i,hi⟩:=acJ hv;have aQ:i<new.length:=by rw[<-h.1];exact (aak.1 hi).1
 have h1:=h.2 i new[i] v (aap aQ) hi;exact h1.abM (aeh.1 ho _ (List.getElem_mem aQ))
theorem ajh {b es:Nat}{cs:List Value}(w:World)(hl:cs.length=jt*es)(h:∀j v,cs[j]?=some v->w.cell? ⟨b,o+j,none⟩=some v):
  ∀w1:World,w1.heap=w.heap->(Builtin.firstCells es jt (.slice (some ⟨b,o,none⟩) jt pF)).run P w1=.ok cs.toArray w1:=by
 intro w1 Ie;have:=run_loadCells_list (P:=P) w1 ⟨b,o,none⟩ cs (λj v hj=>by rw[add_lit];have q:=h j v hj;unfold World.cell? at q⊢;rw[Ie];exact q);rw[hl] at this;simp[Builtin.firstCells,this]
theorem aEO (h:RH G F W e H w){cB:Array TypeId}{ty:TypeId}{s x v:AV}{s' x':Value}{H':Hp}(hs:VR e s s')(hx:VR e x x')(ha:Lh P cB s x H=some (v,H')):
  ∃v' w' e',(Builtin.append_ cB ty #[s',x']).run P w=.ok v' w'/\e.le e'/\RH G F W e' H' w'/\VR e' v v':=by
 unfold Lh at ha;split at ha
 rotate_left
 ·cases ha
 rename_i el fX hq hz;obtain⟨t0,h0,hu⟩:=aba.1 hq;split at ha
 rotate_left
 ·cases ha
 rename_i es z dO Jn;cases hb:(Nat.ble (P.bytesOf el) 4096&&Nat.beq z.length es) with
 |false=>rw[hb] at ha;cases ha
 |true=>
 rw[hb] at ha;simp only[cond_true] at ha;rw[aaA,af1] at hb;obtain⟨oK,rr⟩:=hb;have aFN:z.length=es:=abx rr;obtain⟨inf,z0,jL,gC,BT⟩:=BD (e:=e) Jn;have xo:z0.cells.size=es:=by have:=BT.1;simp at this;omega
 split at ha
 rotate_left
 ·cases ha
 rename_i n new tW;obtain⟨nv,jk,ru,Bp,Bo⟩:=apA (P:=P) h hx dO tW;split at ha
 ·cases hs;cases nj:Nat.beq n 0 with
  |true=>
   rw[nj] at ha;cases ha;have:n=0:=abx nj;subst this;obtain⟨r1,_⟩:=GH (P:=P) (w:=w) (ty:=ty) (s':=.slice none 0 0) h0 hu hz dO oK jL gC xo rfl zzz ru Bp Bo;exact⟨_,w,e,r1 (aaC _) w zzy (λ_=>rfl),e.le_refl,h,.ah⟩
  |false=>
   rw[nj] at ha;simp only[cond_false] at ha;cases lY:Nat.ble n 16777216 with
   |false=>rw[lY] at ha;cases ha
   |true=>
   rw[lY] at ha;simp only[cond_true] at ha;rw[af1] at lY;split at ha
   ·rename_i i H2 cu;cases ha;have yg:0<n:=by
     rcases Nat.eq_zero_or_pos n with q|q;·subst q;cases nj
     ·exact q
    obtain⟨_,r2⟩:=GH (P:=P) (w:=w) (ty:=ty) (s':=.slice none 0 0) h0 hu hz dO oK jL gC xo rfl zzz ru Bp Bo;obtain⟨c,hc,hr⟩:=r2 zzz [] (λw1 _=>by simp[Builtin.firstCells]);rw[ad0] at hc hr;obtain⟨e',he,g1,g2,g3,g4,ql⟩:=(h.drawn (w.drawn+1)).newRow (rest:=(List.replicate (c-n) z0.cells.toList).flatten) (fz:=(0,0)) cu jk (λ_=>rfl) zzy;refine⟨_,_,e',hr,he,ql,?_⟩;have jG:w.heap.size=e'.b i:=g2.symm;rw[jG];refine .slice i 0 n n false es 0 c g1 (by rw[g3];simp) hc hc zzy ?_;rw[g4];have:((List.replicate (c-n) z0.cells.toList).flatten).length=(c-n)*es:=by simp[xo]
    rw[aam,ru,this,<-agX];have:n+(c-n)=c:=zzz;rw[this];omega
   ·cases ha
 ·rename_i i off len cap ex es';cases jG:(Nat.ble (len+n) 16777216&&Nat.beq es es'&&new.all aX) with
  |false=>rw[jG] at ha;cases ha
  |true=>
  rw[jG] at ha;simp only[cond_true] at ha;simp only[aaA,af1] at jG;obtain⟨⟨hle,hee⟩,LK⟩:=jG;have aDw:es=es':=abx hee;subst aDw;cases jr:Nat.ble (len+n) cap with
  |true=>
   rw[jr] at ha;simp only[cond_true] at ha;rw[af1] at jr;split at ha
   ·rename_i H2 aC;cases ha;rcases hs.nf with⟨o,c,hi,ho,hl,hc,jQ,hn,rfl⟩|⟨rfl,rfl,a,rfl⟩;·obtain⟨r1,_⟩:=GH (P:=P) (w:=w) (ty:=ty) (s':=.slice (some ⟨e.b i,o,none⟩) len c) h0 hu hz dO oK jL gC xo rfl zzz ru Bp Bo;obtain⟨w',BU,hr⟩:=RH.PV (P:=P) (off:=off+len*es) (k:=0) (o:=o+len*es) h aC jk (by push_cast;omega);refine⟨_,w',e,r1 zzz w' (λa ha=>?_) zzy,e.le_refl,hr,.slice _ _ _ _ _ _ _ _ hi ho zzz hc jQ hn⟩;cases ha;rw[add_lit];exact BU
    ·have nj:n=0:=zzz;subst nj;have:new=[]:=by have:=jk.1;rw[ru] at this;exact am7 zzz
     subst this;cases aC;have aEj:nv=[]:=jk.lH;subst aEj;obtain⟨r1,_⟩:=GH (P:=P) (w:=w) (ty:=ty) (s':=.slice (some a) 0 0) h0 hu hz dO oK jL gC xo rfl zzz ru Bp Bo;exact⟨_,w,e,r1 (aaC _) w (λa ha=>by simp[storeCells]) zzy,e.le_refl,h,.DP ..⟩
   ·cases ha
  |false=>
   rw[jr] at ha;simp only[cond_false] at ha;have aBs:cap<len+n:=by
    rcases amY cap (len+n) with q|q;·exact q
    ·have q2:Nat.ble (len+n) cap=true:=by rw[af1];exact q
     rw[q2] at jr;cases jr
   cases hex:ex with
   |true=>
    rw[hex] at ha;simp only[cond_true] at ha;split at ha
    ·rename_i je hold;split at ha
     ·rename_i j H2 cu;cases ha;have key:∀(base:Addr) (c0:Nat) (ov:List Value),s'=.slice (some base) len c0->c0<len+n->aV e je ov->ov.length=len*es->
        (∀w1:World,w1.heap=w.heap->(Builtin.firstCells es len (.slice (some base) len c0)).run P w1=.ok ov.toArray w1)->
        ∃v' w' e',(Builtin.append_ cB ty #[s',x']).run P w=.ok v' w'/\e.le e'/\RH G F W e' H' w'/\VR e' (.slice j 0 (len+n) (len+n) false es) v':=by
       intro base c0 ov rF aQ xx mb mg;obtain⟨_,r2⟩:=GH (P:=P) (w:=w) (ty:=ty) (s':=s') h0 hu hz dO oK jL gC xo rF zzz ru Bp Bo;obtain⟨c,hc,hr⟩:=r2 aQ ov (by rw[rF];exact mg);obtain⟨e',he,g1,g2,g3,g4,ql⟩:=(h.drawn (w.drawn+1)).newRow (rest:=(List.replicate (c-(len+n)) z0.cells.toList).flatten) (fz:=(0,0)) cu (xx.append jk) (λ_=>rfl) zzy;refine⟨_,_,e',hr,he,ql,?_⟩;have jG:w.heap.size=e'.b j:=g2.symm;rw[jG];refine .slice j 0 (len+n) (len+n) false es 0 c g1 (by rw[g3];simp) hc hc zzy ?_;rw[g4];have:((List.replicate (c-(len+n)) z0.cells.toList).flatten).length=(c-(len+n))*es:=by simp[xo]
       rw[aam,aam,ru,mb,this,<-agX,<-agX];have:len+n+(c-(len+n))=c:=zzz;rw[this];omega
      rcases hs.nf with⟨o,c,hi,ho,hl,hc,jQ,hn,rF⟩|⟨rfl,rfl,a,rF⟩;·obtain⟨ov,h1,h2,h3⟩:=h.CI hold ho;exact key _ c ov rF (by have:=jQ hex;omega) h1 h2 (ajh w h2 h3)
      ·rw[ai8] at hold;cases hold;exact key a 0 [] rF aBs (.nil e) zzy (λw1 _=>by simp[Builtin.firstCells,loadCells,loadCellsFrom])
     ·cases ha
    ·cases ha
   |false=>
    rw[hex] at ha;simp only[cond_false] at ha;split at ha
    ·rename_i c lo hi wI fl hg;cases xp:(Nat.ble fl 1&&Nat.ble lo off&&Nat.ble (off+len*es) hi&&Nat.beq el wI) with
     |false=>rw[xp] at ha;cases ha
     |true=>
     rw[xp] at ha;simp only[cond_true] at ha;simp only[aaA,af1] at xp;obtain⟨⟨⟨b1,b2⟩,b3⟩,b4⟩:=xp;have qq:el=wI:=abx b4;subst qq;split at ha
     ·rename_i j H2 cO;cases ha;have aFk:new.length=n*es:=by rw[<-jk.1];exact ru
      have aF4:off+(len+n)*es=off+len*es+n*es:=by rw[agX];omega
      have aia:∀k,(c.bZ (off+len*es) new).get k=if off+len*es<=k/\k<off+len*es+new.length then new[k-(off+len*es)]? else c.get k:=λk=>Tr.yE _ c _ _
      have ada:∀(base:Addr) (c0:Nat) (ov:List Value),s'=.slice (some base) len c0->c0<len+n->ov.length=len*es->
        (∀k v,off<=k->k<off+len*es->c.get k=some v->∃v',ov[k-off]?=some v'/\VR e v v')->
        (∀w1:World,w1.heap=w.heap->(Builtin.firstCells es len (.slice (some base) len c0)).run P w1=.ok ov.toArray w1)->
        ∃v' w' e',(Builtin.append_ cB ty #[s',x']).run P w=.ok v' w'/\e.le e'/\RH G F W e' H' w'/\VR e' (.slice j off (len+n) (len+n) false es) v':=by
       intro base c0 ov rF aQ mb xx mg;obtain⟨_,r2⟩:=GH (P:=P) (w:=w) (ty:=ty) (s':=s') h0 hu hz dO oK jL gC xo rF zzz ru Bp Bo;obtain⟨cc,ka,hr⟩:=r2 aQ ov (by rw[rF];exact mg);have hd:=(h.drawn (w.drawn+1)).del i;have hj:=(Al cO).1;have kX:j=e.N:=hj.trans h.N.symm;subst kX;have fI:((List.replicate (cc-(len+n)) z0.cells.toList).flatten).length=(cc-(len+n))*es:=by simp[xo]
       have fy:(ov++nv++(List.replicate (cc-(len+n)) z0.cells.toList).flatten).length=cc*es:=by rw[aam,aam,ru,mb,fI,<-agX,<-agX];congr 1;omega
       have eT:OR (e.ext w.heap.size (-(off:Int)) (cc*es)) e.N (.cells (c.bZ (off+len*es) new) off (off+(len+n)*es) el 1) (.cells (ov++nv++(List.replicate (cc-(len+n)) z0.cells.toList).flatten).toArray el (0,0)):=by
        refine .cells _ _ _ _ _ _ _ (by rw[Em.Ag];simpa using fy) ?_ zzy zzy (λq=>by rw[Em.po];omega);intro k u wT gZ hk;rw[aia] at hk;refine⟨k-off,by rw[Em.po];omega,?_⟩;simp only[agm];split at hk;·rename_i mw;obtain⟨u',jW,jh⟩:=jk.get hk;refine⟨u',?_,jh.mono (Em.rp ..)⟩;rw[abE (by rw[aam,mb,ru];omega),ab4 (by rw[mb];omega),mb];rw[<-jW];congr 1;omega
        ·rename_i mw;obtain⟨u',jW,jh⟩:=xx k u wT zzz hk;refine⟨u',?_,jh.mono (Em.rp ..)⟩;have:k-off<ov.length:=(aak.1 jW).1;rw[abE (by rw[aam];omega),abE this];exact jW
       obtain⟨_,ql⟩:=hd.alloc cO eT;refine⟨_,_,_,hr,Em.rp ..,ql,?_⟩;exact VR.Ey (e:=e.ext w.heap.size (-(off:Int)) (cc*es)) (Em.pj ..) (by simp[Em.ext]) (by rw[Em.po];omega) ka ka zzy (by rw[Em.Ag];omega)
      obtain⟨hN,ob,eN,eT,hF⟩:=h.obj i _ hg;cases eT with
      |cells _ _ _ _ _ C fz hCn ka VJ Pf hd=>
      rcases hs.nf with⟨o,c0,oC,ho,hl,hc,jQ,hn,rF⟩|⟨rfl,rfl,a,rF⟩
      ·have hlen:len*es<=c0*es:=aeQ _ hl;by_cases mw:len+n<=c0
       ·have lE:(len+n)*es<=c0*es:=aeQ _ mw;have aGb:(len+n)*es=len*es+n*es:=agX ..;obtain⟨w',C',r1,r2,r3,r4,r5,r6,r7,r8,r9⟩:=arf (P:=P) (e.b i) (o+len*es) el fz nv 0 w C eN (by rw[ru];omega) (Pf b1) (jk.one LK);obtain⟨q1,_⟩:=GH (P:=P) (w:=w) (ty:=ty) (s':=s') h0 hu hz dO oK jL gC xo rF zzz ru Bp Bo;have hj:=(Al cO).1;have kX:j=e.N:=hj.trans h.N.symm;subst kX;have avP:OR (e.ext (e.b i) (e.d i) (e.n i)) e.N (.cells (c.bZ (off+len*es) new) off (off+(len+n)*es) el 1) (.cells C' el fz):=by
         refine .cells _ _ _ _ _ _ _ (by rw[Em.Ag,r3,hCn]) ?_ zzy (λ_ k hk=>Pf b1 k zzz) (λq=>by rw[Em.po];exact hd zzz);intro k u wT gZ hk;rw[aia] at hk;split at hk;·rename_i aqR;obtain⟨u',jW,jh⟩:=jk.get hk;refine⟨o+(k-off),by rw[Em.po];omega,u',?_,jh.mono (Em.rp ..)⟩;rw[r4,zz2 (by rw[ru];omega),<-jW];congr 1;omega
         ·rename_i aqR;obtain⟨k2,CN,u',jW,jh⟩:=ka k u zzz zzz hk;refine⟨k2,by rw[Em.po];exact CN,u',?_,jh.mono (Em.rp ..)⟩;rw[r4,zz1 zzz];exact jW
        obtain⟨_,ql⟩:=h.move hg (by simp[wr,b1]) cO r6 r2 r5 avP r7 r8 r9;refine⟨_,w',_,q1 mw w' (λa ha=>?_) zzy,Em.rp ..,ql,?_⟩;·cases ha;rw[add_lit];exact r1
        ·exact VR.Ey (e:=e.ext (e.b i) (e.d i) (e.n i)) (Em.pj ..) (by simp[Em.ext]) (by rw[Em.po];exact ho) mw mw zzy (by rw[Em.Ag];exact hn)
       ·refine ada _ c0 ((C.toList.drop o).take (len*es)) rF zzz ?_ ?_ ?_;·simp;omega
        ·intro k u wT gZ hk;obtain⟨k2,CN,u',jW,jh⟩:=ka k u zzz zzz hk;refine⟨u',?_,jh⟩;rw[ajA,zz2 zzz,ahf,aeW,<-jW];congr 1;omega
        ·refine ajh w (by simp;omega) (λm u hm=>?_);rw[ajA] at hm;split at hm;·rw[ahf,aeW] at hm;simp[World.cell?,eN,hm]
         ·cases hm
      ·refine ada a 0 [] rF zzz zzy (λk u wT gZ hk=>zzz) (λw1 _=>by simp[Builtin.firstCells,loadCells,loadCellsFrom])
     ·cases ha
    ·cases ha
 ·cases ha
end
end
end
section
variable {P:Program}{G:Nat}{F:Nat->Prop}{W:World}{e:Em}{H:Hp}{w:World}
section
variable {a k:AV}{a' b' k':Value}{d:TypeDesc}{es:List ME}{es' fs l:List MapEntry}{m:ME}
theorem VR.agb {b:AV}(ha:VR e a a')(hb:VR e b b')(h:Lz a b=true):a'=b'/\∀n,Instr.sameBits n a' b'=true:=by
 unfold Lz at h;split at h;·cases ha.yu;cases hb.yu;simp only[zz6] at h;subst h;exact⟨rfl,λn=>by simp[Instr.sameBits]⟩
 ·cases ha.gV;cases hb.gV;simp only[aaA,zz5] at h;obtain⟨rfl,rfl⟩:=h;exact⟨rfl,λn=>by simp[Instr.sameBits]⟩
 ·obtain⟨p,rfl,rfl⟩:=ha.nD;obtain⟨q,rfl,rfl⟩:=hb.nD;have:(p==q)=true:=by rw[ajX];exact h
  have Ex:p=q:=by
   have h0:(p==q)=(p.data==q.data):=by cases p;cases q;rfl
   rw[h0,zz6] at this;cases p;cases q;simpa using this
  subst Ex;exact⟨rfl,λn=>by simp[Instr.sameBits,this]⟩
 ·cases h
theorem aV.plain:∀{x y:List AV} {x' y':List Value},aV e x x'->aV e y y'->Hs x y=true->x'=y'/\∀n,(x'.zip y').all (λ(a,b)=>Instr.sameBits n a b)=true
 |[],[],x',y',hx,hy,h=>by rw[hx.lH,hy.lH];exact⟨rfl,λn=>rfl⟩
 |[],_::_,_,_,_,_,h=>by simp[Hs] at h
 |_::_,[],_,_,_,_,h=>by simp[Hs] at h
 |a::x,b::y,x',y',hx,hy,h=>by simp only[Hs,aaA] at h;obtain⟨a',xs,rfl,ha,hx⟩:=hx.cons_inv;obtain⟨b',ys,rfl,hb,hy⟩:=hy.cons_inv;obtain⟨h1,h2⟩:=ha.agb hb h.1;obtain⟨h3,h4⟩:=aV.plain hx hy h.2;subst h1;subst h3;exact⟨rfl,λn=>by simp only[List.zip_cons_cons,amA,h2 n,h4 n,Bool.and_self]⟩
theorem VR.plain {b:AV}(ha:VR e a a')(hb:VR e b b')(h:GA a b=true):Instr.sameBits 10000 a' b'=true:=by
 unfold GA at h;split at h
 ·obtain⟨x,rfl,hx⟩:=ha.zJ;obtain⟨y,rfl,hy⟩:=hb.zJ;obtain⟨h1,h2⟩:=hx.plain hy h;have:x.size=y.size:=by have:=congrArg List.length h1;simpa using this
  simp only[Instr.sameBits,this,beq_self_eq_true,ac9];exact h2 9999
 ·exact (ha.agb hb h).2 _
theorem ZP {α:Type}(g:α->Bool)(body:α->PUnit->Sem (ForInStep PUnit))(w:World)(hb:∀a,g a=true->(body a ⟨⟩).run P w=.ok (.yield ⟨⟩) w):
  ∀l:List α,l.all g=true->(forIn l (⟨⟩:PUnit) body).run P w=.ok ⟨⟩ w
 |[],_=>zzy|a::l,h=>by simp only[amA,aaA] at h;rw[List.forIn_cons,Sem.run_bind,hb a h.1];exact ZP g body w hb l h.2
theorem Tb (w:World)(emp:Bool):∀(d D:Nat),d<=D->∀(t:TypeId) (v:AV) (v':Value),VR e v v'->qe P d t v=true->(Instr.checkKey emp D t v').run P w=.ok () w:=by
 intro d;induction d with
 |zero=>intro D _ t v v' _ h;cases h
 |succ d ih=>
  intro D hD t v v' hv h;obtain⟨D,rfl⟩:∃k,D=k+1:=⟨D-1,zzz⟩;unfold qe at h;split at h;·rename_i hu;simp[Instr.checkKey,aL hu]
  ·rename_i hu;simp[Instr.checkKey,aL hu]
  ·rename_i hu;simp[Instr.checkKey,aL hu]
  ·rename_i fs cs hu;obtain⟨vs,rfl,hl⟩:=hv.zJ;have key:=ZP (P:=P) (g:=λf:Field=>if f.name ≠ "_" then (match oJ P f.type cs f.offset with|some v=>qe P d f.type v|none=>false) else true)
    (body:=fun f Te=>do
     if f.name ≠ "_" then
      Instr.checkKey emp D f.type (<-part f.type vs f.offset)
      Pure.pure (ForInStep.yield PUnit.unit)
     else Pure.pure (ForInStep.yield PUnit.unit)) w (by
     intro f hg;by_cases hn:f.name = "_";·simp[hn]
     ·simp only[ne_eq,hn,not_false_eq_true,if_true] at hg;split at hg;·rename_i u zU;obtain⟨u',jW,hr⟩:=CQ hl zU w;have:=ih D zzz f.type u u' hr hg;simp[hn,jW,this]
      ·cases hg) fs.toList h
   simp[Instr.checkKey,aL hu] at key⊢;simp[key]
  ·rename_i n el cs hu;split at h
   ·rename_i s hs;obtain⟨vs,rfl,hl⟩:=hv.zJ;have key:=ZP (P:=P) (g:=λi:Nat=>match oJ P el cs (i*s) with|some v=>qe P d el v|none=>false)
     (body:=fun i Te=>do
      let z <-sizeOf el
      let p <-part el vs (i*z)
      Functor.map (λa=>ForInStep.yield PUnit.unit) (Instr.checkKey emp D el p)) w (by
      intro i hg;split at hg;·rename_i u zU;obtain⟨u',jW,hr⟩:=CQ hl zU w;have:=ih D zzz el u u' hr hg;simp[iZ hs,jW,this]
      ·cases hg) (List.range' 0 n) h
    simp[Instr.checkKey,aL hu];exact key
   ·cases h
  ·cases h
theorem jv.cons_inv (h:jv e (m::es) es'):∃m' r',es'=m'::r'/\VR e m.key m'.key/\VR e m.val m'.val/\jv e es r':=by
 cases es' with
 |nil=>simp[jv] at h|cons m' r'=>
  obtain⟨a,b⟩:=h.2 0 m m' rfl rfl;exact⟨m',r',rfl,a,b,by simpa using h.1,λi x y hx hy=>h.2 (i+1) x y (by simpa using hx) (by simpa using hy)⟩
theorem jv.lH (h:jv e [] es'):es'=[]:=by simpa using h.1
theorem aim (h:RH G F W e H w){t:TypeId}{k:AV}{k':Value}(hk:VR e k k'):∀(es:List ME) (fs:List MapEntry),jv e es fs->zZ P H t k es=true->∀x∈fs,(Op.equal t k' x.key).run P w=.ok false w
 |[],fs,hm,_=>by rw[hm.lH];simp
 |m::es,fs,hm,hf=>by
  obtain⟨m',r',rfl,h1,h2,h4⟩:=hm.cons_inv;unfold zZ at hf;split at hf
  ·rename_i heq;have:=MN h 20 Op.maxDepth zzx t k m.key k' m'.key false hk h1 heq;intro x hx;rcases aar.1 hx with rfl|hx;·exact this
   ·exact aim h hk es r' h4 hf x hx
  ·cases hf
def FK (P:Program)(e:Em)(w:World)(t:TypeId)(k':Value)(fs:List MapEntry)(i0:Nat):Option (Nat×ME)->Prop
 |none=>∀x∈fs,(Op.equal t k' x.key).run P w=.ok false w|some (j,m)=>∃f1 m' f2,fs=f1++m'::f2/\j=i0+f1.length/\VR e m.key m'.key/\VR e m.val m'.val/\(Op.equal t k' m'.key).run P w=.ok true w/\∀x∈f1++f2,(Op.equal t k' x.key).run P w=.ok false w
theorem abC (h:RH G F W e H w){t:TypeId}{k:AV}{k':Value}(hk:VR e k k'):∀(es:List ME) (fs:List MapEntry) (i:Nat) (r:Option (Nat×ME)),jv e es fs->oG P H t k es i=some r->FK P e w t k' fs i r
 |[],fs,i,r,hm,hf=>by rw[hm.lH];cases hf;exactλx hx=>by cases hx
 |m::es,fs,i,r,hm,hf=>by
  obtain⟨m',r',rfl,h1,h2,h4⟩:=hm.cons_inv;unfold oG at hf;split at hf
  ·rename_i heq;have:=MN h 20 Op.maxDepth zzx t k m.key k' m'.key true hk h1 heq;cases hn:zZ P H t k es with
   |false=>rw[hn] at hf;cases hf
   |true=>
    rw[hn] at hf;cases hf;exact⟨[],m',r',rfl,rfl,h1,h2,this,λx hx=>aim h hk es r' h4 hn x (by simpa using hx)⟩
  ·rename_i heq;have:=MN h 20 Op.maxDepth zzx t k m.key k' m'.key false hk h1 heq;have ih:=abC h hk es r' (i+1) r h4 hf;cases r with
   |none=>
    intro x hx;rcases aar.1 hx with rfl|hx;·exact this
    ·exact ih x hx
   |some x=>
    obtain⟨j,mm⟩:=x;obtain⟨f1,n',f2,rfl,rfl,q1,q2,q3,q4⟩:=ih;refine⟨m'::f1,n',f2,rfl,by simp only[aaG];omega,q1,q2,q3,λx hx=>?_⟩;rcases aar.1 hx with rfl|hx;·exact this
    ·exact q4 x hx
  ·cases hf
theorem akY {t:TypeId}{k':Value}{w:World}:∀(l:List MapEntry) (i:Nat),(∀x∈l,(Op.equal t k' x.key).run P w=.ok false w)->(Instr.findAsking t k' l i).run P w=.ok none w
 |[],i,_=>by simp[Instr.findAsking]
 |m::l,i,h=>by have h1:=h m (.head _);have h2:=akY l (i+1) λx hx=>h x (.tail _ hx);simp[Instr.findAsking,h1,h2]
theorem afI {t:TypeId}{k':Value}{w:World}{m:MapEntry}{b:List MapEntry}(hm:(Op.equal t k' m.key).run P w=.ok true w):∀(a:List MapEntry) (i:Nat),(∀x∈a,(Op.equal t k' x.key).run P w=.ok false w)->
  (Instr.findAsking t k' (a++m::b) i).run P w=.ok (some (i+a.length,m.val)) w
 |[],i,_=>by simp[Instr.findAsking,hm]
 |x::a,i,h=>by have h1:=h x (.head _);have h2:=afI (b:=b) hm a (i+1) λx hx=>h x (.tail _ hx);rw[List.cons_append,aaG,show i+(a.length+1)=i+1+a.length by omega];simp[Instr.findAsking,h1,h2]
theorem ajJ {d:TypeDesc}{t:TypeId}(hu:P.underlying t=some d){k':Value}(w:World):∀(es':List MapEntry) (i:Nat) (r r2:Option (Nat×Value)),Instr.findNow d k' es' i=some r->(Instr.findAsking t k' es' i).run P w=.ok r2 w->r=r2
 |[],i,r,r2,h1,h2=>by cases h1;simp[Instr.findAsking] at h2;exact h2
 |m::es',i,r,r2,h1,h2=>by
  obtain⟨ajx,aFX,aFP⟩:=m;unfold Instr.findNow at h1;obtain⟨md,hmd⟩:∃md,Op.maxDepth=md+1:=⟨9999,rfl⟩;have Md:∀b,Instr.sameNow d k' ajx=some b->(Op.equal t k' ajx).run P w=.ok b w:=by
   intro b hb;unfold Op.equal;rw[hmd];unfold Instr.sameNow at hb;split at hb
   ·rename_i h1 h2;split at hb;·rename_i NW;cases hb;simp[Op.equalIn,aL hu,NW]
    ·cases hb
   ·rename_i h1 h2;cases hb;simp[Op.equalIn,aL hu]
   ·rename_i h1 h2;cases hb;simp[Op.equalIn,aL hu]
   ·cases hb
  split at h1;·rename_i hs;cases h1;simp[Instr.findAsking,Md true hs] at h2;exact h2
  ·rename_i hs;simp[Instr.findAsking,Md false hs] at h2;exact ajJ hu w es' (i+1) r r2 h1 h2
  ·cases h1
theorem abK {t:TypeId}{r':Option (Nat×Value)}(hu:P.underlying t=some d)(dA:(Instr.findAsking t k' l 0).run P w=.ok r' w):(Instr.findKey t k' l).run P w=.ok r' w:=by
 unfold Instr.findKey;rw[Sem.run_bind,aL hu,Result.andThen_ok];split;·rename_i r2 qK;rw[ajJ hu w l 0 r2 r' qK dA];simp
 ·exact dA
def FP (P:Program)(e:Em)(w:World)(t:TypeId)(k':Value)(fs l:List MapEntry):Option (Nat×ME)->Prop
 |none=>(Instr.findKey t k' l).run P w=.ok none w|some (j,m)=>∃f1 m' f2 a b,fs=f1++m'::f2/\j=f1.length/\l=a++m'::b/\(f1++f2).Perm (a++b)/\VR e m.key m'.key/\VR e m.val m'.val/\(Instr.findKey t k' l).run P w=.ok (some (a.length,m'.val)) w
theorem Ia (h:RH G F W e H w){t:TypeId}(hk:VR e k k'){r:Option (Nat×ME)}(hm:jv e es fs)(hp:fs.Perm l)(hf:oG P H t k es 0=some r)(hu:P.underlying t=some d):FP P e w t k' fs l r:=by
 have hq:=abC (P:=P) h hk es fs 0 r hm hf;cases r with
 |none=>exact abK hu (akY l 0 λx hx=>hq x (hp.mem_iff.2 hx))|some x=>
  obtain⟨j,m⟩:=x;obtain⟨f1,m',f2,rfl,rfl,q1,q2,q3,q4⟩:=hq;obtain⟨a,b,rfl⟩:=List.append_of_mem (hp.mem_iff.1 (by simp:m'∈f1++m'::f2));have GM:(f1++f2).Perm (a++b):=((List.perm_middle.symm.trans hp).trans List.perm_middle).cons_inv;refine⟨f1,m',f2,a,b,rfl,zzz,rfl,GM,q1,q2,?_⟩;have:=afI (P:=P) (w:=w) (b:=b) q3 a 0 λx hx=>q4 x (GM.mem_iff.2 (abi _ hx));rw[ad0] at this;exact abK hu this
end
end
end
section
variable {P:Program}{G:Nat}{F:Nat->Prop}{W:World}{e:Em}{H:Hp}{w:World}
section
variable {H':Hp}{a k x:AV}{a' b' k' x':Value}{cB:Array TypeId}{c i:Nat}{es:List ME}{es' fs:List MapEntry}{m:ME}{m':MapEntry}{ty:TypeId}
theorem DO (h:RH G F W e H w)(hg:H.h.get i=some (.map es c)):i<e.N/\∃(es':Array MapEntry) (c':Nat) (fs:List MapEntry),w.heap[e.b i]?=some (.map es' c')/\fs.Perm es'.toList/\jv e es fs/\(fs.map (·.born)).Nodup/\∀x∈fs,x.born<c':=by
 obtain⟨hN,ob,eN,eT,_⟩:=h.obj i _ hg;cases eT with
 |map _ _ es' c' fs hp hm hn hb=>exact⟨hN,es',c',fs,eN,hp,hm,hn,hb⟩
theorem aBY (h:RH G F W e H w)(hx:VR e x x')(hm:mapOf H x=some (es,c)):
  (x'=.map none/\es=[]/\c=0)\/∃i es' c' fs,x=.map i/\x'=.map (some (e.b i))/\H.h.get i=some (.map es c)/\w.heap[e.b i]?=some (.map es' c')/\fs.Perm es'.toList/\jv e es fs:=by
 unfold mapOf at hm;split at hm;·cases hx;cases hm;exact .inl ⟨rfl,rfl,rfl⟩
 ·rename_i i;split at hm;·rename_i es0 c0 hg;cases hm;obtain⟨hi,rfl⟩:=hx.M3;obtain⟨_,es',c',fs,h1,h2,h3,_⟩:=DO h hg;exact .inr ⟨i,es',c',fs,rfl,rfl,hg,h1,h2,h3⟩
  ·cases hm
 ·cases hm
theorem Fv {b:Nat}{es':Array MapEntry}(hb:w.heap[b]?=some (.map es' c)):(getObj b).run P w=.ok (.map es' c) w:=by simp[getObj,Sem.run,hb]
theorem SZ {kt:TypeId}(hc:qe P 20 kt k=true):∃d,P.underlying kt=some d:=by
 cases hq:P.underlying kt with
 |none=>simp[qe,hq] at hc|some d=>exact⟨d,rfl⟩
theorem VR.pair {b:AV}(ha:VR e a a')(hb:VR e b b'):VR e (.tuple [a,b]) (.tuple #[a',b']):=
 .tuple' (.cons ha (.cons hb (.nil e)))
theorem aAO (h:RH G F W e H w){t:TypeId}{v:AV}{ok:Bool}(hx:VR e x x')(hk:VR e k k')(hl:sJ P t x k ok H=some v):
  ∃v',(Instr.lookup t x' k' ok).run P w=.ok v' w/\VR e v v':=by
 unfold sJ at hl;split at hl
 ·rename_i kt el hu;cases hc:qe P 20 kt k with
  |false=>rw[hc] at hl;cases hl
  |true=>
  rw[hc] at hl;simp only[cond_true] at hl;have A8:∀emp,(Instr.checkKey emp 10000 kt k').run P w=.ok () w:=λemp=>Tb w emp 20 10000 zzx kt k k' hk hc;obtain⟨kd,cw⟩:=SZ hc;split at hl
  ·rename_i es c hm;have fin:∀(fs es':List MapEntry),fs.Perm es'->jv e es fs->∃r' v',(Instr.findKey kt k' es').run P w=.ok r' w/\
     (match r' with
      |some (_,v)=>Pure.pure (if ok=true then Value.tuple #[v,Value.bool true] else v)|none=>Functor.map (λa=>if ok=true then Value.tuple #[a,Value.bool false] else a) (zeroValue el):Sem Value).run P w=.ok v' w/\VR e v v':=by
    intro fs es' ui qT;split at hl
    ·rename_i j m hf;obtain⟨f1,m',f2,a,b,_,_,_,_,_,hv,dA⟩:=Ia (P:=P) h hk qT ui hf cw;cases hl;cases ok with
     |true=>exact⟨_,_,dA,zzy,hv.pair (.bool true)⟩|false=>exact⟨_,_,dA,zzy,hv⟩
    ·rename_i hf;have dA:(Instr.findKey kt k' es').run P w=.ok none w:=Ia (P:=P) h hk qT ui hf cw;simp only[aal,aba] at hl;obtain⟨z,⟨z0,⟨inf,jL,gC⟩,hz⟩,rfl⟩:=hl;have BT:VR e z z0:=.kK hz;cases ok with
     |true=>exact⟨_,_,dA,by simp[uQ jL gC],BT.pair (.bool false)⟩|false=>exact⟨_,_,dA,by simp[uQ jL gC],BT⟩
    ·cases hl
   rcases aBY h hx hm with⟨rfl,rfl,_⟩|⟨i,es',c',fs,rfl,rfl,hg,hb,ui,qT⟩;·obtain⟨r',v',h1,h2,h3⟩:=fin [] [] (List.Perm.refl _) ⟨rfl,zzy⟩;refine⟨v',?_,h3⟩;simp[Instr.lookup,aL hu,A8,h1];exact h2
   ·obtain⟨r',v',h1,h2,h3⟩:=fin fs es'.toList ui qT;refine⟨v',?_,h3⟩;simp[Instr.lookup,aL hu,Fv hb,A8,h1];exact h2
  ·cases hl
 ·cases hl
theorem JV {b:Nat}{o:Obj}{es':Array MapEntry}(hb:w.heap[b]?=some (.map es' c)):(Go.setObj b o).run P w=.ok () {w with heap:=w.heap.setIfInBounds b o}:=by simp[Go.setObj,Sem.run,hb]
theorem RH.PR (h:RH G F W e H w){es2:List ME}{c2:Nat}(hg:H.h.get i=some (.map es c)){es':Array MapEntry}{c':Nat}(hp:fs.Perm es'.toList)(hm:jv e es2 fs)(hn:(fs.map (·.born)).Nodup)(hb:∀x∈fs,x.born<c'):
  RH G F W e (Am.setObj H i (.map es2 c2)) {w with heap:=w.heap.setIfInBounds (e.b i) (.map es' c')}:=by
 obtain⟨_,es0,c0,_,jf,_⟩:=DO h hg;have aQ:=(adh.1 jf).1;refine h.put hg rfl (sD:=.map es' c') zzy (by simp[aQ]) (λk hk=>?_) (.map _ _ _ _ fs hp hm hn hb) rfl rfl rfl;simp only;rw[agY (λq=>hk q.symm)]
theorem jv.snoc (h:jv e es es')(h1:VR e m.key m'.key)(h2:VR e m.val m'.val):jv e (es++[m]) (es'++[m']):=by
 refine⟨by simp[h.1],λi x y hx hy=>?_⟩;by_cases hi:i<es.length;·rw[abE hi] at hx;rw[abE (by rw[h.1];exact hi)] at hy;exact h.2 i x y hx hy
 ·rw[ab4 zzz] at hx;rw[ab4 (by rw[h.1];omega),h.1] at hy;have:i-es.length=0:=by have:=(aak.1 hx).1;simp at this;omega
  rw[this] at hx hy;simp at hx hy;subst hx;subst hy;exact⟨h1,h2⟩
theorem jv.set (h:jv e es es')(j:Nat)(h1:VR e m.key m'.key)(h2:VR e m.val m'.val):jv e (es.set j m) (es'.set j m'):=by
 refine⟨by simp[h.1],λi x y hx hy=>?_⟩;rw[aiE] at hx hy;split at hx
 ·rename_i hj;rw[zz2 hj] at hy;split at hx
  ·split at hy;·cases hx;cases hy;exact⟨h1,h2⟩
   ·cases hy
  ·cases hx
 ·rename_i hj;rw[zz1 hj] at hy;exact h.2 i x y hx hy
theorem jv.erase (h:jv e es es')(j:Nat):jv e (es.eraseIdx j) (es'.eraseIdx j):=by
 refine⟨by simp[List.length_eraseIdx,h.1],λi x y hx hy=>?_⟩;rw[List.getElem?_eraseIdx] at hx hy;split at hx;·rename_i hj;rw[zz2 hj] at hy;exact h.2 i x y hx hy
 ·rename_i hj;rw[zz1 hj] at hy;exact h.2 _ x y hx hy
theorem agh (h:RH G F W e H w){t:TypeId}{x k v:AV}{x' k' v':Value}{H':Hp}(hx:VR e x x')(hk:VR e k k')(hv:VR e v v')(hl:qX P t x k v H=some H'):
  ∃w',(Instr.mapUpdate t x' k' v').run P w=.ok () w'/\RH G F W e H' w':=by
 unfold qX at hl;split at hl
 ·rename_i kt el i hu;cases hc:qe P 20 kt k with
  |false=>rw[hc] at hl;cases hl
  |true=>
  rw[hc] at hl;simp only[cond_true] at hl;have A8:∀emp,(Instr.checkKey emp 10000 kt k').run P w=.ok () w:=λemp=>Tb w emp 20 10000 zzx kt k k' hk hc;obtain⟨kd,cw⟩:=SZ hc;obtain⟨hi,rfl⟩:=hx.M3;split at hl
  ·rename_i es c hg;obtain⟨_,es',c',fs,hb,ui,qT,gL,nQ⟩:=DO h hg;split at hl
   ·rename_i j m hf;cases hs:GA m.key k with
    |false=>rw[hs] at hl;cases hl
    |true=>
    rw[hs] at hl;cases hl;obtain⟨f1,m',f2,a,b,rfl,rfl,qb,GM,CX,hmv,dA⟩:=Ia (P:=P) h hk qT ui hf cw;have nB:es'.toList[a.length]?=some m':=by rw[qb,ab4 (aaC _),aka];rfl
    have Lf:Instr.sameBits 10000 m'.key k'=true:=CX.plain hk hs;have Cr:es'[a.length]?=some m':=by rw[<-aeW];exact nB
    have aDH:es'.modify a.length (λe=>{e with key:=k',val:=v'})=(es'.toList.set a.length {m' with key:=k',val:=v'}).toArray:=by
     apply Array.ext_getElem?;intro q;have e1:∀l:List MapEntry,l.toArray[q]?=l[q]?:=λl=>zzy;refine abG ?_ (e1 _).symm;rw[Array.getElem?_modify,aiE,aeW];by_cases hq:a.length=q;·subst hq;have aQ:=(adh.1 Cr).1;rw[zz2 rfl,zz2 rfl,zz2 (by simpa using aQ),Cr];rfl
     ·rw[zz1 hq,zz1 hq]
    have fO:∀(p q:List MapEntry) (x y:MapEntry),(p++x::q).set p.length y=p++y::q:=λp q x y=>by rw[anZ _ _ (aaC _),aka];rfl
    have tO:((f1++m'::f2).set f1.length {m' with key:=k',val:=v'}).Perm (es'.toList.set a.length {m' with key:=k',val:=v'}):=by rw[qb,fO,fO];exact (List.perm_middle.trans (GM.cons _)).trans List.perm_middle.symm
    have hbm:((f1++m'::f2).set f1.length {m' with key:=k',val:=v'}).map (·.born)=(f1++m'::f2).map (·.born):=by rw[fO];simp
    refine⟨{w with heap:=w.heap.setIfInBounds (e.b i) (.map (es'.toList.set a.length {m' with key:=k',val:=v'}).toArray c')},?_,
     h.PR hg (fs:=(f1++m'::f2).set f1.length {m' with key:=k',val:=v'}) (by simpa using tO) (qT.set (m:={m with key:=k,val:=v}) (m':={m' with key:=k',val:=v'}) f1.length hk hv) (by rw[hbm];exact gL) (λx hx=>?_)⟩
    ·simp[Instr.mapUpdate,aL hu,Fv hb,A8,dA,Cr,Instr.keyThatStays,Lf,JV hb,aDH]
    ·rw[fO] at hx;rcases abm.1 hx with hx|hx;·exact nQ x (abi _ hx)
     ·rcases aar.1 hx with rfl|hx;·exact nQ m' zzy
      ·exact nQ x (by simp[hx])
   ·rename_i hf;cases hl;have dA:(Instr.findKey kt k' es'.toList).run P w=.ok none w:=Ia (P:=P) h hk qT ui hf cw;refine⟨{w with heap:=w.heap.setIfInBounds (e.b i) (.map (es'.push ⟨k',v',c'⟩) (c'+1))},?_,h.PR hg (fs:=fs++[⟨k',v',c'⟩]) (by rw[Array.toList_push];exact ui.append_right _) (qT.snoc (m:=⟨k,v,c⟩) (m':=⟨k',v',c'⟩) hk hv) ?_ ?_⟩;·simp[Instr.mapUpdate,aL hu,Fv hb,A8,dA,JV hb]
    ·rw[adH,afB];refine⟨gL,zzy,λx hx y hy=>?_⟩;obtain⟨z,hz,rfl⟩:=acx.1 hx;have:=nQ z hz;simp at hy;omega
    ·intro x hx;rcases abm.1 hx with hx|hx;·have:=nQ x hx;omega
     ·rw[No] at hx;subst hx;exact ai9 _
   ·cases hl
  ·cases hl
 ·cases hl
theorem aC6 (h:RH G F W e H w)(hx:VR e x x')(hk:VR e k k')(hl:Jv P cB x k H=some H'):
  ∃w',(Builtin.delete_ cB ty #[x',k']).run P w=.ok (.tuple #[]) w'/\RH G F W e H' w':=by
 unfold Jv at hl;split at hl
 ·rename_i kt el hq;obtain⟨t0,h0,hu⟩:=aba.1 hq;cases hc:qe P 20 kt k with
  |false=>rw[hc] at hl;cases hl
  |true=>
  rw[hc] at hl;simp only[cond_true] at hl;have A8:∀emp,(Instr.checkKey emp 10000 kt k').run P w=.ok () w:=λemp=>Tb w emp 20 10000 zzx kt k k' hk hc;obtain⟨kd,cw⟩:=SZ hc;split at hl;·cases hl;cases hx;exact⟨w,by simp[Builtin.delete_,h0,aL hu,A8],h⟩
  ·rename_i i;obtain⟨hi,rfl⟩:=hx.M3;split at hl
   ·rename_i es c hg;obtain⟨_,es',c',fs,hb,ui,qT,gL,nQ⟩:=DO h hg;split at hl
    ·rename_i j m hf;cases hl;obtain⟨f1,m',f2,a,b,rfl,rfl,qb,GM,CX,hmv,dA⟩:=Ia (P:=P) h hk qT ui hf cw;have fy:a.length<es'.size:=by have:=congrArg List.length qb;rw[amv,aam,aaG] at this;omega
     have her:(es'.eraseIdxIfInBounds a.length).toList=es'.toList.eraseIdx a.length:=by simp[Array.eraseIdxIfInBounds,fy]
     have Hn:∀(p q:List MapEntry) (x:MapEntry),(p++x::q).eraseIdx p.length=p++q:=λp q x=>by rw[List.eraseIdx_append_of_length_le (aaC _),aka];rfl
     refine⟨{w with heap:=w.heap.setIfInBounds (e.b i) (.map (es'.eraseIdxIfInBounds a.length) c')},?_,h.PR hg (fs:=(f1++m'::f2).eraseIdx f1.length) (by rw[her,qb,Hn,Hn];exact GM) (qT.erase f1.length) ?_ (λx hx=>nQ x ?_)⟩;·simp[Builtin.delete_,h0,aL hu,Fv hb,A8,dA,JV hb]
     ·rw[Hn];rw[adH,ab9] at gL;rw[adH];exact (alC.1 ((List.perm_middle.nodup_iff).1 gL)).2
     ·rw[Hn] at hx;rcases abm.1 hx with hx|hx;·exact abi _ hx
      ·exact aaR _ (.tail _ hx)
    ·rename_i hf;cases hl;have dA:(Instr.findKey kt k' es'.toList).run P w=.ok none w:=Ia (P:=P) h hk qT ui hf cw;have axe:w.heap.setIfInBounds (e.b i) (.map es' c')=w.heap:=by
      apply Array.ext_getElem?;intro q;by_cases hq:e.b i=q;·subst hq;have aQ:=(adh.1 hb).1;rw[ajQ aQ,hb]
      ·rw[agY hq]
     refine⟨w,?_,h⟩;simp[Builtin.delete_,h0,aL hu,Fv hb,A8,dA,JV hb,axe]
    ·cases hl
   ·cases hl
  ·cases hl
 ·cases hl
theorem amV (h:RH G F W e H w)(hx:VR e x x')(hl:Wh P cB x H=some H'):
  ∃w',(Builtin.clear_ cB ty #[x']).run P w=.ok (.tuple #[]) w'/\RH G F W e H' w':=by
 unfold Wh at hl;split at hl;·rename_i d hq;obtain⟨t0,h0,hu⟩:=aba.1 hq;cases hl;cases hx;exact⟨w,by simp[Builtin.clear_,h0,aL hu],h⟩
 ·rename_i d hq;obtain⟨t0,h0,hu⟩:=aba.1 hq;cases hl;cases hx;exact⟨w,by simp[Builtin.clear_,h0,aL hu],h⟩
 ·rename_i d i hq;obtain⟨t0,h0,hu⟩:=aba.1 hq;obtain⟨hi,rfl⟩:=hx.M3;split at hl;·rename_i es c hg;cases hl;obtain⟨_,es',c',fs,hb,ui,qT,gL,nQ⟩:=DO h hg;refine⟨{w with heap:=w.heap.setIfInBounds (e.b i) (.map #[] c')},?_,h.PR hg (fs:=[]) (List.Perm.refl _) ⟨rfl,zzy⟩ zzy zzy⟩;simp[Builtin.clear_,h0,aL hu,Fv hb,JV hb]
  ·cases hl
 ·rename_i el i off n a1 a2 a3 hq;obtain⟨t0,h0,hu⟩:=aba.1 hq;split at hl
  ·rename_i z hz;obtain⟨inf,z0,jL,gC,BT⟩:=BD (e:=e) hz;rcases hx.nf with⟨o,c,hi,ho,lP,hc,jQ,hn,rfl⟩|⟨rfl,_,a,rfl⟩
   ·cases n with
    |zero=>
     have:rep 0 z=[]:=rfl;rw[this] at hl;cases hl;exact⟨w,by simp[Builtin.clear_,h0,aL hu],h⟩
    |succ n=>
     have fI:=BT.rep (n+1);obtain⟨w',BU,hr⟩:=RH.PV (P:=P) (off:=off) (k:=0) h hl fI ho;have hzz:(Builtin.zeroCells z0.cells (n+1)).toList=(List.replicate (n+1) z0.cells.toList).flatten:=abd rfl _;refine⟨w',?_,hr⟩;simp only[Builtin.clear_,h0,agm,adW,Sem.run_bind,aL hu,Result.andThen_ok,uQ jL gC];rw[hzz,BU];simp
   ·have:rep 0 z=[]:=rfl;rw[this] at hl;cases hl;exact⟨w,by simp[Builtin.clear_,h0,aL hu],h⟩
  ·cases hl
 ·cases hl
theorem aBG (h:RH G F W e H w){v:AV}(hx:VR e x x')(hl:CY P cB x H=some v):
  ∃v',(Builtin.len_ cB ty #[x']).run P w=.ok v' w/\VR e v v':=by
 unfold CY at hl;split at hl;·rename_i s hq;obtain⟨t0,h0,hu⟩:=aba.1 hq;obtain⟨b,rfl,rfl⟩:=hx.nD;cases hl;rw[Au];exact⟨_,by simp[Builtin.len_,h0,aL hu];rfl,.int _ _⟩
 ·rename_i n el hq;obtain⟨t0,h0,hu⟩:=aba.1 hq;cases hl;exact⟨_,by simp[Builtin.len_,h0,aL hu];rfl,.int _ _⟩
 ·rename_i el hq;obtain⟨t0,h0,hu⟩:=aba.1 hq;cases hl;cases hx;exact⟨_,by simp[Builtin.len_,h0,aL hu];rfl,.int _ _⟩
 ·rename_i el a1 a2 n a3 a4 a5 hq;obtain⟨t0,h0,hu⟩:=aba.1 hq;cases hl;rcases hx.nf with⟨o,c,hi,ho,lP,hc,jQ,hn,rfl⟩|⟨rfl,_,a,rfl⟩;·exact⟨_,by simp[Builtin.len_,h0,aL hu];rfl,.int _ _⟩
  ·exact⟨_,by simp[Builtin.len_,h0,aL hu];rfl,.int _ _⟩
 ·rename_i kt el hq;obtain⟨t0,h0,hu⟩:=aba.1 hq;cases hl;cases hx;exact⟨_,by simp[Builtin.len_,h0,aL hu];rfl,.int _ _⟩
 ·rename_i kt el i hq;obtain⟨t0,h0,hu⟩:=aba.1 hq;obtain⟨hi,rfl⟩:=hx.M3;split at hl
  ·rename_i es c hg;cases hl;obtain⟨_,es',c',fs,hb,ui,qT,_⟩:=DO h hg;have:es.length=es'.size:=by have h1:=qT.1;have h2:=ui.length_eq;have h3:es'.toList.length=es'.size:=amv;omega
   rw[this];exact⟨_,by simp[Builtin.len_,h0,aL hu,Fv hb];rfl,.int _ _⟩
  ·cases hl
 ·rename_i a hq;obtain⟨t0,h0,hu⟩:=aba.1 hq;split at hl;·rename_i n el hua;cases hl;exact⟨_,by simp[Builtin.len_,h0,aL hu,aL hua];rfl,.int _ _⟩
  ·cases hl
 ·cases hl
theorem aDW {v:AV}(hx:VR e x x')(hl:Of P cB x=some v)(w:World):
  ∃v',(Builtin.cap_ cB ty #[x']).run P w=.ok v' w/\VR e v v':=by
 unfold Of at hl;split at hl;·rename_i el hq;obtain⟨t0,h0,hu⟩:=aba.1 hq;cases hl;cases hx;exact⟨_,by simp[Builtin.cap_,h0,aL hu];rfl,.int _ _⟩
 ·rename_i el a1 a2 n c a5 hq;obtain⟨t0,h0,hu⟩:=aba.1 hq;cases hl;rcases hx.nf with⟨o,c',hi,ho,lP,hc,jQ,hn,rfl⟩|⟨rfl,rfl,a,rfl⟩;·have:=jQ rfl;subst this;exact⟨_,by simp[Builtin.cap_,h0,aL hu];rfl,.int _ _⟩
  ·exact⟨_,by simp[Builtin.cap_,h0,aL hu];rfl,.int _ _⟩
 ·cases hl
theorem abb:∀{l:List AV} {ls:List Value} {x v:AV} {x':Value},VR e x x'->aV e l ls->FQ false x l=some v->∃v',(ls.foldlM Builtin.min2 x').run P w=.ok v' w/\VR e v v'
 |[],ls,x,v,x',hx,hl,h=>by rw[hl.lH];cases h;exact⟨x',zzy,hx⟩
 |y::l,ls,x,v,x',hx,hl,h=>by
  obtain⟨y',ws,rfl,hy,qn⟩:=hl.cons_inv;unfold FQ at h;split at h
  ·rename_i z hz;unfold UW at hz;split at hz;·cases hx.gV;cases hy.gV;cases hz;obtain⟨v',h1,h2⟩:=abb (.int _ _) qn h;refine⟨v',?_,h2⟩;simp only[List.foldlM_cons,Sem.run_bind,Builtin.min2,Sem.run_pure,Result.andThen_ok];exact h1
   ·cases hz
  ·cases h
theorem abB:∀{l:List AV} {ls:List Value} {x v:AV} {x':Value},VR e x x'->aV e l ls->FQ true x l=some v->∃v',(ls.foldlM Builtin.max2 x').run P w=.ok v' w/\VR e v v'
 |[],ls,x,v,x',hx,hl,h=>by rw[hl.lH];cases h;exact⟨x',zzy,hx⟩
 |y::l,ls,x,v,x',hx,hl,h=>by
  obtain⟨y',ws,rfl,hy,qn⟩:=hl.cons_inv;unfold FQ at h;split at h
  ·rename_i z hz;unfold UW at hz;split at hz;·cases hx.gV;cases hy.gV;cases hz;obtain⟨v',h1,h2⟩:=abB (.int _ _) qn h;refine⟨v',?_,h2⟩;simp only[List.foldlM_cons,Sem.run_bind,Builtin.max2,Sem.run_pure,Result.andThen_ok];exact h1
   ·cases hz
  ·cases h
end
end
end
section
variable {P:Program}{G:Nat}{F:Nat->Prop}{W:World}{e:Em}{H:Hp}{w:World}
theorem asc (h:RH G F W e H w){cB:Array TypeId}{ty:TypeId}{d x v:AV}{d' x':Value}{H':Hp}(hd:VR e d d')(hx:VR e x x')(hl:KB P cB d x H=some (v,H')):
  ∃v' w',(Builtin.copy_ cB ty #[d',x']).run P w=.ok v' w'/\RH G F W e H' w'/\VR e v v':=by
 unfold KB at hl;split at hl
 ·rename_i el hq;obtain⟨t0,h0,hu⟩:=aba.1 hq;split at hl
  ·rename_i es xl hs eu;have hlen:(Builtin.lenOf x').run P w=.ok xl w/\∀m,(Nat.min xl m=0->(Builtin.firstCells es (Nat.min xl m) x').run P w=.ok #[] w):=by
    unfold R2 at eu;split at eu;·cases eu;cases hx;exact⟨by simp[Builtin.lenOf],λm hm=>by simp[Builtin.firstCells]⟩
    ·cases eu;rcases hx.nf with⟨o,c,hi,ho,lP,hc,jQ,hn,rfl⟩|⟨rfl,_,a,rfl⟩;·exact⟨by simp[Builtin.lenOf],λm hm=>by simp only[Builtin.firstCells,hm,ai8];rfl⟩
     ·exact⟨by simp[Builtin.lenOf],λm hm=>by simp only[Builtin.firstCells,hm,ai8];rfl⟩
    ·cases eu;obtain⟨b,rfl,rfl⟩:=hx.nD;refine⟨by simp[Builtin.lenOf,Au],λm hm=>?_⟩;simp only[Builtin.firstCells,hm,Sem.run_pure];congr 1;apply aes.1;simp
    ·cases eu
   obtain⟨hlen,Ps⟩:=hlen;split at hl;·cases hl;cases hd;refine⟨_,w,?_,h,.int _ _⟩;have h1:=Ps 0 (Nat.min_zero _);simp only[Builtin.copy_,h0,agm,adW,adr,Sem.run_bind,aL hu,Result.andThen_ok,hlen,iZ hs,h1];simp[goInt]
   ·rename_i i off dl a1 a2 a3;cases hz:Nat.beq (Nat.min xl dl) 0 with
    |true=>
     rw[hz] at hl;cases hl;have hm:Nat.min xl dl=0:=abx hz;have h1:=Ps dl hm;rcases hd.nf with⟨o,c,hi,ho,lP,hc,jQ,hn,rfl⟩|⟨rfl,_,a,rfl⟩;·refine⟨_,w,?_,h,.int _ _⟩;simp only[Builtin.copy_,h0,agm,adW,adr,Sem.run_bind,aL hu,Result.andThen_ok,hlen,iZ hs,h1];simp[goInt,storeCells,hm]
     ·refine⟨_,w,?_,h,.int _ _⟩;simp only[Builtin.copy_,h0,agm,adW,adr,Sem.run_bind,aL hu,Result.andThen_ok,hlen,iZ hs,h1];simp[goInt,storeCells,hm]
    |false=>
     rw[hz] at hl;simp only[cond_false] at hl;split at hl
     ·rename_i cs gG;simp only[aal,acC] at hl;obtain⟨H2,aC,rfl,rfl⟩:=hl;have Zg:∃vs:List Value,aV e cs vs/\(Builtin.firstCells es (Nat.min xl dl) x').run P w=.ok vs.toArray w:=by
       unfold Yr at gG;split at gG
       ·rename_i j aF1 jl b1 b2 b3;rcases hx.nf with⟨o,c,hi,ho,lP,hc,jQ,hn,rfl⟩|⟨rfl,_,a,rfl⟩;·obtain⟨vs,q1,q2,q3⟩:=h.CI gG ho;refine⟨vs,q1,?_⟩;have:=run_loadCells_list (P:=P) w ⟨e.b j,o,none⟩ vs (λk u hk=>by rw[add_lit];exact q3 k u hk);rw[q2] at this;simp[Builtin.firstCells,this]
        ·cases eu;have:Nat.min 0 dl=0:=Nat.zero_min _;rw[this] at hz;cases hz
       ·obtain⟨b,rfl,rfl⟩:=hx.nD;cases gG;cases eu;refine⟨((b.extract 0 (Nat.min (bytes b).length dl)).data.toList).map λu=>Value.int .u8 u.toNat,?_,?_⟩;·have jf:=aV.abN b 0 (Nat.min (bytes b).length dl);rw[abl,aij] at jf;rw[jf];refine⟨by simp[bytes],λk u v' hu bS=>?_⟩;simp only[bytes,aoL,acV,aal] at hu bS;obtain⟨p,hp,rfl⟩:=hu;obtain⟨p',hp',rfl⟩:=bS;rw[hp] at hp';cases hp';exact .int _ _
        ·simp only[Builtin.firstCells,Sem.run_pure];congr 1;apply aes.1;simp
       ·cases gG
      obtain⟨vs,hvl,hfc⟩:=Zg;rcases hd.nf with⟨o,c,hi,ho,lP,hc,jQ,hn,rfl⟩|⟨rfl,_,a,rfl⟩;·obtain⟨w',BU,hr⟩:=RH.PV (P:=P) (off:=off) (k:=0) h aC hvl ho;refine⟨_,w',?_,hr,.int _ _⟩;simp only[Builtin.copy_,h0,agm,adW,adr,Sem.run_bind,aL hu,Result.andThen_ok,hlen,iZ hs,hfc,BU];simp[goInt]
      ·have:Nat.min xl 0=0:=Nat.min_zero _;rw[this] at hz;cases hz
     ·cases hl
   ·cases hl
  ·cases hl
 ·cases hl
theorem ayG {el:TypeId}(hc:P.cellsOf el=1)(count o n:Nat)(hn:o+n<=count):liesAt P P.depth el count o el n=true:=by have hd:P.depth=(2*(P.types.size+Made.depth)+1)+1:=rfl;rw[hd];simp only[liesAt,ajI];left;rw[hd];simp[rowAt,hc,hn,sameLayout,Nat.mod_one]
theorem awu {b:Nat}(w:World):∀(us:List UInt8) (o:Nat) (acc:ByteArray),(∀j v,(us.map (λu=>Value.int .u8 u.toNat))[j]?=some v->w.cell? ⟨b,o+j,none⟩=some v)->
  (loadBytes ⟨b,o,none⟩ acc us.length).run P w=.ok ⟨acc.data++us.toArray⟩ w
 |us,o,acc,h=>by have:=Go.Lib.run_loadBytes (P:=P) w us ⟨b,o,none⟩ acc (λj x hj=>by rw[add_lit];exact h j _ (by simp[hj]));exact this
theorem aBm {b o n:Nat}{C:Array Value}{el:TypeId}{fz:Nat×Nat}(eN:w.heap[b]?=some (.cells C el fz))(hn:¬n=0):
  ∃fz2,(w.freeze ⟨b,o,none⟩ n).heap[b]?=some (.cells C el fz2)/\(∀k,k≠b->(w.freeze ⟨b,o,none⟩ n).heap[k]?=w.heap[k]?)/\(w.freeze ⟨b,o,none⟩ n).heap.size=w.heap.size:=by
 simp only[World.freeze,zz1 hn];refine⟨_,I2 _ _ _ eN,λk hk=>HY _ _ _ _ (λq=>hk q.symm),zzy⟩
theorem axl (h:RH G F W e H w){cB:Array TypeId}{ty:TypeId}{p v:AV}{n:Int}{k:IntKind}{p':Value}{H':Hp}(hp:VR e p p')(hl:P5 P cB p k n H=some (v,H')):
  ∃v' w',(Builtin.unsafeString_ cB ty #[p',.int k n]).run P w=.ok v' w'/\RH G F W e H' w'/\VR e v v':=by
 have Jw:IntKind.i64.max=9223372036854775807:=rfl;unfold P5 at hl;split at hl
 rotate_left
 ·cases hl
 rename_i t0 t1 nz;obtain rfl:cB=#[t0,t1]:=aes.1 nz;have IG:∀q:Option Addr,n=0->(Builtin.unsafeString_ #[t0,t1] ty #[.pointer q,.int .i64 n]).run P w=.ok (.string .empty) w:=by intro q hn;subst hn;exact Go.Lib.run_unsafeString_none (P:=P) w t0 t1 ty q
 split at hl
 ·rename_i el hu;cases hp;split at hl;·rename_i hn;cases hl;exact⟨.string .empty,w,IG _ hn,h,.str .empty⟩
  ·cases hl
 ·rename_i el i off hu;obtain⟨o,hi,ho,rfl⟩:=hp.vb;split at hl;·rename_i hn;cases hl;exact⟨.string .empty,w,IG _ hn,h,.str .empty⟩
  ·rename_i nj;split at hl
   ·rename_i c lo jP wI fl hg;split at hl
    ·rename_i hc;obtain⟨rfl,xG,lY,iX,oq⟩:=hc;simp only[aal,aba,acC] at hl;obtain⟨bs,⟨cs,gG,vF⟩,rfl,rfl⟩:=hl;obtain⟨vs,q1,q2,q3⟩:=h.CI gG ho;obtain⟨us,rfl,rfl⟩:=ZE vF q1;rw[ab7] at q2;obtain⟨_,ob,eN,eT,hF⟩:=h.obj i _ hg;cases eT with
     |cells _ _ _ _ _ C fz hn ka VJ h1 hd=>
     have I4:o+n.toNat<=C.size:=by obtain⟨m,hm⟩:∃m,us.length=m+1:=⟨us.length-1,zzz⟩;have hq:=q3 m (Value.int .u8 (us[m]' zzz).toNat) (by simp[hm]);simp only[World.cell?,eN] at hq;have xn:=(adh.1 hq).1;omega
     have tK:w.shape? (e.b i)=some (el,C.size):=by simp[World.shape?,eN]
     have hva:liesAt P P.depth el (C.size / P.cellsOf el) o el n.toNat=true:=by rw[xG,Nat.div_one];exact ayG xG _ _ _ I4
     have hlb:=awu (P:=P) (b:=e.b i) w us o .empty q3;rw[q2] at hlb;have PD:¬(n>IntKind.i64.max):=by rw[Jw];omega
     have ae5:¬n<0:=zzz;have Bx:Builtin.unsafeString_ #[t0,t1] ty #[.pointer (some ⟨e.b i,o,none⟩),.int .i64 n]=
      (do
       let n <-asInt (.int .i64 n)
       if n<0 then runtimePanic (.error "unsafe.String: len out of range")
       if n>IntKind.i64.max then unsupported (.unsafePointer "String: a length above the largest int")
       if n=0 then Pure.pure (.string .empty)
       else if <-variablesAt ⟨e.b i,o,none⟩ (<-elemOf t0) n.toNat then do
        let s <-loadBytes ⟨e.b i,o,none⟩ .empty n.toNat
        Go.freeze ⟨e.b i,o,none⟩ n.toNat
        Pure.pure (.string s)
       else unsupported (.unsafePointer "String: not so many bytes at ptr")):=rfl
     have FC:¬(9223372036854775807<n):=zzz;have lE:¬n.toNat=0:=zzz;obtain⟨fz2,g1,g2,g3⟩:=aBm (w:=w) (o:=o) eN lE;refine⟨.string ⟨us.toArray⟩,w.freeze ⟨e.b i,o,none⟩ n.toNat,?_,?_,.str ⟨us.toArray⟩⟩;·rw[Bx];simp[asInt,asIntOf,Jw,ae5,FC,nj,elemOf,aL hu,variablesAt,tK,hva,hlb]
     ·refine h.put hg (by simp[wr,oq]) g3 g1 g2 (.cells _ _ _ _ _ _ _ hn ka zzy zzy hd) ?_ ?_ ?_;·simp[World.freeze,lE]
      ·simp[World.freeze,lE]
      ·simp[World.freeze,lE]
    ·cases hl
   ·cases hl
 ·cases hl
end
end Go.Proofs.YtodfajmihkagnaaGreatDoor.Am
