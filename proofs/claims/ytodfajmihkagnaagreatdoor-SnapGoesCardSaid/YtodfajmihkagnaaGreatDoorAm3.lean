/- Laws that the proof uses. -/
import Derived.Test.YtodfajmihkagnaaGreatDoorAm2
set_option maxHeartbeats 1000000
set_option linter.unusedVariables false
set_option linter.unusedSimpArgs false
namespace Go.Proofs.YtodfajmihkagnaaGreatDoor.Am
section
section
section
section
variable {P:Program}{G:Nat}{F:Nat->Prop}{W:World}{e:Em}{H:Hp}{w:World}
theorem afx (n:Nat):∀(r c:Nat),c<=2*n+192->Builtin.growBy n r c<=2*n+192
 |0,c,h=>h|r+1,c,h=>by
  unfold Builtin.growBy;split;·exact h
  ·exact afx n r _ zzz
section
variable {H':Hp}{cI:Array TypeId}{c cap el i o qc jE:Nat}{nv:List Value}{ty:TypeId}{x:AV}{x':Value}
theorem nextslicecap_le {Re:Nat}(h:cap<Re):Builtin.nextslicecap Re cap<=2*Re+192:=by
 unfold Builtin.nextslicecap;split;·omega
 ·split;·omega
  ·exact afx Re 4 cap zzz
theorem aus (b o el:Nat)(fz:Nat×Nat):∀(vs:List Value) (k:Nat) (w:World) (C:Array Value),w.heap[b]?=some (.cells C el fz)->o+k+vs.length<=C.size->
  (∀m,m<C.size->(decide (fz.1<=m)&&decide (m<fz.2))=false)->(∀v∈vs,v.oneCell'=true)->
  ∃w' C',(storeCells ⟨b,o,none⟩ vs k).run P w=.ok () w'/\w'.heap[b]?=some (.cells C' el fz)/\C'.size=C.size/\
   (∀m,C'[m]?=if o+k<=m/\m<o+k+vs.length then vs[m-(o+k)]? else C[m]?)/\(∀j,j≠b->w'.heap[j]?=w.heap[j]?)/\w'.heap.size=w.heap.size/\w'.os=w.os/\w'.tape=w.tape/\w'.output=w.output:=by
 intro vs;induction vs with
 |nil=>
  intro k w C hb hs hf h1;exact⟨w,C,by simp[storeCells],hb,rfl,λm=>by rw[zz1 (by rw[ach];omega)],λ_ _=>rfl,rfl,rfl,rfl,rfl⟩
 |cons v vs ih=>
  intro k w C hb hs hf h1;simp only[aaP] at hs;have aR:o+k<C.size:=zzz;have hc:w.cell? ⟨b,o+k,none⟩=some C[o+k]:=by simp[World.cell?,hb,aR]
  have Pz:w.frozen? ⟨b,o+k,none⟩=false:=by simp only[World.frozen?,hb];exact hf _ aR
  have hb1:(w.setCell ⟨b,o+k,none⟩ v).heap[b]?=some (.cells (C.setIfInBounds (o+k) v) el fz):=by simp only[World.setCell];rw[J6 _ _ _ hb];rfl
  obtain⟨w',C',r1,r2,r3,r4,r5,r6,r7,r8,r9⟩:=ih (k+1) _ _ hb1 (by simp;omega) (by simpa using hf) (λu hu=>h1 u (List.mem_cons_of_mem _ hu));refine⟨w',C',?_,r2,by simpa using r3,λm=>?_,λj hj=>?_,?_,r7,r8,r9⟩;·simp only[storeCells,Sem.run_bind,add_lit,run_store P w _ _ _ (h1 v (List.mem_cons_self ..)),hc,Pz,aa8,if_false,Result.andThen_ok];exact r1
  ·rw[r4 m];simp only[aaP];by_cases hm:m=o+k;·subst hm;rw[zz1 zzz,zz2 zzz,ai0 zzz];simp
   ·by_cases hr:o+(k+1)<=m/\m<o+(k+1)+vs.length;·rw[zz2 hr,zz2 zzz];have:m-(o+k)=(m-(o+(k+1)))+1:=zzz;rw[this,acJ]
    ·rw[zz1 hr,zz1 zzz,afv zzz]
  ·rw[r5 j hj];simp only[World.setCell];rw[Jd _ _ _ _ (λq=>hj q.symm)]
  ·rw[r6];simp[World.setCell]
theorem RH.del (h:RH G F W e H w)(i:Nat):RH G F W e {H with h:=H.h.del i} w:=by
 have gE:∀j o,(H.h.del i).get j=some o->H.h.get j=some o/\j≠i:=by
  intro j o hj;rw[Tr.aa4] at hj;split at hj;·cases hj
  ·exact⟨hj,by assumption⟩
 exact⟨h.N,λj o hj=>h.obj j o (gE j o hj).1,λj k oj ok hj hk hq=>h.inj j k oj ok (gE j oj hj).1 (gE k ok hk).1 hq,h.uH,h.frame,h.os,h.tape,h.output,h.size,h.ou⟩
theorem RH.move (h:RH G F W e H w){o o':AO}(hg:H.h.get i=some o)(hw:wr o=true){j:Nat}(ha:Am.alloc {H with h:=H.h.del i} o'=some (j,H'))
  {tA:Obj} {w':World} (fN:w'.heap.size=w.heap.size) (hb:w'.heap[e.b i]?=some tA) (aF:∀k,k≠e.b i->w'.heap[k]?=w.heap[k]?)
  (fj:OR (e.ext (e.b i) (e.d i) (e.n i)) j o' tA) (os:w'.os=w.os) (tape:w'.tape=w.tape) (output:w'.output=w.output):
  j=e.N/\RH G F W (e.ext (e.b i) (e.d i) (e.n i)) H' w':=by
 obtain⟨rfl,azx,rfl⟩:=A6 ha;obtain⟨hN,ob,eW,_,hF⟩:=h.obj i o hg;have Gn:=h.N;have hle:=Em.sC e (e.b i) (e.d i) (e.n i);have gE:∀k x,((H.h.del i).put 34 H.next o').get k=some x->(k=H.next/\x=o')\/(k≠H.next/\k≠i/\H.h.get k=some x):=by
  intro k x hk;rw[Tr.put,Tr.gL] at hk;split at hk;·cases hk;exact .inl ⟨by assumption,rfl⟩
  ·rw[Tr.aa4] at hk;split at hk;·cases hk
   ·exact .inr ⟨by assumption,by assumption,hk⟩
 have jq:∀k x,H.h.get k=some x->(e.ext (e.b i) (e.d i) (e.n i)).b k=e.b k:=λk x hk=>(hle.2 k (h.obj k x hk).1).1;refine⟨Gn.symm,?_,?_,?_,?_,?_,os.trans h.os,tape.trans h.tape,output.trans h.output,by rw[fN];exact h.size,by obtain⟨g1,g2,g3⟩:=h.ou;rw[fN,(hle.2 G g2).2.2];simp[Em.ext];omega⟩;·simp[Em.ext,Gn]
 ·intro k x hk;rcases gE k x hk with⟨rfl,rfl⟩|⟨k1,k2,k3⟩
  ·refine⟨by simp[Em.ext,Gn],tA,?_,fj,?_⟩;·rw[<-Gn,Em.pU];exact hb
   ·intro _;rw[<-Gn,Em.pU];exact hF (.inl hw)
  ·obtain⟨a,sR,b2,c2,d2⟩:=h.obj k x k3;refine⟨by simp[Em.ext];omega,sR,?_,c2.mono hle a,?_⟩;·rw[jq k x k3,aF _ (λq=>k2 (h.inj i k o x hg k3 (.inl hw) q.symm).symm)];exact b2
   ·intro OP;rw[jq k x k3,(hle.2 G h.ou.2.1).2.2] at OP;rw[jq k x k3];exact d2 OP
 ·intro k m x y hk hm hq he;rcases gE k x hk with⟨rfl,rfl⟩|⟨k1,k2,k3⟩<;>rcases gE m y hm with⟨rfl,rfl⟩|⟨m1,m2,m3⟩;·rfl
  ·rw[<-Gn,Em.pU,jq m y m3] at he;exact absurd (h.inj i m o y hg m3 (.inl hw) he).symm m2
  ·rw[<-Gn,Em.pU,jq k x k3] at he;exact absurd (h.inj i k o x hg k3 (.inl hw) he.symm).symm k2
  ·rw[jq k x k3,(hle.2 G h.ou.2.1).2.2] at hq;rw[jq k x k3,jq m y m3] at he;exact h.inj k m x y k3 m3 hq he
 ·intro g jP;obtain⟨a,b,c⟩:=h.uH g jP;obtain⟨x,y,_⟩:=hle.2 g a;exact⟨by simp[Em.ext];omega,x.trans b,y.trans c⟩
 ·intro k hk;obtain⟨a,b⟩:=h.frame k hk;refine⟨by rw[fN];exact a,?_⟩;rw[aF k (λq=>hF (.inl hw) (q▸hk))];exact b
theorem adO {z:Array Value}{es:Nat}(hz:z.size=es)(n:Nat):(Builtin.zeroCells z n).toList=(List.replicate n z.toList).flatten:=by unfold Builtin.zeroCells;exact apl z n
theorem asx (h:RH G F W e H w){gp:Bool}{es n:Nat}{new:List AV}(hx:VR e x x')(hs:sz P el=some es)(hn:Ng P gp el es x H=some (n,new)):
  ∃nv:List Value,aW e new nv/\nv.length=n*es/\
   (gp=true->∃k:Int,x'=.int .i64 k/\0<=k/\k<16777216/\k.toNat=n/\∃i z0,P.info? el=some i/\i.zero=some z0/\z0.cells.size=es/\nv=(List.replicate n z0.cells.toList).flatten)/\
   (gp=false->∀w1:World,w1.heap=w.heap->(Builtin.lenOf x').run P w1=.ok n w1/\(Builtin.firstCells es n x').run P w1=.ok nv.toArray w1):=by
 unfold Ng at hn;split at hn
 ·rename_i k;cases hx.ij;split at hn
  ·rename_i hk;split at hn
   ·rename_i z hz;split at hn
    ·rename_i sE;cases hn;obtain⟨i,z0,hi,gN,hl⟩:=Cj (e:=e) hz;have fN:z0.cells.size=es:=by have:=hl.1;simp at this;omega
     refine⟨_,hl.rep _,?_,λ_=>⟨k,rfl,hk.1,hk.2,rfl,i,z0,hi,gN,fN,rfl⟩,zzy⟩;simp[fN]
    ·cases hn
   ·cases hn
  ·cases hn
 ·cases hn;cases hx;exact⟨[],.nil e,zzy,zzy,λ_ w1 Jk=>⟨by simp[Builtin.lenOf],by simp[Builtin.firstCells]⟩⟩
 ·rename_i i off len a1 a2 a3;simp only[aaq,abW] at hn;obtain⟨l,hl,rfl,rfl⟩:=hn;rcases hx.nN with⟨o,k,py,ho,mu,CM,ki,iN,rfl⟩|⟨rfl,_,a,rfl⟩;·obtain⟨cs,h1,h2,h3⟩:=h.Ds hl ho;refine⟨cs,h1,h2,zzy,λ_ w1 Jk=>⟨by simp[Builtin.lenOf],?_⟩⟩;have:=run_loadCells_list (P:=P) w1 ⟨e.b i,o,none⟩ cs (λj v hj=>by rw[add_lit];have q:=h3 j v hj;unfold World.cell? at q⊢;rw[Jk];exact q);rw[h2] at this;simp[Builtin.firstCells,this]
  ·rw[ag0] at hl;cases hl;refine⟨[],.nil e,zzy,zzy,λ_ w1 Jk=>⟨by simp[Builtin.lenOf],?_⟩⟩;simp[Builtin.firstCells,loadCells,loadCellsFrom]
 ·rename_i s;obtain⟨b,rfl,rfl⟩:=hx.og;split at hn
  ·rename_i u7;subst u7;simp only[acD,abW] at hn;obtain⟨rfl,rfl⟩:=hn;refine⟨b.data.toList.map λu=>Value.int .u8 u.toNat,?_,?_,zzy,λ_ w1 Jk=>⟨by simp[Builtin.lenOf,Be],?_⟩⟩;·refine⟨by simp[bytes],λi v v' hv bQ=>?_⟩;simp only[bytes,anY,ab9,aaq] at hv bQ;obtain⟨u,hu,rfl⟩:=hv;obtain⟨u',kI,rfl⟩:=bQ;rw[hu] at kI;cases kI;exact .int _ _
   ·simp[bytes]
   ·simp only[Builtin.firstCells,Be];have:b.extract 0 b.size=b:=ByteArray.extract_zero_size;rw[this];simp only[Sem.run_pure];congr 1;apply adT.1;simp
  ·cases hn
 ·cases hn
theorem abM {gp:Bool}(h:Kw P cI=some gp):
  (cI[1]?=none/\gp=false)\/∃t d,cI[1]?=some t/\P.underlying t=some d/\Builtin.append_.match_1 (λ_=>Bool) d (λ_=>true) (λ_=>false)=gp:=by
 unfold Kw at h;split at h;·rename_i t ht;simp only[aaq] at h;obtain⟨d,hd,rfl⟩:=h;refine .inr ⟨t,d,ht,hd,?_⟩;cases d<;>rfl
 ·rename_i ht;cases h;exact .inl ⟨ht,rfl⟩
theorem HQ {gp:Bool}{t0 es n:Nat}{s':Value}{base:Option Addr}{i:TypeInfo}{z0:Value}
  (h0:cI[0]?=some t0) (hu:P.underlying t0=some (.slice el)) (hz:Kw P cI=some gp) (hs:sz P el=some es) (pF:P.bytesOf el<=4096)
  (hi:P.info? el=some i) (gN:i.zero=some z0) (xP:z0.cells.size=es)
  (sM:s'=.slice base jE qc) (aF:jE+n<=16777216) (sF:nv.length=n*es)
  (B5:gp=true->∃k:Int,x'=.int .i64 k/\0<=k/\k<16777216/\k.toNat=n/\∃i z0,P.info? el=some i/\i.zero=some z0/\z0.cells.size=es/\nv=(List.replicate n z0.cells.toList).flatten)
  (B4:gp=false->∀w1:World,w1.heap=w.heap->(Builtin.lenOf x').run P w1=.ok n w1/\(Builtin.firstCells es n x').run P w1=.ok nv.toArray w1):
  (jE+n<=qc->∀ w',(∀ a,base=some a->(storeCells (a.add (jE*es)) nv).run P w = .ok () w')->(base=none->w'=w)->
   (Builtin.append_ cI ty #[s',x']).run P w=.ok (.slice base (jE+n) qc) w')/\
  (qc<jE+n->∀ ov:List Value,(∀ w1:World,w1.heap=w.heap->(Builtin.firstCells es jE s').run P w1 = .ok ov.toArray w1)->
   ∃c,jE+n<=c/\(Builtin.append_ cI ty #[s',x']).run P w=
    .ok (.slice (some ⟨w.heap.size,0,none⟩) (jE+n) c) {w with drawn:=w.drawn+1,heap:=w.heap.push (.cells (ov++nv++(List.replicate (c-(jE+n)) z0.cells.toList).flatten).toArray el (0,0))}):=by
 have fN:=λw=>ji (P:=P) hs w;have WB:i.bytes<=4096:=by unfold Program.bytesOf at pF;rw[hi] at pF;simpa using pF
 subst sM;have KE:¬(((jE+n:Nat):Int)>IntKind.i64.max):=by rw[IntKind.max_i64];omega
 have Qa:∀c,(Builtin.zeroCells z0.cells c)=(List.replicate c z0.cells.toList).flatten.toArray:=λc=>adT.1 (by rw[adO xP]);have al1:qc<jE+n->¬(Builtin.nextslicecap (jE+n) qc*i.bytes>2^48):=by intro aR;have h1:=nextslicecap_le aR;have:Builtin.nextslicecap (jE+n) qc*i.bytes<=(2*16777216+192)*4096:=Nat.mul_le_mul zzz WB;omega
 have LY:(Question.appendCap (jE+n) qc el).forced=false:=rfl;have Ex:jE+n<=(Question.appendCap (jE+n) qc el).cut (w.tape w.drawn (.appendCap (jE+n) qc el)):=Nat.le_add_right _ _;cases gp with
 |false=>
  have hf:=B4 rfl;constructor
  ·intro hle w' aC JL;obtain⟨f1,f2⟩:=hf w rfl;have fin:(do
     let new <-Builtin.firstCells es n x'
     match base with
     |some a=>do storeCells (a.add (jE*es)) new.toList;Pure.pure (Value.slice base (jE+n) qc)
     |x=>Pure.pure (Value.slice base (jE+n) qc):Sem Value).run P w=.ok (.slice base (jE+n) qc) w':=by
    cases base with
    |none=>simp[f2,JL rfl]|some a=>simp[f2,aC a rfl]
   rcases abM (P:=P) hz with⟨h1,_⟩|⟨t,d,h1,hd,hm⟩;·simp[Builtin.append_,h0,h1,aL hu,fN,f1,hle] at fin⊢;exact fin
   ·simp only[Builtin.append_,h0,h1,ae8,ada,acJ,Sem.run_bind,aL hu,aL hd,Result.andThen_ok,fN,Sem.run_pure];rw[hm];simp[f1,hle] at fin⊢;exact fin
  ·intro aR ov xX;refine⟨_,Ex,?_⟩;have hb:=al1 aR;have Tp:¬(jE+n<=qc):=zzz;obtain⟨f1,_⟩:=hf w rfl;obtain⟨_,f2⟩:=hf {w with drawn:=w.drawn+1} rfl;have o1:=xX {w with drawn:=w.drawn+1} rfl;rcases abM (P:=P) hz with⟨h1,_⟩|⟨t,d,h1,hd,hm⟩;·simp only[Builtin.append_,h0,h1,ae8,ada,acJ,Sem.run_bind,aL hu,Result.andThen_ok,fN,Sem.run_pure,aa8,if_false,f1,zz1 Tp,sK hi];rw[zz1 (λq=>KE q.1),Sem.run_bind,sK hi,Result.andThen_ok,zz1 hb];simp only[Sem.run_bind,run_choose,LY,aa8,if_false,amE,if_true,Result.andThen_ok,sK hi,run_askRoom,o1,f2,vt hi gN,Qa,newRow,run_newObj,Sem.run_pure];simp
   ·simp only[Builtin.append_,h0,h1,ae8,ada,acJ,Sem.run_bind,aL hu,aL hd,Result.andThen_ok,fN,Sem.run_pure];rw[hm];simp only[aa8,if_false,Sem.run_bind,f1,Result.andThen_ok,zz1 Tp,sK hi];rw[zz1 (λq=>KE q.1),Sem.run_bind,sK hi,Result.andThen_ok,zz1 hb];simp only[Sem.run_bind,run_choose,LY,aa8,if_false,amE,if_true,Result.andThen_ok,sK hi,run_askRoom,o1,f2,vt hi gN,Qa,newRow,run_newObj,Sem.run_pure];simp
 |true=>
  obtain⟨k,rfl,k1,k2,k3,i2,z2,py,AY,aJL,aCx⟩:=B5 rfl;rw[hi] at py;cases py;rw[gN] at AY;cases AY;have hw:IntKind.i64.wrap k=k:=IntWalk.i64_in _ zzz;have jr:¬k*(i.bytes:Int)>2^48:=by have:k*(i.bytes:Int)<=16777216*4096:=Int.mul_le_mul zzz zzz zzz zzz;omega
  have Fy:¬k<0:=zzz;rcases abM (P:=P) hz with⟨h1,hf⟩|⟨t,d,h1,hd,hm⟩;·cases hf
  have JX:∀w1:World,((if n*es=0 then Pure.pure #[] else do Pure.pure (Builtin.zeroCells (<-zeroValue el).cells n)):Sem (Array Value)).run P w1=.ok nv.toArray w1:=by
   intro w1;by_cases nU:n*es=0;·rw[zz2 nU];have:nv=[]:=amp zzz;subst this;rfl
   ·rw[zz1 nU];simp only[Sem.run_bind,vt hi gN,Result.andThen_ok,Sem.run_pure,Qa,aCx]
  constructor
  ·intro hle w' aC JL;have fin:(do
     let new <- (if n*es=0 then Pure.pure #[] else do Pure.pure (Builtin.zeroCells (<-zeroValue el).cells n))
     match base with
     |some a=>do storeCells (a.add (jE*es)) new.toList;Pure.pure (Value.slice base (jE+n) qc)
     |x=>Pure.pure (Value.slice base (jE+n) qc):Sem Value).run P w=.ok (.slice base (jE+n) qc) w':=by
    rw[Sem.run_bind,JX w];cases base with
    |none=>simp[JL rfl]|some a=>simp[aC a rfl]
   simp only[Builtin.append_,h0,h1,ae8,ada,acJ,Sem.run_bind,aL hu,aL hd,Result.andThen_ok,fN,Sem.run_pure];rw[hm];simp only[if_true,Sem.run_bind,asInt,asIntOf,Sem.run_pure,Result.andThen_ok,hw,zz1 Fy,sK hi,zz1 jr,k3,zz2 hle,ak8,aa8,if_false] at fin⊢;exact fin
  ·intro aR ov xX;refine⟨_,Ex,?_⟩;have hb:=al1 aR;have Tp:¬(jE+n<=qc):=zzz;have o1:=xX {w with drawn:=w.drawn+1} rfl;have f2:=JX {w with drawn:=w.drawn+1};simp only[Builtin.append_,h0,h1,ae8,ada,acJ,Sem.run_bind,aL hu,aL hd,Result.andThen_ok,fN,Sem.run_pure];rw[hm];simp only[if_true,Sem.run_bind,asInt,asIntOf,Sem.run_pure,Result.andThen_ok,hw,zz1 Fy,sK hi,zz1 jr,k3,zz1 Tp,ak8,aa8,if_false];rw[zz1 (λq=>KE q.1),Sem.run_bind,sK hi,Result.andThen_ok,zz1 hb];simp only[Sem.run_bind,run_choose,LY,aa8,if_false,Result.andThen_ok,sK hi,run_askRoom,o1,f2,vt hi gN,Qa,newRow,run_newObj,Sem.run_pure];simp
theorem VR.FF {e:Em}{b off len es:Nat}{ex:Bool}(hb:e.b i=b)(hi:i<e.N)(ho:(o:Int)=off+e.d i)(hl:len<=c)(hc:cap<=c)(hx:ex=true->c=cap)(hn:o+c*es<=e.n i):
  VR e (.slice i off len cap ex es) (.slice (some ⟨b,o,none⟩) len c):=by
 subst hb;exact .slice i off len cap ex es o c hi ho hl hc hx hn
theorem aW.one {new:List AV}(h:aW e new nv)(ho:new.all aZ=true):∀v∈nv,v.oneCell'=true:=by
 intro v hv;obtain⟨i,hi⟩:=aca hv;have aR:i<new.length:=by rw[<-h.1];exact (aag.1 hi).1
 have h1:=h.2 i new[i] v (aaC aR) hi;exact h1.ael (acT.1 ho _ (List.getElem_mem aR))
theorem al0 {b es:Nat}{cs:List Value}(w:World)(hl:cs.length=jE*es)(h:∀j v,cs[j]?=some v->w.cell? ⟨b,o+j,none⟩=some v):
  ∀w1:World,w1.heap=w.heap->(Builtin.firstCells es jE (.slice (some ⟨b,o,none⟩) jE qc)).run P w1=.ok cs.toArray w1:=by
 intro w1 Jk;have:=run_loadCells_list (P:=P) w1 ⟨b,o,none⟩ cs (λj v hj=>by rw[add_lit];have q:=h j v hj;unfold World.cell? at q⊢;rw[Jk];exact q);rw[hl] at this;simp[Builtin.firstCells,this]
theorem aIn (h:RH G F W e H w){cI:Array TypeId}{ty:TypeId}{s x v:AV}{s' x':Value}{H':Hp}(hs:VR e s s')(hx:VR e x x')(ha:MJ P cI s x H=some (v,H')):
  ∃v' w' e',(Builtin.append_ cI ty #[s',x']).run P w=.ok v' w'/\e.le e'/\RH G F W e' H' w'/\VR e' v v':=by
 unfold MJ at ha;split at ha
 rotate_left
 ·cases ha
 rename_i el gp hq hz;obtain⟨t0,h0,hu⟩:=aaV.1 hq;split at ha
 rotate_left
 ·cases ha
 rename_i es z ef Kt;cases hb:(Nat.ble (P.bytesOf el) 4096&&Nat.beq z.length es) with
 |false=>rw[hb] at ha;cases ha
 |true=>
 rw[hb] at ha;simp only[cond_true] at ha;rw[aaM,ae2] at hb;obtain⟨pF,sE⟩:=hb;have aJv:z.length=es:=aa9 sE;obtain⟨inf,z0,jX,gN,Cx⟩:=Cj (e:=e) Kt;have xP:z0.cells.size=es:=by have:=Cx.1;simp at this;omega
 split at ha
 rotate_left
 ·cases ha
 rename_i n new uC;obtain⟨nv,jw,sF,B5,B4⟩:=asx (P:=P) h hx ef uC;split at ha
 ·cases hs;cases nU:Nat.beq n 0 with
  |true=>
   rw[nU] at ha;cases ha;have:n=0:=aa9 nU;subst this;obtain⟨r1,_⟩:=HQ (P:=P) (w:=w) (ty:=ty) (s':=.slice none 0 0) h0 hu hz ef pF jX gN xP rfl zzz sF B5 B4;exact⟨_,w,e,r1 (aaO _) w zzy (λ_=>rfl),e.le_refl,h,.ah⟩
  |false=>
   rw[nU] at ha;simp only[cond_false] at ha;cases mE:Nat.ble n 16777216 with
   |false=>rw[mE] at ha;cases ha
   |true=>
   rw[mE] at ha;simp only[cond_true] at ha;rw[ae2] at mE;split at ha
   ·rename_i i H2 cF;cases ha;have yH:0<n:=by
     rcases Nat.eq_zero_or_pos n with q|q;·subst q;cases nU
     ·exact q
    obtain⟨_,r2⟩:=HQ (P:=P) (w:=w) (ty:=ty) (s':=.slice none 0 0) h0 hu hz ef pF jX gN xP rfl zzz sF B5 B4;obtain⟨c,hc,hr⟩:=r2 zzz [] (λw1 _=>by simp[Builtin.firstCells]);rw[ade] at hc hr;obtain⟨e',he,g1,g2,g3,g4,qX⟩:=(h.drawn (w.drawn+1)).newRow (rest:=(List.replicate (c-n) z0.cells.toList).flatten) (fz:=(0,0)) cF jw (λ_=>rfl) zzy;refine⟨_,_,e',hr,he,qX,?_⟩;have jQ:w.heap.size=e'.b i:=g2.symm;rw[jQ];refine .slice i 0 n n false es 0 c g1 (by rw[g3];simp) hc hc zzy ?_;rw[g4];have:((List.replicate (c-n) z0.cells.toList).flatten).length=(c-n)*es:=by simp[xP]
    rw[aal,sF,this,<-afs];have:n+(c-n)=c:=zzz;rw[this];omega
   ·cases ha
 ·rename_i i off len cap ex es';cases jQ:(Nat.ble (len+n) 16777216&&Nat.beq es es'&&new.all aZ) with
  |false=>rw[jQ] at ha;cases ha
  |true=>
  rw[jQ] at ha;simp only[cond_true] at ha;simp only[aaM,ae2] at jQ;obtain⟨⟨hle,hee⟩,Na⟩:=jQ;have aGU:es=es':=aa9 hee;subst aGU;cases jC:Nat.ble (len+n) cap with
  |true=>
   rw[jC] at ha;simp only[cond_true] at ha;rw[ae2] at jC;split at ha
   ·rename_i H2 aC;cases ha;rcases hs.nN with⟨o,c,hi,ho,hl,hc,ki,hn,rfl⟩|⟨rfl,rfl,a,rfl⟩;·obtain⟨r1,_⟩:=HQ (P:=P) (w:=w) (ty:=ty) (s':=.slice (some ⟨e.b i,o,none⟩) len c) h0 hu hz ef pF jX gN xP rfl zzz sF B5 B4;obtain⟨w',CC,hr⟩:=RH.RF (P:=P) (off:=off+len*es) (k:=0) (o:=o+len*es) h aC jw (by push_cast;omega);refine⟨_,w',e,r1 zzz w' (λa ha=>?_) zzy,e.le_refl,hr,.slice _ _ _ _ _ _ _ _ hi ho zzz hc ki hn⟩;cases ha;rw[add_lit];exact CC
    ·have nU:n=0:=zzz;subst nU;have:new=[]:=by have:=jw.1;rw[sF] at this;exact amp zzz
     subst this;cases aC;have aHP:nv=[]:=jw.mh;subst aHP;obtain⟨r1,_⟩:=HQ (P:=P) (w:=w) (ty:=ty) (s':=.slice (some a) 0 0) h0 hu hz ef pF jX gN xP rfl zzz sF B5 B4;exact⟨_,w,e,r1 (aaO _) w (λa ha=>by simp[storeCells]) zzy,e.le_refl,h,.EF ..⟩
   ·cases ha
  |false=>
   rw[jC] at ha;simp only[cond_false] at ha;have aEX:cap<len+n:=by
    rcases alV cap (len+n) with q|q;·exact q
    ·have q2:Nat.ble (len+n) cap=true:=by rw[ae2];exact q
     rw[q2] at jC;cases jC
   cases hex:ex with
   |true=>
    rw[hex] at ha;simp only[cond_true] at ha;split at ha
    ·rename_i jq hold;split at ha
     ·rename_i j H2 cF;cases ha;have key:∀(base:Addr) (c0:Nat) (ov:List Value),s'=.slice (some base) len c0->c0<len+n->aW e jq ov->ov.length=len*es->
        (∀w1:World,w1.heap=w.heap->(Builtin.firstCells es len (.slice (some base) len c0)).run P w1=.ok ov.toArray w1)->
        ∃v' w' e',(Builtin.append_ cI ty #[s',x']).run P w=.ok v' w'/\e.le e'/\RH G F W e' H' w'/\VR e' (.slice j 0 (len+n) (len+n) false es) v':=by
       intro base c0 ov sM aR xX mG mK;obtain⟨_,r2⟩:=HQ (P:=P) (w:=w) (ty:=ty) (s':=s') h0 hu hz ef pF jX gN xP sM zzz sF B5 B4;obtain⟨c,hc,hr⟩:=r2 aR ov (by rw[sM];exact mK);obtain⟨e',he,g1,g2,g3,g4,qX⟩:=(h.drawn (w.drawn+1)).newRow (rest:=(List.replicate (c-(len+n)) z0.cells.toList).flatten) (fz:=(0,0)) cF (xX.append jw) (λ_=>rfl) zzy;refine⟨_,_,e',hr,he,qX,?_⟩;have jQ:w.heap.size=e'.b j:=g2.symm;rw[jQ];refine .slice j 0 (len+n) (len+n) false es 0 c g1 (by rw[g3];simp) hc hc zzy ?_;rw[g4];have:((List.replicate (c-(len+n)) z0.cells.toList).flatten).length=(c-(len+n))*es:=by simp[xP]
       rw[aal,aal,sF,mG,this,<-afs,<-afs];have:len+n+(c-(len+n))=c:=zzz;rw[this];omega
      rcases hs.nN with⟨o,c,hi,ho,hl,hc,ki,hn,sM⟩|⟨rfl,rfl,a,sM⟩;·obtain⟨ov,h1,h2,h3⟩:=h.Ds hold ho;exact key _ c ov sM (by have:=ki hex;omega) h1 h2 (al0 w h2 h3)
      ·rw[ag0] at hold;cases hold;exact key a 0 [] sM aEX (.nil e) zzy (λw1 _=>by simp[Builtin.firstCells,loadCells,loadCellsFrom])
     ·cases ha
    ·cases ha
   |false=>
    rw[hex] at ha;simp only[cond_false] at ha;split at ha
    ·rename_i c lo hi xo fl hg;cases xQ:(Nat.ble fl 1&&Nat.ble lo off&&Nat.ble (off+len*es) hi&&Nat.beq el xo) with
     |false=>rw[xQ] at ha;cases ha
     |true=>
     rw[xQ] at ha;simp only[cond_true] at ha;simp only[aaM,ae2] at xQ;obtain⟨⟨⟨b1,b2⟩,b3⟩,b4⟩:=xQ;have ri:el=xo:=aa9 b4;subst ri;split at ha
     ·rename_i j H2 cZ;cases ha;have aIW:new.length=n*es:=by rw[<-jw.1];exact sF
      have aJM:off+(len+n)*es=off+len*es+n*es:=by rw[afs];omega
      have akU:∀k,(c.cl (off+len*es) new).get k=if off+len*es<=k/\k<off+len*es+new.length then new[k-(off+len*es)]? else c.get k:=λk=>Tr.zj _ c _ _
      have afJ:∀(base:Addr) (c0:Nat) (ov:List Value),s'=.slice (some base) len c0->c0<len+n->ov.length=len*es->
        (∀k v,off<=k->k<off+len*es->c.get k=some v->∃v',ov[k-off]?=some v'/\VR e v v')->
        (∀w1:World,w1.heap=w.heap->(Builtin.firstCells es len (.slice (some base) len c0)).run P w1=.ok ov.toArray w1)->
        ∃v' w' e',(Builtin.append_ cI ty #[s',x']).run P w=.ok v' w'/\e.le e'/\RH G F W e' H' w'/\VR e' (.slice j off (len+n) (len+n) false es) v':=by
       intro base c0 ov sM aR mG xX mK;obtain⟨_,r2⟩:=HQ (P:=P) (w:=w) (ty:=ty) (s':=s') h0 hu hz ef pF jX gN xP sM zzz sF B5 B4;obtain⟨cc,kO,hr⟩:=r2 aR ov (by rw[sM];exact mK);have hd:=(h.drawn (w.drawn+1)).del i;have hj:=(A6 cZ).1;have lL:j=e.N:=hj.trans h.N.symm;subst lL;have fT:((List.replicate (cc-(len+n)) z0.cells.toList).flatten).length=(cc-(len+n))*es:=by simp[xP]
       have fN:(ov++nv++(List.replicate (cc-(len+n)) z0.cells.toList).flatten).length=cc*es:=by rw[aal,aal,sF,mG,fT,<-afs,<-afs];congr 1;omega
       have fj:OR (e.ext w.heap.size (-(off:Int)) (cc*es)) e.N (.cells (c.cl (off+len*es) new) off (off+(len+n)*es) el 1) (.cells (ov++nv++(List.replicate (cc-(len+n)) z0.cells.toList).flatten).toArray el (0,0)):=by
        refine .cells _ _ _ _ _ _ _ (by rw[Em.AU];simpa using fN) ?_ zzy zzy (λq=>by rw[Em.pW];omega);intro k u xA iu hk;rw[akU] at hk;refine⟨k-off,by rw[Em.pW];omega,?_⟩;simp only[ae8];split at hk;·rename_i mV;obtain⟨u',kI,jt⟩:=jw.get hk;refine⟨u',?_,jt.mono (Em.sC ..)⟩;rw[abd (by rw[aal,mG,sF];omega),abk (by rw[mG];omega),mG];rw[<-kI];congr 1;omega
        ·rename_i mV;obtain⟨u',kI,jt⟩:=xX k u xA zzz hk;refine⟨u',?_,jt.mono (Em.sC ..)⟩;have:k-off<ov.length:=(aag.1 kI).1;rw[abd (by rw[aal];omega),abd this];exact kI
       obtain⟨_,qX⟩:=hd.alloc cZ fj;refine⟨_,_,_,hr,Em.sC ..,qX,?_⟩;exact VR.FF (e:=e.ext w.heap.size (-(off:Int)) (cc*es)) (Em.pU ..) (by simp[Em.ext]) (by rw[Em.pW];omega) kO kO zzy (by rw[Em.AU];omega)
      obtain⟨hN,ob,eW,fj,hF⟩:=h.obj i _ hg;cases fj with
      |cells _ _ _ _ _ C fz hCn kO X6 QP hd=>
      rcases hs.nN with⟨o,c0,py,ho,hl,hc,ki,hn,sM⟩|⟨rfl,rfl,a,sM⟩
      ·have hlen:len*es<=c0*es:=ad4 _ hl;by_cases mV:len+n<=c0
       ·have mf:(len+n)*es<=c0*es:=ad4 _ mV;have aJT:(len+n)*es=len*es+n*es:=afs ..;obtain⟨w',C',r1,r2,r3,r4,r5,r6,r7,r8,r9⟩:=aus (P:=P) (e.b i) (o+len*es) el fz nv 0 w C eW (by rw[sF];omega) (QP b1) (jw.one Na);obtain⟨q1,_⟩:=HQ (P:=P) (w:=w) (ty:=ty) (s':=s') h0 hu hz ef pF jX gN xP sM zzz sF B5 B4;have hj:=(A6 cZ).1;have lL:j=e.N:=hj.trans h.N.symm;subst lL;have ay2:OR (e.ext (e.b i) (e.d i) (e.n i)) e.N (.cells (c.cl (off+len*es) new) off (off+(len+n)*es) el 1) (.cells C' el fz):=by
         refine .cells _ _ _ _ _ _ _ (by rw[Em.AU,r3,hCn]) ?_ zzy (λ_ k hk=>QP b1 k zzz) (λq=>by rw[Em.pW];exact hd zzz);intro k u xA iu hk;rw[akU] at hk;split at hk;·rename_i at0;obtain⟨u',kI,jt⟩:=jw.get hk;refine⟨o+(k-off),by rw[Em.pW];omega,u',?_,jt.mono (Em.sC ..)⟩;rw[r4,zz2 (by rw[sF];omega),<-kI];congr 1;omega
         ·rename_i at0;obtain⟨k2,Dv,u',kI,jt⟩:=kO k u zzz zzz hk;refine⟨k2,by rw[Em.pW];exact Dv,u',?_,jt.mono (Em.sC ..)⟩;rw[r4,zz1 zzz];exact kI
        obtain⟨_,qX⟩:=h.move hg (by simp[wr,b1]) cZ r6 r2 r5 ay2 r7 r8 r9;refine⟨_,w',_,q1 mV w' (λa ha=>?_) zzy,Em.sC ..,qX,?_⟩;·cases ha;rw[add_lit];exact r1
        ·exact VR.FF (e:=e.ext (e.b i) (e.d i) (e.n i)) (Em.pU ..) (by simp[Em.ext]) (by rw[Em.pW];exact ho) mV mV zzy (by rw[Em.AU];exact hn)
       ·refine afJ _ c0 ((C.toList.drop o).take (len*es)) sM zzz ?_ ?_ ?_;·simp;omega
        ·intro k u xA iu hk;obtain⟨k2,Dv,u',kI,jt⟩:=kO k u zzz zzz hk;refine⟨u',?_,jt⟩;rw[ajz,zz2 zzz,agr,ad6,<-kI];congr 1;omega
        ·refine al0 w (by simp;omega) (λm u hm=>?_);rw[ajz] at hm;split at hm;·rw[agr,ad6] at hm;simp[World.cell?,eW,hm]
         ·cases hm
      ·refine afJ a 0 [] sM zzz zzy (λk u xA iu hk=>zzz) (λw1 _=>by simp[Builtin.firstCells,loadCells,loadCellsFrom])
     ·cases ha
    ·cases ha
 ·cases ha
end
end
end
section
variable {P:Program}{G:Nat}{F:Nat->Prop}{W:World}{e:Em}{H:Hp}{w:World}
section
variable {a k:AV}{a' b' k':Value}{d:TypeDesc}{es:List ME}{es' fs l:List MapEntry}{m:ME}
theorem VR.aiQ {b:AV}(ha:VR e a a')(hb:VR e b b')(h:M0 a b=true):a'=b'/\∀n,Instr.sameBits n a' b'=true:=by
 unfold M0 at h;split at h;·cases ha.y7;cases hb.y7;simp only[zz6] at h;subst h;exact⟨rfl,λn=>by simp[Instr.sameBits]⟩
 ·cases ha.ij;cases hb.ij;simp only[aaM,zz5] at h;obtain⟨rfl,rfl⟩:=h;exact⟨rfl,λn=>by simp[Instr.sameBits]⟩
 ·obtain⟨p,rfl,rfl⟩:=ha.og;obtain⟨q,rfl,rfl⟩:=hb.og;have:(p==q)=true:=by rw[amH];exact h
  have FE:p=q:=by
   have h0:(p==q)=(p.data==q.data):=by cases p;cases q;rfl
   rw[h0,zz6] at this;cases p;cases q;simpa using this
  subst FE;exact⟨rfl,λn=>by simp[Instr.sameBits,this]⟩
 ·cases h
theorem aW.plain:∀{x y:List AV} {x' y':List Value},aW e x x'->aW e y y'->IK x y=true->x'=y'/\∀n,(x'.zip y').all (λ(a,b)=>Instr.sameBits n a b)=true
 |[],[],x',y',hx,hy,h=>by rw[hx.mh,hy.mh];exact⟨rfl,λn=>rfl⟩
 |[],_::_,_,_,_,_,h=>by simp[IK] at h
 |_::_,[],_,_,_,_,h=>by simp[IK] at h
 |a::x,b::y,x',y',hx,hy,h=>by simp only[IK,aaM] at h;obtain⟨a',xs,rfl,ha,hx⟩:=hx.cons_inv;obtain⟨b',ys,rfl,hb,hy⟩:=hy.cons_inv;obtain⟨h1,h2⟩:=ha.aiQ hb h.1;obtain⟨h3,h4⟩:=aW.plain hx hy h.2;subst h1;subst h3;exact⟨rfl,λn=>by simp only[List.zip_cons_cons,alZ,h2 n,h4 n,Bool.and_self]⟩
theorem VR.plain {b:AV}(ha:VR e a a')(hb:VR e b b')(h:HJ a b=true):Instr.sameBits 10000 a' b'=true:=by
 unfold HJ at h;split at h
 ·obtain⟨x,rfl,hx⟩:=ha.Aw;obtain⟨y,rfl,hy⟩:=hb.Aw;obtain⟨h1,h2⟩:=hx.plain hy h;have:x.size=y.size:=by have:=congrArg List.length h1;simpa using this
  simp only[Instr.sameBits,this,beq_self_eq_true,acy];exact h2 9999
 ·exact (ha.aiQ hb h).2 _
theorem aci {α:Type}(g:α->Bool)(body:α->PUnit->Sem (ForInStep PUnit))(w:World)(hb:∀a,g a=true->(body a ⟨⟩).run P w=.ok (.yield ⟨⟩) w):
  ∀l:List α,l.all g=true->(forIn l (⟨⟩:PUnit) body).run P w=.ok ⟨⟩ w
 |[],_=>zzy|a::l,h=>by simp only[alZ,aaM] at h;rw[List.forIn_cons,Sem.run_bind,hb a h.1];exact aci g body w hb l h.2
theorem Vp (w:World)(emp:Bool):∀(d D:Nat),d<=D->∀(t:TypeId) (v:AV) (v':Value),VR e v v'->qQ P d t v=true->(Instr.checkKey emp D t v').run P w=.ok () w:=by
 intro d;induction d with
 |zero=>intro D _ t v v' _ h;cases h
 |succ d ih=>
  intro D hD t v v' hv h;obtain⟨D,rfl⟩:∃k,D=k+1:=⟨D-1,zzz⟩;unfold qQ at h;split at h;·rename_i hu;simp[Instr.checkKey,aL hu]
  ·rename_i hu;simp[Instr.checkKey,aL hu]
  ·rename_i hu;simp[Instr.checkKey,aL hu]
  ·rename_i fs cs hu;obtain⟨vs,rfl,hl⟩:=hv.Aw;have key:=aci (P:=P) (g:=λf:Field=>if f.name ≠ "_" then (match pE P f.type cs f.offset with|some v=>qQ P d f.type v|none=>false) else true)
    (body:=fun f Vs=>do
     if f.name ≠ "_" then
      Instr.checkKey emp D f.type (<-part f.type vs f.offset)
      Pure.pure (ForInStep.yield PUnit.unit)
     else Pure.pure (ForInStep.yield PUnit.unit)) w (by
     intro f hg;by_cases hn:f.name = "_";·simp[hn]
     ·simp only[ne_eq,hn,not_false_eq_true,if_true] at hg;split at hg;·rename_i u AE;obtain⟨u',kI,hr⟩:=Dz hl AE w;have:=ih D zzz f.type u u' hr hg;simp[hn,kI,this]
      ·cases hg) fs.toList h
   simp[Instr.checkKey,aL hu] at key⊢;simp[key]
  ·rename_i n el cs hu;split at h
   ·rename_i s hs;obtain⟨vs,rfl,hl⟩:=hv.Aw;have key:=aci (P:=P) (g:=λi:Nat=>match pE P el cs (i*s) with|some v=>qQ P d el v|none=>false)
     (body:=fun i Vs=>do
      let z <-sizeOf el
      let p <-part el vs (i*z)
      Functor.map (λa=>ForInStep.yield PUnit.unit) (Instr.checkKey emp D el p)) w (by
      intro i hg;split at hg;·rename_i u AE;obtain⟨u',kI,hr⟩:=Dz hl AE w;have:=ih D zzz el u u' hr hg;simp[ji hs,kI,this]
      ·cases hg) (List.range' 0 n) h
    simp[Instr.checkKey,aL hu];exact key
   ·cases h
  ·cases h
theorem jG.cons_inv (h:jG e (m::es) es'):∃m' r',es'=m'::r'/\VR e m.key m'.key/\VR e m.val m'.val/\jG e es r':=by
 cases es' with
 |nil=>simp[jG] at h|cons m' r'=>
  obtain⟨a,b⟩:=h.2 0 m m' rfl rfl;exact⟨m',r',rfl,a,b,by simpa using h.1,λi x y hx hy=>h.2 (i+1) x y (by simpa using hx) (by simpa using hy)⟩
theorem jG.mh (h:jG e [] es'):es'=[]:=by simpa using h.1
theorem ak5 (h:RH G F W e H w){t:TypeId}{k:AV}{k':Value}(hk:VR e k k'):∀(es:List ME) (fs:List MapEntry),jG e es fs->AK P H t k es=true->∀x∈fs,(Op.equal t k' x.key).run P w=.ok false w
 |[],fs,hm,_=>by rw[hm.mh];simp
 |m::es,fs,hm,hf=>by
  obtain⟨m',r',rfl,h1,h2,h4⟩:=hm.cons_inv;unfold AK at hf;split at hf
  ·rename_i heq;have:=Od h 20 Op.maxDepth zzx t k m.key k' m'.key false hk h1 heq;intro x hx;rcases aaD.1 hx with rfl|hx;·exact this
   ·exact ak5 h hk es r' h4 hf x hx
  ·cases hf
def FK (P:Program)(e:Em)(w:World)(t:TypeId)(k':Value)(fs:List MapEntry)(i0:Nat):Option (Nat×ME)->Prop
 |none=>∀x∈fs,(Op.equal t k' x.key).run P w=.ok false w|some (j,m)=>∃f1 m' f2,fs=f1++m'::f2/\j=i0+f1.length/\VR e m.key m'.key/\VR e m.val m'.val/\(Op.equal t k' m'.key).run P w=.ok true w/\∀x∈f1++f2,(Op.equal t k' x.key).run P w=.ok false w
theorem aeb (h:RH G F W e H w){t:TypeId}{k:AV}{k':Value}(hk:VR e k k'):∀(es:List ME) (fs:List MapEntry) (i:Nat) (r:Option (Nat×ME)),jG e es fs->pC P H t k es i=some r->FK P e w t k' fs i r
 |[],fs,i,r,hm,hf=>by rw[hm.mh];cases hf;exactλx hx=>by cases hx
 |m::es,fs,i,r,hm,hf=>by
  obtain⟨m',r',rfl,h1,h2,h4⟩:=hm.cons_inv;unfold pC at hf;split at hf
  ·rename_i heq;have:=Od h 20 Op.maxDepth zzx t k m.key k' m'.key true hk h1 heq;cases hn:AK P H t k es with
   |false=>rw[hn] at hf;cases hf
   |true=>
    rw[hn] at hf;cases hf;exact⟨[],m',r',rfl,rfl,h1,h2,this,λx hx=>ak5 h hk es r' h4 hn x (by simpa using hx)⟩
  ·rename_i heq;have:=Od h 20 Op.maxDepth zzx t k m.key k' m'.key false hk h1 heq;have ih:=aeb h hk es r' (i+1) r h4 hf;cases r with
   |none=>
    intro x hx;rcases aaD.1 hx with rfl|hx;·exact this
    ·exact ih x hx
   |some x=>
    obtain⟨j,mm⟩:=x;obtain⟨f1,n',f2,rfl,rfl,q1,q2,q3,q4⟩:=ih;refine⟨m'::f1,n',f2,rfl,by simp only[aaP];omega,q1,q2,q3,λx hx=>?_⟩;rcases aaD.1 hx with rfl|hx;·exact this
    ·exact q4 x hx
  ·cases hf
theorem anQ {t:TypeId}{k':Value}{w:World}:∀(l:List MapEntry) (i:Nat),(∀x∈l,(Op.equal t k' x.key).run P w=.ok false w)->(Instr.findAsking t k' l i).run P w=.ok none w
 |[],i,_=>by simp[Instr.findAsking]
 |m::l,i,h=>by have h1:=h m (.head _);have h2:=anQ l (i+1) λx hx=>h x (.tail _ hx);simp[Instr.findAsking,h1,h2]
theorem ail {t:TypeId}{k':Value}{w:World}{m:MapEntry}{b:List MapEntry}(hm:(Op.equal t k' m.key).run P w=.ok true w):∀(a:List MapEntry) (i:Nat),(∀x∈a,(Op.equal t k' x.key).run P w=.ok false w)->
  (Instr.findAsking t k' (a++m::b) i).run P w=.ok (some (i+a.length,m.val)) w
 |[],i,_=>by simp[Instr.findAsking,hm]
 |x::a,i,h=>by have h1:=h x (.head _);have h2:=ail (b:=b) hm a (i+1) λx hx=>h x (.tail _ hx);rw[List.cons_append,aaP,show i+(a.length+1)=i+1+a.length by omega];simp[Instr.findAsking,h1,h2]
theorem amu {d:TypeDesc}{t:TypeId}(hu:P.underlying t=some d){k':Value}(w:World):∀(es':List MapEntry) (i:Nat) (r r2:Option (Nat×Value)),Instr.findNow d k' es' i=some r->(Instr.findAsking t k' es' i).run P w=.ok r2 w->r=r2
 |[],i,r,r2,h1,h2=>by cases h1;simp[Instr.findAsking] at h2;exact h2
 |m::es',i,r,r2,h1,h2=>by
  obtain⟨amg,aJG,aJx⟩:=m;unfold Instr.findNow at h1;obtain⟨md,hmd⟩:∃md,Op.maxDepth=md+1:=⟨9999,rfl⟩;have Ny:∀b,Instr.sameNow d k' amg=some b->(Op.equal t k' amg).run P w=.ok b w:=by
   intro b hb;unfold Op.equal;rw[hmd];unfold Instr.sameNow at hb;split at hb
   ·rename_i h1 h2;split at hb;·rename_i PF;cases hb;simp[Op.equalIn,aL hu,PF]
    ·cases hb
   ·rename_i h1 h2;cases hb;simp[Op.equalIn,aL hu]
   ·rename_i h1 h2;cases hb;simp[Op.equalIn,aL hu]
   ·cases hb
  split at h1;·rename_i hs;cases h1;simp[Instr.findAsking,Ny true hs] at h2;exact h2
  ·rename_i hs;simp[Instr.findAsking,Ny false hs] at h2;exact amu hu w es' (i+1) r r2 h1 h2
  ·cases h1
theorem aej {t:TypeId}{r':Option (Nat×Value)}(hu:P.underlying t=some d)(dH:(Instr.findAsking t k' l 0).run P w=.ok r' w):(Instr.findKey t k' l).run P w=.ok r' w:=by
 unfold Instr.findKey;rw[Sem.run_bind,aL hu,Result.andThen_ok];split;·rename_i r2 rI;rw[amu hu w l 0 r2 r' rI dH];simp
 ·exact dH
def FP (P:Program)(e:Em)(w:World)(t:TypeId)(k':Value)(fs l:List MapEntry):Option (Nat×ME)->Prop
 |none=>(Instr.findKey t k' l).run P w=.ok none w|some (j,m)=>∃f1 m' f2 a b,fs=f1++m'::f2/\j=f1.length/\l=a++m'::b/\(f1++f2).Perm (a++b)/\VR e m.key m'.key/\VR e m.val m'.val/\(Instr.findKey t k' l).run P w=.ok (some (a.length,m'.val)) w
theorem Jf (h:RH G F W e H w){t:TypeId}(hk:VR e k k'){r:Option (Nat×ME)}(hm:jG e es fs)(hp:fs.Perm l)(hf:pC P H t k es 0=some r)(hu:P.underlying t=some d):FP P e w t k' fs l r:=by
 have hq:=aeb (P:=P) h hk es fs 0 r hm hf;cases r with
 |none=>exact aej hu (anQ l 0 λx hx=>hq x (hp.mem_iff.2 hx))|some x=>
  obtain⟨j,m⟩:=x;obtain⟨f1,m',f2,rfl,rfl,q1,q2,q3,q4⟩:=hq;obtain⟨a,b,rfl⟩:=List.append_of_mem (hp.mem_iff.1 (by simp:m'∈f1++m'::f2));have HX:(f1++f2).Perm (a++b):=((List.perm_middle.symm.trans hp).trans List.perm_middle).cons_inv;refine⟨f1,m',f2,a,b,rfl,zzz,rfl,HX,q1,q2,?_⟩;have:=ail (P:=P) (w:=w) (b:=b) q3 a 0 λx hx=>q4 x (HX.mem_iff.2 (aa1 _ hx));rw[ade] at this;exact aej hu this
end
end
end
section
variable {P:Program}{G:Nat}{F:Nat->Prop}{W:World}{e:Em}{H:Hp}{w:World}
section
variable {H':Hp}{a k x:AV}{a' b' k' x':Value}{cI:Array TypeId}{c i:Nat}{es:List ME}{es' fs:List MapEntry}{m:ME}{m':MapEntry}{ty:TypeId}
theorem EE (h:RH G F W e H w)(hg:H.h.get i=some (.map es c)):i<e.N/\∃(es':Array MapEntry) (c':Nat) (fs:List MapEntry),w.heap[e.b i]?=some (.map es' c')/\fs.Perm es'.toList/\jG e es fs/\(fs.map (·.born)).Nodup/\∀x∈fs,x.born<c':=by
 obtain⟨hN,ob,eW,fj,_⟩:=h.obj i _ hg;cases fj with
 |map _ _ es' c' fs hp hm hn hb=>exact⟨hN,es',c',fs,eW,hp,hm,hn,hb⟩
theorem aFp (h:RH G F W e H w)(hx:VR e x x')(hm:mapOf H x=some (es,c)):
  (x'=.map none/\es=[]/\c=0)\/∃i es' c' fs,x=.map i/\x'=.map (some (e.b i))/\H.h.get i=some (.map es c)/\w.heap[e.b i]?=some (.map es' c')/\fs.Perm es'.toList/\jG e es fs:=by
 unfold mapOf at hm;split at hm;·cases hx;cases hm;exact .inl ⟨rfl,rfl,rfl⟩
 ·rename_i i;split at hm;·rename_i es0 c0 hg;cases hm;obtain⟨hi,rfl⟩:=hx.OC;obtain⟨_,es',c',fs,h1,h2,h3,_⟩:=EE h hg;exact .inr ⟨i,es',c',fs,rfl,rfl,hg,h1,h2,h3⟩
  ·cases hm
 ·cases hm
theorem Gu {b:Nat}{es':Array MapEntry}(hb:w.heap[b]?=some (.map es' c)):(getObj b).run P w=.ok (.map es' c) w:=by simp[getObj,Sem.run,hb]
theorem Vh {kt:TypeId}(hc:qQ P 20 kt k=true):∃d,P.underlying kt=some d:=by
 cases hq:P.underlying kt with
 |none=>simp[qQ,hq] at hc|some d=>exact⟨d,rfl⟩
theorem VR.pair {b:AV}(ha:VR e a a')(hb:VR e b b'):VR e (.tuple [a,b]) (.tuple #[a',b']):=
 .tuple' (.cons ha (.cons hb (.nil e)))
theorem aEe (h:RH G F W e H w){t:TypeId}{v:AV}{ok:Bool}(hx:VR e x x')(hk:VR e k k')(hl:tG P t x k ok H=some v):
  ∃v',(Instr.lookup t x' k' ok).run P w=.ok v' w/\VR e v v':=by
 unfold tG at hl;split at hl
 ·rename_i kt el hu;cases hc:qQ P 20 kt k with
  |false=>rw[hc] at hl;cases hl
  |true=>
  rw[hc] at hl;simp only[cond_true] at hl;have BJ:∀emp,(Instr.checkKey emp 10000 kt k').run P w=.ok () w:=λemp=>Vp w emp 20 10000 zzx kt k k' hk hc;obtain⟨kd,cG⟩:=Vh hc;split at hl
  ·rename_i es c hm;have fin:∀(fs es':List MapEntry),fs.Perm es'->jG e es fs->∃r' v',(Instr.findKey kt k' es').run P w=.ok r' w/\
     (match r' with
      |some (_,v)=>Pure.pure (if ok=true then Value.tuple #[v,Value.bool true] else v)|none=>Functor.map (λa=>if ok=true then Value.tuple #[a,Value.bool false] else a) (zeroValue el):Sem Value).run P w=.ok v' w/\VR e v v':=by
    intro fs es' uP rW;split at hl
    ·rename_i j m hf;obtain⟨f1,m',f2,a,b,_,_,_,_,_,hv,dH⟩:=Jf (P:=P) h hk rW uP hf cG;cases hl;cases ok with
     |true=>exact⟨_,_,dH,zzy,hv.pair (.bool true)⟩|false=>exact⟨_,_,dH,zzy,hv⟩
    ·rename_i hf;have dH:(Instr.findKey kt k' es').run P w=.ok none w:=Jf (P:=P) h hk rW uP hf cG;simp only[aaq,aaV] at hl;obtain⟨z,⟨z0,⟨inf,jX,gN⟩,hz⟩,rfl⟩:=hl;have Cx:VR e z z0:=.lA hz;cases ok with
     |true=>exact⟨_,_,dH,by simp[vt jX gN],Cx.pair (.bool false)⟩|false=>exact⟨_,_,dH,by simp[vt jX gN],Cx⟩
    ·cases hl
   rcases aFp h hx hm with⟨rfl,rfl,_⟩|⟨i,es',c',fs,rfl,rfl,hg,hb,uP,rW⟩;·obtain⟨r',v',h1,h2,h3⟩:=fin [] [] (List.Perm.refl _) ⟨rfl,zzy⟩;refine⟨v',?_,h3⟩;simp[Instr.lookup,aL hu,BJ,h1];exact h2
   ·obtain⟨r',v',h1,h2,h3⟩:=fin fs es'.toList uP rW;refine⟨v',?_,h3⟩;simp[Instr.lookup,aL hu,Gu hb,BJ,h1];exact h2
  ·cases hl
 ·cases hl
theorem K7 {b:Nat}{o:Obj}{es':Array MapEntry}(hb:w.heap[b]?=some (.map es' c)):(Go.setObj b o).run P w=.ok () {w with heap:=w.heap.setIfInBounds b o}:=by simp[Go.setObj,Sem.run,hb]
theorem RH.RB (h:RH G F W e H w){es2:List ME}{c2:Nat}(hg:H.h.get i=some (.map es c)){es':Array MapEntry}{c':Nat}(hp:fs.Perm es'.toList)(hm:jG e es2 fs)(hn:(fs.map (·.born)).Nodup)(hb:∀x∈fs,x.born<c'):
  RH G F W e (Am.setObj H i (.map es2 c2)) {w with heap:=w.heap.setIfInBounds (e.b i) (.map es' c')}:=by
 obtain⟨_,es0,c0,_,jr,_⟩:=EE h hg;have aR:=(acA.1 jr).1;refine h.put hg rfl (tA:=.map es' c') zzy (by simp[aR]) (λk hk=>?_) (.map _ _ _ _ fs hp hm hn hb) rfl rfl rfl;simp only;rw[afv (λq=>hk q.symm)]
theorem jG.snoc (h:jG e es es')(h1:VR e m.key m'.key)(h2:VR e m.val m'.val):jG e (es++[m]) (es'++[m']):=by
 refine⟨by simp[h.1],λi x y hx hy=>?_⟩;by_cases hi:i<es.length;·rw[abd hi] at hx;rw[abd (by rw[h.1];exact hi)] at hy;exact h.2 i x y hx hy
 ·rw[abk zzz] at hx;rw[abk (by rw[h.1];omega),h.1] at hy;have:i-es.length=0:=by have:=(aag.1 hx).1;simp at this;omega
  rw[this] at hx hy;simp at hx hy;subst hx;subst hy;exact⟨h1,h2⟩
theorem jG.set (h:jG e es es')(j:Nat)(h1:VR e m.key m'.key)(h2:VR e m.val m'.val):jG e (es.set j m) (es'.set j m'):=by
 refine⟨by simp[h.1],λi x y hx hy=>?_⟩;rw[ahy] at hx hy;split at hx
 ·rename_i hj;rw[zz2 hj] at hy;split at hx
  ·split at hy;·cases hx;cases hy;exact⟨h1,h2⟩
   ·cases hy
  ·cases hx
 ·rename_i hj;rw[zz1 hj] at hy;exact h.2 i x y hx hy
theorem jG.erase (h:jG e es es')(j:Nat):jG e (es.eraseIdx j) (es'.eraseIdx j):=by
 refine⟨by simp[List.length_eraseIdx,h.1],λi x y hx hy=>?_⟩;rw[List.getElem?_eraseIdx] at hx hy;split at hx;·rename_i hj;rw[zz2 hj] at hy;exact h.2 i x y hx hy
 ·rename_i hj;rw[zz1 hj] at hy;exact h.2 _ x y hx hy
theorem aiW (h:RH G F W e H w){t:TypeId}{x k v:AV}{x' k' v':Value}{H':Hp}(hx:VR e x x')(hk:VR e k k')(hv:VR e v v')(hl:sd P t x k v H=some H'):
  ∃w',(Instr.mapUpdate t x' k' v').run P w=.ok () w'/\RH G F W e H' w':=by
 unfold sd at hl;split at hl
 ·rename_i kt el i hu;cases hc:qQ P 20 kt k with
  |false=>rw[hc] at hl;cases hl
  |true=>
  rw[hc] at hl;simp only[cond_true] at hl;have BJ:∀emp,(Instr.checkKey emp 10000 kt k').run P w=.ok () w:=λemp=>Vp w emp 20 10000 zzx kt k k' hk hc;obtain⟨kd,cG⟩:=Vh hc;obtain⟨hi,rfl⟩:=hx.OC;split at hl
  ·rename_i es c hg;obtain⟨_,es',c',fs,hb,uP,rW,gW,oG⟩:=EE h hg;split at hl
   ·rename_i j m hf;cases hs:HJ m.key k with
    |false=>rw[hs] at hl;cases hl
    |true=>
    rw[hs] at hl;cases hl;obtain⟨f1,m',f2,a,b,rfl,rfl,qK,HX,DI,hmv,dH⟩:=Jf (P:=P) h hk rW uP hf cG;have oa:es'.toList[a.length]?=some m':=by rw[qK,abk (aaO _),ajQ];rfl
    have MF:Instr.sameBits 10000 m'.key k'=true:=DI.plain hk hs;have Dc:es'[a.length]?=some m':=by rw[<-ad6];exact oa
    have aG6:es'.modify a.length (λe=>{e with key:=k',val:=v'})=(es'.toList.set a.length {m' with key:=k',val:=v'}).toArray:=by
     apply Array.ext_getElem?;intro q;have e1:∀l:List MapEntry,l.toArray[q]?=l[q]?:=λl=>zzy;refine abg ?_ (e1 _).symm;rw[Array.getElem?_modify,ahy,ad6];by_cases hq:a.length=q;·subst hq;have aR:=(acA.1 Dc).1;rw[zz2 rfl,zz2 rfl,zz2 (by simpa using aR),Dc];rfl
     ·rw[zz1 hq,zz1 hq]
    have fY:∀(p q:List MapEntry) (x y:MapEntry),(p++x::q).set p.length y=p++y::q:=λp q x y=>by rw[amh _ _ (aaO _),ajQ];rfl
    have uw:((f1++m'::f2).set f1.length {m' with key:=k',val:=v'}).Perm (es'.toList.set a.length {m' with key:=k',val:=v'}):=by rw[qK,fY,fY];exact (List.perm_middle.trans (HX.cons _)).trans List.perm_middle.symm
    have hbm:((f1++m'::f2).set f1.length {m' with key:=k',val:=v'}).map (·.born)=(f1++m'::f2).map (·.born):=by rw[fY];simp
    refine⟨{w with heap:=w.heap.setIfInBounds (e.b i) (.map (es'.toList.set a.length {m' with key:=k',val:=v'}).toArray c')},?_,
     h.RB hg (fs:=(f1++m'::f2).set f1.length {m' with key:=k',val:=v'}) (by simpa using uw) (rW.set (m:={m with key:=k,val:=v}) (m':={m' with key:=k',val:=v'}) f1.length hk hv) (by rw[hbm];exact gW) (λx hx=>?_)⟩
    ·simp[Instr.mapUpdate,aL hu,Gu hb,BJ,dH,Dc,Instr.keyThatStays,MF,K7 hb,aG6]
    ·rw[fY] at hx;rcases aa2.1 hx with hx|hx;·exact oG x (aa1 _ hx)
     ·rcases aaD.1 hx with rfl|hx;·exact oG m' zzy
      ·exact oG x (by simp[hx])
   ·rename_i hf;cases hl;have dH:(Instr.findKey kt k' es'.toList).run P w=.ok none w:=Jf (P:=P) h hk rW uP hf cG;refine⟨{w with heap:=w.heap.setIfInBounds (e.b i) (.map (es'.push ⟨k',v',c'⟩) (c'+1))},?_,h.RB hg (fs:=fs++[⟨k',v',c'⟩]) (by rw[Array.toList_push];exact uP.append_right _) (rW.snoc (m:=⟨k,v,c⟩) (m':=⟨k',v',c'⟩) hk hv) ?_ ?_⟩;·simp[Instr.mapUpdate,aL hu,Gu hb,BJ,dH,K7 hb]
    ·rw[acY,aeg];refine⟨gW,zzy,λx hx y hy=>?_⟩;obtain⟨z,hz,rfl⟩:=abT.1 hx;have:=oG z hz;simp at hy;omega
    ·intro x hx;rcases aa2.1 hx with hx|hx;·have:=oG x hx;omega
     ·rw[No] at hx;subst hx;exact ahA _
   ·cases hl
  ·cases hl
 ·cases hl
theorem aGt (h:RH G F W e H w)(hx:VR e x x')(hk:VR e k k')(hl:KD P cI x k H=some H'):
  ∃w',(Builtin.delete_ cI ty #[x',k']).run P w=.ok (.tuple #[]) w'/\RH G F W e H' w':=by
 unfold KD at hl;split at hl
 ·rename_i kt el hq;obtain⟨t0,h0,hu⟩:=aaV.1 hq;cases hc:qQ P 20 kt k with
  |false=>rw[hc] at hl;cases hl
  |true=>
  rw[hc] at hl;simp only[cond_true] at hl;have BJ:∀emp,(Instr.checkKey emp 10000 kt k').run P w=.ok () w:=λemp=>Vp w emp 20 10000 zzx kt k k' hk hc;obtain⟨kd,cG⟩:=Vh hc;split at hl;·cases hl;cases hx;exact⟨w,by simp[Builtin.delete_,h0,aL hu,BJ],h⟩
  ·rename_i i;obtain⟨hi,rfl⟩:=hx.OC;split at hl
   ·rename_i es c hg;obtain⟨_,es',c',fs,hb,uP,rW,gW,oG⟩:=EE h hg;split at hl
    ·rename_i j m hf;cases hl;obtain⟨f1,m',f2,a,b,rfl,rfl,qK,HX,DI,hmv,dH⟩:=Jf (P:=P) h hk rW uP hf cG;have fN:a.length<es'.size:=by have:=congrArg List.length qK;rw[alU,aal,aaP] at this;omega
     have her:(es'.eraseIdxIfInBounds a.length).toList=es'.toList.eraseIdx a.length:=by simp[Array.eraseIdxIfInBounds,fN]
     have IG:∀(p q:List MapEntry) (x:MapEntry),(p++x::q).eraseIdx p.length=p++q:=λp q x=>by rw[List.eraseIdx_append_of_length_le (aaO _),ajQ];rfl
     refine⟨{w with heap:=w.heap.setIfInBounds (e.b i) (.map (es'.eraseIdxIfInBounds a.length) c')},?_,h.RB hg (fs:=(f1++m'::f2).eraseIdx f1.length) (by rw[her,qK,IG,IG];exact HX) (rW.erase f1.length) ?_ (λx hx=>oG x ?_)⟩;·simp[Builtin.delete_,h0,aL hu,Gu hb,BJ,dH,K7 hb]
     ·rw[IG];rw[acY,aby] at gW;rw[acY];exact (akD.1 ((List.perm_middle.nodup_iff).1 gW)).2
     ·rw[IG] at hx;rcases aa2.1 hx with hx|hx;·exact aa1 _ hx
      ·exact aaT _ (.tail _ hx)
    ·rename_i hf;cases hl;have dH:(Instr.findKey kt k' es'.toList).run P w=.ok none w:=Jf (P:=P) h hk rW uP hf cG;have aAC:w.heap.setIfInBounds (e.b i) (.map es' c')=w.heap:=by
      apply Array.ext_getElem?;intro q;by_cases hq:e.b i=q;·subst hq;have aR:=(acA.1 hb).1;rw[ai0 aR,hb]
      ·rw[afv hq]
     refine⟨w,?_,h⟩;simp[Builtin.delete_,h0,aL hu,Gu hb,BJ,dH,K7 hb,aAC]
    ·cases hl
   ·cases hl
  ·cases hl
 ·cases hl
theorem apL (h:RH G F W e H w)(hx:VR e x x')(hl:YI P cI x H=some H'):
  ∃w',(Builtin.clear_ cI ty #[x']).run P w=.ok (.tuple #[]) w'/\RH G F W e H' w':=by
 unfold YI at hl;split at hl;·rename_i d hq;obtain⟨t0,h0,hu⟩:=aaV.1 hq;cases hl;cases hx;exact⟨w,by simp[Builtin.clear_,h0,aL hu],h⟩
 ·rename_i d hq;obtain⟨t0,h0,hu⟩:=aaV.1 hq;cases hl;cases hx;exact⟨w,by simp[Builtin.clear_,h0,aL hu],h⟩
 ·rename_i d i hq;obtain⟨t0,h0,hu⟩:=aaV.1 hq;obtain⟨hi,rfl⟩:=hx.OC;split at hl;·rename_i es c hg;cases hl;obtain⟨_,es',c',fs,hb,uP,rW,gW,oG⟩:=EE h hg;refine⟨{w with heap:=w.heap.setIfInBounds (e.b i) (.map #[] c')},?_,h.RB hg (fs:=[]) (List.Perm.refl _) ⟨rfl,zzy⟩ zzy zzy⟩;simp[Builtin.clear_,h0,aL hu,Gu hb,K7 hb]
  ·cases hl
 ·rename_i el i off n a1 a2 a3 hq;obtain⟨t0,h0,hu⟩:=aaV.1 hq;split at hl
  ·rename_i z hz;obtain⟨inf,z0,jX,gN,Cx⟩:=Cj (e:=e) hz;rcases hx.nN with⟨o,c,hi,ho,mu,hc,ki,hn,rfl⟩|⟨rfl,_,a,rfl⟩
   ·cases n with
    |zero=>
     have:rep 0 z=[]:=rfl;rw[this] at hl;cases hl;exact⟨w,by simp[Builtin.clear_,h0,aL hu],h⟩
    |succ n=>
     have fT:=Cx.rep (n+1);obtain⟨w',CC,hr⟩:=RH.RF (P:=P) (off:=off) (k:=0) h hl fT ho;have hzz:(Builtin.zeroCells z0.cells (n+1)).toList=(List.replicate (n+1) z0.cells.toList).flatten:=adO rfl _;refine⟨w',?_,hr⟩;simp only[Builtin.clear_,h0,ae8,ada,Sem.run_bind,aL hu,Result.andThen_ok,vt jX gN];rw[hzz,CC];simp
   ·have:rep 0 z=[]:=rfl;rw[this] at hl;cases hl;exact⟨w,by simp[Builtin.clear_,h0,aL hu],h⟩
  ·cases hl
 ·cases hl
theorem aE9 (h:RH G F W e H w){v:AV}(hx:VR e x x')(hl:DJ P cI x H=some v):
  ∃v',(Builtin.len_ cI ty #[x']).run P w=.ok v' w/\VR e v v':=by
 unfold DJ at hl;split at hl;·rename_i s hq;obtain⟨t0,h0,hu⟩:=aaV.1 hq;obtain⟨b,rfl,rfl⟩:=hx.og;cases hl;rw[Be];exact⟨_,by simp[Builtin.len_,h0,aL hu];rfl,.int _ _⟩
 ·rename_i n el hq;obtain⟨t0,h0,hu⟩:=aaV.1 hq;cases hl;exact⟨_,by simp[Builtin.len_,h0,aL hu];rfl,.int _ _⟩
 ·rename_i el hq;obtain⟨t0,h0,hu⟩:=aaV.1 hq;cases hl;cases hx;exact⟨_,by simp[Builtin.len_,h0,aL hu];rfl,.int _ _⟩
 ·rename_i el a1 a2 n a3 a4 a5 hq;obtain⟨t0,h0,hu⟩:=aaV.1 hq;cases hl;rcases hx.nN with⟨o,c,hi,ho,mu,hc,ki,hn,rfl⟩|⟨rfl,_,a,rfl⟩;·exact⟨_,by simp[Builtin.len_,h0,aL hu];rfl,.int _ _⟩
  ·exact⟨_,by simp[Builtin.len_,h0,aL hu];rfl,.int _ _⟩
 ·rename_i kt el hq;obtain⟨t0,h0,hu⟩:=aaV.1 hq;cases hl;cases hx;exact⟨_,by simp[Builtin.len_,h0,aL hu];rfl,.int _ _⟩
 ·rename_i kt el i hq;obtain⟨t0,h0,hu⟩:=aaV.1 hq;obtain⟨hi,rfl⟩:=hx.OC;split at hl
  ·rename_i es c hg;cases hl;obtain⟨_,es',c',fs,hb,uP,rW,_⟩:=EE h hg;have:es.length=es'.size:=by have h1:=rW.1;have h2:=uP.length_eq;have h3:es'.toList.length=es'.size:=alU;omega
   rw[this];exact⟨_,by simp[Builtin.len_,h0,aL hu,Gu hb];rfl,.int _ _⟩
  ·cases hl
 ·rename_i a hq;obtain⟨t0,h0,hu⟩:=aaV.1 hq;split at hl;·rename_i n el hua;cases hl;exact⟨_,by simp[Builtin.len_,h0,aL hu,aL hua];rfl,.int _ _⟩
  ·cases hl
 ·cases hl
theorem aHq {v:AV}(hx:VR e x x')(hl:P4 P cI x=some v)(w:World):
  ∃v',(Builtin.cap_ cI ty #[x']).run P w=.ok v' w/\VR e v v':=by
 unfold P4 at hl;split at hl;·rename_i el hq;obtain⟨t0,h0,hu⟩:=aaV.1 hq;cases hl;cases hx;exact⟨_,by simp[Builtin.cap_,h0,aL hu];rfl,.int _ _⟩
 ·rename_i el a1 a2 n c a5 hq;obtain⟨t0,h0,hu⟩:=aaV.1 hq;cases hl;rcases hx.nN with⟨o,c',hi,ho,mu,hc,ki,hn,rfl⟩|⟨rfl,rfl,a,rfl⟩;·have:=ki rfl;subst this;exact⟨_,by simp[Builtin.cap_,h0,aL hu];rfl,.int _ _⟩
  ·exact⟨_,by simp[Builtin.cap_,h0,aL hu];rfl,.int _ _⟩
 ·cases hl
theorem adN:∀{l:List AV} {ls:List Value} {x v:AV} {x':Value},VR e x x'->aW e l ls->GP false x l=some v->∃v',(ls.foldlM Builtin.min2 x').run P w=.ok v' w/\VR e v v'
 |[],ls,x,v,x',hx,hl,h=>by rw[hl.mh];cases h;exact⟨x',zzy,hx⟩
 |y::l,ls,x,v,x',hx,hl,h=>by
  obtain⟨y',ws,rfl,hy,qZ⟩:=hl.cons_inv;unfold GP at h;split at h
  ·rename_i z hz;unfold Xa at hz;split at hz;·cases hx.ij;cases hy.ij;cases hz;obtain⟨v',h1,h2⟩:=adN (.int _ _) qZ h;refine⟨v',?_,h2⟩;simp only[List.foldlM_cons,Sem.run_bind,Builtin.min2,Sem.run_pure,Result.andThen_ok];exact h1
   ·cases hz
  ·cases h
theorem aea:∀{l:List AV} {ls:List Value} {x v:AV} {x':Value},VR e x x'->aW e l ls->GP true x l=some v->∃v',(ls.foldlM Builtin.max2 x').run P w=.ok v' w/\VR e v v'
 |[],ls,x,v,x',hx,hl,h=>by rw[hl.mh];cases h;exact⟨x',zzy,hx⟩
 |y::l,ls,x,v,x',hx,hl,h=>by
  obtain⟨y',ws,rfl,hy,qZ⟩:=hl.cons_inv;unfold GP at h;split at h
  ·rename_i z hz;unfold Xa at hz;split at hz;·cases hx.ij;cases hy.ij;cases hz;obtain⟨v',h1,h2⟩:=aea (.int _ _) qZ h;refine⟨v',?_,h2⟩;simp only[List.foldlM_cons,Sem.run_bind,Builtin.max2,Sem.run_pure,Result.andThen_ok];exact h1
   ·cases hz
  ·cases h
end
end
end
section
variable {P:Program}{G:Nat}{F:Nat->Prop}{W:World}{e:Em}{H:Hp}{w:World}
theorem avp (h:RH G F W e H w){cI:Array TypeId}{ty:TypeId}{d x v:AV}{d' x':Value}{H':Hp}(hd:VR e d d')(hx:VR e x x')(hl:LU P cI d x H=some (v,H')):
  ∃v' w',(Builtin.copy_ cI ty #[d',x']).run P w=.ok v' w'/\RH G F W e H' w'/\VR e v v':=by
 unfold LU at hl;split at hl
 ·rename_i el hq;obtain⟨t0,h0,hu⟩:=aaV.1 hq;split at hl
  ·rename_i es xl hs dA;have hlen:(Builtin.lenOf x').run P w=.ok xl w/\∀m,(Nat.min xl m=0->(Builtin.firstCells es (Nat.min xl m) x').run P w=.ok #[] w):=by
    unfold Ur at dA;split at dA;·cases dA;cases hx;exact⟨by simp[Builtin.lenOf],λm hm=>by simp[Builtin.firstCells]⟩
    ·cases dA;rcases hx.nN with⟨o,c,hi,ho,mu,hc,ki,hn,rfl⟩|⟨rfl,_,a,rfl⟩;·exact⟨by simp[Builtin.lenOf],λm hm=>by simp only[Builtin.firstCells,hm,ag0];rfl⟩
     ·exact⟨by simp[Builtin.lenOf],λm hm=>by simp only[Builtin.firstCells,hm,ag0];rfl⟩
    ·cases dA;obtain⟨b,rfl,rfl⟩:=hx.og;refine⟨by simp[Builtin.lenOf,Be],λm hm=>?_⟩;simp only[Builtin.firstCells,hm,Sem.run_pure];congr 1;apply adT.1;simp
    ·cases dA
   obtain⟨hlen,Q2⟩:=hlen;split at hl;·cases hl;cases hd;refine⟨_,w,?_,h,.int _ _⟩;have h1:=Q2 0 (Nat.min_zero _);simp only[Builtin.copy_,h0,ae8,ada,acJ,Sem.run_bind,aL hu,Result.andThen_ok,hlen,ji hs,h1];simp[goInt]
   ·rename_i i off dl a1 a2 a3;cases hz:Nat.beq (Nat.min xl dl) 0 with
    |true=>
     rw[hz] at hl;cases hl;have hm:Nat.min xl dl=0:=aa9 hz;have h1:=Q2 dl hm;rcases hd.nN with⟨o,c,hi,ho,mu,hc,ki,hn,rfl⟩|⟨rfl,_,a,rfl⟩;·refine⟨_,w,?_,h,.int _ _⟩;simp only[Builtin.copy_,h0,ae8,ada,acJ,Sem.run_bind,aL hu,Result.andThen_ok,hlen,ji hs,h1];simp[goInt,storeCells,hm]
     ·refine⟨_,w,?_,h,.int _ _⟩;simp only[Builtin.copy_,h0,ae8,ada,acJ,Sem.run_bind,aL hu,Result.andThen_ok,hlen,ji hs,h1];simp[goInt,storeCells,hm]
    |false=>
     rw[hz] at hl;simp only[cond_false] at hl;split at hl
     ·rename_i cs gQ;simp only[aaq,abW] at hl;obtain⟨H2,aC,rfl,rfl⟩:=hl;have hcv:∃vs:List Value,aW e cs vs/\(Builtin.firstCells es (Nat.min xl dl) x').run P w=.ok vs.toArray w:=by
       unfold aaQ at gQ;split at gQ
       ·rename_i j aJI jl b1 b2 b3;rcases hx.nN with⟨o,c,hi,ho,mu,hc,ki,hn,rfl⟩|⟨rfl,_,a,rfl⟩;·obtain⟨vs,q1,q2,q3⟩:=h.Ds gQ ho;refine⟨vs,q1,?_⟩;have:=run_loadCells_list (P:=P) w ⟨e.b j,o,none⟩ vs (λk u hk=>by rw[add_lit];exact q3 k u hk);rw[q2] at this;simp[Builtin.firstCells,this]
        ·cases dA;have:Nat.min 0 dl=0:=Nat.zero_min _;rw[this] at hz;cases hz
       ·obtain⟨b,rfl,rfl⟩:=hx.og;cases gQ;cases dA;refine⟨((b.extract 0 (Nat.min (bytes b).length dl)).data.toList).map λu=>Value.int .u8 u.toNat,?_,?_⟩;·have jr:=aW.aen b 0 (Nat.min (bytes b).length dl);rw[aaY,agA] at jr;rw[jr];refine⟨by simp[bytes],λk u v' hu bQ=>?_⟩;simp only[bytes,anY,ab9,aaq] at hu bQ;obtain⟨p,hp,rfl⟩:=hu;obtain⟨p',hp',rfl⟩:=bQ;rw[hp] at hp';cases hp';exact .int _ _
        ·simp only[Builtin.firstCells,Sem.run_pure];congr 1;apply adT.1;simp
       ·cases gQ
      obtain⟨vs,hvl,hfc⟩:=hcv;rcases hd.nN with⟨o,c,hi,ho,mu,hc,ki,hn,rfl⟩|⟨rfl,_,a,rfl⟩;·obtain⟨w',CC,hr⟩:=RH.RF (P:=P) (off:=off) (k:=0) h aC hvl ho;refine⟨_,w',?_,hr,.int _ _⟩;simp only[Builtin.copy_,h0,ae8,ada,acJ,Sem.run_bind,aL hu,Result.andThen_ok,hlen,ji hs,hfc,CC];simp[goInt]
      ·have:Nat.min xl 0=0:=Nat.min_zero _;rw[this] at hz;cases hz
     ·cases hl
   ·cases hl
  ·cases hl
 ·cases hl
theorem aB3 {el:TypeId}(hc:P.cellsOf el=1)(count o n:Nat)(hn:o+n<=count):liesAt P P.depth el count o el n=true:=by have hd:P.depth=(2*(P.types.size+Made.depth)+1)+1:=rfl;rw[hd];simp only[liesAt,aiK];left;rw[hd];simp[rowAt,hc,hn,sameLayout,Nat.mod_one]
theorem azL {b:Nat}(w:World):∀(us:List UInt8) (o:Nat) (acc:ByteArray),(∀j v,(us.map (λu=>Value.int .u8 u.toNat))[j]?=some v->w.cell? ⟨b,o+j,none⟩=some v)->
  (loadBytes ⟨b,o,none⟩ acc us.length).run P w=.ok ⟨acc.data++us.toArray⟩ w
 |us,o,acc,h=>by have:=Go.Lib.run_loadBytes (P:=P) w us ⟨b,o,none⟩ acc (λj x hj=>by rw[add_lit];exact h j _ (by simp[hj]));exact this
theorem aER {b o n:Nat}{C:Array Value}{el:TypeId}{fz:Nat×Nat}(eW:w.heap[b]?=some (.cells C el fz))(hn:¬n=0):
  ∃fz2,(w.freeze ⟨b,o,none⟩ n).heap[b]?=some (.cells C el fz2)/\(∀k,k≠b->(w.freeze ⟨b,o,none⟩ n).heap[k]?=w.heap[k]?)/\(w.freeze ⟨b,o,none⟩ n).heap.size=w.heap.size:=by
 simp only[World.freeze,zz1 hn];refine⟨_,J6 _ _ _ eW,λk hk=>Jd _ _ _ _ (λq=>hk q.symm),zzy⟩
theorem aAJ (h:RH G F W e H w){cI:Array TypeId}{ty:TypeId}{p v:AV}{n:Int}{k:IntKind}{p':Value}{H':Hp}(hp:VR e p p')(hl:RX P cI p k n H=some (v,H')):
  ∃v' w',(Builtin.unsafeString_ cI ty #[p',.int k n]).run P w=.ok v' w'/\RH G F W e H' w'/\VR e v v':=by
 have KE:IntKind.i64.max=9223372036854775807:=rfl;unfold RX at hl;split at hl
 rotate_left
 ·cases hl
 rename_i t0 t1 nH;obtain rfl:cI=#[t0,t1]:=adT.1 nH;have JL:∀q:Option Addr,n=0->(Builtin.unsafeString_ #[t0,t1] ty #[.pointer q,.int .i64 n]).run P w=.ok (.string .empty) w:=by intro q hn;subst hn;exact Go.Lib.run_unsafeString_none (P:=P) w t0 t1 ty q
 split at hl
 ·rename_i el hu;cases hp;split at hl;·rename_i hn;cases hl;exact⟨.string .empty,w,JL _ hn,h,.str .empty⟩
  ·cases hl
 ·rename_i el i off hu;obtain⟨o,hi,ho,rfl⟩:=hp.vP;split at hl;·rename_i hn;cases hl;exact⟨.string .empty,w,JL _ hn,h,.str .empty⟩
  ·rename_i nU;split at hl
   ·rename_i c lo ka xo fl hg;split at hl
    ·rename_i hc;obtain⟨rfl,ye,mE,iN,pj⟩:=hc;simp only[aaq,aaV,abW] at hl;obtain⟨bs,⟨cs,gQ,wA⟩,rfl,rfl⟩:=hl;obtain⟨vs,q1,q2,q3⟩:=h.Ds gQ ho;obtain⟨us,rfl,rfl⟩:=ab6 wA q1;rw[abv] at q2;obtain⟨_,ob,eW,fj,hF⟩:=h.obj i _ hg;cases fj with
     |cells _ _ _ _ _ C fz hn kO X6 h1 hd=>
     have J9:o+n.toNat<=C.size:=by obtain⟨m,hm⟩:∃m,us.length=m+1:=⟨us.length-1,zzz⟩;have hq:=q3 m (Value.int .u8 (us[m]' zzz).toNat) (by simp[hm]);simp only[World.cell?,eW] at hq;have xO:=(acA.1 hq).1;omega
     have ur:w.shape? (e.b i)=some (el,C.size):=by simp[World.shape?,eW]
     have hva:liesAt P P.depth el (C.size / P.cellsOf el) o el n.toNat=true:=by rw[ye,Nat.div_one];exact aB3 ye _ _ _ J9
     have hlb:=azL (P:=P) (b:=e.b i) w us o .empty q3;rw[q2] at hlb;have Ri:¬(n>IntKind.i64.max):=by rw[KE];omega
     have ahI:¬n<0:=zzz;have Cb:Builtin.unsafeString_ #[t0,t1] ty #[.pointer (some ⟨e.b i,o,none⟩),.int .i64 n]=
      (do
       let n <-asInt (.int .i64 n)
       if n<0 then runtimePanic (.error "unsafe.String: len out of range")
       if n>IntKind.i64.max then unsupported (.unsafePointer "String: a length above the largest int")
       if n=0 then Pure.pure (.string .empty)
       else if <-variablesAt ⟨e.b i,o,none⟩ (<-elemOf t0) n.toNat then do
        let s <-loadBytes ⟨e.b i,o,none⟩ .empty n.toNat
        Go.freeze ⟨e.b i,o,none⟩ n.toNat
        Pure.pure (.string s)
       else unsupported (.unsafePointer "String: not so many bytes at ptr")):=rfl
     have GA:¬(9223372036854775807<n):=zzz;have mf:¬n.toNat=0:=zzz;obtain⟨fz2,g1,g2,g3⟩:=aER (w:=w) (o:=o) eW mf;refine⟨.string ⟨us.toArray⟩,w.freeze ⟨e.b i,o,none⟩ n.toNat,?_,?_,.str ⟨us.toArray⟩⟩;·rw[Cb];simp[asInt,asIntOf,KE,ahI,GA,nU,elemOf,aL hu,variablesAt,ur,hva,hlb]
     ·refine h.put hg (by simp[wr,pj]) g3 g1 g2 (.cells _ _ _ _ _ _ _ hn kO zzy zzy hd) ?_ ?_ ?_;·simp[World.freeze,mf]
      ·simp[World.freeze,mf]
      ·simp[World.freeze,mf]
    ·cases hl
   ·cases hl
 ·cases hl
end
end Go.Proofs.YtodfajmihkagnaaGreatDoor.Am
