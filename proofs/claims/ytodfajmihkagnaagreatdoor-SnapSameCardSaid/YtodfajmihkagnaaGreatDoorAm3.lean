/- Laws that the proof uses. -/
import Derived.Test.YtodfajmihkagnaaGreatDoorAm2
set_option linter.unusedVariables false
set_option linter.unusedSimpArgs false
set_option maxHeartbeats 1000000
namespace Go.Proofs.YtodfajmihkagnaaGreatDoor.Am
section
section
section
section
variable {P:Program}{G:Nat}{F:Nat->Prop}{W:World}{e:Em}{H:Hp}{w:World}
theorem aeI (n:Nat):∀(r c:Nat),c<=2*n+192->Builtin.growBy n r c<=2*n+192
 |0,c,h=>h|r+1,c,h=>by
  unfold Builtin.growBy;split;·exact h
  ·exact aeI n r _ zzz
section
variable {H':Hp}{cL:Array TypeId}{c cap el i o p8 jJ:Nat}{nv:List Value}{ty:TypeId}{x:AV}{x':Value}
theorem nextslicecap_le {QQ:Nat}(h:cap<QQ):Builtin.nextslicecap QQ cap<=2*QQ+192:=by
 unfold Builtin.nextslicecap;split;·omega
 ·split;·omega
  ·exact aeI QQ 4 cap zzz
theorem atG (b o el:Nat)(fz:Nat×Nat):∀(vs:List Value) (k:Nat) (w:World) (C:Array Value),w.heap[b]?=some (.cells C el fz)->o+k+vs.length<=C.size->
  (∀m,m<C.size->(decide (fz.1<=m)&&decide (m<fz.2))=false)->(∀v∈vs,v.oneCell'=true)->
  ∃w' C',(storeCells ⟨b,o,none⟩ vs k).run P w=.ok () w'/\w'.heap[b]?=some (.cells C' el fz)/\C'.size=C.size/\
   (∀m,C'[m]?=if o+k<=m/\m<o+k+vs.length then vs[m-(o+k)]? else C[m]?)/\(∀j,j≠b->w'.heap[j]?=w.heap[j]?)/\w'.heap.size=w.heap.size/\w'.os=w.os/\w'.tape=w.tape/\w'.output=w.output:=by
 intro vs;induction vs with
 |nil=>
  intro k w C hb hs hf h1;exact⟨w,C,by simp[storeCells],hb,rfl,λm=>by rw[zz1 (by rw[acj];omega)],λ_ _=>rfl,rfl,rfl,rfl,rfl⟩
 |cons v vs ih=>
  intro k w C hb hs hf h1;simp only[aau] at hs;have aN:o+k<C.size:=zzz;have hc:w.cell? ⟨b,o+k,none⟩=some C[o+k]:=by simp[World.cell?,hb,aN]
  have Pg:w.frozen? ⟨b,o+k,none⟩=false:=by simp only[World.frozen?,hb];exact hf _ aN
  have X2:(w.setCell ⟨b,o+k,none⟩ v).heap[b]?=some (.cells (C.setIfInBounds (o+k) v) el fz):=by simp only[World.setCell];rw[J0 _ _ _ hb];rfl
  obtain⟨w',C',r1,r2,r3,r4,r5,r6,r7,r8,r9⟩:=ih (k+1) _ _ X2 (by simp;omega) (by simpa using hf) (λu hu=>h1 u (List.mem_cons_of_mem _ hu));refine⟨w',C',?_,r2,by simpa using r3,λm=>?_,λj hj=>?_,?_,r7,r8,r9⟩;·simp only[storeCells,Sem.run_bind,add_lit,run_store P w _ _ _ (h1 v (List.mem_cons_self ..)),hc,Pg,aa4,if_false,Result.andThen_ok];exact r1
  ·rw[r4 m];simp only[aau];by_cases hm:m=o+k;·subst hm;rw[zz1 zzz,zz2 zzz,agL zzz];simp
   ·by_cases hr:o+(k+1)<=m/\m<o+(k+1)+vs.length;·rw[zz2 hr,zz2 zzz];have:m-(o+k)=(m-(o+(k+1)))+1:=zzz;rw[this,adb]
    ·rw[zz1 hr,zz1 zzz,aeT zzz]
  ·rw[r5 j hj];simp only[World.setCell];rw[I7 _ _ _ _ (λq=>hj q.symm)]
  ·rw[r6];simp[World.setCell]
theorem RH.del (h:RH G F W e H w)(i:Nat):RH G F W e {H with h:=H.h.del i} w:=by
 have fP:∀j o,(H.h.del i).get j=some o->H.h.get j=some o/\j≠i:=by
  intro j o hj;rw[Tr.NI] at hj;split at hj;·cases hj
  ·exact⟨hj,by assumption⟩
 exact⟨h.N,λj o hj=>h.obj j o (fP j o hj).1,λj k oj ok hj hk hq=>h.inj j k oj ok (fP j oj hj).1 (fP k ok hk).1 hq,h.tI,h.frame,h.os,h.tape,h.output,h.size,h.nK⟩
theorem RH.move (h:RH G F W e H w){o o':AO}(hg:H.h.get i=some o)(hw:wr o=true){j:Nat}(ha:Am.alloc {H with h:=H.h.del i} o'=some (j,H'))
  {su:Obj} {w':World} (fK:w'.heap.size=w.heap.size) (hb:w'.heap[e.b i]?=some su) (aE:∀k,k≠e.b i->w'.heap[k]?=w.heap[k]?)
  (eN:OR (e.ext (e.b i) (e.d i) (e.n i)) j o' su) (os:w'.os=w.os) (tape:w'.tape=w.tape) (output:w'.output=w.output):
  j=e.N/\RH G F W (e.ext (e.b i) (e.d i) (e.n i)) H' w':=by
 obtain⟨rfl,ayN,rfl⟩:=AS ha;obtain⟨hN,ob,eW,_,hF⟩:=h.obj i o hg;have Gf:=h.N;have hle:=Em.sE e (e.b i) (e.d i) (e.n i);have fP:∀k x,((H.h.del i).put 34 H.next o').get k=some x->(k=H.next/\x=o')\/(k≠H.next/\k≠i/\H.h.get k=some x):=by
  intro k x hk;rw[Tr.put,Tr.gE] at hk;split at hk;·cases hk;exact .inl ⟨by assumption,rfl⟩
  ·rw[Tr.NI] at hk;split at hk;·cases hk
   ·exact .inr ⟨by assumption,by assumption,hk⟩
 have gI:∀k x,H.h.get k=some x->(e.ext (e.b i) (e.d i) (e.n i)).b k=e.b k:=λk x hk=>(hle.2 k (h.obj k x hk).1).1;refine⟨Gf.symm,?_,?_,?_,?_,?_,os.trans h.os,tape.trans h.tape,output.trans h.output,by rw[fK];exact h.size,by obtain⟨g1,g2,g3⟩:=h.nK;rw[fK,(hle.2 G g2).2.2];simp[Em.ext];omega⟩;·simp[Em.ext,Gf]
 ·intro k x hk;rcases fP k x hk with⟨rfl,rfl⟩|⟨k1,k2,k3⟩
  ·refine⟨by simp[Em.ext,Gf],su,?_,eN,?_⟩;·rw[<-Gf,Em.pP];exact hb
   ·intro _;rw[<-Gf,Em.pP];exact hF (.inl hw)
  ·obtain⟨a,sW,b2,c2,d2⟩:=h.obj k x k3;refine⟨by simp[Em.ext];omega,sW,?_,c2.mono hle a,?_⟩;·rw[gI k x k3,aE _ (λq=>k2 (h.inj i k o x hg k3 (.inl hw) q.symm).symm)];exact b2
   ·intro Ou;rw[gI k x k3,(hle.2 G h.nK.2.1).2.2] at Ou;rw[gI k x k3];exact d2 Ou
 ·intro k m x y hk hm hq he;rcases fP k x hk with⟨rfl,rfl⟩|⟨k1,k2,k3⟩<;>rcases fP m y hm with⟨rfl,rfl⟩|⟨m1,m2,m3⟩;·rfl
  ·rw[<-Gf,Em.pP,gI m y m3] at he;exact absurd (h.inj i m o y hg m3 (.inl hw) he).symm m2
  ·rw[<-Gf,Em.pP,gI k x k3] at he;exact absurd (h.inj i k o x hg k3 (.inl hw) he.symm).symm k2
  ·rw[gI k x k3,(hle.2 G h.nK.2.1).2.2] at hq;rw[gI k x k3,gI m y m3] at he;exact h.inj k m x y k3 m3 hq he
 ·intro g mS;obtain⟨a,b,c⟩:=h.tI g mS;obtain⟨x,y,_⟩:=hle.2 g a;exact⟨by simp[Em.ext];omega,x.trans b,y.trans c⟩
 ·intro k hk;obtain⟨a,b⟩:=h.frame k hk;refine⟨by rw[fK];exact a,?_⟩;rw[aE k (λq=>hF (.inl hw) (q▸hk))];exact b
theorem acV {z:Array Value}{es:Nat}(hz:z.size=es)(n:Nat):(Builtin.zeroCells z n).toList=(List.replicate n z.toList).flatten:=by unfold Builtin.zeroCells;exact aoA z n
theorem arN (h:RH G F W e H w){gm:Bool}{es n:Nat}{new:List AV}(hx:VR e x x')(hs:sz P el=some es)(hn:M8 P gm el es x H=some (n,new)):
  ∃nv:List Value,aR e new nv/\nv.length=n*es/\
   (gm=true->∃k:Int,x'=.int .i64 k/\0<=k/\k<16777216/\k.toNat=n/\∃i z0,P.info? el=some i/\i.zero=some z0/\z0.cells.size=es/\nv=(List.replicate n z0.cells.toList).flatten)/\
   (gm=false->∀w1:World,w1.heap=w.heap->(Builtin.lenOf x').run P w1=.ok n w1/\(Builtin.firstCells es n x').run P w1=.ok nv.toArray w1):=by
 unfold M8 at hn;split at hn
 ·rename_i k;cases hx.il;split at hn
  ·rename_i hk;split at hn
   ·rename_i z hz;split at hn
    ·rename_i sG;cases hn;obtain⟨i,z0,hi,gN,hl⟩:=Cf (e:=e) hz;have fK:z0.cells.size=es:=by have:=hl.1;simp at this;omega
     refine⟨_,hl.rep _,?_,λ_=>⟨k,rfl,hk.1,hk.2,rfl,i,z0,hi,gN,fK,rfl⟩,zzy⟩;simp[fK]
    ·cases hn
   ·cases hn
  ·cases hn
 ·cases hn;cases hx;exact⟨[],.nil e,zzy,zzy,λ_ w1 Co=>⟨by simp[Builtin.lenOf],by simp[Builtin.firstCells]⟩⟩
 ·rename_i i off len a1 a2 a3;simp only[aag,abX] at hn;obtain⟨l,hl,rfl,rfl⟩:=hn;rcases hx.nL with⟨o,k,po,ho,mr,CG,kC,jo,rfl⟩|⟨rfl,_,a,rfl⟩;·obtain⟨cs,h1,h2,h3⟩:=h.Ds hl ho;refine⟨cs,h1,h2,zzy,λ_ w1 Co=>⟨by simp[Builtin.lenOf],?_⟩⟩;have:=run_loadCells_list (P:=P) w1 ⟨e.b i,o,none⟩ cs (λj v hj=>by rw[add_lit];have q:=h3 j v hj;unfold World.cell? at q⊢;rw[Co];exact q);rw[h2] at this;simp[Builtin.firstCells,this]
  ·rw[ahD] at hl;cases hl;refine⟨[],.nil e,zzy,zzy,λ_ w1 Co=>⟨by simp[Builtin.lenOf],?_⟩⟩;simp[Builtin.firstCells,loadCells,loadCellsFrom]
 ·rename_i s;obtain⟨b,rfl,rfl⟩:=hx.oc;split at hn
  ·rename_i vh;subst vh;simp only[acM,abX] at hn;obtain⟨rfl,rfl⟩:=hn;refine⟨b.data.toList.map λu=>Value.int .u8 u.toNat,?_,?_,zzy,λ_ w1 Co=>⟨by simp[Builtin.lenOf,AZ],?_⟩⟩;·refine⟨by simp[bytes],λi v v' hv bT=>?_⟩;simp only[bytes,amb,acd,aag] at hv bT;obtain⟨u,hu,rfl⟩:=hv;obtain⟨u',kI,rfl⟩:=bT;rw[hu] at kI;cases kI;exact .int _ _
   ·simp[bytes]
   ·simp only[Builtin.firstCells,AZ];have:b.extract 0 b.size=b:=ByteArray.extract_zero_size;rw[this];simp only[Sem.run_pure];congr 1;apply aee.1;simp
  ·cases hn
 ·cases hn
theorem aaS {gm:Bool}(h:Ks P cL=some gm):
  (cL[1]?=none/\gm=false)\/∃t d,cL[1]?=some t/\P.underlying t=some d/\Builtin.append_.match_1 (λ_=>Bool) d (λ_=>true) (λ_=>false)=gm:=by
 unfold Ks at h;split at h;·rename_i t ht;simp only[aag] at h;obtain⟨d,hd,rfl⟩:=h;refine .inr ⟨t,d,ht,hd,?_⟩;cases d<;>rfl
 ·rename_i ht;cases h;exact .inl ⟨ht,rfl⟩
theorem HD {gm:Bool}{t0 es n:Nat}{s':Value}{base:Option Addr}{i:TypeInfo}{z0:Value}
  (h0:cL[0]?=some t0) (hu:P.underlying t0=some (.slice el)) (hz:Ks P cL=some gm) (hs:sz P el=some es) (pB:P.bytesOf el<=4096)
  (hi:P.info? el=some i) (gN:i.zero=some z0) (xV:z0.cells.size=es)
  (sO:s'=.slice base jJ p8) (aE:jJ+n<=16777216) (sH:nv.length=n*es)
  (BY:gm=true->∃k:Int,x'=.int .i64 k/\0<=k/\k<16777216/\k.toNat=n/\∃i z0,P.info? el=some i/\i.zero=some z0/\z0.cells.size=es/\nv=(List.replicate n z0.cells.toList).flatten)
  (BX:gm=false->∀w1:World,w1.heap=w.heap->(Builtin.lenOf x').run P w1=.ok n w1/\(Builtin.firstCells es n x').run P w1=.ok nv.toArray w1):
  (jJ+n<=p8->∀ w',(∀ a,base=some a->(storeCells (a.add (jJ*es)) nv).run P w = .ok () w')->(base=none->w'=w)->
   (Builtin.append_ cL ty #[s',x']).run P w=.ok (.slice base (jJ+n) p8) w')/\
  (p8<jJ+n->∀ ov:List Value,(∀ w1:World,w1.heap=w.heap->(Builtin.firstCells es jJ s').run P w1 = .ok ov.toArray w1)->
   ∃c,jJ+n<=c/\(Builtin.append_ cL ty #[s',x']).run P w=
    .ok (.slice (some ⟨w.heap.size,0,none⟩) (jJ+n) c) {w with drawn:=w.drawn+1,heap:=w.heap.push (.cells (ov++nv++(List.replicate (c-(jJ+n)) z0.cells.toList).flatten).toArray el (0,0))}):=by
 have fK:=λw=>jq (P:=P) hs w;have V5:i.bytes<=4096:=by unfold Program.bytesOf at pB;rw[hi] at pB;simpa using pB
 subst sO;have KA:¬(((jJ+n:Nat):Int)>IntKind.i64.max):=by rw[IntKind.max_i64];omega
 have PM:∀c,(Builtin.zeroCells z0.cells c)=(List.replicate c z0.cells.toList).flatten.toArray:=λc=>aee.1 (by rw[acV xV]);have ald:p8<jJ+n->¬(Builtin.nextslicecap (jJ+n) p8*i.bytes>2^48):=by intro aN;have h1:=nextslicecap_le aN;have:Builtin.nextslicecap (jJ+n) p8*i.bytes<=(2*16777216+192)*4096:=Nat.mul_le_mul zzz V5;omega
 have LS:(Question.appendCap (jJ+n) p8 el).forced=false:=rfl;have EA:jJ+n<=(Question.appendCap (jJ+n) p8 el).cut (w.tape w.drawn (.appendCap (jJ+n) p8 el)):=Nat.le_add_right _ _;cases gm with
 |false=>
  have hf:=BX rfl;constructor
  ·intro hle w' aC JB;obtain⟨f1,f2⟩:=hf w rfl;have fin:(do
     let new <-Builtin.firstCells es n x'
     match base with
     |some a=>do storeCells (a.add (jJ*es)) new.toList;Pure.pure (Value.slice base (jJ+n) p8)
     |x=>Pure.pure (Value.slice base (jJ+n) p8):Sem Value).run P w=.ok (.slice base (jJ+n) p8) w':=by
    cases base with
    |none=>simp[f2,JB rfl]|some a=>simp[f2,aC a rfl]
   rcases aaS (P:=P) hz with⟨h1,_⟩|⟨t,d,h1,hd,hm⟩;·simp[Builtin.append_,h0,h1,aL hu,fK,f1,hle] at fin⊢;exact fin
   ·simp only[Builtin.append_,h0,h1,aeK,adp,adb,Sem.run_bind,aL hu,aL hd,Result.andThen_ok,fK,Sem.run_pure];rw[hm];simp[f1,hle] at fin⊢;exact fin
  ·intro aN ov yb;refine⟨_,EA,?_⟩;have hb:=ald aN;have SU:¬(jJ+n<=p8):=zzz;obtain⟨f1,_⟩:=hf w rfl;obtain⟨_,f2⟩:=hf {w with drawn:=w.drawn+1} rfl;have o1:=yb {w with drawn:=w.drawn+1} rfl;rcases aaS (P:=P) hz with⟨h1,_⟩|⟨t,d,h1,hd,hm⟩;·simp only[Builtin.append_,h0,h1,aeK,adp,adb,Sem.run_bind,aL hu,Result.andThen_ok,fK,Sem.run_pure,aa4,if_false,f1,zz1 SU,sM hi];rw[zz1 (λq=>KA q.1),Sem.run_bind,sM hi,Result.andThen_ok,zz1 hb];simp only[Sem.run_bind,run_choose,LS,aa4,if_false,al6,if_true,Result.andThen_ok,sM hi,run_askRoom,o1,f2,vH hi gN,PM,newRow,run_newObj,Sem.run_pure];simp
   ·simp only[Builtin.append_,h0,h1,aeK,adp,adb,Sem.run_bind,aL hu,aL hd,Result.andThen_ok,fK,Sem.run_pure];rw[hm];simp only[aa4,if_false,Sem.run_bind,f1,Result.andThen_ok,zz1 SU,sM hi];rw[zz1 (λq=>KA q.1),Sem.run_bind,sM hi,Result.andThen_ok,zz1 hb];simp only[Sem.run_bind,run_choose,LS,aa4,if_false,al6,if_true,Result.andThen_ok,sM hi,run_askRoom,o1,f2,vH hi gN,PM,newRow,run_newObj,Sem.run_pure];simp
 |true=>
  obtain⟨k,rfl,k1,k2,k3,i2,z2,po,AQ,aIT,aBH⟩:=BY rfl;rw[hi] at po;cases po;rw[gN] at AQ;cases AQ;have hw:IntKind.i64.wrap k=k:=IntWalk.i64_in _ zzz;have ja:¬k*(i.bytes:Int)>2^48:=by have:k*(i.bytes:Int)<=16777216*4096:=Int.mul_le_mul zzz zzz zzz zzz;omega
  have Fq:¬k<0:=zzz;rcases aaS (P:=P) hz with⟨h1,hf⟩|⟨t,d,h1,hd,hm⟩;·cases hf
  have JL:∀w1:World,((if n*es=0 then Pure.pure #[] else do Pure.pure (Builtin.zeroCells (<-zeroValue el).cells n)):Sem (Array Value)).run P w1=.ok nv.toArray w1:=by
   intro w1;by_cases nQ:n*es=0;·rw[zz2 nQ];have:nv=[]:=alI zzz;subst this;rfl
   ·rw[zz1 nQ];simp only[Sem.run_bind,vH hi gN,Result.andThen_ok,Sem.run_pure,PM,aBH]
  constructor
  ·intro hle w' aC JB;have fin:(do
     let new <- (if n*es=0 then Pure.pure #[] else do Pure.pure (Builtin.zeroCells (<-zeroValue el).cells n))
     match base with
     |some a=>do storeCells (a.add (jJ*es)) new.toList;Pure.pure (Value.slice base (jJ+n) p8)
     |x=>Pure.pure (Value.slice base (jJ+n) p8):Sem Value).run P w=.ok (.slice base (jJ+n) p8) w':=by
    rw[Sem.run_bind,JL w];cases base with
    |none=>simp[JB rfl]|some a=>simp[aC a rfl]
   simp only[Builtin.append_,h0,h1,aeK,adp,adb,Sem.run_bind,aL hu,aL hd,Result.andThen_ok,fK,Sem.run_pure];rw[hm];simp only[if_true,Sem.run_bind,asInt,asIntOf,Sem.run_pure,Result.andThen_ok,hw,zz1 Fq,sM hi,zz1 ja,k3,zz2 hle,alv,aa4,if_false] at fin⊢;exact fin
  ·intro aN ov yb;refine⟨_,EA,?_⟩;have hb:=ald aN;have SU:¬(jJ+n<=p8):=zzz;have o1:=yb {w with drawn:=w.drawn+1} rfl;have f2:=JL {w with drawn:=w.drawn+1};simp only[Builtin.append_,h0,h1,aeK,adp,adb,Sem.run_bind,aL hu,aL hd,Result.andThen_ok,fK,Sem.run_pure];rw[hm];simp only[if_true,Sem.run_bind,asInt,asIntOf,Sem.run_pure,Result.andThen_ok,hw,zz1 Fq,sM hi,zz1 ja,k3,zz1 SU,alv,aa4,if_false];rw[zz1 (λq=>KA q.1),Sem.run_bind,sM hi,Result.andThen_ok,zz1 hb];simp only[Sem.run_bind,run_choose,LS,aa4,if_false,Result.andThen_ok,sM hi,run_askRoom,o1,f2,vH hi gN,PM,newRow,run_newObj,Sem.run_pure];simp
theorem VR.Fw {e:Em}{b off len es:Nat}{ex:Bool}(hb:e.b i=b)(hi:i<e.N)(ho:(o:Int)=off+e.d i)(hl:len<=c)(hc:cap<=c)(hx:ex=true->c=cap)(hn:o+c*es<=e.n i):
  VR e (.slice i off len cap ex es) (.slice (some ⟨b,o,none⟩) len c):=by
 subst hb;exact .slice i off len cap ex es o c hi ho hl hc hx hn
theorem aR.one {new:List AV}(h:aR e new nv)(ho:new.all aW=true):∀v∈nv,v.oneCell'=true:=by
 intro v hv;obtain⟨i,hi⟩:=ab2 hv;have aN:i<new.length:=by rw[<-h.1];exact (aac.1 hi).1
 have h1:=h.2 i new[i] v (aai aN) hi;exact h1.adx (adP.1 ho _ (List.getElem_mem aN))
theorem alc {b es:Nat}{cs:List Value}(w:World)(hl:cs.length=jJ*es)(h:∀j v,cs[j]?=some v->w.cell? ⟨b,o+j,none⟩=some v):
  ∀w1:World,w1.heap=w.heap->(Builtin.firstCells es jJ (.slice (some ⟨b,o,none⟩) jJ p8)).run P w1=.ok cs.toArray w1:=by
 intro w1 Co;have:=run_loadCells_list (P:=P) w1 ⟨b,o,none⟩ cs (λj v hj=>by rw[add_lit];have q:=h j v hj;unfold World.cell? at q⊢;rw[Co];exact q);rw[hl] at this;simp[Builtin.firstCells,this]
theorem aHI (h:RH G F W e H w){cL:Array TypeId}{ty:TypeId}{s x v:AV}{s' x':Value}{H':Hp}(hs:VR e s s')(hx:VR e x x')(ha:My P cL s x H=some (v,H')):
  ∃v' w' e',(Builtin.append_ cL ty #[s',x']).run P w=.ok v' w'/\e.le e'/\RH G F W e' H' w'/\VR e' v v':=by
 unfold My at ha;split at ha
 rotate_left
 ·cases ha
 rename_i el gm hq hz;obtain⟨t0,h0,hu⟩:=aaC.1 hq;split at ha
 rotate_left
 ·cases ha
 rename_i es z dY Ko;cases hb:(Nat.ble (P.bytesOf el) 4096&&Nat.beq z.length es) with
 |false=>rw[hb] at ha;cases ha
 |true=>
 rw[hb] at ha;simp only[cond_true] at ha;rw[aam,aeF] at hb;obtain⟨pB,sG⟩:=hb;have aIE:z.length=es:=aaY sG;obtain⟨inf,z0,kA,gN,Cu⟩:=Cf (e:=e) Ko;have xV:z0.cells.size=es:=by have:=Cu.1;simp at this;omega
 split at ha
 rotate_left
 ·cases ha
 rename_i n new uP;obtain⟨nv,jC,sH,BY,BX⟩:=arN (P:=P) h hx dY uP;split at ha
 ·cases hs;cases nQ:Nat.beq n 0 with
  |true=>
   rw[nQ] at ha;cases ha;have:n=0:=aaY nQ;subst this;obtain⟨r1,_⟩:=HD (P:=P) (w:=w) (ty:=ty) (s':=.slice none 0 0) h0 hu hz dY pB kA gN xV rfl zzz sH BY BX;exact⟨_,w,e,r1 (aaq _) w zzy (λ_=>rfl),e.le_refl,h,.ah⟩
  |false=>
   rw[nQ] at ha;simp only[cond_false] at ha;cases lI:Nat.ble n 16777216 with
   |false=>rw[lI] at ha;cases ha
   |true=>
   rw[lI] at ha;simp only[cond_true] at ha;rw[aeF] at lI;split at ha
   ·rename_i i H2 cB;cases ha;have yJ:0<n:=by
     rcases Nat.eq_zero_or_pos n with q|q;·subst q;cases nQ
     ·exact q
    obtain⟨_,r2⟩:=HD (P:=P) (w:=w) (ty:=ty) (s':=.slice none 0 0) h0 hu hz dY pB kA gN xV rfl zzz sH BY BX;obtain⟨c,hc,hr⟩:=r2 zzz [] (λw1 _=>by simp[Builtin.firstCells]);rw[adn] at hc hr;obtain⟨e',he,g1,g2,g3,g4,qX⟩:=(h.drawn (w.drawn+1)).newRow (rest:=(List.replicate (c-n) z0.cells.toList).flatten) (fz:=(0,0)) cB jC (λ_=>rfl) zzy;refine⟨_,_,e',hr,he,qX,?_⟩;have jd:w.heap.size=e'.b i:=g2.symm;rw[jd];refine .slice i 0 n n false es 0 c g1 (by rw[g3];simp) hc hc zzy ?_;rw[g4];have:((List.replicate (c-n) z0.cells.toList).flatten).length=(c-n)*es:=by simp[xV]
    rw[aah,sH,this,<-afB];have:n+(c-n)=c:=zzz;rw[this];omega
   ·cases ha
 ·rename_i i off len cap ex es';cases jd:(Nat.ble (len+n) 16777216&&Nat.beq es es'&&new.all aW) with
  |false=>rw[jd] at ha;cases ha
  |true=>
  rw[jd] at ha;simp only[cond_true] at ha;simp only[aam,aeF] at jd;obtain⟨⟨hle,hee⟩,M3⟩:=jd;have aGm:es=es':=aaY hee;subst aGm;cases jG:Nat.ble (len+n) cap with
  |true=>
   rw[jG] at ha;simp only[cond_true] at ha;rw[aeF] at jG;split at ha
   ·rename_i H2 aC;cases ha;rcases hs.nL with⟨o,c,hi,ho,hl,hc,kC,hn,rfl⟩|⟨rfl,rfl,a,rfl⟩;·obtain⟨r1,_⟩:=HD (P:=P) (w:=w) (ty:=ty) (s':=.slice (some ⟨e.b i,o,none⟩) len c) h0 hu hz dY pB kA gN xV rfl zzz sH BY BX;obtain⟨w',rK,hr⟩:=RH.Rc (P:=P) (off:=off+len*es) (k:=0) (o:=o+len*es) h aC jC (by push_cast;omega);refine⟨_,w',e,r1 zzz w' (λa ha=>?_) zzy,e.le_refl,hr,.slice _ _ _ _ _ _ _ _ hi ho zzz hc kC hn⟩;cases ha;rw[add_lit];exact rK
    ·have nQ:n=0:=zzz;subst nQ;have:new=[]:=by have:=jC.1;rw[sH] at this;exact alI zzz
     subst this;cases aC;have aHc:nv=[]:=jC.mc;subst aHc;obtain⟨r1,_⟩:=HD (P:=P) (w:=w) (ty:=ty) (s':=.slice (some a) 0 0) h0 hu hz dY pB kA gN xV rfl zzz sH BY BX;exact⟨_,w,e,r1 (aaq _) w (λa ha=>by simp[storeCells]) zzy,e.le_refl,h,.EG ..⟩
   ·cases ha
  |false=>
   rw[jG] at ha;simp only[cond_false] at ha;have aEb:cap<len+n:=by
    rcases alD cap (len+n) with q|q;·exact q
    ·have q2:Nat.ble (len+n) cap=true:=by rw[aeF];exact q
     rw[q2] at jG;cases jG
   cases hex:ex with
   |true=>
    rw[hex] at ha;simp only[cond_true] at ha;split at ha
    ·rename_i gI hold;split at ha
     ·rename_i j H2 cB;cases ha;have key:∀(base:Addr) (c0:Nat) (ov:List Value),s'=.slice (some base) len c0->c0<len+n->aR e gI ov->ov.length=len*es->
        (∀w1:World,w1.heap=w.heap->(Builtin.firstCells es len (.slice (some base) len c0)).run P w1=.ok ov.toArray w1)->
        ∃v' w' e',(Builtin.append_ cL ty #[s',x']).run P w=.ok v' w'/\e.le e'/\RH G F W e' H' w'/\VR e' (.slice j 0 (len+n) (len+n) false es) v':=by
       intro base c0 ov sO aN yb kX kF;obtain⟨_,r2⟩:=HD (P:=P) (w:=w) (ty:=ty) (s':=s') h0 hu hz dY pB kA gN xV sO zzz sH BY BX;obtain⟨c,hc,hr⟩:=r2 aN ov (by rw[sO];exact kF);obtain⟨e',he,g1,g2,g3,g4,qX⟩:=(h.drawn (w.drawn+1)).newRow (rest:=(List.replicate (c-(len+n)) z0.cells.toList).flatten) (fz:=(0,0)) cB (yb.append jC) (λ_=>rfl) zzy;refine⟨_,_,e',hr,he,qX,?_⟩;have jd:w.heap.size=e'.b j:=g2.symm;rw[jd];refine .slice j 0 (len+n) (len+n) false es 0 c g1 (by rw[g3];simp) hc hc zzy ?_;rw[g4];have:((List.replicate (c-(len+n)) z0.cells.toList).flatten).length=(c-(len+n))*es:=by simp[xV]
       rw[aah,aah,sH,kX,this,<-afB,<-afB];have:len+n+(c-(len+n))=c:=zzz;rw[this];omega
      rcases hs.nL with⟨o,c,hi,ho,hl,hc,kC,hn,sO⟩|⟨rfl,rfl,a,sO⟩;·obtain⟨ov,h1,h2,h3⟩:=h.Ds hold ho;exact key _ c ov sO (by have:=kC hex;omega) h1 h2 (alc w h2 h3)
      ·rw[ahD] at hold;cases hold;exact key a 0 [] sO aEb (.nil e) zzy (λw1 _=>by simp[Builtin.firstCells,loadCells,loadCellsFrom])
     ·cases ha
    ·cases ha
   |false=>
    rw[hex] at ha;simp only[cond_false] at ha;split at ha
    ·rename_i c lo hi xu fl hg;cases vc:(Nat.ble fl 1&&Nat.ble lo off&&Nat.ble (off+len*es) hi&&Nat.beq el xu) with
     |false=>rw[vc] at ha;cases ha
     |true=>
     rw[vc] at ha;simp only[cond_true] at ha;simp only[aam,aeF] at vc;obtain⟨⟨⟨b1,b2⟩,b3⟩,b4⟩:=vc;have rm:el=xu:=aaY b4;subst rm;split at ha
     ·rename_i j H2 dd;cases ha;have aIe:new.length=n*es:=by rw[<-jC.1];exact sH
      have aIU:off+(len+n)*es=off+len*es+n*es:=by rw[afB];omega
      have aj5:∀k,(c.cz (off+len*es) new).get k=if off+len*es<=k/\k<off+len*es+new.length then new[k-(off+len*es)]? else c.get k:=λk=>Tr.zj _ c _ _
      have aeU:∀(base:Addr) (c0:Nat) (ov:List Value),s'=.slice (some base) len c0->c0<len+n->ov.length=len*es->
        (∀k v,off<=k->k<off+len*es->c.get k=some v->∃v',ov[k-off]?=some v'/\VR e v v')->
        (∀w1:World,w1.heap=w.heap->(Builtin.firstCells es len (.slice (some base) len c0)).run P w1=.ok ov.toArray w1)->
        ∃v' w' e',(Builtin.append_ cL ty #[s',x']).run P w=.ok v' w'/\e.le e'/\RH G F W e' H' w'/\VR e' (.slice j off (len+n) (len+n) false es) v':=by
       intro base c0 ov sO aN kX yb kF;obtain⟨_,r2⟩:=HD (P:=P) (w:=w) (ty:=ty) (s':=s') h0 hu hz dY pB kA gN xV sO zzz sH BY BX;obtain⟨cc,jI,hr⟩:=r2 aN ov (by rw[sO];exact kF);have hd:=(h.drawn (w.drawn+1)).del i;have hj:=(AS dd).1;have lE:j=e.N:=hj.trans h.N.symm;subst lE;have fS:((List.replicate (cc-(len+n)) z0.cells.toList).flatten).length=(cc-(len+n))*es:=by simp[xV]
       have fK:(ov++nv++(List.replicate (cc-(len+n)) z0.cells.toList).flatten).length=cc*es:=by rw[aah,aah,sH,kX,fS,<-afB,<-afB];congr 1;omega
       have eN:OR (e.ext w.heap.size (-(off:Int)) (cc*es)) e.N (.cells (c.cz (off+len*es) new) off (off+(len+n)*es) el 1) (.cells (ov++nv++(List.replicate (cc-(len+n)) z0.cells.toList).flatten).toArray el (0,0)):=by
        refine .cells _ _ _ _ _ _ _ (by rw[Em.AM];simpa using fK) ?_ zzy zzy (λq=>by rw[Em.pQ];omega);intro k u xF iw hk;rw[aj5] at hk;refine⟨k-off,by rw[Em.pQ];omega,?_⟩;simp only[aeK];split at hk;·rename_i jv;obtain⟨u',kI,jy⟩:=jC.get hk;refine⟨u',?_,jy.mono (Em.sE ..)⟩;rw[abi (by rw[aah,kX,sH];omega),abm (by rw[kX];omega),kX];rw[<-kI];congr 1;omega
        ·rename_i jv;obtain⟨u',kI,jy⟩:=yb k u xF zzz hk;refine⟨u',?_,jy.mono (Em.sE ..)⟩;have:k-off<ov.length:=(aac.1 kI).1;rw[abi (by rw[aah];omega),abi this];exact kI
       obtain⟨_,qX⟩:=hd.alloc dd eN;refine⟨_,_,_,hr,Em.sE ..,qX,?_⟩;exact VR.Fw (e:=e.ext w.heap.size (-(off:Int)) (cc*es)) (Em.pP ..) (by simp[Em.ext]) (by rw[Em.pQ];omega) jI jI zzy (by rw[Em.AM];omega)
      obtain⟨hN,ob,eW,eN,hF⟩:=h.obj i _ hg;cases eN with
      |cells _ _ _ _ _ C fz hCn jI Xq Qw hd=>
      rcases hs.nL with⟨o,c0,po,ho,hl,hc,kC,hn,sO⟩|⟨rfl,rfl,a,sO⟩
      ·have hlen:len*es<=c0*es:=adS _ hl;by_cases jv:len+n<=c0
       ·have lZ:(len+n)*es<=c0*es:=adS _ jv;have aI0:(len+n)*es=len*es+n*es:=afB ..;obtain⟨w',C',r1,r2,r3,r4,r5,r6,r7,r8,r9⟩:=atG (P:=P) (e.b i) (o+len*es) el fz nv 0 w C eW (by rw[sH];omega) (Qw b1) (jC.one M3);obtain⟨q1,_⟩:=HD (P:=P) (w:=w) (ty:=ty) (s':=s') h0 hu hz dY pB kA gN xV sO zzz sH BY BX;have hj:=(AS dd).1;have lE:j=e.N:=hj.trans h.N.symm;subst lE;have ayh:OR (e.ext (e.b i) (e.d i) (e.n i)) e.N (.cells (c.cz (off+len*es) new) off (off+(len+n)*es) el 1) (.cells C' el fz):=by
         refine .cells _ _ _ _ _ _ _ (by rw[Em.AM,r3,hCn]) ?_ zzy (λ_ k hk=>Qw b1 k zzz) (λq=>by rw[Em.pQ];exact hd zzz);intro k u xF iw hk;rw[aj5] at hk;split at hk;·rename_i ath;obtain⟨u',kI,jy⟩:=jC.get hk;refine⟨o+(k-off),by rw[Em.pQ];omega,u',?_,jy.mono (Em.sE ..)⟩;rw[r4,zz2 (by rw[sH];omega),<-kI];congr 1;omega
         ·rename_i ath;obtain⟨k2,Dv,u',kI,jy⟩:=jI k u zzz zzz hk;refine⟨k2,by rw[Em.pQ];exact Dv,u',?_,jy.mono (Em.sE ..)⟩;rw[r4,zz1 zzz];exact kI
        obtain⟨_,qX⟩:=h.move hg (by simp[wr,b1]) dd r6 r2 r5 ayh r7 r8 r9;refine⟨_,w',_,q1 jv w' (λa ha=>?_) zzy,Em.sE ..,qX,?_⟩;·cases ha;rw[add_lit];exact r1
        ·exact VR.Fw (e:=e.ext (e.b i) (e.d i) (e.n i)) (Em.pP ..) (by simp[Em.ext]) (by rw[Em.pQ];exact ho) jv jv zzy (by rw[Em.AM];exact hn)
       ·refine aeU _ c0 ((C.toList.drop o).take (len*es)) sO zzz ?_ ?_ ?_;·simp;omega
        ·intro k u xF iw hk;obtain⟨k2,Dv,u',kI,jy⟩:=jI k u zzz zzz hk;refine⟨u',?_,jy⟩;rw[ajg,zz2 zzz,afX,aeq,<-kI];congr 1;omega
        ·refine alc w (by simp;omega) (λm u hm=>?_);rw[ajg] at hm;split at hm;·rw[afX,aeq] at hm;simp[World.cell?,eW,hm]
         ·cases hm
      ·refine aeU a 0 [] sO zzz zzy (λk u xF iw hk=>zzz) (λw1 _=>by simp[Builtin.firstCells,loadCells,loadCellsFrom])
     ·cases ha
    ·cases ha
 ·cases ha
end
end
end
section
variable {P:Program}{G:Nat}{F:Nat->Prop}{W:World}{e:Em}{H:Hp}{w:World}
section
variable {a k:AV}{a' b' k':Value}{d:TypeDesc}{es:List ME}{es' fs l:List MapEntry}{m:ME}
theorem VR.ahY {b:AV}(ha:VR e a a')(hb:VR e b b')(h:MS a b=true):a'=b'/\∀n,Instr.sameBits n a' b'=true:=by
 unfold MS at h;split at h;·cases ha.wj;cases hb.wj;simp only[zz6] at h;subst h;exact⟨rfl,λn=>by simp[Instr.sameBits]⟩
 ·cases ha.il;cases hb.il;simp only[aam,zz5] at h;obtain⟨rfl,rfl⟩:=h;exact⟨rfl,λn=>by simp[Instr.sameBits]⟩
 ·obtain⟨p,rfl,rfl⟩:=ha.oc;obtain⟨q,rfl,rfl⟩:=hb.oc;have:(p==q)=true:=by rw[alY];exact h
  have Fv:p=q:=by
   have h0:(p==q)=(p.data==q.data):=by cases p;cases q;rfl
   rw[h0,zz6] at this;cases p;cases q;simpa using this
  subst Fv;exact⟨rfl,λn=>by simp[Instr.sameBits,this]⟩
 ·cases h
theorem aR.plain:∀{x y:List AV} {x' y':List Value},aR e x x'->aR e y y'->Iz x y=true->x'=y'/\∀n,(x'.zip y').all (λ(a,b)=>Instr.sameBits n a b)=true
 |[],[],x',y',hx,hy,h=>by rw[hx.mc,hy.mc];exact⟨rfl,λn=>rfl⟩
 |[],_::_,_,_,_,_,h=>by simp[Iz] at h
 |_::_,[],_,_,_,_,h=>by simp[Iz] at h
 |a::x,b::y,x',y',hx,hy,h=>by simp only[Iz,aam] at h;obtain⟨a',xs,rfl,ha,hx⟩:=hx.cons_inv;obtain⟨b',ys,rfl,hb,hy⟩:=hy.cons_inv;obtain⟨h1,h2⟩:=ha.ahY hb h.1;obtain⟨h3,h4⟩:=aR.plain hx hy h.2;subst h1;subst h3;exact⟨rfl,λn=>by simp only[aml,alq,h2 n,h4 n,Bool.and_self]⟩
theorem VR.plain {b:AV}(ha:VR e a a')(hb:VR e b b')(h:Hu a b=true):Instr.sameBits 10000 a' b'=true:=by
 unfold Hu at h;split at h
 ·obtain⟨x,rfl,hx⟩:=ha.Aj;obtain⟨y,rfl,hy⟩:=hb.Aj;obtain⟨h1,h2⟩:=hx.plain hy h;have:x.size=y.size:=by have:=congrArg List.length h1;simpa using this
  simp only[Instr.sameBits,this,beq_self_eq_true,acy];exact h2 9999
 ·exact (ha.ahY hb h).2 _
theorem abp {α:Type}(g:α->Bool)(body:α->PUnit->Sem (ForInStep PUnit))(w:World)(hb:∀a,g a=true->(body a ⟨⟩).run P w=.ok (.yield ⟨⟩) w):
  ∀l:List α,l.all g=true->(forIn l (⟨⟩:PUnit) body).run P w=.ok ⟨⟩ w
 |[],_=>zzy|a::l,h=>by simp only[alq,aam] at h;rw[List.forIn_cons,Sem.run_bind,hb a h.1];exact abp g body w hb l h.2
theorem UR (w:World)(emp:Bool):∀(d D:Nat),d<=D->∀(t:TypeId) (v:AV) (v':Value),VR e v v'->qN P d t v=true->(Instr.checkKey emp D t v').run P w=.ok () w:=by
 intro d;induction d with
 |zero=>intro D _ t v v' _ h;cases h
 |succ d ih=>
  intro D hD t v v' hv h;obtain⟨D,rfl⟩:∃k,D=k+1:=⟨D-1,zzz⟩;unfold qN at h;split at h;·rename_i hu;simp[Instr.checkKey,aL hu]
  ·rename_i hu;simp[Instr.checkKey,aL hu]
  ·rename_i hu;simp[Instr.checkKey,aL hu]
  ·rename_i fs cs hu;obtain⟨vs,rfl,hl⟩:=hv.Aj;have key:=abp (P:=P) (g:=λf:Field=>if f.name ≠ "_" then (match pA P f.type cs f.offset with|some v=>qN P d f.type v|none=>false) else true)
    (body:=fun f UU=>do
     if f.name ≠ "_" then
      Instr.checkKey emp D f.type (<-part f.type vs f.offset)
      Pure.pure (ForInStep.yield PUnit.unit)
     else Pure.pure (ForInStep.yield PUnit.unit)) w (by
     intro f hg;by_cases hn:f.name = "_";·simp[hn]
     ·simp only[ne_eq,hn,not_false_eq_true,if_true] at hg;split at hg;·rename_i u Aw;obtain⟨u',kI,hr⟩:=Dz hl Aw w;have:=ih D zzz f.type u u' hr hg;simp[hn,kI,this]
      ·cases hg) fs.toList h
   simp[Instr.checkKey,aL hu] at key⊢;simp[key]
  ·rename_i n el cs hu;split at h
   ·rename_i s hs;obtain⟨vs,rfl,hl⟩:=hv.Aj;have key:=abp (P:=P) (g:=λi:Nat=>match pA P el cs (i*s) with|some v=>qN P d el v|none=>false)
     (body:=fun i UU=>do
      let z <-sizeOf el
      let p <-part el vs (i*z)
      Functor.map (λa=>ForInStep.yield PUnit.unit) (Instr.checkKey emp D el p)) w (by
      intro i hg;split at hg;·rename_i u Aw;obtain⟨u',kI,hr⟩:=Dz hl Aw w;have:=ih D zzz el u u' hr hg;simp[jq hs,kI,this]
      ·cases hg) (List.range' 0 n) h
    simp[Instr.checkKey,aL hu];exact key
   ·cases h
  ·cases h
theorem jm.cons_inv (h:jm e (m::es) es'):∃m' r',es'=m'::r'/\VR e m.key m'.key/\VR e m.val m'.val/\jm e es r':=by
 cases es' with
 |nil=>simp[jm] at h|cons m' r'=>
  obtain⟨a,b⟩:=h.2 0 m m' rfl rfl;exact⟨m',r',rfl,a,b,by simpa using h.1,λi x y hx hy=>h.2 (i+1) x y (by simpa using hx) (by simpa using hy)⟩
theorem jm.mc (h:jm e [] es'):es'=[]:=by simpa using h.1
theorem akg (h:RH G F W e H w){t:TypeId}{k:AV}{k':Value}(hk:VR e k k'):∀(es:List ME) (fs:List MapEntry),jm e es fs->AB P H t k es=true->∀x∈fs,(Op.equal t k' x.key).run P w=.ok false w
 |[],fs,hm,_=>by rw[hm.mc];simp
 |m::es,fs,hm,hf=>by
  obtain⟨m',r',rfl,h1,h2,h4⟩:=hm.cons_inv;unfold AB at hf;split at hf
  ·rename_i heq;have:=NY h 20 Op.maxDepth zzx t k m.key k' m'.key false hk h1 heq;intro x hx;rcases aal.1 hx with rfl|hx;·exact this
   ·exact akg h hk es r' h4 hf x hx
  ·cases hf
def FK (P:Program)(e:Em)(w:World)(t:TypeId)(k':Value)(fs:List MapEntry)(i0:Nat):Option (Nat×ME)->Prop
 |none=>∀x∈fs,(Op.equal t k' x.key).run P w=.ok false w|some (j,m)=>∃f1 m' f2,fs=f1++m'::f2/\j=i0+f1.length/\VR e m.key m'.key/\VR e m.val m'.val/\(Op.equal t k' m'.key).run P w=.ok true w/\∀x∈f1++f2,(Op.equal t k' x.key).run P w=.ok false w
theorem adl (h:RH G F W e H w){t:TypeId}{k:AV}{k':Value}(hk:VR e k k'):∀(es:List ME) (fs:List MapEntry) (i:Nat) (r:Option (Nat×ME)),jm e es fs->pw P H t k es i=some r->FK P e w t k' fs i r
 |[],fs,i,r,hm,hf=>by rw[hm.mc];cases hf;exactλx hx=>by cases hx
 |m::es,fs,i,r,hm,hf=>by
  obtain⟨m',r',rfl,h1,h2,h4⟩:=hm.cons_inv;unfold pw at hf;split at hf
  ·rename_i heq;have:=NY h 20 Op.maxDepth zzx t k m.key k' m'.key true hk h1 heq;cases hn:AB P H t k es with
   |false=>rw[hn] at hf;cases hf
   |true=>
    rw[hn] at hf;cases hf;exact⟨[],m',r',rfl,rfl,h1,h2,this,λx hx=>akg h hk es r' h4 hn x (by simpa using hx)⟩
  ·rename_i heq;have:=NY h 20 Op.maxDepth zzx t k m.key k' m'.key false hk h1 heq;have ih:=adl h hk es r' (i+1) r h4 hf;cases r with
   |none=>
    intro x hx;rcases aal.1 hx with rfl|hx;·exact this
    ·exact ih x hx
   |some x=>
    obtain⟨j,mm⟩:=x;obtain⟨f1,n',f2,rfl,rfl,q1,q2,q3,q4⟩:=ih;refine⟨m'::f1,n',f2,rfl,by simp only[aau];omega,q1,q2,q3,λx hx=>?_⟩;rcases aal.1 hx with rfl|hx;·exact this
    ·exact q4 x hx
  ·cases hf
theorem amZ {t:TypeId}{k':Value}{w:World}:∀(l:List MapEntry) (i:Nat),(∀x∈l,(Op.equal t k' x.key).run P w=.ok false w)->(Instr.findAsking t k' l i).run P w=.ok none w
 |[],i,_=>by simp[Instr.findAsking]
 |m::l,i,h=>by have h1:=h m (.head _);have h2:=amZ l (i+1) λx hx=>h x (.tail _ hx);simp[Instr.findAsking,h1,h2]
theorem ahw {t:TypeId}{k':Value}{w:World}{m:MapEntry}{b:List MapEntry}(hm:(Op.equal t k' m.key).run P w=.ok true w):∀(a:List MapEntry) (i:Nat),(∀x∈a,(Op.equal t k' x.key).run P w=.ok false w)->
  (Instr.findAsking t k' (a++m::b) i).run P w=.ok (some (i+a.length,m.val)) w
 |[],i,_=>by simp[Instr.findAsking,hm]
 |x::a,i,h=>by have h1:=h x (.head _);have h2:=ahw (b:=b) hm a (i+1) λx hx=>h x (.tail _ hx);rw[List.cons_append,aau,show i+(a.length+1)=i+1+a.length by omega];simp[Instr.findAsking,h1,h2]
theorem alJ {d:TypeDesc}{t:TypeId}(hu:P.underlying t=some d){k':Value}(w:World):∀(es':List MapEntry) (i:Nat) (r r2:Option (Nat×Value)),Instr.findNow d k' es' i=some r->(Instr.findAsking t k' es' i).run P w=.ok r2 w->r=r2
 |[],i,r,r2,h1,h2=>by cases h1;simp[Instr.findAsking] at h2;exact h2
 |m::es',i,r,r2,h1,h2=>by
  obtain⟨alu,aIN,aIG⟩:=m;unfold Instr.findNow at h1;obtain⟨md,hmd⟩:∃md,Op.maxDepth=md+1:=⟨9999,rfl⟩;have Nr:∀b,Instr.sameNow d k' alu=some b->(Op.equal t k' alu).run P w=.ok b w:=by
   intro b hb;unfold Op.equal;rw[hmd];unfold Instr.sameNow at hb;split at hb
   ·rename_i h1 h2;split at hb;·rename_i Po;cases hb;simp[Op.equalIn,aL hu,Po]
    ·cases hb
   ·rename_i h1 h2;cases hb;simp[Op.equalIn,aL hu]
   ·rename_i h1 h2;cases hb;simp[Op.equalIn,aL hu]
   ·cases hb
  split at h1;·rename_i hs;cases h1;simp[Instr.findAsking,Nr true hs] at h2;exact h2
  ·rename_i hs;simp[Instr.findAsking,Nr false hs] at h2;exact alJ hu w es' (i+1) r r2 h1 h2
  ·cases h1
theorem adu {t:TypeId}{r':Option (Nat×Value)}(hu:P.underlying t=some d)(dH:(Instr.findAsking t k' l 0).run P w=.ok r' w):(Instr.findKey t k' l).run P w=.ok r' w:=by
 unfold Instr.findKey;rw[Sem.run_bind,aL hu,Result.andThen_ok];split;·rename_i r2 rJ;rw[alJ hu w l 0 r2 r' rJ dH];simp
 ·exact dH
def FP (P:Program)(e:Em)(w:World)(t:TypeId)(k':Value)(fs l:List MapEntry):Option (Nat×ME)->Prop
 |none=>(Instr.findKey t k' l).run P w=.ok none w|some (j,m)=>∃f1 m' f2 a b,fs=f1++m'::f2/\j=f1.length/\l=a++m'::b/\(f1++f2).Perm (a++b)/\VR e m.key m'.key/\VR e m.val m'.val/\(Instr.findKey t k' l).run P w=.ok (some (a.length,m'.val)) w
theorem I9 (h:RH G F W e H w){t:TypeId}(hk:VR e k k'){r:Option (Nat×ME)}(hm:jm e es fs)(hp:fs.Perm l)(hf:pw P H t k es 0=some r)(hu:P.underlying t=some d):FP P e w t k' fs l r:=by
 have hq:=adl (P:=P) h hk es fs 0 r hm hf;cases r with
 |none=>exact adu hu (amZ l 0 λx hx=>hq x (hp.mem_iff.2 hx))|some x=>
  obtain⟨j,m⟩:=x;obtain⟨f1,m',f2,rfl,rfl,q1,q2,q3,q4⟩:=hq;obtain⟨a,b,rfl⟩:=List.append_of_mem (hp.mem_iff.1 (by simp:m'∈f1++m'::f2));have BF:(f1++f2).Perm (a++b):=((anP.symm.trans hp).trans anP).cons_inv;refine⟨f1,m',f2,a,b,rfl,zzz,rfl,BF,q1,q2,?_⟩;have:=ahw (P:=P) (w:=w) (b:=b) q3 a 0 λx hx=>q4 x (BF.mem_iff.2 (aaG _ hx));rw[adn] at this;exact adu hu this
end
end
end
section
variable {P:Program}{G:Nat}{F:Nat->Prop}{W:World}{e:Em}{H:Hp}{w:World}
section
variable {H':Hp}{a k x:AV}{a' b' k' x':Value}{cL:Array TypeId}{c i:Nat}{es:List ME}{es' fs:List MapEntry}{m:ME}{m':MapEntry}{ty:TypeId}
theorem EF (h:RH G F W e H w)(hg:H.h.get i=some (.map es c)):i<e.N/\∃(es':Array MapEntry) (c':Nat) (fs:List MapEntry),w.heap[e.b i]?=some (.map es' c')/\fs.Perm es'.toList/\jm e es fs/\(fs.map (·.born)).Nodup/\∀x∈fs,x.born<c':=by
 obtain⟨hN,ob,eW,eN,_⟩:=h.obj i _ hg;cases eN with
 |map _ _ es' c' fs hp hm hn hb=>exact⟨hN,es',c',fs,eW,hp,hm,hn,hb⟩
theorem aEG (h:RH G F W e H w)(hx:VR e x x')(hm:mapOf H x=some (es,c)):
  (x'=.map none/\es=[]/\c=0)\/∃i es' c' fs,x=.map i/\x'=.map (some (e.b i))/\H.h.get i=some (.map es c)/\w.heap[e.b i]?=some (.map es' c')/\fs.Perm es'.toList/\jm e es fs:=by
 unfold mapOf at hm;split at hm;·cases hx;cases hm;exact .inl ⟨rfl,rfl,rfl⟩
 ·rename_i i;split at hm;·rename_i qD c0 hg;cases hm;obtain⟨hi,rfl⟩:=hx.Kk;obtain⟨_,es',c',fs,h1,h2,h3,_⟩:=EF h hg;exact .inr ⟨i,es',c',fs,rfl,rfl,hg,h1,h2,h3⟩
  ·cases hm
 ·cases hm
theorem Gn {b:Nat}{es':Array MapEntry}(hb:w.heap[b]?=some (.map es' c)):(getObj b).run P w=.ok (.map es' c) w:=by simp[getObj,Sem.run,hb]
theorem UJ {kt:TypeId}(hc:qN P 20 kt k=true):∃d,P.underlying kt=some d:=by
 cases hq:P.underlying kt with
 |none=>simp[qN,hq] at hc|some d=>exact⟨d,rfl⟩
theorem VR.pair {b:AV}(ha:VR e a a')(hb:VR e b b'):VR e (.tuple [a,b]) (.tuple #[a',b']):=
 .tuple' (.cons ha (.cons hb (.nil e)))
theorem aDw (h:RH G F W e H w){t:TypeId}{v:AV}{ok:Bool}(hx:VR e x x')(hk:VR e k k')(hl:tP P t x k ok H=some v):
  ∃v',(Instr.lookup t x' k' ok).run P w=.ok v' w/\VR e v v':=by
 unfold tP at hl;split at hl
 ·rename_i kt el hu;cases hc:qN P 20 kt k with
  |false=>rw[hc] at hl;cases hl
  |true=>
  rw[hc] at hl;simp only[cond_true] at hl;have BG:∀emp,(Instr.checkKey emp 10000 kt k').run P w=.ok () w:=λemp=>UR w emp 20 10000 zzx kt k k' hk hc;obtain⟨kd,cF⟩:=UJ hc;split at hl
  ·rename_i es c hm;have fin:∀(fs es':List MapEntry),fs.Perm es'->jm e es fs->∃r' v',(Instr.findKey kt k' es').run P w=.ok r' w/\
     (match r' with
      |some (_,v)=>Pure.pure (if ok=true then Value.tuple #[v,Value.bool true] else v)|none=>Functor.map (λa=>if ok=true then Value.tuple #[a,Value.bool false] else a) (zeroValue el):Sem Value).run P w=.ok v' w/\VR e v v':=by
    intro fs es' nO rZ;split at hl
    ·rename_i j m hf;obtain⟨f1,m',f2,a,b,_,_,_,_,_,hv,dH⟩:=I9 (P:=P) h hk rZ nO hf cF;cases hl;cases ok with
     |true=>exact⟨_,_,dH,zzy,hv.pair (.bool true)⟩|false=>exact⟨_,_,dH,zzy,hv⟩
    ·rename_i hf;have dH:(Instr.findKey kt k' es').run P w=.ok none w:=I9 (P:=P) h hk rZ nO hf cF;simp only[aag,aaC] at hl;obtain⟨z,⟨z0,⟨inf,kA,gN⟩,hz⟩,rfl⟩:=hl;have Cu:VR e z z0:=.lj hz;cases ok with
     |true=>exact⟨_,_,dH,by simp[vH kA gN],Cu.pair (.bool false)⟩|false=>exact⟨_,_,dH,by simp[vH kA gN],Cu⟩
    ·cases hl
   rcases aEG h hx hm with⟨rfl,rfl,_⟩|⟨i,es',c',fs,rfl,rfl,hg,hb,nO,rZ⟩;·obtain⟨r',v',h1,h2,h3⟩:=fin [] [] (List.Perm.refl _) ⟨rfl,zzy⟩;refine⟨v',?_,h3⟩;simp[Instr.lookup,aL hu,BG,h1];exact h2
   ·obtain⟨r',v',h1,h2,h3⟩:=fin fs es'.toList nO rZ;refine⟨v',?_,h3⟩;simp[Instr.lookup,aL hu,Gn hb,BG,h1];exact h2
  ·cases hl
 ·cases hl
theorem K0 {b:Nat}{o:Obj}{es':Array MapEntry}(hb:w.heap[b]?=some (.map es' c)):(Go.setObj b o).run P w=.ok () {w with heap:=w.heap.setIfInBounds b o}:=by simp[Go.setObj,Sem.run,hb]
theorem RH.Q9 (h:RH G F W e H w){es2:List ME}{c2:Nat}(hg:H.h.get i=some (.map es c)){es':Array MapEntry}{c':Nat}(hp:fs.Perm es'.toList)(hm:jm e es2 fs)(hn:(fs.map (·.born)).Nodup)(hb:∀x∈fs,x.born<c'):
  RH G F W e (Am.setObj H i (.map es2 c2)) {w with heap:=w.heap.setIfInBounds (e.b i) (.map es' c')}:=by
 obtain⟨_,qD,c0,_,ja,_⟩:=EF h hg;have aN:=(abW.1 ja).1;refine h.put hg rfl (su:=.map es' c') zzy (by simp[aN]) (λk hk=>?_) (.map _ _ _ _ fs hp hm hn hb) rfl rfl rfl;simp only;rw[aeT (λq=>hk q.symm)]
theorem jm.snoc (h:jm e es es')(h1:VR e m.key m'.key)(h2:VR e m.val m'.val):jm e (es++[m]) (es'++[m']):=by
 refine⟨by simp[h.1],λi x y hx hy=>?_⟩;by_cases hi:i<es.length;·rw[abi hi] at hx;rw[abi (by rw[h.1];exact hi)] at hy;exact h.2 i x y hx hy
 ·rw[abm zzz] at hx;rw[abm (by rw[h.1];omega),h.1] at hy;have:i-es.length=0:=by have:=(aac.1 hx).1;simp at this;omega
  rw[this] at hx hy;simp at hx hy;subst hx;subst hy;exact⟨h1,h2⟩
theorem jm.set (h:jm e es es')(j:Nat)(h1:VR e m.key m'.key)(h2:VR e m.val m'.val):jm e (es.set j m) (es'.set j m'):=by
 refine⟨by simp[h.1],λi x y hx hy=>?_⟩;rw[agZ] at hx hy;split at hx
 ·rename_i hj;rw[zz2 hj] at hy;split at hx
  ·split at hy;·cases hx;cases hy;exact⟨h1,h2⟩
   ·cases hy
  ·cases hx
 ·rename_i hj;rw[zz1 hj] at hy;exact h.2 i x y hx hy
theorem jm.erase (h:jm e es es')(j:Nat):jm e (es.eraseIdx j) (es'.eraseIdx j):=by
 refine⟨by simp[List.length_eraseIdx,h.1],λi x y hx hy=>?_⟩;rw[List.getElem?_eraseIdx] at hx hy;split at hx;·rename_i hj;rw[zz2 hj] at hy;exact h.2 i x y hx hy
 ·rename_i hj;rw[zz1 hj] at hy;exact h.2 _ x y hx hy
theorem ah3 (h:RH G F W e H w){t:TypeId}{x k v:AV}{x' k' v':Value}{H':Hp}(hx:VR e x x')(hk:VR e k k')(hv:VR e v v')(hl:qm P t x k v H=some H'):
  ∃w',(Instr.mapUpdate t x' k' v').run P w=.ok () w'/\RH G F W e H' w':=by
 unfold qm at hl;split at hl
 ·rename_i kt el i hu;cases hc:qN P 20 kt k with
  |false=>rw[hc] at hl;cases hl
  |true=>
  rw[hc] at hl;simp only[cond_true] at hl;have BG:∀emp,(Instr.checkKey emp 10000 kt k').run P w=.ok () w:=λemp=>UR w emp 20 10000 zzx kt k k' hk hc;obtain⟨kd,cF⟩:=UJ hc;obtain⟨hi,rfl⟩:=hx.Kk;split at hl
  ·rename_i es c hg;obtain⟨_,es',c',fs,hb,nO,rZ,fN,mN⟩:=EF h hg;split at hl
   ·rename_i j m hf;cases hs:Hu m.key k with
    |false=>rw[hs] at hl;cases hl
    |true=>
    rw[hs] at hl;cases hl;obtain⟨f1,m',f2,a,b,rfl,rfl,qL,BF,DH,hmv,dH⟩:=I9 (P:=P) h hk rZ nO hf cF;have nZ:es'.toList[a.length]?=some m':=by rw[qL,abm (aaq _),ajA];rfl
    have Mv:Instr.sameBits 10000 m'.key k'=true:=DH.plain hk hs;have Df:es'[a.length]?=some m':=by rw[<-aeq];exact nZ
    have aGz:es'.modify a.length (λe=>{e with key:=k',val:=v'})=(es'.toList.set a.length {m' with key:=k',val:=v'}).toArray:=by
     apply Array.ext_getElem?;intro q;have e1:∀l:List MapEntry,l.toArray[q]?=l[q]?:=λl=>zzy;refine abk ?_ (e1 _).symm;rw[Array.getElem?_modify,agZ,aeq];by_cases hq:a.length=q;·subst hq;have aN:=(abW.1 Df).1;rw[zz2 rfl,zz2 rfl,zz2 (by simpa using aN),Df];rfl
     ·rw[zz1 hq,zz1 hq]
    have fY:∀(p q:List MapEntry) (x y:MapEntry),(p++x::q).set p.length y=p++y::q:=λp q x y=>by rw[amY _ _ (aaq _),ajA];rfl
    have uG:((f1++m'::f2).set f1.length {m' with key:=k',val:=v'}).Perm (es'.toList.set a.length {m' with key:=k',val:=v'}):=by rw[qL,fY,fY];exact (anP.trans (BF.cons _)).trans anP.symm
    have hbm:((f1++m'::f2).set f1.length {m' with key:=k',val:=v'}).map (·.born)=(f1++m'::f2).map (·.born):=by rw[fY];simp
    refine⟨{w with heap:=w.heap.setIfInBounds (e.b i) (.map (es'.toList.set a.length {m' with key:=k',val:=v'}).toArray c')},?_,
     h.Q9 hg (fs:=(f1++m'::f2).set f1.length {m' with key:=k',val:=v'}) (by simpa using uG) (rZ.set (m:={m with key:=k,val:=v}) (m':={m' with key:=k',val:=v'}) f1.length hk hv) (by rw[hbm];exact fN) (λx hx=>?_)⟩
    ·simp[Instr.mapUpdate,aL hu,Gn hb,BG,dH,Df,Instr.keyThatStays,Mv,K0 hb,aGz]
    ·rw[fY] at hx;rcases aaQ.1 hx with hx|hx;·exact mN x (aaG _ hx)
     ·rcases aal.1 hx with rfl|hx;·exact mN m' zzy
      ·exact mN x (by simp[hx])
   ·rename_i hf;cases hl;have dH:(Instr.findKey kt k' es'.toList).run P w=.ok none w:=I9 (P:=P) h hk rZ nO hf cF;refine⟨{w with heap:=w.heap.setIfInBounds (e.b i) (.map (es'.push ⟨k',v',c'⟩) (c'+1))},?_,h.Q9 hg (fs:=fs++[⟨k',v',c'⟩]) (by rw[Array.toList_push];exact nO.append_right _) (rZ.snoc (m:=⟨k,v,c⟩) (m':=⟨k',v',c'⟩) hk hv) ?_ ?_⟩;·simp[Instr.mapUpdate,aL hu,Gn hb,BG,dH,K0 hb]
    ·rw[acZ,aet];refine⟨fN,zzy,λx hx y hy=>?_⟩;obtain⟨z,hz,rfl⟩:=abN.1 hx;have:=mN z hz;simp at hy;omega
    ·intro x hx;rcases aaQ.1 hx with hx|hx;·have:=mN x hx;omega
     ·rw[No] at hx;subst hx;exact ahL _
   ·cases hl
  ·cases hl
 ·cases hl
theorem aFT (h:RH G F W e H w)(hx:VR e x x')(hk:VR e k k')(hl:Kz P cL x k H=some H'):
  ∃w',(Builtin.delete_ cL ty #[x',k']).run P w=.ok (.tuple #[]) w'/\RH G F W e H' w':=by
 unfold Kz at hl;split at hl
 ·rename_i kt el hq;obtain⟨t0,h0,hu⟩:=aaC.1 hq;cases hc:qN P 20 kt k with
  |false=>rw[hc] at hl;cases hl
  |true=>
  rw[hc] at hl;simp only[cond_true] at hl;have BG:∀emp,(Instr.checkKey emp 10000 kt k').run P w=.ok () w:=λemp=>UR w emp 20 10000 zzx kt k k' hk hc;obtain⟨kd,cF⟩:=UJ hc;split at hl;·cases hl;cases hx;exact⟨w,by simp[Builtin.delete_,h0,aL hu,BG],h⟩
  ·rename_i i;obtain⟨hi,rfl⟩:=hx.Kk;split at hl
   ·rename_i es c hg;obtain⟨_,es',c',fs,hb,nO,rZ,fN,mN⟩:=EF h hg;split at hl
    ·rename_i j m hf;cases hl;obtain⟨f1,m',f2,a,b,rfl,rfl,qL,BF,DH,hmv,dH⟩:=I9 (P:=P) h hk rZ nO hf cF;have fK:a.length<es'.size:=by have:=congrArg List.length qL;rw[alb,aah,aau] at this;omega
     have her:(es'.eraseIdxIfInBounds a.length).toList=es'.toList.eraseIdx a.length:=by simp[Array.eraseIdxIfInBounds,fK]
     have Iw:∀(p q:List MapEntry) (x:MapEntry),(p++x::q).eraseIdx p.length=p++q:=λp q x=>by rw[List.eraseIdx_append_of_length_le (aaq _),ajA];rfl
     refine⟨{w with heap:=w.heap.setIfInBounds (e.b i) (.map (es'.eraseIdxIfInBounds a.length) c')},?_,h.Q9 hg (fs:=(f1++m'::f2).eraseIdx f1.length) (by rw[her,qL,Iw,Iw];exact BF) (rZ.erase f1.length) ?_ (λx hx=>mN x ?_)⟩;·simp[Builtin.delete_,h0,aL hu,Gn hb,BG,dH,K0 hb]
     ·rw[Iw];rw[acZ,abo] at fN;rw[acZ];exact (ajD.1 ((anP.nodup_iff).1 fN)).2
     ·rw[Iw] at hx;rcases aaQ.1 hx with hx|hx;·exact aaG _ hx
      ·exact aaw _ (.tail _ hx)
    ·rename_i hf;cases hl;have dH:(Instr.findKey kt k' es'.toList).run P w=.ok none w:=I9 (P:=P) h hk rZ nO hf cF;have azM:w.heap.setIfInBounds (e.b i) (.map es' c')=w.heap:=by
      apply Array.ext_getElem?;intro q;by_cases hq:e.b i=q;·subst hq;have aN:=(abW.1 hb).1;rw[agL aN,hb]
      ·rw[aeT hq]
     refine⟨w,?_,h⟩;simp[Builtin.delete_,h0,aL hu,Gn hb,BG,dH,K0 hb,azM]
    ·cases hl
   ·cases hl
  ·cases hl
 ·cases hl
theorem ao0 (h:RH G F W e H w)(hx:VR e x x')(hl:XX P cL x H=some H'):
  ∃w',(Builtin.clear_ cL ty #[x']).run P w=.ok (.tuple #[]) w'/\RH G F W e H' w':=by
 unfold XX at hl;split at hl;·rename_i d hq;obtain⟨t0,h0,hu⟩:=aaC.1 hq;cases hl;cases hx;exact⟨w,by simp[Builtin.clear_,h0,aL hu],h⟩
 ·rename_i d hq;obtain⟨t0,h0,hu⟩:=aaC.1 hq;cases hl;cases hx;exact⟨w,by simp[Builtin.clear_,h0,aL hu],h⟩
 ·rename_i d i hq;obtain⟨t0,h0,hu⟩:=aaC.1 hq;obtain⟨hi,rfl⟩:=hx.Kk;split at hl;·rename_i es c hg;cases hl;obtain⟨_,es',c',fs,hb,nO,rZ,fN,mN⟩:=EF h hg;refine⟨{w with heap:=w.heap.setIfInBounds (e.b i) (.map #[] c')},?_,h.Q9 hg (fs:=[]) (List.Perm.refl _) ⟨rfl,zzy⟩ zzy zzy⟩;simp[Builtin.clear_,h0,aL hu,Gn hb,K0 hb]
  ·cases hl
 ·rename_i el i off n a1 a2 a3 hq;obtain⟨t0,h0,hu⟩:=aaC.1 hq;split at hl
  ·rename_i z hz;obtain⟨inf,z0,kA,gN,Cu⟩:=Cf (e:=e) hz;rcases hx.nL with⟨o,c,hi,ho,mr,hc,kC,hn,rfl⟩|⟨rfl,_,a,rfl⟩
   ·cases n with
    |zero=>
     have:rep 0 z=[]:=rfl;rw[this] at hl;cases hl;exact⟨w,by simp[Builtin.clear_,h0,aL hu],h⟩
    |succ n=>
     have fS:=Cu.rep (n+1);obtain⟨w',rK,hr⟩:=RH.Rc (P:=P) (off:=off) (k:=0) h hl fS ho;have hzz:(Builtin.zeroCells z0.cells (n+1)).toList=(List.replicate (n+1) z0.cells.toList).flatten:=acV rfl _;refine⟨w',?_,hr⟩;simp only[Builtin.clear_,h0,aeK,adp,Sem.run_bind,aL hu,Result.andThen_ok,vH kA gN];rw[hzz,rK];simp
   ·have:rep 0 z=[]:=rfl;rw[this] at hl;cases hl;exact⟨w,by simp[Builtin.clear_,h0,aL hu],h⟩
  ·cases hl
 ·cases hl
theorem aEp (h:RH G F W e H w){v:AV}(hx:VR e x x')(hl:DJ P cL x H=some v):
  ∃v',(Builtin.len_ cL ty #[x']).run P w=.ok v' w/\VR e v v':=by
 unfold DJ at hl;split at hl;·rename_i s hq;obtain⟨t0,h0,hu⟩:=aaC.1 hq;obtain⟨b,rfl,rfl⟩:=hx.oc;cases hl;rw[AZ];exact⟨_,by simp[Builtin.len_,h0,aL hu];rfl,.int _ _⟩
 ·rename_i n el hq;obtain⟨t0,h0,hu⟩:=aaC.1 hq;cases hl;exact⟨_,by simp[Builtin.len_,h0,aL hu];rfl,.int _ _⟩
 ·rename_i el hq;obtain⟨t0,h0,hu⟩:=aaC.1 hq;cases hl;cases hx;exact⟨_,by simp[Builtin.len_,h0,aL hu];rfl,.int _ _⟩
 ·rename_i el a1 a2 n a3 a4 a5 hq;obtain⟨t0,h0,hu⟩:=aaC.1 hq;cases hl;rcases hx.nL with⟨o,c,hi,ho,mr,hc,kC,hn,rfl⟩|⟨rfl,_,a,rfl⟩;·exact⟨_,by simp[Builtin.len_,h0,aL hu];rfl,.int _ _⟩
  ·exact⟨_,by simp[Builtin.len_,h0,aL hu];rfl,.int _ _⟩
 ·rename_i kt el hq;obtain⟨t0,h0,hu⟩:=aaC.1 hq;cases hl;cases hx;exact⟨_,by simp[Builtin.len_,h0,aL hu];rfl,.int _ _⟩
 ·rename_i kt el i hq;obtain⟨t0,h0,hu⟩:=aaC.1 hq;obtain⟨hi,rfl⟩:=hx.Kk;split at hl
  ·rename_i es c hg;cases hl;obtain⟨_,es',c',fs,hb,nO,rZ,_⟩:=EF h hg;have:es.length=es'.size:=by have h1:=rZ.1;have h2:=nO.length_eq;have h3:es'.toList.length=es'.size:=alb;omega
   rw[this];exact⟨_,by simp[Builtin.len_,h0,aL hu,Gn hb];rfl,.int _ _⟩
  ·cases hl
 ·rename_i a hq;obtain⟨t0,h0,hu⟩:=aaC.1 hq;split at hl;·rename_i n el hua;cases hl;exact⟨_,by simp[Builtin.len_,h0,aL hu,aL hua];rfl,.int _ _⟩
  ·cases hl
 ·cases hl
theorem aGO {v:AV}(hx:VR e x x')(hl:PG P cL x=some v)(w:World):
  ∃v',(Builtin.cap_ cL ty #[x']).run P w=.ok v' w/\VR e v v':=by
 unfold PG at hl;split at hl;·rename_i el hq;obtain⟨t0,h0,hu⟩:=aaC.1 hq;cases hl;cases hx;exact⟨_,by simp[Builtin.cap_,h0,aL hu];rfl,.int _ _⟩
 ·rename_i el a1 a2 n c a5 hq;obtain⟨t0,h0,hu⟩:=aaC.1 hq;cases hl;rcases hx.nL with⟨o,c',hi,ho,mr,hc,kC,hn,rfl⟩|⟨rfl,rfl,a,rfl⟩;·have:=kC rfl;subst this;exact⟨_,by simp[Builtin.cap_,h0,aL hu];rfl,.int _ _⟩
  ·exact⟨_,by simp[Builtin.cap_,h0,aL hu];rfl,.int _ _⟩
 ·cases hl
theorem acS:∀{l:List AV} {ls:List Value} {x v:AV} {x':Value},VR e x x'->aR e l ls->GF false x l=some v->∃v',(ls.foldlM Builtin.min2 x').run P w=.ok v' w/\VR e v v'
 |[],ls,x,v,x',hx,hl,h=>by rw[hl.mc];cases h;exact⟨x',zzy,hx⟩
 |y::l,ls,x,v,x',hx,hl,h=>by
  obtain⟨y',ws,rfl,hy,q8⟩:=hl.cons_inv;unfold GF at h;split at h
  ·rename_i z hz;unfold Wn at hz;split at hz;·cases hx.il;cases hy.il;cases hz;obtain⟨v',h1,h2⟩:=acS (.int _ _) q8 h;refine⟨v',?_,h2⟩;simp only[List.foldlM_cons,Sem.run_bind,Builtin.min2,Sem.run_pure,Result.andThen_ok];exact h1
   ·cases hz
  ·cases h
theorem adk:∀{l:List AV} {ls:List Value} {x v:AV} {x':Value},VR e x x'->aR e l ls->GF true x l=some v->∃v',(ls.foldlM Builtin.max2 x').run P w=.ok v' w/\VR e v v'
 |[],ls,x,v,x',hx,hl,h=>by rw[hl.mc];cases h;exact⟨x',zzy,hx⟩
 |y::l,ls,x,v,x',hx,hl,h=>by
  obtain⟨y',ws,rfl,hy,q8⟩:=hl.cons_inv;unfold GF at h;split at h
  ·rename_i z hz;unfold Wn at hz;split at hz;·cases hx.il;cases hy.il;cases hz;obtain⟨v',h1,h2⟩:=adk (.int _ _) q8 h;refine⟨v',?_,h2⟩;simp only[List.foldlM_cons,Sem.run_bind,Builtin.max2,Sem.run_pure,Result.andThen_ok];exact h1
   ·cases hz
  ·cases h
end
end
end
section
variable {P:Program}{G:Nat}{F:Nat->Prop}{W:World}{e:Em}{H:Hp}{w:World}
theorem auG (h:RH G F W e H w){cL:Array TypeId}{ty:TypeId}{d x v:AV}{d' x':Value}{H':Hp}(hd:VR e d d')(hx:VR e x x')(hl:LL P cL d x H=some (v,H')):
  ∃v' w',(Builtin.copy_ cL ty #[d',x']).run P w=.ok v' w'/\RH G F W e H' w'/\VR e v v':=by
 unfold LL at hl;split at hl
 ·rename_i el hq;obtain⟨t0,h0,hu⟩:=aaC.1 hq;split at hl
  ·rename_i es xl hs dC;have hlen:(Builtin.lenOf x').run P w=.ok xl w/\∀m,(Nat.min xl m=0->(Builtin.firstCells es (Nat.min xl m) x').run P w=.ok #[] w):=by
    unfold TL at dC;split at dC;·cases dC;cases hx;exact⟨by simp[Builtin.lenOf],λm hm=>by simp[Builtin.firstCells]⟩
    ·cases dC;rcases hx.nL with⟨o,c,hi,ho,mr,hc,kC,hn,rfl⟩|⟨rfl,_,a,rfl⟩;·exact⟨by simp[Builtin.lenOf],λm hm=>by simp only[Builtin.firstCells,hm,ahD];rfl⟩
     ·exact⟨by simp[Builtin.lenOf],λm hm=>by simp only[Builtin.firstCells,hm,ahD];rfl⟩
    ·cases dC;obtain⟨b,rfl,rfl⟩:=hx.oc;refine⟨by simp[Builtin.lenOf,AZ],λm hm=>?_⟩;simp only[Builtin.firstCells,hm,Sem.run_pure];congr 1;apply aee.1;simp
    ·cases dC
   obtain⟨hlen,QH⟩:=hlen;split at hl;·cases hl;cases hd;refine⟨_,w,?_,h,.int _ _⟩;have h1:=QH 0 (Nat.min_zero _);simp only[Builtin.copy_,h0,aeK,adp,adb,Sem.run_bind,aL hu,Result.andThen_ok,hlen,jq hs,h1];simp[goInt]
   ·rename_i i off dl a1 a2 a3;cases hz:Nat.beq (Nat.min xl dl) 0 with
    |true=>
     rw[hz] at hl;cases hl;have hm:Nat.min xl dl=0:=aaY hz;have h1:=QH dl hm;rcases hd.nL with⟨o,c,hi,ho,mr,hc,kC,hn,rfl⟩|⟨rfl,_,a,rfl⟩;·refine⟨_,w,?_,h,.int _ _⟩;simp only[Builtin.copy_,h0,aeK,adp,adb,Sem.run_bind,aL hu,Result.andThen_ok,hlen,jq hs,h1];simp[goInt,storeCells,hm]
     ·refine⟨_,w,?_,h,.int _ _⟩;simp only[Builtin.copy_,h0,aeK,adp,adb,Sem.run_bind,aL hu,Result.andThen_ok,hlen,jq hs,h1];simp[goInt,storeCells,hm]
    |false=>
     rw[hz] at hl;simp only[cond_false] at hl;split at hl
     ·rename_i cs gS;simp only[aag,abX] at hl;obtain⟨H2,aC,rfl,rfl⟩:=hl;have hcv:∃vs:List Value,aR e cs vs/\(Builtin.firstCells es (Nat.min xl dl) x').run P w=.ok vs.toArray w:=by
       unfold Z0 at gS;split at gS
       ·rename_i j aIR jl b1 b2 b3;rcases hx.nL with⟨o,c,hi,ho,mr,hc,kC,hn,rfl⟩|⟨rfl,_,a,rfl⟩;·obtain⟨vs,q1,q2,q3⟩:=h.Ds gS ho;refine⟨vs,q1,?_⟩;have:=run_loadCells_list (P:=P) w ⟨e.b j,o,none⟩ vs (λk u hk=>by rw[add_lit];exact q3 k u hk);rw[q2] at this;simp[Builtin.firstCells,this]
        ·cases dC;have:Nat.min 0 dl=0:=Nat.zero_min _;rw[this] at hz;cases hz
       ·obtain⟨b,rfl,rfl⟩:=hx.oc;cases gS;cases dC;refine⟨((b.extract 0 (Nat.min (bytes b).length dl)).data.toList).map λu=>Value.int .u8 u.toNat,?_,?_⟩;·have ja:=aR.ady b 0 (Nat.min (bytes b).length dl);rw[aaM,agN] at ja;rw[ja];refine⟨by simp[bytes],λk u v' hu bT=>?_⟩;simp only[bytes,amb,acd,aag] at hu bT;obtain⟨p,hp,rfl⟩:=hu;obtain⟨p',hp',rfl⟩:=bT;rw[hp] at hp';cases hp';exact .int _ _
        ·simp only[Builtin.firstCells,Sem.run_pure];congr 1;apply aee.1;simp
       ·cases gS
      obtain⟨vs,hvl,hfc⟩:=hcv;rcases hd.nL with⟨o,c,hi,ho,mr,hc,kC,hn,rfl⟩|⟨rfl,_,a,rfl⟩;·obtain⟨w',rK,hr⟩:=RH.Rc (P:=P) (off:=off) (k:=0) h aC hvl ho;refine⟨_,w',?_,hr,.int _ _⟩;simp only[Builtin.copy_,h0,aeK,adp,adb,Sem.run_bind,aL hu,Result.andThen_ok,hlen,jq hs,hfc,rK];simp[goInt]
      ·have:Nat.min xl 0=0:=Nat.min_zero _;rw[this] at hz;cases hz
     ·cases hl
   ·cases hl
  ·cases hl
 ·cases hl
theorem aBf {el:TypeId}(hc:P.cellsOf el=1)(count o n:Nat)(hn:o+n<=count):liesAt P P.depth el count o el n=true:=by have hd:P.depth=(2*(P.types.size+Made.depth)+1)+1:=rfl;rw[hd];simp only[liesAt,aiJ];left;rw[hd];simp[rowAt,hc,hn,sameLayout,Nat.mod_one]
theorem ayZ {b:Nat}(w:World):∀(us:List UInt8) (o:Nat) (acc:ByteArray),(∀j v,(us.map (λu=>Value.int .u8 u.toNat))[j]?=some v->w.cell? ⟨b,o+j,none⟩=some v)->
  (loadBytes ⟨b,o,none⟩ acc us.length).run P w=.ok ⟨acc.data++us.toArray⟩ w
 |us,o,acc,h=>by have:=Go.Lib.run_loadBytes (P:=P) w us ⟨b,o,none⟩ acc (λj x hj=>by rw[add_lit];exact h j _ (by simp[hj]));exact this
theorem aD4 {b o n:Nat}{C:Array Value}{el:TypeId}{fz:Nat×Nat}(eW:w.heap[b]?=some (.cells C el fz))(hn:¬n=0):
  ∃fz2,(w.freeze ⟨b,o,none⟩ n).heap[b]?=some (.cells C el fz2)/\(∀k,k≠b->(w.freeze ⟨b,o,none⟩ n).heap[k]?=w.heap[k]?)/\(w.freeze ⟨b,o,none⟩ n).heap.size=w.heap.size:=by
 simp only[World.freeze,zz1 hn];refine⟨_,J0 _ _ _ eW,λk hk=>I7 _ _ _ _ (λq=>hk q.symm),zzy⟩
theorem azV (h:RH G F W e H w){cL:Array TypeId}{ty:TypeId}{p v:AV}{n:Int}{k:IntKind}{p':Value}{H':Hp}(hp:VR e p p')(hl:Rq P cL p k n H=some (v,H')):
  ∃v' w',(Builtin.unsafeString_ cL ty #[p',.int k n]).run P w=.ok v' w'/\RH G F W e H' w'/\VR e v v':=by
 have KA:IntKind.i64.max=9223372036854775807:=rfl;unfold Rq at hl;split at hl
 rotate_left
 ·cases hl
 rename_i t0 t1 nX;obtain rfl:cL=#[t0,t1]:=aee.1 nX;have JB:∀q:Option Addr,n=0->(Builtin.unsafeString_ #[t0,t1] ty #[.pointer q,.int .i64 n]).run P w=.ok (.string .empty) w:=by intro q hn;subst hn;exact Go.Lib.run_unsafeString_none (P:=P) w t0 t1 ty q
 split at hl
 ·rename_i el hu;cases hp;split at hl;·rename_i hn;cases hl;exact⟨.string .empty,w,JB _ hn,h,.str .empty⟩
  ·cases hl
 ·rename_i el i off hu;obtain⟨o,hi,ho,rfl⟩:=hp.tG;split at hl;·rename_i hn;cases hl;exact⟨.string .empty,w,JB _ hn,h,.str .empty⟩
  ·rename_i nQ;split at hl
   ·rename_i c lo jN xu fl hg;split at hl
    ·rename_i hc;obtain⟨rfl,yk,lI,jo,nN⟩:=hc;simp only[aag,aaC,abX] at hl;obtain⟨bs,⟨cs,gS,wG⟩,rfl,rfl⟩:=hl;obtain⟨vs,q1,q2,q3⟩:=h.Ds gS ho;obtain⟨us,rfl,rfl⟩:=abd wG q1;rw[abF] at q2;obtain⟨_,ob,eW,eN,hF⟩:=h.obj i _ hg;cases eN with
     |cells _ _ _ _ _ C fz hn jI Xq h1 hd=>
     have J2:o+n.toNat<=C.size:=by obtain⟨m,hm⟩:∃m,us.length=m+1:=⟨us.length-1,zzz⟩;have hq:=q3 m (Value.int .u8 (us[m]' zzz).toNat) (by simp[hm]);simp only[World.cell?,eW] at hq;have tX:=(abW.1 hq).1;omega
     have uC:w.shape? (e.b i)=some (el,C.size):=by simp[World.shape?,eW]
     have hva:liesAt P P.depth el (C.size / P.cellsOf el) o el n.toNat=true:=by rw[yk,Nat.div_one];exact aBf yk _ _ _ J2
     have hlb:=ayZ (P:=P) (b:=e.b i) w us o .empty q3;rw[q2] at hlb;have QT:¬(n>IntKind.i64.max):=by rw[KA];omega
     have agV:¬n<0:=zzz;have B9:Builtin.unsafeString_ #[t0,t1] ty #[.pointer (some ⟨e.b i,o,none⟩),.int .i64 n]=
      (do
       let n <-asInt (.int .i64 n)
       if n<0 then runtimePanic (.error "unsafe.String: len out of range")
       if n>IntKind.i64.max then unsupported (.unsafePointer "String: a length above the largest int")
       if n=0 then Pure.pure (.string .empty)
       else if <-variablesAt ⟨e.b i,o,none⟩ (<-elemOf t0) n.toNat then do
        let s <-loadBytes ⟨e.b i,o,none⟩ .empty n.toNat
        Go.freeze ⟨e.b i,o,none⟩ n.toNat
        Pure.pure (.string s)
       else unsupported (.unsafePointer "String: not so many bytes at ptr")):=rfl
     have Gt:¬(9223372036854775807<n):=zzz;have lZ:¬n.toNat=0:=zzz;obtain⟨fz2,g1,g2,g3⟩:=aD4 (w:=w) (o:=o) eW lZ;refine⟨.string ⟨us.toArray⟩,w.freeze ⟨e.b i,o,none⟩ n.toNat,?_,?_,.str ⟨us.toArray⟩⟩;·rw[B9];simp[asInt,asIntOf,KA,agV,Gt,nQ,elemOf,aL hu,variablesAt,uC,hva,hlb]
     ·refine h.put hg (by simp[wr,nN]) g3 g1 g2 (.cells _ _ _ _ _ _ _ hn jI zzy zzy hd) ?_ ?_ ?_;·simp[World.freeze,lZ]
      ·simp[World.freeze,lZ]
      ·simp[World.freeze,lZ]
    ·cases hl
   ·cases hl
 ·cases hl
end
end Go.Proofs.YtodfajmihkagnaaGreatDoor.Am
