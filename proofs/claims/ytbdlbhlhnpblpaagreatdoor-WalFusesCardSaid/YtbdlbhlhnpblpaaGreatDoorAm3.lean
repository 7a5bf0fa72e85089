/- Laws that the proof uses. -/
import Derived.Test.YtbdlbhlhnpblpaaGreatDoorAm2
set_option maxHeartbeats 1000000
set_option linter.unusedVariables false
set_option linter.unusedSimpArgs false
namespace Go.Proofs.YtbdlbhlhnpblpaaGreatDoor.Am
section
section
section
section
variable {P:Program}{G:Nat}{F:Nat->Prop}{W:World}{e:Em}{H:Hp}{w:World}
theorem VP (n:Nat):∀ (r c:Nat),c<=2*n+192->Builtin.growBy n r c<=2*n+192
 | 0,c,h=>h
 | r+1,c,h=>by
  unfold Builtin.growBy
  split
  ·exact h
  ·exact VP n r _ (by omega)
theorem nextslicecap_le {Jo cap:Nat}(h:cap<Jo):Builtin.nextslicecap Jo cap<=2*Jo+192:=by
 unfold Builtin.nextslicecap
 split
 ·omega
 ·split
  ·omega
  ·exact VP Jo 4 cap (by omega)
theorem ad6 (b o el:Nat)(fz:Nat × Nat):∀ (vs:List Value) (k:Nat) (w:World) (C:Array Value),w.heap[b]? = some (.cells C el fz)->o+k+vs.length<=C.size->
  (∀ m,m<C.size->(decide (fz.1<=m)&&decide (m<fz.2))=false)->(∀ v∈vs,v.oneCell'=true)->
  ∃ w' C',(storeCells ⟨b,o,none⟩ vs k).run P w = .ok () w'/\w'.heap[b]? = some (.cells C' el fz)/\C'.size=C.size/\
   (∀ m,C'[m]? = if o+k<=m/\m<o+k+vs.length then vs[m-(o+k)]? else C[m]?)/\(∀ j,j≠b->w'.heap[j]? = w.heap[j]?)/\w'.heap.size=w.heap.size/\w'.os=w.os/\w'.tape=w.tape/\w'.output=w.output:=by
 intro vs
 induction vs with
 | nil=>
  intro k w C hb hs hf h1
  exact⟨w,C,by simp[storeCells],hb,rfl,fun m=>by rw[if_neg (by rw[abQ];omega)],fun _ _=>rfl,rfl,rfl,rfl,rfl⟩
 | cons v vs ih=>
  intro k w C hb hs hf h1
  simp only[abg] at hs
  have bW:o+k<C.size:=by omega
  have hc:w.cell? ⟨b,o+k,none⟩=some C[o+k]:=by simp[World.cell?,hb,bW]
  have Bx:w.frozen? ⟨b,o+k,none⟩=false:=by simp only[World.frozen?,hb];exact hf _ bW
  have vL:(w.setCell ⟨b,o+k,none⟩ v).heap[b]? = some (.cells (C.setIfInBounds (o+k) v) el fz):=by
   simp only[World.setCell];rw[GU _ _ _ hb];rfl
  obtain⟨w',C',r1,r2,r3,r4,r5,r6,r7,r8,r9⟩:=ih (k+1) _ _ vL (by simp;omega) (by simpa using hf) (fun u hu=>h1 u (List.mem_cons_of_mem _ hu))
  refine⟨w',C',?_,r2,by simpa using r3,fun m => ?_,fun j hj => ?_,?_,r7,r8,r9⟩
  ·simp only[storeCells,Sem.run_bind,add_lit,run_store P w _ _ _ (h1 v (List.mem_cons_self ..)),hc,Bx,abP,if_false,Result.andThen_ok]
   exact r1
  ·rw[r4 m]
   simp only[abg]
   by_cases hm:m=o+k
   ·subst hm
    rw[if_neg (by omega),if_pos (by omega),aff (by omega)]
    simp
   ·by_cases hr:o+(k+1)<=m/\m<o+(k+1)+vs.length
    ·rw[if_pos hr,if_pos (by omega)]
     have:m-(o+k)=(m-(o+(k+1)))+1:=by omega
     rw[this,gk]
    ·rw[if_neg hr,if_neg (by omega),aez (by omega)]
  ·rw[r5 j hj]
   simp only[World.setCell]
   rw[Fu _ _ _ _ (fun q=>hj q.symm)]
  ·rw[r6];simp[World.setCell]
theorem RH.del (h:RH G F W e H w)(i:Nat):RH G F W e { H with h:=H.h.del i } w:=by
 have dM:∀ j o,(H.h.del i).get j=some o->H.h.get j=some o/\j≠i:=by
  intro j o hj
  rw[Tr.Kz] at hj
  split at hj
  ·cases hj
  ·exact⟨hj,by assumption⟩
 exact⟨h.N,fun j o hj=>h.obj j o (dM j o hj).1,fun j k oj ok hj hk hq=>h.inj j k oj ok (dM j oj hj).1 (dM k ok hk).1 hq,h.mG,h.frame,h.os,h.tape,h.output,h.size,h.iw⟩
theorem RH.move (h:RH G F W e H w){i:Nat}{o o':AO}(hg:H.h.get i=some o)(hw:wr o=true){j:Nat}{H':Hp}(ha:Am.alloc { H with h:=H.h.del i } o'=some (j,H'))
  {nB:Obj} {w':World} (cC:w'.heap.size=w.heap.size) (hb:w'.heap[e.b i]? = some nB) (cx:∀ k,k≠e.b i->w'.heap[k]? = w.heap[k]?)
  (da:OR (e.ext (e.b i) (e.d i) (e.n i)) j o' nB) (os:w'.os=w.os) (tape:w'.tape=w.tape) (output:w'.output=w.output) :
  j=e.N/\RH G F W (e.ext (e.b i) (e.d i) (e.n i)) H' w':=by
 obtain⟨rfl,anz,rfl⟩:=oV ha
 obtain⟨hN,ob,db,_,hF⟩:=h.obj i o hg
 have zM:=h.N
 have hle:=Em.kK e (e.b i) (e.d i) (e.n i)
 have dM:∀ k x,((H.h.del i).put 34 H.next o').get k=some x->(k=H.next/\x=o')\/(k≠H.next/\k≠i/\H.h.get k=some x):=by
  intro k x hk
  rw[Tr.put,Tr.eS] at hk
  split at hk
  ·cases hk;exact .inl ⟨by assumption,rfl⟩
  ·rw[Tr.Kz] at hk
   split at hk
   ·cases hk
   ·exact .inr ⟨by assumption,by assumption,hk⟩
 have old:∀ k x,H.h.get k=some x->(e.ext (e.b i) (e.d i) (e.n i)).b k=e.b k:=fun k x hk=>(hle.2 k (h.obj k x hk).1).1
 refine⟨zM.symm,?_,?_,?_,?_,?_,os.trans h.os,tape.trans h.tape,output.trans h.output,by rw[cC];exact h.size,by obtain⟨g1,g2,g3⟩:=h.iw;rw[cC,(hle.2 G g2).2.2];simp[Em.ext];omega⟩
 ·simp[Em.ext,zM]
 ·intro k x hk
  rcases dM k x hk with⟨rfl,rfl⟩ | ⟨k1,k2,k3⟩
  ·refine⟨by simp[Em.ext,zM],nB,?_,da,?_⟩
   ·rw[<-zM,Em.ig];exact hb
   ·intro _;rw[<-zM,Em.ig];exact hF (.inl hw)
  ·obtain⟨a,kW,b2,c2,d2⟩:=h.obj k x k3
   refine⟨by simp[Em.ext];omega,kW,?_,c2.mono hle a,?_⟩
   ·rw[old k x k3,cx _ (fun q=>k2 (h.inj i k o x hg k3 (.inl hw) q.symm).symm)];exact b2
   ·intro hw2;rw[old k x k3,(hle.2 G h.iw.2.1).2.2] at hw2;rw[old k x k3];exact d2 hw2
 ·intro k m x y hk hm hq he
  rcases dM k x hk with⟨rfl,rfl⟩ | ⟨k1,k2,k3⟩<;>rcases dM m y hm with⟨rfl,rfl⟩ | ⟨m1,m2,m3⟩
  ·rfl
  ·rw[<-zM,Em.ig,old m y m3] at he
   exact absurd (h.inj i m o y hg m3 (.inl hw) he).symm m2
  ·rw[<-zM,Em.ig,old k x k3] at he
   exact absurd (h.inj i k o x hg k3 (.inl hw) he.symm).symm k2
  ·rw[old k x k3,(hle.2 G h.iw.2.1).2.2] at hq
   rw[old k x k3,old m y m3] at he
   exact h.inj k m x y k3 m3 hq he
 ·intro g Di
  obtain⟨a,b,c⟩:=h.mG g Di
  obtain⟨x,y,_⟩:=hle.2 g a
  exact⟨by simp[Em.ext];omega,x.trans b,y.trans c⟩
 ·intro k hk
  obtain⟨a,b⟩:=h.frame k hk
  refine⟨by rw[cC];exact a,?_⟩
  rw[cx k (fun q=>hF (.inl hw) (q▸hk))]
  exact b
theorem UH {z:Array Value}{es:Nat}(hz:z.size=es)(n:Nat):(Builtin.zeroCells z n).toList=(List.replicate n z.toList).flatten:=by
 unfold Builtin.zeroCells
 exact abq z n
theorem ac6 (h:RH G F W e H w){fI:Bool}{el es n:Nat}{x:AV}{x':Value}{new:List AV}(hx:VR e x x')(hs:sz P el=some es)(hn:Gk P fI el es x H=some (n,new)) :
  ∃ nv:List Value,cj e new nv/\nv.length=n*es/\
   (fI=true->∃ k:Int,x' = .int .i64 k/\0<=k/\k<16777216/\k.toNat=n/\∃ i z0,P.info? el=some i/\i.zero=some z0/\z0.cells.size=es/\nv=(List.replicate n z0.cells.toList).flatten)/\
   (fI=false->∀ w1:World,w1.heap=w.heap->(Builtin.lenOf x').run P w1 = .ok n w1/\(Builtin.firstCells es n x').run P w1 = .ok nv.toArray w1):=by
 unfold Gk at hn
 split at hn
 ·rename_i k
  cases hx.fh
  split at hn
  ·rename_i hk
   split at hn
   ·rename_i z hz
    split at hn
    ·rename_i nI
     cases hn
     obtain⟨i,z0,hi,dD,hl⟩:=vC (e:=e) hz
     have cC:z0.cells.size=es:=by have:=hl.1;simp at this;omega
     refine⟨_,hl.rep _,?_,fun _=>⟨k,rfl,hk.1,hk.2,rfl,i,z0,hi,dD,cC,rfl⟩,by simp⟩
     simp[cC]
    ·cases hn
   ·cases hn
  ·cases hn
 ·cases hn;cases hx
  exact⟨[],.nil e,by simp,by simp,fun _ w1 xS=>⟨by simp[Builtin.lenOf],by simp[Builtin.firstCells]⟩⟩
 ·rename_i i off len a1 a2 a3
  simp only[yS,abI] at hn
  obtain⟨l,hl,rfl,rfl⟩:=hn
  rcases hx.jJ with⟨o,k,vP,ho,kL,Gv,hO,rU,rfl⟩ | ⟨rfl,_,a,rfl⟩
  ·obtain⟨cs,h1,h2,h3⟩:=h.yV hl ho
   refine⟨cs,h1,h2,by simp,fun _ w1 xS=>⟨by simp[Builtin.lenOf],?_⟩⟩
   have:=run_loadCells_list (P:=P) w1 ⟨e.b i,o,none⟩ cs (fun j v hj=>by rw[add_lit];have q:=h3 j v hj;unfold World.cell? at q ⊢;rw[xS];exact q)
   rw[h2] at this
   simp[Builtin.firstCells,this]
  ·rw[aeT] at hl
   cases hl
   refine⟨[],.nil e,by simp,by simp,fun _ w1 xS=>⟨by simp[Builtin.lenOf],?_⟩⟩
   simp[Builtin.firstCells,loadCells,loadCellsFrom]
 ·rename_i s
  obtain⟨b,rfl,rfl⟩:=hx.iS
  split at hn
  ·rename_i mi
   subst mi
   simp only[acf,abI] at hn
   obtain⟨rfl,rfl⟩:=hn
   refine⟨b.data.toList.map fun u=>Value.int .u8 u.toNat,?_,?_,by simp,fun _ w1 xS=>⟨by simp[Builtin.lenOf,uv],?_⟩⟩
   ·refine⟨by simp[bytes],fun i v v' hv cH => ?_⟩
    simp only[bytes,afg,acD,yS] at hv cH
    obtain⟨u,hu,rfl⟩:=hv
    obtain⟨u',iL,rfl⟩:=cH
    rw[hu] at iL;cases iL
    exact .int _ _
   ·simp[bytes]
   ·simp only[Builtin.firstCells,uv]
    have:b.extract 0 b.size=b:=ByteArray.extract_zero_size
    rw[this]
    simp only[Sem.run_pure]
    congr 1
    apply acB.1
    simp
  ·cases hn
 ·cases hn
theorem SG {cM:Array TypeId}{fI:Bool}(h:Dv P cM=some fI) :
  (cM[1]? = none/\fI=false)\/∃ t d,cM[1]? = some t/\P.underlying t=some d/\Builtin.append_.match_1 (fun _=>Bool) d (fun _=>true) (fun _=>false)=fI:=by
 unfold Dv at h
 split at h
 ·rename_i t ht
  simp only[yS] at h
  obtain⟨d,hd,rfl⟩:=h
  refine .inr ⟨t,d,ht,hd,?_⟩
  cases d<;>rfl
 ·rename_i ht
  cases h
  exact .inl ⟨ht,rfl⟩
theorem Bm {cM:Array TypeId}{ty:TypeId}{fI:Bool}{t0 el es n:Nat}{s' x':Value}{base:Option Addr}{fN kg:Nat}{nv:List Value}{i:TypeInfo}{z0:Value}
  (h0:cM[0]? = some t0) (hu:P.underlying t0=some (.slice el)) (hz:Dv P cM=some fI) (hs:sz P el=some es) (gK:P.bytesOf el<=4096)
  (hi:P.info? el=some i) (dD:i.zero=some z0) (rq:z0.cells.size=es)
  (mo:s' = .slice base fN kg) (cx:fN+n<=16777216) (mP:nv.length=n*es)
  (vo:fI=true->∃ k:Int,x' = .int .i64 k/\0<=k/\k<16777216/\k.toNat=n/\∃ i z0,P.info? el=some i/\i.zero=some z0/\z0.cells.size=es/\nv=(List.replicate n z0.cells.toList).flatten)
  (vl:fI=false->∀ w1:World,w1.heap=w.heap->(Builtin.lenOf x').run P w1 = .ok n w1/\(Builtin.firstCells es n x').run P w1 = .ok nv.toArray w1) :
  (fN+n<=kg->∀ w',(∀ a,base=some a->(storeCells (a.add (fN*es)) nv).run P w = .ok () w')->(base=none->w'=w)->
   (Builtin.append_ cM ty #[s',x']).run P w = .ok (.slice base (fN+n) kg) w')/\
  (kg<fN+n->∀ ov:List Value,(∀ w1:World,w1.heap=w.heap->(Builtin.firstCells es fN s').run P w1 = .ok ov.toArray w1)->
   ∃ c,fN+n<=c/\(Builtin.append_ cM ty #[s',x']).run P w=
    .ok (.slice (some ⟨w.heap.size,0,none⟩) (fN+n) c) { w with drawn:=w.drawn+1,heap:=w.heap.push (.cells (ov++nv++(List.replicate (c-(fN+n)) z0.cells.toList).flatten).toArray el (0,0)) }):=by
 have cC:=fun w=>fw (P:=P) hs w
 have NS:i.bytes<=4096:=by unfold Program.bytesOf at gK;rw[hi] at gK;simpa using gK
 subst mo
 have rT:¬ (((fN+n:Nat):Int)>IntKind.i64.max):=by rw[IntKind.max_i64];omega
 have IB:∀ c,(Builtin.zeroCells z0.cells c)=(List.replicate c z0.cells.toList).flatten.toArray:=fun c=>acB.1 (by rw[UH rq])
 have Zq:kg<fN+n->¬ (Builtin.nextslicecap (fN+n) kg*i.bytes>2 ^ 48):=by
  intro bW
  have h1:=nextslicecap_le bW
  have:Builtin.nextslicecap (fN+n) kg*i.bytes<=(2*16777216+192)*4096:=Nat.mul_le_mul (by omega) NS
  omega
 have EW:(Question.appendCap (fN+n) kg el).forced=false:=rfl
 have hcut:fN+n<=(Question.appendCap (fN+n) kg el).cut (w.tape w.drawn (.appendCap (fN+n) kg el)):=Nat.le_add_right _ _
 cases fI with
 | false=>
  have hf:=vl rfl
  constructor
  ·intro hle w' eu CS
   obtain⟨f1,f2⟩:=hf w rfl
   have fin:(do
     let new <-Builtin.firstCells es n x'
     match base with
     | some a=>do storeCells (a.add (fN*es)) new.toList;Pure.pure (Value.slice base (fN+n) kg)
     | x=>Pure.pure (Value.slice base (fN+n) kg):Sem Value).run P w = .ok (.slice base (fN+n) kg) w':=by
    cases base with
    | none=>simp[f2,CS rfl]
    | some a=>simp[f2,eu a rfl]
   rcases SG (P:=P) hz with⟨h1,_⟩ | ⟨t,d,h1,hd,hm⟩
   ·simp[Builtin.append_,h0,h1,bY hu,cC,f1,hle] at fin ⊢
    exact fin
   ·simp only[Builtin.append_,h0,h1,ac9,nq,gk,Sem.run_bind,bY hu,bY hd,Result.andThen_ok,cC,Sem.run_pure]
    rw[hm]
    simp[f1,hle] at fin ⊢
    exact fin
  ·intro bW ov As
   refine⟨_,hcut,?_⟩
   have hb:=Zq bW
   have KB:¬ (fN+n<=kg):=by omega
   obtain⟨f1,_⟩:=hf w rfl
   obtain⟨_,f2⟩:=hf { w with drawn:=w.drawn+1 } rfl
   have o1:=As { w with drawn:=w.drawn+1 } rfl
   rcases SG (P:=P) hz with⟨h1,_⟩ | ⟨t,d,h1,hd,hm⟩
   ·simp only[Builtin.append_,h0,h1,ac9,nq,gk,Sem.run_bind,bY hu,Result.andThen_ok,cC,Sem.run_pure,abP,if_false,f1,if_neg KB,mV hi]
    rw[if_neg (fun q=>rT q.1),Sem.run_bind,mV hi,Result.andThen_ok,if_neg hb]
    simp only[Sem.run_bind,run_choose,EW,abP,if_false,yB,if_true,Result.andThen_ok,mV hi,run_askRoom,o1,f2,oh hi dD,IB,newRow,run_newObj,Sem.run_pure]
    simp
   ·simp only[Builtin.append_,h0,h1,ac9,nq,gk,Sem.run_bind,bY hu,bY hd,Result.andThen_ok,cC,Sem.run_pure]
    rw[hm]
    simp only[abP,if_false,Sem.run_bind,f1,Result.andThen_ok,if_neg KB,mV hi]
    rw[if_neg (fun q=>rT q.1),Sem.run_bind,mV hi,Result.andThen_ok,if_neg hb]
    simp only[Sem.run_bind,run_choose,EW,abP,if_false,yB,if_true,Result.andThen_ok,mV hi,run_askRoom,o1,f2,oh hi dD,IB,newRow,run_newObj,Sem.run_pure]
    simp
 | true=>
  obtain⟨k,rfl,k1,k2,k3,i2,z2,vP,zK,an1,ai2⟩:=vo rfl
  rw[hi] at vP;cases vP
  rw[dD] at zK;cases zK
  have hw:IntKind.i64.wrap k=k:=IntWalk.i64_in _ (by omega)
  have gF:¬ k*(i.bytes:Int)>2 ^ 48:=by
   have:k*(i.bytes:Int)<=16777216*4096:=Int.mul_le_mul (by omega) (by omega) (by omega) (by omega)
   omega
  have vf:¬ k<0:=by omega
  rcases SG (P:=P) hz with⟨h1,hf⟩ | ⟨t,d,h1,hd,hm⟩
  ·cases hf
  have ZI:∀ w1:World,((if n*es=0 then Pure.pure #[] else do Pure.pure (Builtin.zeroCells (<-zeroValue el).cells n)):Sem (Array Value)).run P w1 = .ok nv.toArray w1:=by
   intro w1
   by_cases mO:n*es=0
   ·rw[if_pos mO]
    have:nv=[]:=ae7 (by omega)
    subst this;rfl
   ·rw[if_neg mO]
    simp only[Sem.run_bind,oh hi dD,Result.andThen_ok,Sem.run_pure,IB,ai2]
  constructor
  ·intro hle w' eu CS
   have fin:(do
     let new <- (if n*es=0 then Pure.pure #[] else do Pure.pure (Builtin.zeroCells (<-zeroValue el).cells n))
     match base with
     | some a=>do storeCells (a.add (fN*es)) new.toList;Pure.pure (Value.slice base (fN+n) kg)
     | x=>Pure.pure (Value.slice base (fN+n) kg):Sem Value).run P w = .ok (.slice base (fN+n) kg) w':=by
    rw[Sem.run_bind,ZI w]
    cases base with
    | none=>simp[CS rfl]
    | some a=>simp[eu a rfl]
   simp only[Builtin.append_,h0,h1,ac9,nq,gk,Sem.run_bind,bY hu,bY hd,Result.andThen_ok,cC,Sem.run_pure]
   rw[hm]
   simp only[if_true,Sem.run_bind,asInt,asIntOf,Sem.run_pure,Result.andThen_ok,hw,if_neg vf,mV hi,if_neg gF,k3,if_pos hle,yL,abP,if_false] at fin ⊢
   exact fin
  ·intro bW ov As
   refine⟨_,hcut,?_⟩
   have hb:=Zq bW
   have KB:¬ (fN+n<=kg):=by omega
   have o1:=As { w with drawn:=w.drawn+1 } rfl
   have f2:=ZI { w with drawn:=w.drawn+1 }
   simp only[Builtin.append_,h0,h1,ac9,nq,gk,Sem.run_bind,bY hu,bY hd,Result.andThen_ok,cC,Sem.run_pure]
   rw[hm]
   simp only[if_true,Sem.run_bind,asInt,asIntOf,Sem.run_pure,Result.andThen_ok,hw,if_neg vf,mV hi,if_neg gF,k3,if_neg KB,yL,abP,if_false]
   rw[if_neg (fun q=>rT q.1),Sem.run_bind,mV hi,Result.andThen_ok,if_neg hb]
   simp only[Sem.run_bind,run_choose,EW,abP,if_false,Result.andThen_ok,mV hi,run_askRoom,o1,f2,oh hi dD,IB,newRow,run_newObj,Sem.run_pure]
   simp
theorem VR.zk {e:Em}{b i off len cap o c es:Nat}{ex:Bool}(hb:e.b i=b)(hi:i<e.N)(ho:(o:Int)=off+e.d i)(hl:len<=c)(hc:cap<=c)(hx:ex=true->c=cap)(hn:o+c*es<=e.n i) :
  VR e (.slice i off len cap ex es) (.slice (some ⟨b,o,none⟩) len c):=by
 subst hb;exact .slice i off len cap ex es o c hi ho hl hc hx hn
theorem cj.one {new:List AV}{nv:List Value}(h:cj e new nv)(ho:new.all dF=true):∀ v∈nv,v.oneCell'=true:=by
 intro v hv
 obtain⟨i,hi⟩:=List.getElem?_of_mem hv
 have bW:i<new.length:=by rw[<-h.1];exact (aaL.1 hi).1
 have h1:=h.2 i new[i] v (abb bW) hi
 exact h1.U0 (adh.1 ho _ (List.getElem_mem bW))
theorem Zo {b o fN kg es:Nat}{cs:List Value}(w:World)(hl:cs.length=fN*es)(h:∀ j v,cs[j]? = some v->w.cell? ⟨b,o+j,none⟩=some v) :
  ∀ w1:World,w1.heap=w.heap->(Builtin.firstCells es fN (.slice (some ⟨b,o,none⟩) fN kg)).run P w1 = .ok cs.toArray w1:=by
 intro w1 xS
 have:=run_loadCells_list (P:=P) w1 ⟨b,o,none⟩ cs (fun j v hj=>by rw[add_lit];have q:=h j v hj;unfold World.cell? at q ⊢;rw[xS];exact q)
 rw[hl] at this
 simp[Builtin.firstCells,this]
theorem amW (h:RH G F W e H w){cM:Array TypeId}{ty:TypeId}{s x v:AV}{s' x':Value}{H':Hp}(hs:VR e s s')(hx:VR e x x')(ha:FN P cM s x H=some (v,H')) :
  ∃ v' w' e',(Builtin.append_ cM ty #[s',x']).run P w = .ok v' w'/\e.le e'/\RH G F W e' H' w'/\VR e' v v':=by
 unfold FN at ha
 split at ha
 rotate_left
 ·cases ha
 rename_i el fI hq hz
 obtain⟨t0,h0,hu⟩:=aaF.1 hq
 split at ha
 rotate_left
 ·cases ha
 rename_i es z di Dt
 cases hb:(Nat.ble (P.bytesOf el) 4096&&Nat.beq z.length es) with
 | false=>rw[hb] at ha;cases ha
 | true=>
 rw[hb] at ha
 simp only[cond_true] at ha
 rw[aaK,acN] at hb
 obtain⟨gK,nI⟩:=hb
 have anJ:z.length=es:=aaV nI
 obtain⟨inf,z0,fT,dD,sS⟩:=vC (e:=e) Dt
 have rq:z0.cells.size=es:=by have:=sS.1;simp at this;omega
 split at ha
 rotate_left
 ·cases ha
 rename_i n new jg
 obtain⟨nv,ie,mP,vo,vl⟩:=ac6 (P:=P) h hx di jg
 split at ha
 ·cases hs
  cases mO:Nat.beq n 0 with
  | true=>
   rw[mO] at ha
   cases ha
   have:n=0:=aaV mO
   subst this
   obtain⟨r1,_⟩:=Bm (P:=P) (w:=w) (ty:=ty) (s' := .slice none 0 0) h0 hu hz di gK fT dD rq rfl (by omega) mP vo vl
   exact⟨_,w,e,r1 (zf _) w (by simp) (fun _=>rfl),e.le_refl,h,.ae⟩
  | false=>
   rw[mO] at ha
   simp only[cond_false] at ha
   cases mz:Nat.ble n 16777216 with
   | false=>rw[mz] at ha;cases ha
   | true=>
   rw[mz] at ha
   simp only[cond_true] at ha
   rw[acN] at mz
   split at ha
   ·rename_i i H2 jk
    cases ha
    have xe:0<n:=by
     rcases Nat.eq_zero_or_pos n with q | q
     ·subst q;cases mO
     ·exact q
    obtain⟨_,r2⟩:=Bm (P:=P) (w:=w) (ty:=ty) (s' := .slice none 0 0) h0 hu hz di gK fT dD rq rfl (by omega) mP vo vl
    obtain⟨c,hc,hr⟩:=r2 (by omega) [] (fun w1 _=>by simp[Builtin.firstCells])
    rw[wc] at hc hr
    obtain⟨e',he,g1,g2,g3,g4,lT⟩:=(h.drawn (w.drawn+1)).newRow (rest:=(List.replicate (c-n) z0.cells.toList).flatten) (fz:=(0,0)) jk ie (fun _=>rfl) (by simp)
    refine⟨_,_,e',hr,he,lT,?_⟩
    have ft:w.heap.size=e'.b i:=g2.symm
    rw[ft]
    refine .slice i 0 n n false es 0 c g1 (by rw[g3];simp) hc hc (by simp) ?_
    rw[g4]
    have:((List.replicate (c-n) z0.cells.toList).flatten).length=(c-n)*es:=by simp[rq]
    rw[aaO,mP,this,<-adC]
    have:n+(c-n)=c:=by omega
    rw[this];omega
   ·cases ha
 ·rename_i i off len cap ex bZ
  cases ft:(Nat.ble (len+n) 16777216&&Nat.beq es bZ&&new.all dF) with
  | false=>rw[ft] at ha;cases ha
  | true=>
  rw[ft] at ha
  simp only[cond_true] at ha
  simp only[aaK,acN] at ft
  obtain⟨⟨hle,hee⟩,aiP⟩:=ft
  have alW:es=bZ:=aaV hee
  subst alW
  cases eh:Nat.ble (len+n) cap with
  | true=>
   rw[eh] at ha
   simp only[cond_true] at ha
   rw[acN] at eh
   split at ha
   ·rename_i H2 eu
    cases ha
    rcases hs.jJ with⟨o,c,hi,ho,hl,hc,hO,hn,rfl⟩ | ⟨rfl,rfl,a,rfl⟩
    ·obtain⟨r1,_⟩:=Bm (P:=P) (w:=w) (ty:=ty) (s' := .slice (some ⟨e.b i,o,none⟩) len c) h0 hu hz di gK fT dD rq rfl (by omega) mP vo vl
     obtain⟨w',vX,hr⟩:=RH.JK (P:=P) (off:=off+len*es) (k:=0) (o:=o+len*es) h eu ie (by push_cast;omega)
     refine⟨_,w',e,r1 (by omega) w' (fun a ha => ?_) (by simp),e.le_refl,hr,.slice _ _ _ _ _ _ _ _ hi ho (by omega) hc hO hn⟩
     cases ha
     rw[add_lit];exact vX
    ·have mO:n=0:=by omega
     subst mO
     have:new=[]:=by
      have:=ie.1
      rw[mP] at this
      exact ae7 (by omega)
     subst this
     cases eu
     have amC:nv=[]:=ie.gg
     subst amC
     obtain⟨r1,_⟩:=Bm (P:=P) (w:=w) (ty:=ty) (s' := .slice (some a) 0 0) h0 hu hz di gK fT dD rq rfl (by omega) mP vo vl
     exact⟨_,w,e,r1 (zf _) w (fun a ha=>by simp[storeCells]) (by simp),e.le_refl,h,.uK ..⟩
   ·cases ha
  | false=>
   rw[eh] at ha
   simp only[cond_false] at ha
   have akA:cap<len+n:=by
    rcases agB cap (len+n) with q | q
    ·exact q
    ·have q2:Nat.ble (len+n) cap=true:=by rw[acN];exact q
     rw[q2] at eh;cases eh
   cases hex:ex with
   | true=>
    rw[hex] at ha
    simp only[cond_true] at ha
    split at ha
    ·rename_i old hold
     split at ha
     ·rename_i j H2 jk
      cases ha
      have key:∀ (base:Addr) (c0:Nat) (ov:List Value),s' = .slice (some base) len c0->c0<len+n->cj e old ov->ov.length=len*es->
        (∀ w1:World,w1.heap=w.heap->(Builtin.firstCells es len (.slice (some base) len c0)).run P w1 = .ok ov.toArray w1)->
        ∃ v' w' e',(Builtin.append_ cM ty #[s',x']).run P w = .ok v' w'/\e.le e'/\RH G F W e' H' w'/\VR e' (.slice j 0 (len+n) (len+n) false es) v':=by
       intro base c0 ov mo bW As BD iT
       obtain⟨_,r2⟩:=Bm (P:=P) (w:=w) (ty:=ty) (s':=s') h0 hu hz di gK fT dD rq mo (by omega) mP vo vl
       obtain⟨c,hc,hr⟩:=r2 bW ov (by rw[mo];exact iT)
       obtain⟨e',he,g1,g2,g3,g4,lT⟩:=(h.drawn (w.drawn+1)).newRow (rest:=(List.replicate (c-(len+n)) z0.cells.toList).flatten) (fz:=(0,0)) jk (As.append ie) (fun _=>rfl) (by simp)
       refine⟨_,_,e',hr,he,lT,?_⟩
       have ft:w.heap.size=e'.b j:=g2.symm
       rw[ft]
       refine .slice j 0 (len+n) (len+n) false es 0 c g1 (by rw[g3];simp) hc hc (by simp) ?_
       rw[g4]
       have:((List.replicate (c-(len+n)) z0.cells.toList).flatten).length=(c-(len+n))*es:=by simp[rq]
       rw[aaO,aaO,mP,BD,this,<-adC,<-adC]
       have:len+n+(c-(len+n))=c:=by omega
       rw[this];omega
      rcases hs.jJ with⟨o,c,hi,ho,hl,hc,hO,hn,mo⟩ | ⟨rfl,rfl,a,mo⟩
      ·obtain⟨ov,h1,h2,h3⟩:=h.yV hold ho
       exact key _ c ov mo (by have:=hO hex;omega) h1 h2 (Zo w h2 h3)
      ·rw[aeT] at hold
       cases hold
       exact key a 0 [] mo akA (.nil e) (by simp) (fun w1 _=>by simp[Builtin.firstCells,loadCells,loadCellsFrom])
     ·cases ha
    ·cases ha
   | false=>
    rw[hex] at ha
    simp only[cond_false] at ha
    split at ha
    ·rename_i c lo hi qC fl hg
     cases o8:(Nat.ble fl 1&&Nat.ble lo off&&Nat.ble (off+len*es) hi&&Nat.beq el qC) with
     | false=>rw[o8] at ha;cases ha
     | true=>
     rw[o8] at ha
     simp only[cond_true] at ha
     simp only[aaK,acN] at o8
     obtain⟨⟨⟨b1,b2⟩,b3⟩,b4⟩:=o8
     have oS:el=qC:=aaV b4
     subst oS
     split at ha
     ·rename_i j H2 dV
      cases ha
      have anl:new.length=n*es:=by rw[<-ie.1];exact mP
      have an2:off+(len+n)*es=off+len*es+n*es:=by rw[adC];omega
      have YU:∀ k,(c.cR (off+len*es) new).get k=if off+len*es<=k/\k<off+len*es+new.length then new[k-(off+len*es)]? else c.get k:=fun k=>Tr.vD _ c _ _
      have VX:∀ (base:Addr) (c0:Nat) (ov:List Value),s' = .slice (some base) len c0->c0<len+n->ov.length=len*es->
        (∀ k v,off<=k->k<off+len*es->c.get k=some v->∃ v',ov[k-off]? = some v'/\VR e v v')->
        (∀ w1:World,w1.heap=w.heap->(Builtin.firstCells es len (.slice (some base) len c0)).run P w1 = .ok ov.toArray w1)->
        ∃ v' w' e',(Builtin.append_ cM ty #[s',x']).run P w = .ok v' w'/\e.le e'/\RH G F W e' H' w'/\VR e' (.slice j off (len+n) (len+n) false es) v':=by
       intro base c0 ov mo bW BD As iT
       obtain⟨_,r2⟩:=Bm (P:=P) (w:=w) (ty:=ty) (s':=s') h0 hu hz di gK fT dD rq mo (by omega) mP vo vl
       obtain⟨cc,eO,hr⟩:=r2 bW ov (by rw[mo];exact iT)
       have hd:=(h.drawn (w.drawn+1)).del i
       have hj:=(oV dV).1
       have gG:j=e.N:=hj.trans h.N.symm
       subst gG
       have iH:((List.replicate (cc-(len+n)) z0.cells.toList).flatten).length=(cc-(len+n))*es:=by simp[rq]
       have cC:(ov++nv++(List.replicate (cc-(len+n)) z0.cells.toList).flatten).length=cc*es:=by
        rw[aaO,aaO,mP,BD,iH,<-adC,<-adC]
        congr 1;omega
       have da:OR (e.ext w.heap.size (-(off:Int)) (cc*es)) e.N (.cells (c.cR (off+len*es) new) off (off+(len+n)*es) el 1) (.cells (ov++nv++(List.replicate (cc-(len+n)) z0.cells.toList).flatten).toArray el (0,0)):=by
        refine .cells _ _ _ _ _ _ _ (by rw[Em.nG];simpa using cC) ?_ (by simp) (by simp) (fun q=>by rw[Em.ik];omega)
        intro k u mC gj hk
        rw[YU] at hk
        refine⟨k-off,by rw[Em.ik];omega,?_⟩
        simp only[ac9]
        split at hk
        ·rename_i ea
         obtain⟨u',iL,dT⟩:=ie.get hk
         refine⟨u',?_,dT.mono (Em.kK ..)⟩
         rw[abi (by rw[aaO,BD,mP];omega),abM (by rw[BD];omega),BD]
         rw[<-iL];congr 1;omega
        ·rename_i ea
         obtain⟨u',iL,dT⟩:=As k u mC (by omega) hk
         refine⟨u',?_,dT.mono (Em.kK ..)⟩
         have:k-off<ov.length:=(aaL.1 iL).1
         rw[abi (by rw[aaO];omega),abi this]
         exact iL
       obtain⟨_,lT⟩:=hd.alloc dV da
       refine⟨_,_,_,hr,Em.kK ..,lT,?_⟩
       exact VR.zk (e:=e.ext w.heap.size (-(off:Int)) (cc*es)) (Em.ig ..) (by simp[Em.ext]) (by rw[Em.ik];omega) eO eO (by simp) (by rw[Em.nG];omega)
      obtain⟨hN,ob,db,da,hF⟩:=h.obj i _ hg
      cases da with
      | cells _ _ _ _ _ C fz hCn eO Pt zv hd=>
      rcases hs.jJ with⟨o,c0,vP,ho,hl,hc,hO,hn,mo⟩ | ⟨rfl,rfl,a,mo⟩
      ·have hlen:len*es<=c0*es:=ac2 _ hl
       by_cases ea:len+n<=c0
       ·have pE:(len+n)*es<=c0*es:=ac2 _ ea
        have an6:(len+n)*es=len*es+n*es:=adC ..
        obtain⟨w',C',r1,r2,r3,r4,r5,r6,r7,r8,r9⟩:=ad6 (P:=P) (e.b i) (o+len*es) el fz nv 0 w C db (by rw[mP];omega) (zv b1) (ie.one aiP)
        obtain⟨q1,_⟩:=Bm (P:=P) (w:=w) (ty:=ty) (s':=s') h0 hu hz di gK fT dD rq mo (by omega) mP vo vl
        have hj:=(oV dV).1
        have gG:j=e.N:=hj.trans h.N.symm
        subst gG
        have agJ:OR (e.ext (e.b i) (e.d i) (e.n i)) e.N (.cells (c.cR (off+len*es) new) off (off+(len+n)*es) el 1) (.cells C' el fz):=by
         refine .cells _ _ _ _ _ _ _ (by rw[Em.nG,r3,hCn]) ?_ (by simp) (fun _ k hk=>zv b1 k (by omega)) (fun q=>by rw[Em.ik];exact hd (by omega))
         intro k u mC gj hk
         rw[YU] at hk
         split at hk
         ·rename_i adR
          obtain⟨u',iL,dT⟩:=ie.get hk
          refine⟨o+(k-off),by rw[Em.ik];omega,u',?_,dT.mono (Em.kK ..)⟩
          rw[r4,if_pos (by rw[mP];omega),<-iL]
          congr 1;omega
         ·rename_i adR
          obtain⟨k2,w8,u',iL,dT⟩:=eO k u (by omega) (by omega) hk
          refine⟨k2,by rw[Em.ik];exact w8,u',?_,dT.mono (Em.kK ..)⟩
          rw[r4,if_neg (by omega)]
          exact iL
        obtain⟨_,lT⟩:=h.move hg (by simp[wr,b1]) dV r6 r2 r5 agJ r7 r8 r9
        refine⟨_,w',_,q1 ea w' (fun a ha => ?_) (by simp),Em.kK ..,lT,?_⟩
        ·cases ha
         rw[add_lit];exact r1
        ·exact VR.zk (e:=e.ext (e.b i) (e.d i) (e.n i)) (Em.ig ..) (by simp[Em.ext]) (by rw[Em.ik];exact ho) ea ea (by simp) (by rw[Em.nG];exact hn)
       ·refine VX _ c0 ((C.toList.drop o).take (len*es)) mo (by omega) ?_ ?_ ?_
        ·simp;omega
        ·intro k u mC gj hk
         obtain⟨k2,w8,u',iL,dT⟩:=eO k u (by omega) (by omega) hk
         refine⟨u',?_,dT⟩
         rw[ac1,if_pos (by omega),acL,acF,<-iL]
         congr 1;omega
        ·refine Zo w (by simp;omega) (fun m u hm => ?_)
         rw[ac1] at hm
         split at hm
         ·rw[acL,acF] at hm
          simp[World.cell?,db,hm]
         ·cases hm
      ·refine VX a 0 [] mo (by omega) (by simp) (fun k u mC gj hk=>by omega) (fun w1 _=>by simp[Builtin.firstCells,loadCells,loadCellsFrom])
     ·cases ha
    ·cases ha
 ·cases ha
end
end
section
variable {P:Program}{G:Nat}{F:Nat->Prop}{W:World}{e:Em}{H:Hp}{w:World}
theorem VR.XM {a b:AV}{a' b':Value}(ha:VR e a a')(hb:VR e b b')(h:J7 a b=true):a'=b'/\∀ n,Instr.sameBits n a' b'=true:=by
 unfold J7 at h
 split at h
 ·cases ha.sH;cases hb.sH
  simp only[beq_iff_eq] at h
  subst h;exact⟨rfl,fun n=>by simp[Instr.sameBits]⟩
 ·cases ha.fh;cases hb.fh
  simp only[aaK,decide_eq_true_eq] at h
  obtain⟨rfl,rfl⟩:=h
  exact⟨rfl,fun n=>by simp[Instr.sameBits]⟩
 ·obtain⟨p,rfl,rfl⟩:=ha.iS
  obtain⟨q,rfl,rfl⟩:=hb.iS
  have:(p==q)=true:=by rw[KA];exact h
  have hpq:p=q:=by
   have h0:(p==q)=(p.data==q.data):=by cases p;cases q;rfl
   rw[h0,beq_iff_eq] at this
   cases p;cases q;simpa using this
  subst hpq
  exact⟨rfl,fun n=>by simp[Instr.sameBits,this]⟩
 ·cases h
theorem cj.plain:∀ {x y:List AV} {x' y':List Value},cj e x x'->cj e y y'->BW x y=true->x'=y'/\∀ n,(x'.zip y').all (fun (a,b)=>Instr.sameBits n a b)=true
 | [],[],x',y',hx,hy,h=>by rw[hx.gg,hy.gg];exact⟨rfl,fun n=>rfl⟩
 | [],_::_,_,_,_,_,h=>by simp[BW] at h
 | _::_,[],_,_,_,_,h=>by simp[BW] at h
 | a::x,b::y,x',y',hx,hy,h=>by
  simp only[BW,aaK] at h
  obtain⟨a',xs,rfl,ha,hx⟩:=hx.cons_inv
  obtain⟨b',ys,rfl,hb,hy⟩:=hy.cons_inv
  obtain⟨h1,h2⟩:=ha.XM hb h.1
  obtain⟨h3,h4⟩:=cj.plain hx hy h.2
  subst h1;subst h3
  exact⟨rfl,fun n=>by simp only[List.zip_cons_cons,List.all_cons,h2 n,h4 n,Bool.and_self]⟩
theorem VR.plain {a b:AV}{a' b':Value}(ha:VR e a a')(hb:VR e b b')(h:Hz a b=true):Instr.sameBits 10000 a' b'=true:=by
 unfold Hz at h
 split at h
 ·obtain⟨x,rfl,hx⟩:=ha.tO
  obtain⟨y,rfl,hy⟩:=hb.tO
  obtain⟨h1,h2⟩:=hx.plain hy h
  have:x.size=y.size:=by have:=congrArg List.length h1;simpa using this
  simp only[Instr.sameBits,this,beq_self_eq_true,Bool.true_and]
  exact h2 9999
 ·exact (ha.XM hb h).2 _
theorem Ti {α:Type}(g:α->Bool)(body:α->PUnit->Sem (ForInStep PUnit))(w:World)(hb:∀ a,g a=true->(body a ⟨⟩).run P w = .ok (.yield ⟨⟩) w) :
  ∀ l:List α,l.all g=true->(forIn l (⟨⟩:PUnit) body).run P w = .ok ⟨⟩ w
 | [],_=>by simp
 | a::l,h=>by
  simp only[List.all_cons,aaK] at h
  rw[List.forIn_cons,Sem.run_bind,hb a h.1]
  exact Ti g body w hb l h.2
theorem Mm (w:World)(emp:Bool):∀ (d D:Nat),d<=D->∀ (t:TypeId) (v:AV) (v':Value),VR e v v'->nc P d t v=true->(Instr.checkKey emp D t v').run P w = .ok () w:=by
 intro d
 induction d with
 | zero=>intro D _ t v v' _ h;cases h
 | succ d ih=>
  intro D hD t v v' hv h
  obtain⟨D,rfl⟩:∃ k,D=k+1:=⟨D-1,by omega⟩
  unfold nc at h
  split at h
  ·rename_i hu;simp[Instr.checkKey,bY hu]
  ·rename_i hu;simp[Instr.checkKey,bY hu]
  ·rename_i hu;simp[Instr.checkKey,bY hu]
  ·rename_i fs cs hu
   obtain⟨vs,rfl,hl⟩:=hv.tO
   have key := Ti (P := P) (g := fun f : Field => if f.name ≠ "_" then (match kT P f.type cs f.offset with | some v => nc P d f.type v | none => false) else true)
    (body:=fun f Ms=>do
     if f.name ≠ "_" then
      Instr.checkKey emp D f.type (<-part f.type vs f.offset)
      Pure.pure (ForInStep.yield PUnit.unit)
     else Pure.pure (ForInStep.yield PUnit.unit)) w (by
     intro f hg
     by_cases hn : f.name = "_"
     ·simp[hn]
     ·simp only[ne_eq,hn,not_false_eq_true,if_true] at hg
      split at hg
      ·rename_i u si
       obtain⟨u',iL,hr⟩:=xc hl si w
       have:=ih D (by omega) f.type u u' hr hg
       simp[hn,iL,this]
      ·cases hg) fs.toList h
   simp[Instr.checkKey,bY hu] at key ⊢
   simp[key]
  ·rename_i n el cs hu
   split at h
   ·rename_i s hs
    obtain⟨vs,rfl,hl⟩:=hv.tO
    have key:=Ti (P:=P) (g:=fun i:Nat=>match kT P el cs (i*s) with | some v=>nc P d el v | none=>false)
     (body:=fun i Ms=>do
      let z <-sizeOf el
      let p <-part el vs (i*z)
      Functor.map (fun a=>ForInStep.yield PUnit.unit) (Instr.checkKey emp D el p)) w (by
      intro i hg
      split at hg
      ·rename_i u si
       obtain⟨u',iL,hr⟩:=xc hl si w
       have:=ih D (by omega) el u u' hr hg
       simp[fw hs,iL,this]
      ·cases hg) (List.range' 0 n) h
    simp[Instr.checkKey,bY hu]
    exact key
   ·cases h
  ·cases h
theorem gw.cons_inv {m:ME}{es:List ME}{bZ:List MapEntry}(h:gw e (m::es) bZ):∃ m' r',bZ=m'::r'/\VR e m.key m'.key/\VR e m.val m'.val/\gw e es r':=by
 cases bZ with
 | nil=>simp[gw] at h
 | cons m' r'=>
  obtain⟨a,b⟩:=h.2 0 m m' rfl rfl
  exact⟨m',r',rfl,a,b,by simpa using h.1,fun i x y hx hy=>h.2 (i+1) x y (by simpa using hx) (by simpa using hy)⟩
theorem gw.gg {bZ:List MapEntry}(h:gw e [] bZ):bZ=[]:=by simpa using h.1
theorem Y4 (h:RH G F W e H w){t:TypeId}{k:AV}{k':Value}(hk:VR e k k'):∀ (es:List ME) (fs:List MapEntry),gw e es fs->zp P H t k es=true->∀ x∈fs,(Op.equal t k' x.key).run P w = .ok false w
 | [],fs,hm,_=>by rw[hm.gg];simp
 | m::es,fs,hm,hf=>by
  obtain⟨m',r',rfl,h1,h2,h4⟩:=hm.cons_inv
  unfold zp at hf
  split at hf
  ·rename_i heq
   have:=G2 h 20 Op.maxDepth (by decide) t k m.key k' m'.key false hk h1 heq
   intro x hx
   rcases aap.1 hx with rfl | hx
   ·exact this
   ·exact Y4 h hk es r' h4 hf x hx
  ·cases hf
def FK (P:Program)(e:Em)(w:World)(t:TypeId)(k':Value)(fs:List MapEntry)(i0:Nat):Option (Nat × ME)->Prop
 | none=>∀ x∈fs,(Op.equal t k' x.key).run P w = .ok false w
 | some (j,m)=>∃ f1 m' f2,fs=f1++m'::f2/\j=i0+f1.length/\VR e m.key m'.key/\VR e m.val m'.val/\(Op.equal t k' m'.key).run P w = .ok true w/\∀ x∈f1++f2,(Op.equal t k' x.key).run P w = .ok false w
theorem UT (h:RH G F W e H w){t:TypeId}{k:AV}{k':Value}(hk:VR e k k'):∀ (es:List ME) (fs:List MapEntry) (i:Nat) (r:Option (Nat × ME)),gw e es fs->vV P H t k es i=some r->FK P e w t k' fs i r
 | [],fs,i,r,hm,hf=>by
  rw[hm.gg]
  cases hf
  exact fun x hx=>by cases hx
 | m::es,fs,i,r,hm,hf=>by
  obtain⟨m',r',rfl,h1,h2,h4⟩:=hm.cons_inv
  unfold vV at hf
  split at hf
  ·rename_i heq
   have:=G2 h 20 Op.maxDepth (by decide) t k m.key k' m'.key true hk h1 heq
   cases hn:zp P H t k es with
   | false=>rw[hn] at hf;cases hf
   | true=>
    rw[hn] at hf
    cases hf
    exact⟨[],m',r',rfl,rfl,h1,h2,this,fun x hx=>Y4 h hk es r' h4 hn x (by simpa using hx)⟩
  ·rename_i heq
   have:=G2 h 20 Op.maxDepth (by decide) t k m.key k' m'.key false hk h1 heq
   have ih:=UT h hk es r' (i+1) r h4 hf
   cases r with
   | none=>
    intro x hx
    rcases aap.1 hx with rfl | hx
    ·exact this
    ·exact ih x hx
   | some x=>
    obtain⟨j,mm⟩:=x
    obtain⟨f1,n',f2,rfl,rfl,q1,q2,q3,q4⟩:=ih
    refine⟨m'::f1,n',f2,rfl,by simp only[abg];omega,q1,q2,q3,fun x hx => ?_⟩
    rcases aap.1 hx with rfl | hx
    ·exact this
    ·exact q4 x hx
  ·cases hf
theorem aaC {t:TypeId}{k':Value}{w:World}:∀ (l:List MapEntry) (i:Nat),(∀ x∈l,(Op.equal t k' x.key).run P w = .ok false w)->(Instr.findAsking t k' l i).run P w = .ok none w
 | [],i,_=>by simp[Instr.findAsking]
 | m::l,i,h=>by
  have h1:=h m (.head _)
  have h2:=aaC l (i+1) fun x hx=>h x (.tail _ hx)
  simp[Instr.findAsking,h1,h2]
theorem XC {t:TypeId}{k':Value}{w:World}{m:MapEntry}{b:List MapEntry}(hm:(Op.equal t k' m.key).run P w = .ok true w):∀ (a:List MapEntry) (i:Nat),(∀ x∈a,(Op.equal t k' x.key).run P w = .ok false w)->
  (Instr.findAsking t k' (a++m::b) i).run P w = .ok (some (i+a.length,m.val)) w
 | [],i,_=>by simp[Instr.findAsking,hm]
 | x::a,i,h=>by
  have h1:=h x (.head _)
  have h2:=XC (b:=b) hm a (i+1) fun x hx=>h x (.tail _ hx)
  rw[aew,abg,show i+(a.length+1)=i+1+a.length by omega]
  simp[Instr.findAsking,h1,h2]
theorem ZR {d:TypeDesc}{t:TypeId}(hu:P.underlying t=some d){k':Value}(w:World):∀ (bZ:List MapEntry) (i:Nat) (r r2:Option (Nat × Value)),Instr.findNow d k' bZ i=some r->(Instr.findAsking t k' bZ i).run P w = .ok r2 w->r=r2
 | [],i,r,r2,h1,h2=>by
  cases h1
  simp[Instr.findAsking] at h2
  exact h2
 | m::bZ,i,r,r2,h1,h2=>by
  obtain⟨ZF,anV,anK⟩:=m
  unfold Instr.findNow at h1
  obtain⟨md,hmd⟩:∃ md,Op.maxDepth=md+1:=⟨9999,rfl⟩
  have we:∀ b,Instr.sameNow d k' ZF=some b->(Op.equal t k' ZF).run P w = .ok b w:=by
   intro b hb
   unfold Op.equal
   rw[hmd]
   unfold Instr.sameNow at hb
   split at hb
   ·rename_i h1 h2
    split at hb
    ·rename_i BA;cases hb;simp[Op.equalIn,bY hu,BA]
    ·cases hb
   ·rename_i h1 h2;cases hb;simp[Op.equalIn,bY hu]
   ·rename_i h1 h2;cases hb;simp[Op.equalIn,bY hu]
   ·cases hb
  split at h1
  ·rename_i hs
   cases h1
   simp[Instr.findAsking,we true hs] at h2
   exact h2
  ·rename_i hs
   simp[Instr.findAsking,we false hs] at h2
   exact ZR hu w bZ (i+1) r r2 h1 h2
  ·cases h1
theorem UY {t:TypeId}{k':Value}{l:List MapEntry}{r':Option (Nat × Value)}{d:TypeDesc}(hu:P.underlying t=some d)(dg:(Instr.findAsking t k' l 0).run P w = .ok r' w):(Instr.findKey t k' l).run P w = .ok r' w:=by
 unfold Instr.findKey
 rw[Sem.run_bind,bY hu,Result.andThen_ok]
 split
 ·rename_i r2 pG
  rw[ZR hu w l 0 r2 r' pG dg]
  simp
 ·exact dg
def FP (P:Program)(e:Em)(w:World)(t:TypeId)(k':Value)(fs l:List MapEntry):Option (Nat × ME)->Prop
 | none=>(Instr.findKey t k' l).run P w = .ok none w
 | some (j,m)=>∃ f1 m' f2 a b,fs=f1++m'::f2/\j=f1.length/\l=a++m'::b/\(f1++f2).Perm (a++b)/\VR e m.key m'.key/\VR e m.val m'.val/\(Instr.findKey t k' l).run P w = .ok (some (a.length,m'.val)) w
theorem Cq (h:RH G F W e H w){t:TypeId}{k:AV}{k':Value}(hk:VR e k k'){es:List ME}{fs l:List MapEntry}{r:Option (Nat × ME)}(hm:gw e es fs)(hp:fs.Perm l)(hf:vV P H t k es 0=some r){d:TypeDesc}(hu:P.underlying t=some d):FP P e w t k' fs l r:=by
 have hq:=UT (P:=P) h hk es fs 0 r hm hf
 cases r with
 | none=>exact UY hu (aaC l 0 fun x hx=>hq x (hp.mem_iff.2 hx))
 | some x=>
  obtain⟨j,m⟩:=x
  obtain⟨f1,m',f2,rfl,rfl,q1,q2,q3,q4⟩:=hq
  obtain⟨a,b,rfl⟩:=List.append_of_mem (hp.mem_iff.1 (by simp:m'∈f1++m'::f2))
  have tN:(f1++f2).Perm (a++b):=((List.perm_middle.symm.trans hp).trans List.perm_middle).cons_inv
  refine⟨f1,m',f2,a,b,rfl,by omega,rfl,tN,q1,q2,?_⟩
  have:=XC (P:=P) (w:=w) (b:=b) q3 a 0 fun x hx=>q4 x (tN.mem_iff.2 (aaz _ hx))
  rw[wc] at this
  exact UY hu this
end
end
section
variable {P:Program}{G:Nat}{F:Nat->Prop}{W:World}{e:Em}{H:Hp}{w:World}
theorem yx (h:RH G F W e H w){i:Nat}{es:List ME}{c:Nat}(hg:H.h.get i=some (.map es c)):i<e.N/\∃ (bZ:Array MapEntry) (c':Nat) (fs:List MapEntry),w.heap[e.b i]? = some (.map bZ c')/\fs.Perm bZ.toList/\gw e es fs/\(fs.map (·.born)).Nodup/\∀ x∈fs,x.born<c':=by
 obtain⟨hN,ob,db,da,_⟩:=h.obj i _ hg
 cases da with
 | map _ _ bZ c' fs hp hm hn hb=>exact⟨hN,bZ,c',fs,db,hp,hm,hn,hb⟩
theorem akU (h:RH G F W e H w){x:AV}{x':Value}{es:List ME}{c:Nat}(hx:VR e x x')(hm:mapOf H x=some (es,c)) :
  (x' = .map none/\es=[]/\c=0)\/∃ i bZ c' fs,x = .map i/\x' = .map (some (e.b i))/\H.h.get i=some (.map es c)/\w.heap[e.b i]? = some (.map bZ c')/\fs.Perm bZ.toList/\gw e es fs:=by
 unfold mapOf at hm
 split at hm
 ·cases hx;cases hm;exact .inl ⟨rfl,rfl,rfl⟩
 ·rename_i i
  split at hm
  ·rename_i es0 c0 hg
   cases hm
   obtain⟨hi,rfl⟩:=hx.Hd
   obtain⟨_,bZ,c',fs,h1,h2,h3,_⟩:=yx h hg
   exact .inr ⟨i,bZ,c',fs,rfl,rfl,hg,h1,h2,h3⟩
  ·cases hm
 ·cases hm
theorem zQ {b:Nat}{bZ:Array MapEntry}{c:Nat}(hb:w.heap[b]? = some (.map bZ c)):(getObj b).run P w = .ok (.map bZ c) w:=by simp[getObj,Sem.run,hb]
theorem Mi {kt:TypeId}{k:AV}(hc:nc P 20 kt k=true):∃ d,P.underlying kt=some d:=by
 cases hq:P.underlying kt with
 | none=>simp[nc,hq] at hc
 | some d=>exact⟨d,rfl⟩
theorem VR.pair {a b:AV}{a' b':Value}(ha:VR e a a')(hb:VR e b b'):VR e (.tuple [a,b]) (.tuple #[a',b']):=
 .tuple' (.cons ha (.cons hb (.nil e)))
theorem ake (h:RH G F W e H w){t:TypeId}{x k v:AV}{x' k':Value}{ok:Bool}(hx:VR e x x')(hk:VR e k k')(hl:zz P t x k ok H=some v) :
  ∃ v',(Instr.lookup t x' k' ok).run P w = .ok v' w/\VR e v v':=by
 unfold zz at hl
 split at hl
 ·rename_i kt el hu
  cases hc:nc P 20 kt k with
  | false=>rw[hc] at hl;cases hl
  | true=>
  rw[hc] at hl
  simp only[cond_true] at hl
  have uX:∀ emp,(Instr.checkKey emp 10000 kt k').run P w = .ok () w:=fun emp=>Mm w emp 20 10000 (by decide) kt k k' hk hc
  obtain⟨kd,cE⟩:=Mi hc
  split at hl
  ·rename_i es c hm
   have fin:∀ (fs bZ:List MapEntry),fs.Perm bZ->gw e es fs->∃ r' v',(Instr.findKey kt k' bZ).run P w = .ok r' w/\
     (match r' with
      | some (_,v)=>Pure.pure (if ok=true then Value.tuple #[v,Value.bool true] else v)
      | none=>Functor.map (fun a=>if ok=true then Value.tuple #[a,Value.bool false] else a) (zeroValue el):Sem Value).run P w = .ok v' w/\VR e v v':=by
    intro fs bZ mM jD
    split at hl
    ·rename_i j m hf
     obtain⟨f1,m',f2,a,b,_,_,_,_,_,hv,dg⟩:=Cq (P:=P) h hk jD mM hf cE
     cases hl
     cases ok with
     | true=>exact⟨_,_,dg,by simp,hv.pair (.bool true)⟩
     | false=>exact⟨_,_,dg,by simp,hv⟩
    ·rename_i hf
     have dg:(Instr.findKey kt k' bZ).run P w = .ok none w:=Cq (P:=P) h hk jD mM hf cE
     simp only[yS,aaF] at hl
     obtain⟨z,⟨z0,⟨inf,fT,dD⟩,hz⟩,rfl⟩:=hl
     have sS:VR e z z0 := .iz hz
     cases ok with
     | true=>exact⟨_,_,dg,by simp[oh fT dD],sS.pair (.bool false)⟩
     | false=>exact⟨_,_,dg,by simp[oh fT dD],sS⟩
    ·cases hl
   rcases akU h hx hm with⟨rfl,rfl,_⟩ | ⟨i,bZ,c',fs,rfl,rfl,hg,hb,mM,jD⟩
   ·obtain⟨r',v',h1,h2,h3⟩:=fin [] [] (List.Perm.refl _) ⟨rfl,by simp⟩
    refine⟨v',?_,h3⟩
    simp[Instr.lookup,bY hu,uX,h1]
    exact h2
   ·obtain⟨r',v',h1,h2,h3⟩:=fin fs bZ.toList mM jD
    refine⟨v',?_,h3⟩
    simp[Instr.lookup,bY hu,zQ hb,uX,h1]
    exact h2
  ·cases hl
 ·cases hl
theorem D2 {b:Nat}{o:Obj}{bZ:Array MapEntry}{c:Nat}(hb:w.heap[b]? = some (.map bZ c)):(Go.setObj b o).run P w = .ok () { w with heap:=w.heap.setIfInBounds b o }:=by
 simp[Go.setObj,Sem.run,hb]
theorem RH.JF (h:RH G F W e H w){i:Nat}{es XH:List ME}{c c2:Nat}(hg:H.h.get i=some (.map es c)){bZ:Array MapEntry}{c':Nat}{fs:List MapEntry}(hp:fs.Perm bZ.toList)(hm:gw e XH fs)(hn:(fs.map (·.born)).Nodup)(hb:∀ x∈fs,x.born<c') :
  RH G F W e (Am.setObj H i (.map XH c2)) { w with heap:=w.heap.setIfInBounds (e.b i) (.map bZ c') }:=by
 obtain⟨_,es0,c0,_,gF,_⟩:=yx h hg
 have bW:=(abH.1 gF).1
 refine h.put hg rfl (nB := .map bZ c') (by simp) (by simp[bW]) (fun k hk => ?_) (.map _ _ _ _ fs hp hm hn hb) rfl rfl rfl
 simp only
 rw[aez (fun q=>hk q.symm)]
theorem gw.snoc {es:List ME}{bZ:List MapEntry}(h:gw e es bZ){m:ME}{m':MapEntry}(h1:VR e m.key m'.key)(h2:VR e m.val m'.val):gw e (es++[m]) (bZ++[m']):=by
 refine⟨by simp[h.1],fun i x y hx hy => ?_⟩
 by_cases hi:i<es.length
 ·rw[abi hi] at hx
  rw[abi (by rw[h.1];exact hi)] at hy
  exact h.2 i x y hx hy
 ·rw[abM (by omega)] at hx
  rw[abM (by rw[h.1];omega),h.1] at hy
  have:i-es.length=0:=by
   have:=(aaL.1 hx).1
   simp at this;omega
  rw[this] at hx hy
  simp at hx hy
  subst hx;subst hy
  exact⟨h1,h2⟩
theorem gw.set {es:List ME}{bZ:List MapEntry}(h:gw e es bZ)(j:Nat){m:ME}{m':MapEntry}(h1:VR e m.key m'.key)(h2:VR e m.val m'.val):gw e (es.set j m) (bZ.set j m'):=by
 refine⟨by simp[h.1],fun i x y hx hy => ?_⟩
 rw[List.getElem?_set] at hx hy
 split at hx
 ·rename_i hj
  rw[if_pos hj] at hy
  split at hx
  ·split at hy
   ·cases hx;cases hy;exact⟨h1,h2⟩
   ·cases hy
  ·cases hx
 ·rename_i hj
  rw[if_neg hj] at hy
  exact h.2 i x y hx hy
theorem gw.erase {es:List ME}{bZ:List MapEntry}(h:gw e es bZ)(j:Nat):gw e (es.eraseIdx j) (bZ.eraseIdx j):=by
 refine⟨by simp[List.length_eraseIdx,h.1],fun i x y hx hy => ?_⟩
 rw[List.getElem?_eraseIdx] at hx hy
 split at hx
 ·rename_i hj;rw[if_pos hj] at hy;exact h.2 i x y hx hy
 ·rename_i hj;rw[if_neg hj] at hy;exact h.2 _ x y hx hy
theorem XN (h:RH G F W e H w){t:TypeId}{x k v:AV}{x' k' v':Value}{H':Hp}(hx:VR e x x')(hk:VR e k k')(hv:VR e v v')(hl:tT P t x k v H=some H') :
  ∃ w',(Instr.mapUpdate t x' k' v').run P w = .ok () w'/\RH G F W e H' w':=by
 unfold tT at hl
 split at hl
 ·rename_i kt el i hu
  cases hc:nc P 20 kt k with
  | false=>rw[hc] at hl;cases hl
  | true=>
  rw[hc] at hl
  simp only[cond_true] at hl
  have uX:∀ emp,(Instr.checkKey emp 10000 kt k').run P w = .ok () w:=fun emp=>Mm w emp 20 10000 (by decide) kt k k' hk hc
  obtain⟨kd,cE⟩:=Mi hc
  obtain⟨hi,rfl⟩:=hx.Hd
  split at hl
  ·rename_i es c hg
   obtain⟨_,bZ,c',fs,hb,mM,jD,dh,rf⟩:=yx h hg
   split at hl
   ·rename_i j m hf
    cases hs:Hz m.key k with
    | false=>rw[hs] at hl;cases hl
    | true=>
    rw[hs] at hl
    cases hl
    obtain⟨f1,m',f2,a,b,rfl,rfl,iu,tN,EL,hmv,dg⟩:=Cq (P:=P) h hk jD mM hf cE
    have lL:bZ.toList[a.length]? = some m':=by rw[iu,abM (zf _),ahr];rfl
    have hsb:Instr.sameBits 10000 m'.key k'=true:=EL.plain hk hs
    have wI:bZ[a.length]? = some m':=by rw[<-acF];exact lL
    have al5:bZ.modify a.length (fun e=>{ e with key:=k',val:=v' })=(bZ.toList.set a.length { m' with key:=k',val:=v' }).toArray:=by
     apply Array.ext_getElem?
     intro q
     have e1:∀ l:List MapEntry,l.toArray[q]? = l[q]? := fun l=>by simp
     refine aaM ?_ (e1 _).symm
     rw[Array.getElem?_modify,List.getElem?_set,acF]
     by_cases hq:a.length=q
     ·subst hq
      have bW:=(abH.1 wI).1
      rw[if_pos rfl,if_pos rfl,if_pos (by simpa using bW),wI];rfl
     ·rw[if_neg hq,if_neg hq]
    have je:∀ (p q:List MapEntry) (x y:MapEntry),(p++x::q).set p.length y=p++y::q:=fun p q x y=>by
     rw[List.set_append_right _ _ (zf _),ahr];rfl
    have oq:((f1++m'::f2).set f1.length { m' with key:=k',val:=v' }).Perm (bZ.toList.set a.length { m' with key:=k',val:=v' }):=by
     rw[iu,je,je]
     exact (List.perm_middle.trans (tN.cons _)).trans List.perm_middle.symm
    have zu:((f1++m'::f2).set f1.length { m' with key:=k',val:=v' }).map (·.born)=(f1++m'::f2).map (·.born):=by
     rw[je];simp
    refine⟨{ w with heap:=w.heap.setIfInBounds (e.b i) (.map (bZ.toList.set a.length { m' with key:=k',val:=v' }).toArray c') },?_,
     h.JF hg (fs:=(f1++m'::f2).set f1.length { m' with key:=k',val:=v' }) (by simpa using oq) (jD.set (m:={ m with key:=k,val:=v }) (m':={ m' with key:=k',val:=v' }) f1.length hk hv) (by rw[zu];exact dh) (fun x hx => ?_)⟩
    ·simp[Instr.mapUpdate,bY hu,zQ hb,uX,dg,wI,Instr.keyThatStays,hsb,D2 hb,al5]
    ·rw[je] at hx
     rcases aac.1 hx with hx | hx
     ·exact rf x (aaz _ hx)
     ·rcases aap.1 hx with rfl | hx
      ·exact rf m' (by simp)
      ·exact rf x (by simp[hx])
   ·rename_i hf
    cases hl
    have dg:(Instr.findKey kt k' bZ.toList).run P w = .ok none w:=Cq (P:=P) h hk jD mM hf cE
    refine⟨{ w with heap:=w.heap.setIfInBounds (e.b i) (.map (bZ.push ⟨k',v',c'⟩) (c'+1)) },?_,h.JF hg (fs:=fs++[⟨k',v',c'⟩]) (by rw[Array.toList_push];exact mM.append_right _) (jD.snoc (m:=⟨k,v,c⟩) (m':=⟨k',v',c'⟩) hk hv) ?_ ?_⟩
    ·simp[Instr.mapUpdate,bY hu,zQ hb,uX,dg,D2 hb]
    ·rw[abz,acd]
     refine⟨dh,by simp,fun x hx y hy => ?_⟩
     obtain⟨z,hz,rfl⟩:=abn.1 hx
     have:=rf z hz
     simp at hy
     omega
    ·intro x hx
     rcases aac.1 hx with hx | hx
     ·have:=rf x hx;omega
     ·rw[yX] at hx;subst hx;exact aeE _
   ·cases hl
  ·cases hl
 ·cases hl
theorem alH (h:RH G F W e H w){cM:Array TypeId}{ty:TypeId}{x k:AV}{x' k':Value}{H':Hp}(hx:VR e x x')(hk:VR e k k')(hl:Dz P cM x k H=some H') :
  ∃ w',(Builtin.delete_ cM ty #[x',k']).run P w = .ok (.tuple #[]) w'/\RH G F W e H' w':=by
 unfold Dz at hl
 split at hl
 ·rename_i kt el hq
  obtain⟨t0,h0,hu⟩:=aaF.1 hq
  cases hc:nc P 20 kt k with
  | false=>rw[hc] at hl;cases hl
  | true=>
  rw[hc] at hl
  simp only[cond_true] at hl
  have uX:∀ emp,(Instr.checkKey emp 10000 kt k').run P w = .ok () w:=fun emp=>Mm w emp 20 10000 (by decide) kt k k' hk hc
  obtain⟨kd,cE⟩:=Mi hc
  split at hl
  ·cases hl;cases hx
   exact⟨w,by simp[Builtin.delete_,h0,bY hu,uX],h⟩
  ·rename_i i
   obtain⟨hi,rfl⟩:=hx.Hd
   split at hl
   ·rename_i es c hg
    obtain⟨_,bZ,c',fs,hb,mM,jD,dh,rf⟩:=yx h hg
    split at hl
    ·rename_i j m hf
     cases hl
     obtain⟨f1,m',f2,a,b,rfl,rfl,iu,tN,EL,hmv,dg⟩:=Cq (P:=P) h hk jD mM hf cE
     have cC:a.length<bZ.size:=by have:=congrArg List.length iu;rw[afj,aaO,abg] at this;omega
     have her:(bZ.eraseIdxIfInBounds a.length).toList=bZ.toList.eraseIdx a.length:=by simp[Array.eraseIdxIfInBounds,cC]
     have IW:∀ (p q:List MapEntry) (x:MapEntry),(p++x::q).eraseIdx p.length=p++q:=fun p q x=>by
      rw[List.eraseIdx_append_of_length_le (zf _),ahr];rfl
     refine⟨{ w with heap:=w.heap.setIfInBounds (e.b i) (.map (bZ.eraseIdxIfInBounds a.length) c') },?_,h.JF hg (fs:=(f1++m'::f2).eraseIdx f1.length) (by rw[her,iu,IW,IW];exact tN) (jD.erase f1.length) ?_ (fun x hx=>rf x ?_)⟩
     ·simp[Builtin.delete_,h0,bY hu,zQ hb,uX,dg,D2 hb]
     ·rw[IW]
      rw[abz,abc] at dh
      rw[abz]
      exact (ab0.1 ((List.perm_middle.nodup_iff).1 dh)).2
     ·rw[IW] at hx
      rcases aac.1 hx with hx | hx
      ·exact aaz _ hx
      ·exact No _ (.tail _ hx)
    ·rename_i hf
     cases hl
     have dg:(Instr.findKey kt k' bZ.toList).run P w = .ok none w:=Cq (P:=P) h hk jD mM hf cE
     have ahR:w.heap.setIfInBounds (e.b i) (.map bZ c')=w.heap:=by
      apply Array.ext_getElem?
      intro q
      by_cases hq:e.b i=q
      ·subst hq
       have bW:=(abH.1 hb).1
       rw[aff bW,hb]
      ·rw[aez hq]
     refine⟨w,?_,h⟩
     simp[Builtin.delete_,h0,bY hu,zQ hb,uX,dg,D2 hb,ahR]
    ·cases hl
   ·cases hl
  ·cases hl
 ·cases hl
theorem abF (h:RH G F W e H w){cM:Array TypeId}{ty:TypeId}{x:AV}{x':Value}{H':Hp}(hx:VR e x x')(hl:Cr P cM x H=some H') :
  ∃ w',(Builtin.clear_ cM ty #[x']).run P w = .ok (.tuple #[]) w'/\RH G F W e H' w':=by
 unfold Cr at hl
 split at hl
 ·rename_i d hq
  obtain⟨t0,h0,hu⟩:=aaF.1 hq
  cases hl;cases hx
  exact⟨w,by simp[Builtin.clear_,h0,bY hu],h⟩
 ·rename_i d hq
  obtain⟨t0,h0,hu⟩:=aaF.1 hq
  cases hl;cases hx
  exact⟨w,by simp[Builtin.clear_,h0,bY hu],h⟩
 ·rename_i d i hq
  obtain⟨t0,h0,hu⟩:=aaF.1 hq
  obtain⟨hi,rfl⟩:=hx.Hd
  split at hl
  ·rename_i es c hg
   cases hl
   obtain⟨_,bZ,c',fs,hb,mM,jD,dh,rf⟩:=yx h hg
   refine⟨{ w with heap:=w.heap.setIfInBounds (e.b i) (.map #[] c') },?_,h.JF hg (fs:=[]) (List.Perm.refl _) ⟨rfl,by simp⟩ (by simp) (by simp)⟩
   simp[Builtin.clear_,h0,bY hu,zQ hb,D2 hb]
  ·cases hl
 ·rename_i el i off n a1 a2 a3 hq
  obtain⟨t0,h0,hu⟩:=aaF.1 hq
  split at hl
  ·rename_i z hz
   obtain⟨inf,z0,fT,dD,sS⟩:=vC (e:=e) hz
   rcases hx.jJ with⟨o,c,hi,ho,kL,hc,hO,hn,rfl⟩ | ⟨rfl,_,a,rfl⟩
   ·cases n with
    | zero=>
     have:rep 0 z=[]:=rfl
     rw[this] at hl
     cases hl
     exact⟨w,by simp[Builtin.clear_,h0,bY hu],h⟩
    | succ n=>
     have iH:=sS.rep (n+1)
     obtain⟨w',vX,hr⟩:=RH.JK (P:=P) (off:=off) (k:=0) h hl iH ho
     have AY:(Builtin.zeroCells z0.cells (n+1)).toList=(List.replicate (n+1) z0.cells.toList).flatten:=UH rfl _
     refine⟨w',?_,hr⟩
     simp only[Builtin.clear_,h0,ac9,nq,Sem.run_bind,bY hu,Result.andThen_ok,oh fT dD]
     rw[AY,vX]
     simp
   ·have:rep 0 z=[]:=rfl
    rw[this] at hl
    cases hl
    exact⟨w,by simp[Builtin.clear_,h0,bY hu],h⟩
  ·cases hl
 ·cases hl
theorem akH (h:RH G F W e H w){cM:Array TypeId}{ty:TypeId}{x v:AV}{x':Value}(hx:VR e x x')(hl:xm P cM x H=some v) :
  ∃ v',(Builtin.len_ cM ty #[x']).run P w = .ok v' w/\VR e v v':=by
 unfold xm at hl
 split at hl
 ·rename_i s hq
  obtain⟨t0,h0,hu⟩:=aaF.1 hq
  obtain⟨b,rfl,rfl⟩:=hx.iS
  cases hl
  rw[uv]
  exact⟨_,by simp[Builtin.len_,h0,bY hu];rfl,.int _ _⟩
 ·rename_i n el hq
  obtain⟨t0,h0,hu⟩:=aaF.1 hq
  cases hl
  exact⟨_,by simp[Builtin.len_,h0,bY hu];rfl,.int _ _⟩
 ·rename_i el hq
  obtain⟨t0,h0,hu⟩:=aaF.1 hq
  cases hl;cases hx
  exact⟨_,by simp[Builtin.len_,h0,bY hu];rfl,.int _ _⟩
 ·rename_i el a1 a2 n a3 a4 a5 hq
  obtain⟨t0,h0,hu⟩:=aaF.1 hq
  cases hl
  rcases hx.jJ with⟨o,c,hi,ho,kL,hc,hO,hn,rfl⟩ | ⟨rfl,_,a,rfl⟩
  ·exact⟨_,by simp[Builtin.len_,h0,bY hu];rfl,.int _ _⟩
  ·exact⟨_,by simp[Builtin.len_,h0,bY hu];rfl,.int _ _⟩
 ·rename_i kt el hq
  obtain⟨t0,h0,hu⟩:=aaF.1 hq
  cases hl;cases hx
  exact⟨_,by simp[Builtin.len_,h0,bY hu];rfl,.int _ _⟩
 ·rename_i kt el i hq
  obtain⟨t0,h0,hu⟩:=aaF.1 hq
  obtain⟨hi,rfl⟩:=hx.Hd
  split at hl
  ·rename_i es c hg
   cases hl
   obtain⟨_,bZ,c',fs,hb,mM,jD,_⟩:=yx h hg
   have:es.length=bZ.size:=by have h1:=jD.1;have h2:=mM.length_eq;have h3:bZ.toList.length=bZ.size:=afj;omega
   rw[this]
   exact⟨_,by simp[Builtin.len_,h0,bY hu,zQ hb];rfl,.int _ _⟩
  ·cases hl
 ·rename_i a hq
  obtain⟨t0,h0,hu⟩:=aaF.1 hq
  split at hl
  ·rename_i n el hua
   cases hl
   exact⟨_,by simp[Builtin.len_,h0,bY hu,bY hua];rfl,.int _ _⟩
  ·cases hl
 ·cases hl
theorem amh {cM:Array TypeId}{ty:TypeId}{x v:AV}{x':Value}(hx:VR e x x')(hl:Mu P cM x=some v)(w:World) :
  ∃ v',(Builtin.cap_ cM ty #[x']).run P w = .ok v' w/\VR e v v':=by
 unfold Mu at hl
 split at hl
 ·rename_i el hq
  obtain⟨t0,h0,hu⟩:=aaF.1 hq
  cases hl;cases hx
  exact⟨_,by simp[Builtin.cap_,h0,bY hu];rfl,.int _ _⟩
 ·rename_i el a1 a2 n c a5 hq
  obtain⟨t0,h0,hu⟩:=aaF.1 hq
  cases hl
  rcases hx.jJ with⟨o,c',hi,ho,kL,hc,hO,hn,rfl⟩ | ⟨rfl,rfl,a,rfl⟩
  ·have:=hO rfl
   subst this
   exact⟨_,by simp[Builtin.cap_,h0,bY hu];rfl,.int _ _⟩
  ·exact⟨_,by simp[Builtin.cap_,h0,bY hu];rfl,.int _ _⟩
 ·cases hl
theorem UF:∀ {l:List AV} {ls:List Value} {x v:AV} {x':Value},VR e x x'->cj e l ls->Aj false x l=some v->∃ v',(ls.foldlM Builtin.min2 x').run P w = .ok v' w/\VR e v v'
 | [],ls,x,v,x',hx,hl,h=>by
  rw[hl.gg];cases h;exact⟨x',by simp,hx⟩
 | y::l,ls,x,v,x',hx,hl,h=>by
  obtain⟨y',ws,rfl,hy,pW⟩:=hl.cons_inv
  unfold Aj at h
  split at h
  ·rename_i z hz
   unfold Of at hz
   split at hz
   ·cases hx.fh;cases hy.fh;cases hz
    obtain⟨v',h1,h2⟩:=UF (.int _ _) pW h
    refine⟨v',?_,h2⟩
    simp only[List.foldlM_cons,Sem.run_bind,Builtin.min2,Sem.run_pure,Result.andThen_ok]
    exact h1
   ·cases hz
  ·cases h
theorem US:∀ {l:List AV} {ls:List Value} {x v:AV} {x':Value},VR e x x'->cj e l ls->Aj true x l=some v->∃ v',(ls.foldlM Builtin.max2 x').run P w = .ok v' w/\VR e v v'
 | [],ls,x,v,x',hx,hl,h=>by
  rw[hl.gg];cases h;exact⟨x',by simp,hx⟩
 | y::l,ls,x,v,x',hx,hl,h=>by
  obtain⟨y',ws,rfl,hy,pW⟩:=hl.cons_inv
  unfold Aj at h
  split at h
  ·rename_i z hz
   unfold Of at hz
   split at hz
   ·cases hx.fh;cases hy.fh;cases hz
    obtain⟨v',h1,h2⟩:=US (.int _ _) pW h
    refine⟨v',?_,h2⟩
    simp only[List.foldlM_cons,Sem.run_bind,Builtin.max2,Sem.run_pure,Result.andThen_ok]
    exact h1
   ·cases hz
  ·cases h
end
end
section
variable {P:Program}{G:Nat}{F:Nat->Prop}{W:World}{e:Em}{H:Hp}{w:World}
theorem aeJ (h:RH G F W e H w){cM:Array TypeId}{ty:TypeId}{d x v:AV}{d' x':Value}{H':Hp}(hd:VR e d d')(hx:VR e x x')(hl:EU P cM d x H=some (v,H')) :
  ∃ v' w',(Builtin.copy_ cM ty #[d',x']).run P w = .ok v' w'/\RH G F W e H' w'/\VR e v v':=by
 unfold EU at hl
 split at hl
 ·rename_i el hq
  obtain⟨t0,h0,hu⟩:=aaF.1 hq
  split at hl
  ·rename_i es xl hs cT
   have hlen:(Builtin.lenOf x').run P w = .ok xl w/\∀ m,(Nat.min xl m=0->(Builtin.firstCells es (Nat.min xl m) x').run P w = .ok #[] w):=by
    unfold TC at cT
    split at cT
    ·cases cT;cases hx;exact⟨by simp[Builtin.lenOf],fun m hm=>by simp[Builtin.firstCells]⟩
    ·cases cT
     rcases hx.jJ with⟨o,c,hi,ho,kL,hc,hO,hn,rfl⟩ | ⟨rfl,_,a,rfl⟩
     ·exact⟨by simp[Builtin.lenOf],fun m hm=>by simp only[Builtin.firstCells,hm,aeT];rfl⟩
     ·exact⟨by simp[Builtin.lenOf],fun m hm=>by simp only[Builtin.firstCells,hm,aeT];rfl⟩
    ·cases cT
     obtain⟨b,rfl,rfl⟩:=hx.iS
     refine⟨by simp[Builtin.lenOf,uv],fun m hm => ?_⟩
     simp only[Builtin.firstCells,hm,Sem.run_pure]
     congr 1
     apply acB.1
     simp
    ·cases cT
   obtain⟨hlen,Jd⟩:=hlen
   split at hl
   ·cases hl;cases hd
    refine⟨_,w,?_,h,.int _ _⟩
    have h1:=Jd 0 (Nat.min_zero _)
    simp only[Builtin.copy_,h0,ac9,nq,gk,Sem.run_bind,bY hu,Result.andThen_ok,hlen,fw hs,h1]
    simp[goInt]
   ·rename_i i off dl a1 a2 a3
    cases hz:Nat.beq (Nat.min xl dl) 0 with
    | true=>
     rw[hz] at hl
     cases hl
     have hm:Nat.min xl dl=0:=aaV hz
     have h1:=Jd dl hm
     rcases hd.jJ with⟨o,c,hi,ho,kL,hc,hO,hn,rfl⟩ | ⟨rfl,_,a,rfl⟩
     ·refine⟨_,w,?_,h,.int _ _⟩
      simp only[Builtin.copy_,h0,ac9,nq,gk,Sem.run_bind,bY hu,Result.andThen_ok,hlen,fw hs,h1]
      simp[goInt,storeCells,hm]
     ·refine⟨_,w,?_,h,.int _ _⟩
      simp only[Builtin.copy_,h0,ac9,nq,gk,Sem.run_bind,bY hu,Result.andThen_ok,hlen,fw hs,h1]
      simp[goInt,storeCells,hm]
    | false=>
     rw[hz] at hl
     simp only[cond_false] at hl
     split at hl
     ·rename_i cs dP
      simp only[yS,abI] at hl
      obtain⟨H2,eu,rfl,rfl⟩:=hl
      have tA:∃ vs:List Value,cj e cs vs/\(Builtin.firstCells es (Nat.min xl dl) x').run P w = .ok vs.toArray w:=by
       unfold Rn at dP
       split at dP
       ·rename_i j anZ jl b1 b2 b3
        rcases hx.jJ with⟨o,c,hi,ho,kL,hc,hO,hn,rfl⟩ | ⟨rfl,_,a,rfl⟩
        ·obtain⟨vs,q1,q2,q3⟩:=h.yV dP ho
         refine⟨vs,q1,?_⟩
         have:=run_loadCells_list (P:=P) w ⟨e.b j,o,none⟩ vs (fun k u hk=>by rw[add_lit];exact q3 k u hk)
         rw[q2] at this
         simp[Builtin.firstCells,this]
        ·cases cT
         have:Nat.min 0 dl=0:=Nat.zero_min _
         rw[this] at hz;cases hz
       ·obtain⟨b,rfl,rfl⟩:=hx.iS
        cases dP
        cases cT
        refine⟨((b.extract 0 (Nat.min (bytes b).length dl)).data.toList).map fun u=>Value.int .u8 u.toNat,?_,?_⟩
        ·have gF:=cj.U3 b 0 (Nat.min (bytes b).length dl)
         rw[adE,adD] at gF
         rw[gF]
         refine⟨by simp[bytes],fun k u v' hu cH => ?_⟩
         simp only[bytes,afg,acD,yS] at hu cH
         obtain⟨p,hp,rfl⟩:=hu
         obtain⟨p',x0,rfl⟩:=cH
         rw[hp] at x0;cases x0
         exact .int _ _
        ·simp only[Builtin.firstCells,Sem.run_pure]
         congr 1
         apply acB.1
         simp
       ·cases dP
      obtain⟨vs,hvl,hfc⟩:=tA
      rcases hd.jJ with⟨o,c,hi,ho,kL,hc,hO,hn,rfl⟩ | ⟨rfl,_,a,rfl⟩
      ·obtain⟨w',vX,hr⟩:=RH.JK (P:=P) (off:=off) (k:=0) h eu hvl ho
       refine⟨_,w',?_,hr,.int _ _⟩
       simp only[Builtin.copy_,h0,ac9,nq,gk,Sem.run_bind,bY hu,Result.andThen_ok,hlen,fw hs,hfc,vX]
       simp[goInt]
      ·have:Nat.min xl 0=0:=Nat.min_zero _
       rw[this] at hz;cases hz
     ·cases hl
   ·cases hl
  ·cases hl
 ·cases hl
theorem aiI {el:TypeId}(hc:P.cellsOf el=1)(count o n:Nat)(hn:o+n<=count):liesAt P P.depth el count o el n=true:=by
 have hd:P.depth=(2*(P.types.size+Made.depth)+1)+1:=rfl
 rw[hd]
 simp only[liesAt,af0]
 left
 rw[hd]
 simp[rowAt,hc,hn,sameLayout,Nat.mod_one]
theorem ag7 {b:Nat}(w:World):∀ (us:List UInt8) (o:Nat) (acc:ByteArray),(∀ j v,(us.map (fun u=>Value.int .u8 u.toNat))[j]? = some v->w.cell? ⟨b,o+j,none⟩=some v)->
  (loadBytes ⟨b,o,none⟩ acc us.length).run P w = .ok ⟨acc.data++us.toArray⟩ w
 | us,o,acc,h=>by
  have:=Go.Lib.run_loadBytes (P:=P) w us ⟨b,o,none⟩ acc (fun j x hj=>by rw[add_lit];exact h j _ (by simp[hj]))
  exact this
theorem aku {b o n:Nat}{C:Array Value}{el:TypeId}{fz:Nat × Nat}(db:w.heap[b]? = some (.cells C el fz))(hn:¬ n=0) :
  ∃ fz2,(w.freeze ⟨b,o,none⟩ n).heap[b]? = some (.cells C el fz2)/\(∀ k,k≠b->(w.freeze ⟨b,o,none⟩ n).heap[k]? = w.heap[k]?)/\(w.freeze ⟨b,o,none⟩ n).heap.size=w.heap.size:=by
 simp only[World.freeze,if_neg hn]
 refine⟨_,GU _ _ _ db,fun k hk=>Fu _ _ _ _ (fun q=>hk q.symm),by simp⟩
theorem ahY (h:RH G F W e H w){cM:Array TypeId}{ty:TypeId}{p v:AV}{n:Int}{k:IntKind}{p':Value}{H':Hp}(hp:VR e p p')(hl:P5 P cM p k n H=some (v,H')) :
  ∃ v' w',(Builtin.unsafeString_ cM ty #[p',.int k n]).run P w = .ok v' w'/\RH G F W e H' w'/\VR e v v':=by
 have rT:IntKind.i64.max=9223372036854775807:=rfl
 unfold P5 at hl
 split at hl
 rotate_left
 ·cases hl
 rename_i t0 t1 jy
 obtain rfl:cM = #[t0,t1]:=acB.1 jy
 have CS:∀ q:Option Addr,n=0->(Builtin.unsafeString_ #[t0,t1] ty #[.pointer q,.int .i64 n]).run P w = .ok (.string .empty) w:=by
  intro q hn
  subst hn
  exact Go.Lib.run_unsafeString_none (P:=P) w t0 t1 ty q
 split at hl
 ·rename_i el hu
  cases hp
  split at hl
  ·rename_i hn;cases hl
   exact⟨.string .empty,w,CS _ hn,h,.str .empty⟩
  ·cases hl
 ·rename_i el i off hu
  obtain⟨o,hi,ho,rfl⟩:=hp.jX
  split at hl
  ·rename_i hn;cases hl
   exact⟨.string .empty,w,CS _ hn,h,.str .empty⟩
  ·rename_i mO
   split at hl
   ·rename_i c lo eG qC fl hg
    split at hl
    ·rename_i hc
     obtain⟨rfl,rK,mz,rU,mK⟩:=hc
     simp only[yS,aaF,abI] at hl
     obtain⟨bs,⟨cs,dP,Ap⟩,rfl,rfl⟩:=hl
     obtain⟨vs,q1,q2,q3⟩:=h.yV dP ho
     obtain⟨us,rfl,rfl⟩:=S4 Ap q1
     rw[acs] at q2
     obtain⟨_,ob,db,da,hF⟩:=h.obj i _ hg
     cases da with
     | cells _ _ _ _ _ C fz hn eO Pt h1 hd=>
     have mY:o+n.toNat<=C.size:=by
      obtain⟨m,hm⟩:∃ m,us.length=m+1:=⟨us.length-1,by omega⟩
      have hq:=q3 m (Value.int .u8 (us[m]'(by omega)).toNat) (by simp[hm])
      simp only[World.cell?,db] at hq
      have vH:=(abH.1 hq).1
      omega
     have tH:w.shape? (e.b i)=some (el,C.size):=by simp[World.shape?,db]
     have hva:liesAt P P.depth el (C.size / P.cellsOf el) o el n.toNat=true:=by
      rw[rK,Nat.div_one];exact aiI rK _ _ _ mY
     have Yq:=ag7 (P:=P) (b:=e.b i) w us o .empty q3
     rw[q2] at Yq
     have zI:¬ (n>IntKind.i64.max):=by rw[rT];omega
     have Xj:¬ n<0:=by omega
     have zE:Builtin.unsafeString_ #[t0,t1] ty #[.pointer (some ⟨e.b i,o,none⟩),.int .i64 n]=
      (do
       let n <-asInt (.int .i64 n)
       if n<0 then runtimePanic (.error "unsafe.String: len out of range")
       if n>IntKind.i64.max then unsupported (.unsafePointer "String: a length above the largest int")
       if n=0 then Pure.pure (.string .empty)
       else if <-variablesAt ⟨e.b i,o,none⟩ (<-elemOf t0) n.toNat then do
        let s <-loadBytes ⟨e.b i,o,none⟩ .empty n.toNat
        Go.freeze ⟨e.b i,o,none⟩ n.toNat
        Pure.pure (.string s)
       else unsupported (.unsafePointer "String: not so many bytes at ptr")) := rfl
     have zU:¬ (9223372036854775807<n):=by omega
     have pE:¬ n.toNat=0:=by omega
     obtain⟨fz2,g1,g2,g3⟩:=aku (w:=w) (o:=o) db pE
     refine⟨.string ⟨us.toArray⟩,w.freeze ⟨e.b i,o,none⟩ n.toNat,?_,?_,.str ⟨us.toArray⟩⟩
     ·rw[zE]
      simp[asInt,asIntOf,rT,Xj,zU,mO,elemOf,bY hu,variablesAt,tH,hva,Yq]
     ·refine h.put hg (by simp[wr,mK]) g3 g1 g2 (.cells _ _ _ _ _ _ _ hn eO (by simp) (by simp) hd) ?_ ?_ ?_
      ·simp[World.freeze,pE]
      ·simp[World.freeze,pE]
      ·simp[World.freeze,pE]
    ·cases hl
   ·cases hl
 ·cases hl
end
end Go.Proofs.YtbdlbhlhnpblpaaGreatDoor.Am
