/- Laws that the proof uses. -/
import Derived.Test.YtodfajmihkagnaaGreatDoorAm2
set_option maxHeartbeats 1000000
set_option linter.unusedVariables false
set_option linter.unusedSimpArgs false
namespace Go.Proofs.YtodfajmihkagnaaGreatDoor.Am
section
section
section
section
variable {P:Program}{G:Nat}{F:Nat->Prop}{W:World}{e:Em}{H:Hp}{w:World}
theorem UU (n:Nat):∀ (r c:Nat),c<=2*n+192->Builtin.growBy n r c<=2*n+192
 | 0,c,h=>h
 | r+1,c,h=>by
  unfold Builtin.growBy
  split
  ·exact h
  ·exact UU n r _ (by omega)
theorem nextslicecap_le {Ks cap:Nat}(h:cap<Ks):Builtin.nextslicecap Ks cap<=2*Ks+192:=by
 unfold Builtin.nextslicecap
 split
 ·omega
 ·split
  ·omega
  ·exact UU Ks 4 cap (by omega)
theorem aiV (b o el:Nat)(fz:Nat × Nat):∀ (vs:List Value) (k:Nat) (w:World) (C:Array Value),w.heap[b]? = some (.cells C el fz)->o+k+vs.length<=C.size->
  (∀ m,m<C.size->(decide (fz.1<=m)&&decide (m<fz.2))=false)->(∀ v∈vs,v.oneCell'=true)->
  ∃ w' C',(storeCells ⟨b,o,none⟩ vs k).run P w = .ok () w'/\w'.heap[b]? = some (.cells C' el fz)/\C'.size=C.size/\
   (∀ m,C'[m]? = if o+k<=m/\m<o+k+vs.length then vs[m-(o+k)]? else C[m]?)/\(∀ j,j≠b->w'.heap[j]? = w.heap[j]?)/\w'.heap.size=w.heap.size/\w'.os=w.os/\w'.tape=w.tape/\w'.output=w.output:=by
 intro vs
 induction vs with
 | nil=>
  intro k w C hb hs hf h1
  exact⟨w,C,by simp[storeCells],hb,rfl,fun m=>by rw[if_neg (by rw[acG];omega)],fun _ _=>rfl,rfl,rfl,rfl,rfl⟩
 | cons v vs ih=>
  intro k w C hb hs hf h1
  simp only[aaL] at hs
  have aJ:o+k<C.size:=by omega
  have hc:w.cell? ⟨b,o+k,none⟩=some C[o+k]:=by simp[World.cell?,hb,aJ]
  have Jn:w.frozen? ⟨b,o+k,none⟩=false:=by simp only[World.frozen?,hb];exact hf _ aJ
  have uK:(w.setCell ⟨b,o+k,none⟩ v).heap[b]? = some (.cells (C.setIfInBounds (o+k) v) el fz):=by
   simp only[World.setCell];rw[CX _ _ _ hb];rfl
  obtain⟨w',C',r1,r2,r3,r4,r5,r6,r7,r8,r9⟩:=ih (k+1) _ _ uK (by simp;omega) (by simpa using hf) (fun u hu=>h1 u (List.mem_cons_of_mem _ hu))
  refine⟨w',C',?_,r2,by simpa using r3,fun m => ?_,fun j hj => ?_,?_,r7,r8,r9⟩
  ·simp only[storeCells,Sem.run_bind,add_lit,run_store P w _ _ _ (h1 v (List.mem_cons_self ..)),hc,Jn,aby,if_false,Result.andThen_ok]
   exact r1
  ·rw[r4 m]
   simp only[aaL]
   by_cases hm:m=o+k
   ·subst hm
    rw[if_neg (by omega),if_pos (by omega),afY (by omega)]
    simp
   ·by_cases hr:o+(k+1)<=m/\m<o+(k+1)+vs.length
    ·rw[if_pos hr,if_pos (by omega)]
     have:m-(o+k)=(m-(o+(k+1)))+1:=by omega
     rw[this,ac1]
    ·rw[if_neg hr,if_neg (by omega),aex (by omega)]
  ·rw[r5 j hj]
   simp only[World.setCell]
   rw[Cf _ _ _ _ (fun q=>hj q.symm)]
  ·rw[r6];simp[World.setCell]
theorem RH.del (h:RH G F W e H w)(i:Nat):RH G F W e { H with h:=H.h.del i } w:=by
 have ey:∀ j o,(H.h.del i).get j=some o->H.h.get j=some o/\j≠i:=by
  intro j o hj
  rw[Tr.F3] at hj
  split at hj
  ·cases hj
  ·exact⟨hj,by assumption⟩
 exact⟨h.N,fun j o hj=>h.obj j o (ey j o hj).1,fun j k oj ok hj hk hq=>h.inj j k oj ok (ey j oj hj).1 (ey k ok hk).1 hq,h.pK,h.frame,h.os,h.tape,h.output,h.size,h.lC⟩
theorem RH.move (h:RH G F W e H w){i:Nat}{o o':AO}(hg:H.h.get i=some o)(hw:wr o=true){j:Nat}{H':Hp}(ha:Am.alloc { H with h:=H.h.del i } o'=some (j,H'))
  {pf:Obj} {w':World} (ez:w'.heap.size=w.heap.size) (hb:w'.heap[e.b i]? = some pf) (aO:∀ k,k≠e.b i->w'.heap[k]? = w.heap[k]?)
  (dO:OR (e.ext (e.b i) (e.d i) (e.n i)) j o' pf) (os:w'.os=w.os) (tape:w'.tape=w.tape) (output:w'.output=w.output) :
  j=e.N/\RH G F W (e.ext (e.b i) (e.d i) (e.n i)) H' w':=by
 obtain⟨rfl,akb,rfl⟩:=vz ha
 obtain⟨hN,ob,dV,_,hF⟩:=h.obj i o hg
 have AT:=h.N
 have hle:=Em.pq e (e.b i) (e.d i) (e.n i)
 have ey:∀ k x,((H.h.del i).put 34 H.next o').get k=some x->(k=H.next/\x=o')\/(k≠H.next/\k≠i/\H.h.get k=some x):=by
  intro k x hk
  rw[Tr.put,Tr.fj] at hk
  split at hk
  ·cases hk;exact .inl ⟨by assumption,rfl⟩
  ·rw[Tr.F3] at hk
   split at hk
   ·cases hk
   ·exact .inr ⟨by assumption,by assumption,hk⟩
 have fg:∀ k x,H.h.get k=some x->(e.ext (e.b i) (e.d i) (e.n i)).b k=e.b k:=fun k x hk=>(hle.2 k (h.obj k x hk).1).1
 refine⟨AT.symm,?_,?_,?_,?_,?_,os.trans h.os,tape.trans h.tape,output.trans h.output,by rw[ez];exact h.size,by obtain⟨g1,g2,g3⟩:=h.lC;rw[ez,(hle.2 G g2).2.2];simp[Em.ext];omega⟩
 ·simp[Em.ext,AT]
 ·intro k x hk
  rcases ey k x hk with⟨rfl,rfl⟩ | ⟨k1,k2,k3⟩
  ·refine⟨by simp[Em.ext,AT],pf,?_,dO,?_⟩
   ·rw[<-AT,Em.mO];exact hb
   ·intro _;rw[<-AT,Em.mO];exact hF (.inl hw)
  ·obtain⟨a,oV,b2,c2,d2⟩:=h.obj k x k3
   refine⟨by simp[Em.ext];omega,oV,?_,c2.mono hle a,?_⟩
   ·rw[fg k x k3,aO _ (fun q=>k2 (h.inj i k o x hg k3 (.inl hw) q.symm).symm)];exact b2
   ·intro GF;rw[fg k x k3,(hle.2 G h.lC.2.1).2.2] at GF;rw[fg k x k3];exact d2 GF
 ·intro k m x y hk hm hq he
  rcases ey k x hk with⟨rfl,rfl⟩ | ⟨k1,k2,k3⟩<;>rcases ey m y hm with⟨rfl,rfl⟩ | ⟨m1,m2,m3⟩
  ·rfl
  ·rw[<-AT,Em.mO,fg m y m3] at he
   exact absurd (h.inj i m o y hg m3 (.inl hw) he).symm m2
  ·rw[<-AT,Em.mO,fg k x k3] at he
   exact absurd (h.inj i k o x hg k3 (.inl hw) he.symm).symm k2
  ·rw[fg k x k3,(hle.2 G h.lC.2.1).2.2] at hq
   rw[fg k x k3,fg m y m3] at he
   exact h.inj k m x y k3 m3 hq he
 ·intro g ju
  obtain⟨a,b,c⟩:=h.pK g ju
  obtain⟨x,y,_⟩:=hle.2 g a
  exact⟨by simp[Em.ext];omega,x.trans b,y.trans c⟩
 ·intro k hk
  obtain⟨a,b⟩:=h.frame k hk
  refine⟨by rw[ez];exact a,?_⟩
  rw[aO k (fun q=>hF (.inl hw) (q▸hk))]
  exact b
theorem YQ {z:Array Value}{es:Nat}(hz:z.size=es)(n:Nat):(Builtin.zeroCells z n).toList=(List.replicate n z.toList).flatten:=by
 unfold Builtin.zeroCells
 exact Ye z n
theorem alJ (h:RH G F W e H w){eW:Bool}{el es n:Nat}{x:AV}{x':Value}{new:List AV}(hx:VR e x x')(hs:sz P el=some es)(hn:Gz P eW el es x H=some (n,new)) :
  ∃ nv:List Value,aP e new nv/\nv.length=n*es/\
   (eW=true->∃ k:Int,x' = .int .i64 k/\0<=k/\k<16777216/\k.toNat=n/\∃ i z0,P.info? el=some i/\i.zero=some z0/\z0.cells.size=es/\nv=(List.replicate n z0.cells.toList).flatten)/\
   (eW=false->∀ w1:World,w1.heap=w.heap->(Builtin.lenOf x').run P w1 = .ok n w1/\(Builtin.firstCells es n x').run P w1 = .ok nv.toArray w1):=by
 unfold Gz at hn
 split at hn
 ·rename_i k
  cases hx.fE
  split at hn
  ·rename_i hk
   split at hn
   ·rename_i z hz
    split at hn
    ·rename_i yw
     cases hn
     obtain⟨i,z0,hi,ft,hl⟩:=wK (e:=e) hz
     have ez:z0.cells.size=es:=by have:=hl.1;simp at this;omega
     refine⟨_,hl.rep _,?_,fun _=>⟨k,rfl,hk.1,hk.2,rfl,i,z0,hi,ft,ez,rfl⟩,by simp⟩
     simp[ez]
    ·cases hn
   ·cases hn
  ·cases hn
 ·cases hn;cases hx
  exact⟨[],.nil e,by simp,by simp,fun _ w1 wM=>⟨by simp[Builtin.lenOf],by simp[Builtin.firstCells]⟩⟩
 ·rename_i i off len a1 a2 a3
  simp only[aaa,acn] at hn
  obtain⟨l,hl,rfl,rfl⟩:=hn
  rcases hx.lj with⟨o,k,oB,ho,kO,xS,iL,gL,rfl⟩ | ⟨rfl,_,a,rfl⟩
  ·obtain⟨cs,h1,h2,h3⟩:=h.yZ hl ho
   refine⟨cs,h1,h2,by simp,fun _ w1 wM=>⟨by simp[Builtin.lenOf],?_⟩⟩
   have:=run_loadCells_list (P:=P) w1 ⟨e.b i,o,none⟩ cs (fun j v hj=>by rw[add_lit];have q:=h3 j v hj;unfold World.cell? at q ⊢;rw[wM];exact q)
   rw[h2] at this
   simp[Builtin.firstCells,this]
  ·rw[ahi] at hl
   cases hl
   refine⟨[],.nil e,by simp,by simp,fun _ w1 wM=>⟨by simp[Builtin.lenOf],?_⟩⟩
   simp[Builtin.firstCells,loadCells,loadCellsFrom]
 ·rename_i s
  obtain⟨b,rfl,rfl⟩:=hx.lU
  split at hn
  ·rename_i rj
   subst rj
   simp only[acV,acn] at hn
   obtain⟨rfl,rfl⟩:=hn
   refine⟨b.data.toList.map fun u=>Value.int .u8 u.toNat,?_,?_,by simp,fun _ w1 wM=>⟨by simp[Builtin.lenOf,vK],?_⟩⟩
   ·refine⟨by simp[bytes],fun i v v' hv bQ => ?_⟩
    simp only[bytes,ajf,adL,aaa] at hv bQ
    obtain⟨u,hu,rfl⟩:=hv
    obtain⟨u',iS,rfl⟩:=bQ
    rw[hu] at iS;cases iS
    exact .int _ _
   ·simp[bytes]
   ·simp only[Builtin.firstCells,vK]
    have:b.extract 0 b.size=b:=ByteArray.extract_zero_size
    rw[this]
    simp only[Sem.run_pure]
    congr 1
    apply adB.1
    simp
  ·cases hn
 ·cases hn
theorem MG {bV:Array TypeId}{eW:Bool}(h:B7 P bV=some eW) :
  (bV[1]? = none/\eW=false)\/∃ t d,bV[1]? = some t/\P.underlying t=some d/\Builtin.append_.match_1 (fun _=>Bool) d (fun _=>true) (fun _=>false)=eW:=by
 unfold B7 at h
 split at h
 ·rename_i t ht
  simp only[aaa] at h
  obtain⟨d,hd,rfl⟩:=h
  refine .inr ⟨t,d,ht,hd,?_⟩
  cases d<;>rfl
 ·rename_i ht
  cases h
  exact .inl ⟨ht,rfl⟩
theorem A6 {bV:Array TypeId}{ty:TypeId}{eW:Bool}{t0 el es n:Nat}{s' x':Value}{base:Option Addr}{gT mb:Nat}{nv:List Value}{i:TypeInfo}{z0:Value}
  (h0:bV[0]? = some t0) (hu:P.underlying t0=some (.slice el)) (hz:B7 P bV=some eW) (hs:sz P el=some es) (mq:P.bytesOf el<=4096)
  (hi:P.info? el=some i) (ft:i.zero=some z0) (sX:z0.cells.size=es)
  (oU:s' = .slice base gT mb) (aO:gT+n<=16777216) (pz:nv.length=n*es)
  (wL:eW=true->∃ k:Int,x' = .int .i64 k/\0<=k/\k<16777216/\k.toNat=n/\∃ i z0,P.info? el=some i/\i.zero=some z0/\z0.cells.size=es/\nv=(List.replicate n z0.cells.toList).flatten)
  (xe:eW=false->∀ w1:World,w1.heap=w.heap->(Builtin.lenOf x').run P w1 = .ok n w1/\(Builtin.firstCells es n x').run P w1 = .ok nv.toArray w1) :
  (gT+n<=mb->∀ w',(∀ a,base=some a->(storeCells (a.add (gT*es)) nv).run P w = .ok () w')->(base=none->w'=w)->
   (Builtin.append_ bV ty #[s',x']).run P w = .ok (.slice base (gT+n) mb) w')/\
  (mb<gT+n->∀ ov:List Value,(∀ w1:World,w1.heap=w.heap->(Builtin.firstCells es gT s').run P w1 = .ok ov.toArray w1)->
   ∃ c,gT+n<=c/\(Builtin.append_ bV ty #[s',x']).run P w=
    .ok (.slice (some ⟨w.heap.size,0,none⟩) (gT+n) c) { w with drawn:=w.drawn+1,heap:=w.heap.push (.cells (ov++nv++(List.replicate (c-(gT+n)) z0.cells.toList).flatten).toArray el (0,0)) }):=by
 have ez:=fun w=>gQ (P:=P) hs w
 have Rm:i.bytes<=4096:=by unfold Program.bytesOf at mq;rw[hi] at mq;simpa using mq
 subst oU
 have Db:¬ (((gT+n:Nat):Int)>IntKind.i64.max):=by rw[IntKind.max_i64];omega
 have IU:∀ c,(Builtin.zeroCells z0.cells c)=(List.replicate c z0.cells.toList).flatten.toArray:=fun c=>adB.1 (by rw[YQ sX])
 have YH:mb<gT+n->¬ (Builtin.nextslicecap (gT+n) mb*i.bytes>2 ^ 48):=by
  intro aJ
  have h1:=nextslicecap_le aJ
  have:Builtin.nextslicecap (gT+n) mb*i.bytes<=(2*16777216+192)*4096:=Nat.mul_le_mul (by omega) Rm
  omega
 have GY:(Question.appendCap (gT+n) mb el).forced=false:=rfl
 have zd:gT+n<=(Question.appendCap (gT+n) mb el).cut (w.tape w.drawn (.appendCap (gT+n) mb el)):=Nat.le_add_right _ _
 cases eW with
 | false=>
  have hf:=xe rfl
  constructor
  ·intro hle w' aC B0
   obtain⟨f1,f2⟩:=hf w rfl
   have fin:(do
     let new <-Builtin.firstCells es n x'
     match base with
     | some a=>do storeCells (a.add (gT*es)) new.toList;Pure.pure (Value.slice base (gT+n) mb)
     | x=>Pure.pure (Value.slice base (gT+n) mb):Sem Value).run P w = .ok (.slice base (gT+n) mb) w':=by
    cases base with
    | none=>simp[f2,B0 rfl]
    | some a=>simp[f2,aC a rfl]
   rcases MG (P:=P) hz with⟨h1,_⟩ | ⟨t,d,h1,hd,hm⟩
   ·simp[Builtin.append_,h0,h1,aH hu,ez,f1,hle] at fin ⊢
    exact fin
   ·simp only[Builtin.append_,h0,h1,aet,adg,ac1,Sem.run_bind,aH hu,aH hd,Result.andThen_ok,ez,Sem.run_pure]
    rw[hm]
    simp[f1,hle] at fin ⊢
    exact fin
  ·intro aJ ov tJ
   refine⟨_,zd,?_⟩
   have hb:=YH aJ
   have JS:¬ (gT+n<=mb):=by omega
   obtain⟨f1,_⟩:=hf w rfl
   obtain⟨_,f2⟩:=hf { w with drawn:=w.drawn+1 } rfl
   have o1:=tJ { w with drawn:=w.drawn+1 } rfl
   rcases MG (P:=P) hz with⟨h1,_⟩ | ⟨t,d,h1,hd,hm⟩
   ·simp only[Builtin.append_,h0,h1,aet,adg,ac1,Sem.run_bind,aH hu,Result.andThen_ok,ez,Sem.run_pure,aby,if_false,f1,if_neg JS,pE hi]
    rw[if_neg (fun q=>Db q.1),Sem.run_bind,pE hi,Result.andThen_ok,if_neg hb]
    simp only[Sem.run_bind,run_choose,GY,aby,if_false,air,if_true,Result.andThen_ok,pE hi,run_askRoom,o1,f2,qU hi ft,IU,newRow,run_newObj,Sem.run_pure]
    simp
   ·simp only[Builtin.append_,h0,h1,aet,adg,ac1,Sem.run_bind,aH hu,aH hd,Result.andThen_ok,ez,Sem.run_pure]
    rw[hm]
    simp only[aby,if_false,Sem.run_bind,f1,Result.andThen_ok,if_neg JS,pE hi]
    rw[if_neg (fun q=>Db q.1),Sem.run_bind,pE hi,Result.andThen_ok,if_neg hb]
    simp only[Sem.run_bind,run_choose,GY,aby,if_false,air,if_true,Result.andThen_ok,pE hi,run_askRoom,o1,f2,qU hi ft,IU,newRow,run_newObj,Sem.run_pure]
    simp
 | true=>
  obtain⟨k,rfl,k1,k2,k3,i2,z2,oB,Bc,ara,apR⟩:=wL rfl
  rw[hi] at oB;cases oB
  rw[ft] at Bc;cases Bc
  have hw:IntKind.i64.wrap k=k:=IntWalk.i64_in _ (by omega)
  have mZ:¬ k*(i.bytes:Int)>2 ^ 48:=by
   have:k*(i.bytes:Int)<=16777216*4096:=Int.mul_le_mul (by omega) (by omega) (by omega) (by omega)
   omega
  have sI:¬ k<0:=by omega
  rcases MG (P:=P) hz with⟨h1,hf⟩ | ⟨t,d,h1,hd,hm⟩
  ·cases hf
  have Jb:∀ w1:World,((if n*es=0 then Pure.pure #[] else do Pure.pure (Builtin.zeroCells (<-zeroValue el).cells n)):Sem (Array Value)).run P w1 = .ok nv.toArray w1:=by
   intro w1
   by_cases kZ:n*es=0
   ·rw[if_pos kZ]
    have:nv=[]:=List.eq_nil_of_length_eq_zero (by omega)
    subst this;rfl
   ·rw[if_neg kZ]
    simp only[Sem.run_bind,qU hi ft,Result.andThen_ok,Sem.run_pure,IU,apR]
  constructor
  ·intro hle w' aC B0
   have fin:(do
     let new <- (if n*es=0 then Pure.pure #[] else do Pure.pure (Builtin.zeroCells (<-zeroValue el).cells n))
     match base with
     | some a=>do storeCells (a.add (gT*es)) new.toList;Pure.pure (Value.slice base (gT+n) mb)
     | x=>Pure.pure (Value.slice base (gT+n) mb):Sem Value).run P w = .ok (.slice base (gT+n) mb) w':=by
    rw[Sem.run_bind,Jb w]
    cases base with
    | none=>simp[B0 rfl]
    | some a=>simp[aC a rfl]
   simp only[Builtin.append_,h0,h1,aet,adg,ac1,Sem.run_bind,aH hu,aH hd,Result.andThen_ok,ez,Sem.run_pure]
   rw[hm]
   simp only[if_true,Sem.run_bind,asInt,asIntOf,Sem.run_pure,Result.andThen_ok,hw,if_neg sI,pE hi,if_neg mZ,k3,if_pos hle,aie,aby,if_false] at fin ⊢
   exact fin
  ·intro aJ ov tJ
   refine⟨_,zd,?_⟩
   have hb:=YH aJ
   have JS:¬ (gT+n<=mb):=by omega
   have o1:=tJ { w with drawn:=w.drawn+1 } rfl
   have f2:=Jb { w with drawn:=w.drawn+1 }
   simp only[Builtin.append_,h0,h1,aet,adg,ac1,Sem.run_bind,aH hu,aH hd,Result.andThen_ok,ez,Sem.run_pure]
   rw[hm]
   simp only[if_true,Sem.run_bind,asInt,asIntOf,Sem.run_pure,Result.andThen_ok,hw,if_neg sI,pE hi,if_neg mZ,k3,if_neg JS,aie,aby,if_false]
   rw[if_neg (fun q=>Db q.1),Sem.run_bind,pE hi,Result.andThen_ok,if_neg hb]
   simp only[Sem.run_bind,run_choose,GY,aby,if_false,Result.andThen_ok,pE hi,run_askRoom,o1,f2,qU hi ft,IU,newRow,run_newObj,Sem.run_pure]
   simp
theorem VR.zD {e:Em}{b i off len cap o c es:Nat}{ex:Bool}(hb:e.b i=b)(hi:i<e.N)(ho:(o:Int)=off+e.d i)(hl:len<=c)(hc:cap<=c)(hx:ex=true->c=cap)(hn:o+c*es<=e.n i) :
  VR e (.slice i off len cap ex es) (.slice (some ⟨b,o,none⟩) len c):=by
 subst hb;exact .slice i off len cap ex es o c hi ho hl hc hx hn
theorem aP.one {new:List AV}{nv:List Value}(h:aP e new nv)(ho:new.all aY=true):∀ v∈nv,v.oneCell'=true:=by
 intro v hv
 obtain⟨i,hi⟩:=adi hv
 have aJ:i<new.length:=by rw[<-h.1];exact (aah.1 hi).1
 have h1:=h.2 i new[i] v (aai aJ) hi
 exact h1.Yh (adA.1 ho _ (List.getElem_mem aJ))
theorem Uj {b o gT mb es:Nat}{cs:List Value}(w:World)(hl:cs.length=gT*es)(h:∀ j v,cs[j]? = some v->w.cell? ⟨b,o+j,none⟩=some v) :
  ∀ w1:World,w1.heap=w.heap->(Builtin.firstCells es gT (.slice (some ⟨b,o,none⟩) gT mb)).run P w1 = .ok cs.toArray w1:=by
 intro w1 wM
 have:=run_loadCells_list (P:=P) w1 ⟨b,o,none⟩ cs (fun j v hj=>by rw[add_lit];have q:=h j v hj;unfold World.cell? at q ⊢;rw[wM];exact q)
 rw[hl] at this
 simp[Builtin.firstCells,this]
theorem adR (h:RH G F W e H w){bV:Array TypeId}{ty:TypeId}{s x v:AV}{s' x':Value}{H':Hp}(hs:VR e s s')(hx:VR e x x')(ha:Eb P bV s x H=some (v,H')) :
  ∃ v' w' e',(Builtin.append_ bV ty #[s',x']).run P w = .ok v' w'/\e.le e'/\RH G F W e' H' w'/\VR e' v v':=by
 unfold Eb at ha
 split at ha
 rotate_left
 ·cases ha
 rename_i el eW hq hz
 obtain⟨t0,h0,hu⟩:=aa6.1 hq
 split at ha
 rotate_left
 ·cases ha
 rename_i es z du BQ
 cases hb:(Nat.ble (P.bytesOf el) 4096&&Nat.beq z.length es) with
 | false=>rw[hb] at ha;cases ha
 | true=>
 rw[hb] at ha
 simp only[cond_true] at ha
 rw[aau,aer] at hb
 obtain⟨mq,yw⟩:=hb
 have aq6:z.length=es:=abp yw
 obtain⟨inf,z0,iN,ft,wO⟩:=wK (e:=e) BQ
 have sX:z0.cells.size=es:=by have:=wO.1;simp at this;omega
 split at ha
 rotate_left
 ·cases ha
 rename_i n new uN
 obtain⟨nv,hU,pz,wL,xe⟩:=alJ (P:=P) h hx du uN
 split at ha
 · -- nil
  cases hs
  cases kZ:Nat.beq n 0 with
  | true=>
   rw[kZ] at ha
   cases ha
   have:n=0:=abp kZ
   subst this
   obtain⟨r1,_⟩:=A6 (P:=P) (w:=w) (ty:=ty) (s' := .slice none 0 0) h0 hu hz du mq iN ft sX rfl (by omega) pz wL xe
   exact⟨_,w,e,r1 (aaC _) w (by simp) (fun _=>rfl),e.le_refl,h,.ah⟩
  | false=>
   rw[kZ] at ha
   simp only[cond_false] at ha
   cases jF:Nat.ble n 16777216 with
   | false=>rw[jF] at ha;cases ha
   | true=>
   rw[jF] at ha
   simp only[cond_true] at ha
   rw[aer] at jF
   split at ha
   ·rename_i i H2 dL
    cases ha
    have uR:0<n:=by
     rcases Nat.eq_zero_or_pos n with q | q
     ·subst q;cases kZ
     ·exact q
    obtain⟨_,r2⟩:=A6 (P:=P) (w:=w) (ty:=ty) (s' := .slice none 0 0) h0 hu hz du mq iN ft sX rfl (by omega) pz wL xe
    obtain⟨c,hc,hr⟩:=r2 (by omega) [] (fun w1 _=>by simp[Builtin.firstCells])
    rw[adG] at hc hr
    obtain⟨e',he,g1,g2,g3,g4,oI⟩:=(h.drawn (w.drawn+1)).newRow (rest:=(List.replicate (c-n) z0.cells.toList).flatten) (fz:=(0,0)) dL hU (fun _=>rfl) (by simp)
    refine⟨_,_,e',hr,he,oI,?_⟩
    have iz:w.heap.size=e'.b i:=g2.symm
    rw[iz]
    refine .slice i 0 n n false es 0 c g1 (by rw[g3];simp) hc hc (by simp) ?_
    rw[g4]
    have:((List.replicate (c-n) z0.cells.toList).flatten).length=(c-n)*es:=by simp[sX]
    rw[aaX,pz,this,<-af9]
    have:n+(c-n)=c:=by omega
    rw[this];omega
   ·cases ha
 ·rename_i i off len cap ex aM
  cases iz:(Nat.ble (len+n) 16777216&&Nat.beq es aM&&new.all aY) with
  | false=>rw[iz] at ha;cases ha
  | true=>
  rw[iz] at ha
  simp only[cond_true] at ha
  simp only[aau,aer] at iz
  obtain⟨⟨hle,hee⟩,Oi⟩:=iz
  have am2:es=aM:=abp hee
  subst am2
  cases iq:Nat.ble (len+n) cap with
  | true=>
   rw[iq] at ha
   simp only[cond_true] at ha
   rw[aer] at iq
   split at ha
   ·rename_i H2 aC
    cases ha
    rcases hs.lj with⟨o,c,hi,ho,hl,hc,iL,hn,rfl⟩ | ⟨rfl,rfl,a,rfl⟩
    ·obtain⟨r1,_⟩:=A6 (P:=P) (w:=w) (ty:=ty) (s' := .slice (some ⟨e.b i,o,none⟩) len c) h0 hu hz du mq iN ft sX rfl (by omega) pz wL xe
     obtain⟨w',oF,hr⟩:=RH.LA (P:=P) (off:=off+len*es) (k:=0) (o:=o+len*es) h aC hU (by push_cast;omega)
     refine⟨_,w',e,r1 (by omega) w' (fun a ha => ?_) (by simp),e.le_refl,hr,.slice _ _ _ _ _ _ _ _ hi ho (by omega) hc iL hn⟩
     cases ha
     rw[add_lit];exact oF
    ·have kZ:n=0:=by omega
     subst kZ
     have:new=[]:=by
      have:=hU.1
      rw[pz] at this
      exact List.eq_nil_of_length_eq_zero (by omega)
     subst this
     cases aC
     have alP:nv=[]:=hU.jE
     subst alP
     obtain⟨r1,_⟩:=A6 (P:=P) (w:=w) (ty:=ty) (s' := .slice (some a) 0 0) h0 hu hz du mq iN ft sX rfl (by omega) pz wL xe
     exact⟨_,w,e,r1 (aaC _) w (fun a ha=>by simp[storeCells]) (by simp),e.le_refl,h,.yK ..⟩
   ·cases ha
  | false=>
   rw[iq] at ha
   simp only[cond_false] at ha
   have aoh:cap<len+n:=by
    rcases aji cap (len+n) with q | q
    ·exact q
    ·have q2:Nat.ble (len+n) cap=true:=by rw[aer];exact q
     rw[q2] at iq;cases iq
   cases hex:ex with
   | true=>
    rw[hex] at ha
    simp only[cond_true] at ha
    split at ha
    ·rename_i fg hold
     split at ha
     ·rename_i j H2 dL
      cases ha
      have key:∀ (base:Addr) (c0:Nat) (ov:List Value),s' = .slice (some base) len c0->c0<len+n->aP e fg ov->ov.length=len*es->
        (∀ w1:World,w1.heap=w.heap->(Builtin.firstCells es len (.slice (some base) len c0)).run P w1 = .ok ov.toArray w1)->
        ∃ v' w' e',(Builtin.append_ bV ty #[s',x']).run P w = .ok v' w'/\e.le e'/\RH G F W e' H' w'/\VR e' (.slice j 0 (len+n) (len+n) false es) v':=by
       intro base c0 ov oU aJ tJ jf iW
       obtain⟨_,r2⟩:=A6 (P:=P) (w:=w) (ty:=ty) (s':=s') h0 hu hz du mq iN ft sX oU (by omega) pz wL xe
       obtain⟨c,hc,hr⟩:=r2 aJ ov (by rw[oU];exact iW)
       obtain⟨e',he,g1,g2,g3,g4,oI⟩:=(h.drawn (w.drawn+1)).newRow (rest:=(List.replicate (c-(len+n)) z0.cells.toList).flatten) (fz:=(0,0)) dL (tJ.append hU) (fun _=>rfl) (by simp)
       refine⟨_,_,e',hr,he,oI,?_⟩
       have iz:w.heap.size=e'.b j:=g2.symm
       rw[iz]
       refine .slice j 0 (len+n) (len+n) false es 0 c g1 (by rw[g3];simp) hc hc (by simp) ?_
       rw[g4]
       have:((List.replicate (c-(len+n)) z0.cells.toList).flatten).length=(c-(len+n))*es:=by simp[sX]
       rw[aaX,aaX,pz,jf,this,<-af9,<-af9]
       have:len+n+(c-(len+n))=c:=by omega
       rw[this];omega
      rcases hs.lj with⟨o,c,hi,ho,hl,hc,iL,hn,oU⟩ | ⟨rfl,rfl,a,oU⟩
      ·obtain⟨ov,h1,h2,h3⟩:=h.yZ hold ho
       exact key _ c ov oU (by have:=iL hex;omega) h1 h2 (Uj w h2 h3)
      ·rw[ahi] at hold
       cases hold
       exact key a 0 [] oU aoh (.nil e) (by simp) (fun w1 _=>by simp[Builtin.firstCells,loadCells,loadCellsFrom])
     ·cases ha
    ·cases ha
   | false=>
    rw[hex] at ha
    simp only[cond_false] at ha
    split at ha
    ·rename_i c lo hi tM fl hg
     cases rb:(Nat.ble fl 1&&Nat.ble lo off&&Nat.ble (off+len*es) hi&&Nat.beq el tM) with
     | false=>rw[rb] at ha;cases ha
     | true=>
     rw[rb] at ha
     simp only[cond_true] at ha
     simp only[aau,aer] at rb
     obtain⟨⟨⟨b1,b2⟩,b3⟩,b4⟩:=rb
     have oJ:el=tM:=abp b4
     subst oJ
     split at ha
     ·rename_i j H2 dm
      cases ha
      have aqZ:new.length=n*es:=by rw[<-hU.1];exact pz
      have ari:off+(len+n)*es=off+len*es+n*es:=by rw[af9];omega
      have UC:∀ k,(c.bY (off+len*es) new).get k=if off+len*es<=k/\k<off+len*es+new.length then new[k-(off+len*es)]? else c.get k:=fun k=>Tr.um _ c _ _
      have TU:∀ (base:Addr) (c0:Nat) (ov:List Value),s' = .slice (some base) len c0->c0<len+n->ov.length=len*es->
        (∀ k v,off<=k->k<off+len*es->c.get k=some v->∃ v',ov[k-off]? = some v'/\VR e v v')->
        (∀ w1:World,w1.heap=w.heap->(Builtin.firstCells es len (.slice (some base) len c0)).run P w1 = .ok ov.toArray w1)->
        ∃ v' w' e',(Builtin.append_ bV ty #[s',x']).run P w = .ok v' w'/\e.le e'/\RH G F W e' H' w'/\VR e' (.slice j off (len+n) (len+n) false es) v':=by
       intro base c0 ov oU aJ jf tJ iW
       obtain⟨_,r2⟩:=A6 (P:=P) (w:=w) (ty:=ty) (s':=s') h0 hu hz du mq iN ft sX oU (by omega) pz wL xe
       obtain⟨cc,ic,hr⟩:=r2 aJ ov (by rw[oU];exact iW)
       have hd:=(h.drawn (w.drawn+1)).del i
       have hj:=(vz dm).1
       have iU:j=e.N:=hj.trans h.N.symm
       subst iU
       have ff:((List.replicate (cc-(len+n)) z0.cells.toList).flatten).length=(cc-(len+n))*es:=by simp[sX]
       have ez:(ov++nv++(List.replicate (cc-(len+n)) z0.cells.toList).flatten).length=cc*es:=by
        rw[aaX,aaX,pz,jf,ff,<-af9,<-af9]
        congr 1;omega
       have dO:OR (e.ext w.heap.size (-(off:Int)) (cc*es)) e.N (.cells (c.bY (off+len*es) new) off (off+(len+n)*es) el 1) (.cells (ov++nv++(List.replicate (cc-(len+n)) z0.cells.toList).flatten).toArray el (0,0)):=by
        refine .cells _ _ _ _ _ _ _ (by rw[Em.vw];simpa using ez) ?_ (by simp) (by simp) (fun q=>by rw[Em.mJ];omega)
        intro k u tB fN hk
        rw[UC] at hk
        refine⟨k-off,by rw[Em.mJ];omega,?_⟩
        simp only[aet]
        split at hk
        ·rename_i gN
         obtain⟨u',iS,gZ⟩:=hU.get hk
         refine⟨u',?_,gZ.mono (Em.pq ..)⟩
         rw[abO (by rw[aaX,jf,pz];omega),abT (by rw[jf];omega),jf]
         rw[<-iS];congr 1;omega
        ·rename_i gN
         obtain⟨u',iS,gZ⟩:=tJ k u tB (by omega) hk
         refine⟨u',?_,gZ.mono (Em.pq ..)⟩
         have:k-off<ov.length:=(aah.1 iS).1
         rw[abO (by rw[aaX];omega),abO this]
         exact iS
       obtain⟨_,oI⟩:=hd.alloc dm dO
       refine⟨_,_,_,hr,Em.pq ..,oI,?_⟩
       exact VR.zD (e:=e.ext w.heap.size (-(off:Int)) (cc*es)) (Em.mO ..) (by simp[Em.ext]) (by rw[Em.mJ];omega) ic ic (by simp) (by rw[Em.vw];omega)
      obtain⟨hN,ob,dV,dO,hF⟩:=h.obj i _ hg
      cases dO with
      | cells _ _ _ _ _ C fz hCn ic Sn Ji hd=>
      rcases hs.lj with⟨o,c0,oB,ho,hl,hc,iL,hn,oU⟩ | ⟨rfl,rfl,a,oU⟩
      ·have hlen:len*es<=c0*es:=aeK _ hl
       by_cases gN:len+n<=c0
       · -- in place
        have lZ:(len+n)*es<=c0*es:=aeK _ gN
        have aqW:(len+n)*es=len*es+n*es:=af9 ..
        obtain⟨w',C',r1,r2,r3,r4,r5,r6,r7,r8,r9⟩:=aiV (P:=P) (e.b i) (o+len*es) el fz nv 0 w C dV (by rw[pz];omega) (Ji b1) (hU.one Oi)
        obtain⟨q1,_⟩:=A6 (P:=P) (w:=w) (ty:=ty) (s':=s') h0 hu hz du mq iN ft sX oU (by omega) pz wL xe
        have hj:=(vz dm).1
        have iU:j=e.N:=hj.trans h.N.symm
        subst iU
        have api:OR (e.ext (e.b i) (e.d i) (e.n i)) e.N (.cells (c.bY (off+len*es) new) off (off+(len+n)*es) el 1) (.cells C' el fz):=by
         refine .cells _ _ _ _ _ _ _ (by rw[Em.vw,r3,hCn]) ?_ (by simp) (fun _ k hk=>Ji b1 k (by omega)) (fun q=>by rw[Em.mJ];exact hd (by omega))
         intro k u tB fN hk
         rw[UC] at hk
         split at hk
         ·rename_i agy
          obtain⟨u',iS,gZ⟩:=hU.get hk
          refine⟨o+(k-off),by rw[Em.mJ];omega,u',?_,gZ.mono (Em.pq ..)⟩
          rw[r4,if_pos (by rw[pz];omega),<-iS]
          congr 1;omega
         ·rename_i agy
          obtain⟨k2,yn,u',iS,gZ⟩:=ic k u (by omega) (by omega) hk
          refine⟨k2,by rw[Em.mJ];exact yn,u',?_,gZ.mono (Em.pq ..)⟩
          rw[r4,if_neg (by omega)]
          exact iS
        obtain⟨_,oI⟩:=h.move hg (by simp[wr,b1]) dm r6 r2 r5 api r7 r8 r9
        refine⟨_,w',_,q1 gN w' (fun a ha => ?_) (by simp),Em.pq ..,oI,?_⟩
        ·cases ha
         rw[add_lit];exact r1
        ·exact VR.zD (e:=e.ext (e.b i) (e.d i) (e.n i)) (Em.mO ..) (by simp[Em.ext]) (by rw[Em.mJ];exact ho) gN gN (by simp) (by rw[Em.vw];exact hn)
       ·refine TU _ c0 ((C.toList.drop o).take (len*es)) oU (by omega) ?_ ?_ ?_
        ·simp;omega
        ·intro k u tB fN hk
         obtain⟨k2,yn,u',iS,gZ⟩:=ic k u (by omega) (by omega) hk
         refine⟨u',?_,gZ⟩
         rw[ag7,if_pos (by omega),afL,adS,<-iS]
         congr 1;omega
        ·refine Uj w (by simp;omega) (fun m u hm => ?_)
         rw[ag7] at hm
         split at hm
         ·rw[afL,adS] at hm
          simp[World.cell?,dV,hm]
         ·cases hm
      ·refine TU a 0 [] oU (by omega) (by simp) (fun k u tB fN hk=>by omega) (fun w1 _=>by simp[Builtin.firstCells,loadCells,loadCellsFrom])
     ·cases ha
    ·cases ha
 ·cases ha
end
end
section
variable {P:Program}{G:Nat}{F:Nat->Prop}{W:World}{e:Em}{H:Hp}{w:World}
theorem VR.S0 {a b:AV}{a' b':Value}(ha:VR e a a')(hb:VR e b b')(h:EJ a b=true):a'=b'/\∀ n,Instr.sameBits n a' b'=true:=by
 unfold EJ at h
 split at h
 ·cases ha.sw;cases hb.sw
  simp only[beq_iff_eq] at h
  subst h;exact⟨rfl,fun n=>by simp[Instr.sameBits]⟩
 ·cases ha.fE;cases hb.fE
  simp only[aau,decide_eq_true_eq] at h
  obtain⟨rfl,rfl⟩:=h
  exact⟨rfl,fun n=>by simp[Instr.sameBits]⟩
 ·obtain⟨p,rfl,rfl⟩:=ha.lU
  obtain⟨q,rfl,rfl⟩:=hb.lU
  have:(p==q)=true:=by rw[TW];exact h
  have Bz:p=q:=by
   have h0:(p==q)=(p.data==q.data):=by cases p;cases q;rfl
   rw[h0,beq_iff_eq] at this
   cases p;cases q;simpa using this
  subst Bz
  exact⟨rfl,fun n=>by simp[Instr.sameBits,this]⟩
 ·cases h
theorem aP.plain:∀ {x y:List AV} {x' y':List Value},aP e x x'->aP e y y'->De x y=true->x'=y'/\∀ n,(x'.zip y').all (fun (a,b)=>Instr.sameBits n a b)=true
 | [],[],x',y',hx,hy,h=>by rw[hx.jE,hy.jE];exact⟨rfl,fun n=>rfl⟩
 | [],_::_,_,_,_,_,h=>by simp[De] at h
 | _::_,[],_,_,_,_,h=>by simp[De] at h
 | a::x,b::y,x',y',hx,hy,h=>by
  simp only[De,aau] at h
  obtain⟨a',xs,rfl,ha,hx⟩:=hx.cons_inv
  obtain⟨b',ys,rfl,hb,hy⟩:=hy.cons_inv
  obtain⟨h1,h2⟩:=ha.S0 hb h.1
  obtain⟨h3,h4⟩:=aP.plain hx hy h.2
  subst h1;subst h3
  exact⟨rfl,fun n=>by simp only[List.zip_cons_cons,List.all_cons,h2 n,h4 n,Bool.and_self]⟩
theorem VR.plain {a b:AV}{a' b':Value}(ha:VR e a a')(hb:VR e b b')(h:Bk a b=true):Instr.sameBits 10000 a' b'=true:=by
 unfold Bk at h
 split at h
 ·obtain⟨x,rfl,hx⟩:=ha.uZ
  obtain⟨y,rfl,hy⟩:=hb.uZ
  obtain⟨h1,h2⟩:=hx.plain hy h
  have:x.size=y.size:=by have:=congrArg List.length h1;simpa using this
  simp only[Instr.sameBits,this,beq_self_eq_true,aeD]
  exact h2 9999
 ·exact (ha.S0 hb h).2 _
theorem MP {α:Type}(g:α->Bool)(body:α->PUnit->Sem (ForInStep PUnit))(w:World)(hb:∀ a,g a=true->(body a ⟨⟩).run P w = .ok (.yield ⟨⟩) w) :
  ∀ l:List α,l.all g=true->(forIn l (⟨⟩:PUnit) body).run P w = .ok ⟨⟩ w
 | [],_=>by simp
 | a::l,h=>by
  simp only[List.all_cons,aau] at h
  rw[List.forIn_cons,Sem.run_bind,hb a h.1]
  exact MP g body w hb l h.2
theorem PM (w:World)(emp:Bool):∀ (d D:Nat),d<=D->∀ (t:TypeId) (v:AV) (v':Value),VR e v v'->nw P d t v=true->(Instr.checkKey emp D t v').run P w = .ok () w:=by
 intro d
 induction d with
 | zero=>intro D _ t v v' _ h;cases h
 | succ d ih=>
  intro D hD t v v' hv h
  obtain⟨D,rfl⟩:∃ k,D=k+1:=⟨D-1,by omega⟩
  unfold nw at h
  split at h
  ·rename_i hu;simp[Instr.checkKey,aH hu]
  ·rename_i hu;simp[Instr.checkKey,aH hu]
  ·rename_i hu;simp[Instr.checkKey,aH hu]
  ·rename_i fs cs hu
   obtain⟨vs,rfl,hl⟩:=hv.uZ
   have key := MP (P := P) (g := fun f : Field => if f.name ≠ "_" then (match mr P f.type cs f.offset with | some v => nw P d f.type v | none => false) else true)
    (body:=fun f Mg=>do
     if f.name ≠ "_" then
      Instr.checkKey emp D f.type (<-part f.type vs f.offset)
      Pure.pure (ForInStep.yield PUnit.unit)
     else Pure.pure (ForInStep.yield PUnit.unit)) w (by
     intro f hg
     by_cases hn : f.name = "_"
     ·simp[hn]
     ·simp only[ne_eq,hn,not_false_eq_true,if_true] at hg
      split at hg
      ·rename_i u wh
       obtain⟨u',iS,hr⟩:=yY hl wh w
       have:=ih D (by omega) f.type u u' hr hg
       simp[hn,iS,this]
      ·cases hg) fs.toList h
   simp[Instr.checkKey,aH hu] at key ⊢
   simp[key]
  ·rename_i n el cs hu
   split at h
   ·rename_i s hs
    obtain⟨vs,rfl,hl⟩:=hv.uZ
    have key:=MP (P:=P) (g:=fun i:Nat=>match mr P el cs (i*s) with | some v=>nw P d el v | none=>false)
     (body:=fun i Mg=>do
      let z <-sizeOf el
      let p <-part el vs (i*z)
      Functor.map (fun a=>ForInStep.yield PUnit.unit) (Instr.checkKey emp D el p)) w (by
      intro i hg
      split at hg
      ·rename_i u wh
       obtain⟨u',iS,hr⟩:=yY hl wh w
       have:=ih D (by omega) el u u' hr hg
       simp[gQ hs,iS,this]
      ·cases hg) (List.range' 0 n) h
    simp[Instr.checkKey,aH hu]
    exact key
   ·cases h
  ·cases h
theorem gz.cons_inv {m:ME}{es:List ME}{aM:List MapEntry}(h:gz e (m::es) aM):∃ m' r',aM=m'::r'/\VR e m.key m'.key/\VR e m.val m'.val/\gz e es r':=by
 cases aM with
 | nil=>simp[gz] at h
 | cons m' r'=>
  obtain⟨a,b⟩:=h.2 0 m m' rfl rfl
  exact⟨m',r',rfl,a,b,by simpa using h.1,fun i x y hx hy=>h.2 (i+1) x y (by simpa using hx) (by simpa using hy)⟩
theorem gz.jE {aM:List MapEntry}(h:gz e [] aM):aM=[]:=by simpa using h.1
theorem aav (h:RH G F W e H w){t:TypeId}{k:AV}{k':Value}(hk:VR e k k'):∀ (es:List ME) (fs:List MapEntry),gz e es fs->vt P H t k es=true->∀ x∈fs,(Op.equal t k' x.key).run P w = .ok false w
 | [],fs,hm,_=>by rw[hm.jE];simp
 | m::es,fs,hm,hf=>by
  obtain⟨m',r',rfl,h1,h2,h4⟩:=hm.cons_inv
  unfold vt at hf
  split at hf
  ·rename_i heq
   have:=Gq h 20 Op.maxDepth (by decide) t k m.key k' m'.key false hk h1 heq
   intro x hx
   rcases aaD.1 hx with rfl | hx
   ·exact this
   ·exact aav h hk es r' h4 hf x hx
  ·cases hf
def FK (P:Program)(e:Em)(w:World)(t:TypeId)(k':Value)(fs:List MapEntry)(i0:Nat):Option (Nat × ME)->Prop
 | none=>∀ x∈fs,(Op.equal t k' x.key).run P w = .ok false w
 | some (j,m)=>∃ f1 m' f2,fs=f1++m'::f2/\j=i0+f1.length/\VR e m.key m'.key/\VR e m.val m'.val/\(Op.equal t k' m'.key).run P w = .ok true w/\∀ x∈f1++f2,(Op.equal t k' x.key).run P w = .ok false w
theorem abP (h:RH G F W e H w){t:TypeId}{k:AV}{k':Value}(hk:VR e k k'):∀ (es:List ME) (fs:List MapEntry) (i:Nat) (r:Option (Nat × ME)),gz e es fs->mn P H t k es i=some r->FK P e w t k' fs i r
 | [],fs,i,r,hm,hf=>by
  rw[hm.jE]
  cases hf
  exact fun x hx=>by cases hx
 | m::es,fs,i,r,hm,hf=>by
  obtain⟨m',r',rfl,h1,h2,h4⟩:=hm.cons_inv
  unfold mn at hf
  split at hf
  ·rename_i heq
   have:=Gq h 20 Op.maxDepth (by decide) t k m.key k' m'.key true hk h1 heq
   cases hn:vt P H t k es with
   | false=>rw[hn] at hf;cases hf
   | true=>
    rw[hn] at hf
    cases hf
    exact⟨[],m',r',rfl,rfl,h1,h2,this,fun x hx=>aav h hk es r' h4 hn x (by simpa using hx)⟩
  ·rename_i heq
   have:=Gq h 20 Op.maxDepth (by decide) t k m.key k' m'.key false hk h1 heq
   have ih:=abP h hk es r' (i+1) r h4 hf
   cases r with
   | none=>
    intro x hx
    rcases aaD.1 hx with rfl | hx
    ·exact this
    ·exact ih x hx
   | some x=>
    obtain⟨j,mm⟩:=x
    obtain⟨f1,n',f2,rfl,rfl,q1,q2,q3,q4⟩:=ih
    refine⟨m'::f1,n',f2,rfl,by simp only[aaL];omega,q1,q2,q3,fun x hx => ?_⟩
    rcases aaD.1 hx with rfl | hx
    ·exact this
    ·exact q4 x hx
  ·cases hf
theorem UI {t:TypeId}{k':Value}{w:World}:∀ (l:List MapEntry) (i:Nat),(∀ x∈l,(Op.equal t k' x.key).run P w = .ok false w)->(Instr.findAsking t k' l i).run P w = .ok none w
 | [],i,_=>by simp[Instr.findAsking]
 | m::l,i,h=>by
  have h1:=h m (.head _)
  have h2:=UI l (i+1) fun x hx=>h x (.tail _ hx)
  simp[Instr.findAsking,h1,h2]
theorem S7 {t:TypeId}{k':Value}{w:World}{m:MapEntry}{b:List MapEntry}(hm:(Op.equal t k' m.key).run P w = .ok true w):∀ (a:List MapEntry) (i:Nat),(∀ x∈a,(Op.equal t k' x.key).run P w = .ok false w)->
  (Instr.findAsking t k' (a++m::b) i).run P w = .ok (some (i+a.length,m.val)) w
 | [],i,_=>by simp[Instr.findAsking,hm]
 | x::a,i,h=>by
  have h1:=h x (.head _)
  have h2:=S7 (b:=b) hm a (i+1) fun x hx=>h x (.tail _ hx)
  rw[List.cons_append,aaL,show i+(a.length+1)=i+1+a.length by omega]
  simp[Instr.findAsking,h1,h2]
theorem YA {d:TypeDesc}{t:TypeId}(hu:P.underlying t=some d){k':Value}(w:World):∀ (aM:List MapEntry) (i:Nat) (r r2:Option (Nat × Value)),Instr.findNow d k' aM i=some r->(Instr.findAsking t k' aM i).run P w = .ok r2 w->r=r2
 | [],i,r,r2,h1,h2=>by
  cases h1
  simp[Instr.findAsking] at h2
  exact h2
 | m::aM,i,r,r2,h1,h2=>by
  obtain⟨abM,aqS,aqK⟩:=m
  unfold Instr.findNow at h1
  obtain⟨md,hmd⟩:∃ md,Op.maxDepth=md+1:=⟨9999,rfl⟩
  have hsn:∀ b,Instr.sameNow d k' abM=some b->(Op.equal t k' abM).run P w = .ok b w:=by
   intro b hb
   unfold Op.equal
   rw[hmd]
   unfold Instr.sameNow at hb
   split at hb
   ·rename_i h1 h2
    split at hb
    ·rename_i JE;cases hb;simp[Op.equalIn,aH hu,JE]
    ·cases hb
   ·rename_i h1 h2;cases hb;simp[Op.equalIn,aH hu]
   ·rename_i h1 h2;cases hb;simp[Op.equalIn,aH hu]
   ·cases hb
  split at h1
  ·rename_i hs
   cases h1
   simp[Instr.findAsking,hsn true hs] at h2
   exact h2
  ·rename_i hs
   simp[Instr.findAsking,hsn false hs] at h2
   exact YA hu w aM (i+1) r r2 h1 h2
  ·cases h1
theorem XY {t:TypeId}{k':Value}{l:List MapEntry}{r':Option (Nat × Value)}{d:TypeDesc}(hu:P.underlying t=some d)(eu:(Instr.findAsking t k' l 0).run P w = .ok r' w):(Instr.findKey t k' l).run P w = .ok r' w:=by
 unfold Instr.findKey
 rw[Sem.run_bind,aH hu,Result.andThen_ok]
 split
 ·rename_i r2 oy
  rw[YA hu w l 0 r2 r' oy eu]
  simp
 ·exact eu
def FP (P:Program)(e:Em)(w:World)(t:TypeId)(k':Value)(fs l:List MapEntry):Option (Nat × ME)->Prop
 | none=>(Instr.findKey t k' l).run P w = .ok none w
 | some (j,m)=>∃ f1 m' f2 a b,fs=f1++m'::f2/\j=f1.length/\l=a++m'::b/\(f1++f2).Perm (a++b)/\VR e m.key m'.key/\VR e m.val m'.val/\(Instr.findKey t k' l).run P w = .ok (some (a.length,m'.val)) w
theorem Dc (h:RH G F W e H w){t:TypeId}{k:AV}{k':Value}(hk:VR e k k'){es:List ME}{fs l:List MapEntry}{r:Option (Nat × ME)}(hm:gz e es fs)(hp:fs.Perm l)(hf:mn P H t k es 0=some r){d:TypeDesc}(hu:P.underlying t=some d):FP P e w t k' fs l r:=by
 have hq:=abP (P:=P) h hk es fs 0 r hm hf
 cases r with
 | none=>exact XY hu (UI l 0 fun x hx=>hq x (hp.mem_iff.2 hx))
 | some x=>
  obtain⟨j,m⟩:=x
  obtain⟨f1,m',f2,rfl,rfl,q1,q2,q3,q4⟩:=hq
  obtain⟨a,b,rfl⟩:=List.append_of_mem (hp.mem_iff.1 (by simp:m'∈f1++m'::f2))
  have wY:(f1++f2).Perm (a++b):=((ajj.symm.trans hp).trans ajj).cons_inv
  refine⟨f1,m',f2,a,b,rfl,by omega,rfl,wY,q1,q2,?_⟩
  have:=S7 (P:=P) (w:=w) (b:=b) q3 a 0 fun x hx=>q4 x (wY.mem_iff.2 (abG _ hx))
  rw[adG] at this
  exact XY hu this
end
end
section
variable {P:Program}{G:Nat}{F:Nat->Prop}{W:World}{e:Em}{H:Hp}{w:World}
theorem ye (h:RH G F W e H w){i:Nat}{es:List ME}{c:Nat}(hg:H.h.get i=some (.map es c)):i<e.N/\∃ (aM:Array MapEntry) (c':Nat) (fs:List MapEntry),w.heap[e.b i]? = some (.map aM c')/\fs.Perm aM.toList/\gz e es fs/\(fs.map (·.born)).Nodup/\∀ x∈fs,x.born<c':=by
 obtain⟨hN,ob,dV,dO,_⟩:=h.obj i _ hg
 cases dO with
 | map _ _ aM c' fs hp hm hn hb=>exact⟨hN,aM,c',fs,dV,hp,hm,hn,hb⟩
theorem alS (h:RH G F W e H w){x:AV}{x':Value}{es:List ME}{c:Nat}(hx:VR e x x')(hm:mapOf H x=some (es,c)) :
  (x' = .map none/\es=[]/\c=0)\/∃ i aM c' fs,x = .map i/\x' = .map (some (e.b i))/\H.h.get i=some (.map es c)/\w.heap[e.b i]? = some (.map aM c')/\fs.Perm aM.toList/\gz e es fs:=by
 unfold mapOf at hm
 split at hm
 ·cases hx;cases hm;exact .inl ⟨rfl,rfl,rfl⟩
 ·rename_i i
  split at hm
  ·rename_i nH c0 hg
   cases hm
   obtain⟨hi,rfl⟩:=hx.CW
   obtain⟨_,aM,c',fs,h1,h2,h3,_⟩:=ye h hg
   exact .inr ⟨i,aM,c',fs,rfl,rfl,hg,h1,h2,h3⟩
  ·cases hm
 ·cases hm
theorem Bq {b:Nat}{aM:Array MapEntry}{c:Nat}(hb:w.heap[b]? = some (.map aM c)):(getObj b).run P w = .ok (.map aM c) w:=by simp[getObj,Sem.run,hb]
theorem MX {kt:TypeId}{k:AV}(hc:nw P 20 kt k=true):∃ d,P.underlying kt=some d:=by
 cases hq:P.underlying kt with
 | none=>simp[nw,hq] at hc
 | some d=>exact⟨d,rfl⟩
theorem VR.pair {a b:AV}{a' b':Value}(ha:VR e a a')(hb:VR e b b'):VR e (.tuple [a,b]) (.tuple #[a',b']):=
 .tuple' (.cons ha (.cons hb (.nil e)))
theorem aoE (h:RH G F W e H w){t:TypeId}{x k v:AV}{x' k':Value}{ok:Bool}(hx:VR e x x')(hk:VR e k k')(hl:qo P t x k ok H=some v) :
  ∃ v',(Instr.lookup t x' k' ok).run P w = .ok v' w/\VR e v v':=by
 unfold qo at hl
 split at hl
 ·rename_i kt el hu
  cases hc:nw P 20 kt k with
  | false=>rw[hc] at hl;cases hl
  | true=>
  rw[hc] at hl
  simp only[cond_true] at hl
  have xK:∀ emp,(Instr.checkKey emp 10000 kt k').run P w = .ok () w:=fun emp=>PM w emp 20 10000 (by decide) kt k k' hk hc
  obtain⟨kd,cl⟩:=MX hc
  split at hl
  ·rename_i es c hm
   have fin:∀ (fs aM:List MapEntry),fs.Perm aM->gz e es fs->∃ r' v',(Instr.findKey kt k' aM).run P w = .ok r' w/\
     (match r' with
      | some (_,v)=>Pure.pure (if ok=true then Value.tuple #[v,Value.bool true] else v)
      | none=>Functor.map (fun a=>if ok=true then Value.tuple #[a,Value.bool false] else a) (zeroValue el):Sem Value).run P w = .ok v' w/\VR e v v':=by
    intro fs aM lz pI
    split at hl
    ·rename_i j m hf
     obtain⟨f1,m',f2,a,b,_,_,_,_,_,hv,eu⟩:=Dc (P:=P) h hk pI lz hf cl
     cases hl
     cases ok with
     | true=>exact⟨_,_,eu,by simp,hv.pair (.bool true)⟩
     | false=>exact⟨_,_,eu,by simp,hv⟩
    ·rename_i hf
     have eu:(Instr.findKey kt k' aM).run P w = .ok none w:=Dc (P:=P) h hk pI lz hf cl
     simp only[aaa,aa6] at hl
     obtain⟨z,⟨z0,⟨inf,iN,ft⟩,hz⟩,rfl⟩:=hl
     have wO:VR e z z0 := .ja hz
     cases ok with
     | true=>exact⟨_,_,eu,by simp[qU iN ft],wO.pair (.bool false)⟩
     | false=>exact⟨_,_,eu,by simp[qU iN ft],wO⟩
    ·cases hl
   rcases alS h hx hm with⟨rfl,rfl,_⟩ | ⟨i,aM,c',fs,rfl,rfl,hg,hb,lz,pI⟩
   ·obtain⟨r',v',h1,h2,h3⟩:=fin [] [] (List.Perm.refl _) ⟨rfl,by simp⟩
    refine⟨v',?_,h3⟩
    simp[Instr.lookup,aH hu,xK,h1]
    exact h2
   ·obtain⟨r',v',h1,h2,h3⟩:=fin fs aM.toList lz pI
    refine⟨v',?_,h3⟩
    simp[Instr.lookup,aH hu,Bq hb,xK,h1]
    exact h2
  ·cases hl
 ·cases hl
theorem HK {b:Nat}{o:Obj}{aM:Array MapEntry}{c:Nat}(hb:w.heap[b]? = some (.map aM c)):(Go.setObj b o).run P w = .ok () { w with heap:=w.heap.setIfInBounds b o }:=by
 simp[Go.setObj,Sem.run,hb]
theorem RH.Lx (h:RH G F W e H w){i:Nat}{es VG:List ME}{c c2:Nat}(hg:H.h.get i=some (.map es c)){aM:Array MapEntry}{c':Nat}{fs:List MapEntry}(hp:fs.Perm aM.toList)(hm:gz e VG fs)(hn:(fs.map (·.born)).Nodup)(hb:∀ x∈fs,x.born<c') :
  RH G F W e (Am.setObj H i (.map VG c2)) { w with heap:=w.heap.setIfInBounds (e.b i) (.map aM c') }:=by
 obtain⟨_,nH,c0,_,mZ,_⟩:=ye h hg
 have aJ:=(abZ.1 mZ).1
 refine h.put hg rfl (pf := .map aM c') (by simp) (by simp[aJ]) (fun k hk => ?_) (.map _ _ _ _ fs hp hm hn hb) rfl rfl rfl
 simp only
 rw[aex (fun q=>hk q.symm)]
theorem gz.snoc {es:List ME}{aM:List MapEntry}(h:gz e es aM){m:ME}{m':MapEntry}(h1:VR e m.key m'.key)(h2:VR e m.val m'.val):gz e (es++[m]) (aM++[m']):=by
 refine⟨by simp[h.1],fun i x y hx hy => ?_⟩
 by_cases hi:i<es.length
 ·rw[abO hi] at hx
  rw[abO (by rw[h.1];exact hi)] at hy
  exact h.2 i x y hx hy
 ·rw[abT (by omega)] at hx
  rw[abT (by rw[h.1];omega),h.1] at hy
  have:i-es.length=0:=by
   have:=(aah.1 hx).1
   simp at this;omega
  rw[this] at hx hy
  simp at hx hy
  subst hx;subst hy
  exact⟨h1,h2⟩
theorem gz.set {es:List ME}{aM:List MapEntry}(h:gz e es aM)(j:Nat){m:ME}{m':MapEntry}(h1:VR e m.key m'.key)(h2:VR e m.val m'.val):gz e (es.set j m) (aM.set j m'):=by
 refine⟨by simp[h.1],fun i x y hx hy => ?_⟩
 rw[af6] at hx hy
 split at hx
 ·rename_i hj
  rw[if_pos hj] at hy
  split at hx
  ·split at hy
   ·cases hx;cases hy;exact⟨h1,h2⟩
   ·cases hy
  ·cases hx
 ·rename_i hj
  rw[if_neg hj] at hy
  exact h.2 i x y hx hy
theorem gz.erase {es:List ME}{aM:List MapEntry}(h:gz e es aM)(j:Nat):gz e (es.eraseIdx j) (aM.eraseIdx j):=by
 refine⟨by simp[List.length_eraseIdx,h.1],fun i x y hx hy => ?_⟩
 rw[List.getElem?_eraseIdx] at hx hy
 split at hx
 ·rename_i hj;rw[if_pos hj] at hy;exact h.2 i x y hx hy
 ·rename_i hj;rw[if_neg hj] at hy;exact h.2 _ x y hx hy
theorem Xi (h:RH G F W e H w){t:TypeId}{x k v:AV}{x' k' v':Value}{H':Hp}(hx:VR e x x')(hk:VR e k k')(hv:VR e v v')(hl:nF P t x k v H=some H') :
  ∃ w',(Instr.mapUpdate t x' k' v').run P w = .ok () w'/\RH G F W e H' w':=by
 unfold nF at hl
 split at hl
 ·rename_i kt el i hu
  cases hc:nw P 20 kt k with
  | false=>rw[hc] at hl;cases hl
  | true=>
  rw[hc] at hl
  simp only[cond_true] at hl
  have xK:∀ emp,(Instr.checkKey emp 10000 kt k').run P w = .ok () w:=fun emp=>PM w emp 20 10000 (by decide) kt k k' hk hc
  obtain⟨kd,cl⟩:=MX hc
  obtain⟨hi,rfl⟩:=hx.CW
  split at hl
  ·rename_i es c hg
   obtain⟨_,aM,c',fs,hb,lz,pI,gO,lA⟩:=ye h hg
   split at hl
   ·rename_i j m hf
    cases hs:Bk m.key k with
    | false=>rw[hs] at hl;cases hl
    | true=>
    rw[hs] at hl
    cases hl
    obtain⟨f1,m',f2,a,b,rfl,rfl,nN,wY,yT,hmv,eu⟩:=Dc (P:=P) h hk pI lz hf cl
    have lI:aM.toList[a.length]? = some m':=by rw[nN,abT (aaC _),ahb];rfl
    have Sb:Instr.sameBits 10000 m'.key k'=true:=yT.plain hk hs
    have xT:aM[a.length]? = some m':=by rw[<-adS];exact lI
    have agL:aM.modify a.length (fun e=>{ e with key:=k',val:=v' })=(aM.toList.set a.length { m' with key:=k',val:=v' }).toArray:=by
     apply Array.ext_getElem?
     intro q
     have e1:∀ l:List MapEntry,l.toArray[q]? = l[q]? := fun l=>by simp
     refine aal ?_ (e1 _).symm
     rw[Array.getElem?_modify,af6,adS]
     by_cases hq:a.length=q
     ·subst hq
      have aJ:=(abZ.1 xT).1
      rw[if_pos rfl,if_pos rfl,if_pos (by simpa using aJ),xT];rfl
     ·rw[if_neg hq,if_neg hq]
    have fh:∀ (p q:List MapEntry) (x y:MapEntry),(p++x::q).set p.length y=p++y::q:=fun p q x y=>by
     rw[aiu _ _ (aaC _),ahb];rfl
    have pX:((f1++m'::f2).set f1.length { m' with key:=k',val:=v' }).Perm (aM.toList.set a.length { m' with key:=k',val:=v' }):=by
     rw[nN,fh,fh]
     exact (ajj.trans (wY.cons _)).trans ajj.symm
    have hbm:((f1++m'::f2).set f1.length { m' with key:=k',val:=v' }).map (·.born)=(f1++m'::f2).map (·.born):=by
     rw[fh];simp
    refine⟨{ w with heap:=w.heap.setIfInBounds (e.b i) (.map (aM.toList.set a.length { m' with key:=k',val:=v' }).toArray c') },?_,
     h.Lx hg (fs:=(f1++m'::f2).set f1.length { m' with key:=k',val:=v' }) (by simpa using pX) (pI.set (m:={ m with key:=k,val:=v }) (m':={ m' with key:=k',val:=v' }) f1.length hk hv) (by rw[hbm];exact gO) (fun x hx => ?_)⟩
    ·simp[Instr.mapUpdate,aH hu,Bq hb,xK,eu,xT,Instr.keyThatStays,Sb,HK hb,agL]
    ·rw[fh] at hx
     rcases abL.1 hx with hx | hx
     ·exact lA x (abG _ hx)
     ·rcases aaD.1 hx with rfl | hx
      ·exact lA m' (by simp)
      ·exact lA x (by simp[hx])
   ·rename_i hf
    cases hl
    have eu:(Instr.findKey kt k' aM.toList).run P w = .ok none w:=Dc (P:=P) h hk pI lz hf cl
    refine⟨{ w with heap:=w.heap.setIfInBounds (e.b i) (.map (aM.push ⟨k',v',c'⟩) (c'+1)) },?_,h.Lx hg (fs:=fs++[⟨k',v',c'⟩]) (by rw[Array.toList_push];exact lz.append_right _) (pI.snoc (m:=⟨k,v,c⟩) (m':=⟨k',v',c'⟩) hk hv) ?_ ?_⟩
    ·simp[Instr.mapUpdate,aH hu,Bq hb,xK,eu,HK hb]
    ·rw[adI,aeY]
     refine⟨gO,by simp,fun x hx y hy => ?_⟩
     obtain⟨z,hz,rfl⟩:=acS.1 hx
     have:=lA z hz
     simp at hy
     omega
    ·intro x hx
     rcases abL.1 hx with hx | hx
     ·have:=lA x hx;omega
     ·rw[No] at hx;subst hx;exact ahw _
   ·cases hl
  ·cases hl
 ·cases hl
theorem aiK (h:RH G F W e H w){bV:Array TypeId}{ty:TypeId}{x k:AV}{x' k':Value}{H':Hp}(hx:VR e x x')(hk:VR e k k')(hl:CI P bV x k H=some H') :
  ∃ w',(Builtin.delete_ bV ty #[x',k']).run P w = .ok (.tuple #[]) w'/\RH G F W e H' w':=by
 unfold CI at hl
 split at hl
 ·rename_i kt el hq
  obtain⟨t0,h0,hu⟩:=aa6.1 hq
  cases hc:nw P 20 kt k with
  | false=>rw[hc] at hl;cases hl
  | true=>
  rw[hc] at hl
  simp only[cond_true] at hl
  have xK:∀ emp,(Instr.checkKey emp 10000 kt k').run P w = .ok () w:=fun emp=>PM w emp 20 10000 (by decide) kt k k' hk hc
  obtain⟨kd,cl⟩:=MX hc
  split at hl
  ·cases hl;cases hx
   exact⟨w,by simp[Builtin.delete_,h0,aH hu,xK],h⟩
  ·rename_i i
   obtain⟨hi,rfl⟩:=hx.CW
   split at hl
   ·rename_i es c hg
    obtain⟨_,aM,c',fs,hb,lz,pI,gO,lA⟩:=ye h hg
    split at hl
    ·rename_i j m hf
     cases hl
     obtain⟨f1,m',f2,a,b,rfl,rfl,nN,wY,yT,hmv,eu⟩:=Dc (P:=P) h hk pI lz hf cl
     have ez:a.length<aM.size:=by have:=congrArg List.length nN;rw[ahY,aaX,aaL] at this;omega
     have her:(aM.eraseIdxIfInBounds a.length).toList=aM.toList.eraseIdx a.length:=by simp[Array.eraseIdxIfInBounds,ez]
     have BD:∀ (p q:List MapEntry) (x:MapEntry),(p++x::q).eraseIdx p.length=p++q:=fun p q x=>by
      rw[List.eraseIdx_append_of_length_le (aaC _),ahb];rfl
     refine⟨{ w with heap:=w.heap.setIfInBounds (e.b i) (.map (aM.eraseIdxIfInBounds a.length) c') },?_,h.Lx hg (fs:=(f1++m'::f2).eraseIdx f1.length) (by rw[her,nN,BD,BD];exact wY) (pI.erase f1.length) ?_ (fun x hx=>lA x ?_)⟩
     ·simp[Builtin.delete_,h0,aH hu,Bq hb,xK,eu,HK hb]
     ·rw[BD]
      rw[adI,acW] at gO
      rw[adI]
      exact (ahG.1 ((ajj.nodup_iff).1 gO)).2
     ·rw[BD] at hx
      rcases abL.1 hx with hx | hx
      ·exact abG _ hx
      ·exact abr _ (.tail _ hx)
    ·rename_i hf
     cases hl
     have eu:(Instr.findKey kt k' aM.toList).run P w = .ok none w:=Dc (P:=P) h hk pI lz hf cl
     have aiR:w.heap.setIfInBounds (e.b i) (.map aM c')=w.heap:=by
      apply Array.ext_getElem?
      intro q
      by_cases hq:e.b i=q
      ·subst hq
       have aJ:=(abZ.1 hb).1
       rw[afY aJ,hb]
      ·rw[aex hq]
     refine⟨w,?_,h⟩
     simp[Builtin.delete_,h0,aH hu,Bq hb,xK,eu,HK hb,aiR]
    ·cases hl
   ·cases hl
  ·cases hl
 ·cases hl
theorem ajq (h:RH G F W e H w){bV:Array TypeId}{ty:TypeId}{x:AV}{x':Value}{H':Hp}(hx:VR e x x')(hl:RQ P bV x H=some H') :
  ∃ w',(Builtin.clear_ bV ty #[x']).run P w = .ok (.tuple #[]) w'/\RH G F W e H' w':=by
 unfold RQ at hl
 split at hl
 ·rename_i d hq
  obtain⟨t0,h0,hu⟩:=aa6.1 hq
  cases hl;cases hx
  exact⟨w,by simp[Builtin.clear_,h0,aH hu],h⟩
 ·rename_i d hq
  obtain⟨t0,h0,hu⟩:=aa6.1 hq
  cases hl;cases hx
  exact⟨w,by simp[Builtin.clear_,h0,aH hu],h⟩
 ·rename_i d i hq
  obtain⟨t0,h0,hu⟩:=aa6.1 hq
  obtain⟨hi,rfl⟩:=hx.CW
  split at hl
  ·rename_i es c hg
   cases hl
   obtain⟨_,aM,c',fs,hb,lz,pI,gO,lA⟩:=ye h hg
   refine⟨{ w with heap:=w.heap.setIfInBounds (e.b i) (.map #[] c') },?_,h.Lx hg (fs:=[]) (List.Perm.refl _) ⟨rfl,by simp⟩ (by simp) (by simp)⟩
   simp[Builtin.clear_,h0,aH hu,Bq hb,HK hb]
  ·cases hl
 ·rename_i el i off n a1 a2 a3 hq
  obtain⟨t0,h0,hu⟩:=aa6.1 hq
  split at hl
  ·rename_i z hz
   obtain⟨inf,z0,iN,ft,wO⟩:=wK (e:=e) hz
   rcases hx.lj with⟨o,c,hi,ho,kO,hc,iL,hn,rfl⟩ | ⟨rfl,_,a,rfl⟩
   ·cases n with
    | zero=>
     have:rep 0 z=[]:=rfl
     rw[this] at hl
     cases hl
     exact⟨w,by simp[Builtin.clear_,h0,aH hu],h⟩
    | succ n=>
     have ff:=wO.rep (n+1)
     obtain⟨w',oF,hr⟩:=RH.LA (P:=P) (off:=off) (k:=0) h hl ff ho
     have hzz:(Builtin.zeroCells z0.cells (n+1)).toList=(List.replicate (n+1) z0.cells.toList).flatten:=YQ rfl _
     refine⟨w',?_,hr⟩
     simp only[Builtin.clear_,h0,aet,adg,Sem.run_bind,aH hu,Result.andThen_ok,qU iN ft]
     rw[hzz,oF]
     simp
   ·have:rep 0 z=[]:=rfl
    rw[this] at hl
    cases hl
    exact⟨w,by simp[Builtin.clear_,h0,aH hu],h⟩
  ·cases hl
 ·cases hl
theorem ae1 (h:RH G F W e H w){bV:Array TypeId}{ty:TypeId}{x v:AV}{x':Value}(hx:VR e x x')(hl:zf P bV x H=some v) :
  ∃ v',(Builtin.len_ bV ty #[x']).run P w = .ok v' w/\VR e v v':=by
 unfold zf at hl
 split at hl
 ·rename_i s hq
  obtain⟨t0,h0,hu⟩:=aa6.1 hq
  obtain⟨b,rfl,rfl⟩:=hx.lU
  cases hl
  rw[vK]
  exact⟨_,by simp[Builtin.len_,h0,aH hu];rfl,.int _ _⟩
 ·rename_i n el hq
  obtain⟨t0,h0,hu⟩:=aa6.1 hq
  cases hl
  exact⟨_,by simp[Builtin.len_,h0,aH hu];rfl,.int _ _⟩
 ·rename_i el hq
  obtain⟨t0,h0,hu⟩:=aa6.1 hq
  cases hl;cases hx
  exact⟨_,by simp[Builtin.len_,h0,aH hu];rfl,.int _ _⟩
 ·rename_i el a1 a2 n a3 a4 a5 hq
  obtain⟨t0,h0,hu⟩:=aa6.1 hq
  cases hl
  rcases hx.lj with⟨o,c,hi,ho,kO,hc,iL,hn,rfl⟩ | ⟨rfl,_,a,rfl⟩
  ·exact⟨_,by simp[Builtin.len_,h0,aH hu];rfl,.int _ _⟩
  ·exact⟨_,by simp[Builtin.len_,h0,aH hu];rfl,.int _ _⟩
 ·rename_i kt el hq
  obtain⟨t0,h0,hu⟩:=aa6.1 hq
  cases hl;cases hx
  exact⟨_,by simp[Builtin.len_,h0,aH hu];rfl,.int _ _⟩
 ·rename_i kt el i hq
  obtain⟨t0,h0,hu⟩:=aa6.1 hq
  obtain⟨hi,rfl⟩:=hx.CW
  split at hl
  ·rename_i es c hg
   cases hl
   obtain⟨_,aM,c',fs,hb,lz,pI,_⟩:=ye h hg
   have:es.length=aM.size:=by have h1:=pI.1;have h2:=lz.length_eq;have h3:aM.toList.length=aM.size:=ahY;omega
   rw[this]
   exact⟨_,by simp[Builtin.len_,h0,aH hu,Bq hb];rfl,.int _ _⟩
  ·cases hl
 ·rename_i a hq
  obtain⟨t0,h0,hu⟩:=aa6.1 hq
  split at hl
  ·rename_i n el hua
   cases hl
   exact⟨_,by simp[Builtin.len_,h0,aH hu,aH hua];rfl,.int _ _⟩
  ·cases hl
 ·cases hl
theorem adK {bV:Array TypeId}{ty:TypeId}{x v:AV}{x':Value}(hx:VR e x x')(hl:Kq P bV x=some v)(w:World) :
  ∃ v',(Builtin.cap_ bV ty #[x']).run P w = .ok v' w/\VR e v v':=by
 unfold Kq at hl
 split at hl
 ·rename_i el hq
  obtain⟨t0,h0,hu⟩:=aa6.1 hq
  cases hl;cases hx
  exact⟨_,by simp[Builtin.cap_,h0,aH hu];rfl,.int _ _⟩
 ·rename_i el a1 a2 n c a5 hq
  obtain⟨t0,h0,hu⟩:=aa6.1 hq
  cases hl
  rcases hx.lj with⟨o,c',hi,ho,kO,hc,iL,hn,rfl⟩ | ⟨rfl,rfl,a,rfl⟩
  ·have:=iL rfl
   subst this
   exact⟨_,by simp[Builtin.cap_,h0,aH hu];rfl,.int _ _⟩
  ·exact⟨_,by simp[Builtin.cap_,h0,aH hu];rfl,.int _ _⟩
 ·cases hl
theorem Yu:∀ {l:List AV} {ls:List Value} {x v:AV} {x':Value},VR e x x'->aP e l ls->AR false x l=some v->∃ v',(ls.foldlM Builtin.min2 x').run P w = .ok v' w/\VR e v v'
 | [],ls,x,v,x',hx,hl,h=>by
  rw[hl.jE];cases h;exact⟨x',by simp,hx⟩
 | y::l,ls,x,v,x',hx,hl,h=>by
  obtain⟨y',ws,rfl,hy,rq⟩:=hl.cons_inv
  unfold AR at h
  split at h
  ·rename_i z hz
   unfold Ss at hz
   split at hz
   ·cases hx.fE;cases hy.fE;cases hz
    obtain⟨v',h1,h2⟩:=Yu (.int _ _) rq h
    refine⟨v',?_,h2⟩
    simp only[List.foldlM_cons,Sem.run_bind,Builtin.min2,Sem.run_pure,Result.andThen_ok]
    exact h1
   ·cases hz
  ·cases h
theorem Ua:∀ {l:List AV} {ls:List Value} {x v:AV} {x':Value},VR e x x'->aP e l ls->AR true x l=some v->∃ v',(ls.foldlM Builtin.max2 x').run P w = .ok v' w/\VR e v v'
 | [],ls,x,v,x',hx,hl,h=>by
  rw[hl.jE];cases h;exact⟨x',by simp,hx⟩
 | y::l,ls,x,v,x',hx,hl,h=>by
  obtain⟨y',ws,rfl,hy,rq⟩:=hl.cons_inv
  unfold AR at h
  split at h
  ·rename_i z hz
   unfold Ss at hz
   split at hz
   ·cases hx.fE;cases hy.fE;cases hz
    obtain⟨v',h1,h2⟩:=Ua (.int _ _) rq h
    refine⟨v',?_,h2⟩
    simp only[List.foldlM_cons,Sem.run_bind,Builtin.max2,Sem.run_pure,Result.andThen_ok]
    exact h1
   ·cases hz
  ·cases h
end
end
section
variable {P:Program}{G:Nat}{F:Nat->Prop}{W:World}{e:Em}{H:Hp}{w:World}
theorem an7 (h:RH G F W e H w){bV:Array TypeId}{ty:TypeId}{d x v:AV}{d' x':Value}{H':Hp}(hd:VR e d d')(hx:VR e x x')(hl:Gs P bV d x H=some (v,H')) :
  ∃ v' w',(Builtin.copy_ bV ty #[d',x']).run P w = .ok v' w'/\RH G F W e H' w'/\VR e v v':=by
 unfold Gs at hl
 split at hl
 ·rename_i el hq
  obtain⟨t0,h0,hu⟩:=aa6.1 hq
  split at hl
  ·rename_i es xl hs eg
   have hlen:(Builtin.lenOf x').run P w = .ok xl w/\∀ m,(Nat.min xl m=0->(Builtin.firstCells es (Nat.min xl m) x').run P w = .ok #[] w):=by
    unfold Kr at eg
    split at eg
    ·cases eg;cases hx;exact⟨by simp[Builtin.lenOf],fun m hm=>by simp[Builtin.firstCells]⟩
    ·cases eg
     rcases hx.lj with⟨o,c,hi,ho,kO,hc,iL,hn,rfl⟩ | ⟨rfl,_,a,rfl⟩
     ·exact⟨by simp[Builtin.lenOf],fun m hm=>by simp only[Builtin.firstCells,hm,ahi];rfl⟩
     ·exact⟨by simp[Builtin.lenOf],fun m hm=>by simp only[Builtin.firstCells,hm,ahi];rfl⟩
    ·cases eg
     obtain⟨b,rfl,rfl⟩:=hx.lU
     refine⟨by simp[Builtin.lenOf,vK],fun m hm => ?_⟩
     simp only[Builtin.firstCells,hm,Sem.run_pure]
     congr 1
     apply adB.1
     simp
    ·cases eg
   obtain⟨hlen,Jw⟩:=hlen
   split at hl
   ·cases hl;cases hd
    refine⟨_,w,?_,h,.int _ _⟩
    have h1:=Jw 0 (Nat.min_zero _)
    simp only[Builtin.copy_,h0,aet,adg,ac1,Sem.run_bind,aH hu,Result.andThen_ok,hlen,gQ hs,h1]
    simp[goInt]
   ·rename_i i off dl a1 a2 a3
    cases hz:Nat.beq (Nat.min xl dl) 0 with
    | true=>
     rw[hz] at hl
     cases hl
     have hm:Nat.min xl dl=0:=abp hz
     have h1:=Jw dl hm
     rcases hd.lj with⟨o,c,hi,ho,kO,hc,iL,hn,rfl⟩ | ⟨rfl,_,a,rfl⟩
     ·refine⟨_,w,?_,h,.int _ _⟩
      simp only[Builtin.copy_,h0,aet,adg,ac1,Sem.run_bind,aH hu,Result.andThen_ok,hlen,gQ hs,h1]
      simp[goInt,storeCells,hm]
     ·refine⟨_,w,?_,h,.int _ _⟩
      simp only[Builtin.copy_,h0,aet,adg,ac1,Sem.run_bind,aH hu,Result.andThen_ok,hlen,gQ hs,h1]
      simp[goInt,storeCells,hm]
    | false=>
     rw[hz] at hl
     simp only[cond_false] at hl
     split at hl
     ·rename_i cs fu
      simp only[aaa,acn] at hl
      obtain⟨H2,aC,rfl,rfl⟩:=hl
      have Oz:∃ vs:List Value,aP e cs vs/\(Builtin.firstCells es (Nat.min xl dl) x').run P w = .ok vs.toArray w:=by
       unfold Rq at fu
       split at fu
       ·rename_i j aqq jl b1 b2 b3
        rcases hx.lj with⟨o,c,hi,ho,kO,hc,iL,hn,rfl⟩ | ⟨rfl,_,a,rfl⟩
        ·obtain⟨vs,q1,q2,q3⟩:=h.yZ fu ho
         refine⟨vs,q1,?_⟩
         have:=run_loadCells_list (P:=P) w ⟨e.b j,o,none⟩ vs (fun k u hk=>by rw[add_lit];exact q3 k u hk)
         rw[q2] at this
         simp[Builtin.firstCells,this]
        ·cases eg
         have:Nat.min 0 dl=0:=Nat.zero_min _
         rw[this] at hz;cases hz
       ·obtain⟨b,rfl,rfl⟩:=hx.lU
        cases fu
        cases eg
        refine⟨((b.extract 0 (Nat.min (bytes b).length dl)).data.toList).map fun u=>Value.int .u8 u.toNat,?_,?_⟩
        ·have mZ:=aP.W9 b 0 (Nat.min (bytes b).length dl)
         rw[acI,agq] at mZ
         rw[mZ]
         refine⟨by simp[bytes],fun k u v' hu bQ => ?_⟩
         simp only[bytes,ajf,adL,aaa] at hu bQ
         obtain⟨p,hp,rfl⟩:=hu
         obtain⟨p',Tf,rfl⟩:=bQ
         rw[hp] at Tf;cases Tf
         exact .int _ _
        ·simp only[Builtin.firstCells,Sem.run_pure]
         congr 1
         apply adB.1
         simp
       ·cases fu
      obtain⟨vs,hvl,hfc⟩:=Oz
      rcases hd.lj with⟨o,c,hi,ho,kO,hc,iL,hn,rfl⟩ | ⟨rfl,_,a,rfl⟩
      ·obtain⟨w',oF,hr⟩:=RH.LA (P:=P) (off:=off) (k:=0) h aC hvl ho
       refine⟨_,w',?_,hr,.int _ _⟩
       simp only[Builtin.copy_,h0,aet,adg,ac1,Sem.run_bind,aH hu,Result.andThen_ok,hlen,gQ hs,hfc,oF]
       simp[goInt]
      ·have:Nat.min xl 0=0:=Nat.min_zero _
       rw[this] at hz;cases hz
     ·cases hl
   ·cases hl
  ·cases hl
 ·cases hl
theorem ak9 {el:TypeId}(hc:P.cellsOf el=1)(count o n:Nat)(hn:o+n<=count):liesAt P P.depth el count o el n=true:=by
 have hd:P.depth=(2*(P.types.size+Made.depth)+1)+1:=rfl
 rw[hd]
 simp only[liesAt,agK]
 left
 rw[hd]
 simp[rowAt,hc,hn,sameLayout,Nat.mod_one]
theorem anJ {b:Nat}(w:World):∀ (us:List UInt8) (o:Nat) (acc:ByteArray),(∀ j v,(us.map (fun u=>Value.int .u8 u.toNat))[j]? = some v->w.cell? ⟨b,o+j,none⟩=some v)->
  (loadBytes ⟨b,o,none⟩ acc us.length).run P w = .ok ⟨acc.data++us.toArray⟩ w
 | us,o,acc,h=>by
  have:=Go.Lib.run_loadBytes (P:=P) w us ⟨b,o,none⟩ acc (fun j x hj=>by rw[add_lit];exact h j _ (by simp[hj]))
  exact this
theorem ajK {b o n:Nat}{C:Array Value}{el:TypeId}{fz:Nat × Nat}(dV:w.heap[b]? = some (.cells C el fz))(hn:¬ n=0) :
  ∃ Yq,(w.freeze ⟨b,o,none⟩ n).heap[b]? = some (.cells C el Yq)/\(∀ k,k≠b->(w.freeze ⟨b,o,none⟩ n).heap[k]? = w.heap[k]?)/\(w.freeze ⟨b,o,none⟩ n).heap.size=w.heap.size:=by
 simp only[World.freeze,if_neg hn]
 refine⟨_,CX _ _ _ dV,fun k hk=>Cf _ _ _ _ (fun q=>hk q.symm),by simp⟩
theorem acY (h:RH G F W e H w){bV:Array TypeId}{ty:TypeId}{p v:AV}{n:Int}{k:IntKind}{p':Value}{H':Hp}(hp:VR e p p')(hl:Lr P bV p k n H=some (v,H')) :
  ∃ v' w',(Builtin.unsafeString_ bV ty #[p',.int k n]).run P w = .ok v' w'/\RH G F W e H' w'/\VR e v v':=by
 have Db:IntKind.i64.max=9223372036854775807:=rfl
 unfold Lr at hl
 split at hl
 rotate_left
 ·cases hl
 rename_i t0 t1 lh
 obtain rfl:bV = #[t0,t1]:=adB.1 lh
 have B0:∀ q:Option Addr,n=0->(Builtin.unsafeString_ #[t0,t1] ty #[.pointer q,.int .i64 n]).run P w = .ok (.string .empty) w:=by
  intro q hn
  subst hn
  exact Go.Lib.run_unsafeString_none (P:=P) w t0 t1 ty q
 split at hl
 ·rename_i el hu
  cases hp
  split at hl
  ·rename_i hn;cases hl
   exact⟨.string .empty,w,B0 _ hn,h,.str .empty⟩
  ·cases hl
 ·rename_i el i off hu
  obtain⟨o,hi,ho,rfl⟩:=hp.pL
  split at hl
  ·rename_i hn;cases hl
   exact⟨.string .empty,w,B0 _ hn,h,.str .empty⟩
  ·rename_i kZ
   split at hl
   ·rename_i c lo iR tM fl hg
    split at hl
    ·rename_i hc
     obtain⟨rfl,y7,jF,gL,lu⟩:=hc
     simp only[aaa,aa6,acn] at hl
     obtain⟨bs,⟨cs,fu,so⟩,rfl,rfl⟩:=hl
     obtain⟨vs,q1,q2,q3⟩:=h.yZ fu ho
     obtain⟨us,rfl,rfl⟩:=Oo so q1
     rw[ads] at q2
     obtain⟨_,ob,dV,dO,hF⟩:=h.obj i _ hg
     cases dO with
     | cells _ _ _ _ _ C fz hn ic Sn h1 hd=>
     have ZL:o+n.toNat<=C.size:=by
      obtain⟨m,hm⟩:∃ m,us.length=m+1:=⟨us.length-1,by omega⟩
      have hq:=q3 m (Value.int .u8 (us[m]'(by omega)).toNat) (by simp[hm])
      simp only[World.cell?,dV] at hq
      have qt:=(abZ.1 hq).1
      omega
     have nR:w.shape? (e.b i)=some (el,C.size):=by simp[World.shape?,dV]
     have hva:liesAt P P.depth el (C.size / P.cellsOf el) o el n.toNat=true:=by
      rw[y7,Nat.div_one];exact ak9 y7 _ _ _ ZL
     have hlb:=anJ (P:=P) (b:=e.b i) w us o .empty q3
     rw[q2] at hlb
     have KH:¬ (n>IntKind.i64.max):=by rw[Db];omega
     have ZS:¬ n<0:=by omega
     have AE:Builtin.unsafeString_ #[t0,t1] ty #[.pointer (some ⟨e.b i,o,none⟩),.int .i64 n]=
      (do
       let n <-asInt (.int .i64 n)
       if n<0 then runtimePanic (.error "unsafe.String: len out of range")
       if n>IntKind.i64.max then unsupported (.unsafePointer "String: a length above the largest int")
       if n=0 then Pure.pure (.string .empty)
       else if <-variablesAt ⟨e.b i,o,none⟩ (<-elemOf t0) n.toNat then do
        let s <-loadBytes ⟨e.b i,o,none⟩ .empty n.toNat
        Go.freeze ⟨e.b i,o,none⟩ n.toNat
        Pure.pure (.string s)
       else unsupported (.unsafePointer "String: not so many bytes at ptr")) := rfl
     have Ay:¬ (9223372036854775807<n):=by omega
     have lZ:¬ n.toNat=0:=by omega
     obtain⟨Yq,g1,g2,g3⟩:=ajK (w:=w) (o:=o) dV lZ
     refine⟨.string ⟨us.toArray⟩,w.freeze ⟨e.b i,o,none⟩ n.toNat,?_,?_,.str ⟨us.toArray⟩⟩
     ·rw[AE]
      simp[asInt,asIntOf,Db,ZS,Ay,kZ,elemOf,aH hu,variablesAt,nR,hva,hlb]
     ·refine h.put hg (by simp[wr,lu]) g3 g1 g2 (.cells _ _ _ _ _ _ _ hn ic (by simp) (by simp) hd) ?_ ?_ ?_
      ·simp[World.freeze,lZ]
      ·simp[World.freeze,lZ]
      ·simp[World.freeze,lZ]
    ·cases hl
   ·cases hl
 ·cases hl
end
end Go.Proofs.YtodfajmihkagnaaGreatDoor.Am
