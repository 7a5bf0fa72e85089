/- Laws that the proof uses. -/
import Derived.Test.YtodfajmihkagnaaGreatDoorAm2
set_option maxHeartbeats 1000000
set_option linter.unusedVariables false
set_option linter.unusedSimpArgs false
namespace Go.Proofs.YtodfajmihkagnaaGreatDoor.Am
section
section
section
section
variable {P:Program}{G:Nat}{F:Nat->Prop}{W:World}{e:Em}{H:Hp}{w:World}
theorem Wz (n:Nat):∀ (r c:Nat),c<=2*n+192->Builtin.growBy n r c<=2*n+192
 | 0,c,h=>h
 | r+1,c,h=>by
  unfold Builtin.growBy
  split
  ·exact h
  ·exact Wz n r _ (by omega)
theorem nextslicecap_le {Ll cap:Nat}(h:cap<Ll):Builtin.nextslicecap Ll cap<=2*Ll+192:=by
 unfold Builtin.nextslicecap
 split
 ·omega
 ·split
  ·omega
  ·exact Wz Ll 4 cap (by omega)
theorem ao9 (b o el:Nat)(fz:Nat × Nat):∀ (vs:List Value) (k:Nat) (w:World) (C:Array Value),w.heap[b]? = some (.cells C el fz)->o+k+vs.length<=C.size->
  (∀ m,m<C.size->(decide (fz.1<=m)&&decide (m<fz.2))=false)->(∀ v∈vs,v.oneCell'=true)->
  ∃ w' C',(storeCells ⟨b,o,none⟩ vs k).run P w = .ok () w'/\w'.heap[b]? = some (.cells C' el fz)/\C'.size=C.size/\
   (∀ m,C'[m]? = if o+k<=m/\m<o+k+vs.length then vs[m-(o+k)]? else C[m]?)/\(∀ j,j≠b->w'.heap[j]? = w.heap[j]?)/\w'.heap.size=w.heap.size/\w'.os=w.os/\w'.tape=w.tape/\w'.output=w.output:=by
 intro vs
 induction vs with
 | nil=>
  intro k w C hb hs hf h1
  exact⟨w,C,by simp[storeCells],hb,rfl,fun m=>by rw[if_neg (by rw[acG];omega)],fun _ _=>rfl,rfl,rfl,rfl,rfl⟩
 | cons v vs ih=>
  intro k w C hb hs hf h1
  simp only[aa1] at hs
  have ba:o+k<C.size:=by omega
  have hc:w.cell? ⟨b,o+k,none⟩=some C[o+k]:=by simp[World.cell?,hb,ba]
  have Lg:w.frozen? ⟨b,o+k,none⟩=false:=by simp only[World.frozen?,hb];exact hf _ ba
  have hb1:(w.setCell ⟨b,o+k,none⟩ v).heap[b]? = some (.cells (C.setIfInBounds (o+k) v) el fz):=by
   simp only[World.setCell];rw[F8 _ _ _ hb];rfl
  obtain⟨w',C',r1,r2,r3,r4,r5,r6,r7,r8,r9⟩:=ih (k+1) _ _ hb1 (by simp;omega) (by simpa using hf) (fun u hu=>h1 u (List.mem_cons_of_mem _ hu))
  refine⟨w',C',?_,r2,by simpa using r3,fun m => ?_,fun j hj => ?_,?_,r7,r8,r9⟩
  ·simp only[storeCells,Sem.run_bind,add_lit,run_store P w _ _ _ (h1 v (List.mem_cons_self ..)),hc,Lg,abH,if_false,Result.andThen_ok]
   exact r1
  ·rw[r4 m]
   simp only[aa1]
   by_cases hm:m=o+k
   ·subst hm
    rw[if_neg (by omega),if_pos (by omega),aiz (by omega)]
    simp
   ·by_cases hr:o+(k+1)<=m/\m<o+(k+1)+vs.length
    ·rw[if_pos hr,if_pos (by omega)]
     have:m-(o+k)=(m-(o+(k+1)))+1:=by omega
     rw[this,adL]
    ·rw[if_neg hr,if_neg (by omega),ag2 (by omega)]
  ·rw[r5 j hj]
   simp only[World.setCell]
   rw[Fo _ _ _ _ (fun q=>hj q.symm)]
  ·rw[r6];simp[World.setCell]
theorem RH.del (h:RH G F W e H w)(i:Nat):RH G F W e { H with h:=H.h.del i } w:=by
 have ff:∀ j o,(H.h.del i).get j=some o->H.h.get j=some o/\j≠i:=by
  intro j o hj
  rw[Tr.Sq] at hj
  split at hj
  ·cases hj
  ·exact⟨hj,by assumption⟩
 exact⟨h.N,fun j o hj=>h.obj j o (ff j o hj).1,fun j k oj ok hj hk hq=>h.inj j k oj ok (ff j oj hj).1 (ff k ok hk).1 hq,h.si,h.frame,h.os,h.tape,h.output,h.size,h.mL⟩
theorem RH.move (h:RH G F W e H w){i:Nat}{o o':AO}(hg:H.h.get i=some o)(hw:wr o=true){j:Nat}{H':Hp}(ha:Am.alloc { H with h:=H.h.del i } o'=some (j,H'))
  {qJ:Obj} {w':World} (eG:w'.heap.size=w.heap.size) (hb:w'.heap[e.b i]? = some qJ) (aH:∀ k,k≠e.b i->w'.heap[k]? = w.heap[k]?)
  (eB:OR (e.ext (e.b i) (e.d i) (e.n i)) j o' qJ) (os:w'.os=w.os) (tape:w'.tape=w.tape) (output:w'.output=w.output) :
  j=e.N/\RH G F W (e.ext (e.b i) (e.d i) (e.n i)) H' w':=by
 obtain⟨rfl,aqF,rfl⟩:=xH ha
 obtain⟨hN,ob,ei,_,hF⟩:=h.obj i o hg
 have Ct:=h.N
 have hle:=Em.qj e (e.b i) (e.d i) (e.n i)
 have ff:∀ k x,((H.h.del i).put 34 H.next o').get k=some x->(k=H.next/\x=o')\/(k≠H.next/\k≠i/\H.h.get k=some x):=by
  intro k x hk
  rw[Tr.put,Tr.fH] at hk
  split at hk
  ·cases hk;exact .inl ⟨by assumption,rfl⟩
  ·rw[Tr.Sq] at hk
   split at hk
   ·cases hk
   ·exact .inr ⟨by assumption,by assumption,hk⟩
 have hU:∀ k x,H.h.get k=some x->(e.ext (e.b i) (e.d i) (e.n i)).b k=e.b k:=fun k x hk=>(hle.2 k (h.obj k x hk).1).1
 refine⟨Ct.symm,?_,?_,?_,?_,?_,os.trans h.os,tape.trans h.tape,output.trans h.output,by rw[eG];exact h.size,by obtain⟨g1,g2,g3⟩:=h.mL;rw[eG,(hle.2 G g2).2.2];simp[Em.ext];omega⟩
 ·simp[Em.ext,Ct]
 ·intro k x hk
  rcases ff k x hk with⟨rfl,rfl⟩ | ⟨k1,k2,k3⟩
  ·refine⟨by simp[Em.ext,Ct],qJ,?_,eB,?_⟩
   ·rw[<-Ct,Em.n0];exact hb
   ·intro _;rw[<-Ct,Em.n0];exact hF (.inl hw)
  ·obtain⟨a,qA,b2,c2,d2⟩:=h.obj k x k3
   refine⟨by simp[Em.ext];omega,qA,?_,c2.mono hle a,?_⟩
   ·rw[hU k x k3,aH _ (fun q=>k2 (h.inj i k o x hg k3 (.inl hw) q.symm).symm)];exact b2
   ·intro Im;rw[hU k x k3,(hle.2 G h.mL.2.1).2.2] at Im;rw[hU k x k3];exact d2 Im
 ·intro k m x y hk hm hq he
  rcases ff k x hk with⟨rfl,rfl⟩ | ⟨k1,k2,k3⟩<;>rcases ff m y hm with⟨rfl,rfl⟩ | ⟨m1,m2,m3⟩
  ·rfl
  ·rw[<-Ct,Em.n0,hU m y m3] at he
   exact absurd (h.inj i m o y hg m3 (.inl hw) he).symm m2
  ·rw[<-Ct,Em.n0,hU k x k3] at he
   exact absurd (h.inj i k o x hg k3 (.inl hw) he.symm).symm k2
  ·rw[hU k x k3,(hle.2 G h.mL.2.1).2.2] at hq
   rw[hU k x k3,hU m y m3] at he
   exact h.inj k m x y k3 m3 hq he
 ·intro g kJ
  obtain⟨a,b,c⟩:=h.si g kJ
  obtain⟨x,y,_⟩:=hle.2 g a
  exact⟨by simp[Em.ext];omega,x.trans b,y.trans c⟩
 ·intro k hk
  obtain⟨a,b⟩:=h.frame k hk
  refine⟨by rw[eG];exact a,?_⟩
  rw[aH k (fun q=>hF (.inl hw) (q▸hk))]
  exact b
theorem aah {z:Array Value}{es:Nat}(hz:z.size=es)(n:Nat):(Builtin.zeroCells z n).toList=(List.replicate n z.toList).flatten:=by
 unfold Builtin.zeroCells
 exact ad0 z n
theorem atM (h:RH G F W e H w){fg:Bool}{el es n:Nat}{x:AV}{x':Value}{new:List AV}(hx:VR e x x')(hs:sz P el=some es)(hn:Hn P fg el es x H=some (n,new)) :
  ∃ nv:List Value,bh e new nv/\nv.length=n*es/\
   (fg=true->∃ k:Int,x' = .int .i64 k/\0<=k/\k<16777216/\k.toNat=n/\∃ i z0,P.info? el=some i/\i.zero=some z0/\z0.cells.size=es/\nv=(List.replicate n z0.cells.toList).flatten)/\
   (fg=false->∀ w1:World,w1.heap=w.heap->(Builtin.lenOf x').run P w1 = .ok n w1/\(Builtin.firstCells es n x').run P w1 = .ok nv.toArray w1):=by
 unfold Hn at hn
 split at hn
 ·rename_i k
  cases hx.fZ
  split at hn
  ·rename_i hk
   split at hn
   ·rename_i z hz
    split at hn
    ·rename_i p9
     cases hn
     obtain⟨i,z0,hi,fJ,hl⟩:=zd (e:=e) hz
     have eG:z0.cells.size=es:=by have:=hl.1;simp at this;omega
     refine⟨_,hl.rep _,?_,fun _=>⟨k,rfl,hk.1,hk.2,rfl,i,z0,hi,fJ,eG,rfl⟩,by simp⟩
     simp[eG]
    ·cases hn
   ·cases hn
  ·cases hn
 ·cases hn;cases hx
  exact⟨[],.nil e,by simp,by simp,fun _ w1 ED=>⟨by simp[Builtin.lenOf],by simp[Builtin.firstCells]⟩⟩
 ·rename_i i off len a1 a2 a3
  simp only[aam,acv] at hn
  obtain⟨l,hl,rfl,rfl⟩:=hn
  rcases hx.mC with⟨o,k,nf,ho,lW,Aa,je,gC,rfl⟩ | ⟨rfl,_,a,rfl⟩
  ·obtain⟨cs,h1,h2,h3⟩:=h.By hl ho
   refine⟨cs,h1,h2,by simp,fun _ w1 ED=>⟨by simp[Builtin.lenOf],?_⟩⟩
   have:=run_loadCells_list (P:=P) w1 ⟨e.b i,o,none⟩ cs (fun j v hj=>by rw[add_lit];have q:=h3 j v hj;unfold World.cell? at q ⊢;rw[ED];exact q)
   rw[h2] at this
   simp[Builtin.firstCells,this]
  ·rw[aiA] at hl
   cases hl
   refine⟨[],.nil e,by simp,by simp,fun _ w1 ED=>⟨by simp[Builtin.lenOf],?_⟩⟩
   simp[Builtin.firstCells,loadCells,loadCellsFrom]
 ·rename_i s
  obtain⟨b,rfl,rfl⟩:=hx.mO
  split at hn
  ·rename_i sD
   subst sD
   simp only[adE,acv] at hn
   obtain⟨rfl,rfl⟩:=hn
   refine⟨b.data.toList.map fun u=>Value.int .u8 u.toNat,?_,?_,by simp,fun _ w1 ED=>⟨by simp[Builtin.lenOf,xp],?_⟩⟩
   ·refine⟨by simp[bytes],fun i v v' hv cw => ?_⟩
    simp only[bytes,List.map_map,aeI,aam] at hv cw
    obtain⟨u,hu,rfl⟩:=hv
    obtain⟨u',jG,rfl⟩:=cw
    rw[hu] at jG;cases jG
    exact .int _ _
   ·simp[bytes]
   ·simp only[Builtin.firstCells,xp]
    have:b.extract 0 b.size=b:=ByteArray.extract_zero_size
    rw[this]
    simp only[Sem.run_pure]
    congr 1
    apply aeU.1
    simp
  ·cases hn
 ·cases hn
theorem O5 {cB:Array TypeId}{fg:Bool}(h:Fk P cB=some fg) :
  (cB[1]? = none/\fg=false)\/∃ t d,cB[1]? = some t/\P.underlying t=some d/\Builtin.append_.match_1 (fun _=>Bool) d (fun _=>true) (fun _=>false)=fg:=by
 unfold Fk at h
 split at h
 ·rename_i t ht
  simp only[aam] at h
  obtain⟨d,hd,rfl⟩:=h
  refine .inr ⟨t,d,ht,hd,?_⟩
  cases d<;>rfl
 ·rename_i ht
  cases h
  exact .inl ⟨ht,rfl⟩
theorem Cq {cB:Array TypeId}{ty:TypeId}{fg:Bool}{t0 el es n:Nat}{s' x':Value}{base:Option Addr}{iq nG:Nat}{nv:List Value}{i:TypeInfo}{z0:Value}
  (h0:cB[0]? = some t0) (hu:P.underlying t0=some (.slice el)) (hz:Fk P cB=some fg) (hs:sz P el=some es) (nA:P.bytesOf el<=4096)
  (hi:P.info? el=some i) (fJ:i.zero=some z0) (vH:z0.cells.size=es)
  (qn:s' = .slice base iq nG) (aH:iq+n<=16777216) (p8:nv.length=n*es)
  (yI:fg=true->∃ k:Int,x' = .int .i64 k/\0<=k/\k<16777216/\k.toNat=n/\∃ i z0,P.info? el=some i/\i.zero=some z0/\z0.cells.size=es/\nv=(List.replicate n z0.cells.toList).flatten)
  (zn:fg=false->∀ w1:World,w1.heap=w.heap->(Builtin.lenOf x').run P w1 = .ok n w1/\(Builtin.firstCells es n x').run P w1 = .ok nv.toArray w1) :
  (iq+n<=nG->∀ w',(∀ a,base=some a->(storeCells (a.add (iq*es)) nv).run P w = .ok () w')->(base=none->w'=w)->
   (Builtin.append_ cB ty #[s',x']).run P w = .ok (.slice base (iq+n) nG) w')/\
  (nG<iq+n->∀ ov:List Value,(∀ w1:World,w1.heap=w.heap->(Builtin.firstCells es iq s').run P w1 = .ok ov.toArray w1)->
   ∃ c,iq+n<=c/\(Builtin.append_ cB ty #[s',x']).run P w=
    .ok (.slice (some ⟨w.heap.size,0,none⟩) (iq+n) c) { w with drawn:=w.drawn+1,heap:=w.heap.push (.cells (ov++nv++(List.replicate (c-(iq+n)) z0.cells.toList).flatten).toArray el (0,0)) }):=by
 have eG:=fun w=>hZ (P:=P) hs w
 have RN:i.bytes<=4096:=by unfold Program.bytesOf at nA;rw[hi] at nA;simpa using nA
 subst qn
 have Gb:¬ (((iq+n:Nat):Int)>IntKind.i64.max):=by rw[IntKind.max_i64];omega
 have NU:∀ c,(Builtin.zeroCells z0.cells c)=(List.replicate c z0.cells.toList).flatten.toArray:=fun c=>aeU.1 (by rw[aah vH])
 have ZK:nG<iq+n->¬ (Builtin.nextslicecap (iq+n) nG*i.bytes>2 ^ 48):=by
  intro ba
  have h1:=nextslicecap_le ba
  have:Builtin.nextslicecap (iq+n) nG*i.bytes<=(2*16777216+192)*4096:=Nat.mul_le_mul (by omega) RN
  omega
 have Ig:(Question.appendCap (iq+n) nG el).forced=false:=rfl
 have AT:iq+n<=(Question.appendCap (iq+n) nG el).cut (w.tape w.drawn (.appendCap (iq+n) nG el)):=Nat.le_add_right _ _
 cases fg with
 | false=>
  have hf:=zn rfl
  constructor
  ·intro hle w' aA Er
   obtain⟨f1,f2⟩:=hf w rfl
   have fin:(do
     let new <-Builtin.firstCells es n x'
     match base with
     | some a=>do storeCells (a.add (iq*es)) new.toList;Pure.pure (Value.slice base (iq+n) nG)
     | x=>Pure.pure (Value.slice base (iq+n) nG):Sem Value).run P w = .ok (.slice base (iq+n) nG) w':=by
    cases base with
    | none=>simp[f2,Er rfl]
    | some a=>simp[f2,aA a rfl]
   rcases O5 (P:=P) hz with⟨h1,_⟩ | ⟨t,d,h1,hd,hm⟩
   ·simp[Builtin.append_,h0,h1,aI hu,eG,f1,hle] at fin ⊢
    exact fin
   ·simp only[Builtin.append_,h0,h1,afW,aek,adL,Sem.run_bind,aI hu,aI hd,Result.andThen_ok,eG,Sem.run_pure]
    rw[hm]
    simp[f1,hle] at fin ⊢
    exact fin
  ·intro ba ov uK
   refine⟨_,AT,?_⟩
   have hb:=ZK ba
   have Lz:¬ (iq+n<=nG):=by omega
   obtain⟨f1,_⟩:=hf w rfl
   obtain⟨_,f2⟩:=hf { w with drawn:=w.drawn+1 } rfl
   have o1:=uK { w with drawn:=w.drawn+1 } rfl
   rcases O5 (P:=P) hz with⟨h1,_⟩ | ⟨t,d,h1,hd,hm⟩
   ·simp only[Builtin.append_,h0,h1,afW,aek,adL,Sem.run_bind,aI hu,Result.andThen_ok,eG,Sem.run_pure,abH,if_false,f1,if_neg Lz,qt hi]
    rw[if_neg (fun q=>Gb q.1),Sem.run_bind,qt hi,Result.andThen_ok,if_neg hb]
    simp only[Sem.run_bind,run_choose,Ig,abH,if_false,akl,if_true,Result.andThen_ok,qt hi,run_askRoom,o1,f2,rQ hi fJ,NU,newRow,run_newObj,Sem.run_pure]
    simp
   ·simp only[Builtin.append_,h0,h1,afW,aek,adL,Sem.run_bind,aI hu,aI hd,Result.andThen_ok,eG,Sem.run_pure]
    rw[hm]
    simp only[abH,if_false,Sem.run_bind,f1,Result.andThen_ok,if_neg Lz,qt hi]
    rw[if_neg (fun q=>Gb q.1),Sem.run_bind,qt hi,Result.andThen_ok,if_neg hb]
    simp only[Sem.run_bind,run_choose,Ig,abH,if_false,akl,if_true,Result.andThen_ok,qt hi,run_askRoom,o1,f2,rQ hi fJ,NU,newRow,run_newObj,Sem.run_pure]
    simp
 | true=>
  obtain⟨k,rfl,k1,k2,k3,i2,z2,nf,CS,axK,afZ⟩:=yI rfl
  rw[hi] at nf;cases nf
  rw[fJ] at CS;cases CS
  have hw:IntKind.i64.wrap k=k:=IntWalk.i64_in _ (by omega)
  have pI:¬ k*(i.bytes:Int)>2 ^ 48:=by
   have:k*(i.bytes:Int)<=16777216*4096:=Int.mul_le_mul (by omega) (by omega) (by omega) (by omega)
   omega
  have Cd:¬ k<0:=by omega
  rcases O5 (P:=P) hz with⟨h1,hf⟩ | ⟨t,d,h1,hd,hm⟩
  ·cases hf
  have M0:∀ w1:World,((if n*es=0 then Pure.pure #[] else do Pure.pure (Builtin.zeroCells (<-zeroValue el).cells n)):Sem (Array Value)).run P w1 = .ok nv.toArray w1:=by
   intro w1
   by_cases mG:n*es=0
   ·rw[if_pos mG]
    have:nv=[]:=List.eq_nil_of_length_eq_zero (by omega)
    subst this;rfl
   ·rw[if_neg mG]
    simp only[Sem.run_bind,rQ hi fJ,Result.andThen_ok,Sem.run_pure,NU,afZ]
  constructor
  ·intro hle w' aA Er
   have fin:(do
     let new <- (if n*es=0 then Pure.pure #[] else do Pure.pure (Builtin.zeroCells (<-zeroValue el).cells n))
     match base with
     | some a=>do storeCells (a.add (iq*es)) new.toList;Pure.pure (Value.slice base (iq+n) nG)
     | x=>Pure.pure (Value.slice base (iq+n) nG):Sem Value).run P w = .ok (.slice base (iq+n) nG) w':=by
    rw[Sem.run_bind,M0 w]
    cases base with
    | none=>simp[Er rfl]
    | some a=>simp[aA a rfl]
   simp only[Builtin.append_,h0,h1,afW,aek,adL,Sem.run_bind,aI hu,aI hd,Result.andThen_ok,eG,Sem.run_pure]
   rw[hm]
   simp only[if_true,Sem.run_bind,asInt,asIntOf,Sem.run_pure,Result.andThen_ok,hw,if_neg Cd,qt hi,if_neg pI,k3,if_pos hle,aj0,abH,if_false] at fin ⊢
   exact fin
  ·intro ba ov uK
   refine⟨_,AT,?_⟩
   have hb:=ZK ba
   have Lz:¬ (iq+n<=nG):=by omega
   have o1:=uK { w with drawn:=w.drawn+1 } rfl
   have f2:=M0 { w with drawn:=w.drawn+1 }
   simp only[Builtin.append_,h0,h1,afW,aek,adL,Sem.run_bind,aI hu,aI hd,Result.andThen_ok,eG,Sem.run_pure]
   rw[hm]
   simp only[if_true,Sem.run_bind,asInt,asIntOf,Sem.run_pure,Result.andThen_ok,hw,if_neg Cd,qt hi,if_neg pI,k3,if_neg Lz,aj0,abH,if_false]
   rw[if_neg (fun q=>Gb q.1),Sem.run_bind,qt hi,Result.andThen_ok,if_neg hb]
   simp only[Sem.run_bind,run_choose,Ig,abH,if_false,Result.andThen_ok,qt hi,run_askRoom,o1,f2,rQ hi fJ,NU,newRow,run_newObj,Sem.run_pure]
   simp
theorem VR.B3 {e:Em}{b i off len cap o c es:Nat}{ex:Bool}(hb:e.b i=b)(hi:i<e.N)(ho:(o:Int)=off+e.d i)(hl:len<=c)(hc:cap<=c)(hx:ex=true->c=cap)(hn:o+c*es<=e.n i) :
  VR e (.slice i off len cap ex es) (.slice (some ⟨b,o,none⟩) len c):=by
 subst hb;exact .slice i off len cap ex es o c hi ho hl hc hx hn
theorem bh.one {new:List AV}{nv:List Value}(h:bh e new nv)(ho:new.all bq=true):∀ v∈nv,v.oneCell'=true:=by
 intro v hv
 obtain⟨i,hi⟩:=adR hv
 have ba:i<new.length:=by rw[<-h.1];exact (aaw.1 hi).1
 have h1:=h.2 i new[i] v (aaC ba) hi
 exact h1.adZ (aeO.1 ho _ (List.getElem_mem ba))
theorem XP {b o iq nG es:Nat}{cs:List Value}(w:World)(hl:cs.length=iq*es)(h:∀ j v,cs[j]? = some v->w.cell? ⟨b,o+j,none⟩=some v) :
  ∀ w1:World,w1.heap=w.heap->(Builtin.firstCells es iq (.slice (some ⟨b,o,none⟩) iq nG)).run P w1 = .ok cs.toArray w1:=by
 intro w1 ED
 have:=run_loadCells_list (P:=P) w1 ⟨b,o,none⟩ cs (fun j v hj=>by rw[add_lit];have q:=h j v hj;unfold World.cell? at q ⊢;rw[ED];exact q)
 rw[hl] at this
 simp[Builtin.firstCells,this]
theorem akg (h:RH G F W e H w){cB:Array TypeId}{ty:TypeId}{s x v:AV}{s' x':Value}{H':Hp}(hs:VR e s s')(hx:VR e x x')(ha:Kt P cB s x H=some (v,H')) :
  ∃ v' w' e',(Builtin.append_ cB ty #[s',x']).run P w = .ok v' w'/\e.le e'/\RH G F W e' H' w'/\VR e' v v':=by
 unfold Kt at ha
 split at ha
 rotate_left
 ·cases ha
 rename_i el fg hq hz
 obtain⟨t0,h0,hu⟩:=abA.1 hq
 split at ha
 rotate_left
 ·cases ha
 rename_i es z dK Eo
 cases hb:(Nat.ble (P.bytesOf el) 4096&&Nat.beq z.length es) with
 | false=>rw[hb] at ha;cases ha
 | true=>
 rw[hb] at ha
 simp only[cond_true] at ha
 rw[aaT,afV] at hb
 obtain⟨nA,p9⟩:=hb
 have axr:z.length=es:=abI p9
 obtain⟨inf,z0,jd,fJ,zu⟩:=zd (e:=e) Eo
 have vH:z0.cells.size=es:=by have:=zu.1;simp at this;omega
 split at ha
 rotate_left
 ·cases ha
 rename_i n new rN
 obtain⟨nv,iJ,p8,yI,zn⟩:=atM (P:=P) h hx dK rN
 split at ha
 · -- nil
  cases hs
  cases mG:Nat.beq n 0 with
  | true=>
   rw[mG] at ha
   cases ha
   have:n=0:=abI mG
   subst this
   obtain⟨r1,_⟩:=Cq (P:=P) (w:=w) (ty:=ty) (s' := .slice none 0 0) h0 hu hz dK nA jd fJ vH rfl (by omega) p8 yI zn
   exact⟨_,w,e,r1 (aaU _) w (by simp) (fun _=>rfl),e.le_refl,h,.ae⟩
  | false=>
   rw[mG] at ha
   simp only[cond_false] at ha
   cases kA:Nat.ble n 16777216 with
   | false=>rw[kA] at ha;cases ha
   | true=>
   rw[kA] at ha
   simp only[cond_true] at ha
   rw[afV] at kA
   split at ha
   ·rename_i i H2 dJ
    cases ha
    have vX:0<n:=by
     rcases Nat.eq_zero_or_pos n with q | q
     ·subst q;cases mG
     ·exact q
    obtain⟨_,r2⟩:=Cq (P:=P) (w:=w) (ty:=ty) (s' := .slice none 0 0) h0 hu hz dK nA jd fJ vH rfl (by omega) p8 yI zn
    obtain⟨c,hc,hr⟩:=r2 (by omega) [] (fun w1 _=>by simp[Builtin.firstCells])
    rw[aeJ] at hc hr
    obtain⟨e',he,g1,g2,g3,g4,pK⟩:=(h.drawn (w.drawn+1)).newRow (rest:=(List.replicate (c-n) z0.cells.toList).flatten) (fz:=(0,0)) dJ iJ (fun _=>rfl) (by simp)
    refine⟨_,_,e',hr,he,pK,?_⟩
    have iP:w.heap.size=e'.b i:=g2.symm
    rw[iP]
    refine .slice i 0 n n false es 0 c g1 (by rw[g3];simp) hc hc (by simp) ?_
    rw[g4]
    have:((List.replicate (c-n) z0.cells.toList).flatten).length=(c-n)*es:=by simp[vH]
    rw[abj,p8,this,<-ahJ]
    have:n+(c-n)=c:=by omega
    rw[this];omega
   ·cases ha
 ·rename_i i off len cap ex aQ
  cases iP:(Nat.ble (len+n) 16777216&&Nat.beq es aQ&&new.all bq) with
  | false=>rw[iP] at ha;cases ha
  | true=>
  rw[iP] at ha
  simp only[cond_true] at ha
  simp only[aaT,afV] at iP
  obtain⟨⟨hle,hee⟩,S6⟩:=iP
  have ahL:es=aQ:=abI hee
  subst ahL
  cases iA:Nat.ble (len+n) cap with
  | true=>
   rw[iA] at ha
   simp only[cond_true] at ha
   rw[afV] at iA
   split at ha
   ·rename_i H2 aA
    cases ha
    rcases hs.mC with⟨o,c,hi,ho,hl,hc,je,hn,rfl⟩ | ⟨rfl,rfl,a,rfl⟩
    ·obtain⟨r1,_⟩:=Cq (P:=P) (w:=w) (ty:=ty) (s' := .slice (some ⟨e.b i,o,none⟩) len c) h0 hu hz dK nA jd fJ vH rfl (by omega) p8 yI zn
     obtain⟨w',Ad,hr⟩:=RH.Ou (P:=P) (off:=off+len*es) (k:=0) (o:=o+len*es) h aA iJ (by push_cast;omega)
     refine⟨_,w',e,r1 (by omega) w' (fun a ha => ?_) (by simp),e.le_refl,hr,.slice _ _ _ _ _ _ _ _ hi ho (by omega) hc je hn⟩
     cases ha
     rw[add_lit];exact Ad
    ·have mG:n=0:=by omega
     subst mG
     have:new=[]:=by
      have:=iJ.1
      rw[p8] at this
      exact List.eq_nil_of_length_eq_zero (by omega)
     subst this
     cases aA
     have amy:nv=[]:=iJ.kX
     subst amy
     obtain⟨r1,_⟩:=Cq (P:=P) (w:=w) (ty:=ty) (s' := .slice (some a) 0 0) h0 hu hz dK nA jd fJ vH rfl (by omega) p8 yI zn
     exact⟨_,w,e,r1 (aaU _) w (fun a ha=>by simp[storeCells]) (by simp),e.le_refl,h,.BA ..⟩
   ·cases ha
  | false=>
   rw[iA] at ha
   simp only[cond_false] at ha
   have alk:cap<len+n:=by
    rcases akN cap (len+n) with q | q
    ·exact q
    ·have q2:Nat.ble (len+n) cap=true:=by rw[afV];exact q
     rw[q2] at iA;cases iA
   cases hex:ex with
   | true=>
    rw[hex] at ha
    simp only[cond_true] at ha
    split at ha
    ·rename_i hU hold
     split at ha
     ·rename_i j H2 dJ
      cases ha
      have key:∀ (base:Addr) (c0:Nat) (ov:List Value),s' = .slice (some base) len c0->c0<len+n->bh e hU ov->ov.length=len*es->
        (∀ w1:World,w1.heap=w.heap->(Builtin.firstCells es len (.slice (some base) len c0)).run P w1 = .ok ov.toArray w1)->
        ∃ v' w' e',(Builtin.append_ cB ty #[s',x']).run P w = .ok v' w'/\e.le e'/\RH G F W e' H' w'/\VR e' (.slice j 0 (len+n) (len+n) false es) v':=by
       intro base c0 ov qn ba uK lu lr
       obtain⟨_,r2⟩:=Cq (P:=P) (w:=w) (ty:=ty) (s':=s') h0 hu hz dK nA jd fJ vH qn (by omega) p8 yI zn
       obtain⟨c,hc,hr⟩:=r2 ba ov (by rw[qn];exact lr)
       obtain⟨e',he,g1,g2,g3,g4,pK⟩:=(h.drawn (w.drawn+1)).newRow (rest:=(List.replicate (c-(len+n)) z0.cells.toList).flatten) (fz:=(0,0)) dJ (uK.append iJ) (fun _=>rfl) (by simp)
       refine⟨_,_,e',hr,he,pK,?_⟩
       have iP:w.heap.size=e'.b j:=g2.symm
       rw[iP]
       refine .slice j 0 (len+n) (len+n) false es 0 c g1 (by rw[g3];simp) hc hc (by simp) ?_
       rw[g4]
       have:((List.replicate (c-(len+n)) z0.cells.toList).flatten).length=(c-(len+n))*es:=by simp[vH]
       rw[abj,abj,p8,lu,this,<-ahJ,<-ahJ]
       have:len+n+(c-(len+n))=c:=by omega
       rw[this];omega
      rcases hs.mC with⟨o,c,hi,ho,hl,hc,je,hn,qn⟩ | ⟨rfl,rfl,a,qn⟩
      ·obtain⟨ov,h1,h2,h3⟩:=h.By hold ho
       exact key _ c ov qn (by have:=je hex;omega) h1 h2 (XP w h2 h3)
      ·rw[aiA] at hold
       cases hold
       exact key a 0 [] qn alk (.nil e) (by simp) (fun w1 _=>by simp[Builtin.firstCells,loadCells,loadCellsFrom])
     ·cases ha
    ·cases ha
   | false=>
    rw[hex] at ha
    simp only[cond_false] at ha
    split at ha
    ·rename_i c lo hi vN fl hg
     cases vQ:(Nat.ble fl 1&&Nat.ble lo off&&Nat.ble (off+len*es) hi&&Nat.beq el vN) with
     | false=>rw[vQ] at ha;cases ha
     | true=>
     rw[vQ] at ha
     simp only[cond_true] at ha
     simp only[aaT,afV] at vQ
     obtain⟨⟨⟨b1,b2⟩,b3⟩,b4⟩:=vQ
     have pz:el=vN:=abI b4
     subst pz
     split at ha
     ·rename_i j H2 dh
      cases ha
      have aw1:new.length=n*es:=by rw[<-iJ.1];exact p8
      have aw2:off+(len+n)*es=off+len*es+n*es:=by rw[ahJ];omega
      have aax:∀ k,(c.cJ (off+len*es) new).get k=if off+len*es<=k/\k<off+len*es+new.length then new[k-(off+len*es)]? else c.get k:=fun k=>Tr.wZ _ c _ _
      have aa6:∀ (base:Addr) (c0:Nat) (ov:List Value),s' = .slice (some base) len c0->c0<len+n->ov.length=len*es->
        (∀ k v,off<=k->k<off+len*es->c.get k=some v->∃ v',ov[k-off]? = some v'/\VR e v v')->
        (∀ w1:World,w1.heap=w.heap->(Builtin.firstCells es len (.slice (some base) len c0)).run P w1 = .ok ov.toArray w1)->
        ∃ v' w' e',(Builtin.append_ cB ty #[s',x']).run P w = .ok v' w'/\e.le e'/\RH G F W e' H' w'/\VR e' (.slice j off (len+n) (len+n) false es) v':=by
       intro base c0 ov qn ba lu uK lr
       obtain⟨_,r2⟩:=Cq (P:=P) (w:=w) (ty:=ty) (s':=s') h0 hu hz dK nA jd fJ vH qn (by omega) p8 yI zn
       obtain⟨cc,jB,hr⟩:=r2 ba ov (by rw[qn];exact lr)
       have hd:=(h.drawn (w.drawn+1)).del i
       have hj:=(xH dh).1
       have jP:j=e.N:=hj.trans h.N.symm
       subst jP
       have fA:((List.replicate (cc-(len+n)) z0.cells.toList).flatten).length=(cc-(len+n))*es:=by simp[vH]
       have eG:(ov++nv++(List.replicate (cc-(len+n)) z0.cells.toList).flatten).length=cc*es:=by
        rw[abj,abj,p8,lu,fA,<-ahJ,<-ahJ]
        congr 1;omega
       have eB:OR (e.ext w.heap.size (-(off:Int)) (cc*es)) e.N (.cells (c.cJ (off+len*es) new) off (off+(len+n)*es) el 1) (.cells (ov++nv++(List.replicate (cc-(len+n)) z0.cells.toList).flatten).toArray el (0,0)):=by
        refine .cells _ _ _ _ _ _ _ (by rw[Em.yw];simpa using eG) ?_ (by simp) (by simp) (fun q=>by rw[Em.oc];omega)
        intro k u vl gp hk
        rw[aax] at hk
        refine⟨k-off,by rw[Em.oc];omega,?_⟩
        simp only[afW]
        split at hk
        ·rename_i lG
         obtain⟨u',jG,iL⟩:=iJ.get hk
         refine⟨u',?_,iL.mono (Em.qj ..)⟩
         rw[abX (by rw[abj,lu,p8];omega),ack (by rw[lu];omega),lu]
         rw[<-jG];congr 1;omega
        ·rename_i lG
         obtain⟨u',jG,iL⟩:=uK k u vl (by omega) hk
         refine⟨u',?_,iL.mono (Em.qj ..)⟩
         have:k-off<ov.length:=(aaw.1 jG).1
         rw[abX (by rw[abj];omega),abX this]
         exact jG
       obtain⟨_,pK⟩:=hd.alloc dh eB
       refine⟨_,_,_,hr,Em.qj ..,pK,?_⟩
       exact VR.B3 (e:=e.ext w.heap.size (-(off:Int)) (cc*es)) (Em.n0 ..) (by simp[Em.ext]) (by rw[Em.oc];omega) jB jB (by simp) (by rw[Em.yw];omega)
      obtain⟨hN,ob,ei,eB,hF⟩:=h.obj i _ hg
      cases eB with
      | cells _ _ _ _ _ C fz hCn jB Sv N6 hd=>
      rcases hs.mC with⟨o,c0,nf,ho,hl,hc,je,hn,qn⟩ | ⟨rfl,rfl,a,qn⟩
      ·have hlen:len*es<=c0*es:=agV _ hl
       by_cases lG:len+n<=c0
       · -- in place
        have kB:(len+n)*es<=c0*es:=agV _ lG
        have axD:(len+n)*es=len*es+n*es:=ahJ ..
        obtain⟨w',C',r1,r2,r3,r4,r5,r6,r7,r8,r9⟩:=ao9 (P:=P) (e.b i) (o+len*es) el fz nv 0 w C ei (by rw[p8];omega) (N6 b1) (iJ.one S6)
        obtain⟨q1,_⟩:=Cq (P:=P) (w:=w) (ty:=ty) (s':=s') h0 hu hz dK nA jd fJ vH qn (by omega) p8 yI zn
        have hj:=(xH dh).1
        have jP:j=e.N:=hj.trans h.N.symm
        subst jP
        have ahP:OR (e.ext (e.b i) (e.d i) (e.n i)) e.N (.cells (c.cJ (off+len*es) new) off (off+(len+n)*es) el 1) (.cells C' el fz):=by
         refine .cells _ _ _ _ _ _ _ (by rw[Em.yw,r3,hCn]) ?_ (by simp) (fun _ k hk=>N6 b1 k (by omega)) (fun q=>by rw[Em.oc];exact hd (by omega))
         intro k u vl gp hk
         rw[aax] at hk
         split at hk
         ·rename_i aqG
          obtain⟨u',jG,iL⟩:=iJ.get hk
          refine⟨o+(k-off),by rw[Em.oc];omega,u',?_,iL.mono (Em.qj ..)⟩
          rw[r4,if_pos (by rw[p8];omega),<-jG]
          congr 1;omega
         ·rename_i aqG
          obtain⟨k2,As,u',jG,iL⟩:=jB k u (by omega) (by omega) hk
          refine⟨k2,by rw[Em.oc];exact As,u',?_,iL.mono (Em.qj ..)⟩
          rw[r4,if_neg (by omega)]
          exact jG
        obtain⟨_,pK⟩:=h.move hg (by simp[wr,b1]) dh r6 r2 r5 ahP r7 r8 r9
        refine⟨_,w',_,q1 lG w' (fun a ha => ?_) (by simp),Em.qj ..,pK,?_⟩
        ·cases ha
         rw[add_lit];exact r1
        ·exact VR.B3 (e:=e.ext (e.b i) (e.d i) (e.n i)) (Em.n0 ..) (by simp[Em.ext]) (by rw[Em.oc];exact ho) lG lG (by simp) (by rw[Em.yw];exact hn)
       ·refine aa6 _ c0 ((C.toList.drop o).take (len*es)) qn (by omega) ?_ ?_ ?_
        ·simp;omega
        ·intro k u vl gp hk
         obtain⟨k2,As,u',jG,iL⟩:=jB k u (by omega) (by omega) hk
         refine⟨u',?_,iL⟩
         rw[aiC,if_pos (by omega),ahj,afj,<-jG]
         congr 1;omega
        ·refine XP w (by simp;omega) (fun m u hm => ?_)
         rw[aiC] at hm
         split at hm
         ·rw[ahj,afj] at hm
          simp[World.cell?,ei,hm]
         ·cases hm
      ·refine aa6 a 0 [] qn (by omega) (by simp) (fun k u vl gp hk=>by omega) (fun w1 _=>by simp[Builtin.firstCells,loadCells,loadCellsFrom])
     ·cases ha
    ·cases ha
 ·cases ha
end
end
section
variable {P:Program}{G:Nat}{F:Nat->Prop}{W:World}{e:Em}{H:Hp}{w:World}
theorem VR.Za {a b:AV}{a' b':Value}(ha:VR e a a')(hb:VR e b b')(h:JG a b=true):a'=b'/\∀ n,Instr.sameBits n a' b'=true:=by
 unfold JG at h
 split at h
 ·cases ha.xj;cases hb.xj
  simp only[beq_iff_eq] at h
  subst h;exact⟨rfl,fun n=>by simp[Instr.sameBits]⟩
 ·cases ha.fZ;cases hb.fZ
  simp only[aaT,decide_eq_true_eq] at h
  obtain⟨rfl,rfl⟩:=h
  exact⟨rfl,fun n=>by simp[Instr.sameBits]⟩
 ·obtain⟨p,rfl,rfl⟩:=ha.mO
  obtain⟨q,rfl,rfl⟩:=hb.mO
  have:(p==q)=true:=by rw[acx];exact h
  have CC:p=q:=by
   have h0:(p==q)=(p.data==q.data):=by cases p;cases q;rfl
   rw[h0,beq_iff_eq] at this
   cases p;cases q;simpa using this
  subst CC
  exact⟨rfl,fun n=>by simp[Instr.sameBits,this]⟩
 ·cases h
theorem bh.plain:∀ {x y:List AV} {x' y':List Value},bh e x x'->bh e y y'->Gc x y=true->x'=y'/\∀ n,(x'.zip y').all (fun (a,b)=>Instr.sameBits n a b)=true
 | [],[],x',y',hx,hy,h=>by rw[hx.kX,hy.kX];exact⟨rfl,fun n=>rfl⟩
 | [],_::_,_,_,_,_,h=>by simp[Gc] at h
 | _::_,[],_,_,_,_,h=>by simp[Gc] at h
 | a::x,b::y,x',y',hx,hy,h=>by
  simp only[Gc,aaT] at h
  obtain⟨a',xs,rfl,ha,hx⟩:=hx.cons_inv
  obtain⟨b',ys,rfl,hb,hy⟩:=hy.cons_inv
  obtain⟨h1,h2⟩:=ha.Za hb h.1
  obtain⟨h3,h4⟩:=bh.plain hx hy h.2
  subst h1;subst h3
  exact⟨rfl,fun n=>by simp only[List.zip_cons_cons,ajU,h2 n,h4 n,Bool.and_self]⟩
theorem VR.plain {a b:AV}{a' b':Value}(ha:VR e a a')(hb:VR e b b')(h:Dz a b=true):Instr.sameBits 10000 a' b'=true:=by
 unfold Dz at h
 split at h
 ·obtain⟨x,rfl,hx⟩:=ha.yt
  obtain⟨y,rfl,hy⟩:=hb.yt
  obtain⟨h1,h2⟩:=hx.plain hy h
  have:x.size=y.size:=by have:=congrArg List.length h1;simpa using this
  simp only[Instr.sameBits,this,beq_self_eq_true,ac5]
  exact h2 9999
 ·exact (ha.Za hb h).2 _
theorem Ts {α:Type}(g:α->Bool)(body:α->PUnit->Sem (ForInStep PUnit))(w:World)(hb:∀ a,g a=true->(body a ⟨⟩).run P w = .ok (.yield ⟨⟩) w) :
  ∀ l:List α,l.all g=true->(forIn l (⟨⟩:PUnit) body).run P w = .ok ⟨⟩ w
 | [],_=>by simp
 | a::l,h=>by
  simp only[ajU,aaT] at h
  rw[List.forIn_cons,Sem.run_bind,hb a h.1]
  exact Ts g body w hb l h.2
theorem Vz (w:World)(emp:Bool):∀ (d D:Nat),d<=D->∀ (t:TypeId) (v:AV) (v':Value),VR e v v'->pf P d t v=true->(Instr.checkKey emp D t v').run P w = .ok () w:=by
 intro d
 induction d with
 | zero=>intro D _ t v v' _ h;cases h
 | succ d ih=>
  intro D hD t v v' hv h
  obtain⟨D,rfl⟩:∃ k,D=k+1:=⟨D-1,by omega⟩
  unfold pf at h
  split at h
  ·rename_i hu;simp[Instr.checkKey,aI hu]
  ·rename_i hu;simp[Instr.checkKey,aI hu]
  ·rename_i hu;simp[Instr.checkKey,aI hu]
  ·rename_i fs cs hu
   obtain⟨vs,rfl,hl⟩:=hv.yt
   have key := Ts (P := P) (g := fun f : Field => if f.name ≠ "_" then (match nH P f.type cs f.offset with | some v => pf P d f.type v | none => false) else true)
    (body:=fun f O9=>do
     if f.name ≠ "_" then
      Instr.checkKey emp D f.type (<-part f.type vs f.offset)
      Pure.pure (ForInStep.yield PUnit.unit)
     else Pure.pure (ForInStep.yield PUnit.unit)) w (by
     intro f hg
     by_cases hn : f.name = "_"
     ·simp[hn]
     ·simp only[ne_eq,hn,not_false_eq_true,if_true] at hg
      split at hg
      ·rename_i u xN
       obtain⟨u',jG,hr⟩:=Bh hl xN w
       have:=ih D (by omega) f.type u u' hr hg
       simp[hn,jG,this]
      ·cases hg) fs.toList h
   simp[Instr.checkKey,aI hu] at key ⊢
   simp[key]
  ·rename_i n el cs hu
   split at h
   ·rename_i s hs
    obtain⟨vs,rfl,hl⟩:=hv.yt
    have key:=Ts (P:=P) (g:=fun i:Nat=>match nH P el cs (i*s) with | some v=>pf P d el v | none=>false)
     (body:=fun i O9=>do
      let z <-sizeOf el
      let p <-part el vs (i*z)
      Functor.map (fun a=>ForInStep.yield PUnit.unit) (Instr.checkKey emp D el p)) w (by
      intro i hg
      split at hg
      ·rename_i u xN
       obtain⟨u',jG,hr⟩:=Bh hl xN w
       have:=ih D (by omega) el u u' hr hg
       simp[hZ hs,jG,this]
      ·cases hg) (List.range' 0 n) h
    simp[Instr.checkKey,aI hu]
    exact key
   ·cases h
  ·cases h
theorem iK.cons_inv {m:ME}{es:List ME}{aQ:List MapEntry}(h:iK e (m::es) aQ):∃ m' r',aQ=m'::r'/\VR e m.key m'.key/\VR e m.val m'.val/\iK e es r':=by
 cases aQ with
 | nil=>simp[iK] at h
 | cons m' r'=>
  obtain⟨a,b⟩:=h.2 0 m m' rfl rfl
  exact⟨m',r',rfl,a,b,by simpa using h.1,fun i x y hx hy=>h.2 (i+1) x y (by simpa using hx) (by simpa using hy)⟩
theorem iK.kX {aQ:List MapEntry}(h:iK e [] aQ):aQ=[]:=by simpa using h.1
theorem aaY (h:RH G F W e H w){t:TypeId}{k:AV}{k':Value}(hk:VR e k k'):∀ (es:List ME) (fs:List MapEntry),iK e es fs->xJ P H t k es=true->∀ x∈fs,(Op.equal t k' x.key).run P w = .ok false w
 | [],fs,hm,_=>by rw[hm.kX];simp
 | m::es,fs,hm,hf=>by
  obtain⟨m',r',rfl,h1,h2,h4⟩:=hm.cons_inv
  unfold xJ at hf
  split at hf
  ·rename_i heq
   have:=Iy h 20 Op.maxDepth (by decide) t k m.key k' m'.key false hk h1 heq
   intro x hx
   rcases aa7.1 hx with rfl | hx
   ·exact this
   ·exact aaY h hk es r' h4 hf x hx
  ·cases hf
def FK (P:Program)(e:Em)(w:World)(t:TypeId)(k':Value)(fs:List MapEntry)(i0:Nat):Option (Nat × ME)->Prop
 | none=>∀ x∈fs,(Op.equal t k' x.key).run P w = .ok false w
 | some (j,m)=>∃ f1 m' f2,fs=f1++m'::f2/\j=i0+f1.length/\VR e m.key m'.key/\VR e m.val m'.val/\(Op.equal t k' m'.key).run P w = .ok true w/\∀ x∈f1++f2,(Op.equal t k' x.key).run P w = .ok false w
theorem Wk (h:RH G F W e H w){t:TypeId}{k:AV}{k':Value}(hk:VR e k k'):∀ (es:List ME) (fs:List MapEntry) (i:Nat) (r:Option (Nat × ME)),iK e es fs->nq P H t k es i=some r->FK P e w t k' fs i r
 | [],fs,i,r,hm,hf=>by
  rw[hm.kX]
  cases hf
  exact fun x hx=>by cases hx
 | m::es,fs,i,r,hm,hf=>by
  obtain⟨m',r',rfl,h1,h2,h4⟩:=hm.cons_inv
  unfold nq at hf
  split at hf
  ·rename_i heq
   have:=Iy h 20 Op.maxDepth (by decide) t k m.key k' m'.key true hk h1 heq
   cases hn:xJ P H t k es with
   | false=>rw[hn] at hf;cases hf
   | true=>
    rw[hn] at hf
    cases hf
    exact⟨[],m',r',rfl,rfl,h1,h2,this,fun x hx=>aaY h hk es r' h4 hn x (by simpa using hx)⟩
  ·rename_i heq
   have:=Iy h 20 Op.maxDepth (by decide) t k m.key k' m'.key false hk h1 heq
   have ih:=Wk h hk es r' (i+1) r h4 hf
   cases r with
   | none=>
    intro x hx
    rcases aa7.1 hx with rfl | hx
    ·exact this
    ·exact ih x hx
   | some x=>
    obtain⟨j,mm⟩:=x
    obtain⟨f1,n',f2,rfl,rfl,q1,q2,q3,q4⟩:=ih
    refine⟨m'::f1,n',f2,rfl,by simp only[aa1];omega,q1,q2,q3,fun x hx => ?_⟩
    rcases aa7.1 hx with rfl | hx
    ·exact this
    ·exact q4 x hx
  ·cases hf
theorem ado {t:TypeId}{k':Value}{w:World}:∀ (l:List MapEntry) (i:Nat),(∀ x∈l,(Op.equal t k' x.key).run P w = .ok false w)->(Instr.findAsking t k' l i).run P w = .ok none w
 | [],i,_=>by simp[Instr.findAsking]
 | m::l,i,h=>by
  have h1:=h m (.head _)
  have h2:=ado l (i+1) fun x hx=>h x (.tail _ hx)
  simp[Instr.findAsking,h1,h2]
theorem afQ {t:TypeId}{k':Value}{w:World}{m:MapEntry}{b:List MapEntry}(hm:(Op.equal t k' m.key).run P w = .ok true w):∀ (a:List MapEntry) (i:Nat),(∀ x∈a,(Op.equal t k' x.key).run P w = .ok false w)->
  (Instr.findAsking t k' (a++m::b) i).run P w = .ok (some (i+a.length,m.val)) w
 | [],i,_=>by simp[Instr.findAsking,hm]
 | x::a,i,h=>by
  have h1:=h x (.head _)
  have h2:=afQ (b:=b) hm a (i+1) fun x hx=>h x (.tail _ hx)
  rw[List.cons_append,aa1,show i+(a.length+1)=i+1+a.length by omega]
  simp[Instr.findAsking,h1,h2]
theorem adV {d:TypeDesc}{t:TypeId}(hu:P.underlying t=some d){k':Value}(w:World):∀ (aQ:List MapEntry) (i:Nat) (r r2:Option (Nat × Value)),Instr.findNow d k' aQ i=some r->(Instr.findAsking t k' aQ i).run P w = .ok r2 w->r=r2
 | [],i,r,r2,h1,h2=>by
  cases h1
  simp[Instr.findAsking] at h2
  exact h2
 | m::aQ,i,r,r2,h1,h2=>by
  obtain⟨adf,ax1,ayc⟩:=m
  unfold Instr.findNow at h1
  obtain⟨md,hmd⟩:∃ md,Op.maxDepth=md+1:=⟨9999,rfl⟩
  have hsn:∀ b,Instr.sameNow d k' adf=some b->(Op.equal t k' adf).run P w = .ok b w:=by
   intro b hb
   unfold Op.equal
   rw[hmd]
   unfold Instr.sameNow at hb
   split at hb
   ·rename_i h1 h2
    split at hb
    ·rename_i KQ;cases hb;simp[Op.equalIn,aI hu,KQ]
    ·cases hb
   ·rename_i h1 h2;cases hb;simp[Op.equalIn,aI hu]
   ·rename_i h1 h2;cases hb;simp[Op.equalIn,aI hu]
   ·cases hb
  split at h1
  ·rename_i hs
   cases h1
   simp[Instr.findAsking,hsn true hs] at h2
   exact h2
  ·rename_i hs
   simp[Instr.findAsking,hsn false hs] at h2
   exact adV hu w aQ (i+1) r r2 h1 h2
  ·cases h1
theorem aau {t:TypeId}{k':Value}{l:List MapEntry}{r':Option (Nat × Value)}{d:TypeDesc}(hu:P.underlying t=some d)(ea:(Instr.findAsking t k' l 0).run P w = .ok r' w):(Instr.findKey t k' l).run P w = .ok r' w:=by
 unfold Instr.findKey
 rw[Sem.run_bind,aI hu,Result.andThen_ok]
 split
 ·rename_i r2 pH
  rw[adV hu w l 0 r2 r' pH ea]
  simp
 ·exact ea
def FP (P:Program)(e:Em)(w:World)(t:TypeId)(k':Value)(fs l:List MapEntry):Option (Nat × ME)->Prop
 | none=>(Instr.findKey t k' l).run P w = .ok none w
 | some (j,m)=>∃ f1 m' f2 a b,fs=f1++m'::f2/\j=f1.length/\l=a++m'::b/\(f1++f2).Perm (a++b)/\VR e m.key m'.key/\VR e m.val m'.val/\(Instr.findKey t k' l).run P w = .ok (some (a.length,m'.val)) w
theorem FC (h:RH G F W e H w){t:TypeId}{k:AV}{k':Value}(hk:VR e k k'){es:List ME}{fs l:List MapEntry}{r:Option (Nat × ME)}(hm:iK e es fs)(hp:fs.Perm l)(hf:nq P H t k es 0=some r){d:TypeDesc}(hu:P.underlying t=some d):FP P e w t k' fs l r:=by
 have hq:=Wk (P:=P) h hk es fs 0 r hm hf
 cases r with
 | none=>exact aau hu (ado l 0 fun x hx=>hq x (hp.mem_iff.2 hx))
 | some x=>
  obtain⟨j,m⟩:=x
  obtain⟨f1,m',f2,rfl,rfl,q1,q2,q3,q4⟩:=hq
  obtain⟨a,b,rfl⟩:=List.append_of_mem (hp.mem_iff.1 (by simp:m'∈f1++m'::f2))
  have EG:(f1++f2).Perm (a++b):=((List.perm_middle.symm.trans hp).trans List.perm_middle).cons_inv
  refine⟨f1,m',f2,a,b,rfl,by omega,rfl,EG,q1,q2,?_⟩
  have:=afQ (P:=P) (w:=w) (b:=b) q3 a 0 fun x hx=>q4 x (EG.mem_iff.2 (abD _ hx))
  rw[aeJ] at this
  exact aau hu this
end
end
section
variable {P:Program}{G:Nat}{F:Nat->Prop}{W:World}{e:Em}{H:Hp}{w:World}
theorem BE (h:RH G F W e H w){i:Nat}{es:List ME}{c:Nat}(hg:H.h.get i=some (.map es c)):i<e.N/\∃ (aQ:Array MapEntry) (c':Nat) (fs:List MapEntry),w.heap[e.b i]? = some (.map aQ c')/\fs.Perm aQ.toList/\iK e es fs/\(fs.map (·.born)).Nodup/\∀ x∈fs,x.born<c':=by
 obtain⟨hN,ob,ei,eB,_⟩:=h.obj i _ hg
 cases eB with
 | map _ _ aQ c' fs hp hm hn hb=>exact⟨hN,aQ,c',fs,ei,hp,hm,hn,hb⟩
theorem atF (h:RH G F W e H w){x:AV}{x':Value}{es:List ME}{c:Nat}(hx:VR e x x')(hm:mapOf H x=some (es,c)) :
  (x' = .map none/\es=[]/\c=0)\/∃ i aQ c' fs,x = .map i/\x' = .map (some (e.b i))/\H.h.get i=some (.map es c)/\w.heap[e.b i]? = some (.map aQ c')/\fs.Perm aQ.toList/\iK e es fs:=by
 unfold mapOf at hm
 split at hm
 ·cases hx;cases hm;exact .inl ⟨rfl,rfl,rfl⟩
 ·rename_i i
  split at hm
  ·rename_i es0 c0 hg
   cases hm
   obtain⟨hi,rfl⟩:=hx.JU
   obtain⟨_,aQ,c',fs,h1,h2,h3,_⟩:=BE h hg
   exact .inr ⟨i,aQ,c',fs,rfl,rfl,hg,h1,h2,h3⟩
  ·cases hm
 ·cases hm
theorem Dp {b:Nat}{aQ:Array MapEntry}{c:Nat}(hb:w.heap[b]? = some (.map aQ c)):(getObj b).run P w = .ok (.map aQ c) w:=by simp[getObj,Sem.run,hb]
theorem QW {kt:TypeId}{k:AV}(hc:pf P 20 kt k=true):∃ d,P.underlying kt=some d:=by
 cases hq:P.underlying kt with
 | none=>simp[pf,hq] at hc
 | some d=>exact⟨d,rfl⟩
theorem VR.pair {a b:AV}{a' b':Value}(ha:VR e a a')(hb:VR e b b'):VR e (.tuple [a,b]) (.tuple #[a',b']):=
 .tuple' (.cons ha (.cons hb (.nil e)))
theorem aoh (h:RH G F W e H w){t:TypeId}{x k v:AV}{x' k':Value}{ok:Bool}(hx:VR e x x')(hk:VR e k k')(hl:rH P t x k ok H=some v) :
  ∃ v',(Instr.lookup t x' k' ok).run P w = .ok v' w/\VR e v v':=by
 unfold rH at hl
 split at hl
 ·rename_i kt el hu
  cases hc:pf P 20 kt k with
  | false=>rw[hc] at hl;cases hl
  | true=>
  rw[hc] at hl
  simp only[cond_true] at hl
  have zJ:∀ emp,(Instr.checkKey emp 10000 kt k').run P w = .ok () w:=fun emp=>Vz w emp 20 10000 (by decide) kt k k' hk hc
  obtain⟨kd,c8⟩:=QW hc
  split at hl
  ·rename_i es c hm
   have fin:∀ (fs aQ:List MapEntry),fs.Perm aQ->iK e es fs->∃ r' v',(Instr.findKey kt k' aQ).run P w = .ok r' w/\
     (match r' with
      | some (_,v)=>Pure.pure (if ok=true then Value.tuple #[v,Value.bool true] else v)
      | none=>Functor.map (fun a=>if ok=true then Value.tuple #[a,Value.bool false] else a) (zeroValue el):Sem Value).run P w = .ok v' w/\VR e v v':=by
    intro fs aQ sL qf
    split at hl
    ·rename_i j m hf
     obtain⟨f1,m',f2,a,b,_,_,_,_,_,hv,ea⟩:=FC (P:=P) h hk qf sL hf c8
     cases hl
     cases ok with
     | true=>exact⟨_,_,ea,by simp,hv.pair (.bool true)⟩
     | false=>exact⟨_,_,ea,by simp,hv⟩
    ·rename_i hf
     have ea:(Instr.findKey kt k' aQ).run P w = .ok none w:=FC (P:=P) h hk qf sL hf c8
     simp only[aam,abA] at hl
     obtain⟨z,⟨z0,⟨inf,jd,fJ⟩,hz⟩,rfl⟩:=hl
     have zu:VR e z z0 := .jL hz
     cases ok with
     | true=>exact⟨_,_,ea,by simp[rQ jd fJ],zu.pair (.bool false)⟩
     | false=>exact⟨_,_,ea,by simp[rQ jd fJ],zu⟩
    ·cases hl
   rcases atF h hx hm with⟨rfl,rfl,_⟩ | ⟨i,aQ,c',fs,rfl,rfl,hg,hb,sL,qf⟩
   ·obtain⟨r',v',h1,h2,h3⟩:=fin [] [] (List.Perm.refl _) ⟨rfl,by simp⟩
    refine⟨v',?_,h3⟩
    simp[Instr.lookup,aI hu,zJ,h1]
    exact h2
   ·obtain⟨r',v',h1,h2,h3⟩:=fin fs aQ.toList sL qf
    refine⟨v',?_,h3⟩
    simp[Instr.lookup,aI hu,Dp hb,zJ,h1]
    exact h2
  ·cases hl
 ·cases hl
theorem Jh {b:Nat}{o:Obj}{aQ:Array MapEntry}{c:Nat}(hb:w.heap[b]? = some (.map aQ c)):(Go.setObj b o).run P w = .ok () { w with heap:=w.heap.setIfInBounds b o }:=by
 simp[Go.setObj,Sem.run,hb]
theorem RH.NL (h:RH G F W e H w){i:Nat}{es es2:List ME}{c c2:Nat}(hg:H.h.get i=some (.map es c)){aQ:Array MapEntry}{c':Nat}{fs:List MapEntry}(hp:fs.Perm aQ.toList)(hm:iK e es2 fs)(hn:(fs.map (·.born)).Nodup)(hb:∀ x∈fs,x.born<c') :
  RH G F W e (Am.setObj H i (.map es2 c2)) { w with heap:=w.heap.setIfInBounds (e.b i) (.map aQ c') }:=by
 obtain⟨_,es0,c0,_,pI,_⟩:=BE h hg
 have ba:=(adt.1 pI).1
 refine h.put hg rfl (qJ := .map aQ c') (by simp) (by simp[ba]) (fun k hk => ?_) (.map _ _ _ _ fs hp hm hn hb) rfl rfl rfl
 simp only
 rw[ag2 (fun q=>hk q.symm)]
theorem iK.snoc {es:List ME}{aQ:List MapEntry}(h:iK e es aQ){m:ME}{m':MapEntry}(h1:VR e m.key m'.key)(h2:VR e m.val m'.val):iK e (es++[m]) (aQ++[m']):=by
 refine⟨by simp[h.1],fun i x y hx hy => ?_⟩
 by_cases hi:i<es.length
 ·rw[abX hi] at hx
  rw[abX (by rw[h.1];exact hi)] at hy
  exact h.2 i x y hx hy
 ·rw[ack (by omega)] at hx
  rw[ack (by rw[h.1];omega),h.1] at hy
  have:i-es.length=0:=by
   have:=(aaw.1 hx).1
   simp at this;omega
  rw[this] at hx hy
  simp at hx hy
  subst hx;subst hy
  exact⟨h1,h2⟩
theorem iK.set {es:List ME}{aQ:List MapEntry}(h:iK e es aQ)(j:Nat){m:ME}{m':MapEntry}(h1:VR e m.key m'.key)(h2:VR e m.val m'.val):iK e (es.set j m) (aQ.set j m'):=by
 refine⟨by simp[h.1],fun i x y hx hy => ?_⟩
 rw[ah2] at hx hy
 split at hx
 ·rename_i hj
  rw[if_pos hj] at hy
  split at hx
  ·split at hy
   ·cases hx;cases hy;exact⟨h1,h2⟩
   ·cases hy
  ·cases hx
 ·rename_i hj
  rw[if_neg hj] at hy
  exact h.2 i x y hx hy
theorem iK.erase {es:List ME}{aQ:List MapEntry}(h:iK e es aQ)(j:Nat):iK e (es.eraseIdx j) (aQ.eraseIdx j):=by
 refine⟨by simp[List.length_eraseIdx,h.1],fun i x y hx hy => ?_⟩
 rw[List.getElem?_eraseIdx] at hx hy
 split at hx
 ·rename_i hj;rw[if_pos hj] at hy;exact h.2 i x y hx hy
 ·rename_i hj;rw[if_neg hj] at hy;exact h.2 _ x y hx hy
theorem afh (h:RH G F W e H w){t:TypeId}{x k v:AV}{x' k' v':Value}{H':Hp}(hx:VR e x x')(hk:VR e k k')(hv:VR e v v')(hl:pZ P t x k v H=some H') :
  ∃ w',(Instr.mapUpdate t x' k' v').run P w = .ok () w'/\RH G F W e H' w':=by
 unfold pZ at hl
 split at hl
 ·rename_i kt el i hu
  cases hc:pf P 20 kt k with
  | false=>rw[hc] at hl;cases hl
  | true=>
  rw[hc] at hl
  simp only[cond_true] at hl
  have zJ:∀ emp,(Instr.checkKey emp 10000 kt k').run P w = .ok () w:=fun emp=>Vz w emp 20 10000 (by decide) kt k k' hk hc
  obtain⟨kd,c8⟩:=QW hc
  obtain⟨hi,rfl⟩:=hx.JU
  split at hl
  ·rename_i es c hg
   obtain⟨_,aQ,c',fs,hb,sL,qf,iO,nN⟩:=BE h hg
   split at hl
   ·rename_i j m hf
    cases hs:Dz m.key k with
    | false=>rw[hs] at hl;cases hl
    | true=>
    rw[hs] at hl
    cases hl
    obtain⟨f1,m',f2,a,b,rfl,rfl,oG,EG,AB,hmv,ea⟩:=FC (P:=P) h hk qf sL hf c8
    have na:aQ.toList[a.length]? = some m':=by rw[oG,ack (aaU _),aiG];rfl
    have O8:Instr.sameBits 10000 m'.key k'=true:=AB.plain hk hs
    have zB:aQ[a.length]? = some m':=by rw[<-afj];exact na
    have al1:aQ.modify a.length (fun e=>{ e with key:=k',val:=v' })=(aQ.toList.set a.length { m' with key:=k',val:=v' }).toArray:=by
     apply Array.ext_getElem?
     intro q
     have e1:∀ l:List MapEntry,l.toArray[q]? = l[q]? := fun l=>by simp
     refine aaK ?_ (e1 _).symm
     rw[Array.getElem?_modify,ah2,afj]
     by_cases hq:a.length=q
     ·subst hq
      have ba:=(adt.1 zB).1
      rw[if_pos rfl,if_pos rfl,if_pos (by simpa using ba),zB];rfl
     ·rw[if_neg hq,if_neg hq]
    have e9:∀ (p q:List MapEntry) (x y:MapEntry),(p++x::q).set p.length y=p++y::q:=fun p q x y=>by
     rw[akr _ _ (aaU _),aiG];rfl
    have qR:((f1++m'::f2).set f1.length { m' with key:=k',val:=v' }).Perm (aQ.toList.set a.length { m' with key:=k',val:=v' }):=by
     rw[oG,e9,e9]
     exact (List.perm_middle.trans (EG.cons _)).trans List.perm_middle.symm
    have hbm:((f1++m'::f2).set f1.length { m' with key:=k',val:=v' }).map (·.born)=(f1++m'::f2).map (·.born):=by
     rw[e9];simp
    refine⟨{ w with heap:=w.heap.setIfInBounds (e.b i) (.map (aQ.toList.set a.length { m' with key:=k',val:=v' }).toArray c') },?_,
     h.NL hg (fs:=(f1++m'::f2).set f1.length { m' with key:=k',val:=v' }) (by simpa using qR) (qf.set (m:={ m with key:=k,val:=v }) (m':={ m' with key:=k',val:=v' }) f1.length hk hv) (by rw[hbm];exact iO) (fun x hx => ?_)⟩
    ·simp[Instr.mapUpdate,aI hu,Dp hb,zJ,ea,zB,Instr.keyThatStays,O8,Jh hb,al1]
    ·rw[e9] at hx
     rcases abN.1 hx with hx | hx
     ·exact nN x (abD _ hx)
     ·rcases aa7.1 hx with rfl | hx
      ·exact nN m' (by simp)
      ·exact nN x (by simp[hx])
   ·rename_i hf
    cases hl
    have ea:(Instr.findKey kt k' aQ.toList).run P w = .ok none w:=FC (P:=P) h hk qf sL hf c8
    refine⟨{ w with heap:=w.heap.setIfInBounds (e.b i) (.map (aQ.push ⟨k',v',c'⟩) (c'+1)) },?_,h.NL hg (fs:=fs++[⟨k',v',c'⟩]) (by rw[Array.toList_push];exact sL.append_right _) (qf.snoc (m:=⟨k,v,c⟩) (m':=⟨k',v',c'⟩) hk hv) ?_ ?_⟩
    ·simp[Instr.mapUpdate,aI hu,Dp hb,zJ,ea,Jh hb]
    ·rw[afg,af2]
     refine⟨iO,by simp,fun x hx y hy => ?_⟩
     obtain⟨z,hz,rfl⟩:=adD.1 hx
     have:=nN z hz
     simp at hy
     omega
    ·intro x hx
     rcases abN.1 hx with hx | hx
     ·have:=nN x hx;omega
     ·rw[No] at hx;subst hx;exact ah3 _
   ·cases hl
  ·cases hl
 ·cases hl
theorem arw (h:RH G F W e H w){cB:Array TypeId}{ty:TypeId}{x k:AV}{x' k':Value}{H':Hp}(hx:VR e x x')(hk:VR e k k')(hl:Gh P cB x k H=some H') :
  ∃ w',(Builtin.delete_ cB ty #[x',k']).run P w = .ok (.tuple #[]) w'/\RH G F W e H' w':=by
 unfold Gh at hl
 split at hl
 ·rename_i kt el hq
  obtain⟨t0,h0,hu⟩:=abA.1 hq
  cases hc:pf P 20 kt k with
  | false=>rw[hc] at hl;cases hl
  | true=>
  rw[hc] at hl
  simp only[cond_true] at hl
  have zJ:∀ emp,(Instr.checkKey emp 10000 kt k').run P w = .ok () w:=fun emp=>Vz w emp 20 10000 (by decide) kt k k' hk hc
  obtain⟨kd,c8⟩:=QW hc
  split at hl
  ·cases hl;cases hx
   exact⟨w,by simp[Builtin.delete_,h0,aI hu,zJ],h⟩
  ·rename_i i
   obtain⟨hi,rfl⟩:=hx.JU
   split at hl
   ·rename_i es c hg
    obtain⟨_,aQ,c',fs,hb,sL,qf,iO,nN⟩:=BE h hg
    split at hl
    ·rename_i j m hf
     cases hl
     obtain⟨f1,m',f2,a,b,rfl,rfl,oG,EG,AB,hmv,ea⟩:=FC (P:=P) h hk qf sL hf c8
     have eG:a.length<aQ.size:=by have:=congrArg List.length oG;rw[ajS,abj,aa1] at this;omega
     have her:(aQ.eraseIdxIfInBounds a.length).toList=aQ.toList.eraseIdx a.length:=by simp[Array.eraseIdxIfInBounds,eG]
     have FR:∀ (p q:List MapEntry) (x:MapEntry),(p++x::q).eraseIdx p.length=p++q:=fun p q x=>by
      rw[List.eraseIdx_append_of_length_le (aaU _),aiG];rfl
     refine⟨{ w with heap:=w.heap.setIfInBounds (e.b i) (.map (aQ.eraseIdxIfInBounds a.length) c') },?_,h.NL hg (fs:=(f1++m'::f2).eraseIdx f1.length) (by rw[her,oG,FR,FR];exact EG) (qf.erase f1.length) ?_ (fun x hx=>nN x ?_)⟩
     ·simp[Builtin.delete_,h0,aI hu,Dp hb,zJ,ea,Jh hb]
     ·rw[FR]
      rw[afg,ac4] at iO
      rw[afg]
      exact (aju.1 ((List.perm_middle.nodup_iff).1 iO)).2
     ·rw[FR] at hx
      rcases abN.1 hx with hx | hx
      ·exact abD _ hx
      ·exact abo _ (.tail _ hx)
    ·rename_i hf
     cases hl
     have ea:(Instr.findKey kt k' aQ.toList).run P w = .ok none w:=FC (P:=P) h hk qf sL hf c8
     have aty:w.heap.setIfInBounds (e.b i) (.map aQ c')=w.heap:=by
      apply Array.ext_getElem?
      intro q
      by_cases hq:e.b i=q
      ·subst hq
       have ba:=(adt.1 hb).1
       rw[aiz ba,hb]
      ·rw[ag2 hq]
     refine⟨w,?_,h⟩
     simp[Builtin.delete_,h0,aI hu,Dp hb,zJ,ea,Jh hb,aty]
    ·cases hl
   ·cases hl
  ·cases hl
 ·cases hl
theorem auG (h:RH G F W e H w){cB:Array TypeId}{ty:TypeId}{x:AV}{x':Value}{H':Hp}(hx:VR e x x')(hl:Sa P cB x H=some H') :
  ∃ w',(Builtin.clear_ cB ty #[x']).run P w = .ok (.tuple #[]) w'/\RH G F W e H' w':=by
 unfold Sa at hl
 split at hl
 ·rename_i d hq
  obtain⟨t0,h0,hu⟩:=abA.1 hq
  cases hl;cases hx
  exact⟨w,by simp[Builtin.clear_,h0,aI hu],h⟩
 ·rename_i d hq
  obtain⟨t0,h0,hu⟩:=abA.1 hq
  cases hl;cases hx
  exact⟨w,by simp[Builtin.clear_,h0,aI hu],h⟩
 ·rename_i d i hq
  obtain⟨t0,h0,hu⟩:=abA.1 hq
  obtain⟨hi,rfl⟩:=hx.JU
  split at hl
  ·rename_i es c hg
   cases hl
   obtain⟨_,aQ,c',fs,hb,sL,qf,iO,nN⟩:=BE h hg
   refine⟨{ w with heap:=w.heap.setIfInBounds (e.b i) (.map #[] c') },?_,h.NL hg (fs:=[]) (List.Perm.refl _) ⟨rfl,by simp⟩ (by simp) (by simp)⟩
   simp[Builtin.clear_,h0,aI hu,Dp hb,Jh hb]
  ·cases hl
 ·rename_i el i off n a1 a2 a3 hq
  obtain⟨t0,h0,hu⟩:=abA.1 hq
  split at hl
  ·rename_i z hz
   obtain⟨inf,z0,jd,fJ,zu⟩:=zd (e:=e) hz
   rcases hx.mC with⟨o,c,hi,ho,lW,hc,je,hn,rfl⟩ | ⟨rfl,_,a,rfl⟩
   ·cases n with
    | zero=>
     have:rep 0 z=[]:=rfl
     rw[this] at hl
     cases hl
     exact⟨w,by simp[Builtin.clear_,h0,aI hu],h⟩
    | succ n=>
     have fA:=zu.rep (n+1)
     obtain⟨w',Ad,hr⟩:=RH.Ou (P:=P) (off:=off) (k:=0) h hl fA ho
     have hzz:(Builtin.zeroCells z0.cells (n+1)).toList=(List.replicate (n+1) z0.cells.toList).flatten:=aah rfl _
     refine⟨w',?_,hr⟩
     simp only[Builtin.clear_,h0,afW,aek,Sem.run_bind,aI hu,Result.andThen_ok,rQ jd fJ]
     rw[hzz,Ad]
     simp
   ·have:rep 0 z=[]:=rfl
    rw[this] at hl
    cases hl
    exact⟨w,by simp[Builtin.clear_,h0,aI hu],h⟩
  ·cases hl
 ·cases hl
theorem ahs (h:RH G F W e H w){cB:Array TypeId}{ty:TypeId}{x v:AV}{x':Value}(hx:VR e x x')(hl:AR P cB x H=some v) :
  ∃ v',(Builtin.len_ cB ty #[x']).run P w = .ok v' w/\VR e v v':=by
 unfold AR at hl
 split at hl
 ·rename_i s hq
  obtain⟨t0,h0,hu⟩:=abA.1 hq
  obtain⟨b,rfl,rfl⟩:=hx.mO
  cases hl
  rw[xp]
  exact⟨_,by simp[Builtin.len_,h0,aI hu];rfl,.int _ _⟩
 ·rename_i n el hq
  obtain⟨t0,h0,hu⟩:=abA.1 hq
  cases hl
  exact⟨_,by simp[Builtin.len_,h0,aI hu];rfl,.int _ _⟩
 ·rename_i el hq
  obtain⟨t0,h0,hu⟩:=abA.1 hq
  cases hl;cases hx
  exact⟨_,by simp[Builtin.len_,h0,aI hu];rfl,.int _ _⟩
 ·rename_i el a1 a2 n a3 a4 a5 hq
  obtain⟨t0,h0,hu⟩:=abA.1 hq
  cases hl
  rcases hx.mC with⟨o,c,hi,ho,lW,hc,je,hn,rfl⟩ | ⟨rfl,_,a,rfl⟩
  ·exact⟨_,by simp[Builtin.len_,h0,aI hu];rfl,.int _ _⟩
  ·exact⟨_,by simp[Builtin.len_,h0,aI hu];rfl,.int _ _⟩
 ·rename_i kt el hq
  obtain⟨t0,h0,hu⟩:=abA.1 hq
  cases hl;cases hx
  exact⟨_,by simp[Builtin.len_,h0,aI hu];rfl,.int _ _⟩
 ·rename_i kt el i hq
  obtain⟨t0,h0,hu⟩:=abA.1 hq
  obtain⟨hi,rfl⟩:=hx.JU
  split at hl
  ·rename_i es c hg
   cases hl
   obtain⟨_,aQ,c',fs,hb,sL,qf,_⟩:=BE h hg
   have:es.length=aQ.size:=by have h1:=qf.1;have h2:=sL.length_eq;have h3:aQ.toList.length=aQ.size:=ajS;omega
   rw[this]
   exact⟨_,by simp[Builtin.len_,h0,aI hu,Dp hb];rfl,.int _ _⟩
  ·cases hl
 ·rename_i a hq
  obtain⟨t0,h0,hu⟩:=abA.1 hq
  split at hl
  ·rename_i n el hua
   cases hl
   exact⟨_,by simp[Builtin.len_,h0,aI hu,aI hua];rfl,.int _ _⟩
  ·cases hl
 ·cases hl
theorem agj {cB:Array TypeId}{ty:TypeId}{x v:AV}{x':Value}(hx:VR e x x')(hl:NR P cB x=some v)(w:World) :
  ∃ v',(Builtin.cap_ cB ty #[x']).run P w = .ok v' w/\VR e v v':=by
 unfold NR at hl
 split at hl
 ·rename_i el hq
  obtain⟨t0,h0,hu⟩:=abA.1 hq
  cases hl;cases hx
  exact⟨_,by simp[Builtin.cap_,h0,aI hu];rfl,.int _ _⟩
 ·rename_i el a1 a2 n c a5 hq
  obtain⟨t0,h0,hu⟩:=abA.1 hq
  cases hl
  rcases hx.mC with⟨o,c',hi,ho,lW,hc,je,hn,rfl⟩ | ⟨rfl,rfl,a,rfl⟩
  ·have:=je rfl
   subst this
   exact⟨_,by simp[Builtin.cap_,h0,aI hu];rfl,.int _ _⟩
  ·exact⟨_,by simp[Builtin.cap_,h0,aI hu];rfl,.int _ _⟩
 ·cases hl
theorem adB:∀ {l:List AV} {ls:List Value} {x v:AV} {x':Value},VR e x x'->bh e l ls->BR false x l=some v->∃ v',(ls.foldlM Builtin.min2 x').run P w = .ok v' w/\VR e v v'
 | [],ls,x,v,x',hx,hl,h=>by
  rw[hl.kX];cases h;exact⟨x',by simp,hx⟩
 | y::l,ls,x,v,x',hx,hl,h=>by
  obtain⟨y',ws,rfl,hy,rW⟩:=hl.cons_inv
  unfold BR at h
  split at h
  ·rename_i z hz
   unfold Sl at hz
   split at hz
   ·cases hx.fZ;cases hy.fZ;cases hz
    obtain⟨v',h1,h2⟩:=adB (.int _ _) rW h
    refine⟨v',?_,h2⟩
    simp only[List.foldlM_cons,Sem.run_bind,Builtin.min2,Sem.run_pure,Result.andThen_ok]
    exact h1
   ·cases hz
  ·cases h
theorem afu:∀ {l:List AV} {ls:List Value} {x v:AV} {x':Value},VR e x x'->bh e l ls->BR true x l=some v->∃ v',(ls.foldlM Builtin.max2 x').run P w = .ok v' w/\VR e v v'
 | [],ls,x,v,x',hx,hl,h=>by
  rw[hl.kX];cases h;exact⟨x',by simp,hx⟩
 | y::l,ls,x,v,x',hx,hl,h=>by
  obtain⟨y',ws,rfl,hy,rW⟩:=hl.cons_inv
  unfold BR at h
  split at h
  ·rename_i z hz
   unfold Sl at hz
   split at hz
   ·cases hx.fZ;cases hy.fZ;cases hz
    obtain⟨v',h1,h2⟩:=afu (.int _ _) rW h
    refine⟨v',?_,h2⟩
    simp only[List.foldlM_cons,Sem.run_bind,Builtin.max2,Sem.run_pure,Result.andThen_ok]
    exact h1
   ·cases hz
  ·cases h
end
end
section
variable {P:Program}{G:Nat}{F:Nat->Prop}{W:World}{e:Em}{H:Hp}{w:World}
theorem awq (h:RH G F W e H w){cB:Array TypeId}{ty:TypeId}{d x v:AV}{d' x':Value}{H':Hp}(hd:VR e d d')(hx:VR e x x')(hl:Ic P cB d x H=some (v,H')) :
  ∃ v' w',(Builtin.copy_ cB ty #[d',x']).run P w = .ok v' w'/\RH G F W e H' w'/\VR e v v':=by
 unfold Ic at hl
 split at hl
 ·rename_i el hq
  obtain⟨t0,h0,hu⟩:=abA.1 hq
  split at hl
  ·rename_i es xl hs eL
   have hlen:(Builtin.lenOf x').run P w = .ok xl w/\∀ m,(Nat.min xl m=0->(Builtin.firstCells es (Nat.min xl m) x').run P w = .ok #[] w):=by
    unfold NC at eL
    split at eL
    ·cases eL;cases hx;exact⟨by simp[Builtin.lenOf],fun m hm=>by simp[Builtin.firstCells]⟩
    ·cases eL
     rcases hx.mC with⟨o,c,hi,ho,lW,hc,je,hn,rfl⟩ | ⟨rfl,_,a,rfl⟩
     ·exact⟨by simp[Builtin.lenOf],fun m hm=>by simp only[Builtin.firstCells,hm,aiA];rfl⟩
     ·exact⟨by simp[Builtin.lenOf],fun m hm=>by simp only[Builtin.firstCells,hm,aiA];rfl⟩
    ·cases eL
     obtain⟨b,rfl,rfl⟩:=hx.mO
     refine⟨by simp[Builtin.lenOf,xp],fun m hm => ?_⟩
     simp only[Builtin.firstCells,hm,Sem.run_pure]
     congr 1
     apply aeU.1
     simp
    ·cases eL
   obtain⟨hlen,Mc⟩:=hlen
   split at hl
   ·cases hl;cases hd
    refine⟨_,w,?_,h,.int _ _⟩
    have h1:=Mc 0 (Nat.min_zero _)
    simp only[Builtin.copy_,h0,afW,aek,adL,Sem.run_bind,aI hu,Result.andThen_ok,hlen,hZ hs,h1]
    simp[goInt]
   ·rename_i i off dl a1 a2 a3
    cases hz:Nat.beq (Nat.min xl dl) 0 with
    | true=>
     rw[hz] at hl
     cases hl
     have hm:Nat.min xl dl=0:=abI hz
     have h1:=Mc dl hm
     rcases hd.mC with⟨o,c,hi,ho,lW,hc,je,hn,rfl⟩ | ⟨rfl,_,a,rfl⟩
     ·refine⟨_,w,?_,h,.int _ _⟩
      simp only[Builtin.copy_,h0,afW,aek,adL,Sem.run_bind,aI hu,Result.andThen_ok,hlen,hZ hs,h1]
      simp[goInt,storeCells,hm]
     ·refine⟨_,w,?_,h,.int _ _⟩
      simp only[Builtin.copy_,h0,afW,aek,adL,Sem.run_bind,aI hu,Result.andThen_ok,hlen,hZ hs,h1]
      simp[goInt,storeCells,hm]
    | false=>
     rw[hz] at hl
     simp only[cond_false] at hl
     split at hl
     ·rename_i cs fK
      simp only[aam,acv] at hl
      obtain⟨H2,aA,rfl,rfl⟩:=hl
      have OY:∃ vs:List Value,bh e cs vs/\(Builtin.firstCells es (Nat.min xl dl) x').run P w = .ok vs.toArray w:=by
       unfold Uh at fK
       split at fK
       ·rename_i j axh jl b1 b2 b3
        rcases hx.mC with⟨o,c,hi,ho,lW,hc,je,hn,rfl⟩ | ⟨rfl,_,a,rfl⟩
        ·obtain⟨vs,q1,q2,q3⟩:=h.By fK ho
         refine⟨vs,q1,?_⟩
         have:=run_loadCells_list (P:=P) w ⟨e.b j,o,none⟩ vs (fun k u hk=>by rw[add_lit];exact q3 k u hk)
         rw[q2] at this
         simp[Builtin.firstCells,this]
        ·cases eL
         have:Nat.min 0 dl=0:=Nat.zero_min _
         rw[this] at hz;cases hz
       ·obtain⟨b,rfl,rfl⟩:=hx.mO
        cases fK
        cases eL
        refine⟨((b.extract 0 (Nat.min (bytes b).length dl)).data.toList).map fun u=>Value.int .u8 u.toNat,?_,?_⟩
        ·have pI:=bh.ae0 b 0 (Nat.min (bytes b).length dl)
         rw[abK,aih] at pI
         rw[pI]
         refine⟨by simp[bytes],fun k u v' hu cw => ?_⟩
         simp only[bytes,List.map_map,aeI,aam] at hu cw
         obtain⟨p,hp,rfl⟩:=hu
         obtain⟨p',hp',rfl⟩:=cw
         rw[hp] at hp';cases hp'
         exact .int _ _
        ·simp only[Builtin.firstCells,Sem.run_pure]
         congr 1
         apply aeU.1
         simp
       ·cases fK
      obtain⟨vs,hvl,hfc⟩:=OY
      rcases hd.mC with⟨o,c,hi,ho,lW,hc,je,hn,rfl⟩ | ⟨rfl,_,a,rfl⟩
      ·obtain⟨w',Ad,hr⟩:=RH.Ou (P:=P) (off:=off) (k:=0) h aA hvl ho
       refine⟨_,w',?_,hr,.int _ _⟩
       simp only[Builtin.copy_,h0,afW,aek,adL,Sem.run_bind,aI hu,Result.andThen_ok,hlen,hZ hs,hfc,Ad]
       simp[goInt]
      ·have:Nat.min xl 0=0:=Nat.min_zero _
       rw[this] at hz;cases hz
     ·cases hl
   ·cases hl
  ·cases hl
 ·cases hl
theorem aiL {el:TypeId}(hc:P.cellsOf el=1)(count o n:Nat)(hn:o+n<=count):liesAt P P.depth el count o el n=true:=by
 have hd:P.depth=(2*(P.types.size+Made.depth)+1)+1:=rfl
 rw[hd]
 simp only[liesAt,aiy]
 left
 rw[hd]
 simp[rowAt,hc,hn,sameLayout,Nat.mod_one]
theorem asJ {b:Nat}(w:World):∀ (us:List UInt8) (o:Nat) (acc:ByteArray),(∀ j v,(us.map (fun u=>Value.int .u8 u.toNat))[j]? = some v->w.cell? ⟨b,o+j,none⟩=some v)->
  (loadBytes ⟨b,o,none⟩ acc us.length).run P w = .ok ⟨acc.data++us.toArray⟩ w
 | us,o,acc,h=>by
  have:=Go.Lib.run_loadBytes (P:=P) w us ⟨b,o,none⟩ acc (fun j x hj=>by rw[add_lit];exact h j _ (by simp[hj]))
  exact this
theorem ar2 {b o n:Nat}{C:Array Value}{el:TypeId}{fz:Nat × Nat}(ei:w.heap[b]? = some (.cells C el fz))(hn:¬ n=0) :
  ∃ fz2,(w.freeze ⟨b,o,none⟩ n).heap[b]? = some (.cells C el fz2)/\(∀ k,k≠b->(w.freeze ⟨b,o,none⟩ n).heap[k]? = w.heap[k]?)/\(w.freeze ⟨b,o,none⟩ n).heap.size=w.heap.size:=by
 simp only[World.freeze,if_neg hn]
 refine⟨_,F8 _ _ _ ei,fun k hk=>Fo _ _ _ _ (fun q=>hk q.symm),by simp⟩
theorem akk (h:RH G F W e H w){cB:Array TypeId}{ty:TypeId}{p v:AV}{n:Int}{k:IntKind}{p':Value}{H':Hp}(hp:VR e p p')(hl:Od P cB p k n H=some (v,H')) :
  ∃ v' w',(Builtin.unsafeString_ cB ty #[p',.int k n]).run P w = .ok v' w'/\RH G F W e H' w'/\VR e v v':=by
 have Gb:IntKind.i64.max=9223372036854775807:=rfl
 unfold Od at hl
 split at hl
 rotate_left
 ·cases hl
 rename_i t0 t1 mw
 obtain rfl:cB = #[t0,t1]:=aeU.1 mw
 have Er:∀ q:Option Addr,n=0->(Builtin.unsafeString_ #[t0,t1] ty #[.pointer q,.int .i64 n]).run P w = .ok (.string .empty) w:=by
  intro q hn
  subst hn
  exact Go.Lib.run_unsafeString_none (P:=P) w t0 t1 ty q
 split at hl
 ·rename_i el hu
  cases hp
  split at hl
  ·rename_i hn;cases hl
   exact⟨.string .empty,w,Er _ hn,h,.str .empty⟩
  ·cases hl
 ·rename_i el i off hu
  obtain⟨o,hi,ho,rfl⟩:=hp.um
  split at hl
  ·rename_i hn;cases hl
   exact⟨.string .empty,w,Er _ hn,h,.str .empty⟩
  ·rename_i mG
   split at hl
   ·rename_i c lo jc vN fl hg
    split at hl
    ·rename_i hc
     obtain⟨rfl,AU,kA,gC,ng⟩:=hc
     simp only[aam,abA,acv] at hl
     obtain⟨bs,⟨cs,fK,uh⟩,rfl,rfl⟩:=hl
     obtain⟨vs,q1,q2,q3⟩:=h.By fK ho
     obtain⟨us,rfl,rfl⟩:=TM uh q1
     rw[adY] at q2
     obtain⟨_,ob,ei,eB,hF⟩:=h.obj i _ hg
     cases eB with
     | cells _ _ _ _ _ C fz hn jB Sv h1 hd=>
     have Gu:o+n.toNat<=C.size:=by
      obtain⟨m,hm⟩:∃ m,us.length=m+1:=⟨us.length-1,by omega⟩
      have hq:=q3 m (Value.int .u8 (us[m]'(by omega)).toNat) (by simp[hm])
      simp only[World.cell?,ei] at hq
      have vt:=(adt.1 hq).1
      omega
     have qW:w.shape? (e.b i)=some (el,C.size):=by simp[World.shape?,ei]
     have hva:liesAt P P.depth el (C.size / P.cellsOf el) o el n.toNat=true:=by
      rw[AU,Nat.div_one];exact aiL AU _ _ _ Gu
     have VS:=asJ (P:=P) (b:=e.b i) w us o .empty q3
     rw[q2] at VS
     have MS:¬ (n>IntKind.i64.max):=by rw[Gb];omega
     have abr:¬ n<0:=by omega
     have z8:Builtin.unsafeString_ #[t0,t1] ty #[.pointer (some ⟨e.b i,o,none⟩),.int .i64 n]=
      (do
       let n <-asInt (.int .i64 n)
       if n<0 then runtimePanic (.error "unsafe.String: len out of range")
       if n>IntKind.i64.max then unsupported (.unsafePointer "String: a length above the largest int")
       if n=0 then Pure.pure (.string .empty)
       else if <-variablesAt ⟨e.b i,o,none⟩ (<-elemOf t0) n.toNat then do
        let s <-loadBytes ⟨e.b i,o,none⟩ .empty n.toNat
        Go.freeze ⟨e.b i,o,none⟩ n.toNat
        Pure.pure (.string s)
       else unsupported (.unsafePointer "String: not so many bytes at ptr")) := rfl
     have CH:¬ (9223372036854775807<n):=by omega
     have kB:¬ n.toNat=0:=by omega
     obtain⟨fz2,g1,g2,g3⟩:=ar2 (w:=w) (o:=o) ei kB
     refine⟨.string ⟨us.toArray⟩,w.freeze ⟨e.b i,o,none⟩ n.toNat,?_,?_,.str ⟨us.toArray⟩⟩
     ·rw[z8]
      simp[asInt,asIntOf,Gb,abr,CH,mG,elemOf,aI hu,variablesAt,qW,hva,VS]
     ·refine h.put hg (by simp[wr,ng]) g3 g1 g2 (.cells _ _ _ _ _ _ _ hn jB (by simp) (by simp) hd) ?_ ?_ ?_
      ·simp[World.freeze,kB]
      ·simp[World.freeze,kB]
      ·simp[World.freeze,kB]
    ·cases hl
   ·cases hl
 ·cases hl
end
end Go.Proofs.YtodfajmihkagnaaGreatDoor.Am
