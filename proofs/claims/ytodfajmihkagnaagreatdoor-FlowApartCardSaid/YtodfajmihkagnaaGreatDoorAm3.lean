/- The evaluator's operations are sound, second part (of no program). -/
import Derived.Test.YtodfajmihkagnaaGreatDoorAm2
set_option linter.unusedVariables false
set_option linter.unusedSimpArgs false
namespace Go.Proofs.YtodfajmihkagnaaGreatDoor.Am
section
variable {P:Program} {G:Nat} {F:Nat->Prop} {W:World} {e:Em} {H:Hp} {w:World}
theorem WA (n:Nat):∀ (r c:Nat),c<=2*n+192->Builtin.growBy n r c<=2*n+192
 | 0,c,h=>h
 | r+1,c,h=>by
  unfold Builtin.growBy
  split
  ·exact h
  ·exact WA n r _ (by omega)
theorem nextslicecap_le {Jw cap:Nat} (h:cap<Jw):Builtin.nextslicecap Jw cap<=2*Jw+192:=by
 unfold Builtin.nextslicecap
 split
 ·omega
 ·split
  ·omega
  ·exact WA Jw 4 cap (by omega)
theorem aku (b o el:Nat) (fz:Nat × Nat):∀ (vs:List Value) (k:Nat) (w:World) (C:Array Value),w.heap[b]? = some (.cells C el fz)->o+k+vs.length<=C.size->
  (∀ m,m<C.size->(decide (fz.1<=m)&&decide (m<fz.2))=false)->(∀ v∈vs,v.oneCell'=true)->
  ∃ w' C',(storeCells ⟨b,o,none⟩ vs k).run P w = .ok () w'/\w'.heap[b]? = some (.cells C' el fz)/\C'.size=C.size/\
   (∀ m,C'[m]? = if o+k<=m/\m<o+k+vs.length then vs[m-(o+k)]? else C[m]?)/\(∀ j,j≠b->w'.heap[j]? = w.heap[j]?)/\w'.heap.size=w.heap.size/\w'.os=w.os/\w'.tape=w.tape/\w'.output=w.output:=by
 intro vs
 induction vs with
 | nil=>
  intro k w C hb hs hf h1
  exact⟨w,C,by simp[storeCells],hb,rfl,fun m=>by rw[if_neg (by rw[acm];omega)],fun _ _=>rfl,rfl,rfl,rfl,rfl⟩
 | cons v vs ih=>
  intro k w C hb hs hf h1
  simp only[abx] at hs
  have aQ:o+k<C.size:=by omega
  have hc:w.cell? ⟨b,o+k,none⟩=some C[o+k]:=by simp[World.cell?,hb,aQ]
  have JZ:w.frozen? ⟨b,o+k,none⟩=false:=by simp only[World.frozen?,hb];exact hf _ aQ
  have Ns:(w.setCell ⟨b,o+k,none⟩ v).heap[b]? = some (.cells (C.setIfInBounds (o+k) v) el fz):=by
   simp only[World.setCell];rw[CQ _ _ _ hb];rfl
  obtain⟨w',C',r1,r2,r3,r4,r5,r6,r7,r8,r9⟩:=ih (k+1) _ _ Ns (by simp;omega) (by simpa using hf) (fun u hu=>h1 u (List.mem_cons_of_mem _ hu))
  refine⟨w',C',?_,r2,by simpa using r3,fun m => ?_,fun j hj => ?_,?_,r7,r8,r9⟩
  ·simp only[storeCells,Sem.run_bind,add_lit,run_store P w _ _ _ (h1 v (List.mem_cons_self ..)),hc,JZ,abD,if_false,Result.andThen_ok]
   exact r1
  ·rw[r4 m]
   simp only[abx]
   by_cases hm:m=o+k
   ·subst hm
    rw[if_neg (by omega),if_pos (by omega),afd (by omega)]
    simp
   ·by_cases hr:o+(k+1)<=m/\m<o+(k+1)+vs.length
    ·rw[if_pos hr,if_pos (by omega)]
     have:m-(o+k)=(m-(o+(k+1)))+1:=by omega
     rw[this,acM]
    ·rw[if_neg hr,if_neg (by omega),adP (by omega)]
  ·rw[r5 j hj]
   simp only[World.setCell]
   rw[CR _ _ _ _ (fun q=>hj q.symm)]
  ·rw[r6];simp[World.setCell]
theorem RH.del (h:RH G F W e H w) (i:Nat):RH G F W e { H with h:=H.h.del i } w:=by
 have eG:∀ j o,(H.h.del i).get j=some o->H.h.get j=some o/\j≠i:=by
  intro j o hj
  rw[Tr.GZ] at hj
  split at hj
  ·cases hj
  ·exact⟨hj,by assumption⟩
 exact⟨h.N,fun j o hj=>h.obj j o (eG j o hj).1,fun j k oj ok hj hk hq=>h.inj j k oj ok (eG j oj hj).1 (eG k ok hk).1 hq,h.pf,h.frame,h.os,h.tape,h.output,h.size,h.kE⟩
theorem RH.move (h:RH G F W e H w) {i:Nat} {o o':AO} (hg:H.h.get i=some o) (hw:wr o=true) {j:Nat} {H':Hp} (ha:Am.alloc { H with h:=H.h.del i } o'=some (j,H'))
  {oZ:Obj} {w':World} (eH:w'.heap.size=w.heap.size) (hb:w'.heap[e.b i]? = some oZ) (aH:∀ k,k≠e.b i->w'.heap[k]? = w.heap[k]?)
  (eg:OR (e.ext (e.b i) (e.d i) (e.n i)) j o' oZ) (os:w'.os=w.os) (tape:w'.tape=w.tape) (output:w'.output=w.output) :
  j=e.N/\RH G F W (e.ext (e.b i) (e.d i) (e.n i)) H' w':=by
 obtain⟨rfl,ai4,rfl⟩:=wA ha
 obtain⟨hN,ob,ep,_,hF⟩:=h.obj i o hg
 have zw:=h.N
 have hle:=Em.o9 e (e.b i) (e.d i) (e.n i)
 have eG:∀ k x,((H.h.del i).put 34 H.next o').get k=some x->(k=H.next/\x=o')\/(k≠H.next/\k≠i/\H.h.get k=some x):=by
  intro k x hk
  rw[Tr.put,Tr.fj] at hk
  split at hk
  ·cases hk;exact .inl ⟨by assumption,rfl⟩
  ·rw[Tr.GZ] at hk
   split at hk
   ·cases hk
   ·exact .inr ⟨by assumption,by assumption,hk⟩
 have fu:∀ k x,H.h.get k=some x->(e.ext (e.b i) (e.d i) (e.n i)).b k=e.b k:=fun k x hk=>(hle.2 k (h.obj k x hk).1).1
 refine⟨zw.symm,?_,?_,?_,?_,?_,os.trans h.os,tape.trans h.tape,output.trans h.output,by rw[eH];exact h.size,by obtain⟨g1,g2,g3⟩:=h.kE;rw[eH,(hle.2 G g2).2.2];simp[Em.ext];omega⟩
 ·simp[Em.ext,zw]
 ·intro k x hk
  rcases eG k x hk with⟨rfl,rfl⟩ | ⟨k1,k2,k3⟩
  ·refine⟨by simp[Em.ext,zw],oZ,?_,eg,?_⟩
   ·rw[<-zw,Em.mQ];exact hb
   ·intro _;rw[<-zw,Em.mQ];exact hF (.inl hw)
  ·obtain⟨a,o8,b2,c2,d2⟩:=h.obj k x k3
   refine⟨by simp[Em.ext];omega,o8,?_,c2.mono hle a,?_⟩
   ·rw[fu k x k3,aH _ (fun q=>k2 (h.inj i k o x hg k3 (.inl hw) q.symm).symm)];exact b2
   ·intro GF;rw[fu k x k3,(hle.2 G h.kE.2.1).2.2] at GF;rw[fu k x k3];exact d2 GF
 ·intro k m x y hk hm hq he
  rcases eG k x hk with⟨rfl,rfl⟩ | ⟨k1,k2,k3⟩<;>rcases eG m y hm with⟨rfl,rfl⟩ | ⟨m1,m2,m3⟩
  ·rfl
  ·rw[<-zw,Em.mQ,fu m y m3] at he
   exact absurd (h.inj i m o y hg m3 (.inl hw) he).symm m2
  ·rw[<-zw,Em.mQ,fu k x k3] at he
   exact absurd (h.inj i k o x hg k3 (.inl hw) he.symm).symm k2
  ·rw[fu k x k3,(hle.2 G h.kE.2.1).2.2] at hq
   rw[fu k x k3,fu m y m3] at he
   exact h.inj k m x y k3 m3 hq he
 ·intro g lK
  obtain⟨a,b,c⟩:=h.pf g lK
  obtain⟨x,y,_⟩:=hle.2 g a
  exact⟨by simp[Em.ext];omega,x.trans b,y.trans c⟩
 ·intro k hk
  obtain⟨a,b⟩:=h.frame k hk
  refine⟨by rw[eH];exact a,?_⟩
  rw[aH k (fun q=>hF (.inl hw) (q▸hk))]
  exact b
theorem Sx {z:Array Value} {es:Nat} (hz:z.size=es) (n:Nat):(Builtin.zeroCells z n).toList=(List.replicate n z.toList).flatten:=by
 unfold Builtin.zeroCells
 exact aaB z n
theorem ai0 (h:RH G F W e H w) {eY:Bool} {el es n:Nat} {x:AV} {x':Value} {new:List AV} (hx:VR e x x') (hs:sz P el=some es) (hn:Fe P eY el es x H=some (n,new)) :
  ∃ nv:List Value,aP e new nv/\nv.length=n*es/\
   (eY=true->∃ k:Int,x' = .int .i64 k/\0<=k/\k<16777216/\k.toNat=n/\∃ i z0,P.info? el=some i/\i.zero=some z0/\z0.cells.size=es/\nv=(List.replicate n z0.cells.toList).flatten)/\
   (eY=false->∀ w1:World,w1.heap=w.heap->(Builtin.lenOf x').run P w1 = .ok n w1/\(Builtin.firstCells es n x').run P w1 = .ok nv.toArray w1):=by
 unfold Fe at hn
 split at hn
 ·rename_i k
  cases hx.fN
  split at hn
  ·rename_i hk
   split at hn
   ·rename_i z hz
    split at hn
    ·rename_i y7
     cases hn
     obtain⟨i,z0,hi,fD,hl⟩:=xu (e:=e) hz
     have eH:z0.cells.size=es:=by have:=hl.1;simp at this;omega
     refine⟨_,hl.rep _,?_,fun _=>⟨k,rfl,hk.1,hk.2,rfl,i,z0,hi,fD,eH,rfl⟩,by simp⟩
     simp[eH]
    ·cases hn
   ·cases hn
  ·cases hn
 ·cases hn;cases hx
  exact⟨[],.nil e,by simp,by simp,fun _ w1 xI=>⟨by simp[Builtin.lenOf],by simp[Builtin.firstCells]⟩⟩
 ·rename_i i off len a1 a2 a3
  simp only[aaF,ab7] at hn
  obtain⟨l,hl,rfl,rfl⟩:=hn
  rcases hx.lz with⟨o,k,oM,ho,kK,wQ,iO,gT,rfl⟩ | ⟨rfl,_,a,rfl⟩
  ·obtain⟨cs,h1,h2,h3⟩:=h.yU hl ho
   refine⟨cs,h1,h2,by simp,fun _ w1 xI=>⟨by simp[Builtin.lenOf],?_⟩⟩
   have:=run_loadCells_list (P:=P) w1 ⟨e.b i,o,none⟩ cs (fun j v hj=>by rw[add_lit];have q:=h3 j v hj;unfold World.cell? at q ⊢;rw[xI];exact q)
   rw[h2] at this
   simp[Builtin.firstCells,this]
  ·rw[af4] at hl
   cases hl
   refine⟨[],.nil e,by simp,by simp,fun _ w1 xI=>⟨by simp[Builtin.lenOf],?_⟩⟩
   simp[Builtin.firstCells,loadCells,loadCellsFrom]
 ·rename_i s
  obtain⟨b,rfl,rfl⟩:=hx.lR
  split at hn
  ·rename_i qR
   subst qR
   simp only[acu,ab7] at hn
   obtain⟨rfl,rfl⟩:=hn
   refine⟨b.data.toList.map fun u=>Value.int .u8 u.toNat,?_,?_,by simp,fun _ w1 xI=>⟨by simp[Builtin.lenOf,vf],?_⟩⟩
   ·refine⟨by simp[bytes],fun i v v' hv cl => ?_⟩
    simp only[bytes,aiB,ada,aaF] at hv cl
    obtain⟨u,hu,rfl⟩:=hv
    obtain⟨u',iW,rfl⟩:=cl
    rw[hu] at iW;cases iW
    exact .int _ _
   ·simp[bytes]
   ·simp only[Builtin.firstCells,vf]
    have:b.extract 0 b.size=b:=ByteArray.extract_zero_size
    rw[this]
    simp only[Sem.run_pure]
    congr 1
    apply ado.1
    simp
  ·cases hn
 ·cases hn
theorem OM {cp:Array TypeId} {eY:Bool} (h:Da P cp=some eY) :
  (cp[1]? = none/\eY=false)\/∃ t d,cp[1]? = some t/\P.underlying t=some d/\Builtin.append_.match_1 (fun _=>Bool) d (fun _=>true) (fun _=>false)=eY:=by
 unfold Da at h
 split at h
 ·rename_i t ht
  simp only[aaF] at h
  obtain⟨d,hd,rfl⟩:=h
  refine .inr ⟨t,d,ht,hd,?_⟩
  cases d<;>rfl
 ·rename_i ht
  cases h
  exact .inl ⟨ht,rfl⟩
theorem AL {cp:Array TypeId} {ty:TypeId} {eY:Bool} {t0 el es n:Nat} {s' x':Value} {base:Option Addr} {gS mD:Nat} {nv:List Value} {i:TypeInfo} {z0:Value}
  (h0:cp[0]? = some t0) (hu:P.underlying t0=some (.slice el)) (hz:Da P cp=some eY) (hs:sz P el=some es) (my:P.bytesOf el<=4096)
  (hi:P.info? el=some i) (fD:i.zero=some z0) (tM:z0.cells.size=es)
  (pB:s' = .slice base gS mD) (aH:gS+n<=16777216) (pw:nv.length=n*es)
  (wU:eY=true->∃ k:Int,x' = .int .i64 k/\0<=k/\k<16777216/\k.toNat=n/\∃ i z0,P.info? el=some i/\i.zero=some z0/\z0.cells.size=es/\nv=(List.replicate n z0.cells.toList).flatten)
  (wP:eY=false->∀ w1:World,w1.heap=w.heap->(Builtin.lenOf x').run P w1 = .ok n w1/\(Builtin.firstCells es n x').run P w1 = .ok nv.toArray w1) :
  (gS+n<=mD->∀ w',(∀ a,base=some a->(storeCells (a.add (gS*es)) nv).run P w = .ok () w')->(base=none->w'=w)->
   (Builtin.append_ cp ty #[s',x']).run P w = .ok (.slice base (gS+n) mD) w')/\
  (mD<gS+n->∀ ov:List Value,(∀ w1:World,w1.heap=w.heap->(Builtin.firstCells es gS s').run P w1 = .ok ov.toArray w1)->
   ∃ c,gS+n<=c/\(Builtin.append_ cp ty #[s',x']).run P w=
    .ok (.slice (some ⟨w.heap.size,0,none⟩) (gS+n) c) { w with drawn:=w.drawn+1,heap:=w.heap.push (.cells (ov++nv++(List.replicate (c-(gS+n)) z0.cells.toList).flatten).toArray el (0,0)) }):=by
 have eH:=fun w=>gN (P:=P) hs w
 have Rg:i.bytes<=4096:=by unfold Program.bytesOf at my;rw[hi] at my;simpa using my
 subst pB
 have CT:¬ (((gS+n:Nat):Int)>IntKind.i64.max):=by rw[IntKind.max_i64];omega
 have KM:∀ c,(Builtin.zeroCells z0.cells c)=(List.replicate c z0.cells.toList).flatten.toArray:=fun c=>ado.1 (by rw[Sx tM])
 have ZG:mD<gS+n->¬ (Builtin.nextslicecap (gS+n) mD*i.bytes>2 ^ 48):=by
  intro aQ
  have h1:=nextslicecap_le aQ
  have:Builtin.nextslicecap (gS+n) mD*i.bytes<=(2*16777216+192)*4096:=Nat.mul_le_mul (by omega) Rg
  omega
 have ER:(Question.appendCap (gS+n) mD el).forced=false:=rfl
 have zb:gS+n<=(Question.appendCap (gS+n) mD el).cut (w.tape w.drawn (.appendCap (gS+n) mD el)):=Nat.le_add_right _ _
 cases eY with
 | false=>
  have hf:=wP rfl
  constructor
  ·intro hle w' aD BK
   obtain⟨f1,f2⟩:=hf w rfl
   have fin:(do
     let new <-Builtin.firstCells es n x'
     match base with
     | some a=>do storeCells (a.add (gS*es)) new.toList;Pure.pure (Value.slice base (gS+n) mD)
     | x=>Pure.pure (Value.slice base (gS+n) mD):Sem Value).run P w = .ok (.slice base (gS+n) mD) w':=by
    cases base with
    | none=>simp[f2,BK rfl]
    | some a=>simp[f2,aD a rfl]
   rcases OM (P:=P) hz with⟨h1,_⟩ | ⟨t,d,h1,hd,hm⟩
   ·simp[Builtin.append_,h0,h1,aJ hu,eH,f1,hle] at fin ⊢
    exact fin
   ·simp only[Builtin.append_,h0,h1,adO,acP,acM,Sem.run_bind,aJ hu,aJ hd,Result.andThen_ok,eH,Sem.run_pure]
    rw[hm]
    simp[f1,hle] at fin ⊢
    exact fin
  ·intro aQ ov tR
   refine⟨_,zb,?_⟩
   have hb:=ZG aQ
   have Jh:¬ (gS+n<=mD):=by omega
   obtain⟨f1,_⟩:=hf w rfl
   obtain⟨_,f2⟩:=hf { w with drawn:=w.drawn+1 } rfl
   have o1:=tR { w with drawn:=w.drawn+1 } rfl
   rcases OM (P:=P) hz with⟨h1,_⟩ | ⟨t,d,h1,hd,hm⟩
   ·simp only[Builtin.append_,h0,h1,adO,acP,acM,Sem.run_bind,aJ hu,Result.andThen_ok,eH,Sem.run_pure,abD,if_false,f1,if_neg Jh,oV hi]
    rw[if_neg (fun q=>CT q.1),Sem.run_bind,oV hi,Result.andThen_ok,if_neg hb]
    simp only[Sem.run_bind,run_choose,ER,abD,if_false,ah5,if_true,Result.andThen_ok,oV hi,run_askRoom,o1,f2,rr hi fD,KM,newRow,run_newObj,Sem.run_pure]
    simp
   ·simp only[Builtin.append_,h0,h1,adO,acP,acM,Sem.run_bind,aJ hu,aJ hd,Result.andThen_ok,eH,Sem.run_pure]
    rw[hm]
    simp only[abD,if_false,Sem.run_bind,f1,Result.andThen_ok,if_neg Jh,oV hi]
    rw[if_neg (fun q=>CT q.1),Sem.run_bind,oV hi,Result.andThen_ok,if_neg hb]
    simp only[Sem.run_bind,run_choose,ER,abD,if_false,ah5,if_true,Result.andThen_ok,oV hi,run_askRoom,o1,f2,rr hi fD,KM,newRow,run_newObj,Sem.run_pure]
    simp
 | true=>
  obtain⟨k,rfl,k1,k2,k3,i2,z2,oM,AI,aoN,amK⟩:=wU rfl
  rw[hi] at oM;cases oM
  rw[fD] at AI;cases AI
  have hw:IntKind.i64.wrap k=k:=IntWalk.i64_in _ (by omega)
  have mW:¬ k*(i.bytes:Int)>2 ^ 48:=by
   have:k*(i.bytes:Int)<=16777216*4096:=Int.mul_le_mul (by omega) (by omega) (by omega) (by omega)
   omega
  have Au:¬ k<0:=by omega
  rcases OM (P:=P) hz with⟨h1,hf⟩ | ⟨t,d,h1,hd,hm⟩
  ·cases hf
  have HY:∀ w1:World,((if n*es=0 then Pure.pure #[] else do Pure.pure (Builtin.zeroCells (<-zeroValue el).cells n)):Sem (Array Value)).run P w1 = .ok nv.toArray w1:=by
   intro w1
   by_cases lq:n*es=0
   ·rw[if_pos lq]
    have:nv=[]:=List.eq_nil_of_length_eq_zero (by omega)
    subst this;rfl
   ·rw[if_neg lq]
    simp only[Sem.run_bind,rr hi fD,Result.andThen_ok,Sem.run_pure,KM,amK]
  constructor
  ·intro hle w' aD BK
   have fin:(do
     let new <- (if n*es=0 then Pure.pure #[] else do Pure.pure (Builtin.zeroCells (<-zeroValue el).cells n))
     match base with
     | some a=>do storeCells (a.add (gS*es)) new.toList;Pure.pure (Value.slice base (gS+n) mD)
     | x=>Pure.pure (Value.slice base (gS+n) mD):Sem Value).run P w = .ok (.slice base (gS+n) mD) w':=by
    rw[Sem.run_bind,HY w]
    cases base with
    | none=>simp[BK rfl]
    | some a=>simp[aD a rfl]
   simp only[Builtin.append_,h0,h1,adO,acP,acM,Sem.run_bind,aJ hu,aJ hd,Result.andThen_ok,eH,Sem.run_pure]
   rw[hm]
   simp only[if_true,Sem.run_bind,asInt,asIntOf,Sem.run_pure,Result.andThen_ok,hw,if_neg Au,oV hi,if_neg mW,k3,if_pos hle,ah2,abD,if_false] at fin ⊢
   exact fin
  ·intro aQ ov tR
   refine⟨_,zb,?_⟩
   have hb:=ZG aQ
   have Jh:¬ (gS+n<=mD):=by omega
   have o1:=tR { w with drawn:=w.drawn+1 } rfl
   have f2:=HY { w with drawn:=w.drawn+1 }
   simp only[Builtin.append_,h0,h1,adO,acP,acM,Sem.run_bind,aJ hu,aJ hd,Result.andThen_ok,eH,Sem.run_pure]
   rw[hm]
   simp only[if_true,Sem.run_bind,asInt,asIntOf,Sem.run_pure,Result.andThen_ok,hw,if_neg Au,oV hi,if_neg mW,k3,if_neg Jh,ah2,abD,if_false]
   rw[if_neg (fun q=>CT q.1),Sem.run_bind,oV hi,Result.andThen_ok,if_neg hb]
   simp only[Sem.run_bind,run_choose,ER,abD,if_false,Result.andThen_ok,oV hi,run_askRoom,o1,f2,rr hi fD,KM,newRow,run_newObj,Sem.run_pure]
   simp
theorem VR.Ab {e:Em} {b i off len cap o c es:Nat} {ex:Bool} (hb:e.b i=b) (hi:i<e.N) (ho:(o:Int)=off+e.d i) (hl:len<=c) (hc:cap<=c) (hx:ex=true->c=cap) (hn:o+c*es<=e.n i) :
  VR e (.slice i off len cap ex es) (.slice (some ⟨b,o,none⟩) len c):=by
 subst hb;exact .slice i off len cap ex es o c hi ho hl hc hx hn
theorem aP.one {new:List AV} {nv:List Value} (h:aP e new nv) (ho:new.all bq=true):∀ v∈nv,v.oneCell'=true:=by
 intro v hv
 obtain⟨i,hi⟩:=ac1 hv
 have aQ:i<new.length:=by rw[<-h.1];exact (aaK.1 hi).1
 have h1:=h.2 i new[i] v (aaM aQ) hi
 exact h1.aai (adn.1 ho _ (List.getElem_mem aQ))
theorem VO {b o gS mD es:Nat} {cs:List Value} (w:World) (hl:cs.length=gS*es) (h:∀ j v,cs[j]? = some v->w.cell? ⟨b,o+j,none⟩=some v) :
  ∀ w1:World,w1.heap=w.heap->(Builtin.firstCells es gS (.slice (some ⟨b,o,none⟩) gS mD)).run P w1 = .ok cs.toArray w1:=by
 intro w1 xI
 have:=run_loadCells_list (P:=P) w1 ⟨b,o,none⟩ cs (fun j v hj=>by rw[add_lit];have q:=h j v hj;unfold World.cell? at q ⊢;rw[xI];exact q)
 rw[hl] at this
 simp[Builtin.firstCells,this]
set_option maxHeartbeats 1000000 in
theorem afn (h:RH G F W e H w) {cp:Array TypeId} {ty:TypeId} {s x v:AV} {s' x':Value} {H':Hp} (hs:VR e s s') (hx:VR e x x') (ha:FR P cp s x H=some (v,H')) :
  ∃ v' w' e',(Builtin.append_ cp ty #[s',x']).run P w = .ok v' w'/\e.le e'/\RH G F W e' H' w'/\VR e' v v':=by
 unfold FR at ha
 split at ha
 rotate_left
 ·cases ha
 rename_i el eY hq hz
 obtain⟨t0,h0,hu⟩:=abz.1 hq
 split at ha
 rotate_left
 ·cases ha
 rename_i es z dK DB
 cases hb:(Nat.ble (P.bytesOf el) 4096&&Nat.beq z.length es) with
 | false=>rw[hb] at ha;cases ha
 | true=>
 rw[hb] at ha
 simp only[cond_true] at ha
 rw[aa9,adH] at hb
 obtain⟨my,y7⟩:=hb
 have aot:z.length=es:=abC y7
 obtain⟨inf,z0,iN,fD,wZ⟩:=xu (e:=e) DB
 have tM:z0.cells.size=es:=by have:=wZ.1;simp at this;omega
 split at ha
 rotate_left
 ·cases ha
 rename_i n new uy
 obtain⟨nv,iv,pw,wU,wP⟩:=ai0 (P:=P) h hx dK uy
 split at ha
 · -- nil
  cases hs
  cases lq:Nat.beq n 0 with
  | true=>
   rw[lq] at ha
   cases ha
   have:n=0:=abC lq
   subst this
   obtain⟨r1,_⟩:=AL (P:=P) (w:=w) (ty:=ty) (s' := .slice none 0 0) h0 hu hz dK my iN fD tM rfl (by omega) pw wU wP
   exact⟨_,w,e,r1 (abe _) w (by simp) (fun _=>rfl),e.le_refl,h,.ah⟩
  | false=>
   rw[lq] at ha
   simp only[cond_false] at ha
   cases kg:Nat.ble n 16777216 with
   | false=>rw[kg] at ha;cases ha
   | true=>
   rw[kg] at ha
   simp only[cond_true] at ha
   rw[adH] at kg
   split at ha
   ·rename_i i H2 eh
    cases ha
    have tZ:0<n:=by
     rcases Nat.eq_zero_or_pos n with q | q
     ·subst q;cases lq
     ·exact q
    obtain⟨_,r2⟩:=AL (P:=P) (w:=w) (ty:=ty) (s' := .slice none 0 0) h0 hu hz dK my iN fD tM rfl (by omega) pw wU wP
    obtain⟨c,hc,hr⟩:=r2 (by omega) [] (fun w1 _=>by simp[Builtin.firstCells])
    rw[adt] at hc hr
    obtain⟨e',he,g1,g2,g3,g4,oR⟩:=(h.drawn (w.drawn+1)).newRow (rest:=(List.replicate (c-n) z0.cells.toList).flatten) (fz:=(0,0)) eh iv (fun _=>rfl) (by simp)
    refine⟨_,_,e',hr,he,oR,?_⟩
    have iz:w.heap.size=e'.b i:=g2.symm
    rw[iz]
    refine .slice i 0 n n false es 0 c g1 (by rw[g3];simp) hc hc (by simp) ?_
    rw[g4]
    have:((List.replicate (c-n) z0.cells.toList).flatten).length=(c-n)*es:=by simp[tM]
    rw[aby,pw,this,<-aeT]
    have:n+(c-n)=c:=by omega
    rw[this];omega
   ·cases ha
 ·rename_i i off len cap ex aO
  cases iz:(Nat.ble (len+n) 16777216&&Nat.beq es aO&&new.all bq) with
  | false=>rw[iz] at ha;cases ha
  | true=>
  rw[iz] at ha
  simp only[cond_true] at ha
  simp only[aa9,adH] at iz
  obtain⟨⟨hle,hee⟩,QS⟩:=iz
  have anP:es=aO:=abC hee
  subst anP
  cases ic:Nat.ble (len+n) cap with
  | true=>
   rw[ic] at ha
   simp only[cond_true] at ha
   rw[adH] at ic
   split at ha
   ·rename_i H2 aD
    cases ha
    rcases hs.lz with⟨o,c,hi,ho,hl,hc,iO,hn,rfl⟩ | ⟨rfl,rfl,a,rfl⟩
    ·obtain⟨r1,_⟩:=AL (P:=P) (w:=w) (ty:=ty) (s' := .slice (some ⟨e.b i,o,none⟩) len c) h0 hu hz dK my iN fD tM rfl (by omega) pw wU wP
     obtain⟨w',nR,hr⟩:=RH.Jd (P:=P) (off:=off+len*es) (k:=0) (o:=o+len*es) h aD iv (by push_cast;omega)
     refine⟨_,w',e,r1 (by omega) w' (fun a ha => ?_) (by simp),e.le_refl,hr,.slice _ _ _ _ _ _ _ _ hi ho (by omega) hc iO hn⟩
     cases ha
     rw[add_lit];exact nR
    ·have lq:n=0:=by omega
     subst lq
     have:new=[]:=by
      have:=iv.1
      rw[pw] at this
      exact List.eq_nil_of_length_eq_zero (by omega)
     subst this
     cases aD
     have abE:nv=[]:=iv.jQ
     subst abE
     obtain⟨r1,_⟩:=AL (P:=P) (w:=w) (ty:=ty) (s' := .slice (some a) 0 0) h0 hu hz dK my iN fD tM rfl (by omega) pw wU wP
     exact⟨_,w,e,r1 (abe _) w (fun a ha=>by simp[storeCells]) (by simp),e.le_refl,h,.yG ..⟩
   ·cases ha
  | false=>
   rw[ic] at ha
   simp only[cond_false] at ha
   have ag4:cap<len+n:=by
    rcases aiD cap (len+n) with q | q
    ·exact q
    ·have q2:Nat.ble (len+n) cap=true:=by rw[adH];exact q
     rw[q2] at ic;cases ic
   cases hex:ex with
   | true=>
    rw[hex] at ha
    simp only[cond_true] at ha
    split at ha
    ·rename_i fu hold
     split at ha
     ·rename_i j H2 eh
      cases ha
      have key:∀ (base:Addr) (c0:Nat) (ov:List Value),s' = .slice (some base) len c0->c0<len+n->aP e fu ov->ov.length=len*es->
        (∀ w1:World,w1.heap=w.heap->(Builtin.firstCells es len (.slice (some base) len c0)).run P w1 = .ok ov.toArray w1)->
        ∃ v' w' e',(Builtin.append_ cp ty #[s',x']).run P w = .ok v' w'/\e.le e'/\RH G F W e' H' w'/\VR e' (.slice j 0 (len+n) (len+n) false es) v':=by
       intro base c0 ov pB aQ tR jk iV
       obtain⟨_,r2⟩:=AL (P:=P) (w:=w) (ty:=ty) (s':=s') h0 hu hz dK my iN fD tM pB (by omega) pw wU wP
       obtain⟨c,hc,hr⟩:=r2 aQ ov (by rw[pB];exact iV)
       obtain⟨e',he,g1,g2,g3,g4,oR⟩:=(h.drawn (w.drawn+1)).newRow (rest:=(List.replicate (c-(len+n)) z0.cells.toList).flatten) (fz:=(0,0)) eh (tR.append iv) (fun _=>rfl) (by simp)
       refine⟨_,_,e',hr,he,oR,?_⟩
       have iz:w.heap.size=e'.b j:=g2.symm
       rw[iz]
       refine .slice j 0 (len+n) (len+n) false es 0 c g1 (by rw[g3];simp) hc hc (by simp) ?_
       rw[g4]
       have:((List.replicate (c-(len+n)) z0.cells.toList).flatten).length=(c-(len+n))*es:=by simp[tM]
       rw[aby,aby,pw,jk,this,<-aeT,<-aeT]
       have:len+n+(c-(len+n))=c:=by omega
       rw[this];omega
      rcases hs.lz with⟨o,c,hi,ho,hl,hc,iO,hn,pB⟩ | ⟨rfl,rfl,a,pB⟩
      ·obtain⟨ov,h1,h2,h3⟩:=h.yU hold ho
       exact key _ c ov pB (by have:=iO hex;omega) h1 h2 (VO w h2 h3)
      ·rw[af4] at hold
       cases hold
       exact key a 0 [] pB ag4 (.nil e) (by simp) (fun w1 _=>by simp[Builtin.firstCells,loadCells,loadCellsFrom])
     ·cases ha
    ·cases ha
   | false=>
    rw[hex] at ha
    simp only[cond_false] at ha
    split at ha
    ·rename_i c lo hi tc fl hg
     cases qw:(Nat.ble fl 1&&Nat.ble lo off&&Nat.ble (off+len*es) hi&&Nat.beq el tc) with
     | false=>rw[qw] at ha;cases ha
     | true=>
     rw[qw] at ha
     simp only[cond_true] at ha
     simp only[aa9,adH] at qw
     obtain⟨⟨⟨b1,b2⟩,b3⟩,b4⟩:=qw
     have oG:el=tc:=abC b4
     subst oG
     split at ha
     ·rename_i j H2 dq
      cases ha
      have aoK:new.length=n*es:=by rw[<-iv.1];exact pw
      have aoZ:off+(len+n)*es=off+len*es+n*es:=by rw[aeT];omega
      have Yd:∀ k,(c.cC (off+len*es) new).get k=if off+len*es<=k/\k<off+len*es+new.length then new[k-(off+len*es)]? else c.get k:=fun k=>Tr.uj _ c _ _
      have Ta:∀ (base:Addr) (c0:Nat) (ov:List Value),s' = .slice (some base) len c0->c0<len+n->ov.length=len*es->
        (∀ k v,off<=k->k<off+len*es->c.get k=some v->∃ v',ov[k-off]? = some v'/\VR e v v')->
        (∀ w1:World,w1.heap=w.heap->(Builtin.firstCells es len (.slice (some base) len c0)).run P w1 = .ok ov.toArray w1)->
        ∃ v' w' e',(Builtin.append_ cp ty #[s',x']).run P w = .ok v' w'/\e.le e'/\RH G F W e' H' w'/\VR e' (.slice j off (len+n) (len+n) false es) v':=by
       intro base c0 ov pB aQ jk tR iV
       obtain⟨_,r2⟩:=AL (P:=P) (w:=w) (ty:=ty) (s':=s') h0 hu hz dK my iN fD tM pB (by omega) pw wU wP
       obtain⟨cc,ik,hr⟩:=r2 aQ ov (by rw[pB];exact iV)
       have hd:=(h.drawn (w.drawn+1)).del i
       have hj:=(wA dq).1
       have jn:j=e.N:=hj.trans h.N.symm
       subst jn
       have gE:((List.replicate (cc-(len+n)) z0.cells.toList).flatten).length=(cc-(len+n))*es:=by simp[tM]
       have eH:(ov++nv++(List.replicate (cc-(len+n)) z0.cells.toList).flatten).length=cc*es:=by
        rw[aby,aby,pw,jk,gE,<-aeT,<-aeT]
        congr 1;omega
       have eg:OR (e.ext w.heap.size (-(off:Int)) (cc*es)) e.N (.cells (c.cC (off+len*es) new) off (off+(len+n)*es) el 1) (.cells (ov++nv++(List.replicate (cc-(len+n)) z0.cells.toList).flatten).toArray el (0,0)):=by
        refine .cells _ _ _ _ _ _ _ (by rw[Em.vU];simpa using eH) ?_ (by simp) (by simp) (fun q=>by rw[Em.mY];omega)
        intro k u tD fV hk
        rw[Yd] at hk
        refine⟨k-off,by rw[Em.mY];omega,?_⟩
        simp only[adO]
        split at hk
        ·rename_i gU
         obtain⟨u',iW,iq⟩:=iv.get hk
         refine⟨u',?_,iq.mono (Em.o9 ..)⟩
         rw[abN (by rw[aby,jk,pw];omega),abQ (by rw[jk];omega),jk]
         rw[<-iW];congr 1;omega
        ·rename_i gU
         obtain⟨u',iW,iq⟩:=tR k u tD (by omega) hk
         refine⟨u',?_,iq.mono (Em.o9 ..)⟩
         have:k-off<ov.length:=(aaK.1 iW).1
         rw[abN (by rw[aby];omega),abN this]
         exact iW
       obtain⟨_,oR⟩:=hd.alloc dq eg
       refine⟨_,_,_,hr,Em.o9 ..,oR,?_⟩
       exact VR.Ab (e:=e.ext w.heap.size (-(off:Int)) (cc*es)) (Em.mQ ..) (by simp[Em.ext]) (by rw[Em.mY];omega) ik ik (by simp) (by rw[Em.vU];omega)
      obtain⟨hN,ob,ep,eg,hF⟩:=h.obj i _ hg
      cases eg with
      | cells _ _ _ _ _ C fz hCn ik Mi Ka hd=>
      rcases hs.lz with⟨o,c0,oM,ho,hl,hc,iO,hn,pB⟩ | ⟨rfl,rfl,a,pB⟩
      ·have hlen:len*es<=c0*es:=adY _ hl
       by_cases gU:len+n<=c0
       · -- in place
        have mO:(len+n)*es<=c0*es:=adY _ gU
        have ao5:(len+n)*es=len*es+n*es:=aeT ..
        obtain⟨w',C',r1,r2,r3,r4,r5,r6,r7,r8,r9⟩:=aku (P:=P) (e.b i) (o+len*es) el fz nv 0 w C ep (by rw[pw];omega) (Ka b1) (iv.one QS)
        obtain⟨q1,_⟩:=AL (P:=P) (w:=w) (ty:=ty) (s':=s') h0 hu hz dK my iN fD tM pB (by omega) pw wU wP
        have hj:=(wA dq).1
        have jn:j=e.N:=hj.trans h.N.symm
        subst jn
        have afk:OR (e.ext (e.b i) (e.d i) (e.n i)) e.N (.cells (c.cC (off+len*es) new) off (off+(len+n)*es) el 1) (.cells C' el fz):=by
         refine .cells _ _ _ _ _ _ _ (by rw[Em.vU,r3,hCn]) ?_ (by simp) (fun _ k hk=>Ka b1 k (by omega)) (fun q=>by rw[Em.mY];exact hd (by omega))
         intro k u tD fV hk
         rw[Yd] at hk
         split at hk
         ·rename_i afP
          obtain⟨u',iW,iq⟩:=iv.get hk
          refine⟨o+(k-off),by rw[Em.mY];omega,u',?_,iq.mono (Em.o9 ..)⟩
          rw[r4,if_pos (by rw[pw];omega),<-iW]
          congr 1;omega
         ·rename_i afP
          obtain⟨k2,yJ,u',iW,iq⟩:=ik k u (by omega) (by omega) hk
          refine⟨k2,by rw[Em.mY];exact yJ,u',?_,iq.mono (Em.o9 ..)⟩
          rw[r4,if_neg (by omega)]
          exact iW
        obtain⟨_,oR⟩:=h.move hg (by simp[wr,b1]) dq r6 r2 r5 afk r7 r8 r9
        refine⟨_,w',_,q1 gU w' (fun a ha => ?_) (by simp),Em.o9 ..,oR,?_⟩
        ·cases ha
         rw[add_lit];exact r1
        ·exact VR.Ab (e:=e.ext (e.b i) (e.d i) (e.n i)) (Em.mQ ..) (by simp[Em.ext]) (by rw[Em.mY];exact ho) gU gU (by simp) (by rw[Em.vU];exact hn)
       ·refine Ta _ c0 ((C.toList.drop o).take (len*es)) pB (by omega) ?_ ?_ ?_
        ·simp;omega
        ·intro k u tD fV hk
         obtain⟨k2,yJ,u',iW,iq⟩:=ik k u (by omega) (by omega) hk
         refine⟨u',?_,iq⟩
         rw[afW,if_pos (by omega),aeA,adw,<-iW]
         congr 1;omega
        ·refine VO w (by simp;omega) (fun m u hm => ?_)
         rw[afW] at hm
         split at hm
         ·rw[aeA,adw] at hm
          simp[World.cell?,ep,hm]
         ·cases hm
      ·refine Ta a 0 [] pB (by omega) (by simp) (fun k u tD fV hk=>by omega) (fun w1 _=>by simp[Builtin.firstCells,loadCells,loadCellsFrom])
     ·cases ha
    ·cases ha
 ·cases ha
end
end Go.Proofs.YtodfajmihkagnaaGreatDoor.Am
namespace Go.Proofs.YtodfajmihkagnaaGreatDoor.Am
section
variable {P:Program} {G:Nat} {F:Nat->Prop} {W:World} {e:Em} {H:Hp} {w:World}
theorem VR.Yy {a b:AV} {a' b':Value} (ha:VR e a a') (hb:VR e b b') (h:GG a b=true):a'=b'/\∀ n,Instr.sameBits n a' b'=true:=by
 unfold GG at h
 split at h
 ·cases ha.so;cases hb.so
  simp only[beq_iff_eq] at h
  subst h;exact⟨rfl,fun n=>by simp[Instr.sameBits]⟩
 ·cases ha.fN;cases hb.fN
  simp only[aa9,decide_eq_true_eq] at h
  obtain⟨rfl,rfl⟩:=h
  exact⟨rfl,fun n=>by simp[Instr.sameBits]⟩
 ·obtain⟨p,rfl,rfl⟩:=ha.lR
  obtain⟨q,rfl,rfl⟩:=hb.lR
  have:(p==q)=true:=by rw[SL];exact h
  have AT:p=q:=by
   have h0:(p==q)=(p.data==q.data):=by cases p;cases q;rfl
   rw[h0,beq_iff_eq] at this
   cases p;cases q;simpa using this
  subst AT
  exact⟨rfl,fun n=>by simp[Instr.sameBits,this]⟩
 ·cases h
theorem aP.plain:∀ {x y:List AV} {x' y':List Value},aP e x x'->aP e y y'->Ct x y=true->x'=y'/\∀ n,(x'.zip y').all (fun (a,b)=>Instr.sameBits n a b)=true
 | [],[],x',y',hx,hy,h=>by rw[hx.jQ,hy.jQ];exact⟨rfl,fun n=>rfl⟩
 | [],_::_,_,_,_,_,h=>by simp[Ct] at h
 | _::_,[],_,_,_,_,h=>by simp[Ct] at h
 | a::x,b::y,x',y',hx,hy,h=>by
  simp only[Ct,aa9] at h
  obtain⟨a',xs,rfl,ha,hx⟩:=hx.cons_inv
  obtain⟨b',ys,rfl,hb,hy⟩:=hy.cons_inv
  obtain⟨h1,h2⟩:=ha.Yy hb h.1
  obtain⟨h3,h4⟩:=aP.plain hx hy h.2
  subst h1;subst h3
  exact⟨rfl,fun n=>by simp only[List.zip_cons_cons,List.all_cons,h2 n,h4 n,Bool.and_self]⟩
theorem VR.plain {a b:AV} {a' b':Value} (ha:VR e a a') (hb:VR e b b') (h:A9 a b=true):Instr.sameBits 10000 a' b'=true:=by
 unfold A9 at h
 split at h
 ·obtain⟨x,rfl,hx⟩:=ha.vK
  obtain⟨y,rfl,hy⟩:=hb.vK
  obtain⟨h1,h2⟩:=hx.plain hy h
  have:x.size=y.size:=by have:=congrArg List.length h1;simpa using this
  simp only[Instr.sameBits,this,beq_self_eq_true,ac2]
  exact h2 9999
 ·exact (ha.Yy hb h).2 _
theorem O6 {α:Type} (g:α->Bool) (body:α->PUnit->Sem (ForInStep PUnit)) (w:World) (hb:∀ a,g a=true->(body a ⟨⟩).run P w = .ok (.yield ⟨⟩) w) :
  ∀ l:List α,l.all g=true->(forIn l (⟨⟩:PUnit) body).run P w = .ok ⟨⟩ w
 | [],_=>by simp
 | a::l,h=>by
  simp only[List.all_cons,aa9] at h
  rw[List.forIn_cons,Sem.run_bind,hb a h.1]
  exact O6 g body w hb l h.2
theorem OJ (w:World) (emp:Bool):∀ (d D:Nat),d<=D->∀ (t:TypeId) (v:AV) (v':Value),VR e v v'->nc P d t v=true->(Instr.checkKey emp D t v').run P w = .ok () w:=by
 intro d
 induction d with
 | zero=>intro D _ t v v' _ h;cases h
 | succ d ih=>
  intro D hD t v v' hv h
  obtain⟨D,rfl⟩:∃ k,D=k+1:=⟨D-1,by omega⟩
  unfold nc at h
  split at h
  ·rename_i hu;simp[Instr.checkKey,aJ hu]
  ·rename_i hu;simp[Instr.checkKey,aJ hu]
  ·rename_i hu;simp[Instr.checkKey,aJ hu]
  ·rename_i fs cs hu
   obtain⟨vs,rfl,hl⟩:=hv.vK
   have key := O6 (P := P) (g := fun f : Field => if f.name ≠ "_" then (match mo P f.type cs f.offset with | some v => nc P d f.type v | none => false) else true)
    (body:=fun f LJ=>do
     if f.name ≠ "_" then
      Instr.checkKey emp D f.type (<-part f.type vs f.offset)
      Pure.pure (ForInStep.yield PUnit.unit)
     else Pure.pure (ForInStep.yield PUnit.unit)) w (by
     intro f hg
     by_cases hn : f.name = "_"
     ·simp[hn]
     ·simp only[ne_eq,hn,not_false_eq_true,if_true] at hg
      split at hg
      ·rename_i u wm
       obtain⟨u',iW,hr⟩:=yD hl wm w
       have:=ih D (by omega) f.type u u' hr hg
       simp[hn,iW,this]
      ·cases hg) fs.toList h
   simp[Instr.checkKey,aJ hu] at key ⊢
   simp[key]
  ·rename_i n el cs hu
   split at h
   ·rename_i s hs
    obtain⟨vs,rfl,hl⟩:=hv.vK
    have key:=O6 (P:=P) (g:=fun i:Nat=>match mo P el cs (i*s) with | some v=>nc P d el v | none=>false)
     (body:=fun i LJ=>do
      let z <-sizeOf el
      let p <-part el vs (i*z)
      Functor.map (fun a=>ForInStep.yield PUnit.unit) (Instr.checkKey emp D el p)) w (by
      intro i hg
      split at hg
      ·rename_i u wm
       obtain⟨u',iW,hr⟩:=yD hl wm w
       have:=ih D (by omega) el u u' hr hg
       simp[gN hs,iW,this]
      ·cases hg) (List.range' 0 n) h
    simp[Instr.checkKey,aJ hu]
    exact key
   ·cases h
  ·cases h
theorem gK.cons_inv {m:ME} {es:List ME} {aO:List MapEntry} (h:gK e (m::es) aO):∃ m' r',aO=m'::r'/\VR e m.key m'.key/\VR e m.val m'.val/\gK e es r':=by
 cases aO with
 | nil=>simp[gK] at h
 | cons m' r'=>
  obtain⟨a,b⟩:=h.2 0 m m' rfl rfl
  exact⟨m',r',rfl,a,b,by simpa using h.1,fun i x y hx hy=>h.2 (i+1) x y (by simpa using hx) (by simpa using hy)⟩
theorem gK.jQ {aO:List MapEntry} (h:gK e [] aO):aO=[]:=by simpa using h.1
theorem TD (h:RH G F W e H w) {t:TypeId} {k:AV} {k':Value} (hk:VR e k k'):∀ (es:List ME) (fs:List MapEntry),gK e es fs->uZ P H t k es=true->∀ x∈fs,(Op.equal t k' x.key).run P w = .ok false w
 | [],fs,hm,_=>by rw[hm.jQ];simp
 | m::es,fs,hm,hf=>by
  obtain⟨m',r',rfl,h1,h2,h4⟩:=hm.cons_inv
  unfold uZ at hf
  split at hf
  ·rename_i heq
   have:=ES h 20 Op.maxDepth (by decide) t k m.key k' m'.key false hk h1 heq
   intro x hx
   rcases abn.1 hx with rfl | hx
   ·exact this
   ·exact TD h hk es r' h4 hf x hx
  ·cases hf
def FK (P:Program) (e:Em) (w:World) (t:TypeId) (k':Value) (fs:List MapEntry) (i0:Nat):Option (Nat × ME)->Prop
 | none=>∀ x∈fs,(Op.equal t k' x.key).run P w = .ok false w
 | some (j,m)=>∃ f1 m' f2,fs=f1++m'::f2/\j=i0+f1.length/\VR e m.key m'.key/\VR e m.val m'.val/\(Op.equal t k' m'.key).run P w = .ok true w/\∀ x∈f1++f2,(Op.equal t k' x.key).run P w = .ok false w
theorem Uy (h:RH G F W e H w) {t:TypeId} {k:AV} {k':Value} (hk:VR e k k'):∀ (es:List ME) (fs:List MapEntry) (i:Nat) (r:Option (Nat × ME)),gK e es fs->mz P H t k es i=some r->FK P e w t k' fs i r
 | [],fs,i,r,hm,hf=>by
  rw[hm.jQ]
  cases hf
  exact fun x hx=>by cases hx
 | m::es,fs,i,r,hm,hf=>by
  obtain⟨m',r',rfl,h1,h2,h4⟩:=hm.cons_inv
  unfold mz at hf
  split at hf
  ·rename_i heq
   have:=ES h 20 Op.maxDepth (by decide) t k m.key k' m'.key true hk h1 heq
   cases hn:uZ P H t k es with
   | false=>rw[hn] at hf;cases hf
   | true=>
    rw[hn] at hf
    cases hf
    exact⟨[],m',r',rfl,rfl,h1,h2,this,fun x hx=>TD h hk es r' h4 hn x (by simpa using hx)⟩
  ·rename_i heq
   have:=ES h 20 Op.maxDepth (by decide) t k m.key k' m'.key false hk h1 heq
   have ih:=Uy h hk es r' (i+1) r h4 hf
   cases r with
   | none=>
    intro x hx
    rcases abn.1 hx with rfl | hx
    ·exact this
    ·exact ih x hx
   | some x=>
    obtain⟨j,mm⟩:=x
    obtain⟨f1,n',f2,rfl,rfl,q1,q2,q3,q4⟩:=ih
    refine⟨m'::f1,n',f2,rfl,by simp only[abx];omega,q1,q2,q3,fun x hx => ?_⟩
    rcases abn.1 hx with rfl | hx
    ·exact this
    ·exact q4 x hx
  ·cases hf
theorem RJ {t:TypeId} {k':Value} {w:World}:∀ (l:List MapEntry) (i:Nat),(∀ x∈l,(Op.equal t k' x.key).run P w = .ok false w)->(Instr.findAsking t k' l i).run P w = .ok none w
 | [],i,_=>by simp[Instr.findAsking]
 | m::l,i,h=>by
  have h1:=h m (.head _)
  have h2:=RJ l (i+1) fun x hx=>h x (.tail _ hx)
  simp[Instr.findAsking,h1,h2]
theorem UT {t:TypeId} {k':Value} {w:World} {m:MapEntry} {b:List MapEntry} (hm:(Op.equal t k' m.key).run P w = .ok true w):∀ (a:List MapEntry) (i:Nat),(∀ x∈a,(Op.equal t k' x.key).run P w = .ok false w)->
  (Instr.findAsking t k' (a++m::b) i).run P w = .ok (some (i+a.length,m.val)) w
 | [],i,_=>by simp[Instr.findAsking,hm]
 | x::a,i,h=>by
  have h1:=h x (.head _)
  have h2:=UT (b:=b) hm a (i+1) fun x hx=>h x (.tail _ hx)
  rw[List.cons_append,abx,show i+(a.length+1)=i+1+a.length by omega]
  simp[Instr.findAsking,h1,h2]
theorem Td {d:TypeDesc} {t:TypeId} (hu:P.underlying t=some d) {k':Value} (w:World):∀ (aO:List MapEntry) (i:Nat) (r r2:Option (Nat × Value)),Instr.findNow d k' aO i=some r->(Instr.findAsking t k' aO i).run P w = .ok r2 w->r=r2
 | [],i,r,r2,h1,h2=>by
  cases h1
  simp[Instr.findAsking] at h2
  exact h2
 | m::aO,i,r,r2,h1,h2=>by
  obtain⟨Ue,aoO,ao8⟩:=m
  unfold Instr.findNow at h1
  obtain⟨md,hmd⟩:∃ md,Op.maxDepth=md+1:=⟨9999,rfl⟩
  have W1:∀ b,Instr.sameNow d k' Ue=some b->(Op.equal t k' Ue).run P w = .ok b w:=by
   intro b hb
   unfold Op.equal
   rw[hmd]
   unfold Instr.sameNow at hb
   split at hb
   ·rename_i h1 h2
    split at hb
    ·rename_i It;cases hb;simp[Op.equalIn,aJ hu,It]
    ·cases hb
   ·rename_i h1 h2;cases hb;simp[Op.equalIn,aJ hu]
   ·rename_i h1 h2;cases hb;simp[Op.equalIn,aJ hu]
   ·cases hb
  split at h1
  ·rename_i hs
   cases h1
   simp[Instr.findAsking,W1 true hs] at h2
   exact h2
  ·rename_i hs
   simp[Instr.findAsking,W1 false hs] at h2
   exact Td hu w aO (i+1) r r2 h1 h2
  ·cases h1
theorem Ts {t:TypeId} {k':Value} {l:List MapEntry} {r':Option (Nat × Value)} {d:TypeDesc} (hu:P.underlying t=some d) (eV:(Instr.findAsking t k' l 0).run P w = .ok r' w):(Instr.findKey t k' l).run P w = .ok r' w:=by
 unfold Instr.findKey
 rw[Sem.run_bind,aJ hu,Result.andThen_ok]
 split
 ·rename_i r2 nZ
  rw[Td hu w l 0 r2 r' nZ eV]
  simp
 ·exact eV
def FP (P:Program) (e:Em) (w:World) (t:TypeId) (k':Value) (fs l:List MapEntry):Option (Nat × ME)->Prop
 | none=>(Instr.findKey t k' l).run P w = .ok none w
 | some (j,m)=>∃ f1 m' f2 a b,fs=f1++m'::f2/\j=f1.length/\l=a++m'::b/\(f1++f2).Perm (a++b)/\VR e m.key m'.key/\VR e m.val m'.val/\(Instr.findKey t k' l).run P w = .ok (some (a.length,m'.val)) w
theorem Bt (h:RH G F W e H w) {t:TypeId} {k:AV} {k':Value} (hk:VR e k k') {es:List ME} {fs l:List MapEntry} {r:Option (Nat × ME)} (hm:gK e es fs) (hp:fs.Perm l) (hf:mz P H t k es 0=some r) {d:TypeDesc} (hu:P.underlying t=some d):FP P e w t k' fs l r:=by
 have hq:=Uy (P:=P) h hk es fs 0 r hm hf
 cases r with
 | none=>exact Ts hu (RJ l 0 fun x hx=>hq x (hp.mem_iff.2 hx))
 | some x=>
  obtain⟨j,m⟩:=x
  obtain⟨f1,m',f2,rfl,rfl,q1,q2,q3,q4⟩:=hq
  obtain⟨a,b,rfl⟩:=List.append_of_mem (hp.mem_iff.1 (by simp:m'∈f1++m'::f2))
  have xb:(f1++f2).Perm (a++b):=((aiY.symm.trans hp).trans aiY).cons_inv
  refine⟨f1,m',f2,a,b,rfl,by omega,rfl,xb,q1,q2,?_⟩
  have:=UT (P:=P) (w:=w) (b:=b) q3 a 0 fun x hx=>q4 x (xb.mem_iff.2 (abG _ hx))
  rw[adt] at this
  exact Ts hu this
end
end Go.Proofs.YtodfajmihkagnaaGreatDoor.Am
namespace Go.Proofs.YtodfajmihkagnaaGreatDoor.Am
section
variable {P:Program} {G:Nat} {F:Nat->Prop} {W:World} {e:Em} {H:Hp} {w:World}
theorem yH (h:RH G F W e H w) {i:Nat} {es:List ME} {c:Nat} (hg:H.h.get i=some (.map es c)):i<e.N/\∃ (aO:Array MapEntry) (c':Nat) (fs:List MapEntry),w.heap[e.b i]? = some (.map aO c')/\fs.Perm aO.toList/\gK e es fs/\(fs.map (·.born)).Nodup/\∀ x∈fs,x.born<c':=by
 obtain⟨hN,ob,ep,eg,_⟩:=h.obj i _ hg
 cases eg with
 | map _ _ aO c' fs hp hm hn hb=>exact⟨hN,aO,c',fs,ep,hp,hm,hn,hb⟩
theorem abw (h:RH G F W e H w) {x:AV} {x':Value} {es:List ME} {c:Nat} (hx:VR e x x') (hm:mapOf H x=some (es,c)) :
  (x' = .map none/\es=[]/\c=0)\/∃ i aO c' fs,x = .map i/\x' = .map (some (e.b i))/\H.h.get i=some (.map es c)/\w.heap[e.b i]? = some (.map aO c')/\fs.Perm aO.toList/\gK e es fs:=by
 unfold mapOf at hm
 split at hm
 ·cases hx;cases hm;exact .inl ⟨rfl,rfl,rfl⟩
 ·rename_i i
  split at hm
  ·rename_i nC c0 hg
   cases hm
   obtain⟨hi,rfl⟩:=hx.C8
   obtain⟨_,aO,c',fs,h1,h2,h3,_⟩:=yH h hg
   exact .inr ⟨i,aO,c',fs,rfl,rfl,hg,h1,h2,h3⟩
  ·cases hm
 ·cases hm
theorem zv {b:Nat} {aO:Array MapEntry} {c:Nat} (hb:w.heap[b]? = some (.map aO c)):(getObj b).run P w = .ok (.map aO c) w:=by simp[getObj,Sem.run,hb]
theorem Lw {kt:TypeId} {k:AV} (hc:nc P 20 kt k=true):∃ d,P.underlying kt=some d:=by
 cases hq:P.underlying kt with
 | none=>simp[nc,hq] at hc
 | some d=>exact⟨d,rfl⟩
theorem VR.pair {a b:AV} {a' b':Value} (ha:VR e a a') (hb:VR e b b'):VR e (.tuple [a,b]) (.tuple #[a',b']):=
 .tuple' (.cons ha (.cons hb (.nil e)))
theorem agB (h:RH G F W e H w) {t:TypeId} {x k v:AV} {x' k':Value} {ok:Bool} (hx:VR e x x') (hk:VR e k k') (hl:qb P t x k ok H=some v) :
  ∃ v',(Instr.lookup t x' k' ok).run P w = .ok v' w/\VR e v v':=by
 unfold qb at hl
 split at hl
 ·rename_i kt el hu
  cases hc:nc P 20 kt k with
  | false=>rw[hc] at hl;cases hl
  | true=>
  rw[hc] at hl
  simp only[cond_true] at hl
  have xp:∀ emp,(Instr.checkKey emp 10000 kt k').run P w = .ok () w:=fun emp=>OJ w emp 20 10000 (by decide) kt k k' hk hc
  obtain⟨kd,cF⟩:=Lw hc
  split at hl
  ·rename_i es c hm
   have fin:∀ (fs aO:List MapEntry),fs.Perm aO->gK e es fs->∃ r' v',(Instr.findKey kt k' aO).run P w = .ok r' w/\
     (match r' with
      | some (_,v)=>Pure.pure (if ok=true then Value.tuple #[v,Value.bool true] else v)
      | none=>Functor.map (fun a=>if ok=true then Value.tuple #[a,Value.bool false] else a) (zeroValue el):Sem Value).run P w = .ok v' w/\VR e v v':=by
    intro fs aO lI pD
    split at hl
    ·rename_i j m hf
     obtain⟨f1,m',f2,a,b,_,_,_,_,_,hv,eV⟩:=Bt (P:=P) h hk pD lI hf cF
     cases hl
     cases ok with
     | true=>exact⟨_,_,eV,by simp,hv.pair (.bool true)⟩
     | false=>exact⟨_,_,eV,by simp,hv⟩
    ·rename_i hf
     have eV:(Instr.findKey kt k' aO).run P w = .ok none w:=Bt (P:=P) h hk pD lI hf cF
     simp only[aaF,abz] at hl
     obtain⟨z,⟨z0,⟨inf,iN,fD⟩,hz⟩,rfl⟩:=hl
     have wZ:VR e z z0 := .jB hz
     cases ok with
     | true=>exact⟨_,_,eV,by simp[rr iN fD],wZ.pair (.bool false)⟩
     | false=>exact⟨_,_,eV,by simp[rr iN fD],wZ⟩
    ·cases hl
   rcases abw h hx hm with⟨rfl,rfl,_⟩ | ⟨i,aO,c',fs,rfl,rfl,hg,hb,lI,pD⟩
   ·obtain⟨r',v',h1,h2,h3⟩:=fin [] [] (List.Perm.refl _) ⟨rfl,by simp⟩
    refine⟨v',?_,h3⟩
    simp[Instr.lookup,aJ hu,xp,h1]
    exact h2
   ·obtain⟨r',v',h1,h2,h3⟩:=fin fs aO.toList lI pD
    refine⟨v',?_,h3⟩
    simp[Instr.lookup,aJ hu,zv hb,xp,h1]
    exact h2
  ·cases hl
 ·cases hl
theorem FQ {b:Nat} {o:Obj} {aO:Array MapEntry} {c:Nat} (hb:w.heap[b]? = some (.map aO c)):(Go.setObj b o).run P w = .ok () { w with heap:=w.heap.setIfInBounds b o }:=by
 simp[Go.setObj,Sem.run,hb]
theorem RH.Lh (h:RH G F W e H w) {i:Nat} {es WL:List ME} {c c2:Nat} (hg:H.h.get i=some (.map es c)) {aO:Array MapEntry} {c':Nat} {fs:List MapEntry} (hp:fs.Perm aO.toList) (hm:gK e WL fs) (hn:(fs.map (·.born)).Nodup) (hb:∀ x∈fs,x.born<c') :
  RH G F W e (Am.setObj H i (.map WL c2)) { w with heap:=w.heap.setIfInBounds (e.b i) (.map aO c') }:=by
 obtain⟨_,nC,c0,_,mW,_⟩:=yH h hg
 have aQ:=(ab6.1 mW).1
 refine h.put hg rfl (oZ := .map aO c') (by simp) (by simp[aQ]) (fun k hk => ?_) (.map _ _ _ _ fs hp hm hn hb) rfl rfl rfl
 simp only
 rw[adP (fun q=>hk q.symm)]
theorem gK.snoc {es:List ME} {aO:List MapEntry} (h:gK e es aO) {m:ME} {m':MapEntry} (h1:VR e m.key m'.key) (h2:VR e m.val m'.val):gK e (es++[m]) (aO++[m']):=by
 refine⟨by simp[h.1],fun i x y hx hy => ?_⟩
 by_cases hi:i<es.length
 ·rw[abN hi] at hx
  rw[abN (by rw[h.1];exact hi)] at hy
  exact h.2 i x y hx hy
 ·rw[abQ (by omega)] at hx
  rw[abQ (by rw[h.1];omega),h.1] at hy
  have:i-es.length=0:=by
   have:=(aaK.1 hx).1
   simp at this;omega
  rw[this] at hx hy
  simp at hx hy
  subst hx;subst hy
  exact⟨h1,h2⟩
theorem gK.set {es:List ME} {aO:List MapEntry} (h:gK e es aO) (j:Nat) {m:ME} {m':MapEntry} (h1:VR e m.key m'.key) (h2:VR e m.val m'.val):gK e (es.set j m) (aO.set j m'):=by
 refine⟨by simp[h.1],fun i x y hx hy => ?_⟩
 rw[afp] at hx hy
 split at hx
 ·rename_i hj
  rw[if_pos hj] at hy
  split at hx
  ·split at hy
   ·cases hx;cases hy;exact⟨h1,h2⟩
   ·cases hy
  ·cases hx
 ·rename_i hj
  rw[if_neg hj] at hy
  exact h.2 i x y hx hy
theorem gK.erase {es:List ME} {aO:List MapEntry} (h:gK e es aO) (j:Nat):gK e (es.eraseIdx j) (aO.eraseIdx j):=by
 refine⟨by simp[List.length_eraseIdx,h.1],fun i x y hx hy => ?_⟩
 rw[List.getElem?_eraseIdx] at hx hy
 split at hx
 ·rename_i hj;rw[if_pos hj] at hy;exact h.2 i x y hx hy
 ·rename_i hj;rw[if_neg hj] at hy;exact h.2 _ x y hx hy
set_option maxHeartbeats 1000000 in
theorem RW (h:RH G F W e H w) {t:TypeId} {x k v:AV} {x' k' v':Value} {H':Hp} (hx:VR e x x') (hk:VR e k k') (hv:VR e v v') (hl:nu P t x k v H=some H') :
  ∃ w',(Instr.mapUpdate t x' k' v').run P w = .ok () w'/\RH G F W e H' w':=by
 unfold nu at hl
 split at hl
 ·rename_i kt el i hu
  cases hc:nc P 20 kt k with
  | false=>rw[hc] at hl;cases hl
  | true=>
  rw[hc] at hl
  simp only[cond_true] at hl
  have xp:∀ emp,(Instr.checkKey emp 10000 kt k').run P w = .ok () w:=fun emp=>OJ w emp 20 10000 (by decide) kt k k' hk hc
  obtain⟨kd,cF⟩:=Lw hc
  obtain⟨hi,rfl⟩:=hx.C8
  split at hl
  ·rename_i es c hg
   obtain⟨_,aO,c',fs,hb,lI,pD,gQ,lr⟩:=yH h hg
   split at hl
   ·rename_i j m hf
    cases hs:A9 m.key k with
    | false=>rw[hs] at hl;cases hl
    | true=>
    rw[hs] at hl
    cases hl
    obtain⟨f1,m',f2,a,b,rfl,rfl,mR,xb,yT,hmv,eV⟩:=Bt (P:=P) h hk pD lI hf cF
    have lV:aO.toList[a.length]? = some m':=by rw[mR,abQ (abe _),agi];rfl
    have MZ:Instr.sameBits 10000 m'.key k'=true:=yT.plain hk hs
    have wL:aO[a.length]? = some m':=by rw[<-adw];exact lV
    have ab0:aO.modify a.length (fun e=>{ e with key:=k',val:=v' })=(aO.toList.set a.length { m' with key:=k',val:=v' }).toArray:=by
     apply Array.ext_getElem?
     intro q
     have e1:∀ l:List MapEntry,l.toArray[q]? = l[q]? := fun l=>by simp
     refine aa0 ?_ (e1 _).symm
     rw[Array.getElem?_modify,afp,adw]
     by_cases hq:a.length=q
     ·subst hq
      have aQ:=(ab6.1 wL).1
      rw[if_pos rfl,if_pos rfl,if_pos (by simpa using aQ),wL];rfl
     ·rw[if_neg hq,if_neg hq]
    have fg:∀ (p q:List MapEntry) (x y:MapEntry),(p++x::q).set p.length y=p++y::q:=fun p q x y=>by
     rw[aib _ _ (abe _),agi];rfl
    have pW:((f1++m'::f2).set f1.length { m' with key:=k',val:=v' }).Perm (aO.toList.set a.length { m' with key:=k',val:=v' }):=by
     rw[mR,fg,fg]
     exact (aiY.trans (xb.cons _)).trans aiY.symm
    have hbm:((f1++m'::f2).set f1.length { m' with key:=k',val:=v' }).map (·.born)=(f1++m'::f2).map (·.born):=by
     rw[fg];simp
    refine⟨{ w with heap:=w.heap.setIfInBounds (e.b i) (.map (aO.toList.set a.length { m' with key:=k',val:=v' }).toArray c') },?_,
     h.Lh hg (fs:=(f1++m'::f2).set f1.length { m' with key:=k',val:=v' }) (by simpa using pW) (pD.set (m:={ m with key:=k,val:=v }) (m':={ m' with key:=k',val:=v' }) f1.length hk hv) (by rw[hbm];exact gQ) (fun x hx => ?_)⟩
    ·simp[Instr.mapUpdate,aJ hu,zv hb,xp,eV,wL,Instr.keyThatStays,MZ,FQ hb,ab0]
    ·rw[fg] at hx
     rcases abP.1 hx with hx | hx
     ·exact lr x (abG _ hx)
     ·rcases abn.1 hx with rfl | hx
      ·exact lr m' (by simp)
      ·exact lr x (by simp[hx])
   ·rename_i hf
    cases hl
    have eV:(Instr.findKey kt k' aO.toList).run P w = .ok none w:=Bt (P:=P) h hk pD lI hf cF
    refine⟨{ w with heap:=w.heap.setIfInBounds (e.b i) (.map (aO.push ⟨k',v',c'⟩) (c'+1)) },?_,h.Lh hg (fs:=fs++[⟨k',v',c'⟩]) (by rw[Array.toList_push];exact lI.append_right _) (pD.snoc (m:=⟨k,v,c⟩) (m':=⟨k',v',c'⟩) hk hv) ?_ ?_⟩
    ·simp[Instr.mapUpdate,aJ hu,zv hb,xp,eV,FQ hb]
    ·rw[adu,aem]
     refine⟨gQ,by simp,fun x hx y hy => ?_⟩
     obtain⟨z,hz,rfl⟩:=acI.1 hx
     have:=lr z hz
     simp at hy
     omega
    ·intro x hx
     rcases abP.1 hx with hx | hx
     ·have:=lr x hx;omega
     ·rw[aan] at hx;subst hx;exact agJ _
   ·cases hl
  ·cases hl
 ·cases hl
theorem acX (h:RH G F W e H w) {cp:Array TypeId} {ty:TypeId} {x k:AV} {x' k':Value} {H':Hp} (hx:VR e x x') (hk:VR e k k') (hl:BH P cp x k H=some H') :
  ∃ w',(Builtin.delete_ cp ty #[x',k']).run P w = .ok (.tuple #[]) w'/\RH G F W e H' w':=by
 unfold BH at hl
 split at hl
 ·rename_i kt el hq
  obtain⟨t0,h0,hu⟩:=abz.1 hq
  cases hc:nc P 20 kt k with
  | false=>rw[hc] at hl;cases hl
  | true=>
  rw[hc] at hl
  simp only[cond_true] at hl
  have xp:∀ emp,(Instr.checkKey emp 10000 kt k').run P w = .ok () w:=fun emp=>OJ w emp 20 10000 (by decide) kt k k' hk hc
  obtain⟨kd,cF⟩:=Lw hc
  split at hl
  ·cases hl;cases hx
   exact⟨w,by simp[Builtin.delete_,h0,aJ hu,xp],h⟩
  ·rename_i i
   obtain⟨hi,rfl⟩:=hx.C8
   split at hl
   ·rename_i es c hg
    obtain⟨_,aO,c',fs,hb,lI,pD,gQ,lr⟩:=yH h hg
    split at hl
    ·rename_i j m hf
     cases hl
     obtain⟨f1,m',f2,a,b,rfl,rfl,mR,xb,yT,hmv,eV⟩:=Bt (P:=P) h hk pD lI hf cF
     have eH:a.length<aO.size:=by have:=congrArg List.length mR;rw[ahy,aby,abx] at this;omega
     have her:(aO.eraseIdxIfInBounds a.length).toList=aO.toList.eraseIdx a.length:=by simp[Array.eraseIdxIfInBounds,eH]
     have Bq:∀ (p q:List MapEntry) (x:MapEntry),(p++x::q).eraseIdx p.length=p++q:=fun p q x=>by
      rw[List.eraseIdx_append_of_length_le (abe _),agi];rfl
     refine⟨{ w with heap:=w.heap.setIfInBounds (e.b i) (.map (aO.eraseIdxIfInBounds a.length) c') },?_,h.Lh hg (fs:=(f1++m'::f2).eraseIdx f1.length) (by rw[her,mR,Bq,Bq];exact xb) (pD.erase f1.length) ?_ (fun x hx=>lr x ?_)⟩
     ·simp[Builtin.delete_,h0,aJ hu,zv hb,xp,eV,FQ hb]
     ·rw[Bq]
      rw[adu,acJ] at gQ
      rw[adu]
      exact (agQ.1 ((aiY.nodup_iff).1 gQ)).2
     ·rw[Bq] at hx
      rcases abP.1 hx with hx | hx
      ·exact abG _ hx
      ·exact abB _ (.tail _ hx)
    ·rename_i hf
     cases hl
     have eV:(Instr.findKey kt k' aO.toList).run P w = .ok none w:=Bt (P:=P) h hk pD lI hf cF
     have aji:w.heap.setIfInBounds (e.b i) (.map aO c')=w.heap:=by
      apply Array.ext_getElem?
      intro q
      by_cases hq:e.b i=q
      ·subst hq
       have aQ:=(ab6.1 hb).1
       rw[afd aQ,hb]
      ·rw[adP hq]
     refine⟨w,?_,h⟩
     simp[Builtin.delete_,h0,aJ hu,zv hb,xp,eV,FQ hb,aji]
    ·cases hl
   ·cases hl
  ·cases hl
 ·cases hl
theorem amo (h:RH G F W e H w) {cp:Array TypeId} {ty:TypeId} {x:AV} {x':Value} {H':Hp} (hx:VR e x x') (hl:Pr P cp x H=some H') :
  ∃ w',(Builtin.clear_ cp ty #[x']).run P w = .ok (.tuple #[]) w'/\RH G F W e H' w':=by
 unfold Pr at hl
 split at hl
 ·rename_i d hq
  obtain⟨t0,h0,hu⟩:=abz.1 hq
  cases hl;cases hx
  exact⟨w,by simp[Builtin.clear_,h0,aJ hu],h⟩
 ·rename_i d hq
  obtain⟨t0,h0,hu⟩:=abz.1 hq
  cases hl;cases hx
  exact⟨w,by simp[Builtin.clear_,h0,aJ hu],h⟩
 ·rename_i d i hq
  obtain⟨t0,h0,hu⟩:=abz.1 hq
  obtain⟨hi,rfl⟩:=hx.C8
  split at hl
  ·rename_i es c hg
   cases hl
   obtain⟨_,aO,c',fs,hb,lI,pD,gQ,lr⟩:=yH h hg
   refine⟨{ w with heap:=w.heap.setIfInBounds (e.b i) (.map #[] c') },?_,h.Lh hg (fs:=[]) (List.Perm.refl _) ⟨rfl,by simp⟩ (by simp) (by simp)⟩
   simp[Builtin.clear_,h0,aJ hu,zv hb,FQ hb]
  ·cases hl
 ·rename_i el i off n a1 a2 a3 hq
  obtain⟨t0,h0,hu⟩:=abz.1 hq
  split at hl
  ·rename_i z hz
   obtain⟨inf,z0,iN,fD,wZ⟩:=xu (e:=e) hz
   rcases hx.lz with⟨o,c,hi,ho,kK,hc,iO,hn,rfl⟩ | ⟨rfl,_,a,rfl⟩
   ·cases n with
    | zero=>
     have:rep 0 z=[]:=rfl
     rw[this] at hl
     cases hl
     exact⟨w,by simp[Builtin.clear_,h0,aJ hu],h⟩
    | succ n=>
     have gE:=wZ.rep (n+1)
     obtain⟨w',nR,hr⟩:=RH.Jd (P:=P) (off:=off) (k:=0) h hl gE ho
     have hzz:(Builtin.zeroCells z0.cells (n+1)).toList=(List.replicate (n+1) z0.cells.toList).flatten:=Sx rfl _
     refine⟨w',?_,hr⟩
     simp only[Builtin.clear_,h0,adO,acP,Sem.run_bind,aJ hu,Result.andThen_ok,rr iN fD]
     rw[hzz,nR]
     simp
   ·have:rep 0 z=[]:=rfl
    rw[this] at hl
    cases hl
    exact⟨w,by simp[Builtin.clear_,h0,aJ hu],h⟩
  ·cases hl
 ·cases hl
theorem aeK (h:RH G F W e H w) {cp:Array TypeId} {ty:TypeId} {x v:AV} {x':Value} (hx:VR e x x') (hl:yB P cp x H=some v) :
  ∃ v',(Builtin.len_ cp ty #[x']).run P w = .ok v' w/\VR e v v':=by
 unfold yB at hl
 split at hl
 ·rename_i s hq
  obtain⟨t0,h0,hu⟩:=abz.1 hq
  obtain⟨b,rfl,rfl⟩:=hx.lR
  cases hl
  rw[vf]
  exact⟨_,by simp[Builtin.len_,h0,aJ hu];rfl,.int _ _⟩
 ·rename_i n el hq
  obtain⟨t0,h0,hu⟩:=abz.1 hq
  cases hl
  exact⟨_,by simp[Builtin.len_,h0,aJ hu];rfl,.int _ _⟩
 ·rename_i el hq
  obtain⟨t0,h0,hu⟩:=abz.1 hq
  cases hl;cases hx
  exact⟨_,by simp[Builtin.len_,h0,aJ hu];rfl,.int _ _⟩
 ·rename_i el a1 a2 n a3 a4 a5 hq
  obtain⟨t0,h0,hu⟩:=abz.1 hq
  cases hl
  rcases hx.lz with⟨o,c,hi,ho,kK,hc,iO,hn,rfl⟩ | ⟨rfl,_,a,rfl⟩
  ·exact⟨_,by simp[Builtin.len_,h0,aJ hu];rfl,.int _ _⟩
  ·exact⟨_,by simp[Builtin.len_,h0,aJ hu];rfl,.int _ _⟩
 ·rename_i kt el hq
  obtain⟨t0,h0,hu⟩:=abz.1 hq
  cases hl;cases hx
  exact⟨_,by simp[Builtin.len_,h0,aJ hu];rfl,.int _ _⟩
 ·rename_i kt el i hq
  obtain⟨t0,h0,hu⟩:=abz.1 hq
  obtain⟨hi,rfl⟩:=hx.C8
  split at hl
  ·rename_i es c hg
   cases hl
   obtain⟨_,aO,c',fs,hb,lI,pD,_⟩:=yH h hg
   have:es.length=aO.size:=by have h1:=pD.1;have h2:=lI.length_eq;have h3:aO.toList.length=aO.size:=ahy;omega
   rw[this]
   exact⟨_,by simp[Builtin.len_,h0,aJ hu,zv hb];rfl,.int _ _⟩
  ·cases hl
 ·rename_i a hq
  obtain⟨t0,h0,hu⟩:=abz.1 hq
  split at hl
  ·rename_i n el hua
   cases hl
   exact⟨_,by simp[Builtin.len_,h0,aJ hu,aJ hua];rfl,.int _ _⟩
  ·cases hl
 ·cases hl
theorem aja {cp:Array TypeId} {ty:TypeId} {x v:AV} {x':Value} (hx:VR e x x') (hl:I9 P cp x=some v) (w:World) :
  ∃ v',(Builtin.cap_ cp ty #[x']).run P w = .ok v' w/\VR e v v':=by
 unfold I9 at hl
 split at hl
 ·rename_i el hq
  obtain⟨t0,h0,hu⟩:=abz.1 hq
  cases hl;cases hx
  exact⟨_,by simp[Builtin.cap_,h0,aJ hu];rfl,.int _ _⟩
 ·rename_i el a1 a2 n c a5 hq
  obtain⟨t0,h0,hu⟩:=abz.1 hq
  cases hl
  rcases hx.lz with⟨o,c',hi,ho,kK,hc,iO,hn,rfl⟩ | ⟨rfl,rfl,a,rfl⟩
  ·have:=iO rfl
   subst this
   exact⟨_,by simp[Builtin.cap_,h0,aJ hu];rfl,.int _ _⟩
  ·exact⟨_,by simp[Builtin.cap_,h0,aJ hu];rfl,.int _ _⟩
 ·cases hl
theorem VG:∀ {l:List AV} {ls:List Value} {x v:AV} {x':Value},VR e x x'->aP e l ls->Af false x l=some v->∃ v',(ls.foldlM Builtin.min2 x').run P w = .ok v' w/\VR e v v'
 | [],ls,x,v,x',hx,hl,h=>by
  rw[hl.jQ];cases h;exact⟨x',by simp,hx⟩
 | y::l,ls,x,v,x',hx,hl,h=>by
  obtain⟨y',ws,rfl,hy,qG⟩:=hl.cons_inv
  unfold Af at h
  split at h
  ·rename_i z hz
   unfold P8 at hz
   split at hz
   ·cases hx.fN;cases hy.fN;cases hz
    obtain⟨v',h1,h2⟩:=VG (.int _ _) qG h
    refine⟨v',?_,h2⟩
    simp only[List.foldlM_cons,Sem.run_bind,Builtin.min2,Sem.run_pure,Result.andThen_ok]
    exact h1
   ·cases hz
  ·cases h
theorem Vm:∀ {l:List AV} {ls:List Value} {x v:AV} {x':Value},VR e x x'->aP e l ls->Af true x l=some v->∃ v',(ls.foldlM Builtin.max2 x').run P w = .ok v' w/\VR e v v'
 | [],ls,x,v,x',hx,hl,h=>by
  rw[hl.jQ];cases h;exact⟨x',by simp,hx⟩
 | y::l,ls,x,v,x',hx,hl,h=>by
  obtain⟨y',ws,rfl,hy,qG⟩:=hl.cons_inv
  unfold Af at h
  split at h
  ·rename_i z hz
   unfold P8 at hz
   split at hz
   ·cases hx.fN;cases hy.fN;cases hz
    obtain⟨v',h1,h2⟩:=Vm (.int _ _) qG h
    refine⟨v',?_,h2⟩
    simp only[List.foldlM_cons,Sem.run_bind,Builtin.max2,Sem.run_pure,Result.andThen_ok]
    exact h1
   ·cases hz
  ·cases h
end
end Go.Proofs.YtodfajmihkagnaaGreatDoor.Am
namespace Go.Proofs.YtodfajmihkagnaaGreatDoor.Am
section
variable {P:Program} {G:Nat} {F:Nat->Prop} {W:World} {e:Em} {H:Hp} {w:World}
theorem acQ (h:RH G F W e H w) {cp:Array TypeId} {ty:TypeId} {d x v:AV} {d' x':Value} {H':Hp} (hd:VR e d d') (hx:VR e x x') (hl:F9 P cp d x H=some (v,H')) :
  ∃ v' w',(Builtin.copy_ cp ty #[d',x']).run P w = .ok v' w'/\RH G F W e H' w'/\VR e v v':=by
 unfold F9 at hl
 split at hl
 ·rename_i el hq
  obtain⟨t0,h0,hu⟩:=abz.1 hq
  split at hl
  ·rename_i es xl hs eC
   have hlen:(Builtin.lenOf x').run P w = .ok xl w/\∀ m,(Nat.min xl m=0->(Builtin.firstCells es (Nat.min xl m) x').run P w = .ok #[] w):=by
    unfold JU at eC
    split at eC
    ·cases eC;cases hx;exact⟨by simp[Builtin.lenOf],fun m hm=>by simp[Builtin.firstCells]⟩
    ·cases eC
     rcases hx.lz with⟨o,c,hi,ho,kK,hc,iO,hn,rfl⟩ | ⟨rfl,_,a,rfl⟩
     ·exact⟨by simp[Builtin.lenOf],fun m hm=>by simp only[Builtin.firstCells,hm,af4];rfl⟩
     ·exact⟨by simp[Builtin.lenOf],fun m hm=>by simp only[Builtin.firstCells,hm,af4];rfl⟩
    ·cases eC
     obtain⟨b,rfl,rfl⟩:=hx.lR
     refine⟨by simp[Builtin.lenOf,vf],fun m hm => ?_⟩
     simp only[Builtin.firstCells,hm,Sem.run_pure]
     congr 1
     apply ado.1
     simp
    ·cases eC
   obtain⟨hlen,J1⟩:=hlen
   split at hl
   ·cases hl;cases hd
    refine⟨_,w,?_,h,.int _ _⟩
    have h1:=J1 0 (Nat.min_zero _)
    simp only[Builtin.copy_,h0,adO,acP,acM,Sem.run_bind,aJ hu,Result.andThen_ok,hlen,gN hs,h1]
    simp[goInt]
   ·rename_i i off dl a1 a2 a3
    cases hz:Nat.beq (Nat.min xl dl) 0 with
    | true=>
     rw[hz] at hl
     cases hl
     have hm:Nat.min xl dl=0:=abC hz
     have h1:=J1 dl hm
     rcases hd.lz with⟨o,c,hi,ho,kK,hc,iO,hn,rfl⟩ | ⟨rfl,_,a,rfl⟩
     ·refine⟨_,w,?_,h,.int _ _⟩
      simp only[Builtin.copy_,h0,adO,acP,acM,Sem.run_bind,aJ hu,Result.andThen_ok,hlen,gN hs,h1]
      simp[goInt,storeCells,hm]
     ·refine⟨_,w,?_,h,.int _ _⟩
      simp only[Builtin.copy_,h0,adO,acP,acM,Sem.run_bind,aJ hu,Result.andThen_ok,hlen,gN hs,h1]
      simp[goInt,storeCells,hm]
    | false=>
     rw[hz] at hl
     simp only[cond_false] at hl
     split at hl
     ·rename_i cs fy
      simp only[aaF,ab7] at hl
      obtain⟨H2,aD,rfl,rfl⟩:=hl
      have ON:∃ vs:List Value,aP e cs vs/\(Builtin.firstCells es (Nat.min xl dl) x').run P w = .ok vs.toArray w:=by
       unfold Qx at fy
       split at fy
       ·rename_i j aoG jl b1 b2 b3
        rcases hx.lz with⟨o,c,hi,ho,kK,hc,iO,hn,rfl⟩ | ⟨rfl,_,a,rfl⟩
        ·obtain⟨vs,q1,q2,q3⟩:=h.yU fy ho
         refine⟨vs,q1,?_⟩
         have:=run_loadCells_list (P:=P) w ⟨e.b j,o,none⟩ vs (fun k u hk=>by rw[add_lit];exact q3 k u hk)
         rw[q2] at this
         simp[Builtin.firstCells,this]
        ·cases eC
         have:Nat.min 0 dl=0:=Nat.zero_min _
         rw[this] at hz;cases hz
       ·obtain⟨b,rfl,rfl⟩:=hx.lR
        cases fy
        cases eC
        refine⟨((b.extract 0 (Nat.min (bytes b).length dl)).data.toList).map fun u=>Value.int .u8 u.toNat,?_,?_⟩
        ·have mW:=aP.Uw b 0 (Nat.min (bytes b).length dl)
         rw[abJ,afC] at mW
         rw[mW]
         refine⟨by simp[bytes],fun k u v' hu cl => ?_⟩
         simp only[bytes,aiB,ada,aaF] at hu cl
         obtain⟨p,hp,rfl⟩:=hu
         obtain⟨p',Za,rfl⟩:=cl
         rw[hp] at Za;cases Za
         exact .int _ _
        ·simp only[Builtin.firstCells,Sem.run_pure]
         congr 1
         apply ado.1
         simp
       ·cases fy
      obtain⟨vs,hvl,hfc⟩:=ON
      rcases hd.lz with⟨o,c,hi,ho,kK,hc,iO,hn,rfl⟩ | ⟨rfl,_,a,rfl⟩
      ·obtain⟨w',nR,hr⟩:=RH.Jd (P:=P) (off:=off) (k:=0) h aD hvl ho
       refine⟨_,w',?_,hr,.int _ _⟩
       simp only[Builtin.copy_,h0,adO,acP,acM,Sem.run_bind,aJ hu,Result.andThen_ok,hlen,gN hs,hfc,nR]
       simp[goInt]
      ·have:Nat.min xl 0=0:=Nat.min_zero _
       rw[this] at hz;cases hz
     ·cases hl
   ·cases hl
  ·cases hl
 ·cases hl
theorem adM {el:TypeId} (hc:P.cellsOf el=1) (count o n:Nat) (hn:o+n<=count):liesAt P P.depth el count o el n=true:=by
 have hd:P.depth=(2*(P.types.size+Made.depth)+1)+1:=rfl
 rw[hd]
 simp only[liesAt,af0]
 left
 rw[hd]
 simp[rowAt,hc,hn,sameLayout,Nat.mod_one]
theorem acR {b:Nat} (w:World):∀ (us:List UInt8) (o:Nat) (acc:ByteArray),(∀ j v,(us.map (fun u=>Value.int .u8 u.toNat))[j]? = some v->w.cell? ⟨b,o+j,none⟩=some v)->
  (loadBytes ⟨b,o,none⟩ acc us.length).run P w = .ok ⟨acc.data++us.toArray⟩ w
 | us,o,acc,h=>by
  have:=Go.Lib.run_loadBytes (P:=P) w us ⟨b,o,none⟩ acc (fun j x hj=>by rw[add_lit];exact h j _ (by simp[hj]))
  exact this
theorem aeW {b o n:Nat} {C:Array Value} {el:TypeId} {fz:Nat × Nat} (ep:w.heap[b]? = some (.cells C el fz)) (hn:¬ n=0) :
  ∃ TQ,(w.freeze ⟨b,o,none⟩ n).heap[b]? = some (.cells C el TQ)/\(∀ k,k≠b->(w.freeze ⟨b,o,none⟩ n).heap[k]? = w.heap[k]?)/\(w.freeze ⟨b,o,none⟩ n).heap.size=w.heap.size:=by
 simp only[World.freeze,if_neg hn]
 refine⟨_,CQ _ _ _ ep,fun k hk=>CR _ _ _ _ (fun q=>hk q.symm),by simp⟩
theorem ahI (h:RH G F W e H w) {cp:Array TypeId} {ty:TypeId} {p v:AV} {n:Int} {k:IntKind} {p':Value} {H':Hp} (hp:VR e p p') (hl:Kz P cp p k n H=some (v,H')) :
  ∃ v' w',(Builtin.unsafeString_ cp ty #[p',.int k n]).run P w = .ok v' w'/\RH G F W e H' w'/\VR e v v':=by
 have CT:IntKind.i64.max=9223372036854775807:=rfl
 unfold Kz at hl
 split at hl
 rotate_left
 ·cases hl
 rename_i t0 t1 lD
 obtain rfl:cp = #[t0,t1]:=ado.1 lD
 have BK:∀ q:Option Addr,n=0->(Builtin.unsafeString_ #[t0,t1] ty #[.pointer q,.int .i64 n]).run P w = .ok (.string .empty) w:=by
  intro q hn
  subst hn
  exact Go.Lib.run_unsafeString_none (P:=P) w t0 t1 ty q
 split at hl
 ·rename_i el hu
  cases hp
  split at hl
  ·rename_i hn;cases hl
   exact⟨.string .empty,w,BK _ hn,h,.str .empty⟩
  ·cases hl
 ·rename_i el i off hu
  obtain⟨o,hi,ho,rfl⟩:=hp.p8
  split at hl
  ·rename_i hn;cases hl
   exact⟨.string .empty,w,BK _ hn,h,.str .empty⟩
  ·rename_i lq
   split at hl
   ·rename_i c lo jh tc fl hg
    split at hl
    ·rename_i hc
     obtain⟨rfl,ye,kg,gT,ll⟩:=hc
     simp only[aaF,abz,ab7] at hl
     obtain⟨bs,⟨cs,fy,rY⟩,rfl,rfl⟩:=hl
     obtain⟨vs,q1,q2,q3⟩:=h.yU fy ho
     obtain⟨us,rfl,rfl⟩:=PG rY q1
     rw[ac7] at q2
     obtain⟨_,ob,ep,eg,hF⟩:=h.obj i _ hg
     cases eg with
     | cells _ _ _ _ _ C fz hn ik Mi h1 hd=>
     have aap:o+n.toNat<=C.size:=by
      obtain⟨m,hm⟩:∃ m,us.length=m+1:=⟨us.length-1,by omega⟩
      have hq:=q3 m (Value.int .u8 (us[m]'(by omega)).toNat) (by simp[hm])
      simp only[World.cell?,ep] at hq
      have qn:=(ab6.1 hq).1
      omega
     have pU:w.shape? (e.b i)=some (el,C.size):=by simp[World.shape?,ep]
     have hva:liesAt P P.depth el (C.size / P.cellsOf el) o el n.toNat=true:=by
      rw[ye,Nat.div_one];exact adM ye _ _ _ aap
     have YQ:=acR (P:=P) (b:=e.b i) w us o .empty q3
     rw[q2] at YQ
     have Li:¬ (n>IntKind.i64.max):=by rw[CT];omega
     have Wv:¬ n<0:=by omega
     have zP:Builtin.unsafeString_ #[t0,t1] ty #[.pointer (some ⟨e.b i,o,none⟩),.int .i64 n]=
      (do
       let n <-asInt (.int .i64 n)
       if n<0 then runtimePanic (.error "unsafe.String: len out of range")
       if n>IntKind.i64.max then unsupported (.unsafePointer "String: a length above the largest int")
       if n=0 then Pure.pure (.string .empty)
       else if <-variablesAt ⟨e.b i,o,none⟩ (<-elemOf t0) n.toNat then do
        let s <-loadBytes ⟨e.b i,o,none⟩ .empty n.toNat
        Go.freeze ⟨e.b i,o,none⟩ n.toNat
        Pure.pure (.string s)
       else unsupported (.unsafePointer "String: not so many bytes at ptr")) := rfl
     have zU:¬ (9223372036854775807<n):=by omega
     have mO:¬ n.toNat=0:=by omega
     obtain⟨TQ,g1,g2,g3⟩:=aeW (w:=w) (o:=o) ep mO
     refine⟨.string ⟨us.toArray⟩,w.freeze ⟨e.b i,o,none⟩ n.toNat,?_,?_,.str ⟨us.toArray⟩⟩
     ·rw[zP]
      simp[asInt,asIntOf,CT,Wv,zU,lq,elemOf,aJ hu,variablesAt,pU,hva,YQ]
     ·refine h.put hg (by simp[wr,ll]) g3 g1 g2 (.cells _ _ _ _ _ _ _ hn ik (by simp) (by simp) hd) ?_ ?_ ?_
      ·simp[World.freeze,mO]
      ·simp[World.freeze,mO]
      ·simp[World.freeze,mO]
    ·cases hl
   ·cases hl
 ·cases hl
end
end Go.Proofs.YtodfajmihkagnaaGreatDoor.Am
