/- Laws that the proof uses. -/
import Derived.Test.YtodfajmihkagnaaGreatDoorAm2
set_option maxHeartbeats 1000000
set_option linter.unusedVariables false
set_option linter.unusedSimpArgs false
namespace Go.Proofs.YtodfajmihkagnaaGreatDoor.Am
section
section
section
section
variable {P:Program}{G:Nat}{F:Nat->Prop}{W:World}{e:Em}{H:Hp}{w:World}
theorem Ux (n:Nat):∀ (r c:Nat),c<=2*n+192->Builtin.growBy n r c<=2*n+192
 | 0,c,h=>h
 | r+1,c,h=>by
  unfold Builtin.growBy
  split
  ·exact h
  ·exact Ux n r _ (by omega)
theorem nextslicecap_le {Ki cap:Nat}(h:cap<Ki):Builtin.nextslicecap Ki cap<=2*Ki+192:=by
 unfold Builtin.nextslicecap
 split
 ·omega
 ·split
  ·omega
  ·exact Ux Ki 4 cap (by omega)
theorem ag4 (b o el:Nat)(fz:Nat × Nat):∀ (vs:List Value) (k:Nat) (w:World) (C:Array Value),w.heap[b]? = some (.cells C el fz)->o+k+vs.length<=C.size->
  (∀ m,m<C.size->(decide (fz.1<=m)&&decide (m<fz.2))=false)->(∀ v∈vs,v.oneCell'=true)->
  ∃ w' C',(storeCells ⟨b,o,none⟩ vs k).run P w = .ok () w'/\w'.heap[b]? = some (.cells C' el fz)/\C'.size=C.size/\
   (∀ m,C'[m]? = if o+k<=m/\m<o+k+vs.length then vs[m-(o+k)]? else C[m]?)/\(∀ j,j≠b->w'.heap[j]? = w.heap[j]?)/\w'.heap.size=w.heap.size/\w'.os=w.os/\w'.tape=w.tape/\w'.output=w.output:=by
 intro vs
 induction vs with
 | nil=>
  intro k w C hb hs hf h1
  exact⟨w,C,by simp[storeCells],hb,rfl,fun m=>by rw[if_neg (by rw[ads];omega)],fun _ _=>rfl,rfl,rfl,rfl,rfl⟩
 | cons v vs ih=>
  intro k w C hb hs hf h1
  simp only[aaN] at hs
  have aI:o+k<C.size:=by omega
  have hc:w.cell? ⟨b,o+k,none⟩=some C[o+k]:=by simp[World.cell?,hb,aI]
  have J7:w.frozen? ⟨b,o+k,none⟩=false:=by simp only[World.frozen?,hb];exact hf _ aI
  have uQ:(w.setCell ⟨b,o+k,none⟩ v).heap[b]? = some (.cells (C.setIfInBounds (o+k) v) el fz):=by
   simp only[World.setCell];rw[Db _ _ _ hb];rfl
  obtain⟨w',C',r1,r2,r3,r4,r5,r6,r7,r8,r9⟩:=ih (k+1) _ _ uQ (by simp;omega) (by simpa using hf) (fun u hu=>h1 u (List.mem_cons_of_mem _ hu))
  refine⟨w',C',?_,r2,by simpa using r3,fun m => ?_,fun j hj => ?_,?_,r7,r8,r9⟩
  ·simp only[storeCells,Sem.run_bind,add_lit,run_store P w _ _ _ (h1 v (List.mem_cons_self ..)),hc,J7,abz,if_false,Result.andThen_ok]
   exact r1
  ·rw[r4 m]
   simp only[aaN]
   by_cases hm:m=o+k
   ·subst hm
    rw[if_neg (by omega),if_pos (by omega),agc (by omega)]
    simp
   ·by_cases hr:o+(k+1)<=m/\m<o+(k+1)+vs.length
    ·rw[if_pos hr,if_pos (by omega)]
     have:m-(o+k)=(m-(o+(k+1)))+1:=by omega
     rw[this,adL]
    ·rw[if_neg hr,if_neg (by omega),aeE (by omega)]
  ·rw[r5 j hj]
   simp only[World.setCell]
   rw[CT _ _ _ _ (fun q=>hj q.symm)]
  ·rw[r6];simp[World.setCell]
theorem RH.del (h:RH G F W e H w)(i:Nat):RH G F W e { H with h:=H.h.del i } w:=by
 have eB:∀ j o,(H.h.del i).get j=some o->H.h.get j=some o/\j≠i:=by
  intro j o hj
  rw[Tr.HW] at hj
  split at hj
  ·cases hj
  ·exact⟨hj,by assumption⟩
 exact⟨h.N,fun j o hj=>h.obj j o (eB j o hj).1,fun j k oj ok hj hk hq=>h.inj j k oj ok (eB j oj hj).1 (eB k ok hk).1 hq,h.pY,h.frame,h.os,h.tape,h.output,h.size,h.lA⟩
theorem RH.move (h:RH G F W e H w){i:Nat}{o o':AO}(hg:H.h.get i=some o)(hw:wr o=true){j:Nat}{H':Hp}(ha:Am.alloc { H with h:=H.h.del i } o'=some (j,H'))
  {oO:Obj} {w':World} (eF:w'.heap.size=w.heap.size) (hb:w'.heap[e.b i]? = some oO) (aO:∀ k,k≠e.b i->w'.heap[k]? = w.heap[k]?)
  (dK:OR (e.ext (e.b i) (e.d i) (e.n i)) j o' oO) (os:w'.os=w.os) (tape:w'.tape=w.tape) (output:w'.output=w.output) :
  j=e.N/\RH G F W (e.ext (e.b i) (e.d i) (e.n i)) H' w':=by
 obtain⟨rfl,aok,rfl⟩:=vC ha
 obtain⟨hN,ob,dP,_,hF⟩:=h.obj i o hg
 have zI:=h.N
 have hle:=Em.oX e (e.b i) (e.d i) (e.n i)
 have eB:∀ k x,((H.h.del i).put 34 H.next o').get k=some x->(k=H.next/\x=o')\/(k≠H.next/\k≠i/\H.h.get k=some x):=by
  intro k x hk
  rw[Tr.put,Tr.fj] at hk
  split at hk
  ·cases hk;exact .inl ⟨by assumption,rfl⟩
  ·rw[Tr.HW] at hk
   split at hk
   ·cases hk
   ·exact .inr ⟨by assumption,by assumption,hk⟩
 have eZ:∀ k x,H.h.get k=some x->(e.ext (e.b i) (e.d i) (e.n i)).b k=e.b k:=fun k x hk=>(hle.2 k (h.obj k x hk).1).1
 refine⟨zI.symm,?_,?_,?_,?_,?_,os.trans h.os,tape.trans h.tape,output.trans h.output,by rw[eF];exact h.size,by obtain⟨g1,g2,g3⟩:=h.lA;rw[eF,(hle.2 G g2).2.2];simp[Em.ext];omega⟩
 ·simp[Em.ext,zI]
 ·intro k x hk
  rcases eB k x hk with⟨rfl,rfl⟩ | ⟨k1,k2,k3⟩
  ·refine⟨by simp[Em.ext,zI],oO,?_,dK,?_⟩
   ·rw[<-zI,Em.mN];exact hb
   ·intro _;rw[<-zI,Em.mN];exact hF (.inl hw)
  ·obtain⟨a,pw,b2,c2,d2⟩:=h.obj k x k3
   refine⟨by simp[Em.ext];omega,pw,?_,c2.mono hle a,?_⟩
   ·rw[eZ k x k3,aO _ (fun q=>k2 (h.inj i k o x hg k3 (.inl hw) q.symm).symm)];exact b2
   ·intro Gf;rw[eZ k x k3,(hle.2 G h.lA.2.1).2.2] at Gf;rw[eZ k x k3];exact d2 Gf
 ·intro k m x y hk hm hq he
  rcases eB k x hk with⟨rfl,rfl⟩ | ⟨k1,k2,k3⟩<;>rcases eB m y hm with⟨rfl,rfl⟩ | ⟨m1,m2,m3⟩
  ·rfl
  ·rw[<-zI,Em.mN,eZ m y m3] at he
   exact absurd (h.inj i m o y hg m3 (.inl hw) he).symm m2
  ·rw[<-zI,Em.mN,eZ k x k3] at he
   exact absurd (h.inj i k o x hg k3 (.inl hw) he.symm).symm k2
  ·rw[eZ k x k3,(hle.2 G h.lA.2.1).2.2] at hq
   rw[eZ k x k3,eZ m y m3] at he
   exact h.inj k m x y k3 m3 hq he
 ·intro g jy
  obtain⟨a,b,c⟩:=h.pY g jy
  obtain⟨x,y,_⟩:=hle.2 g a
  exact⟨by simp[Em.ext];omega,x.trans b,y.trans c⟩
 ·intro k hk
  obtain⟨a,b⟩:=h.frame k hk
  refine⟨by rw[eF];exact a,?_⟩
  rw[aO k (fun q=>hF (.inl hw) (q▸hk))]
  exact b
theorem aa4 {z:Array Value}{es:Nat}(hz:z.size=es)(n:Nat):(Builtin.zeroCells z n).toList=(List.replicate n z.toList).flatten:=by
 unfold Builtin.zeroCells
 exact Tz z n
theorem anv (h:RH G F W e H w){eV:Bool}{el es n:Nat}{x:AV}{x':Value}{new:List AV}(hx:VR e x x')(hs:sz P el=some es)(hn:E9 P eV el es x H=some (n,new)) :
  ∃ nv:List Value,aQ e new nv/\nv.length=n*es/\
   (eV=true->∃ k:Int,x' = .int .i64 k/\0<=k/\k<16777216/\k.toNat=n/\∃ i z0,P.info? el=some i/\i.zero=some z0/\z0.cells.size=es/\nv=(List.replicate n z0.cells.toList).flatten)/\
   (eV=false->∀ w1:World,w1.heap=w.heap->(Builtin.lenOf x').run P w1 = .ok n w1/\(Builtin.firstCells es n x').run P w1 = .ok nv.toArray w1):=by
 unfold E9 at hn
 split at hn
 ·rename_i k
  cases hx.fF
  split at hn
  ·rename_i hk
   split at hn
   ·rename_i z hz
    split at hn
    ·rename_i yT
     cases hn
     obtain⟨i,z0,hi,fw,hl⟩:=wS (e:=e) hz
     have eF:z0.cells.size=es:=by have:=hl.1;simp at this;omega
     refine⟨_,hl.rep _,?_,fun _=>⟨k,rfl,hk.1,hk.2,rfl,i,z0,hi,fw,eF,rfl⟩,by simp⟩
     simp[eF]
    ·cases hn
   ·cases hn
  ·cases hn
 ·cases hn;cases hx
  exact⟨[],.nil e,by simp,by simp,fun _ w1 xJ=>⟨by simp[Builtin.lenOf],by simp[Builtin.firstCells]⟩⟩
 ·rename_i i off len a1 a2 a3
  simp only[aaa,acI] at hn
  obtain⟨l,hl,rfl,rfl⟩:=hn
  rcases hx.lz with⟨o,k,oB,ho,kD,xM,iE,gK,rfl⟩ | ⟨rfl,_,a,rfl⟩
  ·obtain⟨cs,h1,h2,h3⟩:=h.yp hl ho
   refine⟨cs,h1,h2,by simp,fun _ w1 xJ=>⟨by simp[Builtin.lenOf],?_⟩⟩
   have:=run_loadCells_list (P:=P) w1 ⟨e.b i,o,none⟩ cs (fun j v hj=>by rw[add_lit];have q:=h3 j v hj;unfold World.cell? at q ⊢;rw[xJ];exact q)
   rw[h2] at this
   simp[Builtin.firstCells,this]
  ·rw[ahk] at hl
   cases hl
   refine⟨[],.nil e,by simp,by simp,fun _ w1 xJ=>⟨by simp[Builtin.lenOf],?_⟩⟩
   simp[Builtin.firstCells,loadCells,loadCellsFrom]
 ·rename_i s
  obtain⟨b,rfl,rfl⟩:=hx.lP
  split at hn
  ·rename_i qO
   subst qO
   simp only[adG,acI] at hn
   obtain⟨rfl,rfl⟩:=hn
   refine⟨b.data.toList.map fun u=>Value.int .u8 u.toNat,?_,?_,by simp,fun _ w1 xJ=>⟨by simp[Builtin.lenOf,vO],?_⟩⟩
   ·refine⟨by simp[bytes],fun i v v' hv bQ => ?_⟩
    simp only[bytes,akI,adX,aaa] at hv bQ
    obtain⟨u,hu,rfl⟩:=hv
    obtain⟨u',iL,rfl⟩:=bQ
    rw[hu] at iL;cases iL
    exact .int _ _
   ·simp[bytes]
   ·simp only[Builtin.firstCells,vO]
    have:b.extract 0 b.size=b:=ByteArray.extract_zero_size
    rw[this]
    simp only[Sem.run_pure]
    congr 1
    apply adZ.1
    simp
  ·cases hn
 ·cases hn
theorem LR {bV:Array TypeId}{eV:Bool}(h:Ca P bV=some eV) :
  (bV[1]? = none/\eV=false)\/∃ t d,bV[1]? = some t/\P.underlying t=some d/\Builtin.append_.match_1 (fun _=>Bool) d (fun _=>true) (fun _=>false)=eV:=by
 unfold Ca at h
 split at h
 ·rename_i t ht
  simp only[aaa] at h
  obtain⟨d,hd,rfl⟩:=h
  refine .inr ⟨t,d,ht,hd,?_⟩
  cases d<;>rfl
 ·rename_i ht
  cases h
  exact .inl ⟨ht,rfl⟩
theorem zC {bV:Array TypeId}{ty:TypeId}{eV:Bool}{t0 el es n:Nat}{s' x':Value}{base:Option Addr}{gR mC:Nat}{nv:List Value}{i:TypeInfo}{z0:Value}
  (h0:bV[0]? = some t0) (hu:P.underlying t0=some (.slice el)) (hz:Ca P bV=some eV) (hs:sz P el=some es) (mr:P.bytesOf el<=4096)
  (hi:P.info? el=some i) (fw:i.zero=some z0) (tB:z0.cells.size=es)
  (oR:s' = .slice base gR mC) (aO:gR+n<=16777216) (o9:nv.length=n*es)
  (xz:eV=true->∃ k:Int,x' = .int .i64 k/\0<=k/\k<16777216/\k.toNat=n/\∃ i z0,P.info? el=some i/\i.zero=some z0/\z0.cells.size=es/\nv=(List.replicate n z0.cells.toList).flatten)
  (xt:eV=false->∀ w1:World,w1.heap=w.heap->(Builtin.lenOf x').run P w1 = .ok n w1/\(Builtin.firstCells es n x').run P w1 = .ok nv.toArray w1) :
  (gR+n<=mC->∀ w',(∀ a,base=some a->(storeCells (a.add (gR*es)) nv).run P w = .ok () w')->(base=none->w'=w)->
   (Builtin.append_ bV ty #[s',x']).run P w = .ok (.slice base (gR+n) mC) w')/\
  (mC<gR+n->∀ ov:List Value,(∀ w1:World,w1.heap=w.heap->(Builtin.firstCells es gR s').run P w1 = .ok ov.toArray w1)->
   ∃ c,gR+n<=c/\(Builtin.append_ bV ty #[s',x']).run P w=
    .ok (.slice (some ⟨w.heap.size,0,none⟩) (gR+n) c) { w with drawn:=w.drawn+1,heap:=w.heap.push (.cells (ov++nv++(List.replicate (c-(gR+n)) z0.cells.toList).flatten).toArray el (0,0)) }):=by
 have eF:=fun w=>gP (P:=P) hs w
 have O3:i.bytes<=4096:=by unfold Program.bytesOf at mr;rw[hi] at mr;simpa using mr
 subst oR
 have Cn:¬ (((gR+n:Nat):Int)>IntKind.i64.max):=by rw[IntKind.max_i64];omega
 have Kb:∀ c,(Builtin.zeroCells z0.cells c)=(List.replicate c z0.cells.toList).flatten.toArray:=fun c=>adZ.1 (by rw[aa4 tB])
 have Us:mC<gR+n->¬ (Builtin.nextslicecap (gR+n) mC*i.bytes>2 ^ 48):=by
  intro aI
  have h1:=nextslicecap_le aI
  have:Builtin.nextslicecap (gR+n) mC*i.bytes<=(2*16777216+192)*4096:=Nat.mul_le_mul (by omega) O3
  omega
 have Hi:(Question.appendCap (gR+n) mC el).forced=false:=rfl
 have yz:gR+n<=(Question.appendCap (gR+n) mC el).cut (w.tape w.drawn (.appendCap (gR+n) mC el)):=Nat.le_add_right _ _
 cases eV with
 | false=>
  have hf:=xt rfl
  constructor
  ·intro hle w' aC CN
   obtain⟨f1,f2⟩:=hf w rfl
   have fin:(do
     let new <-Builtin.firstCells es n x'
     match base with
     | some a=>do storeCells (a.add (gR*es)) new.toList;Pure.pure (Value.slice base (gR+n) mC)
     | x=>Pure.pure (Value.slice base (gR+n) mC):Sem Value).run P w = .ok (.slice base (gR+n) mC) w':=by
    cases base with
    | none=>simp[f2,CN rfl]
    | some a=>simp[f2,aC a rfl]
   rcases LR (P:=P) hz with⟨h1,_⟩ | ⟨t,d,h1,hd,hm⟩
   ·simp[Builtin.append_,h0,h1,aH hu,eF,f1,hle] at fin ⊢
    exact fin
   ·simp only[Builtin.append_,h0,h1,aeB,adR,adL,Sem.run_bind,aH hu,aH hd,Result.andThen_ok,eF,Sem.run_pure]
    rw[hm]
    simp[f1,hle] at fin ⊢
    exact fin
  ·intro aI ov tf
   refine⟨_,yz,?_⟩
   have hb:=Us aI
   have Jw:¬ (gR+n<=mC):=by omega
   obtain⟨f1,_⟩:=hf w rfl
   obtain⟨_,f2⟩:=hf { w with drawn:=w.drawn+1 } rfl
   have o1:=tf { w with drawn:=w.drawn+1 } rfl
   rcases LR (P:=P) hz with⟨h1,_⟩ | ⟨t,d,h1,hd,hm⟩
   ·simp only[Builtin.append_,h0,h1,aeB,adR,adL,Sem.run_bind,aH hu,Result.andThen_ok,eF,Sem.run_pure,abz,if_false,f1,if_neg Jw,pt hi]
    rw[if_neg (fun q=>Cn q.1),Sem.run_bind,pt hi,Result.andThen_ok,if_neg hb]
    simp only[Sem.run_bind,run_choose,Hi,abz,if_false,ajT,if_true,Result.andThen_ok,pt hi,run_askRoom,o1,f2,rr hi fw,Kb,newRow,run_newObj,Sem.run_pure]
    simp
   ·simp only[Builtin.append_,h0,h1,aeB,adR,adL,Sem.run_bind,aH hu,aH hd,Result.andThen_ok,eF,Sem.run_pure]
    rw[hm]
    simp only[abz,if_false,Sem.run_bind,f1,Result.andThen_ok,if_neg Jw,pt hi]
    rw[if_neg (fun q=>Cn q.1),Sem.run_bind,pt hi,Result.andThen_ok,if_neg hb]
    simp only[Sem.run_bind,run_choose,Hi,abz,if_false,ajT,if_true,Result.andThen_ok,pt hi,run_askRoom,o1,f2,rr hi fw,Kb,newRow,run_newObj,Sem.run_pure]
    simp
 | true=>
  obtain⟨k,rfl,k1,k2,k3,i2,z2,oB,Bo,aq6,ag8⟩:=xz rfl
  rw[hi] at oB;cases oB
  rw[fw] at Bo;cases Bo
  have hw:IntKind.i64.wrap k=k:=IntWalk.i64_in _ (by omega)
  have mO:¬ k*(i.bytes:Int)>2 ^ 48:=by
   have:k*(i.bytes:Int)<=16777216*4096:=Int.mul_le_mul (by omega) (by omega) (by omega) (by omega)
   omega
  have AX:¬ k<0:=by omega
  rcases LR (P:=P) hz with⟨h1,hf⟩ | ⟨t,d,h1,hd,hm⟩
  ·cases hf
  have Kv:∀ w1:World,((if n*es=0 then Pure.pure #[] else do Pure.pure (Builtin.zeroCells (<-zeroValue el).cells n)):Sem (Array Value)).run P w1 = .ok nv.toArray w1:=by
   intro w1
   by_cases lu:n*es=0
   ·rw[if_pos lu]
    have:nv=[]:=List.eq_nil_of_length_eq_zero (by omega)
    subst this;rfl
   ·rw[if_neg lu]
    simp only[Sem.run_bind,rr hi fw,Result.andThen_ok,Sem.run_pure,Kb,ag8]
  constructor
  ·intro hle w' aC CN
   have fin:(do
     let new <- (if n*es=0 then Pure.pure #[] else do Pure.pure (Builtin.zeroCells (<-zeroValue el).cells n))
     match base with
     | some a=>do storeCells (a.add (gR*es)) new.toList;Pure.pure (Value.slice base (gR+n) mC)
     | x=>Pure.pure (Value.slice base (gR+n) mC):Sem Value).run P w = .ok (.slice base (gR+n) mC) w':=by
    rw[Sem.run_bind,Kv w]
    cases base with
    | none=>simp[CN rfl]
    | some a=>simp[aC a rfl]
   simp only[Builtin.append_,h0,h1,aeB,adR,adL,Sem.run_bind,aH hu,aH hd,Result.andThen_ok,eF,Sem.run_pure]
   rw[hm]
   simp only[if_true,Sem.run_bind,asInt,asIntOf,Sem.run_pure,Result.andThen_ok,hw,if_neg AX,pt hi,if_neg mO,k3,if_pos hle,ajM,abz,if_false] at fin ⊢
   exact fin
  ·intro aI ov tf
   refine⟨_,yz,?_⟩
   have hb:=Us aI
   have Jw:¬ (gR+n<=mC):=by omega
   have o1:=tf { w with drawn:=w.drawn+1 } rfl
   have f2:=Kv { w with drawn:=w.drawn+1 }
   simp only[Builtin.append_,h0,h1,aeB,adR,adL,Sem.run_bind,aH hu,aH hd,Result.andThen_ok,eF,Sem.run_pure]
   rw[hm]
   simp only[if_true,Sem.run_bind,asInt,asIntOf,Sem.run_pure,Result.andThen_ok,hw,if_neg AX,pt hi,if_neg mO,k3,if_neg Jw,ajM,abz,if_false]
   rw[if_neg (fun q=>Cn q.1),Sem.run_bind,pt hi,Result.andThen_ok,if_neg hb]
   simp only[Sem.run_bind,run_choose,Hi,abz,if_false,Result.andThen_ok,pt hi,run_askRoom,o1,f2,rr hi fw,Kb,newRow,run_newObj,Sem.run_pure]
   simp
theorem VR.Bn {e:Em}{b i off len cap o c es:Nat}{ex:Bool}(hb:e.b i=b)(hi:i<e.N)(ho:(o:Int)=off+e.d i)(hl:len<=c)(hc:cap<=c)(hx:ex=true->c=cap)(hn:o+c*es<=e.n i) :
  VR e (.slice i off len cap ex es) (.slice (some ⟨b,o,none⟩) len c):=by
 subst hb;exact .slice i off len cap ex es o c hi ho hl hc hx hn
theorem aQ.one {new:List AV}{nv:List Value}(h:aQ e new nv)(ho:new.all ba=true):∀ v∈nv,v.oneCell'=true:=by
 intro v hv
 obtain⟨i,hi⟩:=adQ hv
 have aI:i<new.length:=by rw[<-h.1];exact (aas.1 hi).1
 have h1:=h.2 i new[i] v (aau aI) hi
 exact h1.Te (adY.1 ho _ (List.getElem_mem aI))
theorem VZ {b o gR mC es:Nat}{cs:List Value}(w:World)(hl:cs.length=gR*es)(h:∀ j v,cs[j]? = some v->w.cell? ⟨b,o+j,none⟩=some v) :
  ∀ w1:World,w1.heap=w.heap->(Builtin.firstCells es gR (.slice (some ⟨b,o,none⟩) gR mC)).run P w1 = .ok cs.toArray w1:=by
 intro w1 xJ
 have:=run_loadCells_list (P:=P) w1 ⟨b,o,none⟩ cs (fun j v hj=>by rw[add_lit];have q:=h j v hj;unfold World.cell? at q ⊢;rw[xJ];exact q)
 rw[hl] at this
 simp[Builtin.firstCells,this]
theorem ajp (h:RH G F W e H w){bV:Array TypeId}{ty:TypeId}{s x v:AV}{s' x':Value}{H':Hp}(hs:VR e s s')(hx:VR e x x')(ha:Ee P bV s x H=some (v,H')) :
  ∃ v' w' e',(Builtin.append_ bV ty #[s',x']).run P w = .ok v' w'/\e.le e'/\RH G F W e' H' w'/\VR e' v v':=by
 unfold Ee at ha
 split at ha
 rotate_left
 ·cases ha
 rename_i el eV hq hz
 obtain⟨t0,h0,hu⟩:=aa3.1 hq
 split at ha
 rotate_left
 ·cases ha
 rename_i es z dy B6
 cases hb:(Nat.ble (P.bytesOf el) 4096&&Nat.beq z.length es) with
 | false=>rw[hb] at ha;cases ha
 | true=>
 rw[hb] at ha
 simp only[cond_true] at ha
 rw[aaG,aez] at hb
 obtain⟨mr,yT⟩:=hb
 have aq1:z.length=es:=aa9 yT
 obtain⟨inf,z0,iG,fw,xf⟩:=wS (e:=e) B6
 have tB:z0.cells.size=es:=by have:=xf.1;simp at this;omega
 split at ha
 rotate_left
 ·cases ha
 rename_i n new uo
 obtain⟨nv,ic,o9,xz,xt⟩:=anv (P:=P) h hx dy uo
 split at ha
 · -- nil
  cases hs
  cases lu:Nat.beq n 0 with
  | true=>
   rw[lu] at ha
   cases ha
   have:n=0:=aa9 lu
   subst this
   obtain⟨r1,_⟩:=zC (P:=P) (w:=w) (ty:=ty) (s' := .slice none 0 0) h0 hu hz dy mr iG fw tB rfl (by omega) o9 xz xt
   exact⟨_,w,e,r1 (aaH _) w (by simp) (fun _=>rfl),e.le_refl,h,.ah⟩
  | false=>
   rw[lu] at ha
   simp only[cond_false] at ha
   cases jJ:Nat.ble n 16777216 with
   | false=>rw[jJ] at ha;cases ha
   | true=>
   rw[jJ] at ha
   simp only[cond_true] at ha
   rw[aez] at jJ
   split at ha
   ·rename_i i H2 dN
    cases ha
    have uI:0<n:=by
     rcases Nat.eq_zero_or_pos n with q | q
     ·subst q;cases lu
     ·exact q
    obtain⟨_,r2⟩:=zC (P:=P) (w:=w) (ty:=ty) (s' := .slice none 0 0) h0 hu hz dy mr iG fw tB rfl (by omega) o9 xz xt
    obtain⟨c,hc,hr⟩:=r2 (by omega) [] (fun w1 _=>by simp[Builtin.firstCells])
    rw[ad6] at hc hr
    obtain⟨e',he,g1,g2,g3,g4,ot⟩:=(h.drawn (w.drawn+1)).newRow (rest:=(List.replicate (c-n) z0.cells.toList).flatten) (fz:=(0,0)) dN ic (fun _=>rfl) (by simp)
    refine⟨_,_,e',hr,he,ot,?_⟩
    have iv:w.heap.size=e'.b i:=g2.symm
    rw[iv]
    refine .slice i 0 n n false es 0 c g1 (by rw[g3];simp) hc hc (by simp) ?_
    rw[g4]
    have:((List.replicate (c-n) z0.cells.toList).flatten).length=(c-n)*es:=by simp[tB]
    rw[aa0,o9,this,<-afA]
    have:n+(c-n)=c:=by omega
    rw[this];omega
   ·cases ha
 ·rename_i i off len cap ex aL
  cases iv:(Nat.ble (len+n) 16777216&&Nat.beq es aL&&new.all ba) with
  | false=>rw[iv] at ha;cases ha
  | true=>
  rw[iv] at ha
  simp only[cond_true] at ha
  simp only[aaG,aez] at iv
  obtain⟨⟨hle,hee⟩,Qq⟩:=iv
  have ahH:es=aL:=aa9 hee
  subst ahH
  cases hJ:Nat.ble (len+n) cap with
  | true=>
   rw[hJ] at ha
   simp only[cond_true] at ha
   rw[aez] at hJ
   split at ha
   ·rename_i H2 aC
    cases ha
    rcases hs.lz with⟨o,c,hi,ho,hl,hc,iE,hn,rfl⟩ | ⟨rfl,rfl,a,rfl⟩
    ·obtain⟨r1,_⟩:=zC (P:=P) (w:=w) (ty:=ty) (s' := .slice (some ⟨e.b i,o,none⟩) len c) h0 hu hz dy mr iG fw tB rfl (by omega) o9 xz xt
     obtain⟨w',oA,hr⟩:=RH.IS (P:=P) (off:=off+len*es) (k:=0) (o:=o+len*es) h aC ic (by push_cast;omega)
     refine⟨_,w',e,r1 (by omega) w' (fun a ha => ?_) (by simp),e.le_refl,hr,.slice _ _ _ _ _ _ _ _ hi ho (by omega) hc iE hn⟩
     cases ha
     rw[add_lit];exact oA
    ·have lu:n=0:=by omega
     subst lu
     have:new=[]:=by
      have:=ic.1
      rw[o9] at this
      exact List.eq_nil_of_length_eq_zero (by omega)
     subst this
     cases aC
     have ams:nv=[]:=ic.jP
     subst ams
     obtain⟨r1,_⟩:=zC (P:=P) (w:=w) (ty:=ty) (s' := .slice (some a) 0 0) h0 hu hz dy mr iG fw tB rfl (by omega) o9 xz xt
     exact⟨_,w,e,r1 (aaH _) w (fun a ha=>by simp[storeCells]) (by simp),e.le_refl,h,.yy ..⟩
   ·cases ha
  | false=>
   rw[hJ] at ha
   simp only[cond_false] at ha
   have ali:cap<len+n:=by
    rcases akL cap (len+n) with q | q
    ·exact q
    ·have q2:Nat.ble (len+n) cap=true:=by rw[aez];exact q
     rw[q2] at hJ;cases hJ
   cases hex:ex with
   | true=>
    rw[hex] at ha
    simp only[cond_true] at ha
    split at ha
    ·rename_i eZ hold
     split at ha
     ·rename_i j H2 dN
      cases ha
      have key:∀ (base:Addr) (c0:Nat) (ov:List Value),s' = .slice (some base) len c0->c0<len+n->aQ e eZ ov->ov.length=len*es->
        (∀ w1:World,w1.heap=w.heap->(Builtin.firstCells es len (.slice (some base) len c0)).run P w1 = .ok ov.toArray w1)->
        ∃ v' w' e',(Builtin.append_ bV ty #[s',x']).run P w = .ok v' w'/\e.le e'/\RH G F W e' H' w'/\VR e' (.slice j 0 (len+n) (len+n) false es) v':=by
       intro base c0 ov oR aI tf jg iR
       obtain⟨_,r2⟩:=zC (P:=P) (w:=w) (ty:=ty) (s':=s') h0 hu hz dy mr iG fw tB oR (by omega) o9 xz xt
       obtain⟨c,hc,hr⟩:=r2 aI ov (by rw[oR];exact iR)
       obtain⟨e',he,g1,g2,g3,g4,ot⟩:=(h.drawn (w.drawn+1)).newRow (rest:=(List.replicate (c-(len+n)) z0.cells.toList).flatten) (fz:=(0,0)) dN (tf.append ic) (fun _=>rfl) (by simp)
       refine⟨_,_,e',hr,he,ot,?_⟩
       have iv:w.heap.size=e'.b j:=g2.symm
       rw[iv]
       refine .slice j 0 (len+n) (len+n) false es 0 c g1 (by rw[g3];simp) hc hc (by simp) ?_
       rw[g4]
       have:((List.replicate (c-(len+n)) z0.cells.toList).flatten).length=(c-(len+n))*es:=by simp[tB]
       rw[aa0,aa0,o9,jg,this,<-afA,<-afA]
       have:len+n+(c-(len+n))=c:=by omega
       rw[this];omega
      rcases hs.lz with⟨o,c,hi,ho,hl,hc,iE,hn,oR⟩ | ⟨rfl,rfl,a,oR⟩
      ·obtain⟨ov,h1,h2,h3⟩:=h.yp hold ho
       exact key _ c ov oR (by have:=iE hex;omega) h1 h2 (VZ w h2 h3)
      ·rw[ahk] at hold
       cases hold
       exact key a 0 [] oR ali (.nil e) (by simp) (fun w1 _=>by simp[Builtin.firstCells,loadCells,loadCellsFrom])
     ·cases ha
    ·cases ha
   | false=>
    rw[hex] at ha
    simp only[cond_false] at ha
    split at ha
    ·rename_i c lo hi sN fl hg
     cases qG:(Nat.ble fl 1&&Nat.ble lo off&&Nat.ble (off+len*es) hi&&Nat.beq el sN) with
     | false=>rw[qG] at ha;cases ha
     | true=>
     rw[qG] at ha
     simp only[cond_true] at ha
     simp only[aaG,aez] at qG
     obtain⟨⟨⟨b1,b2⟩,b3⟩,b4⟩:=qG
     have nV:el=sN:=aa9 b4
     subst nV
     split at ha
     ·rename_i j H2 dm
      cases ha
      have aqT:new.length=n*es:=by rw[<-ic.1];exact o9
      have aqn:off+(len+n)*es=off+len*es+n*es:=by rw[afA];omega
      have VP:∀ k,(c.bZ (off+len*es) new).get k=if off+len*es<=k/\k<off+len*es+new.length then new[k-(off+len*es)]? else c.get k:=fun k=>Tr.uH _ c _ _
      have SX:∀ (base:Addr) (c0:Nat) (ov:List Value),s' = .slice (some base) len c0->c0<len+n->ov.length=len*es->
        (∀ k v,off<=k->k<off+len*es->c.get k=some v->∃ v',ov[k-off]? = some v'/\VR e v v')->
        (∀ w1:World,w1.heap=w.heap->(Builtin.firstCells es len (.slice (some base) len c0)).run P w1 = .ok ov.toArray w1)->
        ∃ v' w' e',(Builtin.append_ bV ty #[s',x']).run P w = .ok v' w'/\e.le e'/\RH G F W e' H' w'/\VR e' (.slice j off (len+n) (len+n) false es) v':=by
       intro base c0 ov oR aI jg tf iR
       obtain⟨_,r2⟩:=zC (P:=P) (w:=w) (ty:=ty) (s':=s') h0 hu hz dy mr iG fw tB oR (by omega) o9 xz xt
       obtain⟨cc,gZ,hr⟩:=r2 aI ov (by rw[oR];exact iR)
       have hd:=(h.drawn (w.drawn+1)).del i
       have hj:=(vC dm).1
       have iQ:j=e.N:=hj.trans h.N.symm
       subst iQ
       have ff:((List.replicate (cc-(len+n)) z0.cells.toList).flatten).length=(cc-(len+n))*es:=by simp[tB]
       have eF:(ov++nv++(List.replicate (cc-(len+n)) z0.cells.toList).flatten).length=cc*es:=by
        rw[aa0,aa0,o9,jg,ff,<-afA,<-afA]
        congr 1;omega
       have dK:OR (e.ext w.heap.size (-(off:Int)) (cc*es)) e.N (.cells (c.bZ (off+len*es) new) off (off+(len+n)*es) el 1) (.cells (ov++nv++(List.replicate (cc-(len+n)) z0.cells.toList).flatten).toArray el (0,0)):=by
        refine .cells _ _ _ _ _ _ _ (by rw[Em.vZ];simpa using eF) ?_ (by simp) (by simp) (fun q=>by rw[Em.mP];omega)
        intro k u tu fR hk
        rw[VP] at hk
        refine⟨k-off,by rw[Em.mP];omega,?_⟩
        simp only[aeB]
        split at hk
        ·rename_i gX
         obtain⟨u',iL,ij⟩:=ic.get hk
         refine⟨u',?_,ij.mono (Em.oX ..)⟩
         rw[abD (by rw[aa0,jg,o9];omega),ab7 (by rw[jg];omega),jg]
         rw[<-iL];congr 1;omega
        ·rename_i gX
         obtain⟨u',iL,ij⟩:=tf k u tu (by omega) hk
         refine⟨u',?_,ij.mono (Em.oX ..)⟩
         have:k-off<ov.length:=(aas.1 iL).1
         rw[abD (by rw[aa0];omega),abD this]
         exact iL
       obtain⟨_,ot⟩:=hd.alloc dm dK
       refine⟨_,_,_,hr,Em.oX ..,ot,?_⟩
       exact VR.Bn (e:=e.ext w.heap.size (-(off:Int)) (cc*es)) (Em.mN ..) (by simp[Em.ext]) (by rw[Em.mP];omega) gZ gZ (by simp) (by rw[Em.vZ];omega)
      obtain⟨hN,ob,dP,dK,hF⟩:=h.obj i _ hg
      cases dK with
      | cells _ _ _ _ _ C fz hCn gZ O2 KF hd=>
      rcases hs.lz with⟨o,c0,oB,ho,hl,hc,iE,hn,oR⟩ | ⟨rfl,rfl,a,oR⟩
      ·have hlen:len*es<=c0*es:=aeF _ hl
       by_cases gX:len+n<=c0
       · -- in place
        have mf:(len+n)*es<=c0*es:=aeF _ gX
        have aqi:(len+n)*es=len*es+n*es:=afA ..
        obtain⟨w',C',r1,r2,r3,r4,r5,r6,r7,r8,r9⟩:=ag4 (P:=P) (e.b i) (o+len*es) el fz nv 0 w C dP (by rw[o9];omega) (KF b1) (ic.one Qq)
        obtain⟨q1,_⟩:=zC (P:=P) (w:=w) (ty:=ty) (s':=s') h0 hu hz dy mr iG fw tB oR (by omega) o9 xz xt
        have hj:=(vC dm).1
        have iQ:j=e.N:=hj.trans h.N.symm
        subst iQ
        have acn:OR (e.ext (e.b i) (e.d i) (e.n i)) e.N (.cells (c.bZ (off+len*es) new) off (off+(len+n)*es) el 1) (.cells C' el fz):=by
         refine .cells _ _ _ _ _ _ _ (by rw[Em.vZ,r3,hCn]) ?_ (by simp) (fun _ k hk=>KF b1 k (by omega)) (fun q=>by rw[Em.mP];exact hd (by omega))
         intro k u tu fR hk
         rw[VP] at hk
         split at hk
         ·rename_i anV
          obtain⟨u',iL,ij⟩:=ic.get hk
          refine⟨o+(k-off),by rw[Em.mP];omega,u',?_,ij.mono (Em.oX ..)⟩
          rw[r4,if_pos (by rw[o9];omega),<-iL]
          congr 1;omega
         ·rename_i anV
          obtain⟨k2,yN,u',iL,ij⟩:=gZ k u (by omega) (by omega) hk
          refine⟨k2,by rw[Em.mP];exact yN,u',?_,ij.mono (Em.oX ..)⟩
          rw[r4,if_neg (by omega)]
          exact iL
        obtain⟨_,ot⟩:=h.move hg (by simp[wr,b1]) dm r6 r2 r5 acn r7 r8 r9
        refine⟨_,w',_,q1 gX w' (fun a ha => ?_) (by simp),Em.oX ..,ot,?_⟩
        ·cases ha
         rw[add_lit];exact r1
        ·exact VR.Bn (e:=e.ext (e.b i) (e.d i) (e.n i)) (Em.mN ..) (by simp[Em.ext]) (by rw[Em.mP];exact ho) gX gX (by simp) (by rw[Em.vZ];exact hn)
       ·refine SX _ c0 ((C.toList.drop o).take (len*es)) oR (by omega) ?_ ?_ ?_
        ·simp;omega
        ·intro k u tu fR hk
         obtain⟨k2,yN,u',iL,ij⟩:=gZ k u (by omega) (by omega) hk
         refine⟨u',?_,ij⟩
         rw[ahB,if_pos (by omega),afT,aeg,<-iL]
         congr 1;omega
        ·refine VZ w (by simp;omega) (fun m u hm => ?_)
         rw[ahB] at hm
         split at hm
         ·rw[afT,aeg] at hm
          simp[World.cell?,dP,hm]
         ·cases hm
      ·refine SX a 0 [] oR (by omega) (by simp) (fun k u tu fR hk=>by omega) (fun w1 _=>by simp[Builtin.firstCells,loadCells,loadCellsFrom])
     ·cases ha
    ·cases ha
 ·cases ha
end
end
section
variable {P:Program}{G:Nat}{F:Nat->Prop}{W:World}{e:Em}{H:Hp}{w:World}
theorem VR.abF {a b:AV}{a' b':Value}(ha:VR e a a')(hb:VR e b b')(h:Fk a b=true):a'=b'/\∀ n,Instr.sameBits n a' b'=true:=by
 unfold Fk at h
 split at h
 ·cases ha.rQ;cases hb.rQ
  simp only[beq_iff_eq] at h
  subst h;exact⟨rfl,fun n=>by simp[Instr.sameBits]⟩
 ·cases ha.fF;cases hb.fF
  simp only[aaG,decide_eq_true_eq] at h
  obtain⟨rfl,rfl⟩:=h
  exact⟨rfl,fun n=>by simp[Instr.sameBits]⟩
 ·obtain⟨p,rfl,rfl⟩:=ha.lP
  obtain⟨q,rfl,rfl⟩:=hb.lP
  have:(p==q)=true:=by rw[VM];exact h
  have Ab:p=q:=by
   have h0:(p==q)=(p.data==q.data):=by cases p;cases q;rfl
   rw[h0,beq_iff_eq] at this
   cases p;cases q;simpa using this
  subst Ab
  exact⟨rfl,fun n=>by simp[Instr.sameBits,this]⟩
 ·cases h
theorem aQ.plain:∀ {x y:List AV} {x' y':List Value},aQ e x x'->aQ e y y'->CZ x y=true->x'=y'/\∀ n,(x'.zip y').all (fun (a,b)=>Instr.sameBits n a b)=true
 | [],[],x',y',hx,hy,h=>by rw[hx.jP,hy.jP];exact⟨rfl,fun n=>rfl⟩
 | [],_::_,_,_,_,_,h=>by simp[CZ] at h
 | _::_,[],_,_,_,_,h=>by simp[CZ] at h
 | a::x,b::y,x',y',hx,hy,h=>by
  simp only[CZ,aaG] at h
  obtain⟨a',xs,rfl,ha,hx⟩:=hx.cons_inv
  obtain⟨b',ys,rfl,hb,hy⟩:=hy.cons_inv
  obtain⟨h1,h2⟩:=ha.abF hb h.1
  obtain⟨h3,h4⟩:=aQ.plain hx hy h.2
  subst h1;subst h3
  exact⟨rfl,fun n=>by simp only[List.zip_cons_cons,List.all_cons,h2 n,h4 n,Bool.and_self]⟩
theorem VR.plain {a b:AV}{a' b':Value}(ha:VR e a a')(hb:VR e b b')(h:Aj a b=true):Instr.sameBits 10000 a' b'=true:=by
 unfold Aj at h
 split at h
 ·obtain⟨x,rfl,hx⟩:=ha.vL
  obtain⟨y,rfl,hy⟩:=hb.vL
  obtain⟨h1,h2⟩:=hx.plain hy h
  have:x.size=y.size:=by have:=congrArg List.length h1;simpa using this
  simp only[Instr.sameBits,this,beq_self_eq_true,aeV]
  exact h2 9999
 ·exact (ha.abF hb h).2 _
theorem QX {α:Type}(g:α->Bool)(body:α->PUnit->Sem (ForInStep PUnit))(w:World)(hb:∀ a,g a=true->(body a ⟨⟩).run P w = .ok (.yield ⟨⟩) w) :
  ∀ l:List α,l.all g=true->(forIn l (⟨⟩:PUnit) body).run P w = .ok ⟨⟩ w
 | [],_=>by simp
 | a::l,h=>by
  simp only[List.all_cons,aaG] at h
  rw[List.forIn_cons,Sem.run_bind,hb a h.1]
  exact QX g body w hb l h.2
theorem Np (w:World)(emp:Bool):∀ (d D:Nat),d<=D->∀ (t:TypeId) (v:AV) (v':Value),VR e v v'->nc P d t v=true->(Instr.checkKey emp D t v').run P w = .ok () w:=by
 intro d
 induction d with
 | zero=>intro D _ t v v' _ h;cases h
 | succ d ih=>
  intro D hD t v v' hv h
  obtain⟨D,rfl⟩:∃ k,D=k+1:=⟨D-1,by omega⟩
  unfold nc at h
  split at h
  ·rename_i hu;simp[Instr.checkKey,aH hu]
  ·rename_i hu;simp[Instr.checkKey,aH hu]
  ·rename_i hu;simp[Instr.checkKey,aH hu]
  ·rename_i fs cs hu
   obtain⟨vs,rfl,hl⟩:=hv.vL
   have key := QX (P := P) (g := fun f : Field => if f.name ≠ "_" then (match mi P f.type cs f.offset with | some v => nc P d f.type v | none => false) else true)
    (body:=fun f Qn=>do
     if f.name ≠ "_" then
      Instr.checkKey emp D f.type (<-part f.type vs f.offset)
      Pure.pure (ForInStep.yield PUnit.unit)
     else Pure.pure (ForInStep.yield PUnit.unit)) w (by
     intro f hg
     by_cases hn : f.name = "_"
     ·simp[hn]
     ·simp only[ne_eq,hn,not_false_eq_true,if_true] at hg
      split at hg
      ·rename_i u vd
       obtain⟨u',iL,hr⟩:=y0 hl vd w
       have:=ih D (by omega) f.type u u' hr hg
       simp[hn,iL,this]
      ·cases hg) fs.toList h
   simp[Instr.checkKey,aH hu] at key ⊢
   simp[key]
  ·rename_i n el cs hu
   split at h
   ·rename_i s hs
    obtain⟨vs,rfl,hl⟩:=hv.vL
    have key:=QX (P:=P) (g:=fun i:Nat=>match mi P el cs (i*s) with | some v=>nc P d el v | none=>false)
     (body:=fun i Qn=>do
      let z <-sizeOf el
      let p <-part el vs (i*z)
      Functor.map (fun a=>ForInStep.yield PUnit.unit) (Instr.checkKey emp D el p)) w (by
      intro i hg
      split at hg
      ·rename_i u vd
       obtain⟨u',iL,hr⟩:=y0 hl vd w
       have:=ih D (by omega) el u u' hr hg
       simp[gP hs,iL,this]
      ·cases hg) (List.range' 0 n) h
    simp[Instr.checkKey,aH hu]
    exact key
   ·cases h
  ·cases h
theorem gH.cons_inv {m:ME}{es:List ME}{aL:List MapEntry}(h:gH e (m::es) aL):∃ m' r',aL=m'::r'/\VR e m.key m'.key/\VR e m.val m'.val/\gH e es r':=by
 cases aL with
 | nil=>simp[gH] at h
 | cons m' r'=>
  obtain⟨a,b⟩:=h.2 0 m m' rfl rfl
  exact⟨m',r',rfl,a,b,by simpa using h.1,fun i x y hx hy=>h.2 (i+1) x y (by simpa using hx) (by simpa using hy)⟩
theorem gH.jP {aL:List MapEntry}(h:gH e [] aL):aL=[]:=by simpa using h.1
theorem Vl (h:RH G F W e H w){t:TypeId}{k:AV}{k':Value}(hk:VR e k k'):∀ (es:List ME) (fs:List MapEntry),gH e es fs->vE P H t k es=true->∀ x∈fs,(Op.equal t k' x.key).run P w = .ok false w
 | [],fs,hm,_=>by rw[hm.jP];simp
 | m::es,fs,hm,hf=>by
  obtain⟨m',r',rfl,h1,h2,h4⟩:=hm.cons_inv
  unfold vE at hf
  split at hf
  ·rename_i heq
   have:=Hw h 20 Op.maxDepth (by decide) t k m.key k' m'.key false hk h1 heq
   intro x hx
   rcases aaY.1 hx with rfl | hx
   ·exact this
   ·exact Vl h hk es r' h4 hf x hx
  ·cases hf
def FK (P:Program)(e:Em)(w:World)(t:TypeId)(k':Value)(fs:List MapEntry)(i0:Nat):Option (Nat × ME)->Prop
 | none=>∀ x∈fs,(Op.equal t k' x.key).run P w = .ok false w
 | some (j,m)=>∃ f1 m' f2,fs=f1++m'::f2/\j=i0+f1.length/\VR e m.key m'.key/\VR e m.val m'.val/\(Op.equal t k' m'.key).run P w = .ok true w/\∀ x∈f1++f2,(Op.equal t k' x.key).run P w = .ok false w
theorem Vq (h:RH G F W e H w){t:TypeId}{k:AV}{k':Value}(hk:VR e k k'):∀ (es:List ME) (fs:List MapEntry) (i:Nat) (r:Option (Nat × ME)),gH e es fs->mz P H t k es i=some r->FK P e w t k' fs i r
 | [],fs,i,r,hm,hf=>by
  rw[hm.jP]
  cases hf
  exact fun x hx=>by cases hx
 | m::es,fs,i,r,hm,hf=>by
  obtain⟨m',r',rfl,h1,h2,h4⟩:=hm.cons_inv
  unfold mz at hf
  split at hf
  ·rename_i heq
   have:=Hw h 20 Op.maxDepth (by decide) t k m.key k' m'.key true hk h1 heq
   cases hn:vE P H t k es with
   | false=>rw[hn] at hf;cases hf
   | true=>
    rw[hn] at hf
    cases hf
    exact⟨[],m',r',rfl,rfl,h1,h2,this,fun x hx=>Vl h hk es r' h4 hn x (by simpa using hx)⟩
  ·rename_i heq
   have:=Hw h 20 Op.maxDepth (by decide) t k m.key k' m'.key false hk h1 heq
   have ih:=Vq h hk es r' (i+1) r h4 hf
   cases r with
   | none=>
    intro x hx
    rcases aaY.1 hx with rfl | hx
    ·exact this
    ·exact ih x hx
   | some x=>
    obtain⟨j,mm⟩:=x
    obtain⟨f1,n',f2,rfl,rfl,q1,q2,q3,q4⟩:=ih
    refine⟨m'::f1,n',f2,rfl,by simp only[aaN];omega,q1,q2,q3,fun x hx => ?_⟩
    rcases aaY.1 hx with rfl | hx
    ·exact this
    ·exact q4 x hx
  ·cases hf
theorem SC {t:TypeId}{k':Value}{w:World}:∀ (l:List MapEntry) (i:Nat),(∀ x∈l,(Op.equal t k' x.key).run P w = .ok false w)->(Instr.findAsking t k' l i).run P w = .ok none w
 | [],i,_=>by simp[Instr.findAsking]
 | m::l,i,h=>by
  have h1:=h m (.head _)
  have h2:=SC l (i+1) fun x hx=>h x (.tail _ hx)
  simp[Instr.findAsking,h1,h2]
theorem abv {t:TypeId}{k':Value}{w:World}{m:MapEntry}{b:List MapEntry}(hm:(Op.equal t k' m.key).run P w = .ok true w):∀ (a:List MapEntry) (i:Nat),(∀ x∈a,(Op.equal t k' x.key).run P w = .ok false w)->
  (Instr.findAsking t k' (a++m::b) i).run P w = .ok (some (i+a.length,m.val)) w
 | [],i,_=>by simp[Instr.findAsking,hm]
 | x::a,i,h=>by
  have h1:=h x (.head _)
  have h2:=abv (b:=b) hm a (i+1) fun x hx=>h x (.tail _ hx)
  rw[List.cons_append,aaN,show i+(a.length+1)=i+1+a.length by omega]
  simp[Instr.findAsking,h1,h2]
theorem Xw {d:TypeDesc}{t:TypeId}(hu:P.underlying t=some d){k':Value}(w:World):∀ (aL:List MapEntry) (i:Nat) (r r2:Option (Nat × Value)),Instr.findNow d k' aL i=some r->(Instr.findAsking t k' aL i).run P w = .ok r2 w->r=r2
 | [],i,r,r2,h1,h2=>by
  cases h1
  simp[Instr.findAsking] at h2
  exact h2
 | m::aL,i,r,r2,h1,h2=>by
  obtain⟨Vr,aqr,aqS⟩:=m
  unfold Instr.findNow at h1
  obtain⟨md,hmd⟩:∃ md,Op.maxDepth=md+1:=⟨9999,rfl⟩
  have hsn:∀ b,Instr.sameNow d k' Vr=some b->(Op.equal t k' Vr).run P w = .ok b w:=by
   intro b hb
   unfold Op.equal
   rw[hmd]
   unfold Instr.sameNow at hb
   split at hb
   ·rename_i h1 h2
    split at hb
    ·rename_i KU;cases hb;simp[Op.equalIn,aH hu,KU]
    ·cases hb
   ·rename_i h1 h2;cases hb;simp[Op.equalIn,aH hu]
   ·rename_i h1 h2;cases hb;simp[Op.equalIn,aH hu]
   ·cases hb
  split at h1
  ·rename_i hs
   cases h1
   simp[Instr.findAsking,hsn true hs] at h2
   exact h2
  ·rename_i hs
   simp[Instr.findAsking,hsn false hs] at h2
   exact Xw hu w aL (i+1) r r2 h1 h2
  ·cases h1
theorem X5 {t:TypeId}{k':Value}{l:List MapEntry}{r':Option (Nat × Value)}{d:TypeDesc}(hu:P.underlying t=some d)(eH:(Instr.findAsking t k' l 0).run P w = .ok r' w):(Instr.findKey t k' l).run P w = .ok r' w:=by
 unfold Instr.findKey
 rw[Sem.run_bind,aH hu,Result.andThen_ok]
 split
 ·rename_i r2 nM
  rw[Xw hu w l 0 r2 r' nM eH]
  simp
 ·exact eH
def FP (P:Program)(e:Em)(w:World)(t:TypeId)(k':Value)(fs l:List MapEntry):Option (Nat × ME)->Prop
 | none=>(Instr.findKey t k' l).run P w = .ok none w
 | some (j,m)=>∃ f1 m' f2 a b,fs=f1++m'::f2/\j=f1.length/\l=a++m'::b/\(f1++f2).Perm (a++b)/\VR e m.key m'.key/\VR e m.val m'.val/\(Instr.findKey t k' l).run P w = .ok (some (a.length,m'.val)) w
theorem Cq (h:RH G F W e H w){t:TypeId}{k:AV}{k':Value}(hk:VR e k k'){es:List ME}{fs l:List MapEntry}{r:Option (Nat × ME)}(hm:gH e es fs)(hp:fs.Perm l)(hf:mz P H t k es 0=some r){d:TypeDesc}(hu:P.underlying t=some d):FP P e w t k' fs l r:=by
 have hq:=Vq (P:=P) h hk es fs 0 r hm hf
 cases r with
 | none=>exact X5 hu (SC l 0 fun x hx=>hq x (hp.mem_iff.2 hx))
 | some x=>
  obtain⟨j,m⟩:=x
  obtain⟨f1,m',f2,rfl,rfl,q1,q2,q3,q4⟩:=hq
  obtain⟨a,b,rfl⟩:=List.append_of_mem (hp.mem_iff.1 (by simp:m'∈f1++m'::f2))
  have xP:(f1++f2).Perm (a++b):=((akM.symm.trans hp).trans akM).cons_inv
  refine⟨f1,m',f2,a,b,rfl,by omega,rfl,xP,q1,q2,?_⟩
  have:=abv (P:=P) (w:=w) (b:=b) q3 a 0 fun x hx=>q4 x (xP.mem_iff.2 (abA _ hx))
  rw[ad6] at this
  exact X5 hu this
end
end
section
variable {P:Program}{G:Nat}{F:Nat->Prop}{W:World}{e:Em}{H:Hp}{w:World}
theorem y9 (h:RH G F W e H w){i:Nat}{es:List ME}{c:Nat}(hg:H.h.get i=some (.map es c)):i<e.N/\∃ (aL:Array MapEntry) (c':Nat) (fs:List MapEntry),w.heap[e.b i]? = some (.map aL c')/\fs.Perm aL.toList/\gH e es fs/\(fs.map (·.born)).Nodup/\∀ x∈fs,x.born<c':=by
 obtain⟨hN,ob,dP,dK,_⟩:=h.obj i _ hg
 cases dK with
 | map _ _ aL c' fs hp hm hn hb=>exact⟨hN,aL,c',fs,dP,hp,hm,hn,hb⟩
theorem amM (h:RH G F W e H w){x:AV}{x':Value}{es:List ME}{c:Nat}(hx:VR e x x')(hm:mapOf H x=some (es,c)) :
  (x' = .map none/\es=[]/\c=0)\/∃ i aL c' fs,x = .map i/\x' = .map (some (e.b i))/\H.h.get i=some (.map es c)/\w.heap[e.b i]? = some (.map aL c')/\fs.Perm aL.toList/\gH e es fs:=by
 unfold mapOf at hm
 split at hm
 ·cases hx;cases hm;exact .inl ⟨rfl,rfl,rfl⟩
 ·rename_i i
  split at hm
  ·rename_i nI c0 hg
   cases hm
   obtain⟨hi,rfl⟩:=hx.CX
   obtain⟨_,aL,c',fs,h1,h2,h3,_⟩:=y9 h hg
   exact .inr ⟨i,aL,c',fs,rfl,rfl,hg,h1,h2,h3⟩
  ·cases hm
 ·cases hm
theorem zN {b:Nat}{aL:Array MapEntry}{c:Nat}(hb:w.heap[b]? = some (.map aL c)):(getObj b).run P w = .ok (.map aL c) w:=by simp[getObj,Sem.run,hb]
theorem Qh {kt:TypeId}{k:AV}(hc:nc P 20 kt k=true):∃ d,P.underlying kt=some d:=by
 cases hq:P.underlying kt with
 | none=>simp[nc,hq] at hc
 | some d=>exact⟨d,rfl⟩
theorem VR.pair {a b:AV}{a' b':Value}(ha:VR e a a')(hb:VR e b b'):VR e (.tuple [a,b]) (.tuple #[a',b']):=
 .tuple' (.cons ha (.cons hb (.nil e)))
theorem alv (h:RH G F W e H w){t:TypeId}{x k v:AV}{x' k':Value}{ok:Bool}(hx:VR e x x')(hk:VR e k k')(hl:pZ P t x k ok H=some v) :
  ∃ v',(Instr.lookup t x' k' ok).run P w = .ok v' w/\VR e v v':=by
 unfold pZ at hl
 split at hl
 ·rename_i kt el hu
  cases hc:nc P 20 kt k with
  | false=>rw[hc] at hl;cases hl
  | true=>
  rw[hc] at hl
  simp only[cond_true] at hl
  have xa:∀ emp,(Instr.checkKey emp 10000 kt k').run P w = .ok () w:=fun emp=>Np w emp 20 10000 (by decide) kt k k' hk hc
  obtain⟨kd,cq⟩:=Qh hc
  split at hl
  ·rename_i es c hm
   have fin:∀ (fs aL:List MapEntry),fs.Perm aL->gH e es fs->∃ r' v',(Instr.findKey kt k' aL).run P w = .ok r' w/\
     (match r' with
      | some (_,v)=>Pure.pure (if ok=true then Value.tuple #[v,Value.bool true] else v)
      | none=>Functor.map (fun a=>if ok=true then Value.tuple #[a,Value.bool false] else a) (zeroValue el):Sem Value).run P w = .ok v' w/\VR e v v':=by
    intro fs aL la o7
    split at hl
    ·rename_i j m hf
     obtain⟨f1,m',f2,a,b,_,_,_,_,_,hv,eH⟩:=Cq (P:=P) h hk o7 la hf cq
     cases hl
     cases ok with
     | true=>exact⟨_,_,eH,by simp,hv.pair (.bool true)⟩
     | false=>exact⟨_,_,eH,by simp,hv⟩
    ·rename_i hf
     have eH:(Instr.findKey kt k' aL).run P w = .ok none w:=Cq (P:=P) h hk o7 la hf cq
     simp only[aaa,aa3] at hl
     obtain⟨z,⟨z0,⟨inf,iG,fw⟩,hz⟩,rfl⟩:=hl
     have xf:VR e z z0 := .jr hz
     cases ok with
     | true=>exact⟨_,_,eH,by simp[rr iG fw],xf.pair (.bool false)⟩
     | false=>exact⟨_,_,eH,by simp[rr iG fw],xf⟩
    ·cases hl
   rcases amM h hx hm with⟨rfl,rfl,_⟩ | ⟨i,aL,c',fs,rfl,rfl,hg,hb,la,o7⟩
   ·obtain⟨r',v',h1,h2,h3⟩:=fin [] [] (List.Perm.refl _) ⟨rfl,by simp⟩
    refine⟨v',?_,h3⟩
    simp[Instr.lookup,aH hu,xa,h1]
    exact h2
   ·obtain⟨r',v',h1,h2,h3⟩:=fin fs aL.toList la o7
    refine⟨v',?_,h3⟩
    simp[Instr.lookup,aH hu,zN hb,xa,h1]
    exact h2
  ·cases hl
 ·cases hl
theorem Gq {b:Nat}{o:Obj}{aL:Array MapEntry}{c:Nat}(hb:w.heap[b]? = some (.map aL c)):(Go.setObj b o).run P w = .ok () { w with heap:=w.heap.setIfInBounds b o }:=by
 simp[Go.setObj,Sem.run,hb]
theorem RH.I3 (h:RH G F W e H w){i:Nat}{es es2:List ME}{c c2:Nat}(hg:H.h.get i=some (.map es c)){aL:Array MapEntry}{c':Nat}{fs:List MapEntry}(hp:fs.Perm aL.toList)(hm:gH e es2 fs)(hn:(fs.map (·.born)).Nodup)(hb:∀ x∈fs,x.born<c') :
  RH G F W e (Am.setObj H i (.map es2 c2)) { w with heap:=w.heap.setIfInBounds (e.b i) (.map aL c') }:=by
 obtain⟨_,nI,c0,_,mO,_⟩:=y9 h hg
 have aI:=(acH.1 mO).1
 refine h.put hg rfl (oO := .map aL c') (by simp) (by simp[aI]) (fun k hk => ?_) (.map _ _ _ _ fs hp hm hn hb) rfl rfl rfl
 simp only
 rw[aeE (fun q=>hk q.symm)]
theorem gH.snoc {es:List ME}{aL:List MapEntry}(h:gH e es aL){m:ME}{m':MapEntry}(h1:VR e m.key m'.key)(h2:VR e m.val m'.val):gH e (es++[m]) (aL++[m']):=by
 refine⟨by simp[h.1],fun i x y hx hy => ?_⟩
 by_cases hi:i<es.length
 ·rw[abD hi] at hx
  rw[abD (by rw[h.1];exact hi)] at hy
  exact h.2 i x y hx hy
 ·rw[ab7 (by omega)] at hx
  rw[ab7 (by rw[h.1];omega),h.1] at hy
  have:i-es.length=0:=by
   have:=(aas.1 hx).1
   simp at this;omega
  rw[this] at hx hy
  simp at hx hy
  subst hx;subst hy
  exact⟨h1,h2⟩
theorem gH.set {es:List ME}{aL:List MapEntry}(h:gH e es aL)(j:Nat){m:ME}{m':MapEntry}(h1:VR e m.key m'.key)(h2:VR e m.val m'.val):gH e (es.set j m) (aL.set j m'):=by
 refine⟨by simp[h.1],fun i x y hx hy => ?_⟩
 rw[agu] at hx hy
 split at hx
 ·rename_i hj
  rw[if_pos hj] at hy
  split at hx
  ·split at hy
   ·cases hx;cases hy;exact⟨h1,h2⟩
   ·cases hy
  ·cases hx
 ·rename_i hj
  rw[if_neg hj] at hy
  exact h.2 i x y hx hy
theorem gH.erase {es:List ME}{aL:List MapEntry}(h:gH e es aL)(j:Nat):gH e (es.eraseIdx j) (aL.eraseIdx j):=by
 refine⟨by simp[List.length_eraseIdx,h.1],fun i x y hx hy => ?_⟩
 rw[List.getElem?_eraseIdx] at hx hy
 split at hx
 ·rename_i hj;rw[if_pos hj] at hy;exact h.2 i x y hx hy
 ·rename_i hj;rw[if_neg hj] at hy;exact h.2 _ x y hx hy
theorem ZE (h:RH G F W e H w){t:TypeId}{x k v:AV}{x' k' v':Value}{H':Hp}(hx:VR e x x')(hk:VR e k k')(hv:VR e v v')(hl:nH P t x k v H=some H') :
  ∃ w',(Instr.mapUpdate t x' k' v').run P w = .ok () w'/\RH G F W e H' w':=by
 unfold nH at hl
 split at hl
 ·rename_i kt el i hu
  cases hc:nc P 20 kt k with
  | false=>rw[hc] at hl;cases hl
  | true=>
  rw[hc] at hl
  simp only[cond_true] at hl
  have xa:∀ emp,(Instr.checkKey emp 10000 kt k').run P w = .ok () w:=fun emp=>Np w emp 20 10000 (by decide) kt k k' hk hc
  obtain⟨kd,cq⟩:=Qh hc
  obtain⟨hi,rfl⟩:=hx.CX
  split at hl
  ·rename_i es c hg
   obtain⟨_,aL,c',fs,hb,la,o7,gU,ll⟩:=y9 h hg
   split at hl
   ·rename_i j m hf
    cases hs:Aj m.key k with
    | false=>rw[hs] at hl;cases hl
    | true=>
    rw[hs] at hl
    cases hl
    obtain⟨f1,m',f2,a,b,rfl,rfl,nF,xP,yr,hmv,eH⟩:=Cq (P:=P) h hk o7 la hf cq
    have lN:aL.toList[a.length]? = some m':=by rw[nF,ab7 (aaH _),ahF];rfl
    have RG:Instr.sameBits 10000 m'.key k'=true:=yr.plain hk hs
    have xA:aL[a.length]? = some m':=by rw[<-aeg];exact lN
    have agL:aL.modify a.length (fun e=>{ e with key:=k',val:=v' })=(aL.toList.set a.length { m' with key:=k',val:=v' }).toArray:=by
     apply Array.ext_getElem?
     intro q
     have e1:∀ l:List MapEntry,l.toArray[q]? = l[q]? := fun l=>by simp
     refine aaw ?_ (e1 _).symm
     rw[Array.getElem?_modify,agu,aeg]
     by_cases hq:a.length=q
     ·subst hq
      have aI:=(acH.1 xA).1
      rw[if_pos rfl,if_pos rfl,if_pos (by simpa using aI),xA];rfl
     ·rw[if_neg hq,if_neg hq]
    have fh:∀ (p q:List MapEntry) (x y:MapEntry),(p++x::q).set p.length y=p++y::q:=fun p q x y=>by
     rw[ajU _ _ (aaH _),ahF];rfl
    have pH:((f1++m'::f2).set f1.length { m' with key:=k',val:=v' }).Perm (aL.toList.set a.length { m' with key:=k',val:=v' }):=by
     rw[nF,fh,fh]
     exact (akM.trans (xP.cons _)).trans akM.symm
    have hbm:((f1++m'::f2).set f1.length { m' with key:=k',val:=v' }).map (·.born)=(f1++m'::f2).map (·.born):=by
     rw[fh];simp
    refine⟨{ w with heap:=w.heap.setIfInBounds (e.b i) (.map (aL.toList.set a.length { m' with key:=k',val:=v' }).toArray c') },?_,
     h.I3 hg (fs:=(f1++m'::f2).set f1.length { m' with key:=k',val:=v' }) (by simpa using pH) (o7.set (m:={ m with key:=k,val:=v }) (m':={ m' with key:=k',val:=v' }) f1.length hk hv) (by rw[hbm];exact gU) (fun x hx => ?_)⟩
    ·simp[Instr.mapUpdate,aH hu,zN hb,xa,eH,xA,Instr.keyThatStays,RG,Gq hb,agL]
    ·rw[fh] at hx
     rcases abV.1 hx with hx | hx
     ·exact ll x (abA _ hx)
     ·rcases aaY.1 hx with rfl | hx
      ·exact ll m' (by simp)
      ·exact ll x (by simp[hx])
   ·rename_i hf
    cases hl
    have eH:(Instr.findKey kt k' aL.toList).run P w = .ok none w:=Cq (P:=P) h hk o7 la hf cq
    refine⟨{ w with heap:=w.heap.setIfInBounds (e.b i) (.map (aL.push ⟨k',v',c'⟩) (c'+1)) },?_,h.I3 hg (fs:=fs++[⟨k',v',c'⟩]) (by rw[Array.toList_push];exact la.append_right _) (o7.snoc (m:=⟨k,v,c⟩) (m':=⟨k',v',c'⟩) hk hv) ?_ ?_⟩
    ·simp[Instr.mapUpdate,aH hu,zN hb,xa,eH,Gq hb]
    ·rw[ad8,aff]
     refine⟨gU,by simp,fun x hx y hy => ?_⟩
     obtain⟨z,hz,rfl⟩:=adD.1 hx
     have:=ll z hz
     simp at hy
     omega
    ·intro x hx
     rcases abV.1 hx with hx | hx
     ·have:=ll x hx;omega
     ·rw[No] at hx;subst hx;exact aif _
   ·cases hl
  ·cases hl
 ·cases hl
theorem acU (h:RH G F W e H w){bV:Array TypeId}{ty:TypeId}{x k:AV}{x' k':Value}{H':Hp}(hx:VR e x x')(hk:VR e k k')(hl:BZ P bV x k H=some H') :
  ∃ w',(Builtin.delete_ bV ty #[x',k']).run P w = .ok (.tuple #[]) w'/\RH G F W e H' w':=by
 unfold BZ at hl
 split at hl
 ·rename_i kt el hq
  obtain⟨t0,h0,hu⟩:=aa3.1 hq
  cases hc:nc P 20 kt k with
  | false=>rw[hc] at hl;cases hl
  | true=>
  rw[hc] at hl
  simp only[cond_true] at hl
  have xa:∀ emp,(Instr.checkKey emp 10000 kt k').run P w = .ok () w:=fun emp=>Np w emp 20 10000 (by decide) kt k k' hk hc
  obtain⟨kd,cq⟩:=Qh hc
  split at hl
  ·cases hl;cases hx
   exact⟨w,by simp[Builtin.delete_,h0,aH hu,xa],h⟩
  ·rename_i i
   obtain⟨hi,rfl⟩:=hx.CX
   split at hl
   ·rename_i es c hg
    obtain⟨_,aL,c',fs,hb,la,o7,gU,ll⟩:=y9 h hg
    split at hl
    ·rename_i j m hf
     cases hl
     obtain⟨f1,m',f2,a,b,rfl,rfl,nF,xP,yr,hmv,eH⟩:=Cq (P:=P) h hk o7 la hf cq
     have eF:a.length<aL.size:=by have:=congrArg List.length nF;rw[ai5,aa0,aaN] at this;omega
     have her:(aL.eraseIdxIfInBounds a.length).toList=aL.toList.eraseIdx a.length:=by simp[Array.eraseIdxIfInBounds,eF]
     have DD:∀ (p q:List MapEntry) (x:MapEntry),(p++x::q).eraseIdx p.length=p++q:=fun p q x=>by
      rw[List.eraseIdx_append_of_length_le (aaH _),ahF];rfl
     refine⟨{ w with heap:=w.heap.setIfInBounds (e.b i) (.map (aL.eraseIdxIfInBounds a.length) c') },?_,h.I3 hg (fs:=(f1++m'::f2).eraseIdx f1.length) (by rw[her,nF,DD,DD];exact xP) (o7.erase f1.length) ?_ (fun x hx=>ll x ?_)⟩
     ·simp[Builtin.delete_,h0,aH hu,zN hb,xa,eH,Gq hb]
     ·rw[DD]
      rw[ad8,adK] at gU
      rw[ad8]
      exact (aio.1 ((akM.nodup_iff).1 gU)).2
     ·rw[DD] at hx
      rcases abV.1 hx with hx | hx
      ·exact abA _ hx
      ·exact abx _ (.tail _ hx)
    ·rename_i hf
     cases hl
     have eH:(Instr.findKey kt k' aL.toList).run P w = .ok none w:=Cq (P:=P) h hk o7 la hf cq
     have ac1:w.heap.setIfInBounds (e.b i) (.map aL c')=w.heap:=by
      apply Array.ext_getElem?
      intro q
      by_cases hq:e.b i=q
      ·subst hq
       have aI:=(acH.1 hb).1
       rw[agc aI,hb]
      ·rw[aeE hq]
     refine⟨w,?_,h⟩
     simp[Builtin.delete_,h0,aH hu,zN hb,xa,eH,Gq hb,ac1]
    ·cases hl
   ·cases hl
  ·cases hl
 ·cases hl
theorem apN (h:RH G F W e H w){bV:Array TypeId}{ty:TypeId}{x:AV}{x':Value}{H':Hp}(hx:VR e x x')(hl:Q5 P bV x H=some H') :
  ∃ w',(Builtin.clear_ bV ty #[x']).run P w = .ok (.tuple #[]) w'/\RH G F W e H' w':=by
 unfold Q5 at hl
 split at hl
 ·rename_i d hq
  obtain⟨t0,h0,hu⟩:=aa3.1 hq
  cases hl;cases hx
  exact⟨w,by simp[Builtin.clear_,h0,aH hu],h⟩
 ·rename_i d hq
  obtain⟨t0,h0,hu⟩:=aa3.1 hq
  cases hl;cases hx
  exact⟨w,by simp[Builtin.clear_,h0,aH hu],h⟩
 ·rename_i d i hq
  obtain⟨t0,h0,hu⟩:=aa3.1 hq
  obtain⟨hi,rfl⟩:=hx.CX
  split at hl
  ·rename_i es c hg
   cases hl
   obtain⟨_,aL,c',fs,hb,la,o7,gU,ll⟩:=y9 h hg
   refine⟨{ w with heap:=w.heap.setIfInBounds (e.b i) (.map #[] c') },?_,h.I3 hg (fs:=[]) (List.Perm.refl _) ⟨rfl,by simp⟩ (by simp) (by simp)⟩
   simp[Builtin.clear_,h0,aH hu,zN hb,Gq hb]
  ·cases hl
 ·rename_i el i off n a1 a2 a3 hq
  obtain⟨t0,h0,hu⟩:=aa3.1 hq
  split at hl
  ·rename_i z hz
   obtain⟨inf,z0,iG,fw,xf⟩:=wS (e:=e) hz
   rcases hx.lz with⟨o,c,hi,ho,kD,hc,iE,hn,rfl⟩ | ⟨rfl,_,a,rfl⟩
   ·cases n with
    | zero=>
     have:rep 0 z=[]:=rfl
     rw[this] at hl
     cases hl
     exact⟨w,by simp[Builtin.clear_,h0,aH hu],h⟩
    | succ n=>
     have ff:=xf.rep (n+1)
     obtain⟨w',oA,hr⟩:=RH.IS (P:=P) (off:=off) (k:=0) h hl ff ho
     have hzz:(Builtin.zeroCells z0.cells (n+1)).toList=(List.replicate (n+1) z0.cells.toList).flatten:=aa4 rfl _
     refine⟨w',?_,hr⟩
     simp only[Builtin.clear_,h0,aeB,adR,Sem.run_bind,aH hu,Result.andThen_ok,rr iG fw]
     rw[hzz,oA]
     simp
   ·have:rep 0 z=[]:=rfl
    rw[this] at hl
    cases hl
    exact⟨w,by simp[Builtin.clear_,h0,aH hu],h⟩
  ·cases hl
 ·cases hl
theorem ago (h:RH G F W e H w){bV:Array TypeId}{ty:TypeId}{x v:AV}{x':Value}(hx:VR e x x')(hl:yk P bV x H=some v) :
  ∃ v',(Builtin.len_ bV ty #[x']).run P w = .ok v' w/\VR e v v':=by
 unfold yk at hl
 split at hl
 ·rename_i s hq
  obtain⟨t0,h0,hu⟩:=aa3.1 hq
  obtain⟨b,rfl,rfl⟩:=hx.lP
  cases hl
  rw[vO]
  exact⟨_,by simp[Builtin.len_,h0,aH hu];rfl,.int _ _⟩
 ·rename_i n el hq
  obtain⟨t0,h0,hu⟩:=aa3.1 hq
  cases hl
  exact⟨_,by simp[Builtin.len_,h0,aH hu];rfl,.int _ _⟩
 ·rename_i el hq
  obtain⟨t0,h0,hu⟩:=aa3.1 hq
  cases hl;cases hx
  exact⟨_,by simp[Builtin.len_,h0,aH hu];rfl,.int _ _⟩
 ·rename_i el a1 a2 n a3 a4 a5 hq
  obtain⟨t0,h0,hu⟩:=aa3.1 hq
  cases hl
  rcases hx.lz with⟨o,c,hi,ho,kD,hc,iE,hn,rfl⟩ | ⟨rfl,_,a,rfl⟩
  ·exact⟨_,by simp[Builtin.len_,h0,aH hu];rfl,.int _ _⟩
  ·exact⟨_,by simp[Builtin.len_,h0,aH hu];rfl,.int _ _⟩
 ·rename_i kt el hq
  obtain⟨t0,h0,hu⟩:=aa3.1 hq
  cases hl;cases hx
  exact⟨_,by simp[Builtin.len_,h0,aH hu];rfl,.int _ _⟩
 ·rename_i kt el i hq
  obtain⟨t0,h0,hu⟩:=aa3.1 hq
  obtain⟨hi,rfl⟩:=hx.CX
  split at hl
  ·rename_i es c hg
   cases hl
   obtain⟨_,aL,c',fs,hb,la,o7,_⟩:=y9 h hg
   have:es.length=aL.size:=by have h1:=o7.1;have h2:=la.length_eq;have h3:aL.toList.length=aL.size:=ai5;omega
   rw[this]
   exact⟨_,by simp[Builtin.len_,h0,aH hu,zN hb];rfl,.int _ _⟩
  ·cases hl
 ·rename_i a hq
  obtain⟨t0,h0,hu⟩:=aa3.1 hq
  split at hl
  ·rename_i n el hua
   cases hl
   exact⟨_,by simp[Builtin.len_,h0,aH hu,aH hua];rfl,.int _ _⟩
  ·cases hl
 ·cases hl
theorem aen {bV:Array TypeId}{ty:TypeId}{x v:AV}{x':Value}(hx:VR e x x')(hl:KV P bV x=some v)(w:World) :
  ∃ v',(Builtin.cap_ bV ty #[x']).run P w = .ok v' w/\VR e v v':=by
 unfold KV at hl
 split at hl
 ·rename_i el hq
  obtain⟨t0,h0,hu⟩:=aa3.1 hq
  cases hl;cases hx
  exact⟨_,by simp[Builtin.cap_,h0,aH hu];rfl,.int _ _⟩
 ·rename_i el a1 a2 n c a5 hq
  obtain⟨t0,h0,hu⟩:=aa3.1 hq
  cases hl
  rcases hx.lz with⟨o,c',hi,ho,kD,hc,iE,hn,rfl⟩ | ⟨rfl,rfl,a,rfl⟩
  ·have:=iE rfl
   subst this
   exact⟨_,by simp[Builtin.cap_,h0,aH hu];rfl,.int _ _⟩
  ·exact⟨_,by simp[Builtin.cap_,h0,aH hu];rfl,.int _ _⟩
 ·cases hl
theorem YY:∀ {l:List AV} {ls:List Value} {x v:AV} {x':Value},VR e x x'->aQ e l ls->AF false x l=some v->∃ v',(ls.foldlM Builtin.min2 x').run P w = .ok v' w/\VR e v v'
 | [],ls,x,v,x',hx,hl,h=>by
  rw[hl.jP];cases h;exact⟨x',by simp,hx⟩
 | y::l,ls,x,v,x',hx,hl,h=>by
  obtain⟨y',ws,rfl,hy,qA⟩:=hl.cons_inv
  unfold AF at h
  split at h
  ·rename_i z hz
   unfold Q2 at hz
   split at hz
   ·cases hx.fF;cases hy.fF;cases hz
    obtain⟨v',h1,h2⟩:=YY (.int _ _) qA h
    refine⟨v',?_,h2⟩
    simp only[List.foldlM_cons,Sem.run_bind,Builtin.min2,Sem.run_pure,Result.andThen_ok]
    exact h1
   ·cases hz
  ·cases h
theorem Vf:∀ {l:List AV} {ls:List Value} {x v:AV} {x':Value},VR e x x'->aQ e l ls->AF true x l=some v->∃ v',(ls.foldlM Builtin.max2 x').run P w = .ok v' w/\VR e v v'
 | [],ls,x,v,x',hx,hl,h=>by
  rw[hl.jP];cases h;exact⟨x',by simp,hx⟩
 | y::l,ls,x,v,x',hx,hl,h=>by
  obtain⟨y',ws,rfl,hy,qA⟩:=hl.cons_inv
  unfold AF at h
  split at h
  ·rename_i z hz
   unfold Q2 at hz
   split at hz
   ·cases hx.fF;cases hy.fF;cases hz
    obtain⟨v',h1,h2⟩:=Vf (.int _ _) qA h
    refine⟨v',?_,h2⟩
    simp only[List.foldlM_cons,Sem.run_bind,Builtin.max2,Sem.run_pure,Result.andThen_ok]
    exact h1
   ·cases hz
  ·cases h
end
end
section
variable {P:Program}{G:Nat}{F:Nat->Prop}{W:World}{e:Em}{H:Hp}{w:World}
theorem aoc (h:RH G F W e H w){bV:Array TypeId}{ty:TypeId}{d x v:AV}{d' x':Value}{H':Hp}(hd:VR e d d')(hx:VR e x x')(hl:Hc P bV d x H=some (v,H')) :
  ∃ v' w',(Builtin.copy_ bV ty #[d',x']).run P w = .ok v' w'/\RH G F W e H' w'/\VR e v v':=by
 unfold Hc at hl
 split at hl
 ·rename_i el hq
  obtain⟨t0,h0,hu⟩:=aa3.1 hq
  split at hl
  ·rename_i es xl hs dH
   have hlen:(Builtin.lenOf x').run P w = .ok xl w/\∀ m,(Nat.min xl m=0->(Builtin.firstCells es (Nat.min xl m) x').run P w = .ok #[] w):=by
    unfold IL at dH
    split at dH
    ·cases dH;cases hx;exact⟨by simp[Builtin.lenOf],fun m hm=>by simp[Builtin.firstCells]⟩
    ·cases dH
     rcases hx.lz with⟨o,c,hi,ho,kD,hc,iE,hn,rfl⟩ | ⟨rfl,_,a,rfl⟩
     ·exact⟨by simp[Builtin.lenOf],fun m hm=>by simp only[Builtin.firstCells,hm,ahk];rfl⟩
     ·exact⟨by simp[Builtin.lenOf],fun m hm=>by simp only[Builtin.firstCells,hm,ahk];rfl⟩
    ·cases dH
     obtain⟨b,rfl,rfl⟩:=hx.lP
     refine⟨by simp[Builtin.lenOf,vO],fun m hm => ?_⟩
     simp only[Builtin.firstCells,hm,Sem.run_pure]
     congr 1
     apply adZ.1
     simp
    ·cases dH
   obtain⟨hlen,II⟩:=hlen
   split at hl
   ·cases hl;cases hd
    refine⟨_,w,?_,h,.int _ _⟩
    have h1:=II 0 (Nat.min_zero _)
    simp only[Builtin.copy_,h0,aeB,adR,adL,Sem.run_bind,aH hu,Result.andThen_ok,hlen,gP hs,h1]
    simp[goInt]
   ·rename_i i off dl a1 a2 a3
    cases hz:Nat.beq (Nat.min xl dl) 0 with
    | true=>
     rw[hz] at hl
     cases hl
     have hm:Nat.min xl dl=0:=aa9 hz
     have h1:=II dl hm
     rcases hd.lz with⟨o,c,hi,ho,kD,hc,iE,hn,rfl⟩ | ⟨rfl,_,a,rfl⟩
     ·refine⟨_,w,?_,h,.int _ _⟩
      simp only[Builtin.copy_,h0,aeB,adR,adL,Sem.run_bind,aH hu,Result.andThen_ok,hlen,gP hs,h1]
      simp[goInt,storeCells,hm]
     ·refine⟨_,w,?_,h,.int _ _⟩
      simp only[Builtin.copy_,h0,aeB,adR,adL,Sem.run_bind,aH hu,Result.andThen_ok,hlen,gP hs,h1]
      simp[goInt,storeCells,hm]
    | false=>
     rw[hz] at hl
     simp only[cond_false] at hl
     split at hl
     ·rename_i cs fu
      simp only[aaa,acI] at hl
      obtain⟨H2,aC,rfl,rfl⟩:=hl
      have O4:∃ vs:List Value,aQ e cs vs/\(Builtin.firstCells es (Nat.min xl dl) x').run P w = .ok vs.toArray w:=by
       unfold MS at fu
       split at fu
       ·rename_i j aqx jl b1 b2 b3
        rcases hx.lz with⟨o,c,hi,ho,kD,hc,iE,hn,rfl⟩ | ⟨rfl,_,a,rfl⟩
        ·obtain⟨vs,q1,q2,q3⟩:=h.yp fu ho
         refine⟨vs,q1,?_⟩
         have:=run_loadCells_list (P:=P) w ⟨e.b j,o,none⟩ vs (fun k u hk=>by rw[add_lit];exact q3 k u hk)
         rw[q2] at this
         simp[Builtin.firstCells,this]
        ·cases dH
         have:Nat.min 0 dl=0:=Nat.zero_min _
         rw[this] at hz;cases hz
       ·obtain⟨b,rfl,rfl⟩:=hx.lP
        cases fu
        cases dH
        refine⟨((b.extract 0 (Nat.min (bytes b).length dl)).data.toList).map fun u=>Value.int .u8 u.toNat,?_,?_⟩
        ·have mO:=aQ.WR b 0 (Nat.min (bytes b).length dl)
         rw[ada,agR] at mO
         rw[mO]
         refine⟨by simp[bytes],fun k u v' hu bQ => ?_⟩
         simp only[bytes,akI,adX,aaa] at hu bQ
         obtain⟨p,hp,rfl⟩:=hu
         obtain⟨p',Tf,rfl⟩:=bQ
         rw[hp] at Tf;cases Tf
         exact .int _ _
        ·simp only[Builtin.firstCells,Sem.run_pure]
         congr 1
         apply adZ.1
         simp
       ·cases fu
      obtain⟨vs,hvl,hfc⟩:=O4
      rcases hd.lz with⟨o,c,hi,ho,kD,hc,iE,hn,rfl⟩ | ⟨rfl,_,a,rfl⟩
      ·obtain⟨w',oA,hr⟩:=RH.IS (P:=P) (off:=off) (k:=0) h aC hvl ho
       refine⟨_,w',?_,hr,.int _ _⟩
       simp only[Builtin.copy_,h0,aeB,adR,adL,Sem.run_bind,aH hu,Result.andThen_ok,hlen,gP hs,hfc,oA]
       simp[goInt]
      ·have:Nat.min xl 0=0:=Nat.min_zero _
       rw[this] at hz;cases hz
     ·cases hl
   ·cases hl
  ·cases hl
 ·cases hl
theorem apY {el:TypeId}(hc:P.cellsOf el=1)(count o n:Nat)(hn:o+n<=count):liesAt P P.depth el count o el n=true:=by
 have hd:P.depth=(2*(P.types.size+Made.depth)+1)+1:=rfl
 rw[hd]
 simp only[liesAt,ag6]
 left
 rw[hd]
 simp[rowAt,hc,hn,sameLayout,Nat.mod_one]
theorem ajq {b:Nat}(w:World):∀ (us:List UInt8) (o:Nat) (acc:ByteArray),(∀ j v,(us.map (fun u=>Value.int .u8 u.toNat))[j]? = some v->w.cell? ⟨b,o+j,none⟩=some v)->
  (loadBytes ⟨b,o,none⟩ acc us.length).run P w = .ok ⟨acc.data++us.toArray⟩ w
 | us,o,acc,h=>by
  have:=Go.Lib.run_loadBytes (P:=P) w us ⟨b,o,none⟩ acc (fun j x hj=>by rw[add_lit];exact h j _ (by simp[hj]))
  exact this
theorem adp {b o n:Nat}{C:Array Value}{el:TypeId}{fz:Nat × Nat}(dP:w.heap[b]? = some (.cells C el fz))(hn:¬ n=0) :
  ∃ YR,(w.freeze ⟨b,o,none⟩ n).heap[b]? = some (.cells C el YR)/\(∀ k,k≠b->(w.freeze ⟨b,o,none⟩ n).heap[k]? = w.heap[k]?)/\(w.freeze ⟨b,o,none⟩ n).heap.size=w.heap.size:=by
 simp only[World.freeze,if_neg hn]
 refine⟨_,Db _ _ _ dP,fun k hk=>CT _ _ _ _ (fun q=>hk q.symm),by simp⟩
theorem aqd (h:RH G F W e H w){bV:Array TypeId}{ty:TypeId}{p v:AV}{n:Int}{k:IntKind}{p':Value}{H':Hp}(hp:VR e p p')(hl:Kt P bV p k n H=some (v,H')) :
  ∃ v' w',(Builtin.unsafeString_ bV ty #[p',.int k n]).run P w = .ok v' w'/\RH G F W e H' w'/\VR e v v':=by
 have Cn:IntKind.i64.max=9223372036854775807:=rfl
 unfold Kt at hl
 split at hl
 rotate_left
 ·cases hl
 rename_i t0 t1 kV
 obtain rfl:bV = #[t0,t1]:=adZ.1 kV
 have CN:∀ q:Option Addr,n=0->(Builtin.unsafeString_ #[t0,t1] ty #[.pointer q,.int .i64 n]).run P w = .ok (.string .empty) w:=by
  intro q hn
  subst hn
  exact Go.Lib.run_unsafeString_none (P:=P) w t0 t1 ty q
 split at hl
 ·rename_i el hu
  cases hp
  split at hl
  ·rename_i hn;cases hl
   exact⟨.string .empty,w,CN _ hn,h,.str .empty⟩
  ·cases hl
 ·rename_i el i off hu
  obtain⟨o,hi,ho,rfl⟩:=hp.qd
  split at hl
  ·rename_i hn;cases hl
   exact⟨.string .empty,w,CN _ hn,h,.str .empty⟩
  ·rename_i lu
   split at hl
   ·rename_i c lo iS sN fl hg
    split at hl
    ·rename_i hc
     obtain⟨rfl,yY,jJ,gK,kY⟩:=hc
     simp only[aaa,aa3,acI] at hl
     obtain⟨bs,⟨cs,fu,sB⟩,rfl,rfl⟩:=hl
     obtain⟨vs,q1,q2,q3⟩:=h.yp fu ho
     obtain⟨us,rfl,rfl⟩:=Qp sB q1
     rw[adV] at q2
     obtain⟨_,ob,dP,dK,hF⟩:=h.obj i _ hg
     cases dK with
     | cells _ _ _ _ _ C fz hn gZ O2 h1 hd=>
     have abw:o+n.toNat<=C.size:=by
      obtain⟨m,hm⟩:∃ m,us.length=m+1:=⟨us.length-1,by omega⟩
      have hq:=q3 m (Value.int .u8 (us[m]'(by omega)).toNat) (by simp[hm])
      simp only[World.cell?,dP] at hq
      have pR:=(acH.1 hq).1
      omega
     have oz:w.shape? (e.b i)=some (el,C.size):=by simp[World.shape?,dP]
     have hva:liesAt P P.depth el (C.size / P.cellsOf el) o el n.toNat=true:=by
      rw[yY,Nat.div_one];exact apY yY _ _ _ abw
     have UN:=ajq (P:=P) (b:=e.b i) w us o .empty q3
     rw[q2] at UN
     have JA:¬ (n>IntKind.i64.max):=by rw[Cn];omega
     have Zv:¬ n<0:=by omega
     have zL:Builtin.unsafeString_ #[t0,t1] ty #[.pointer (some ⟨e.b i,o,none⟩),.int .i64 n]=
      (do
       let n <-asInt (.int .i64 n)
       if n<0 then runtimePanic (.error "unsafe.String: len out of range")
       if n>IntKind.i64.max then unsupported (.unsafePointer "String: a length above the largest int")
       if n=0 then Pure.pure (.string .empty)
       else if <-variablesAt ⟨e.b i,o,none⟩ (<-elemOf t0) n.toNat then do
        let s <-loadBytes ⟨e.b i,o,none⟩ .empty n.toNat
        Go.freeze ⟨e.b i,o,none⟩ n.toNat
        Pure.pure (.string s)
       else unsupported (.unsafePointer "String: not so many bytes at ptr")) := rfl
     have Ae:¬ (9223372036854775807<n):=by omega
     have mf:¬ n.toNat=0:=by omega
     obtain⟨YR,g1,g2,g3⟩:=adp (w:=w) (o:=o) dP mf
     refine⟨.string ⟨us.toArray⟩,w.freeze ⟨e.b i,o,none⟩ n.toNat,?_,?_,.str ⟨us.toArray⟩⟩
     ·rw[zL]
      simp[asInt,asIntOf,Cn,Zv,Ae,lu,elemOf,aH hu,variablesAt,oz,hva,UN]
     ·refine h.put hg (by simp[wr,kY]) g3 g1 g2 (.cells _ _ _ _ _ _ _ hn gZ (by simp) (by simp) hd) ?_ ?_ ?_
      ·simp[World.freeze,mf]
      ·simp[World.freeze,mf]
      ·simp[World.freeze,mf]
    ·cases hl
   ·cases hl
 ·cases hl
end
end Go.Proofs.YtodfajmihkagnaaGreatDoor.Am
