/- Laws that the proof uses. -/
import Derived.Test.YtehhgkgeldinkaaGreatDoorAm2
set_option maxHeartbeats 1000000
set_option linter.unusedVariables false
set_option linter.unusedSimpArgs false
namespace Go.Proofs.YtehhgkgeldinkaaGreatDoor.Am
section
section
section
section
variable {P:Program}{G:Nat}{F:Nat->Prop}{W:World}{e:Em}{H:Hp}{w:World}
theorem V9 (n:Nat):∀ (r c:Nat),c<=2*n+192->Builtin.growBy n r c<=2*n+192
 | 0,c,h=>h
 | r+1,c,h=>by
  unfold Builtin.growBy
  split
  ·exact h
  ·exact V9 n r _ (by omega)
theorem nextslicecap_le {JV cap:Nat}(h:cap<JV):Builtin.nextslicecap JV cap<=2*JV+192:=by
 unfold Builtin.nextslicecap
 split
 ·omega
 ·split
  ·omega
  ·exact V9 JV 4 cap (by omega)
theorem afL (b o el:Nat)(fz:Nat × Nat):∀ (vs:List Value) (k:Nat) (w:World) (C:Array Value),w.heap[b]? = some (.cells C el fz)->o+k+vs.length<=C.size->
  (∀ m,m<C.size->(decide (fz.1<=m)&&decide (m<fz.2))=false)->(∀ v∈vs,v.oneCell'=true)->
  ∃ w' C',(storeCells ⟨b,o,none⟩ vs k).run P w = .ok () w'/\w'.heap[b]? = some (.cells C' el fz)/\C'.size=C.size/\
   (∀ m,C'[m]? = if o+k<=m/\m<o+k+vs.length then vs[m-(o+k)]? else C[m]?)/\(∀ j,j≠b->w'.heap[j]? = w.heap[j]?)/\w'.heap.size=w.heap.size/\w'.os=w.os/\w'.tape=w.tape/\w'.output=w.output:=by
 intro vs
 induction vs with
 | nil=>
  intro k w C hb hs hf h1
  exact⟨w,C,by simp[storeCells],hb,rfl,fun m=>by rw[if_neg (by rw[abY];omega)],fun _ _=>rfl,rfl,rfl,rfl,rfl⟩
 | cons v vs ih=>
  intro k w C hb hs hf h1
  simp only[abn] at hs
  have ah:o+k<C.size:=by omega
  have hc:w.cell? ⟨b,o+k,none⟩=some C[o+k]:=by simp[World.cell?,hb,ah]
  have II:w.frozen? ⟨b,o+k,none⟩=false:=by simp only[World.frozen?,hb];exact hf _ ah
  have DM:(w.setCell ⟨b,o+k,none⟩ v).heap[b]? = some (.cells (C.setIfInBounds (o+k) v) el fz):=by
   simp only[World.setCell];rw[Hy _ _ _ hb];rfl
  obtain⟨w',C',r1,r2,r3,r4,r5,r6,r7,r8,r9⟩:=ih (k+1) _ _ DM (by simp;omega) (by simpa using hf) (fun u hu=>h1 u (List.mem_cons_of_mem _ hu))
  refine⟨w',C',?_,r2,by simpa using r3,fun m => ?_,fun j hj => ?_,?_,r7,r8,r9⟩
  ·simp only[storeCells,Sem.run_bind,add_lit,run_store P w _ _ _ (h1 v (ajg ..)),hc,II,abZ,if_false,Result.andThen_ok]
   exact r1
  ·rw[r4 m]
   simp only[abn]
   by_cases hm:m=o+k
   ·subst hm
    rw[if_neg (by omega),if_pos (by omega),aen (by omega)]
    simp
   ·by_cases hr:o+(k+1)<=m/\m<o+(k+1)+vs.length
    ·rw[if_pos hr,if_pos (by omega)]
     have:m-(o+k)=(m-(o+(k+1)))+1:=by omega
     rw[this,gk]
    ·rw[if_neg hr,if_neg (by omega),aft (by omega)]
  ·rw[r5 j hj]
   simp only[World.setCell]
   rw[Gj _ _ _ _ (fun q=>hj q.symm)]
  ·rw[r6];simp[World.setCell]
theorem RH.del (h:RH G F W e H w)(i:Nat):RH G F W e { H with h:=H.h.del i } w:=by
 have eF:∀ j o,(H.h.del i).get j=some o->H.h.get j=some o/\j≠i:=by
  intro j o hj
  rw[Tr.Sd] at hj
  split at hj
  ·cases hj
  ·exact⟨hj,by assumption⟩
 exact⟨h.N,fun j o hj=>h.obj j o (eF j o hj).1,fun j k oj ok hj hk hq=>h.inj j k oj ok (eF j oj hj).1 (eF k ok hk).1 hq,h.nW,h.frame,h.os,h.tape,h.output,h.size,h.jy⟩
theorem RH.move (h:RH G F W e H w){i:Nat}{o o':AO}(hg:H.h.get i=some o)(hw:wr o=true){j:Nat}{H':Hp}(ha:Am.alloc { H with h:=H.h.del i } o'=some (j,H'))
  {rp:Obj} {w':World} (dp:w'.heap.size=w.heap.size) (hb:w'.heap[e.b i]? = some rp) (cL:∀ k,k≠e.b i->w'.heap[k]? = w.heap[k]?)
  (dH:OR (e.ext (e.b i) (e.d i) (e.n i)) j o' rp) (os:w'.os=w.os) (tape:w'.tape=w.tape) (output:w'.output=w.output) :
  j=e.N/\RH G F W (e.ext (e.b i) (e.d i) (e.n i)) H' w':=by
 obtain⟨rfl,asl,rfl⟩:=qz ha
 obtain⟨hN,ob,dP,_,hF⟩:=h.obj i o hg
 have BA:=h.N
 have hle:=Em.nf e (e.b i) (e.d i) (e.n i)
 have eF:∀ k x,((H.h.del i).put 34 H.next o').get k=some x->(k=H.next/\x=o')\/(k≠H.next/\k≠i/\H.h.get k=some x):=by
  intro k x hk
  rw[Tr.put,Tr.fE] at hk
  split at hk
  ·cases hk;exact .inl ⟨by assumption,rfl⟩
  ·rw[Tr.Sd] at hk
   split at hk
   ·cases hk
   ·exact .inr ⟨by assumption,by assumption,hk⟩
 have old:∀ k x,H.h.get k=some x->(e.ext (e.b i) (e.d i) (e.n i)).b k=e.b k:=fun k x hk=>(hle.2 k (h.obj k x hk).1).1
 refine⟨BA.symm,?_,?_,?_,?_,?_,os.trans h.os,tape.trans h.tape,output.trans h.output,by rw[dp];exact h.size,by obtain⟨g1,g2,g3⟩:=h.jy;rw[dp,(hle.2 G g2).2.2];simp[Em.ext];omega⟩
 ·simp[Em.ext,BA]
 ·intro k x hk
  rcases eF k x hk with⟨rfl,rfl⟩ | ⟨k1,k2,k3⟩
  ·refine⟨by simp[Em.ext,BA],rp,?_,dH,?_⟩
   ·rw[<-BA,Em.jL];exact hb
   ·intro _;rw[<-BA,Em.jL];exact hF (.inl hw)
  ·obtain⟨a,nH,b2,c2,d2⟩:=h.obj k x k3
   refine⟨by simp[Em.ext];omega,nH,?_,c2.mono hle a,?_⟩
   ·rw[old k x k3,cL _ (fun q=>k2 (h.inj i k o x hg k3 (.inl hw) q.symm).symm)];exact b2
   ·intro hw2;rw[old k x k3,(hle.2 G h.jy.2.1).2.2] at hw2;rw[old k x k3];exact d2 hw2
 ·intro k m x y hk hm hq he
  rcases eF k x hk with⟨rfl,rfl⟩ | ⟨k1,k2,k3⟩<;>rcases eF m y hm with⟨rfl,rfl⟩ | ⟨m1,m2,m3⟩
  ·rfl
  ·rw[<-BA,Em.jL,old m y m3] at he
   exact absurd (h.inj i m o y hg m3 (.inl hw) he).symm m2
  ·rw[<-BA,Em.jL,old k x k3] at he
   exact absurd (h.inj i k o x hg k3 (.inl hw) he.symm).symm k2
  ·rw[old k x k3,(hle.2 G h.jy.2.1).2.2] at hq
   rw[old k x k3,old m y m3] at he
   exact h.inj k m x y k3 m3 hq he
 ·intro g HW
  obtain⟨a,b,c⟩:=h.nW g HW
  obtain⟨x,y,_⟩:=hle.2 g a
  exact⟨by simp[Em.ext];omega,x.trans b,y.trans c⟩
 ·intro k hk
  obtain⟨a,b⟩:=h.frame k hk
  refine⟨by rw[dp];exact a,?_⟩
  rw[cL k (fun q=>hF (.inl hw) (q▸hk))]
  exact b
theorem UR {z:Array Value}{es:Nat}(hz:z.size=es)(n:Nat):(Builtin.zeroCells z n).toList=(List.replicate n z.toList).flatten:=by
 unfold Builtin.zeroCells
 exact acd z n
theorem aeh (h:RH G F W e H w){il:Bool}{el es n:Nat}{x:AV}{x':Value}{new:List AV}(hx:VR e x x')(hs:sz P el=some es)(hn:G4 P il el es x H=some (n,new)) :
  ∃ nv:List Value,az e new nv/\nv.length=n*es/\
   (il=true->∃ k:Int,x' = .int .i64 k/\0<=k/\k<16777216/\k.toNat=n/\∃ i z0,P.info? el=some i/\i.zero=some z0/\z0.cells.size=es/\nv=(List.replicate n z0.cells.toList).flatten)/\
   (il=false->∀ w1:World,w1.heap=w.heap->(Builtin.lenOf x').run P w1 = .ok n w1/\(Builtin.firstCells es n x').run P w1 = .ok nv.toArray w1):=by
 unfold G4 at hn
 split at hn
 ·rename_i k
  cases hx.gQ
  split at hn
  ·rename_i hk
   split at hn
   ·rename_i z hz
    split at hn
    ·rename_i rB
     cases hn
     obtain⟨i,z0,hi,fQ,hl⟩:=xI (e:=e) hz
     have dp:z0.cells.size=es:=by have:=hl.1;simp at this;omega
     refine⟨_,hl.rep _,?_,fun _=>⟨k,rfl,hk.1,hk.2,rfl,i,z0,hi,fQ,dp,rfl⟩,by simp⟩
     simp[dp]
    ·cases hn
   ·cases hn
  ·cases hn
 ·cases hn;cases hx
  exact⟨[],.nil e,by simp,by simp,fun _ w1 DQ=>⟨by simp[Builtin.lenOf],by simp[Builtin.firstCells]⟩⟩
 ·rename_i i off len a1 a2 a3
  simp only[yB,abT] at hn
  obtain⟨l,hl,rfl,rfl⟩:=hn
  rcases hx.lM with⟨o,k,xV,ho,oX,RI,gK,EY,rfl⟩ | ⟨rfl,_,a,rfl⟩
  ·obtain⟨cs,h1,h2,h3⟩:=h.AT hl ho
   refine⟨cs,h1,h2,by simp,fun _ w1 DQ=>⟨by simp[Builtin.lenOf],?_⟩⟩
   have:=run_loadCells_list (P:=P) w1 ⟨e.b i,o,none⟩ cs (fun j v hj=>by rw[add_lit];have q:=h3 j v hj;unfold World.cell? at q ⊢;rw[DQ];exact q)
   rw[h2] at this
   simp[Builtin.firstCells,this]
  ·rw[afB] at hl
   cases hl
   refine⟨[],.nil e,by simp,by simp,fun _ w1 DQ=>⟨by simp[Builtin.lenOf],?_⟩⟩
   simp[Builtin.firstCells,loadCells,loadCellsFrom]
 ·rename_i s
  obtain⟨b,rfl,rfl⟩:=hx.lj
  split at hn
  ·rename_i mE
   subst mE
   simp only[acS,abT] at hn
   obtain⟨rfl,rfl⟩:=hn
   refine⟨b.data.toList.map fun u=>Value.int .u8 u.toNat,?_,?_,by simp,fun _ w1 DQ=>⟨by simp[Builtin.lenOf,wy],?_⟩⟩
   ·refine⟨by simp[bytes],fun i v v' hv cQ => ?_⟩
    simp only[bytes,agx,adh,yB] at hv cQ
    obtain⟨u,hu,rfl⟩:=hv
    obtain⟨u',jE,rfl⟩:=cQ
    rw[hu] at jE;cases jE
    exact .int _ _
   ·simp[bytes]
   ·simp only[Builtin.firstCells,wy]
    have:b.extract 0 b.size=b:=ByteArray.extract_zero_size
    rw[this]
    simp only[Sem.run_pure]
    congr 1
    apply adl.1
    simp
  ·cases hn
 ·cases hn
theorem S0 {dq:Array TypeId}{il:Bool}(h:EM P dq=some il) :
  (dq[1]? = none/\il=false)\/∃ t d,dq[1]? = some t/\P.underlying t=some d/\Builtin.append_.match_1 (fun _=>Bool) d (fun _=>true) (fun _=>false)=il:=by
 unfold EM at h
 split at h
 ·rename_i t ht
  simp only[yB] at h
  obtain⟨d,hd,rfl⟩:=h
  refine .inr ⟨t,d,ht,hd,?_⟩
  cases d<;>rfl
 ·rename_i ht
  cases h
  exact .inl ⟨ht,rfl⟩
theorem CA {dq:Array TypeId}{ty:TypeId}{il:Bool}{t0 el es n:Nat}{s' x':Value}{base:Option Addr}{ir mG:Nat}{nv:List Value}{i:TypeInfo}{z0:Value}
  (h0:dq[0]? = some t0) (hu:P.underlying t0=some (.slice el)) (hz:EM P dq=some il) (hs:sz P el=some es) (oq:P.bytesOf el<=4096)
  (hi:P.info? el=some i) (fQ:i.zero=some z0) (tU:z0.cells.size=es)
  (pV:s' = .slice base ir mG) (cL:ir+n<=16777216) (pQ:nv.length=n*es)
  (xB:il=true->∃ k:Int,x' = .int .i64 k/\0<=k/\k<16777216/\k.toNat=n/\∃ i z0,P.info? el=some i/\i.zero=some z0/\z0.cells.size=es/\nv=(List.replicate n z0.cells.toList).flatten)
  (xy:il=false->∀ w1:World,w1.heap=w.heap->(Builtin.lenOf x').run P w1 = .ok n w1/\(Builtin.firstCells es n x').run P w1 = .ok nv.toArray w1) :
  (ir+n<=mG->∀ w',(∀ a,base=some a->(storeCells (a.add (ir*es)) nv).run P w = .ok () w')->(base=none->w'=w)->
   (Builtin.append_ dq ty #[s',x']).run P w = .ok (.slice base (ir+n) mG) w')/\
  (mG<ir+n->∀ ov:List Value,(∀ w1:World,w1.heap=w.heap->(Builtin.firstCells es ir s').run P w1 = .ok ov.toArray w1)->
   ∃ c,ir+n<=c/\(Builtin.append_ dq ty #[s',x']).run P w=
    .ok (.slice (some ⟨w.heap.size,0,none⟩) (ir+n) c) { w with drawn:=w.drawn+1,heap:=w.heap.push (.cells (ov++nv++(List.replicate (c-(ir+n)) z0.cells.toList).flatten).toArray el (0,0)) }):=by
 have dp:=fun w=>gT (P:=P) hs w
 have OI:i.bytes<=4096:=by unfold Program.bytesOf at oq;rw[hi] at oq;simpa using oq
 subst pV
 have uu:¬ (((ir+n:Nat):Int)>IntKind.i64.max):=by rw[IntKind.max_i64];omega
 have I1:∀ c,(Builtin.zeroCells z0.cells c)=(List.replicate c z0.cells.toList).flatten.toArray:=fun c=>adl.1 (by rw[UR tU])
 have ZQ:mG<ir+n->¬ (Builtin.nextslicecap (ir+n) mG*i.bytes>2 ^ 48):=by
  intro ah
  have h1:=nextslicecap_le ah
  have:Builtin.nextslicecap (ir+n) mG*i.bytes<=(2*16777216+192)*4096:=Nat.mul_le_mul (by omega) OI
  omega
 have F2:(Question.appendCap (ir+n) mG el).forced=false:=rfl
 have hcut:ir+n<=(Question.appendCap (ir+n) mG el).cut (w.tape w.drawn (.appendCap (ir+n) mG el)):=Nat.le_add_right _ _
 cases il with
 | false=>
  have hf:=xy rfl
  constructor
  ·intro hle w' fW Ea
   obtain⟨f1,f2⟩:=hf w rfl
   have fin:(do
     let new <-Builtin.firstCells es n x'
     match base with
     | some a=>do storeCells (a.add (ir*es)) new.toList;Pure.pure (Value.slice base (ir+n) mG)
     | x=>Pure.pure (Value.slice base (ir+n) mG):Sem Value).run P w = .ok (.slice base (ir+n) mG) w':=by
    cases base with
    | none=>simp[f2,Ea rfl]
    | some a=>simp[f2,fW a rfl]
   rcases S0 (P:=P) hz with⟨h1,_⟩ | ⟨t,d,h1,hd,hm⟩
   ·simp[Builtin.append_,h0,h1,au hu,dp,f1,hle] at fin ⊢
    exact fin
   ·simp only[Builtin.append_,h0,h1,ad0,nq,gk,Sem.run_bind,au hu,au hd,Result.andThen_ok,dp,Sem.run_pure]
    rw[hm]
    simp[f1,hle] at fin ⊢
    exact fin
  ·intro ah ov BZ
   refine⟨_,hcut,?_⟩
   have hb:=ZQ ah
   have Lu:¬ (ir+n<=mG):=by omega
   obtain⟨f1,_⟩:=hf w rfl
   obtain⟨_,f2⟩:=hf { w with drawn:=w.drawn+1 } rfl
   have o1:=BZ { w with drawn:=w.drawn+1 } rfl
   rcases S0 (P:=P) hz with⟨h1,_⟩ | ⟨t,d,h1,hd,hm⟩
   ·simp only[Builtin.append_,h0,h1,ad0,nq,gk,Sem.run_bind,au hu,Result.andThen_ok,dp,Sem.run_pure,abZ,if_false,f1,if_neg Lu,pT hi]
    rw[if_neg (fun q=>uu q.1),Sem.run_bind,pT hi,Result.andThen_ok,if_neg hb]
    simp only[Sem.run_bind,run_choose,F2,abZ,if_false,aag,if_true,Result.andThen_ok,pT hi,run_askRoom,o1,f2,qT hi fQ,I1,newRow,run_newObj,Sem.run_pure]
    simp
   ·simp only[Builtin.append_,h0,h1,ad0,nq,gk,Sem.run_bind,au hu,au hd,Result.andThen_ok,dp,Sem.run_pure]
    rw[hm]
    simp only[abZ,if_false,Sem.run_bind,f1,Result.andThen_ok,if_neg Lu,pT hi]
    rw[if_neg (fun q=>uu q.1),Sem.run_bind,pT hi,Result.andThen_ok,if_neg hb]
    simp only[Sem.run_bind,run_choose,F2,abZ,if_false,aag,if_true,Result.andThen_ok,pT hi,run_askRoom,o1,f2,qT hi fQ,I1,newRow,run_newObj,Sem.run_pure]
    simp
 | true=>
  obtain⟨k,rfl,k1,k2,k3,i2,z2,xV,Bx,asI,amE⟩:=xB rfl
  rw[hi] at xV;cases xV
  rw[fQ] at Bx;cases Bx
  have hw:IntKind.i64.wrap k=k:=IntWalk.i64_in _ (by omega)
  have je:¬ k*(i.bytes:Int)>2 ^ 48:=by
   have:k*(i.bytes:Int)<=16777216*4096:=Int.mul_le_mul (by omega) (by omega) (by omega) (by omega)
   omega
  have xt:¬ k<0:=by omega
  rcases S0 (P:=P) hz with⟨h1,hf⟩ | ⟨t,d,h1,hd,hm⟩
  ·cases hf
  have Eh:∀ w1:World,((if n*es=0 then Pure.pure #[] else do Pure.pure (Builtin.zeroCells (<-zeroValue el).cells n)):Sem (Array Value)).run P w1 = .ok nv.toArray w1:=by
   intro w1
   by_cases lP:n*es=0
   ·rw[if_pos lP]
    have:nv=[]:=agG (by omega)
    subst this;rfl
   ·rw[if_neg lP]
    simp only[Sem.run_bind,qT hi fQ,Result.andThen_ok,Sem.run_pure,I1,amE]
  constructor
  ·intro hle w' fW Ea
   have fin:(do
     let new <- (if n*es=0 then Pure.pure #[] else do Pure.pure (Builtin.zeroCells (<-zeroValue el).cells n))
     match base with
     | some a=>do storeCells (a.add (ir*es)) new.toList;Pure.pure (Value.slice base (ir+n) mG)
     | x=>Pure.pure (Value.slice base (ir+n) mG):Sem Value).run P w = .ok (.slice base (ir+n) mG) w':=by
    rw[Sem.run_bind,Eh w]
    cases base with
    | none=>simp[Ea rfl]
    | some a=>simp[fW a rfl]
   simp only[Builtin.append_,h0,h1,ad0,nq,gk,Sem.run_bind,au hu,au hd,Result.andThen_ok,dp,Sem.run_pure]
   rw[hm]
   simp only[if_true,Sem.run_bind,asInt,asIntOf,Sem.run_pure,Result.andThen_ok,hw,if_neg xt,pT hi,if_neg je,k3,if_pos hle,aat,abZ,if_false] at fin ⊢
   exact fin
  ·intro ah ov BZ
   refine⟨_,hcut,?_⟩
   have hb:=ZQ ah
   have Lu:¬ (ir+n<=mG):=by omega
   have o1:=BZ { w with drawn:=w.drawn+1 } rfl
   have f2:=Eh { w with drawn:=w.drawn+1 }
   simp only[Builtin.append_,h0,h1,ad0,nq,gk,Sem.run_bind,au hu,au hd,Result.andThen_ok,dp,Sem.run_pure]
   rw[hm]
   simp only[if_true,Sem.run_bind,asInt,asIntOf,Sem.run_pure,Result.andThen_ok,hw,if_neg xt,pT hi,if_neg je,k3,if_neg Lu,aat,abZ,if_false]
   rw[if_neg (fun q=>uu q.1),Sem.run_bind,pT hi,Result.andThen_ok,if_neg hb]
   simp only[Sem.run_bind,run_choose,F2,abZ,if_false,Result.andThen_ok,pT hi,run_askRoom,o1,f2,qT hi fQ,I1,newRow,run_newObj,Sem.run_pure]
   simp
theorem VR.A7 {e:Em}{b i off len cap o c es:Nat}{ex:Bool}(hb:e.b i=b)(hi:i<e.N)(ho:(o:Int)=off+e.d i)(hl:len<=c)(hc:cap<=c)(hx:ex=true->c=cap)(hn:o+c*es<=e.n i) :
  VR e (.slice i off len cap ex es) (.slice (some ⟨b,o,none⟩) len c):=by
 subst hb;exact .slice i off len cap ex es o c hi ho hl hc hx hn
theorem az.one {new:List AV}{nv:List Value}(h:az e new nv)(ho:new.all db=true):∀ v∈nv,v.oneCell'=true:=by
 intro v hv
 obtain⟨i,hi⟩:=List.getElem?_of_mem hv
 have ah:i<new.length:=by rw[<-h.1];exact (abf.1 hi).1
 have h1:=h.2 i new[i] v (aax ah) hi
 exact h1.Vg (ac6.1 ho _ (List.getElem_mem ah))
theorem ZO {b o ir mG es:Nat}{cs:List Value}(w:World)(hl:cs.length=ir*es)(h:∀ j v,cs[j]? = some v->w.cell? ⟨b,o+j,none⟩=some v) :
  ∀ w1:World,w1.heap=w.heap->(Builtin.firstCells es ir (.slice (some ⟨b,o,none⟩) ir mG)).run P w1 = .ok cs.toArray w1:=by
 intro w1 DQ
 have:=run_loadCells_list (P:=P) w1 ⟨b,o,none⟩ cs (fun j v hj=>by rw[add_lit];have q:=h j v hj;unfold World.cell? at q ⊢;rw[DQ];exact q)
 rw[hl] at this
 simp[Builtin.firstCells,this]
theorem arz (h:RH G F W e H w){dq:Array TypeId}{ty:TypeId}{s x v:AV}{s' x':Value}{H':Hp}(hs:VR e s s')(hx:VR e x x')(ha:GA P dq s x H=some (v,H')) :
  ∃ v' w' e',(Builtin.append_ dq ty #[s',x']).run P w = .ok v' w'/\e.le e'/\RH G F W e' H' w'/\VR e' v v':=by
 unfold GA at ha
 split at ha
 rotate_left
 ·cases ha
 rename_i el il hq hz
 obtain⟨t0,h0,hu⟩:=aa6.1 hq
 split at ha
 rotate_left
 ·cases ha
 rename_i es z dC EI
 cases hb:(Nat.ble (P.bytesOf el) 4096&&Nat.beq z.length es) with
 | false=>rw[hb] at ha;cases ha
 | true=>
 rw[hb] at ha
 simp only[cond_true] at ha
 rw[zf,ado] at hb
 obtain⟨oq,rB⟩:=hb
 have asw:z.length=es:=aba rB
 obtain⟨inf,z0,iB,fQ,xT⟩:=xI (e:=e) EI
 have tU:z0.cells.size=es:=by have:=xT.1;simp at this;omega
 split at ha
 rotate_left
 ·cases ha
 rename_i n new ji
 obtain⟨nv,kR,pQ,xB,xy⟩:=aeh (P:=P) h hx dC ji
 split at ha
 ·cases hs
  cases lP:Nat.beq n 0 with
  | true=>
   rw[lP] at ha
   cases ha
   have:n=0:=aba lP
   subst this
   obtain⟨r1,_⟩:=CA (P:=P) (w:=w) (ty:=ty) (s' := .slice none 0 0) h0 hu hz dC oq iB fQ tU rfl (by omega) pQ xB xy
   exact⟨_,w,e,r1 (aar _) w (by simp) (fun _=>rfl),e.le_refl,h,.ae⟩
  | false=>
   rw[lP] at ha
   simp only[cond_false] at ha
   cases qe:Nat.ble n 16777216 with
   | false=>rw[qe] at ha;cases ha
   | true=>
   rw[qe] at ha
   simp only[cond_true] at ha
   rw[ado] at qe
   split at ha
   ·rename_i i H2 jz
    cases ha
    have zb:0<n:=by
     rcases Nat.eq_zero_or_pos n with q | q
     ·subst q;cases lP
     ·exact q
    obtain⟨_,r2⟩:=CA (P:=P) (w:=w) (ty:=ty) (s' := .slice none 0 0) h0 hu hz dC oq iB fQ tU rfl (by omega) pQ xB xy
    obtain⟨c,hc,hr⟩:=r2 (by omega) [] (fun w1 _=>by simp[Builtin.firstCells])
    rw[yS] at hc hr
    obtain⟨e',he,g1,g2,g3,g4,oO⟩:=(h.drawn (w.drawn+1)).newRow (rest:=(List.replicate (c-n) z0.cells.toList).flatten) (fz:=(0,0)) jz kR (fun _=>rfl) (by simp)
    refine⟨_,_,e',hr,he,oO,?_⟩
    have iT:w.heap.size=e'.b i:=g2.symm
    rw[iT]
    refine .slice i 0 n n false es 0 c g1 (by rw[g3];simp) hc hc (by simp) ?_
    rw[g4]
    have:((List.replicate (c-n) z0.cells.toList).flatten).length=(c-n)*es:=by simp[tU]
    rw[abz,pQ,this,<-aeS]
    have:n+(c-n)=c:=by omega
    rw[this];omega
   ·cases ha
 ·rename_i i off len cap ex aq
  cases iT:(Nat.ble (len+n) 16777216&&Nat.beq es aq&&new.all db) with
  | false=>rw[iT] at ha;cases ha
  | true=>
  rw[iT] at ha
  simp only[cond_true] at ha
  simp only[zf,ado] at iT
  obtain⟨⟨hle,hee⟩,D3⟩:=iT
  have aqo:es=aq:=aba hee
  subst aqo
  cases fe:Nat.ble (len+n) cap with
  | true=>
   rw[fe] at ha
   simp only[cond_true] at ha
   rw[ado] at fe
   split at ha
   ·rename_i H2 fW
    cases ha
    rcases hs.lM with⟨o,c,hi,ho,hl,hc,gK,hn,rfl⟩ | ⟨rfl,rfl,a,rfl⟩
    ·obtain⟨r1,_⟩:=CA (P:=P) (w:=w) (ty:=ty) (s' := .slice (some ⟨e.b i,o,none⟩) len c) h0 hu hz dC oq iB fQ tU rfl (by omega) pQ xB xy
     obtain⟨w',yc,hr⟩:=RH.Kt (P:=P) (off:=off+len*es) (k:=0) (o:=o+len*es) h fW kR (by push_cast;omega)
     refine⟨_,w',e,r1 (by omega) w' (fun a ha => ?_) (by simp),e.le_refl,hr,.slice _ _ _ _ _ _ _ _ hi ho (by omega) hc gK hn⟩
     cases ha
     rw[add_lit];exact yc
    ·have lP:n=0:=by omega
     subst lP
     have:new=[]:=by
      have:=kR.1
      rw[pQ] at this
      exact agG (by omega)
     subst this
     cases fW
     have ard:nv=[]:=kR.iW
     subst ard
     obtain⟨r1,_⟩:=CA (P:=P) (w:=w) (ty:=ty) (s' := .slice (some a) 0 0) h0 hu hz dC oq iB fQ tU rfl (by omega) pQ xB xy
     exact⟨_,w,e,r1 (aar _) w (fun a ha=>by simp[storeCells]) (by simp),e.le_refl,h,.yt ..⟩
   ·cases ha
  | false=>
   rw[fe] at ha
   simp only[cond_false] at ha
   have aoL:cap<len+n:=by
    rcases ahB cap (len+n) with q | q
    ·exact q
    ·have q2:Nat.ble (len+n) cap=true:=by rw[ado];exact q
     rw[q2] at fe;cases fe
   cases hex:ex with
   | true=>
    rw[hex] at ha
    simp only[cond_true] at ha
    split at ha
    ·rename_i old hold
     split at ha
     ·rename_i j H2 jz
      cases ha
      have key:∀ (base:Addr) (c0:Nat) (ov:List Value),s' = .slice (some base) len c0->c0<len+n->az e old ov->ov.length=len*es->
        (∀ w1:World,w1.heap=w.heap->(Builtin.firstCells es len (.slice (some base) len c0)).run P w1 = .ok ov.toArray w1)->
        ∃ v' w' e',(Builtin.append_ dq ty #[s',x']).run P w = .ok v' w'/\e.le e'/\RH G F W e' H' w'/\VR e' (.slice j 0 (len+n) (len+n) false es) v':=by
       intro base c0 ov pV ah BZ ky kS
       obtain⟨_,r2⟩:=CA (P:=P) (w:=w) (ty:=ty) (s':=s') h0 hu hz dC oq iB fQ tU pV (by omega) pQ xB xy
       obtain⟨c,hc,hr⟩:=r2 ah ov (by rw[pV];exact kS)
       obtain⟨e',he,g1,g2,g3,g4,oO⟩:=(h.drawn (w.drawn+1)).newRow (rest:=(List.replicate (c-(len+n)) z0.cells.toList).flatten) (fz:=(0,0)) jz (BZ.append kR) (fun _=>rfl) (by simp)
       refine⟨_,_,e',hr,he,oO,?_⟩
       have iT:w.heap.size=e'.b j:=g2.symm
       rw[iT]
       refine .slice j 0 (len+n) (len+n) false es 0 c g1 (by rw[g3];simp) hc hc (by simp) ?_
       rw[g4]
       have:((List.replicate (c-(len+n)) z0.cells.toList).flatten).length=(c-(len+n))*es:=by simp[tU]
       rw[abz,abz,pQ,ky,this,<-aeS,<-aeS]
       have:len+n+(c-(len+n))=c:=by omega
       rw[this];omega
      rcases hs.lM with⟨o,c,hi,ho,hl,hc,gK,hn,pV⟩ | ⟨rfl,rfl,a,pV⟩
      ·obtain⟨ov,h1,h2,h3⟩:=h.AT hold ho
       exact key _ c ov pV (by have:=gK hex;omega) h1 h2 (ZO w h2 h3)
      ·rw[afB] at hold
       cases hold
       exact key a 0 [] pV aoL (.nil e) (by simp) (fun w1 _=>by simp[Builtin.firstCells,loadCells,loadCellsFrom])
     ·cases ha
    ·cases ha
   | false=>
    rw[hex] at ha
    simp only[cond_false] at ha
    split at ha
    ·rename_i c lo hi nM fl hg
     cases tW:(Nat.ble fl 1&&Nat.ble lo off&&Nat.ble (off+len*es) hi&&Nat.beq el nM) with
     | false=>rw[tW] at ha;cases ha
     | true=>
     rw[tW] at ha
     simp only[cond_true] at ha
     simp only[zf,ado] at tW
     obtain⟨⟨⟨b1,b2⟩,b3⟩,b4⟩:=tW
     have pJ:el=nM:=aba b4
     subst pJ
     split at ha
     ·rename_i j H2 ff
      cases ha
      have ar5:new.length=n*es:=by rw[<-kR.1];exact pQ
      have asJ:off+(len+n)*es=off+len*es+n*es:=by rw[aeS];omega
      have Zb:∀ k,(c.dh (off+len*es) new).get k=if off+len*es<=k/\k<off+len*es+new.length then new[k-(off+len*es)]? else c.get k:=fun k=>Tr.xJ _ c _ _
      have Wg:∀ (base:Addr) (c0:Nat) (ov:List Value),s' = .slice (some base) len c0->c0<len+n->ov.length=len*es->
        (∀ k v,off<=k->k<off+len*es->c.get k=some v->∃ v',ov[k-off]? = some v'/\VR e v v')->
        (∀ w1:World,w1.heap=w.heap->(Builtin.firstCells es len (.slice (some base) len c0)).run P w1 = .ok ov.toArray w1)->
        ∃ v' w' e',(Builtin.append_ dq ty #[s',x']).run P w = .ok v' w'/\e.le e'/\RH G F W e' H' w'/\VR e' (.slice j off (len+n) (len+n) false es) v':=by
       intro base c0 ov pV ah ky BZ kS
       obtain⟨_,r2⟩:=CA (P:=P) (w:=w) (ty:=ty) (s':=s') h0 hu hz dC oq iB fQ tU pV (by omega) pQ xB xy
       obtain⟨cc,gi,hr⟩:=r2 ah ov (by rw[pV];exact kS)
       have hd:=(h.drawn (w.drawn+1)).del i
       have hj:=(qz ff).1
       have iU:j=e.N:=hj.trans h.N.symm
       subst iU
       have pB:((List.replicate (cc-(len+n)) z0.cells.toList).flatten).length=(cc-(len+n))*es:=by simp[tU]
       have dp:(ov++nv++(List.replicate (cc-(len+n)) z0.cells.toList).flatten).length=cc*es:=by
        rw[abz,abz,pQ,ky,pB,<-aeS,<-aeS]
        congr 1;omega
       have dH:OR (e.ext w.heap.size (-(off:Int)) (cc*es)) e.N (.cells (c.dh (off+len*es) new) off (off+(len+n)*es) el 1) (.cells (ov++nv++(List.replicate (cc-(len+n)) z0.cells.toList).flatten).toArray el (0,0)):=by
        refine .cells _ _ _ _ _ _ _ (by rw[Em.qt];simpa using dp) ?_ (by simp) (by simp) (fun q=>by rw[Em.jN];omega)
        intro k u ql jm hk
        rw[Zb] at hk
        refine⟨k-off,by rw[Em.jN];omega,?_⟩
        simp only[ad0]
        split at hk
        ·rename_i gH
         obtain⟨u',jE,gu⟩:=kR.get hk
         refine⟨u',?_,gu.mono (Em.nf ..)⟩
         rw[abU (by rw[abz,ky,pQ];omega),acs (by rw[ky];omega),ky]
         rw[<-jE];congr 1;omega
        ·rename_i gH
         obtain⟨u',jE,gu⟩:=BZ k u ql (by omega) hk
         refine⟨u',?_,gu.mono (Em.nf ..)⟩
         have:k-off<ov.length:=(abf.1 jE).1
         rw[abU (by rw[abz];omega),abU this]
         exact jE
       obtain⟨_,oO⟩:=hd.alloc ff dH
       refine⟨_,_,_,hr,Em.nf ..,oO,?_⟩
       exact VR.A7 (e:=e.ext w.heap.size (-(off:Int)) (cc*es)) (Em.jL ..) (by simp[Em.ext]) (by rw[Em.jN];omega) gi gi (by simp) (by rw[Em.qt];omega)
      obtain⟨hN,ob,dP,dH,hF⟩:=h.obj i _ hg
      cases dH with
      | cells _ _ _ _ _ C fz hCn gi PQ Bc hd=>
      rcases hs.lM with⟨o,c0,xV,ho,hl,hc,gK,hn,pV⟩ | ⟨rfl,rfl,a,pV⟩
      ·have hlen:len*es<=c0*es:=ad4 _ hl
       by_cases gH:len+n<=c0
       ·have ur:(len+n)*es<=c0*es:=ad4 _ gH
        have asO:(len+n)*es=len*es+n*es:=aeS ..
        obtain⟨w',C',r1,r2,r3,r4,r5,r6,r7,r8,r9⟩:=afL (P:=P) (e.b i) (o+len*es) el fz nv 0 w C dP (by rw[pQ];omega) (Bc b1) (kR.one D3)
        obtain⟨q1,_⟩:=CA (P:=P) (w:=w) (ty:=ty) (s':=s') h0 hu hz dC oq iB fQ tU pV (by omega) pQ xB xy
        have hj:=(qz ff).1
        have iU:j=e.N:=hj.trans h.N.symm
        subst iU
        have ajT:OR (e.ext (e.b i) (e.d i) (e.n i)) e.N (.cells (c.dh (off+len*es) new) off (off+(len+n)*es) el 1) (.cells C' el fz):=by
         refine .cells _ _ _ _ _ _ _ (by rw[Em.qt,r3,hCn]) ?_ (by simp) (fun _ k hk=>Bc b1 k (by omega)) (fun q=>by rw[Em.jN];exact hd (by omega))
         intro k u ql jm hk
         rw[Zb] at hk
         split at hk
         ·rename_i afo
          obtain⟨u',jE,gu⟩:=kR.get hk
          refine⟨o+(k-off),by rw[Em.jN];omega,u',?_,gu.mono (Em.nf ..)⟩
          rw[r4,if_pos (by rw[pQ];omega),<-jE]
          congr 1;omega
         ·rename_i afo
          obtain⟨k2,yU,u',jE,gu⟩:=gi k u (by omega) (by omega) hk
          refine⟨k2,by rw[Em.jN];exact yU,u',?_,gu.mono (Em.nf ..)⟩
          rw[r4,if_neg (by omega)]
          exact jE
        obtain⟨_,oO⟩:=h.move hg (by simp[wr,b1]) ff r6 r2 r5 ajT r7 r8 r9
        refine⟨_,w',_,q1 gH w' (fun a ha => ?_) (by simp),Em.nf ..,oO,?_⟩
        ·cases ha
         rw[add_lit];exact r1
        ·exact VR.A7 (e:=e.ext (e.b i) (e.d i) (e.n i)) (Em.jL ..) (by simp[Em.ext]) (by rw[Em.jN];exact ho) gH gH (by simp) (by rw[Em.qt];exact hn)
       ·refine Wg _ c0 ((C.toList.drop o).take (len*es)) pV (by omega) ?_ ?_ ?_
        ·simp;omega
        ·intro k u ql jm hk
         obtain⟨k2,yU,u',jE,gu⟩:=gi k u (by omega) (by omega) hk
         refine⟨u',?_,gu⟩
         rw[adM,if_pos (by omega),adG,adm,<-jE]
         congr 1;omega
        ·refine ZO w (by simp;omega) (fun m u hm => ?_)
         rw[adM] at hm
         split at hm
         ·rw[adG,adm] at hm
          simp[World.cell?,dP,hm]
         ·cases hm
      ·refine Wg a 0 [] pV (by omega) (by simp) (fun k u ql jm hk=>by omega) (fun w1 _=>by simp[Builtin.firstCells,loadCells,loadCellsFrom])
     ·cases ha
    ·cases ha
 ·cases ha
end
end
section
variable {P:Program}{G:Nat}{F:Nat->Prop}{W:World}{e:Em}{H:Hp}{w:World}
theorem VR.XY {a b:AV}{a' b':Value}(ha:VR e a a')(hb:VR e b b')(h:GP a b=true):a'=b'/\∀ n,Instr.sameBits n a' b'=true:=by
 unfold GP at h
 split at h
 ·cases ha.uU;cases hb.uU
  simp only[beq_iff_eq] at h
  subst h;exact⟨rfl,fun n=>by simp[Instr.sameBits]⟩
 ·cases ha.gQ;cases hb.gQ
  simp only[zf,decide_eq_true_eq] at h
  obtain⟨rfl,rfl⟩:=h
  exact⟨rfl,fun n=>by simp[Instr.sameBits]⟩
 ·obtain⟨p,rfl,rfl⟩:=ha.lj
  obtain⟨q,rfl,rfl⟩:=hb.lj
  have:(p==q)=true:=by rw[Lt];exact h
  have hpq:p=q:=by
   have h0:(p==q)=(p.data==q.data):=by cases p;cases q;rfl
   rw[h0,beq_iff_eq] at this
   cases p;cases q;simpa using this
  subst hpq
  exact⟨rfl,fun n=>by simp[Instr.sameBits,this]⟩
 ·cases h
theorem az.plain:∀ {x y:List AV} {x' y':List Value},az e x x'->az e y y'->C6 x y=true->x'=y'/\∀ n,(x'.zip y').all (fun (a,b)=>Instr.sameBits n a b)=true
 | [],[],x',y',hx,hy,h=>by rw[hx.iW,hy.iW];exact⟨rfl,fun n=>rfl⟩
 | [],_::_,_,_,_,_,h=>by simp[C6] at h
 | _::_,[],_,_,_,_,h=>by simp[C6] at h
 | a::x,b::y,x',y',hx,hy,h=>by
  simp only[C6,zf] at h
  obtain⟨a',xs,rfl,ha,hx⟩:=hx.cons_inv
  obtain⟨b',ys,rfl,hb,hy⟩:=hy.cons_inv
  obtain⟨h1,h2⟩:=ha.XY hb h.1
  obtain⟨h3,h4⟩:=az.plain hx hy h.2
  subst h1;subst h3
  exact⟨rfl,fun n=>by simp only[List.zip_cons_cons,List.all_cons,h2 n,h4 n,Bool.and_self]⟩
theorem VR.plain {a b:AV}{a' b':Value}(ha:VR e a a')(hb:VR e b b')(h:Au a b=true):Instr.sameBits 10000 a' b'=true:=by
 unfold Au at h
 split at h
 ·obtain⟨x,rfl,hx⟩:=ha.vL
  obtain⟨y,rfl,hy⟩:=hb.vL
  obtain⟨h1,h2⟩:=hx.plain hy h
  have:x.size=y.size:=by have:=congrArg List.length h1;simpa using this
  simp only[Instr.sameBits,this,beq_self_eq_true,Bool.true_and]
  exact h2 9999
 ·exact (ha.XY hb h).2 _
theorem Tt {α:Type}(g:α->Bool)(body:α->PUnit->Sem (ForInStep PUnit))(w:World)(hb:∀ a,g a=true->(body a ⟨⟩).run P w = .ok (.yield ⟨⟩) w) :
  ∀ l:List α,l.all g=true->(forIn l (⟨⟩:PUnit) body).run P w = .ok ⟨⟩ w
 | [],_=>by simp
 | a::l,h=>by
  simp only[List.all_cons,zf] at h
  rw[List.forIn_cons,Sem.run_bind,hb a h.1]
  exact Tt g body w hb l h.2
theorem Nn (w:World)(emp:Bool):∀ (d D:Nat),d<=D->∀ (t:TypeId) (v:AV) (v':Value),VR e v v'->px P d t v=true->(Instr.checkKey emp D t v').run P w = .ok () w:=by
 intro d
 induction d with
 | zero=>intro D _ t v v' _ h;cases h
 | succ d ih=>
  intro D hD t v v' hv h
  obtain⟨D,rfl⟩:∃ k,D=k+1:=⟨D-1,by omega⟩
  unfold px at h
  split at h
  ·rename_i hu;simp[Instr.checkKey,au hu]
  ·rename_i hu;simp[Instr.checkKey,au hu]
  ·rename_i hu;simp[Instr.checkKey,au hu]
  ·rename_i fs cs hu
   obtain⟨vs,rfl,hl⟩:=hv.vL
   have key := Tt (P := P) (g := fun f : Field => if f.name ≠ "_" then (match nu P f.type cs f.offset with | some v => px P d f.type v | none => false) else true)
    (body:=fun f Nt=>do
     if f.name ≠ "_" then
      Instr.checkKey emp D f.type (<-part f.type vs f.offset)
      Pure.pure (ForInStep.yield PUnit.unit)
     else Pure.pure (ForInStep.yield PUnit.unit)) w (by
     intro f hg
     by_cases hn : f.name = "_"
     ·simp[hn]
     ·simp only[ne_eq,hn,not_false_eq_true,if_true] at hg
      split at hg
      ·rename_i u uD
       obtain⟨u',jE,hr⟩:=yZ hl uD w
       have:=ih D (by omega) f.type u u' hr hg
       simp[hn,jE,this]
      ·cases hg) fs.toList h
   simp[Instr.checkKey,au hu] at key ⊢
   simp[key]
  ·rename_i n el cs hu
   split at h
   ·rename_i s hs
    obtain⟨vs,rfl,hl⟩:=hv.vL
    have key:=Tt (P:=P) (g:=fun i:Nat=>match nu P el cs (i*s) with | some v=>px P d el v | none=>false)
     (body:=fun i Nt=>do
      let z <-sizeOf el
      let p <-part el vs (i*z)
      Functor.map (fun a=>ForInStep.yield PUnit.unit) (Instr.checkKey emp D el p)) w (by
      intro i hg
      split at hg
      ·rename_i u uD
       obtain⟨u',jE,hr⟩:=yZ hl uD w
       have:=ih D (by omega) el u u' hr hg
       simp[gT hs,jE,this]
      ·cases hg) (List.range' 0 n) h
    simp[Instr.checkKey,au hu]
    exact key
   ·cases h
  ·cases h
theorem iQ.cons_inv {m:ME}{es:List ME}{aq:List MapEntry}(h:iQ e (m::es) aq):∃ m' r',aq=m'::r'/\VR e m.key m'.key/\VR e m.val m'.val/\iQ e es r':=by
 cases aq with
 | nil=>simp[iQ] at h
 | cons m' r'=>
  obtain⟨a,b⟩:=h.2 0 m m' rfl rfl
  exact⟨m',r',rfl,a,b,by simpa using h.1,fun i x y hx hy=>h.2 (i+1) x y (by simpa using hx) (by simpa using hy)⟩
theorem iQ.iW {aq:List MapEntry}(h:iQ e [] aq):aq=[]:=by simpa using h.1
theorem Zj (h:RH G F W e H w){t:TypeId}{k:AV}{k':Value}(hk:VR e k k'):∀ (es:List ME) (fs:List MapEntry),iQ e es fs->Ba P H t k es=true->∀ x∈fs,(Op.equal t k' x.key).run P w = .ok false w
 | [],fs,hm,_=>by rw[hm.iW];simp
 | m::es,fs,hm,hf=>by
  obtain⟨m',r',rfl,h1,h2,h4⟩:=hm.cons_inv
  unfold Ba at hf
  split at hf
  ·rename_i heq
   have:=HN h 20 Op.maxDepth (by decide) t k m.key k' m'.key false hk h1 heq
   intro x hx
   rcases yL.1 hx with rfl | hx
   ·exact this
   ·exact Zj h hk es r' h4 hf x hx
  ·cases hf
def FK (P:Program)(e:Em)(w:World)(t:TypeId)(k':Value)(fs:List MapEntry)(i0:Nat):Option (Nat × ME)->Prop
 | none=>∀ x∈fs,(Op.equal t k' x.key).run P w = .ok false w
 | some (j,m)=>∃ f1 m' f2,fs=f1++m'::f2/\j=i0+f1.length/\VR e m.key m'.key/\VR e m.val m'.val/\(Op.equal t k' m'.key).run P w = .ok true w/\∀ x∈f1++f2,(Op.equal t k' x.key).run P w = .ok false w
theorem U6 (h:RH G F W e H w){t:TypeId}{k:AV}{k':Value}(hk:VR e k k'):∀ (es:List ME) (fs:List MapEntry) (i:Nat) (r:Option (Nat × ME)),iQ e es fs->ya P H t k es i=some r->FK P e w t k' fs i r
 | [],fs,i,r,hm,hf=>by
  rw[hm.iW]
  cases hf
  exact fun x hx=>by cases hx
 | m::es,fs,i,r,hm,hf=>by
  obtain⟨m',r',rfl,h1,h2,h4⟩:=hm.cons_inv
  unfold ya at hf
  split at hf
  ·rename_i heq
   have:=HN h 20 Op.maxDepth (by decide) t k m.key k' m'.key true hk h1 heq
   cases hn:Ba P H t k es with
   | false=>rw[hn] at hf;cases hf
   | true=>
    rw[hn] at hf
    cases hf
    exact⟨[],m',r',rfl,rfl,h1,h2,this,fun x hx=>Zj h hk es r' h4 hn x (by simpa using hx)⟩
  ·rename_i heq
   have:=HN h 20 Op.maxDepth (by decide) t k m.key k' m'.key false hk h1 heq
   have ih:=U6 h hk es r' (i+1) r h4 hf
   cases r with
   | none=>
    intro x hx
    rcases yL.1 hx with rfl | hx
    ·exact this
    ·exact ih x hx
   | some x=>
    obtain⟨j,mm⟩:=x
    obtain⟨f1,n',f2,rfl,rfl,q1,q2,q3,q4⟩:=ih
    refine⟨m'::f1,n',f2,rfl,by simp only[abn];omega,q1,q2,q3,fun x hx => ?_⟩
    rcases yL.1 hx with rfl | hx
    ·exact this
    ·exact q4 x hx
  ·cases hf
theorem aa7 {t:TypeId}{k':Value}{w:World}:∀ (l:List MapEntry) (i:Nat),(∀ x∈l,(Op.equal t k' x.key).run P w = .ok false w)->(Instr.findAsking t k' l i).run P w = .ok none w
 | [],i,_=>by simp[Instr.findAsking]
 | m::l,i,h=>by
  have h1:=h m (.head _)
  have h2:=aa7 l (i+1) fun x hx=>h x (.tail _ hx)
  simp[Instr.findAsking,h1,h2]
theorem XN {t:TypeId}{k':Value}{w:World}{m:MapEntry}{b:List MapEntry}(hm:(Op.equal t k' m.key).run P w = .ok true w):∀ (a:List MapEntry) (i:Nat),(∀ x∈a,(Op.equal t k' x.key).run P w = .ok false w)->
  (Instr.findAsking t k' (a++m::b) i).run P w = .ok (some (i+a.length,m.val)) w
 | [],i,_=>by simp[Instr.findAsking,hm]
 | x::a,i,h=>by
  have h1:=h x (.head _)
  have h2:=XN (b:=b) hm a (i+1) fun x hx=>h x (.tail _ hx)
  rw[ahd,abn,show i+(a.length+1)=i+1+a.length by omega]
  simp[Instr.findAsking,h1,h2]
theorem aah {d:TypeDesc}{t:TypeId}(hu:P.underlying t=some d){k':Value}(w:World):∀ (aq:List MapEntry) (i:Nat) (r r2:Option (Nat × Value)),Instr.findNow d k' aq i=some r->(Instr.findAsking t k' aq i).run P w = .ok r2 w->r=r2
 | [],i,r,r2,h1,h2=>by
  cases h1
  simp[Instr.findAsking] at h2
  exact h2
 | m::aq,i,r,r2,h1,h2=>by
  obtain⟨Z4,asE,asy⟩:=m
  unfold Instr.findNow at h1
  obtain⟨md,hmd⟩:∃ md,Op.maxDepth=md+1:=⟨9999,rfl⟩
  have yj:∀ b,Instr.sameNow d k' Z4=some b->(Op.equal t k' Z4).run P w = .ok b w:=by
   intro b hb
   unfold Op.equal
   rw[hmd]
   unfold Instr.sameNow at hb
   split at hb
   ·rename_i h1 h2
    split at hb
    ·rename_i CH;cases hb;simp[Op.equalIn,au hu,CH]
    ·cases hb
   ·rename_i h1 h2;cases hb;simp[Op.equalIn,au hu]
   ·rename_i h1 h2;cases hb;simp[Op.equalIn,au hu]
   ·cases hb
  split at h1
  ·rename_i hs
   cases h1
   simp[Instr.findAsking,yj true hs] at h2
   exact h2
  ·rename_i hs
   simp[Instr.findAsking,yj false hs] at h2
   exact aah hu w aq (i+1) r r2 h1 h2
  ·cases h1
theorem Vd {t:TypeId}{k':Value}{l:List MapEntry}{r':Option (Nat × Value)}{d:TypeDesc}(hu:P.underlying t=some d)(eg:(Instr.findAsking t k' l 0).run P w = .ok r' w):(Instr.findKey t k' l).run P w = .ok r' w:=by
 unfold Instr.findKey
 rw[Sem.run_bind,au hu,Result.andThen_ok]
 split
 ·rename_i r2 tc
  rw[aah hu w l 0 r2 r' tc eg]
  simp
 ·exact eg
def FP (P:Program)(e:Em)(w:World)(t:TypeId)(k':Value)(fs l:List MapEntry):Option (Nat × ME)->Prop
 | none=>(Instr.findKey t k' l).run P w = .ok none w
 | some (j,m)=>∃ f1 m' f2 a b,fs=f1++m'::f2/\j=f1.length/\l=a++m'::b/\(f1++f2).Perm (a++b)/\VR e m.key m'.key/\VR e m.val m'.val/\(Instr.findKey t k' l).run P w = .ok (some (a.length,m'.val)) w
theorem DI (h:RH G F W e H w){t:TypeId}{k:AV}{k':Value}(hk:VR e k k'){es:List ME}{fs l:List MapEntry}{r:Option (Nat × ME)}(hm:iQ e es fs)(hp:fs.Perm l)(hf:ya P H t k es 0=some r){d:TypeDesc}(hu:P.underlying t=some d):FP P e w t k' fs l r:=by
 have hq:=U6 (P:=P) h hk es fs 0 r hm hf
 cases r with
 | none=>exact Vd hu (aa7 l 0 fun x hx=>hq x (hp.mem_iff.2 hx))
 | some x=>
  obtain⟨j,m⟩:=x
  obtain⟨f1,m',f2,rfl,rfl,q1,q2,q3,q4⟩:=hq
  obtain⟨a,b,rfl⟩:=List.append_of_mem (hp.mem_iff.1 (by simp:m'∈f1++m'::f2))
  have yN:(f1++f2).Perm (a++b):=((List.perm_middle.symm.trans hp).trans List.perm_middle).cons_inv
  refine⟨f1,m',f2,a,b,rfl,by omega,rfl,yN,q1,q2,?_⟩
  have:=XN (P:=P) (w:=w) (b:=b) q3 a 0 fun x hx=>q4 x (yN.mem_iff.2 (aaI _ hx))
  rw[yS] at this
  exact Vd hu this
end
end
section
variable {P:Program}{G:Nat}{F:Nat->Prop}{W:World}{e:Em}{H:Hp}{w:World}
theorem wQ (h:RH G F W e H w){i:Nat}{es:List ME}{c:Nat}(hg:H.h.get i=some (.map es c)):i<e.N/\∃ (aq:Array MapEntry) (c':Nat) (fs:List MapEntry),w.heap[e.b i]? = some (.map aq c')/\fs.Perm aq.toList/\iQ e es fs/\(fs.map (·.born)).Nodup/\∀ x∈fs,x.born<c':=by
 obtain⟨hN,ob,dP,dH,_⟩:=h.obj i _ hg
 cases dH with
 | map _ _ aq c' fs hp hm hn hb=>exact⟨hN,aq,c',fs,dP,hp,hm,hn,hb⟩
theorem apc (h:RH G F W e H w){x:AV}{x':Value}{es:List ME}{c:Nat}(hx:VR e x x')(hm:mapOf H x=some (es,c)) :
  (x' = .map none/\es=[]/\c=0)\/∃ i aq c' fs,x = .map i/\x' = .map (some (e.b i))/\H.h.get i=some (.map es c)/\w.heap[e.b i]? = some (.map aq c')/\fs.Perm aq.toList/\iQ e es fs:=by
 unfold mapOf at hm
 split at hm
 ·cases hx;cases hm;exact .inl ⟨rfl,rfl,rfl⟩
 ·rename_i i
  split at hm
  ·rename_i xR c0 hg
   cases hm
   obtain⟨hi,rfl⟩:=hx.EF
   obtain⟨_,aq,c',fs,h1,h2,h3,_⟩:=wQ h hg
   exact .inr ⟨i,aq,c',fs,rfl,rfl,hg,h1,h2,h3⟩
  ·cases hm
 ·cases hm
theorem xP {b:Nat}{aq:Array MapEntry}{c:Nat}(hb:w.heap[b]? = some (.map aq c)):(getObj b).run P w = .ok (.map aq c) w:=by simp[getObj,Sem.run,hb]
theorem Nk {kt:TypeId}{k:AV}(hc:px P 20 kt k=true):∃ d,P.underlying kt=some d:=by
 cases hq:P.underlying kt with
 | none=>simp[px,hq] at hc
 | some d=>exact⟨d,rfl⟩
theorem VR.pair {a b:AV}{a' b':Value}(ha:VR e a a')(hb:VR e b b'):VR e (.tuple [a,b]) (.tuple #[a',b']):=
 .tuple' (.cons ha (.cons hb (.nil e)))
theorem aoa (h:RH G F W e H w){t:TypeId}{x k v:AV}{x' k':Value}{ok:Bool}(hx:VR e x x')(hk:VR e k k')(hl:Bi P t x k ok H=some v) :
  ∃ v',(Instr.lookup t x' k' ok).run P w = .ok v' w/\VR e v v':=by
 unfold Bi at hl
 split at hl
 ·rename_i kt el hu
  cases hc:px P 20 kt k with
  | false=>rw[hc] at hl;cases hl
  | true=>
  rw[hc] at hl
  simp only[cond_true] at hl
  have xf:∀ emp,(Instr.checkKey emp 10000 kt k').run P w = .ok () w:=fun emp=>Nn w emp 20 10000 (by decide) kt k k' hk hc
  obtain⟨kd,cU⟩:=Nk hc
  split at hl
  ·rename_i es c hm
   have fin:∀ (fs aq:List MapEntry),fs.Perm aq->iQ e es fs->∃ r' v',(Instr.findKey kt k' aq).run P w = .ok r' w/\
     (match r' with
      | some (_,v)=>Pure.pure (if ok=true then Value.tuple #[v,Value.bool true] else v)
      | none=>Functor.map (fun a=>if ok=true then Value.tuple #[a,Value.bool false] else a) (zeroValue el):Sem Value).run P w = .ok v' w/\VR e v v':=by
    intro fs aq pO kQ
    split at hl
    ·rename_i j m hf
     obtain⟨f1,m',f2,a,b,_,_,_,_,_,hv,eg⟩:=DI (P:=P) h hk kQ pO hf cU
     cases hl
     cases ok with
     | true=>exact⟨_,_,eg,by simp,hv.pair (.bool true)⟩
     | false=>exact⟨_,_,eg,by simp,hv⟩
    ·rename_i hf
     have eg:(Instr.findKey kt k' aq).run P w = .ok none w:=DI (P:=P) h hk kQ pO hf cU
     simp only[yB,aa6] at hl
     obtain⟨z,⟨z0,⟨inf,iB,fQ⟩,hz⟩,rfl⟩:=hl
     have xT:VR e z z0 := .kf hz
     cases ok with
     | true=>exact⟨_,_,eg,by simp[qT iB fQ],xT.pair (.bool false)⟩
     | false=>exact⟨_,_,eg,by simp[qT iB fQ],xT⟩
    ·cases hl
   rcases apc h hx hm with⟨rfl,rfl,_⟩ | ⟨i,aq,c',fs,rfl,rfl,hg,hb,pO,kQ⟩
   ·obtain⟨r',v',h1,h2,h3⟩:=fin [] [] (List.Perm.refl _) ⟨rfl,by simp⟩
    refine⟨v',?_,h3⟩
    simp[Instr.lookup,au hu,xf,h1]
    exact h2
   ·obtain⟨r',v',h1,h2,h3⟩:=fin fs aq.toList pO kQ
    refine⟨v',?_,h3⟩
    simp[Instr.lookup,au hu,xP hb,xf,h1]
    exact h2
  ·cases hl
 ·cases hl
theorem Fe {b:Nat}{o:Obj}{aq:Array MapEntry}{c:Nat}(hb:w.heap[b]? = some (.map aq c)):(Go.setObj b o).run P w = .ok () { w with heap:=w.heap.setIfInBounds b o }:=by
 simp[Go.setObj,Sem.run,hb]
theorem RH.Kn (h:RH G F W e H w){i:Nat}{es XR:List ME}{c c2:Nat}(hg:H.h.get i=some (.map es c)){aq:Array MapEntry}{c':Nat}{fs:List MapEntry}(hp:fs.Perm aq.toList)(hm:iQ e XR fs)(hn:(fs.map (·.born)).Nodup)(hb:∀ x∈fs,x.born<c') :
  RH G F W e (Am.setObj H i (.map XR c2)) { w with heap:=w.heap.setIfInBounds (e.b i) (.map aq c') }:=by
 obtain⟨_,xR,c0,_,je,_⟩:=wQ h hg
 have ah:=(abM.1 je).1
 refine h.put hg rfl (rp := .map aq c') (by simp) (by simp[ah]) (fun k hk => ?_) (.map _ _ _ _ fs hp hm hn hb) rfl rfl rfl
 simp only
 rw[aft (fun q=>hk q.symm)]
theorem iQ.snoc {es:List ME}{aq:List MapEntry}(h:iQ e es aq){m:ME}{m':MapEntry}(h1:VR e m.key m'.key)(h2:VR e m.val m'.val):iQ e (es++[m]) (aq++[m']):=by
 refine⟨by simp[h.1],fun i x y hx hy => ?_⟩
 by_cases hi:i<es.length
 ·rw[abU hi] at hx
  rw[abU (by rw[h.1];exact hi)] at hy
  exact h.2 i x y hx hy
 ·rw[acs (by omega)] at hx
  rw[acs (by rw[h.1];omega),h.1] at hy
  have:i-es.length=0:=by
   have:=(abf.1 hx).1
   simp at this;omega
  rw[this] at hx hy
  simp at hx hy
  subst hx;subst hy
  exact⟨h1,h2⟩
theorem iQ.set {es:List ME}{aq:List MapEntry}(h:iQ e es aq)(j:Nat){m:ME}{m':MapEntry}(h1:VR e m.key m'.key)(h2:VR e m.val m'.val):iQ e (es.set j m) (aq.set j m'):=by
 refine⟨by simp[h.1],fun i x y hx hy => ?_⟩
 rw[List.getElem?_set] at hx hy
 split at hx
 ·rename_i hj
  rw[if_pos hj] at hy
  split at hx
  ·split at hy
   ·cases hx;cases hy;exact⟨h1,h2⟩
   ·cases hy
  ·cases hx
 ·rename_i hj
  rw[if_neg hj] at hy
  exact h.2 i x y hx hy
theorem iQ.erase {es:List ME}{aq:List MapEntry}(h:iQ e es aq)(j:Nat):iQ e (es.eraseIdx j) (aq.eraseIdx j):=by
 refine⟨by simp[List.length_eraseIdx,h.1],fun i x y hx hy => ?_⟩
 rw[List.getElem?_eraseIdx] at hx hy
 split at hx
 ·rename_i hj;rw[if_pos hj] at hy;exact h.2 i x y hx hy
 ·rename_i hj;rw[if_neg hj] at hy;exact h.2 _ x y hx hy
theorem XZ (h:RH G F W e H w){t:TypeId}{x k v:AV}{x' k' v':Value}{H':Hp}(hx:VR e x x')(hk:VR e k k')(hv:VR e v v')(hl:tw P t x k v H=some H') :
  ∃ w',(Instr.mapUpdate t x' k' v').run P w = .ok () w'/\RH G F W e H' w':=by
 unfold tw at hl
 split at hl
 ·rename_i kt el i hu
  cases hc:px P 20 kt k with
  | false=>rw[hc] at hl;cases hl
  | true=>
  rw[hc] at hl
  simp only[cond_true] at hl
  have xf:∀ emp,(Instr.checkKey emp 10000 kt k').run P w = .ok () w:=fun emp=>Nn w emp 20 10000 (by decide) kt k k' hk hc
  obtain⟨kd,cU⟩:=Nk hc
  obtain⟨hi,rfl⟩:=hx.EF
  split at hl
  ·rename_i es c hg
   obtain⟨_,aq,c',fs,hb,pO,kQ,dI,rA⟩:=wQ h hg
   split at hl
   ·rename_i j m hf
    cases hs:Au m.key k with
    | false=>rw[hs] at hl;cases hl
    | true=>
    rw[hs] at hl
    cases hl
    obtain⟨f1,m',f2,a,b,rfl,rfl,lb,yN,FM,hmv,eg⟩:=DI (P:=P) h hk kQ pO hf cU
    have oF:aq.toList[a.length]? = some m':=by rw[lb,acs (aar _),aja];rfl
    have hsb:Instr.sameBits 10000 m'.key k'=true:=FM.plain hk hs
    have yC:aq[a.length]? = some m':=by rw[<-adm];exact oF
    have aqy:aq.modify a.length (fun e=>{ e with key:=k',val:=v' })=(aq.toList.set a.length { m' with key:=k',val:=v' }).toArray:=by
     apply Array.ext_getElem?
     intro q
     have e1:∀ l:List MapEntry,l.toArray[q]? = l[q]? := fun l=>by simp
     refine No ?_ (e1 _).symm
     rw[Array.getElem?_modify,List.getElem?_set,adm]
     by_cases hq:a.length=q
     ·subst hq
      have ah:=(abM.1 yC).1
      rw[if_pos rfl,if_pos rfl,if_pos (by simpa using ah),yC];rfl
     ·rw[if_neg hq,if_neg hq]
    have fM:∀ (p q:List MapEntry) (x y:MapEntry),(p++x::q).set p.length y=p++y::q:=fun p q x y=>by
     rw[ajA _ _ (aar _),aja];rfl
    have qU:((f1++m'::f2).set f1.length { m' with key:=k',val:=v' }).Perm (aq.toList.set a.length { m' with key:=k',val:=v' }):=by
     rw[lb,fM,fM]
     exact (List.perm_middle.trans (yN.cons _)).trans List.perm_middle.symm
    have uP:((f1++m'::f2).set f1.length { m' with key:=k',val:=v' }).map (·.born)=(f1++m'::f2).map (·.born):=by
     rw[fM];simp
    refine⟨{ w with heap:=w.heap.setIfInBounds (e.b i) (.map (aq.toList.set a.length { m' with key:=k',val:=v' }).toArray c') },?_,
     h.Kn hg (fs:=(f1++m'::f2).set f1.length { m' with key:=k',val:=v' }) (by simpa using qU) (kQ.set (m:={ m with key:=k,val:=v }) (m':={ m' with key:=k',val:=v' }) f1.length hk hv) (by rw[uP];exact dI) (fun x hx => ?_)⟩
    ·simp[Instr.mapUpdate,au hu,xP hb,xf,eg,yC,Instr.keyThatStays,hsb,Fe hb,aqy]
    ·rw[fM] at hx
     rcases aal.1 hx with hx | hx
     ·exact rA x (aaI _ hx)
     ·rcases yL.1 hx with rfl | hx
      ·exact rA m' (by simp)
      ·exact rA x (by simp[hx])
   ·rename_i hf
    cases hl
    have eg:(Instr.findKey kt k' aq.toList).run P w = .ok none w:=DI (P:=P) h hk kQ pO hf cU
    refine⟨{ w with heap:=w.heap.setIfInBounds (e.b i) (.map (aq.push ⟨k',v',c'⟩) (c'+1)) },?_,h.Kn hg (fs:=fs++[⟨k',v',c'⟩]) (by rw[Array.toList_push];exact pO.append_right _) (kQ.snoc (m:=⟨k,v,c⟩) (m':=⟨k',v',c'⟩) hk hv) ?_ ?_⟩
    ·simp[Instr.mapUpdate,au hu,xP hb,xf,eg,Fe hb]
    ·rw[acJ,acK]
     refine⟨dI,by simp,fun x hx y hy => ?_⟩
     obtain⟨z,hz,rfl⟩:=adj.1 hx
     have:=rA z hz
     simp at hy
     omega
    ·intro x hx
     rcases aal.1 hx with hx | hx
     ·have:=rA x hx;omega
     ·rw[wc] at hx;subst hx;exact aeX _
   ·cases hl
  ·cases hl
 ·cases hl
theorem ap4 (h:RH G F W e H w){dq:Array TypeId}{ty:TypeId}{x k:AV}{x' k':Value}{H':Hp}(hx:VR e x x')(hk:VR e k k')(hl:EU P dq x k H=some H') :
  ∃ w',(Builtin.delete_ dq ty #[x',k']).run P w = .ok (.tuple #[]) w'/\RH G F W e H' w':=by
 unfold EU at hl
 split at hl
 ·rename_i kt el hq
  obtain⟨t0,h0,hu⟩:=aa6.1 hq
  cases hc:px P 20 kt k with
  | false=>rw[hc] at hl;cases hl
  | true=>
  rw[hc] at hl
  simp only[cond_true] at hl
  have xf:∀ emp,(Instr.checkKey emp 10000 kt k').run P w = .ok () w:=fun emp=>Nn w emp 20 10000 (by decide) kt k k' hk hc
  obtain⟨kd,cU⟩:=Nk hc
  split at hl
  ·cases hl;cases hx
   exact⟨w,by simp[Builtin.delete_,h0,au hu,xf],h⟩
  ·rename_i i
   obtain⟨hi,rfl⟩:=hx.EF
   split at hl
   ·rename_i es c hg
    obtain⟨_,aq,c',fs,hb,pO,kQ,dI,rA⟩:=wQ h hg
    split at hl
    ·rename_i j m hf
     cases hl
     obtain⟨f1,m',f2,a,b,rfl,rfl,lb,yN,FM,hmv,eg⟩:=DI (P:=P) h hk kQ pO hf cU
     have dp:a.length<aq.size:=by have:=congrArg List.length lb;rw[af0,abz,abn] at this;omega
     have her:(aq.eraseIdxIfInBounds a.length).toList=aq.toList.eraseIdx a.length:=by simp[Array.eraseIdxIfInBounds,dp]
     have zj:∀ (p q:List MapEntry) (x:MapEntry),(p++x::q).eraseIdx p.length=p++q:=fun p q x=>by
      rw[List.eraseIdx_append_of_length_le (aar _),aja];rfl
     refine⟨{ w with heap:=w.heap.setIfInBounds (e.b i) (.map (aq.eraseIdxIfInBounds a.length) c') },?_,h.Kn hg (fs:=(f1++m'::f2).eraseIdx f1.length) (by rw[her,lb,zj,zj];exact yN) (kQ.erase f1.length) ?_ (fun x hx=>rA x ?_)⟩
     ·simp[Builtin.delete_,h0,au hu,xP hb,xf,eg,Fe hb]
     ·rw[zj]
      rw[acJ,ab8] at dI
      rw[acJ]
      exact (acB.1 ((List.perm_middle.nodup_iff).1 dI)).2
     ·rw[zj] at hx
      rcases aal.1 hx with hx | hx
      ·exact aaI _ hx
      ·exact yX _ (.tail _ hx)
    ·rename_i hf
     cases hl
     have eg:(Instr.findKey kt k' aq.toList).run P w = .ok none w:=DI (P:=P) h hk kQ pO hf cU
     have ala:w.heap.setIfInBounds (e.b i) (.map aq c')=w.heap:=by
      apply Array.ext_getElem?
      intro q
      by_cases hq:e.b i=q
      ·subst hq
       have ah:=(abM.1 hb).1
       rw[aen ah,hb]
      ·rw[aft hq]
     refine⟨w,?_,h⟩
     simp[Builtin.delete_,h0,au hu,xP hb,xf,eg,Fe hb,ala]
    ·cases hl
   ·cases hl
  ·cases hl
 ·cases hl
theorem acv (h:RH G F W e H w){dq:Array TypeId}{ty:TypeId}{x:AV}{x':Value}{H':Hp}(hx:VR e x x')(hl:DL P dq x H=some H') :
  ∃ w',(Builtin.clear_ dq ty #[x']).run P w = .ok (.tuple #[]) w'/\RH G F W e H' w':=by
 unfold DL at hl
 split at hl
 ·rename_i d hq
  obtain⟨t0,h0,hu⟩:=aa6.1 hq
  cases hl;cases hx
  exact⟨w,by simp[Builtin.clear_,h0,au hu],h⟩
 ·rename_i d hq
  obtain⟨t0,h0,hu⟩:=aa6.1 hq
  cases hl;cases hx
  exact⟨w,by simp[Builtin.clear_,h0,au hu],h⟩
 ·rename_i d i hq
  obtain⟨t0,h0,hu⟩:=aa6.1 hq
  obtain⟨hi,rfl⟩:=hx.EF
  split at hl
  ·rename_i es c hg
   cases hl
   obtain⟨_,aq,c',fs,hb,pO,kQ,dI,rA⟩:=wQ h hg
   refine⟨{ w with heap:=w.heap.setIfInBounds (e.b i) (.map #[] c') },?_,h.Kn hg (fs:=[]) (List.Perm.refl _) ⟨rfl,by simp⟩ (by simp) (by simp)⟩
   simp[Builtin.clear_,h0,au hu,xP hb,Fe hb]
  ·cases hl
 ·rename_i el i off n a1 a2 a3 hq
  obtain⟨t0,h0,hu⟩:=aa6.1 hq
  split at hl
  ·rename_i z hz
   obtain⟨inf,z0,iB,fQ,xT⟩:=xI (e:=e) hz
   rcases hx.lM with⟨o,c,hi,ho,oX,hc,gK,hn,rfl⟩ | ⟨rfl,_,a,rfl⟩
   ·cases n with
    | zero=>
     have:rep 0 z=[]:=rfl
     rw[this] at hl
     cases hl
     exact⟨w,by simp[Builtin.clear_,h0,au hu],h⟩
    | succ n=>
     have pB:=xT.rep (n+1)
     obtain⟨w',yc,hr⟩:=RH.Kt (P:=P) (off:=off) (k:=0) h hl pB ho
     have hzz:(Builtin.zeroCells z0.cells (n+1)).toList=(List.replicate (n+1) z0.cells.toList).flatten:=UR rfl _
     refine⟨w',?_,hr⟩
     simp only[Builtin.clear_,h0,ad0,nq,Sem.run_bind,au hu,Result.andThen_ok,qT iB fQ]
     rw[hzz,yc]
     simp
   ·have:rep 0 z=[]:=rfl
    rw[this] at hl
    cases hl
    exact⟨w,by simp[Builtin.clear_,h0,au hu],h⟩
  ·cases hl
 ·cases hl
theorem aoV (h:RH G F W e H w){dq:Array TypeId}{ty:TypeId}{x v:AV}{x':Value}(hx:VR e x x')(hl:zq P dq x H=some v) :
  ∃ v',(Builtin.len_ dq ty #[x']).run P w = .ok v' w/\VR e v v':=by
 unfold zq at hl
 split at hl
 ·rename_i s hq
  obtain⟨t0,h0,hu⟩:=aa6.1 hq
  obtain⟨b,rfl,rfl⟩:=hx.lj
  cases hl
  rw[wy]
  exact⟨_,by simp[Builtin.len_,h0,au hu];rfl,.int _ _⟩
 ·rename_i n el hq
  obtain⟨t0,h0,hu⟩:=aa6.1 hq
  cases hl
  exact⟨_,by simp[Builtin.len_,h0,au hu];rfl,.int _ _⟩
 ·rename_i el hq
  obtain⟨t0,h0,hu⟩:=aa6.1 hq
  cases hl;cases hx
  exact⟨_,by simp[Builtin.len_,h0,au hu];rfl,.int _ _⟩
 ·rename_i el a1 a2 n a3 a4 a5 hq
  obtain⟨t0,h0,hu⟩:=aa6.1 hq
  cases hl
  rcases hx.lM with⟨o,c,hi,ho,oX,hc,gK,hn,rfl⟩ | ⟨rfl,_,a,rfl⟩
  ·exact⟨_,by simp[Builtin.len_,h0,au hu];rfl,.int _ _⟩
  ·exact⟨_,by simp[Builtin.len_,h0,au hu];rfl,.int _ _⟩
 ·rename_i kt el hq
  obtain⟨t0,h0,hu⟩:=aa6.1 hq
  cases hl;cases hx
  exact⟨_,by simp[Builtin.len_,h0,au hu];rfl,.int _ _⟩
 ·rename_i kt el i hq
  obtain⟨t0,h0,hu⟩:=aa6.1 hq
  obtain⟨hi,rfl⟩:=hx.EF
  split at hl
  ·rename_i es c hg
   cases hl
   obtain⟨_,aq,c',fs,hb,pO,kQ,_⟩:=wQ h hg
   have:es.length=aq.size:=by have h1:=kQ.1;have h2:=pO.length_eq;have h3:aq.toList.length=aq.size:=af0;omega
   rw[this]
   exact⟨_,by simp[Builtin.len_,h0,au hu,xP hb];rfl,.int _ _⟩
  ·cases hl
 ·rename_i a hq
  obtain⟨t0,h0,hu⟩:=aa6.1 hq
  split at hl
  ·rename_i n el hua
   cases hl
   exact⟨_,by simp[Builtin.len_,h0,au hu,au hua];rfl,.int _ _⟩
  ·cases hl
 ·cases hl
theorem aqO {dq:Array TypeId}{ty:TypeId}{x v:AV}{x':Value}(hx:VR e x x')(hl:IY P dq x=some v)(w:World) :
  ∃ v',(Builtin.cap_ dq ty #[x']).run P w = .ok v' w/\VR e v v':=by
 unfold IY at hl
 split at hl
 ·rename_i el hq
  obtain⟨t0,h0,hu⟩:=aa6.1 hq
  cases hl;cases hx
  exact⟨_,by simp[Builtin.cap_,h0,au hu];rfl,.int _ _⟩
 ·rename_i el a1 a2 n c a5 hq
  obtain⟨t0,h0,hu⟩:=aa6.1 hq
  cases hl
  rcases hx.lM with⟨o,c',hi,ho,oX,hc,gK,hn,rfl⟩ | ⟨rfl,rfl,a,rfl⟩
  ·have:=gK rfl
   subst this
   exact⟨_,by simp[Builtin.cap_,h0,au hu];rfl,.int _ _⟩
  ·exact⟨_,by simp[Builtin.cap_,h0,au hu];rfl,.int _ _⟩
 ·cases hl
theorem UQ:∀ {l:List AV} {ls:List Value} {x v:AV} {x':Value},VR e x x'->az e l ls->BT false x l=some v->∃ v',(ls.foldlM Builtin.min2 x').run P w = .ok v' w/\VR e v v'
 | [],ls,x,v,x',hx,hl,h=>by
  rw[hl.iW];cases h;exact⟨x',by simp,hx⟩
 | y::l,ls,x,v,x',hx,hl,h=>by
  obtain⟨y',ws,rfl,hy,sD⟩:=hl.cons_inv
  unfold BT at h
  split at h
  ·rename_i z hz
   unfold O1 at hz
   split at hz
   ·cases hx.gQ;cases hy.gQ;cases hz
    obtain⟨v',h1,h2⟩:=UQ (.int _ _) sD h
    refine⟨v',?_,h2⟩
    simp only[List.foldlM_cons,Sem.run_bind,Builtin.min2,Sem.run_pure,Result.andThen_ok]
    exact h1
   ·cases hz
  ·cases h
theorem U5:∀ {l:List AV} {ls:List Value} {x v:AV} {x':Value},VR e x x'->az e l ls->BT true x l=some v->∃ v',(ls.foldlM Builtin.max2 x').run P w = .ok v' w/\VR e v v'
 | [],ls,x,v,x',hx,hl,h=>by
  rw[hl.iW];cases h;exact⟨x',by simp,hx⟩
 | y::l,ls,x,v,x',hx,hl,h=>by
  obtain⟨y',ws,rfl,hy,sD⟩:=hl.cons_inv
  unfold BT at h
  split at h
  ·rename_i z hz
   unfold O1 at hz
   split at hz
   ·cases hx.gQ;cases hy.gQ;cases hz
    obtain⟨v',h1,h2⟩:=U5 (.int _ _) sD h
    refine⟨v',?_,h2⟩
    simp only[List.foldlM_cons,Sem.run_bind,Builtin.max2,Sem.run_pure,Result.andThen_ok]
    exact h1
   ·cases hz
  ·cases h
end
end
section
variable {P:Program}{G:Nat}{F:Nat->Prop}{W:World}{e:Em}{H:Hp}{w:World}
theorem agP (h:RH G F W e H w){dq:Array TypeId}{ty:TypeId}{d x v:AV}{d' x':Value}{H':Hp}(hd:VR e d d')(hx:VR e x x')(hl:F0 P dq d x H=some (v,H')) :
  ∃ v' w',(Builtin.copy_ dq ty #[d',x']).run P w = .ok v' w'/\RH G F W e H' w'/\VR e v v':=by
 unfold F0 at hl
 split at hl
 ·rename_i el hq
  obtain⟨t0,h0,hu⟩:=aa6.1 hq
  split at hl
  ·rename_i es xl hs dW
   have hlen:(Builtin.lenOf x').run P w = .ok xl w/\∀ m,(Nat.min xl m=0->(Builtin.firstCells es (Nat.min xl m) x').run P w = .ok #[] w):=by
    unfold Mm at dW
    split at dW
    ·cases dW;cases hx;exact⟨by simp[Builtin.lenOf],fun m hm=>by simp[Builtin.firstCells]⟩
    ·cases dW
     rcases hx.lM with⟨o,c,hi,ho,oX,hc,gK,hn,rfl⟩ | ⟨rfl,_,a,rfl⟩
     ·exact⟨by simp[Builtin.lenOf],fun m hm=>by simp only[Builtin.firstCells,hm,afB];rfl⟩
     ·exact⟨by simp[Builtin.lenOf],fun m hm=>by simp only[Builtin.firstCells,hm,afB];rfl⟩
    ·cases dW
     obtain⟨b,rfl,rfl⟩:=hx.lj
     refine⟨by simp[Builtin.lenOf,wy],fun m hm => ?_⟩
     simp only[Builtin.firstCells,hm,Sem.run_pure]
     congr 1
     apply adl.1
     simp
    ·cases dW
   obtain⟨hlen,JH⟩:=hlen
   split at hl
   ·cases hl;cases hd
    refine⟨_,w,?_,h,.int _ _⟩
    have h1:=JH 0 (Nat.min_zero _)
    simp only[Builtin.copy_,h0,ad0,nq,gk,Sem.run_bind,au hu,Result.andThen_ok,hlen,gT hs,h1]
    simp[goInt]
   ·rename_i i off dl a1 a2 a3
    cases hz:Nat.beq (Nat.min xl dl) 0 with
    | true=>
     rw[hz] at hl
     cases hl
     have hm:Nat.min xl dl=0:=aba hz
     have h1:=JH dl hm
     rcases hd.lM with⟨o,c,hi,ho,oX,hc,gK,hn,rfl⟩ | ⟨rfl,_,a,rfl⟩
     ·refine⟨_,w,?_,h,.int _ _⟩
      simp only[Builtin.copy_,h0,ad0,nq,gk,Sem.run_bind,au hu,Result.andThen_ok,hlen,gT hs,h1]
      simp[goInt,storeCells,hm]
     ·refine⟨_,w,?_,h,.int _ _⟩
      simp only[Builtin.copy_,h0,ad0,nq,gk,Sem.run_bind,au hu,Result.andThen_ok,hlen,gT hs,h1]
      simp[goInt,storeCells,hm]
    | false=>
     rw[hz] at hl
     simp only[cond_false] at hl
     split at hl
     ·rename_i cs fC
      simp only[yB,abT] at hl
      obtain⟨H2,fW,rfl,rfl⟩:=hl
      have p9:∃ vs:List Value,az e cs vs/\(Builtin.firstCells es (Nat.min xl dl) x').run P w = .ok vs.toArray w:=by
       unfold RP at fC
       split at fC
       ·rename_i j asH jl b1 b2 b3
        rcases hx.lM with⟨o,c,hi,ho,oX,hc,gK,hn,rfl⟩ | ⟨rfl,_,a,rfl⟩
        ·obtain⟨vs,q1,q2,q3⟩:=h.AT fC ho
         refine⟨vs,q1,?_⟩
         have:=run_loadCells_list (P:=P) w ⟨e.b j,o,none⟩ vs (fun k u hk=>by rw[add_lit];exact q3 k u hk)
         rw[q2] at this
         simp[Builtin.firstCells,this]
        ·cases dW
         have:Nat.min 0 dl=0:=Nat.zero_min _
         rw[this] at hz;cases hz
       ·obtain⟨b,rfl,rfl⟩:=hx.lj
        cases fC
        cases dW
        refine⟨((b.extract 0 (Nat.min (bytes b).length dl)).data.toList).map fun u=>Value.int .u8 u.toNat,?_,?_⟩
        ·have je:=az.Vi b 0 (Nat.min (bytes b).length dl)
         rw[afO,ae9] at je
         rw[je]
         refine⟨by simp[bytes],fun k u v' hu cQ => ?_⟩
         simp only[bytes,agx,adh,yB] at hu cQ
         obtain⟨p,hp,rfl⟩:=hu
         obtain⟨p',wB,rfl⟩:=cQ
         rw[hp] at wB;cases wB
         exact .int _ _
        ·simp only[Builtin.firstCells,Sem.run_pure]
         congr 1
         apply adl.1
         simp
       ·cases fC
      obtain⟨vs,hvl,hfc⟩:=p9
      rcases hd.lM with⟨o,c,hi,ho,oX,hc,gK,hn,rfl⟩ | ⟨rfl,_,a,rfl⟩
      ·obtain⟨w',yc,hr⟩:=RH.Kt (P:=P) (off:=off) (k:=0) h fW hvl ho
       refine⟨_,w',?_,hr,.int _ _⟩
       simp only[Builtin.copy_,h0,ad0,nq,gk,Sem.run_bind,au hu,Result.andThen_ok,hlen,gT hs,hfc,yc]
       simp[goInt]
      ·have:Nat.min xl 0=0:=Nat.min_zero _
       rw[this] at hz;cases hz
     ·cases hl
   ·cases hl
  ·cases hl
 ·cases hl
theorem ami {el:TypeId}(hc:P.cellsOf el=1)(count o n:Nat)(hn:o+n<=count):liesAt P P.depth el count o el n=true:=by
 have hd:P.depth=(2*(P.types.size+Made.depth)+1)+1:=rfl
 rw[hd]
 simp only[liesAt,aff]
 left
 rw[hd]
 simp[rowAt,hc,hn,sameLayout,Nat.mod_one]
theorem akw {b:Nat}(w:World):∀ (us:List UInt8) (o:Nat) (acc:ByteArray),(∀ j v,(us.map (fun u=>Value.int .u8 u.toNat))[j]? = some v->w.cell? ⟨b,o+j,none⟩=some v)->
  (loadBytes ⟨b,o,none⟩ acc us.length).run P w = .ok ⟨acc.data++us.toArray⟩ w
 | us,o,acc,h=>by
  have:=Go.Lib.run_loadBytes (P:=P) w us ⟨b,o,none⟩ acc (fun j x hj=>by rw[add_lit];exact h j _ (by simp[hj]))
  exact this
theorem aoF {b o n:Nat}{C:Array Value}{el:TypeId}{fz:Nat × Nat}(dP:w.heap[b]? = some (.cells C el fz))(hn:¬ n=0) :
  ∃ fz2,(w.freeze ⟨b,o,none⟩ n).heap[b]? = some (.cells C el fz2)/\(∀ k,k≠b->(w.freeze ⟨b,o,none⟩ n).heap[k]? = w.heap[k]?)/\(w.freeze ⟨b,o,none⟩ n).heap.size=w.heap.size:=by
 simp only[World.freeze,if_neg hn]
 refine⟨_,Hy _ _ _ dP,fun k hk=>Gj _ _ _ _ (fun q=>hk q.symm),by simp⟩
theorem ale (h:RH G F W e H w){dq:Array TypeId}{ty:TypeId}{p v:AV}{n:Int}{k:IntKind}{p':Value}{H':Hp}(hp:VR e p p')(hl:KA P dq p k n H=some (v,H')) :
  ∃ v' w',(Builtin.unsafeString_ dq ty #[p',.int k n]).run P w = .ok v' w'/\RH G F W e H' w'/\VR e v v':=by
 have uu:IntKind.i64.max=9223372036854775807:=rfl
 unfold KA at hl
 split at hl
 rotate_left
 ·cases hl
 rename_i t0 t1 lx
 obtain rfl:dq = #[t0,t1]:=adl.1 lx
 have Ea:∀ q:Option Addr,n=0->(Builtin.unsafeString_ #[t0,t1] ty #[.pointer q,.int .i64 n]).run P w = .ok (.string .empty) w:=by
  intro q hn
  subst hn
  exact Go.Lib.run_unsafeString_none (P:=P) w t0 t1 ty q
 split at hl
 ·rename_i el hu
  cases hp
  split at hl
  ·rename_i hn;cases hl
   exact⟨.string .empty,w,Ea _ hn,h,.str .empty⟩
  ·cases hl
 ·rename_i el i off hu
  obtain⟨o,hi,ho,rfl⟩:=hp.pA
  split at hl
  ·rename_i hn;cases hl
   exact⟨.string .empty,w,Ea _ hn,h,.str .empty⟩
  ·rename_i lP
   split at hl
   ·rename_i c lo gS nM fl hg
    split at hl
    ·rename_i hc
     obtain⟨rfl,p8,qe,EY,sH⟩:=hc
     simp only[yB,aa6,abT] at hl
     obtain⟨bs,⟨cs,fC,BY⟩,rfl,rfl⟩:=hl
     obtain⟨vs,q1,q2,q3⟩:=h.AT fC ho
     obtain⟨us,rfl,rfl⟩:=Tc BY q1
     rw[adg] at q2
     obtain⟨_,ob,dP,dH,hF⟩:=h.obj i _ hg
     cases dH with
     | cells _ _ _ _ _ C fz hn gi PQ h1 hd=>
     have rY:o+n.toNat<=C.size:=by
      obtain⟨m,hm⟩:∃ m,us.length=m+1:=⟨us.length-1,by omega⟩
      have hq:=q3 m (Value.int .u8 (us[m]'(by omega)).toNat) (by simp[hm])
      simp only[World.cell?,dP] at hq
      have qC:=(abM.1 hq).1
      omega
     have vH:w.shape? (e.b i)=some (el,C.size):=by simp[World.shape?,dP]
     have hva:liesAt P P.depth el (C.size / P.cellsOf el) o el n.toNat=true:=by
      rw[p8,Nat.div_one];exact ami p8 _ _ _ rY
     have YD:=akw (P:=P) (b:=e.b i) w us o .empty q3
     rw[q2] at YD
     have Bt:¬ (n>IntKind.i64.max):=by rw[uu];omega
     have Xr:¬ n<0:=by omega
     have Bl:Builtin.unsafeString_ #[t0,t1] ty #[.pointer (some ⟨e.b i,o,none⟩),.int .i64 n]=
      (do
       let n <-asInt (.int .i64 n)
       if n<0 then runtimePanic (.error "unsafe.String: len out of range")
       if n>IntKind.i64.max then unsupported (.unsafePointer "String: a length above the largest int")
       if n=0 then Pure.pure (.string .empty)
       else if <-variablesAt ⟨e.b i,o,none⟩ (<-elemOf t0) n.toNat then do
        let s <-loadBytes ⟨e.b i,o,none⟩ .empty n.toNat
        Go.freeze ⟨e.b i,o,none⟩ n.toNat
        Pure.pure (.string s)
       else unsupported (.unsafePointer "String: not so many bytes at ptr")) := rfl
     have BH:¬ (9223372036854775807<n):=by omega
     have ur:¬ n.toNat=0:=by omega
     obtain⟨fz2,g1,g2,g3⟩:=aoF (w:=w) (o:=o) dP ur
     refine⟨.string ⟨us.toArray⟩,w.freeze ⟨e.b i,o,none⟩ n.toNat,?_,?_,.str ⟨us.toArray⟩⟩
     ·rw[Bl]
      simp[asInt,asIntOf,uu,Xr,BH,lP,elemOf,au hu,variablesAt,vH,hva,YD]
     ·refine h.put hg (by simp[wr,sH]) g3 g1 g2 (.cells _ _ _ _ _ _ _ hn gi (by simp) (by simp) hd) ?_ ?_ ?_
      ·simp[World.freeze,ur]
      ·simp[World.freeze,ur]
      ·simp[World.freeze,ur]
    ·cases hl
   ·cases hl
 ·cases hl
end
end Go.Proofs.YtehhgkgeldinkaaGreatDoor.Am
