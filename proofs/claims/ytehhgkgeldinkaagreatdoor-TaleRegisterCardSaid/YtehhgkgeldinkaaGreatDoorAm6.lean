/- Laws that the proof uses. -/
import Derived.Test.YtehhgkgeldinkaaGreatDoorAm5
import Derived.Stop.LaidErr
import Derived.Lib.LaidU8
import Derived.Laws.Externs
set_option linter.unusedVariables false
set_option linter.unusedSimpArgs false
namespace Go.Proofs.YtehhgkgeldinkaaGreatDoor.Am
open Go.RowKit
def lh (el:Nat->TypeId):List (Nat × List AV)->Tr AO
 | [] => .nil
 | (g,l)::r=>(lh el r).put 34 g (.cells (Tr.dh .nil 0 l) 0 l.length (el g) 2)
def rK:List (Nat × AO)->Tr AO->Tr AO
 | [],t=>t
 | (i,o)::r,t=>(rK r t).put 34 i o
theorem OF (el:Nat->TypeId):∀ (L:List (Nat × List AV)),(∀ x∈L,x.1<4294967296)->∀ (i:Nat) (o:AO),(lh el L).get i=some o->∃ l,(i,l)∈L/\o = .cells (Tr.dh .nil 0 l) 0 l.length (el i) 2
 | [],_,i,o,h=>by rw[lh,Tr.get_nil] at h;cases h
 | (g,l)::r,hb,i,o,h=>by
  rw[lh,Tr.Ij _ _ _ _ _ (by have:=hb (g,l) (.head _);simp only at this;omega)] at h
  by_cases e:i=g
  ·rw[if_pos e] at h
   cases h
   subst e
   exact⟨l,.head _,rfl⟩
  ·rw[if_neg e] at h
   obtain⟨l',hm,ho⟩:=OF el r (fun x hx=>hb x (.tail _ hx)) i o h
   exact⟨l',.tail _ hm,ho⟩
theorem Uh:∀ (L:List (Nat × AO)) (t:Tr AO) (i:Nat) (o:AO),(rK L t).get i=some o->(i,o)∈L\/t.get i=some o
 | [],t,i,o,h => .inr h
 | (j,x)::r,t,i,o,h=>by
  rw[rK,Tr.put,Tr.fE] at h
  split at h
  ·rename_i e
   cases h
   subst e
   exact .inl (.head _)
  ·rcases Uh r t i o h with q | q
   ·exact .inl (.tail _ q)
   ·exact .inr q
def zD (W:World)(g:Nat):TypeId:=match W.heap[g]? with | some (.cells _ t _)=>t | _=>0
def QY (W:World)(g:Nat):Nat:=match W.heap[g]? with | some (.cells c _ _)=>c.size | _=>0
def start (W:World)(G N:Nat)(bx:Nat->Nat)(dx:Nat->Int)(nx:Nat->Nat):Em:=
 { b:=fun i=>if i<G then i else bx i,d:=fun i=>if i<G then 0 else dx i,n:=fun i=>if i<G then QY W i else if i=G then W.heap.size else nx i,N:=N }
theorem RH.start {W:World}{G N:Nat}(bx:Nat->Nat)(dx:Nat->Int)(nx:Nat->Nat){L:List (Nat × List AV)}{PO:List (Nat × AO)}(hN:G<N)(hG:G<4294967296)(dp:G<=W.heap.size)
  (hL:∀ g l,(g,l)∈L->g<G/\l.length<4294967296/\∃ cs t,W.heap[g]? = some (.cells cs t (0,0))/\∀ (k:Nat) (v:AV),l[k]? = some v->∃ v',cs[k]? = some v'/\VR (Am.start W G N bx dx nx) v v')
  (hP:∀ i o,(i,o)∈PO->G<i/\i<N/\wr o=false/\∃ ob,W.heap[bx i]? = some ob/\OR (Am.start W G N bx dx nx) i o ob) :
  RH G (fun k=>k<W.heap.size) W (Am.start W G N bx dx nx) ⟨rK PO (lh (zD W) L),N⟩ W:=by
 have key:∀ i o,(rK PO (lh (zD W) L)).get i=some o->i<N/\wr o=false/\(Am.start W G N bx dx nx).b i<W.heap.size/\∃ ob,W.heap[(Am.start W G N bx dx nx).b i]? = some ob/\OR (Am.start W G N bx dx nx) i o ob:=by
  intro i o h
  rcases Uh _ _ _ _ h with h | h
  ·obtain⟨h1,h2,h3,ob,h5,h6⟩:=hP i o h
   have eb:(Am.start W G N bx dx nx).b i=bx i:=by simp only[Am.start];rw[if_neg (by omega)]
   rw[eb]
   exact⟨h2,h3,(abM.1 h5).1,ob,h5,h6⟩
  ·obtain⟨l,hm,rfl⟩:=OF _ L (fun x hx=>by have:=(hL x.1 x.2 hx).1;omega) i o h
   obtain⟨hi,hl,cs,t,hw,hc⟩:=hL i l hm
   have eb:(Am.start W G N bx dx nx).b i=i:=by simp[Am.start,hi]
   rw[eb]
   refine⟨by omega,rfl,by omega,_,hw,?_⟩
   have he:zD W i=t:=by simp[zD,hw]
   have hs:QY W i=cs.size:=by simp[QY,hw]
   have hd:(Am.start W G N bx dx nx).d i=0:=by simp[Am.start,hi]
   rw[he]
   refine .cells _ 0 l.length t 2 cs (0,0) ?_ ?_ (by simp) (by simp) (fun _=>hd)
   ·simp[Am.start,hi,hs]
   ·intro k v _ hk hv
    rw[Tr.D5 (α:=AV) .nil _ _ _ _ (by omega),if_pos (by omega),ae9] at hv
    obtain⟨v',a,b⟩:=hc k v hv
    exact⟨k,by rw[hd];omega,v',a,b⟩
 have MP:(Am.start W G N bx dx nx).n G=W.heap.size:=by simp[Am.start]
 refine⟨rfl,?_,?_,?_,fun k hk=>⟨hk,rfl⟩,rfl,rfl,rfl,aar _,dp,hN,by rw[MP];exact aar _⟩
 ·intro i o h
  obtain⟨hi,hw,hb,ob,a,b⟩:=key i o h
  refine⟨hi,ob,a,b,?_⟩
  intro q
  rcases q with q | q
  ·rw[hw] at q;cases q
  ·rw[MP] at q;omega
 ·intro i j oi oj h1 h2 hq e
  obtain⟨_,hw,hb,_⟩:=key i oi h1
  rcases hq with q | q
  ·rw[hw] at q;cases q
  ·rw[MP] at q;omega
 ·intro g hg
  exact⟨Nat.lt_trans hg hN,by simp[Am.start,hg],by simp[Am.start,hg]⟩
theorem arR {P:Program}{ext:Nat->Option Ext}{aw:Nat->Option Prim}(hm:P.follows .mixedOrders=true)(hN:jY P)(hE:tZ P ext)(hP:qW P aw){fuel g:Nat}{fn:Func}{b:Code}
  (hf:P.funcs[g]? = some fn) (hb:fn.body=some b) {W:World} {e:Em} {H:Hp} (h:Lw (tT P ext aw fuel g [] H)=true) (hR:RH P.globals.size (fun k=>k<W.heap.size) W e H W) :
  Calls P g #[] W fun en w'=>en = .returned (.bool true)/\Below W.heap.size W w':=by
 unfold Lw at h
 split at h
 ·rename_i H' hc
  refine (abd hm hN hE hP hc hf hb hR (ar := #[]) (.nil e)).mono fun en w' ⟨e',v',he,_,cH,hv⟩ => ?_
  have:=hv.uU
  subst this
  exact⟨he,⟨cH.os,cH.tape,cH.output,cH.size,fun k hk=>(cH.frame k hk).2⟩⟩
 ·cases h
theorem Pp (P:Program):qW P (fun _=>none):=fun aB p h=>by cases h
theorem O6 {P:Program}{w:World}:∀ {l:List (String × DataW Unit)} {ps:List MemPlace},DataW.LaidVars P w l ps->∀ {n d},(n,d)∈l->
  ∃ g cs,P.globalNamed n=some g/\w.var? P n=some cs/\∀ x∈MemPlace.row ⟨g,0,none⟩ cs.size,x∈ps
 | [],_,_,_,_,hm=>by cases hm
 | (n',d')::r,ps,h,n,d,hm=>by
  obtain⟨g,t,cs,fuel,p,q,h1,h2,h3,h4,h5,rfl⟩:=h
  rcases yL.1 hm with e | e
  ·cases e
   exact⟨g,cs,h1,h3,fun x hx=>aaI _ (aaI _ hx)⟩
  ·obtain⟨g',Er,a,b,c⟩:=O6 h5 e
   exact⟨g',Er,a,b,fun x hx=>yX _ (c x hx)⟩
theorem Zg {P:Program}{W:World}{l:List (String × DataW Unit)}(h:laidMet P l W){n:String}{d:DataW Unit}(hm:(n,d)∈l){g:Nat}(hg:P.globalNamed n=some g){cs:Array Value}
  (hv:W.var? P n=some cs) (hc:0<cs.size):∃ t,W.heap[g]? = some (.cells cs t (0,0)):=by
 obtain⟨ps,hl,_,hr⟩:=h
 obtain⟨g',Er,h1,h2,h3⟩:=O6 hl hm
 obtain rfl:=adz (hg.symm.trans h1)
 obtain rfl:=adz (hv.symm.trans h2)
 obtain⟨⟨c,t,hw⟩,_⟩:=hr g 0 (h3 _ (by simp[MemPlace.row];omega))
 simp only[World.var?,hg,ac0,hw,acS] at hv
 subst hv
 exact⟨t,hw⟩
theorem RS {P:Program}{W:World}{l:List (String × DataW Unit)}(h:laidMet P l W){name:String}{k:IntKind}{zs:List Int}(qY:(name,Lib.tabData k zs)∈l){g:Nat}{t e:TypeId}{n:Nat}
  (hg:P.globalNamed name=some g) (hty:(P.globals[g]?).map (·.type)=some t) (ht:P.underlying t=some (.array n e)) (he:P.underlying e=some (.int k)) (hce:P.cellsOf e=1) (TX:P.cellsOf t=n) (hz:zs≠[]) (em:Em) :
  ∃ cs t,W.heap[g]? = some (.cells cs t (0,0))/\∀ (i:Nat) (v:AV),(zs.map (AV.int k))[i]? = some v->∃ v',cs[i]? = some v'/\VR em v v':=by
 obtain⟨g',t',cs,fuel,p,oe,Pb,Fk,hd⟩:=Lib.laidMet.reads h qY
 obtain rfl:=adz (hg.symm.trans oe)
 obtain rfl:=adz (hty.symm.trans Pb)
 have fC:=Lib.cells_of_tab ht he hce TX hd
 have hlen:0<cs.size:=by
  have:=congrArg List.length fC
  simp at this
  rw[this]
  exact List.length_pos_iff.2 hz
 obtain⟨t2,hw⟩:=Zg h qY hg Fk hlen
 refine⟨cs,t2,hw,fun i v hv => ?_⟩
 rw[adh,yB] at hv
 obtain⟨z,Q3,rfl⟩:=hv
 refine⟨.int k z,?_,.int k z⟩
 rw[<-adm,fC,adh,Q3]
 rfl
theorem WR {P:Program}{n nm:String}{text:List UInt8}{l:List (String × DataW Unit)}{W:World}{g:Nat}{ti tp te ts:TypeId}{ms:Array (String × TypeId)}{f:Field}
  (h:laidMet P l W) (qY:(n,.iface nm (.ptr (.agg [.lit (.string text)])))∈l)
  (hg:P.globalNamed n=some g) (ht:(P.globals[g]?).map (·.type)=some ti) (hi:P.underlying ti=some (.interface ms)) (jC:∀ u,P.typeName? 3 u=some nm->u=tp)
  (hp:P.underlying tp=some (.pointer te)) (he:P.underlying te=some (.struct #[f])) (hft:f.type=ts) (Gk:f.offset=0) (hs:P.underlying ts=some .string) (hc:P.cellsOf te=1) (fC:P.cellsOf ts=1) :
  ∃ (b o:Nat) (t:TypeId),W.heap[g]? = some (.cells #[.iface tp (.pointer (some ⟨b,o,none⟩))] t (0,0)):=by
 obtain⟨g',t',cs,fuel,p,oe,Pb,Fk,hd⟩:=Lib.laidMet.reads h qY
 obtain rfl:=adz (hg.symm.trans oe)
 obtain rfl:=adz (ht.symm.trans Pb)
 have Oi:∀ u v,cs.toList=[.iface u v]->Value.okWide P W .any 0 u v:=fun u v e=>by
  obtain⟨ps,hl,_,hr⟩:=h
  obtain⟨g2,Er,h1,h2,h3⟩:=O6 hl qY
  obtain rfl:=adz (hg.symm.trans h1)
  obtain rfl:=adz (Fk.symm.trans h2)
  obtain rfl:cs = #[.iface u v]:=by cases cs;simp_all
  exact (hr g 0 (h3 _ (by simp[MemPlace.row]))).2 u v (by simpa using World.var?_cell hg Fk 0)
 obtain⟨a,s,oW,vN,_⟩:=errorString_of_trod hi jC hp he hft Gk hs hc fC hd Oi
 obtain rfl:cs = #[.iface tp (.pointer (some a))]:=by cases cs;simp_all
 obtain⟨t2,hw⟩:=Zg h qY hg Fk (by simp)
 obtain⟨b,o,sp⟩:=a
 have:sp=none:=by
  unfold World.cell? at vN
  split at vN
  ·cases sp with
   | none=>rfl
   | some x=>simp at vN
  ·cases vN
 subst this
 exact⟨b,o,t2,hw⟩
theorem Jg {P : Program}{aB : Nat}{fn : Func}{k : Ext}{e : Array Value -> Sem Value}(hf : P.funcs[aB]? = some fn)(ahJ : (fn.name == "runtime.NumGoroutine") = false) (hb : fn.body.isNone = true)
  (hn:Extern.findNext fn=none) (he:Extern.find fn=some e) (hk:GL k=e) (ar:Array Value) (w:World) :
  (callFunc aB ar).run P w=(do Pure.pure (Next.value (<-GL k ar)):Sem Next).run P w:=by
 rw[run_callFunc_extern hf ahJ hb hn he,hk,Sem.run_bind]
 rfl
end Go.Proofs.YtehhgkgeldinkaaGreatDoor.Am
