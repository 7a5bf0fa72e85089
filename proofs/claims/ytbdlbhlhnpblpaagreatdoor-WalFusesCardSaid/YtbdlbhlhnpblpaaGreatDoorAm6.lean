/- Laws that the proof uses. -/
import Derived.Test.YtbdlbhlhnpblpaaGreatDoorAm5
import Derived.Stop.LaidErr
import Derived.Lib.LaidU8
import Derived.Laws.Externs
set_option linter.unusedVariables false
set_option linter.unusedSimpArgs false
namespace Go.Proofs.YtbdlbhlhnpblpaaGreatDoor.Am
open Go.RowKit
def oe (el:Nat->TypeId):List (Nat × List AV)->Tr AO
 | [] => .nil
 | (g,l)::r=>(oe el r).put 34 g (.cells (Tr.cR .nil 0 l) 0 l.length (el g) 2)
def oZ:List (Nat × AO)->Tr AO->Tr AO
 | [],t=>t
 | (i,o)::r,t=>(oZ r t).put 34 i o
theorem NR (el:Nat->TypeId):∀ (L:List (Nat × List AV)),(∀ x∈L,x.1<4294967296)->∀ (i:Nat) (o:AO),(oe el L).get i=some o->∃ l,(i,l)∈L/\o = .cells (Tr.cR .nil 0 l) 0 l.length (el i) 2
 | [],_,i,o,h=>by rw[oe,Tr.get_nil] at h;cases h
 | (g,l)::r,hb,i,o,h=>by
  rw[oe,Tr.Le _ _ _ _ _ (by have:=hb (g,l) (.head _);simp only at this;omega)] at h
  by_cases e:i=g
  ·rw[if_pos e] at h
   cases h
   subst e
   exact⟨l,.head _,rfl⟩
  ·rw[if_neg e] at h
   obtain⟨l',hm,ho⟩:=NR el r (fun x hx=>hb x (.tail _ hx)) i o h
   exact⟨l',.tail _ hm,ho⟩
theorem Ui:∀ (L:List (Nat × AO)) (t:Tr AO) (i:Nat) (o:AO),(oZ L t).get i=some o->(i,o)∈L\/t.get i=some o
 | [],t,i,o,h => .inr h
 | (j,x)::r,t,i,o,h=>by
  rw[oZ,Tr.put,Tr.eS] at h
  split at h
  ·rename_i e
   cases h
   subst e
   exact .inl (.head _)
  ·rcases Ui r t i o h with q | q
   ·exact .inl (.tail _ q)
   ·exact .inr q
def xO (W:World)(g:Nat):TypeId:=match W.heap[g]? with | some (.cells _ t _)=>t | _=>0
def Qy (W:World)(g:Nat):Nat:=match W.heap[g]? with | some (.cells c _ _)=>c.size | _=>0
def start (W:World)(G N:Nat)(bx:Nat->Nat)(dx:Nat->Int)(nx:Nat->Nat):Em:=
 { b:=fun i=>if i<G then i else bx i,d:=fun i=>if i<G then 0 else dx i,n:=fun i=>if i<G then Qy W i else if i=G then W.heap.size else nx i,N:=N }
theorem RH.start {W:World}{G N:Nat}(bx:Nat->Nat)(dx:Nat->Int)(nx:Nat->Nat){L:List (Nat × List AV)}{PO:List (Nat × AO)}(hN:G<N)(hG:G<4294967296)(cC:G<=W.heap.size)
  (hL:∀ g l,(g,l)∈L->g<G/\l.length<4294967296/\∃ cs t,W.heap[g]? = some (.cells cs t (0,0))/\∀ (k:Nat) (v:AV),l[k]? = some v->∃ v',cs[k]? = some v'/\VR (Am.start W G N bx dx nx) v v')
  (hP:∀ i o,(i,o)∈PO->G<i/\i<N/\wr o=false/\∃ ob,W.heap[bx i]? = some ob/\OR (Am.start W G N bx dx nx) i o ob) :
  RH G (fun k=>k<W.heap.size) W (Am.start W G N bx dx nx) ⟨oZ PO (oe (xO W) L),N⟩ W:=by
 have key:∀ i o,(oZ PO (oe (xO W) L)).get i=some o->i<N/\wr o=false/\(Am.start W G N bx dx nx).b i<W.heap.size/\∃ ob,W.heap[(Am.start W G N bx dx nx).b i]? = some ob/\OR (Am.start W G N bx dx nx) i o ob:=by
  intro i o h
  rcases Ui _ _ _ _ h with h | h
  ·obtain⟨h1,h2,h3,ob,h5,h6⟩:=hP i o h
   have eb:(Am.start W G N bx dx nx).b i=bx i:=by simp only[Am.start];rw[if_neg (by omega)]
   rw[eb]
   exact⟨h2,h3,(abH.1 h5).1,ob,h5,h6⟩
  ·obtain⟨l,hm,rfl⟩:=NR _ L (fun x hx=>by have:=(hL x.1 x.2 hx).1;omega) i o h
   obtain⟨hi,hl,cs,t,hw,hc⟩:=hL i l hm
   have eb:(Am.start W G N bx dx nx).b i=i:=by simp[Am.start,hi]
   rw[eb]
   refine⟨by omega,rfl,by omega,_,hw,?_⟩
   have he:xO W i=t:=by simp[xO,hw]
   have hs:Qy W i=cs.size:=by simp[Qy,hw]
   have hd:(Am.start W G N bx dx nx).d i=0:=by simp[Am.start,hi]
   rw[he]
   refine .cells _ 0 l.length t 2 cs (0,0) ?_ ?_ (by simp) (by simp) (fun _=>hd)
   ·simp[Am.start,hi,hs]
   ·intro k v _ hk hv
    rw[Tr.CP (α:=AV) .nil _ _ _ _ (by omega),if_pos (by omega),adD] at hv
    obtain⟨v',a,b⟩:=hc k v hv
    exact⟨k,by rw[hd];omega,v',a,b⟩
 have LH:(Am.start W G N bx dx nx).n G=W.heap.size:=by simp[Am.start]
 refine⟨rfl,?_,?_,?_,fun k hk=>⟨hk,rfl⟩,rfl,rfl,rfl,zf _,cC,hN,by rw[LH];exact zf _⟩
 ·intro i o h
  obtain⟨hi,hw,hb,ob,a,b⟩:=key i o h
  refine⟨hi,ob,a,b,?_⟩
  intro q
  rcases q with q | q
  ·rw[hw] at q;cases q
  ·rw[LH] at q;omega
 ·intro i j oi oj h1 h2 hq e
  obtain⟨_,hw,hb,_⟩:=key i oi h1
  rcases hq with q | q
  ·rw[hw] at q;cases q
  ·rw[LH] at q;omega
 ·intro g hg
  exact⟨ahZ hg hN,by simp[Am.start,hg],by simp[Am.start,hg]⟩
theorem am7 {P:Program}{ext:Nat->Option Ext}{b7:Nat->Option Prim}(hm:P.follows .mixedOrders=true)(hN:jA P)(hE:uy P ext)(hP:ot P b7){fuel g:Nat}{fn:Func}{b:Code}
  (hf:P.funcs[g]? = some fn) (hb:fn.body=some b) {W:World} {e:Em} {H:Hp} (h:KE (JE P ext b7 fuel g [] H)=true) (hR:RH P.globals.size (fun k=>k<W.heap.size) W e H W) :
  Calls P g #[] W fun en w'=>en = .returned (.bool true)/\Below W.heap.size W w':=by
 unfold KE at h
 split at h
 ·rename_i H' hc
  refine (alB hm hN hE hP hc hf hb hR (bV := #[]) (.nil e)).mono fun en w' ⟨e',v',he,_,cA,hv⟩ => ?_
  have:=hv.sH
  subst this
  exact⟨he,⟨cA.os,cA.tape,cA.output,cA.size,fun k hk=>(cA.frame k hk).2⟩⟩
 ·cases h
theorem Ot {P:Program}{w:World}:∀ {l:List (String × DataW Unit)} {ps:List MemPlace},DataW.LaidVars P w l ps->∀ {n d},(n,d)∈l->
  ∃ g cs,P.globalNamed n=some g/\w.var? P n=some cs/\∀ x∈MemPlace.row ⟨g,0,none⟩ cs.size,x∈ps
 | [],_,_,_,_,hm=>by cases hm
 | (n',d')::r,ps,h,n,d,hm=>by
  obtain⟨g,t,cs,fuel,p,q,h1,h2,h3,h4,h5,rfl⟩:=h
  rcases aap.1 hm with e | e
  ·cases e
   exact⟨g,cs,h1,h3,fun x hx=>aaz _ (aaz _ hx)⟩
  ·obtain⟨g',C7,a,b,c⟩:=Ot h5 e
   exact⟨g',C7,a,b,fun x hx=>No _ (c x hx)⟩
theorem Y1 {P:Program}{W:World}{l:List (String × DataW Unit)}(h:laidMet P l W){n:String}{d:DataW Unit}(hm:(n,d)∈l){g:Nat}(hg:P.globalNamed n=some g){cs:Array Value}
  (hv:W.var? P n=some cs) (hc:0<cs.size):∃ t,W.heap[g]? = some (.cells cs t (0,0)):=by
 obtain⟨ps,hl,_,hr⟩:=h
 obtain⟨g',C7,h1,h2,h3⟩:=Ot hl hm
 obtain rfl:=ada (hg.symm.trans h1)
 obtain rfl:=ada (hv.symm.trans h2)
 obtain⟨⟨c,t,hw⟩,_⟩:=hr g 0 (h3 _ (by simp[MemPlace.row];omega))
 simp only[World.var?,hg,ach,hw,acf] at hv
 subst hv
 exact⟨t,hw⟩
theorem Rq {P:Program}{W:World}{l:List (String × DataW Unit)}(h:laidMet P l W){name:String}{k:IntKind}{zs:List Int}(uT:(name,Lib.tabData k zs)∈l){g:Nat}{t e:TypeId}{n:Nat}
  (hg:P.globalNamed name=some g) (hty:(P.globals[g]?).map (·.type)=some t) (ht:P.underlying t=some (.array n e)) (he:P.underlying e=some (.int k)) (hce:P.cellsOf e=1) (T1:P.cellsOf t=n) (hz:zs≠[]) (em:Em) :
  ∃ cs t,W.heap[g]? = some (.cells cs t (0,0))/\∀ (i:Nat) (v:AV),(zs.map (AV.int k))[i]? = some v->∃ v',cs[i]? = some v'/\VR em v v':=by
 obtain⟨g',t',cs,fuel,p,mU,Ja,D9,hd⟩:=Lib.laidMet.reads h uT
 obtain rfl:=ada (hg.symm.trans mU)
 obtain rfl:=ada (hty.symm.trans Ja)
 have dP:=Lib.cells_of_tab ht he hce T1 hd
 have hlen:0<cs.size:=by
  have:=congrArg List.length dP
  simp at this
  rw[this]
  exact List.length_pos_iff.2 hz
 obtain⟨t2,hw⟩:=Y1 h uT hg D9 hlen
 refine⟨cs,t2,hw,fun i v hv => ?_⟩
 rw[acD,yS] at hv
 obtain⟨z,QD,rfl⟩:=hv
 refine⟨.int k z,?_,.int k z⟩
 rw[<-acF,dP,acD,QD]
 rfl
theorem Wx {P:Program}{n nm:String}{text:List UInt8}{l:List (String × DataW Unit)}{W:World}{g:Nat}{ti tp te ts:TypeId}{ms:Array (String × TypeId)}{f:Field}
  (h:laidMet P l W) (uT:(n,.iface nm (.ptr (.agg [.lit (.string text)])))∈l)
  (hg:P.globalNamed n=some g) (ht:(P.globals[g]?).map (·.type)=some ti) (hi:P.underlying ti=some (.interface ms)) (gV:∀ u,P.typeName? 3 u=some nm->u=tp)
  (hp:P.underlying tp=some (.pointer te)) (he:P.underlying te=some (.struct #[f])) (hft:f.type=ts) (Fv:f.offset=0) (hs:P.underlying ts=some .string) (hc:P.cellsOf te=1) (dP:P.cellsOf ts=1) :
  ∃ (b o:Nat) (t:TypeId),W.heap[g]? = some (.cells #[.iface tp (.pointer (some ⟨b,o,none⟩))] t (0,0)):=by
 obtain⟨g',t',cs,fuel,p,mU,Ja,D9,hd⟩:=Lib.laidMet.reads h uT
 obtain rfl:=ada (hg.symm.trans mU)
 obtain rfl:=ada (ht.symm.trans Ja)
 have Nu:∀ u v,cs.toList=[.iface u v]->Value.okWide P W .any 0 u v:=fun u v e=>by
  obtain⟨ps,hl,_,hr⟩:=h
  obtain⟨g2,C7,h1,h2,h3⟩:=Ot hl uT
  obtain rfl:=ada (hg.symm.trans h1)
  obtain rfl:=ada (D9.symm.trans h2)
  obtain rfl:cs = #[.iface u v]:=by cases cs;simp_all
  exact (hr g 0 (h3 _ (by simp[MemPlace.row]))).2 u v (by simpa using World.var?_cell hg D9 0)
 obtain⟨a,s,nO,wU,_⟩:=errorString_of_trod hi gV hp he hft Fv hs hc dP hd Nu
 obtain rfl:cs = #[.iface tp (.pointer (some a))]:=by cases cs;simp_all
 obtain⟨t2,hw⟩:=Y1 h uT hg D9 (by simp)
 obtain⟨b,o,sp⟩:=a
 have:sp=none:=by
  unfold World.cell? at wU
  split at wU
  ·cases sp with
   | none=>rfl
   | some x=>simp at wU
  ·cases wU
 subst this
 exact⟨b,o,t2,hw⟩
theorem Nr {P : Program}{cl : Nat}{fn : Func}{k : Ext}{e : Array Value -> Sem Value}(hf : P.funcs[cl]? = some fn)(afl : (fn.name == "runtime.NumGoroutine") = false) (hb : fn.body.isNone = true)
  (hn:Extern.findNext fn=none) (he:Extern.find fn=some e) (hk:F5 k=e) (bV:Array Value) (w:World) :
  (callFunc cl bV).run P w=(do Pure.pure (Next.value (<-F5 k bV)):Sem Next).run P w:=by
 rw[run_callFunc_extern hf afl hb hn he,hk,Sem.run_bind]
 rfl
end Go.Proofs.YtbdlbhlhnpblpaaGreatDoor.Am
