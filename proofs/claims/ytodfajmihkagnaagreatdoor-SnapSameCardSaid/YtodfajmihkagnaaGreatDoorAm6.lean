/- Laws that the proof uses. -/
import Derived.Test.YtodfajmihkagnaaGreatDoorAm5
import Derived.Stop.LaidErr
import Derived.Lib.LaidU8
import Derived.Laws.Externs
set_option linter.unusedVariables false
set_option linter.unusedSimpArgs false
namespace Go.Proofs.YtodfajmihkagnaaGreatDoor.Am
open Go.RowKit
def uz (el:Nat->TypeId):List (Nat×List AV)->Tr AO
 |[]=>.nil|(g,l)::r=>(uz el r).put 34 g (.cells (Tr.cz .nil 0 l) 0 l.length (el g) 2)
def vb:List (Nat×AO)->Tr AO->Tr AO
 |[],t=>t|(i,o)::r,t=>(vb r t).put 34 i o
theorem V4 (el:Nat->TypeId):∀(L:List (Nat×List AV)),(∀x∈L,x.1<4294967296)->∀(i:Nat) (o:AO),(uz el L).get i=some o->∃l,(i,l)∈L/\o=.cells (Tr.cz .nil 0 l) 0 l.length (el i) 2
 |[],_,i,o,h=>by rw[uz,Tr.get_nil] at h;cases h
 |(g,l)::r,hb,i,o,h=>by
  rw[uz,Tr.Om _ _ _ _ _ (by have:=hb (g,l) (.head _);simp only at this;omega)] at h;by_cases e:i=g;·rw[zz2 e] at h;cases h;subst e;exact⟨l,.head _,rfl⟩
  ·rw[zz1 e] at h;obtain⟨l',hm,ho⟩:=V4 el r (λx hx=>hb x (.tail _ hx)) i o h;exact⟨l',.tail _ hm,ho⟩
theorem ach:∀(L:List (Nat×AO)) (t:Tr AO) (i:Nat) (o:AO),(vb L t).get i=some o->(i,o)∈L\/t.get i=some o
 |[],t,i,o,h=>.inr h|(j,x)::r,t,i,o,h=>by
  rw[vb,Tr.put,Tr.gE] at h;split at h;·rename_i e;cases h;subst e;exact .inl (.head _)
  ·rcases ach r t i o h with q|q;·exact .inl (.tail _ q)
   ·exact .inr q
def Eb (W:World)(g:Nat):TypeId:=match W.heap[g]? with|some (.cells _ t _)=>t|_=>0
def YW (W:World)(g:Nat):Nat:=match W.heap[g]? with|some (.cells c _ _)=>c.size|_=>0
def start (W:World)(G N:Nat)(bx:Nat->Nat)(dx:Nat->Int)(nx:Nat->Nat):Em:=
 {b:=λi=>if i<G then i else bx i,d:=λi=>if i<G then 0 else dx i,n:=λi=>if i<G then YW W i else if i=G then W.heap.size else nx i,N:=N}
section
variable {W:World}{fn:Func}{g:Nat}{l:List (String×DataW Unit)}
theorem RH.start {G N:Nat}(bx:Nat->Nat)(dx:Nat->Int)(nx:Nat->Nat){L:List (Nat×List AV)}{PO:List (Nat×AO)}(hN:G<N)(hG:G<4294967296)(fK:G<=W.heap.size)
  (hL:∀g l,(g,l)∈L->g<G/\l.length<4294967296/\∃cs t,W.heap[g]?=some (.cells cs t (0,0))/\∀(k:Nat) (v:AV),l[k]?=some v->∃v',cs[k]?=some v'/\VR (Am.start W G N bx dx nx) v v')
  (hP:∀i o,(i,o)∈PO->G<i/\i<N/\wr o=false/\∃ob,W.heap[bx i]?=some ob/\OR (Am.start W G N bx dx nx) i o ob):
  RH G (λk=>k<W.heap.size) W (Am.start W G N bx dx nx) ⟨vb PO (uz (Eb W) L),N⟩ W:=by
 have key:∀i o,(vb PO (uz (Eb W) L)).get i=some o->i<N/\wr o=false/\(Am.start W G N bx dx nx).b i<W.heap.size/\∃ob,W.heap[(Am.start W G N bx dx nx).b i]?=some ob/\OR (Am.start W G N bx dx nx) i o ob:=by
  intro i o h;rcases ach _ _ _ _ h with h|h
  ·obtain⟨h1,h2,h3,ob,h5,h6⟩:=hP i o h;have eb:(Am.start W G N bx dx nx).b i=bx i:=by simp only[Am.start];rw[zz1 zzz]
   rw[eb];exact⟨h2,h3,(abW.1 h5).1,ob,h5,h6⟩
  ·obtain⟨l,hm,rfl⟩:=V4 _ L (λx hx=>by have:=(hL x.1 x.2 hx).1;omega) i o h;obtain⟨hi,hl,cs,t,hw,hc⟩:=hL i l hm;have eb:(Am.start W G N bx dx nx).b i=i:=by simp[Am.start,hi]
   rw[eb];refine⟨zzz,rfl,zzz,_,hw,?_⟩;have he:Eb W i=t:=by simp[Eb,hw]
   have hs:YW W i=cs.size:=by simp[YW,hw]
   have hd:(Am.start W G N bx dx nx).d i=0:=by simp[Am.start,hi]
   rw[he];refine .cells _ 0 l.length t 2 cs (0,0) ?_ ?_ zzy zzy (λ_=>hd);·simp[Am.start,hi,hs]
   ·intro k v _ hk hv;rw[Tr.Jv (α:=AV) .nil _ _ _ _ zzz,zz2 zzz,agN] at hv;obtain⟨v',a,b⟩:=hc k v hv;exact⟨k,by rw[hd];omega,v',a,b⟩
 have Ug:(Am.start W G N bx dx nx).n G=W.heap.size:=by simp[Am.start]
 refine⟨rfl,?_,?_,?_,λk hk=>⟨hk,rfl⟩,rfl,rfl,rfl,aaq _,fK,hN,by rw[Ug];exact aaq _⟩
 ·intro i o h;obtain⟨hi,hw,hb,ob,a,b⟩:=key i o h;refine⟨hi,ob,a,b,?_⟩;intro q;rcases q with q|q;·rw[hw] at q;cases q
  ·rw[Ug] at q;omega
 ·intro i j oi oj h1 h2 hq e;obtain⟨_,hw,hb,_⟩:=key i oi h1;rcases hq with q|q;·rw[hw] at q;cases q
  ·rw[Ug] at q;omega
 ·intro g hg;exact⟨Nat.lt_trans hg hN,by simp[Am.start,hg],by simp[Am.start,hg]⟩
theorem aHS {P:Program}{ext:Nat->Option Ext}{bH:Nat->Option Prim}(hm:P.follows .mixedOrders=true)(hN:qQ P)(hE:A7 P ext)(hP:xm P bH){fuel:Nat}{b:Code}
  (hf:P.funcs[g]?=some fn) (hb:fn.body=some b) {e:Em} {H:Hp} (h:S4 (Q7 P ext bH fuel g [] H)=true) (hR:RH P.globals.size (λk=>k<W.heap.size) W e H W):
  Calls P g #[] W λen w'=>en=.returned (.bool true)/\Below W.heap.size W w':=by
 unfold S4 at h;split at h;·rename_i H' hc;refine (aFD hm hN hE hP hc hf hb hR (as' := #[]) (.nil e)).mono λen w' ⟨e',v',he,_,bp,hv⟩=>?_;have:=hv.wj;subst this;exact⟨he,⟨bp.os,bp.tape,bp.output,bp.size,λk hk=>(bp.frame k hk).2⟩⟩
 ·cases h
theorem Wv {P:Program}{w:World}:∀{l:List (String×DataW Unit)} {ps:List MemPlace},DataW.LaidVars P w l ps->∀{n d},(n,d)∈l->
  ∃g cs,P.globalNamed n=some g/\w.var? P n=some cs/\∀x∈MemPlace.row ⟨g,0,none⟩ cs.size,x∈ps
 |[],_,_,_,_,hm=>by cases hm
 |(n',d')::r,ps,h,n,d,hm=>by
  obtain⟨g,t,cs,fuel,p,q,h1,h2,h3,h4,h5,rfl⟩:=h;rcases aal.1 hm with e|e;·cases e;exact⟨g,cs,h1,h3,λx hx=>aaG _ (aaG _ hx)⟩
  ·obtain⟨g',JQ,a,b,c⟩:=Wv h5 e;exact⟨g',JQ,a,b,λx hx=>aaw _ (c x hx)⟩
theorem akc {P:Program}(h:laidMet P l W){n:String}{d:DataW Unit}(hm:(n,d)∈l)(hg:P.globalNamed n=some g){cs:Array Value}
  (hv:W.var? P n=some cs) (hc:0<cs.size):∃t,W.heap[g]?=some (.cells cs t (0,0)):=by
 obtain⟨ps,hl,_,hr⟩:=h;obtain⟨g',JQ,h1,h2,h3⟩:=Wv hl hm;obtain rfl:=ab0 (hg.symm.trans h1);obtain rfl:=ab0 (hv.symm.trans h2);obtain⟨⟨c,t,hw⟩,_⟩:=hr g 0 (h3 _ (by simp[MemPlace.row];omega));simp only[World.var?,hg,acf,hw,acM] at hv;subst hv;exact⟨t,hw⟩
theorem Z1 {P:Program}(h:laidMet P l W){name:String}{k:IntKind}{zs:List Int}(rR:(name,Lib.tabData k zs)∈l){t e:TypeId}{n:Nat}
  (hg:P.globalNamed name=some g) (hty:(P.globals[g]?).map (·.type)=some t) (ht:P.underlying t=some (.array n e)) (he:P.underlying e=some (.int k)) (hce:P.cellsOf e=1) (nY:P.cellsOf t=n) (hz:zs≠[]) (em:Em):
  ∃cs t,W.heap[g]?=some (.cells cs t (0,0))/\∀(i:Nat) (v:AV),(zs.map (AV.int k))[i]?=some v->∃v',cs[i]?=some v'/\VR em v v':=by
 obtain⟨g',t',cs,fuel,p,GL,tO,K7,hd⟩:=Lib.laidMet.reads h rR;obtain rfl:=ab0 (hg.symm.trans GL);obtain rfl:=ab0 (hty.symm.trans tO);have gS:=Lib.cells_of_tab ht he hce nY hd;have hlen:0<cs.size:=by have:=congrArg List.length gS;simp at this;rw[this];exact List.length_pos_iff.2 hz
 obtain⟨t2,hw⟩:=akc h rR hg K7 hlen;refine⟨cs,t2,hw,λi v hv=>?_⟩;rw[acd,aag] at hv;obtain⟨z,hz1,rfl⟩:=hv;refine⟨.int k z,?_,.int k z⟩;rw[<-aeq,gS,acd,hz1];rfl
theorem afN {P:Program}{n nm:String}{text:List UInt8}{ti tp te ts:TypeId}{ms:Array (String×TypeId)}{f:Field}
  (h:laidMet P l W) (rR:(n,.iface nm (.ptr (.agg [.lit (.string text)])))∈l)
  (hg:P.globalNamed n=some g) (ht:(P.globals[g]?).map (·.type)=some ti) (hi:P.underlying ti=some (.interface ms)) (IS:∀u,P.typeName? 3 u=some nm->u=tp)
  (hp:P.underlying tp=some (.pointer te)) (he:P.underlying te=some (.struct #[f])) (hft:f.type=ts) (XL:f.offset=0) (hs:P.underlying ts=some .string) (hc:P.cellsOf te=1) (gS:P.cellsOf ts=1):
  ∃(b o:Nat) (t:TypeId),W.heap[g]?=some (.cells #[.iface tp (.pointer (some ⟨b,o,none⟩))] t (0,0)):=by
 obtain⟨g',t',cs,fuel,p,GL,tO,K7,hd⟩:=Lib.laidMet.reads h rR;obtain rfl:=ab0 (hg.symm.trans GL);obtain rfl:=ab0 (ht.symm.trans tO);have VN:∀u v,cs.toList=[.iface u v]->Value.okWide P W .any 0 u v:=λu v e=>by
  obtain⟨ps,hl,_,hr⟩:=h;obtain⟨g2,JQ,h1,h2,h3⟩:=Wv hl rR;obtain rfl:=ab0 (hg.symm.trans h1);obtain rfl:=ab0 (K7.symm.trans h2);obtain rfl:cs=#[.iface u v]:=by cases cs;simp_all
  exact (hr g 0 (h3 _ (by simp[MemPlace.row]))).2 u v (by simpa using World.var?_cell hg K7 0)
 obtain⟨a,s,Jg,yA,_⟩:=errorString_of_trod hi IS hp he hft XL hs hc gS hd VN;obtain rfl:cs=#[.iface tp (.pointer (some a))]:=by cases cs;simp_all
 obtain⟨t2,hw⟩:=akc h rR hg K7 zzy;obtain⟨b,o,sp⟩:=a;have:sp=none:=by
  unfold World.cell? at yA;split at yA
  ·cases sp with
   |none=>rfl|some x=>simp at yA
  ·cases yA
 subst this;exact⟨b,o,t2,hw⟩
theorem Qg {P:Program}{aV:Nat}{k:Ext}{e:Array Value -> Sem Value}(hf:P.funcs[aV]?=some fn)(avN:(fn.name == "runtime.NumGoroutine")=false) (hb:fn.body.isNone=true)
  (hn:Extern.findNext fn=none) (he:Extern.find fn=some e) (hk:MP k=e) (as':Array Value) (w:World):
  (callFunc aV as').run P w=(do Pure.pure (Next.value (<-MP k as')):Sem Next).run P w:=by
 rw[run_callFunc_extern hf avN hb hn he,hk,Sem.run_bind];rfl
end
end Go.Proofs.YtodfajmihkagnaaGreatDoor.Am
