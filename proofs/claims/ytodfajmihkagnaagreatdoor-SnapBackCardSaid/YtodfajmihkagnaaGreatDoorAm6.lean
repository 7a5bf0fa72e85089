/- Laws that the proof uses. -/
import Derived.Test.YtodfajmihkagnaaGreatDoorAm5
import Derived.Stop.LaidErr
import Derived.Lib.LaidU8
import Derived.Laws.Externs
set_option linter.unusedVariables false
set_option linter.unusedSimpArgs false
namespace Go.Proofs.YtodfajmihkagnaaGreatDoor.Am
open Go.RowKit
def um (el:Nat->TypeId):List (Nat×List AV)->Tr AO
 |[]=>.nil|(g,l)::r=>(um el r).put 34 g (.cells (Tr.cl .nil 0 l) 0 l.length (el g) 2)
def uV:List (Nat×AO)->Tr AO->Tr AO
 |[],t=>t|(i,o)::r,t=>(uV r t).put 34 i o
theorem WA (el:Nat->TypeId):∀(L:List (Nat×List AV)),(∀x∈L,x.1<4294967296)->∀(i:Nat) (o:AO),(um el L).get i=some o->∃l,(i,l)∈L/\o=.cells (Tr.cl .nil 0 l) 0 l.length (el i) 2
 |[],_,i,o,h=>by rw[um,Tr.get_nil] at h;cases h
 |(g,l)::r,hb,i,o,h=>by
  rw[um,Tr.OI _ _ _ _ _ (by have:=hb (g,l) (.head _);simp only at this;omega)] at h;by_cases e:i=g;·rw[zz2 e] at h;cases h;subst e;exact⟨l,.head _,rfl⟩
  ·rw[zz1 e] at h;obtain⟨l',hm,ho⟩:=WA el r (λx hx=>hb x (.tail _ hx)) i o h;exact⟨l',.tail _ hm,ho⟩
theorem adg:∀(L:List (Nat×AO)) (t:Tr AO) (i:Nat) (o:AO),(uV L t).get i=some o->(i,o)∈L\/t.get i=some o
 |[],t,i,o,h=>.inr h|(j,x)::r,t,i,o,h=>by
  rw[uV,Tr.put,Tr.gL] at h;split at h;·rename_i e;cases h;subst e;exact .inl (.head _)
  ·rcases adg r t i o h with q|q;·exact .inl (.tail _ q)
   ·exact .inr q
def Ea (W:World)(g:Nat):TypeId:=match W.heap[g]? with|some (.cells _ t _)=>t|_=>0
def ZK (W:World)(g:Nat):Nat:=match W.heap[g]? with|some (.cells c _ _)=>c.size|_=>0
def start (W:World)(G N:Nat)(bx:Nat->Nat)(dx:Nat->Int)(nx:Nat->Nat):Em:=
 {b:=λi=>if i<G then i else bx i,d:=λi=>if i<G then 0 else dx i,n:=λi=>if i<G then ZK W i else if i=G then W.heap.size else nx i,N:=N}
section
variable {W:World}{fn:Func}{g:Nat}{l:List (String×DataW Unit)}
theorem RH.start {G N:Nat}(bx:Nat->Nat)(dx:Nat->Int)(nx:Nat->Nat){L:List (Nat×List AV)}{PO:List (Nat×AO)}(hN:G<N)(hG:G<4294967296)(fN:G<=W.heap.size)
  (hL:∀g l,(g,l)∈L->g<G/\l.length<4294967296/\∃cs t,W.heap[g]?=some (.cells cs t (0,0))/\∀(k:Nat) (v:AV),l[k]?=some v->∃v',cs[k]?=some v'/\VR (Am.start W G N bx dx nx) v v')
  (hP:∀i o,(i,o)∈PO->G<i/\i<N/\wr o=false/\∃ob,W.heap[bx i]?=some ob/\OR (Am.start W G N bx dx nx) i o ob):
  RH G (λk=>k<W.heap.size) W (Am.start W G N bx dx nx) ⟨uV PO (um (Ea W) L),N⟩ W:=by
 have key:∀i o,(uV PO (um (Ea W) L)).get i=some o->i<N/\wr o=false/\(Am.start W G N bx dx nx).b i<W.heap.size/\∃ob,W.heap[(Am.start W G N bx dx nx).b i]?=some ob/\OR (Am.start W G N bx dx nx) i o ob:=by
  intro i o h;rcases adg _ _ _ _ h with h|h
  ·obtain⟨h1,h2,h3,ob,h5,h6⟩:=hP i o h;have eb:(Am.start W G N bx dx nx).b i=bx i:=by simp only[Am.start];rw[zz1 zzz]
   rw[eb];exact⟨h2,h3,(acA.1 h5).1,ob,h5,h6⟩
  ·obtain⟨l,hm,rfl⟩:=WA _ L (λx hx=>by have:=(hL x.1 x.2 hx).1;omega) i o h;obtain⟨hi,hl,cs,t,hw,hc⟩:=hL i l hm;have eb:(Am.start W G N bx dx nx).b i=i:=by simp[Am.start,hi]
   rw[eb];refine⟨zzz,rfl,zzz,_,hw,?_⟩;have he:Ea W i=t:=by simp[Ea,hw]
   have hs:ZK W i=cs.size:=by simp[ZK,hw]
   have hd:(Am.start W G N bx dx nx).d i=0:=by simp[Am.start,hi]
   rw[he];refine .cells _ 0 l.length t 2 cs (0,0) ?_ ?_ zzy zzy (λ_=>hd);·simp[Am.start,hi,hs]
   ·intro k v _ hk hv;rw[Tr.JH (α:=AV) .nil _ _ _ _ zzz,zz2 zzz,agA] at hv;obtain⟨v',a,b⟩:=hc k v hv;exact⟨k,by rw[hd];omega,v',a,b⟩
 have UO:(Am.start W G N bx dx nx).n G=W.heap.size:=by simp[Am.start]
 refine⟨rfl,?_,?_,?_,λk hk=>⟨hk,rfl⟩,rfl,rfl,rfl,aaO _,fN,hN,by rw[UO];exact aaO _⟩
 ·intro i o h;obtain⟨hi,hw,hb,ob,a,b⟩:=key i o h;refine⟨hi,ob,a,b,?_⟩;intro q;rcases q with q|q;·rw[hw] at q;cases q
  ·rw[UO] at q;omega
 ·intro i j oi oj h1 h2 hq e;obtain⟨_,hw,hb,_⟩:=key i oi h1;rcases hq with q|q;·rw[hw] at q;cases q
  ·rw[UO] at q;omega
 ·intro g hg;exact⟨Nat.lt_trans hg hN,by simp[Am.start,hg],by simp[Am.start,hg]⟩
theorem aIx {P:Program}{ext:Nat->Option Ext}{bH:Nat->Option Prim}(hm:P.follows .mixedOrders=true)(hN:qR P)(hE:Bg P ext)(hP:xe P bH){fuel:Nat}{b:Code}
  (hf:P.funcs[g]?=some fn) (hb:fn.body=some b) {e:Em} {H:Hp} (h:Tw (Rx P ext bH fuel g [] H)=true) (hR:RH P.globals.size (λk=>k<W.heap.size) W e H W):
  Calls P g #[] W λen w'=>en=.returned (.bool true)/\Below W.heap.size W w':=by
 unfold Tw at h;split at h;·rename_i H' hc;refine (aGg hm hN hE hP hc hf hb hR (as' := #[]) (.nil e)).mono λen w' ⟨e',v',he,_,bp,hv⟩=>?_;have:=hv.y7;subst this;exact⟨he,⟨bp.os,bp.tape,bp.output,bp.size,λk hk=>(bp.frame k hk).2⟩⟩
 ·cases h
theorem Xi {P:Program}{w:World}:∀{l:List (String×DataW Unit)} {ps:List MemPlace},DataW.LaidVars P w l ps->∀{n d},(n,d)∈l->
  ∃g cs,P.globalNamed n=some g/\w.var? P n=some cs/\∀x∈MemPlace.row ⟨g,0,none⟩ cs.size,x∈ps
 |[],_,_,_,_,hm=>by cases hm
 |(n',d')::r,ps,h,n,d,hm=>by
  obtain⟨g,t,cs,fuel,p,q,h1,h2,h3,h4,h5,rfl⟩:=h;rcases aaD.1 hm with e|e;·cases e;exact⟨g,cs,h1,h3,λx hx=>aa1 _ (aa1 _ hx)⟩
  ·obtain⟨g',J1,a,b,c⟩:=Xi h5 e;exact⟨g',J1,a,b,λx hx=>aaT _ (c x hx)⟩
theorem ak1 {P:Program}(h:laidMet P l W){n:String}{d:DataW Unit}(hm:(n,d)∈l)(hg:P.globalNamed n=some g){cs:Array Value}
  (hv:W.var? P n=some cs) (hc:0<cs.size):∃t,W.heap[g]?=some (.cells cs t (0,0)):=by
 obtain⟨ps,hl,_,hr⟩:=h;obtain⟨g',J1,h1,h2,h3⟩:=Xi hl hm;obtain rfl:=acd (hg.symm.trans h1);obtain rfl:=acd (hv.symm.trans h2);obtain⟨⟨c,t,hw⟩,_⟩:=hr g 0 (h3 _ (by simp[MemPlace.row];omega));simp only[World.var?,hg,acf,hw,acD] at hv;subst hv;exact⟨t,hw⟩
theorem aaR {P:Program}(h:laidMet P l W){name:String}{k:IntKind}{zs:List Int}(rP:(name,Lib.tabData k zs)∈l){t e:TypeId}{n:Nat}
  (hg:P.globalNamed name=some g) (hty:(P.globals[g]?).map (·.type)=some t) (ht:P.underlying t=some (.array n e)) (he:P.underlying e=some (.int k)) (hce:P.cellsOf e=1) (n0:P.cellsOf t=n) (hz:zs≠[]) (em:Em):
  ∃cs t,W.heap[g]?=some (.cells cs t (0,0))/\∀(i:Nat) (v:AV),(zs.map (AV.int k))[i]?=some v->∃v',cs[i]?=some v'/\VR em v v':=by
 obtain⟨g',t',cs,fuel,p,GX,tE,Lg,hd⟩:=Lib.laidMet.reads h rP;obtain rfl:=acd (hg.symm.trans GX);obtain rfl:=acd (hty.symm.trans tE);have gQ:=Lib.cells_of_tab ht he hce n0 hd;have hlen:0<cs.size:=by have:=congrArg List.length gQ;simp at this;rw[this];exact List.length_pos_iff.2 hz
 obtain⟨t2,hw⟩:=ak1 h rP hg Lg hlen;refine⟨cs,t2,hw,λi v hv=>?_⟩;rw[ab9,aaq] at hv;obtain⟨z,hz1,rfl⟩:=hv;refine⟨.int k z,?_,.int k z⟩;rw[<-ad6,gQ,ab9,hz1];rfl
theorem agE {P:Program}{n nm:String}{text:List UInt8}{ti tp te ts:TypeId}{ms:Array (String×TypeId)}{f:Field}
  (h:laidMet P l W) (rP:(n,.iface nm (.ptr (.agg [.lit (.string text)])))∈l)
  (hg:P.globalNamed n=some g) (ht:(P.globals[g]?).map (·.type)=some ti) (hi:P.underlying ti=some (.interface ms)) (I0:∀u,P.typeName? 3 u=some nm->u=tp)
  (hp:P.underlying tp=some (.pointer te)) (he:P.underlying te=some (.struct #[f])) (hft:f.type=ts) (Yu:f.offset=0) (hs:P.underlying ts=some .string) (hc:P.cellsOf te=1) (gQ:P.cellsOf ts=1):
  ∃(b o:Nat) (t:TypeId),W.heap[g]?=some (.cells #[.iface tp (.pointer (some ⟨b,o,none⟩))] t (0,0)):=by
 obtain⟨g',t',cs,fuel,p,GX,tE,Lg,hd⟩:=Lib.laidMet.reads h rP;obtain rfl:=acd (hg.symm.trans GX);obtain rfl:=acd (ht.symm.trans tE);have Lz:∀u v,cs.toList=[.iface u v]->Value.okWide P W .any 0 u v:=λu v e=>by
  obtain⟨ps,hl,_,hr⟩:=h;obtain⟨g2,J1,h1,h2,h3⟩:=Xi hl rP;obtain rfl:=acd (hg.symm.trans h1);obtain rfl:=acd (Lg.symm.trans h2);obtain rfl:cs=#[.iface u v]:=by cases cs;simp_all
  exact (hr g 0 (h3 _ (by simp[MemPlace.row]))).2 u v (by simpa using World.var?_cell hg Lg 0)
 obtain⟨a,s,Jp,yx,_⟩:=errorString_of_trod hi I0 hp he hft Yu hs hc gQ hd Lz;obtain rfl:cs=#[.iface tp (.pointer (some a))]:=by cases cs;simp_all
 obtain⟨t2,hw⟩:=ak1 h rP hg Lg zzy;obtain⟨b,o,sp⟩:=a;have:sp=none:=by
  unfold World.cell? at yx;split at yx
  ·cases sp with
   |none=>rfl|some x=>simp at yx
  ·cases yx
 subst this;exact⟨b,o,t2,hw⟩
theorem Qy {P:Program}{aU:Nat}{k:Ext}{e:Array Value -> Sem Value}(hf:P.funcs[aU]?=some fn)(awy:(fn.name == "runtime.NumGoroutine")=false) (hb:fn.body.isNone=true)
  (hn:Extern.findNext fn=none) (he:Extern.find fn=some e) (hk:MX k=e) (as':Array Value) (w:World):
  (callFunc aU as').run P w=(do Pure.pure (Next.value (<-MX k as')):Sem Next).run P w:=by
 rw[run_callFunc_extern hf awy hb hn he,hk,Sem.run_bind];rfl
end
end Go.Proofs.YtodfajmihkagnaaGreatDoor.Am
