/- Laws that the proof uses. -/
import Derived.Test.YtodfajmihkagnaaGreatDoorAm9
import Derived.Test.YtodfajmihkagnaaGreatDoorShelf
import Derived.ProofKit
import Derived.Shelf.SortM.Plain
import Derived.Shelf.SortM.SortNone
import Derived.Shelf.Strconv.Itoa0
import Derived.Shelf.Strconv.Itoa2
import Derived.Shelf.Strconv.AtoiAll
import Derived.Test.YtodfajmihkagnaaGreatDoorAm14
import Derived.Test.YtodfajmihkagnaaGreatDoorProg
import Derived.Test.YtodfajmihkagnaaGreatDoorRows
import Derived.KernelRfl
set_option linter.unusedVariables false
set_option linter.unusedSimpArgs false
set_option maxRecDepth 100000
namespace Go.Proofs.YtodfajmihkagnaaGreatDoor.agH
open Go Go.Proofs Go.RowKit Go.Shelf
theorem apY:Am.CZ Tryz.prog 91 Am.LY:=by refine Am.asx (λas' w=>Am.AW (by unfold Am.qQ;kernel_rfl) Tryz.func91 rfl as' w) ?_;intro s c w hs hc ha;exact Any.strings_Trim_laid Tryz.lays160 zzw s c w hs hc ha
end Go.Proofs.YtodfajmihkagnaaGreatDoor.agH
namespace Go.Proofs.YtodfajmihkagnaaGreatDoor.jE
open Go Am Go.Sort Go.RowKit Go.Proofs
def TA:AV->Option Int
 |.int .i64 z=>some z|_=>none
def Ew:List AV->Option (List Int)
 |[]=>some []|v::r=>match TA v,Ew r with
  |some z,some l=>some (z::l)|_,_=>none
def vj (l:List Int):List AV:=l.map (AV.int .i64)
def sI (l:List Int):List Int:=l.mergeSort λx y=>decide (x<=y)
theorem aqB {v:AV}{z:Int}(h:TA v=some z):v=.int .i64 z:=by
 unfold TA at h;split at h;·cases h;rfl
 ·cases h
theorem adK:∀{l:List AV} {zs:List Int},Ew l=some zs->l=vj zs
 |[],zs,h=>by cases h;rfl
 |v::r,zs,h=>by
  unfold Ew at h;split at h;·rename_i z l h1 h2;cases h;rw[aqB h1,adK h2];rfl
  ·cases h
theorem agh:∀(zs:List Int),Ew (vj zs)=some zs
 |[]=>rfl|z::zs=>by show (match TA (AV.int .i64 z),Ew (vj zs) with|some z,some l=>some (z::l)|_,_=>none)=_;rw[agh zs];rfl
theorem ago (l:List Int):(sI l).length=l.length:=(List.mergeSort_perm l _).length_eq
noncomputable section
def aG6 (H:Hp)(i off:Nat)(c:Tr AV)(lo hi el fl:Nat)(r:Option (List Int)):Option (AV×Hp):=match r with
 |some zs=>some (.tuple [],{H with h:=H.h.bW i (.cells (c.cz off (vj (sI zs))) lo hi el fl)})|none=>none
open Classical in
def XJ (H:Hp)(i off n:Nat)(o:AO):Option (AV×Hp):=match o with
 |.cells c lo hi el fl=>if lo<=off/\off+n<=hi/\fl<=1 then aG6 H i off c lo hi el fl ((av H i off n).bind Ew) else none
 |_=>none
open Classical in
def xZ:Prim:=λargs H=>match args with
 |[.ah]=>some (.tuple [],H)|[.slice i off n cap ex es]=>if n=0 then some (.tuple [],H) else if es=1/\n<4611686018427387904 then (H.h.get i).bind (XJ H i off n) else none
 |_=>none
end
theorem Mn (e:Em):VR e (.tuple []) (.tuple #[]):=.tuple [] #[] rfl (λi v v' h=>by simp at h)
theorem aAP {f:Nat}(Ii:∀as' w,(callFunc f as').run Tryz.prog w=.ok (.enter f as') w)
  (h0:∀(p:Option Addr) (cap:Nat) (w:World),Calls Tryz.prog f #[.slice p 0 cap] w λe w'=>e=.returned (.tuple #[])/\w'=w)
  (h1:∀ (cC off cap:Nat) (zs:List Int) (w:World),Holds (Value.int .i64) w cC off zs.toArray->cC<w.heap.size->zs.length<4611686018427387904->
   Calls Tryz.prog f #[.slice (some ⟨cC,off,none⟩) zs.length cap] w λe w'=>e=.returned (.tuple #[])/\∃n os,w'=grow (putRow (Value.int .i64) (Sort.ahead w n) cC off (zs.mergeSort λx y=>decide (x<=y)).toArray) os):CZ Tryz.prog f xZ:=by
 intro args H v H' hp Fr W e w as' hR ha;unfold xZ at hp;split at hp;·obtain⟨a',r1,e1,oL,jX⟩:=ha.cons_inv;have e3:=jX.mc;subst e3;cases hp;cases oL;obtain rfl:as'=#[.slice none 0 0]:=aee.1 e1;refine⟨Ii _ _,(h0 none 0 w).mono ?_⟩;rintro en w' ⟨rfl,rfl⟩;exact⟨e,_,rfl,e.le_refl,hR,Mn e⟩
 ·rename_i i off n cap ex es;obtain⟨a',r1,e1,oL,jX⟩:=ha.cons_inv;have e3:=jX.mc;subst e3;split at hp
  ·rename_i nQ;subst nQ;cases hp;rcases oL.nL with⟨o,c,k1,k2,k3,k4,k5,k6,rfl⟩|⟨_,_,a,rfl⟩;·obtain rfl:as'=#[.slice (some ⟨e.b i,o,none⟩) 0 c]:=aee.1 e1;refine⟨Ii _ _,(h0 _ c w).mono ?_⟩;rintro en w' ⟨rfl,rfl⟩;exact⟨e,_,rfl,e.le_refl,hR,Mn e⟩
   ·obtain rfl:as'=#[.slice (some a) 0 0]:=aee.1 e1;refine⟨Ii _ _,(h0 _ 0 w).mono ?_⟩;rintro en w' ⟨rfl,rfl⟩;exact⟨e,_,rfl,e.le_refl,hR,Mn e⟩
  ·rename_i nQ;split at hp
   ·rename_i dY;obtain⟨rfl,Fe⟩:=dY;rcases oL.nL with⟨o,cc,k1,k2,k3,k4,k5,k6,rfl⟩|⟨q,_,a,rfl⟩
    ·obtain⟨ob0,hg,hp⟩:=aaC.1 hp;unfold XJ at hp;split at hp
     ·rename_i c lo hi el fl;split at hp
      ·rename_i vP;obtain⟨g1,g2,g3⟩:=vP;cases hr:(av H i off n).bind Ew with
       |none=>rw[hr] at hp;cases hp
       |some zs=>
        rw[hr] at hp;cases hp;obtain⟨l,hl,hz⟩:=aaC.1 hr;have hlz:=adK hz;obtain⟨cs,c1,c2,c3⟩:=hR.Ds hl k2;have hzn:zs.length=n:=by rw[<-c2,c1.1,hlz];simp[vj]
        have gS:∀j z,zs[j]?=some z->w.cell? ⟨e.b i,o+j,none⟩=some (.int .i64 z):=by intro j z hj;obtain⟨v',bT,dH⟩:=c1.get (i:=j) (v:=.int .i64 z) (by rw[hlz];simp[vj,hj]);have:=dH.il;subst this;exact c3 j _ bT
        obtain⟨hN,ob,eW,eN,hF⟩:=hR.obj i _ hg;cases eN with
        |cells _ _ _ _ _ C fz hn jI qY uq hd=>
         have fK:o+n<=C.size:=by rw[hn];omega
         have hH:Holds (Value.int .i64) w (e.b i) o zs.toArray:=by
          intro j hj;have lE:j<zs.length:=by simpa using hj
          refine⟨?_,?_⟩;·rw[gS j zs[j] (aai lE)];simp[lE]
          ·have:=uq g3 (o+j) zzz;simp only[World.frozen?,eW];exact this
         obtain rfl:as'=#[.slice (some ⟨e.b i,o,none⟩) n cc]:=aee.1 e1;have KF:=h1 (e.b i) o cc zs w hH (abW.1 eW).1 zzz;rw[hzn] at KF;refine⟨Ii _ _,KF.mono ?_⟩;rintro en w' ⟨rfl,m,os,rfl⟩;refine⟨e,_,rfl,e.le_refl,?_,Mn e⟩;have qW:=hR.drawn (w.drawn+m);have aC:(zs.mergeSort λx y=>decide (x<=y))=sI zs:=rfl;have mO:=ago zs;rw[aC];generalize sI zs=ss at*
         have iK:RH Tryz.prog.globals.size Fr W e {H with h:=H.h.bW i (.cells (c.cz off (vj ss)) lo hi el fl)} (putRow (Value.int .i64) (Sort.ahead w m) (e.b i) o ss.toArray):=by
          refine qW.put hg (by simp[wr,g3]) (su:=.cells (putCells (Value.int .i64) o ss.toArray C) el fz) ?_ ?_ ?_ ?_ rfl rfl rfl;·simp[putRow,mapBlock,Sort.ahead]
          ·simp only[putRow,mapBlock,Sort.ahead];rw[J0 _ _ _ eW];rfl
          ·intro k hk;simp only[putRow,mapBlock,Sort.ahead];rw[I7 _ _ _ _ (λq=>hk q.symm)]
          ·have kD:(putCells (Value.int .i64) o ss.toArray C).size=C.size:=by simp[putCells]
           refine .cells _ lo hi el fl _ fz (by rw[kD];exact hn) ?_ qY (by rw[kD];exact uq) hd;intro k u a b hk;rw[Tr.zj] at hk;have jC:(vj ss).length=n:=by simp[vj];omega
           rw[jC] at hk;by_cases jv:off<=k/\k<off+n
           ·rw[zz2 jv] at hk;have uh:k-off<ss.length:=zzz;have hu:u=.int .i64 ss[k-off]:=by
             have:(vj ss)[k-off]?=some (.int .i64 ss[k-off]):=by simp[vj,uh]
             rw[this] at hk;exact (ab0 hk).symm
            subst hu;refine⟨o+(k-off),zzz,.int .i64 ss[k-off],?_,.int _ _⟩;have hC:o+(k-off)<C.size:=zzz;simp only[putCells];rw[Array.getElem?_mapIdx,agw hC];simp only[ael,List.size_toArray];rw[zz2 zzz,aeE];simp[uh]
           ·rw[zz1 jv] at hk;obtain⟨I3,Dv,u',kI,dH⟩:=jI k u a b hk;refine⟨I3,Dv,u',?_,dH⟩;simp only[putCells];rw[Array.getElem?_mapIdx,kI];simp only[ael,List.size_toArray];rw[zz1 zzz]
         exact iK.below ⟨rfl,rfl,rfl,by simp[grow],λk hk=>by simp only[grow];rw[Array.getElem?_append_left hk]⟩
      ·cases hp
     ·cases hp
    ·omega
   ·cases hp
 ·cases hp
theorem asy:CZ Tryz.prog 192 xZ:=
 aAP (λas' w=>AW (by unfold qQ;kernel_rfl) Tryz.func192 rfl as' w)
  (λp cap w=>AnyM.slices_Sort_int_none Tryz.sortN p cap w) (λcC off cap zs w hH hb hl=>AnyM.slices_Sort_int Tryz.sortN cC off cap zs w hH hb hl)
end Go.Proofs.YtodfajmihkagnaaGreatDoor.jE
namespace Go.Proofs.YtodfajmihkagnaaGreatDoor.kJ
open Go Am Go.Sort Go.RowKit Go.Proofs jE
theorem abf:qQ Tryz.prog:=by unfold qQ;kernel_rfl
noncomputable section
open Classical in
def NC:Prim:=λargs H=>match args with
 |[.int .u64 x]=>if 0<=x/\x<=18446744073709551615 then some (.int .i64 (Lib.bitLen x.toNat),H) else none
 |_=>none
def qw (u n:Nat):List AV:=(List.range n).map λt=>AV.int .u8 ((Lib.dg u (n-1-t)).toNat)
open Classical in
def XW (H:Hp)(i off n u:Nat)(o:AO):Option (AV×Hp):=match o with
 |.cells c lo hi el fl=>if lo<=off/\off+n<=hi/\fl<=1/\(∃l,av H i off n=some l/\∀v∈l,∃b:Nat,b<256/\v=.int .u8 b) then some (.tuple [],{H with h:=H.h.bW i (.cells (c.cz off (qw u n)) lo hi el fl)}) else none
 |_=>none
open Classical in
def L3:Prim:=λargs H=>match args with
 |[.slice i off n cap ex es,.int .u64 u]=>if es=1/\0<n/\n<4611686018427387904/\0<=u/\u<18446744073709551616/\u.toNat<10^n then (H.h.get i).bind (XW H i off n u.toNat) else none
 |_=>none
structure Sj (H:Hp):Prop where
 syn:∃t p,cellAt H 6 0=some (.iface t p)
 rng:∃t p,cellAt H 7 0=some (.iface t p)
def Ad (s:List Nat):List UInt8:=s.map UInt8.ofNat
def PU (s:List Nat):AV:=match Lib.atoiAll (Ad s) with
 |.ok v=>.tuple [.int .i64 v,.nilIface]|.range=>.tuple [.int .i64 (Lib.atoiSat (Ad s)),.iface 269 .dG]|_=>.tuple [.int .i64 0,.iface 269 .dG]
open Classical in
def OM:Prim:=λargs H=>match args with
 |[.str s]=>if Sj H/\s.length<=281474976710656 then some (PU s,H) else none
 |_=>none
end
theorem azX:CZ Tryz.prog 182 NC:=by
 intro args H v H' hp F W e w as' hR ha;unfold NC at hp;split at hp
 ·rename_i x;split at hp;·rename_i hx;cases hp;obtain⟨a',r1,e1,oL,jX⟩:=ha.cons_inv;have e3:=jX.mc;subst e3;have:=oL.il;subst this;obtain rfl:as'=#[.int .u64 x]:=aee.1 e1;refine⟨AW abf Tryz.func182 rfl _ w,(Any.bits_Len64 Tryz.lays129 x w hx.1 hx.2).mono ?_⟩;rintro en w' ⟨rfl,rfl⟩;exact⟨e,_,rfl,e.le_refl,hR,.int _ _⟩
  ·cases hp
 ·cases hp
theorem VR.two {e:Em}{a b:AV}{a' b':Value}(h:VR e a a')(k:VR e b b'):VR e (.tuple [a,b]) (.tuple #[a',b']):=by
 refine .tuple _ _ rfl ?_;intro i v v' h1 h2
 match i,h1,h2 with
 |0,h1,h2=>cases h1;cases h2;exact h|1,h1,h2=>cases h1;cases h2;exact k
theorem aBC:CZ Tryz.prog 166 L3:=by
 intro args H v H' hp Fr W e w as' hR ha;unfold L3 at hp;split at hp
 ·rename_i i off n cap ex es u;obtain⟨a',r1,e1,oL,jX⟩:=ha.cons_inv;obtain⟨b',r2,e2,vY,rJ⟩:=jX.cons_inv;have e3:=rJ.mc;subst e3;have kI:=vY.il;subst kI;split at hp
  ·rename_i hc;obtain⟨rfl,nQ,Fe,hu0,aJg,aff⟩:=hc;obtain⟨un,rfl⟩:∃un:Nat,u=un:=⟨u.toNat,zzz⟩;rw[abO] at hp aff;rcases oL.nL with⟨o,cc,k1,k2,k3,k4,k5,k6,rfl⟩|⟨q,_,a,rfl⟩
   ·obtain⟨ob0,hg,hp⟩:=aaC.1 hp;unfold XW at hp;split at hp
    ·rename_i c lo hi el fl;split at hp
     ·rename_i vP;obtain⟨g1,g2,g3,l,hl,pB⟩:=vP;cases hp;obtain⟨cs,c1,c2,c3⟩:=hR.Ds hl k2;have fU:l.length=n:=by rw[<-c1.1,c2]
      obtain⟨d,eU,qb⟩:∃d:List UInt8,d.length=n/\∀(j:Nat) (z:UInt8),d[j]?=some z->l[j]?=some (AV.int .u8 (z.toNat:Int)):=by refine⟨l.map λv=>match v with|AV.int _ b=>UInt8.ofNat b.toNat|_=>0,by simp[fU],λj z hj=>?_⟩;rw[acd,aag] at hj;obtain⟨v,hv,rfl⟩:=hj;obtain⟨b,hb,rfl⟩:=pB v (aab hv);rw[hv];simp only[abO,UInt8.toNat_ofNat'];rw[ahT hb]
      have gS:∀(j:Nat) (z:UInt8),d[j]?=some z->w.cell? ⟨e.b i,o+j,none⟩=some (.int .u8 (z.toNat:Int)):=by intro j z hj;obtain⟨v',bT,dH⟩:=c1.get (qb j z hj);have:=dH.il;subst this;exact c3 j _ bT
      obtain⟨hN,ob,eW,eN,hF⟩:=hR.obj i _ hg;cases eN with
      |cells _ _ _ _ _ C fz hn jI qY uq hd=>
       have fK:o+n<=C.size:=by rw[hn];omega
       have hH:Holds (λ(b:UInt8)=>Value.int .u8 (b.toNat:Int)) w (e.b i) o d.toArray:=by
        intro j hj;have lE:j<d.length:=by simpa using hj
        refine⟨?_,?_⟩;·rw[gS j d[j] (aai lE)];simp[lE]
        ·have:=uq g3 (o+j) zzz;simp only[World.frozen?,eW];exact this
       obtain rfl:as'=#[.slice (some ⟨e.b i,o,none⟩) n cc,.int .u64 un]:=aee.1 (by rw[e1,e2]);have KF:=Any.internal_strconv_formatBase10 Tryz.lays285 (e.b i) o cc un d.toArray w hH (by simpa[eU] using aff) zzz (by simpa[eU] using Fe);have hdz:d.toArray.size=n:=by simp[eU]
       rw[hdz] at KF;refine⟨AW abf Tryz.func166 rfl _ w,KF.mono ?_⟩;rintro en w' ⟨rfl,m,v',dk,rfl,hinv⟩;refine⟨e,_,rfl,e.le_refl,?_,Mn e⟩;have hdk:∀t,t<n->dk[t]! = Lib.dg un (n-1-t):=λt ht=>hinv.done t (abg _) ht;have Ga:=hinv.size;have jC:(qw un n).length=n:=by simp[qw]
       have iK:RH Tryz.prog.globals.size Fr W e {H with h:=H.h.bW i (.cells (c.cz off (qw un n)) lo hi el fl)} (putRow (λ(b:UInt8)=>Value.int .u8 (b.toNat:Int)) w (e.b i) o dk):=by
        refine hR.put hg (by simp[wr,g3]) (su:=.cells (putCells (λ(b:UInt8)=>Value.int .u8 (b.toNat:Int)) o dk C) el fz) ?_ ?_ ?_ ?_ rfl rfl rfl;·simp[putRow,mapBlock]
        ·simp only[putRow,mapBlock];rw[J0 _ _ _ eW];rfl
        ·intro k hk;simp only[putRow,mapBlock];rw[I7 _ _ _ _ (λq=>hk q.symm)]
        ·have kD:(putCells (λ(b:UInt8)=>Value.int .u8 (b.toNat:Int)) o dk C).size=C.size:=by simp[putCells]
         refine .cells _ lo hi el fl _ fz (by rw[kD];exact hn) ?_ qY (by rw[kD];exact uq) hd;intro k u' a b hk;rw[Tr.zj,jC] at hk;by_cases jv:off<=k/\k<off+n
         ·rw[zz2 jv] at hk;have hj:k-off<n:=zzz;have hu:u'=.int .u8 ((Lib.dg un (n-1-(k-off))).toNat):=by
           have:(qw un n)[k-off]?=some (.int .u8 ((Lib.dg un (n-1-(k-off))).toNat)):=by simp[qw,hj]
           rw[this] at hk;exact (ab0 hk).symm
          subst hu;refine⟨o+(k-off),zzz,.int .u8 ((Lib.dg un (n-1-(k-off))).toNat),?_,.int _ _⟩;have hC:o+(k-off)<C.size:=zzz;simp only[putCells];rw[Array.getElem?_mapIdx,agw hC];simp only[ael];rw[zz2 zzz,aeE,hdk _ hj]
         ·rw[zz1 jv] at hk;obtain⟨I3,Dv,u2,uH,dH⟩:=jI k u' a b hk;refine⟨I3,Dv,u2,?_,dH⟩;simp only[putCells];rw[Array.getElem?_mapIdx,uH];simp only[ael];rw[zz1 zzz]
       exact iK.drawn _
     ·cases hp
    ·cases hp
   ·omega
  ·cases hp
 ·cases hp
theorem Sj.cells {Fr:Nat->Prop}{W:World}{e:Em}{H:Hp}{w:World}(h:Sj H)(hR:RH Tryz.prog.globals.size Fr W e H w):
  (∃t p,w.cell? ⟨6,0,none⟩=some (.iface t p))/\∃t p,w.cell? ⟨7,0,none⟩=some (.iface t p):=by
 have om:6<Tryz.prog.globals.size:=by rw[<-aeg];kernel_rfl
 have Cn:7<Tryz.prog.globals.size:=by rw[<-aeg];kernel_rfl
 have key:∀g k v,g<Tryz.prog.globals.size->cellAt H g (k:Nat)=some v->∃v',w.cell? ⟨g,k,none⟩=some v'/\VR e v v':=by intro g k v hg hc;obtain⟨_,o,ho,v',h1,h2⟩:=hR.load hc;obtain⟨_,hb,hd⟩:=hR.tI g hg;rw[hb] at h1;rw[hd] at ho;obtain rfl:o=k:=zzz;exact⟨v',h1,h2⟩
 refine⟨?_,?_⟩;·obtain⟨t,p,hc⟩:=h.syn;obtain⟨v',h1,h2⟩:=key _ 0 _ om hc;cases h2;exact⟨_,_,h1⟩
 ·obtain⟨t,p,hc⟩:=h.rng;obtain⟨v',h1,h2⟩:=key _ 0 _ Cn hc;cases h2;exact⟨_,_,h1⟩
theorem aDn (s:ByteArray):Ad (Am.bytes s)=s.data.toList:=by unfold Ad Am.bytes;rw[amb,alV (g:=id) (λx _=>zzy)];simp
theorem ayi:CZ Tryz.prog 173 OM:=by
 intro args H v H' hp F W e w as' hR ha;unfold OM at hp;split at hp
 ·rename_i s;split at hp
  ·rename_i hx;cases hp;obtain⟨hE,hlen⟩:=hx;obtain⟨a',r1,e1,oL,jX⟩:=ha.cons_inv;have e3:=jX.mc;subst e3;obtain⟨s',rfl,rfl⟩:=oL.oc;obtain rfl:as'=#[.string s']:=aee.1 e1;refine⟨AW abf Tryz.func173 rfl _ w,?_⟩;have hl:s'.size<=281474976710656:=by
    have:s'.size=(Am.bytes s').length:=by simp[Am.bytes]
    omega
   obtain⟨⟨t1,p1,q1⟩,⟨t2,p2,q2⟩⟩:=hE.cells hR;unfold PU;rw[aDn];cases hr:Lib.atoiAll s'.data.toList with
   |ok v=>
    refine (Any.strconv_Atoi_ok Tryz.laysC172 s' zzz v hr w).mono ?_;rintro en w' ⟨rfl,hw⟩;refine⟨e,_,rfl,e.le_refl,?_,VR.two (.int _ _) .nilIface⟩;rcases hw with rfl|⟨t,rfl⟩;·exact hR
    ·exact hR.below (Lib.bytesWorld_below _ _ _)
   |range=>
    refine (Any.strconv_Atoi_range Tryz.laysC172 s' hl hr _ w q2 (.inr ⟨_,_,rfl⟩)).mono ?_;rintro en w' ⟨N,rfl,_,_,hb⟩;exact⟨e,_,rfl,e.le_refl,hR.below hb,VR.two (.int _ _) (.iface _ _ _ (.dG _))⟩
   |_=>
    refine (Any.strconv_Atoi_syntax Tryz.laysC172 s' hl hr _ w q1 (.inr ⟨_,_,rfl⟩)).mono ?_;rintro en w' ⟨N,rfl,_,_,hb⟩;exact⟨e,_,rfl,e.le_refl,hR.below hb,VR.two (.int _ _) (.iface _ _ _ (.dG _))⟩
  ·cases hp
 ·cases hp
end Go.Proofs.YtodfajmihkagnaaGreatDoor.kJ
namespace Go.Proofs.YtodfajmihkagnaaGreatDoor.lq
open Go Go.RowKit Am
def ext (g:Nat):Option Ext:=bif Nat.beq g 168 then some .same else bif Nat.beq g 169 then some (.MG 52) else bif Nat.beq g 197 then some .Tt else bif Nat.beq g 171 then some .count else none
theorem anG:A7 Tryz.prog ext:=by
 intro aV k h as' w;unfold ext at h;cases h1:Nat.beq aV 168 with
 |true=>
  rw[h1] at h;cases h;obtain rfl:=aaY h1;exact Qg (e:=Extern.AbiNoEscape.same) Tryz.func168 zzw zzw zzw zzw rfl as' w
 |false=>
  rw[h1] at h;clear h1;cases h1:Nat.beq aV 169 with
  |true=>
   rw[h1] at h;cases h;obtain rfl:=aaY h1;exact Qg (e:=Extern.BytealgMakeNoZero.makeNoZero #[] #[52]) Tryz.func169 zzw zzw zzw zzw rfl as' w
  |false=>
   rw[h1] at h;clear h1;cases h1:Nat.beq aV 197 with
   |true=>
    rw[h1] at h;cases h;obtain rfl:=aaY h1;exact Qg (e:=Extern.BytealgIndexByte.indexByte) Tryz.func197 zzw zzw zzw zzw rfl as' w
   |false=>
    rw[h1] at h;clear h1;cases h1:Nat.beq aV 171 with
    |true=>
     rw[h1] at h;cases h;obtain rfl:=aaY h1;exact Qg (e:=Extern.BytealgCount.count) Tryz.func171 zzw zzw zzw zzw rfl as' w
    |false=>
     rw[h1] at h;clear h1;cases h
noncomputable def PW (g:Nat):Option Prim:=bif Nat.beq g 91 then some Am.LY else none
theorem anx:xm Tryz.prog PW:=by
 intro aV p h args H v H' hp;unfold PW at h;cases h1:Nat.beq aV 91 with
 |true=>
  rw[h1] at h;cases h;obtain rfl:=aaY h1;exact agH.apY args H v H' hp
 |false=>
  rw[h1] at h;clear h1;cases h
theorem aoJ:qQ Tryz.prog:=by unfold qQ;kernel_rfl
theorem mixed:Tryz.prog.follows .mixedOrders=true:=zzw
def QX:List Int:=[1,10,100,1000,10000,100000,1000000,10000000,100000000,1000000000,10000000000,100000000000,1000000000000,10000000000000,100000000000000,1000000000000000,10000000000000000,100000000000000000,1000000000000000000,10000000000000000000]
def ac9:List Int:=[0,1,28,2,29,14,24,3,30,22,20,15,25,17,4,8,31,27,13,23,21,19,16,7,26,12,18,6,11,5,10,9]
def amq:List Int:=[0,1,56,2,57,49,28,3,61,58,42,50,38,29,17,4,62,47,59,36,45,43,51,22,53,39,33,30,24,18,12,5,63,55,48,27,60,41,37,16,46,35,44,21,52,32,23,11,54,26,40,15,34,20,31,10,25,14,19,9,13,8,7,6]
def rI:List (Nat×List AV):=[(0,QX.map (AV.int .u64)),(4,ac9.map (AV.int .u8)),(5,amq.map (AV.int .u8)),(6,[.iface 290 (.ptr 10 0)]),(7,[.iface 290 (.ptr 9 0)])]
abbrev laid:List (String×DataW Unit):=[("math/bits.deBruijn32tab",Rows.laid_math_bits_deBruijn32tab),("math/bits.deBruijn64tab",Rows.laid_math_bits_deBruijn64tab),("internal/strconv.uint64pow10",Rows.laid_internal_strconv_uint64pow10),("unicode/utf8.acceptRanges",Rows.laid_unicode_utf8_acceptRanges),("strconv.ErrRange",Rows.laid_strconv_ErrRange),("strconv.ErrSyntax",Rows.laid_strconv_ErrSyntax),("unicode/utf8.first",Rows.laid_unicode_utf8_first)]
theorem star: "*" ++ "errors.errorString" = "*errors.errorString" :=zzx
theorem aoB (u:TypeId)(h:Tryz.prog.typeName? 3 u=some "*errors.errorString"):u=290 :=
 typeName_ptr_named (nm := "errors.errorString") (by rw[star];kernel_rfl) zzw zzx u (by rw[star];exact h)
theorem awW {W:World}(h:laidMet Tryz.prog laid W)(fK:8<=W.heap.size)(bx:Nat->Nat)(dx:Nat->Int)(nx:Nat->Nat){N:Nat}(hN:11<=N){PO:List (Nat×AO)}
  (hP:∀i o,(i,o)∈PO->11<=i/\i<N/\wr o=false/\∃ob,W.heap[bx i]?=some ob/\∀e:Em,e.N=N->(∀j,11<=j->e.b j=bx j/\e.d j=dx j/\e.n j=nx j)->OR e i o ob):
  ∃e,RH Tryz.prog.globals.size (λk=>k<W.heap.size) W e ⟨vb PO (uz (Eb W) rI),N⟩ W/\e.N=N/\∀j,11<=j->e.b j=bx j/\e.d j=dx j/\e.n j=nx j:=by
 have hs:Tryz.prog.globals.size=8:=zzw;rw[hs];obtain⟨b0,o0,t0,w0⟩:=afN (n := "strconv.ErrRange") (nm := "*errors.errorString") (tp:=290) (te:=292) (ts:=9) h (.tail _ (.tail _ (.tail _ (.tail _ (.head _))))) (g:=7) (ti:=183) zzw zzw Tryz.underlying183 aoB Tryz.underlying290 Tryz.underlying292 rfl rfl Tryz.underlying9 zzw zzw;obtain⟨b1,o1,t1,w1⟩:=afN (n := "strconv.ErrSyntax") (nm := "*errors.errorString") (tp:=290) (te:=292) (ts:=9) h (.tail _ (.tail _ (.tail _ (.tail _ (.tail _ (.head _)))))) (g:=6) (ti:=183) zzw zzw Tryz.underlying183 aoB Tryz.underlying290 Tryz.underlying292 rfl rfl Tryz.underlying9 zzw zzw;let bz:Nat->Nat:=λi=>if i=9 then b0 else if i=10 then b1 else bx i
 let dz:Nat->Int:=λi=>if i=9 then (o0:Int) else if i=10 then (o1:Int) else dx i
 have T0:=λem:Em=>Z1 (name := "internal/strconv.uint64pow10") (k:=.u64) (zs:=QX) h (.tail _ (.tail _ (.head _))) (g:=0) zzw zzw Tryz.underlying254 Tryz.underlying118 zzw zzw zzx em;have T4:=λem:Em=>Z1 (name := "math/bits.deBruijn32tab") (k:=.u8) (zs:=ac9) h (.head _) (g:=4) zzw zzw Tryz.underlying273 Tryz.underlying5 zzw zzw zzx em;have T5:=λem:Em=>Z1 (name := "math/bits.deBruijn64tab") (k:=.u8) (zs:=amq) h (.tail _ (.head _)) (g:=5) zzw zzw Tryz.underlying274 Tryz.underlying5 zzw zzw zzx em;have hj:∀j,11<=j->(Am.start W 8 N bz dz nx).b j=bx j/\(Am.start W 8 N bz dz nx).d j=dx j/\(Am.start W 8 N bz dz nx).n j=nx j:=by intro j hj;refine⟨?_,?_,?_⟩<;>simp only[Am.start,bz,dz]<;>(repeat rw[zz1 zzz])
 refine⟨Am.start W 8 N bz dz nx,RH.start bz dz nx zzz zzx fK ?_ ?_,rfl,hj⟩
 ·intro g l hm;simp only[rI,aal,abX,ajX,or_false] at hm;rcases hm with⟨rfl,rfl⟩|⟨rfl,rfl⟩|⟨rfl,rfl⟩|⟨rfl,rfl⟩|⟨rfl,rfl⟩;·exact⟨zzx,zzx,T0 _⟩
  ·exact⟨zzx,zzx,T4 _⟩
  ·exact⟨zzx,zzx,T5 _⟩
  ·refine⟨zzx,zzx,_,t1,w1,λk v hv=>?_⟩;cases k with
   |zero=>
    simp only[adp,acM] at hv;subst hv;exact⟨_,rfl,.iface _ _ _ (.ptr (e:=Am.start W 8 N bz dz nx) 10 0 o1 (show (10:Nat)<N by omega) (by simp[Am.start,dz]))⟩
   |succ k=>simp at hv
  ·refine⟨zzx,zzx,_,t0,w0,λk v hv=>?_⟩;cases k with
   |zero=>
    simp only[adp,acM] at hv;subst hv;exact⟨_,rfl,.iface _ _ _ (.ptr (e:=Am.start W 8 N bz dz nx) 9 0 o0 (show (9:Nat)<N by omega) (by simp[Am.start,dz]))⟩
   |succ k=>simp at hv
 ·intro i o hm;obtain⟨h1,h2,h3,ob,h4,h5⟩:=hP i o hm;exact⟨zzz,h2,h3,ob,by have:=(hj i h1).1;simp only[Am.start,zz1 (show ¬i<8 by omega)] at this;rw[this];exact h4,h5 _ rfl hj⟩
theorem azs:Tryz.prog.globals.size<11:=by have hs:Tryz.prog.globals.size=8:=zzw;omega
theorem atf (el:Nat->TypeId):S4 (Q7 (Tryz.prog) ext PW 20000 11 [] ⟨uz el rI,11⟩)=true:=zzw
theorem atq:CZ Tryz.prog 11 (P2 rI 11):=
 aAS mixed aoJ anG anx Tryz.func11 rfl azs
  (by
   have hs:Tryz.prog.globals.size=8:=zzw;rw[hs];intro g l hm;simp only[rI,aal,abX,ajX,or_false] at hm;rcases hm with⟨rfl,rfl⟩|⟨rfl,rfl⟩|⟨rfl,rfl⟩|⟨rfl,rfl⟩|⟨rfl,rfl⟩<;>exact⟨zzx,zzx,zzx,zzx⟩) λel=>atf el
noncomputable def abu (g:Nat):Option Prim:=bif Nat.beq g 182 then some kJ.NC else bif Nat.beq g 166 then some kJ.L3 else bif Nat.beq g 173 then some kJ.OM else bif Nat.beq g 192 then some jE.xZ else PW g
theorem asa:xm Tryz.prog abu:=by
 intro aV p h args H v H' hp;unfold abu at h;cases h1:Nat.beq aV 182 with
 |true=>
  rw[h1] at h;cases h;obtain rfl:=aaY h1;exact kJ.azX args H v H' hp
 |false=>
  rw[h1] at h;clear h1;cases h1:Nat.beq aV 166 with
  |true=>
   rw[h1] at h;cases h;obtain rfl:=aaY h1;exact kJ.aBC args H v H' hp
  |false=>
   rw[h1] at h;clear h1;cases h1:Nat.beq aV 173 with
   |true=>
    rw[h1] at h;cases h;obtain rfl:=aaY h1;exact kJ.ayi args H v H' hp
   |false=>
    rw[h1] at h;clear h1;cases h1:Nat.beq aV 192 with
    |true=>
     rw[h1] at h;cases h;obtain rfl:=aaY h1;exact jE.asy args H v H' hp
    |false=>
     rw[h1] at h;clear h1;exact anx aV p h args H v H' hp
noncomputable def bH (g:Nat):Option Prim:=bif Nat.beq g 11 then some (P2 rI 11) else abu g
theorem aHO:xm Tryz.prog bH:=by
 intro aV p h args H v H' hp;unfold bH at h;cases h1:Nat.beq aV 11 with
 |true=>
  rw[h1] at h;cases h;obtain rfl:=aaY h1;exact atq args H v H' hp
 |false=>
  rw[h1] at h;clear h1;exact asa aV p h args H v H' hp
theorem aAZ {Q:Type}{enc:TypeId×Value->Q}{g:Nat}{fn:Func}{b:Code}(hf:Tryz.prog.funcs[g]?=some fn)(hb:fn.body=some b)(an:Nat->K.An)(hA:K.AF Tryz.prog an){W:World}(hL:laidMet Tryz.prog laid W)(fK:8<=W.heap.size){base:Nat}{spare:Nat->Bool}{held:Bool}(mJ:∀b,spare b=true){u9:List K.Ty}{vs:List Value}
  (ha:K.ON enc Tryz.prog W base spare held u9 vs) (law:∀H as' ds,K.Kb H u9 as' ds->G4 H rI->11<=H.next->∃H',K.CK Tryz.prog (K.vX Tryz.prog) ext bH an (.func (.func g) [] []) as' H=some (.bool true,H')):
  Calls Tryz.prog g vs.toArray W λen w'=>en=.returned (.bool true)/\Below W.heap.size W w':=by
 obtain⟨as',os,ds,a1,a2,a3,a4⟩:=K.ao3 mJ ha 11;have hs:Tryz.prog.globals.size=8:=zzw;obtain⟨e,hR,hN,hj⟩:=awW hL fK (λi=>((os[i-11]?).map (·.b)).getD 0) (λ_=>0) (λi=>((os[i-11]?).map (·.n)).getD 0) (N:=11+os.length) zzz (PO:=K.Bi 11 os) (by
  intro i o hm;obtain⟨j,ob,h1,rfl,rfl⟩:=K.acq os 11 i o hm;have uh:=(aac.1 h1).1;have akR:∀e:Em,e.N=11+os.length->(∀j,11<=j->e.b j=((os[j-11]?).map (·.b)).getD 0/\e.d j=0/\e.n j=((os[j-11]?).map (·.n)).getD 0)->K.Fits e 11 os:=by intro e he hj;refine⟨zzz,λj o ho=>?_⟩;obtain⟨x,y,z⟩:=hj (11+j) zzz;rw[aeE,ho] at x z;exact⟨x,y,z⟩
  have hex:∃ow,W.heap[ob.b]?=some ow:=by let e0:Em:=⟨λj=>((os[j-11]?).map (·.b)).getD 0,λ_=>0,λj=>((os[j-11]?).map (·.n)).getD 0,11+os.length⟩;obtain⟨ow,h,_⟩:=a2 e0 (akR e0 rfl λj _=>⟨rfl,rfl,rfl⟩) j ob h1;exact⟨ow,h⟩
  obtain⟨ow,how⟩:=hex;refine⟨zzz,zzz,a3 ob (aab h1),ow,?_,λe he hj=>?_⟩;·rw[aeE,h1];exact how
  ·obtain⟨ow2,h,h2⟩:=a2 e (akR e he hj) j ob h1;rw[how] at h;cases h;exact h2)
 have Ry:K.Fits e 11 os:=by refine⟨zzz,λj o ho=>?_⟩;obtain⟨x,y,z⟩:=hj (11+j) zzz;rw[aeE,ho] at x z;exact⟨x,y,z⟩
 have azf:K.Has ⟨vb (K.Bi 11 os) (uz (Eb W) rI),11+os.length⟩ 11 os:=⟨aaq _,λj o ho=>K.aj1 os 11 _ j o ho⟩;have hT:G4 ⟨vb (K.Bi 11 os) (uz (Eb W) rI),11+os.length⟩ rI:=by
  refine⟨Eb W,λg l hm=>?_⟩;have hg:g<11:=by simp only[rI,aal,abX,ajX,or_false] at hm;rcases hm with⟨rfl,rfl⟩|⟨rfl,rfl⟩|⟨rfl,rfl⟩|⟨rfl,rfl⟩|⟨rfl,rfl⟩<;>decide
  show (vb _ _).get g=_;rw[K.ac6 os 11 _ g hg];exact K.akQ _ _ zzx g l hm
 obtain⟨H',hk⟩:=law _ as' ds (a4 _ azf) hT (Nat.le_add_right _ _);refine (K.atN mixed aoJ anG aHO K.asr hA hk hf hb hR (as':=vs.toArray) (by simpa using a1 e Ry)).mono λen w' ⟨e',v',h1,_,bp,hv⟩=>?_;have:=hv.wj;subst this;exact⟨h1,⟨bp.os,bp.tape,bp.output,bp.size,λk hk=>(bp.frame k hk).2⟩⟩
end Go.Proofs.YtodfajmihkagnaaGreatDoor.lq
namespace Go.Proofs.YtodfajmihkagnaaGreatDoor.bq
open Go Am Am.K lq
noncomputable section
abbrev zi (n:Int):AV:=.int .i64 n
abbrev zf (g:Nat):AV:=.func (.func g) [] []
noncomputable abbrev P:Program:=Tryz.prog
def zzM:List Nat:=[2,5,7,8,23,24,25,31,32,33]
def zzO:List Nat:=[1,2,3,4,14,15,16,22,23,24]
def zzP:List Nat:=[0,1]
def zzQ:List Nat:=[2,5,7,8,23,24,25]
def zzR:List Nat:=[1,2,3,14,15,16]
def zzT:List Nat:=[0,2,3]
def zzU:List Nat:=[0,1,5,6,7,8,9,10]
def zzV:List Nat:=[1,3,7,8,56,57,58]
def zzW:List Nat:=[1,3,5,6,13,14,15]
def zzX:List Nat:=[1,2,4,11,12]
def zzY:List Nat:=[1,2,7,14,15,16]
def zzZ:List Nat:=[0,2,3,20,21,22]
def de:An:=(.cd .nl .nl)
def zzD:An:=(.n .nl)
def zzS:An:=(.b .nl)
def zzE:An:=(.n zzD)
def zzF:An:=(.cd zzD .nl)
def zzH:An:=(.n de)
def zzN:An:=(.b zzD)
def zzC:An:=(.n zzF)
def zzK:An:=(.n zzE)
def zzI:An:=(.n (.q zzC zzD))
def zzJ:An:=(.n (.cd zzD zzC))
def zzL:An:=(.n (.cd .nl (.n (.cd .nl (.n (.cd .nl zzH))))))
def zzG:An:=(.n (.s [] (.n (.v [] (.lp [0,1,7,8] (.n (.q de (.s [0,1,7,8] (.b (.n (.t [0,1,5,7,8,16] zzF))) .nl)))))) zzD))
def zzA:An:=(.n (.s zzP (.t [0,1,10] zzF) (.s [] (.n (.v [] (.lp [0,1,12,13] (.n (.q de (.s [0,1,12,13] (.b (.n (.t [0,1,12,13,24] zzF))) .nl)))))) zzD)))
def zzB:An:=(.n (.s [0,1,2] (.t [0,1,2,14] zzF) (.s [] (.n (.v [] (.lp [1,2,15,16,17] (.n (.q de (.s [1,2,15,16,17] (.b (.t [1,2,7,8,15,16,17] (.t [1,2,8,9,15,16,17] (.t [1,2,15,16,17,30] zzF)))) .nl)))))) zzD)))
def Uw:List (Nat×An):=[(88,zzE),
 (116,(.n (.q zzC (.s [0,1,2,3] zzC (.s [0,1,2,3] zzH (.t [0,1,2,3] (.n (.n (.n (.s [0,9,10] (.v [0,9,10] (.lp [0,1,2,3,9,10] (.q zzH (.b (.n (.q zzH (.t [0,1,2,3,9,10,11] (.t [0,1,2,3,9,10] .nl)))))))) (.t [9,10] zzD))))))))))),
 (150,(.n (.s zzP zzC (.s zzP zzC (.n (.v [4] (.lp [0,1,5] (.b zzI)))))))),
 (151,zzE),
 (117,zzE),
 (85,(.n (.s zzP (.n (.b zzJ)) (.n (.s [0,1,5] (.n (.cd (.s [0,1,5] (.t [0,1,5,29] de) .nl) .nl)) (.s [0,1,5] (.n (.v [0,1,5] (.lp [0,1,5,39,40,41] (.n (.q de (.s [0,1,5,39,40,41] (.b (.n (.s [0,1,5,7,39,40,41] (.t [0,1,5,7,39,40,41,49] de) .nl))) .nl)))))) (.n (.n (.n (.s [8] (.n (.v [8] (.lp [1,8,63,64,65] (.n (.q de (.s [1,8,63,64,65] (.b zzE) .nl)))))) zzD)))))))))),
 (172,(.n (.n (.s [0,1,5] (.b (.t [0,1,5,16] (.cd zzD (.n (.cd zzD (.t [0,1,5,31] (.cd zzD (.t [0,1,5,36] zzF)))))))) (.n (.n (.n (.t [0,1,5,6,7,8,9] (.n (.s [] (.v [] (.lp zzU (.q zzH (.b (.s zzU (.t [0,1,5,6,7,8,9,10,64] (.cd (.t [0,1,5,6,7,8,9,10,11] (.q zzC .nl)) .nl)) (.s zzU (.t [0,1,5,6,7,8,9,10,93] zzF) (.n (.n (.t [0,1,5,6,7,8,9,10,107] (.cd (.t [8,12] (.s [] zzC zzD)) (.t [0,1,5,6,7,8,9,10,132] (.cd (.t [8,13] (.q zzC zzD)) .nl)))))))))))) zzD)))))))))),
 (186,zzE),
 (152,(.n (.s [0] (.n zzC) zzD))),
 (112,(.n (.s zzP zzH (.t [0,1,21] de)))),
 (113,(.n (.n (.t [1] zzD)))),
 (114,zzE),
 (147,(.t [0,6] (.cd .nl (.t [19] de)))),
 (148,(.t [0,4] (.t [0,4] .nl))),
 (84,zzE),
 (111,zzE),
 (146,(.n (.s zzP (.n (.cd (.s [0] (.t [0,17] zzF) (.n (.n (.s [0,5,6] zzH (.n (.t [0,5,7] (.s [5,7] (.n (.cd zzE .nl)) zzD))))))) .nl)) (.t [9] zzD)))),
 (164,(.n (.s [0] zzC zzD))),
 (165,zzK),
 (181,zzE),
 (183,zzI),
 (104,zzG),
 (94,zzE),
 (177,(.n (.s [] (.n (.v [] (.lp [0,3,7,8] (.n (.q de (.s [0,3,7,8] (.b (.n (.t [0,3,5,7,8,16] zzF))) .nl)))))) zzD))),
 (158,zzE),
 (143,zzE),
 (163,zzG),
 (174,zzG),
 (154,zzE),
 (95,zzE),
 (135,zzG),
 (136,zzI),
 (137,zzI),
 (138,zzI),
 (30,zzI),
 (72,zzA),
 (73,zzA),
 (74,zzA),
 (75,zzB),
 (155,(.n (.s [1] (.t [1,13] zzF) (.n (.s [] (.n (.v [] (.lp [1,3,16,17,18] (.n (.q de (.s [1,3,16,17,18] (.b (.n (.s [1,3,5,16,17,18] (.t [1,3,5,16,17,18,45] zzF) .nl))) .nl)))))) zzD))))),
 (175,zzE),
 (176,(.n (.q zzC (.n (.s [7] (.n (.v [7] (.lp zzY (.n (.q de (.s zzY (.v zzY (.n (.t [1,2,7,9,14,15,16,24] de))) .nl)))))) zzE))))),
 (157,zzE),
 (156,(.n (.n (.n (.s [5] (.n (.v [5] (.lp [2,5,6,7] (.q zzH (.s [2,5,6,7] (.v [2,5,6,7] (.n (.s [2,5,7,8] (.n (.v [2,5,7,8] (.lp zzQ (.n (.q de (.s zzQ (.v zzQ (.n (.t zzM (.v zzQ (.lp zzM (.n (.q de (.s zzM (.v zzM (.n (.t [2,5,7,8,12,23,24,25,31,32,33,41] (.cd (.t [2,5,7,8,12,23,24,25,31,32,33] .nl) .nl)))) .nl)))))))) .nl)))))) .nl))) .nl))))) zzD))))),
 (126,(.n (.q zzC (.n (.s [1,3,4] (.n (.v [1,3,4] (.lp [1,3,4,15,16] (.n (.q de (.s [1,3,4,15,16] (.v [1,3,4,15,16] (.n (.t [1,3,4,5,6,15,16] (.t [1,3,4,5,6,15,16,35] de)))) .nl)))))) (.q zzC (.n (.s [7] (.n (.v [7] (.lp [1,3,7,8] (.q zzH (.s [1,3,7,8] (.v [1,3,7,8] (.t zzV (.v [1,3,7,8] (.lp zzV (.n (.q de (.s zzV (.b (.n (.t [1,3,7,8,10,56,57,58,74] zzF))) .nl))))))) .nl))))) zzD)))))))),
 (54,zzE),
 (153,(.n (.s [0] zzC (.t [0,4,5] zzD)))),
 (118,(.n (.t [0,1,2,3,9,10] (.s [10] (.n (.v [10] (.n (.cd (.s [] (.n (.v [] (.lp [0,3,23,24,25] (.n (.q de (.s [0,3,23,24,25] (.b (.n (.n (.q zzC .nl)))) .nl)))))) zzD) (.n (.cd .nl (.n (.cd .nl (.n (.cd .nl (.n (.cd (.t [2] zzD) .nl)))))))))))) zzD)))),
 (89,(.n (.t [0,1,4,6] (.n (.s [4,6] (.n (.v [4,6] (.lp [1,4,6,7,20,21,22] (.n (.q de (.s [1,4,6,7,20,21,22] (.b (.n (.t [1,4,6,7,9,10,11,20,21,22] (.n (.s [1,4,6,7,13,20,21,22] (.t [1,4,6,7,13,20,21,22,50] zzF) .nl))))) .nl)))))) zzD))))),
 (53,(.n (.s [0,2] zzC (.n (.n (.s [2,4,5] (.n (.v [2,4,5] (.lp [2,4,5,20,21,22] (.n (.q de (.s [2,4,5,20,21,22] (.b (.n (.n (.t [2,4,5,8,20,21,22] .nl)))) .nl)))))) (.n (.s [2,9] (.n (.v [2,9] (.lp [2,5,9,39,40,41] (.n (.q de (.s [2,5,9,39,40,41] (.b (.n (.t [2,5,9,12,13,39,40,41] (.s [2,5,9,12,39,40,41] zzC .nl)))) .nl)))))) (.s [2,9] (.n zzC) zzD))))))))),
 (119,zzE),
 (125,(.n (.s [] (.n (.v [] (.lp [1,8,9,10] (.n (.q de (.s [1,8,9,10] (.b (.t [1,5,6,8,9,10] zzC)) .nl)))))) zzD))),
 (90,(.n (.s [1] (.t [1,10] zzF) (.n (.s [1] (.t [1,18,19,20] (.v [1] (.lp [1,18,19,20] (.n (.q de (.s [1,18,19,20] (.b (.n zzC)) .nl)))))) (.s [] (.t [35] zzF) zzD)))))),
 (120,zzE),
 (121,(.n (.t [2,4,6] zzE))),
 (122,zzE),
 (123,zzE),
 (124,(.n (.s [] (.n (.v [] (.lp [1,2,3,9,10,11] (.n (.q de (.s [1,2,3,9,10,11] (.b (.t [1,2,3,7,8,9,10,11] (.t [1,2,3,9,10,11,34] zzF))) .nl)))))) zzD))),
 (55,(.n (.q zzC (.n (.s [3] (.n (.v [3] (.lp [1,3,13,14,15] (.n (.q de (.s [1,3,13,14,15] (.v [1,3,13,14,15] (.n (.n (.s zzW (.n (.v zzW (.lp [1,3,5,6,13,14,15,22,23,24] (.n (.q de (.s [1,3,5,6,13,14,15,22,23,24] (.b (.t [1,3,5,6,7,8,13,14,15,22,23,24] (.s [1,3,5,6,8,13,14,15,22,23,24] zzH .nl))) .nl)))))) (.t zzW (.s [1,3,6,13,14,15] zzH .nl)))))) .nl)))))) zzD))))),
 (92,zzI),
 (127,(.n (.t [1,2,3] (.s [2,3] (.n (.v [2,3] (.lp zzR (.n (.q de (.s zzR (.v zzR (.t [1,2,3,4,5,14,15,16] (.n (.v zzR (.lp zzO (.n (.q de (.s zzO (.v zzO (.n (.t [1,2,3,4,7,8,14,15,16,22,23,24] (.t [1,2,3,4,8,14,15,16,22,23,24,48] de)))) .nl)))))))) .nl)))))) zzD)))),
 (76,(.n (.s [1,2] (.n zzC) (.t [2,5] zzE)))),
 (97,(.n (.t [1,2] (.s [1,2] (.t [1,2,13,14,15] (.v [1,2] (.lp [1,2,13,14,15] (.n (.q de (.s [1,2,13,14,15] (.b (.t [1,2,3,4,13,14,15] .nl)) .nl)))))) (.t [1,2] (.t [1,2] zzD)))))),
 (106,(.n (.n (.s [1,2] (.t [1,2,10,11,12] (.v [1,2] (.lp [1,2,10,11,12] (.n (.q de (.s [1,2,10,11,12] (.b (.t [1,2,3,4,10,11,12] (.t [1,2,3,4,5,10,11,12] (.s [1,2,3,10,11,12] (.t [1,2,3,10,11,12,47] de) .nl)))) .nl)))))) zzH)))),
 (144,zzE),
 (108,(.n (.s [] (.b (.t [2,5] (.cd zzD zzC))) zzD))),
 (109,(.n (.s [1,2,3] (.n zzC) (.s [] (.t [2,8] (.t [28] zzF)) zzD)))),
 (78,(.n (.s [1,2,3,4,8] (.n zzC) (.t [1,2,3,4,8,11] (.s [1,2,3,4,8,11] (.b (.n (.cd zzD (.t [1,2,3,4,8,11,29] zzF)))) (.n (.t [1,4,8,11] (.t [4,8] zzD)))))))),
 (79,(.n (.s [1,2,3,4,8] (.t [1,2,3,4,8,10] zzC) (.n (.t [4,8] zzE))))),
 (107,(.t [0,2,6,7] (.s [0,6] (.t [0,2,6,7,28] zzF) (.t [0] .nl)))),
 (80,(.n (.s [1,3,4,8] (.t [1,3,4,8,10] zzC) zzK))),
 (77,(.n (.n (.s [2,4] (.n (.v [2,4] (.lp zzX (.n (.q de (.s zzX (.v zzX (.n (.t [1,2,4,5,6,11,12] (.v zzX (.t [1,2,4,5,6,11,12,19] (.cd .nl (.t [1,2,4,5,6,11,12,31] (.cd .nl (.t [1,2,4,6,11,12,40] de))))))))) .nl)))))) zzD)))),
 (81,(.n (.s [2,3,4] (.b (.n (.cd zzD (.t [2,3,4,11] (.cd zzD (.t [2,3,4,17] zzF)))))) (.n (.t [2,4] zzE))))),
 (110,zzE),
 (36,zzK),
 (71,zzE),
 (145,(.n (.s zzP (.t [0,1,12] zzF) (.n (.s [5] (.n (.v [5] (.lp [1,5,6] (.s [1,5,6] (.t [1,5,6,21] de) (.q zzS .nl))))) zzD))))),
 (50,zzE),
 (86,zzE),
 (115,(.n (.s [] (.n (.v [] (.lp [1,2,10] (.n (.q de (.b (.n (.t [1,2,7,10,19] zzF)))))))) zzD))),
 (48,(.n (.s [] (.n (.b (.n (.cd zzD (.n (.cd zzD (.s [3,8] zzH (.cd zzD (.n (.cd zzD (.s [3,13] zzH (.cd zzD zzJ)))))))))))) zzD))),
 (87,zzE),
 (52,(.n (.s [2] (.n (.b (.n (.cd zzD (.n (.cd zzD (.n (.cd zzD (.n (.cd (.n (.s [2,5] zzH zzD)) zzJ)))))))))) (.s [2] zzC zzD)))),
 (49,(.n (.t [1,2,4,5] (.s [4,5] (.n (.v [4,5] (.lp [2,4,5,12] (.n (.q de (.v [2,4,5,12] (.n (.n (.v [2,4,5,12] (.n (.cd .nl (.n (.cd .nl (.n (.cd .nl zzL))))))))))))))) zzD)))),
 (21,zzK),
 (51,zzE),
 (44,zzE),
 (33,(.n (.s [0,2,4] (.t [0,2,4,8,9] zzC) (.s [0,2,4] (.t [0,2,4,30] (.cd (.t [0,2,4] .nl) .nl)) (.t [0,2,4] (.t [2] zzD)))))),
 (83,(.n (.t [6,7] zzD))),
 (32,(.n (.n (.s [3] (.t [0,3,9,10,11] (.v [3] (.lp [0,3,9,10,11] (.n (.q de (.s [0,3,9,10,11] zzN .nl)))))) zzD)))),
 (82,(.n (.s [1,2] zzC zzK))),
 (58,zzE),
 (18,zzE),
 (16,(.n (.q zzC (.s [0,3] (.n (.b (.n (.cd zzD (.n (.cd zzD zzJ)))))) (.s [0,3] (.t [0,3,38] zzF) zzD))))),
 (40,(.n (.s [0,1,2] (.t [0,1,2,8] zzC) (.t [0,1,9,10] (.q zzC (.s [0,1,9] (.t [0,1,9,34] zzF) (.t [0,1,9] (.t [] zzD)))))))),
 (41,(.n (.t [0,3,5,6] (.t [0,3,5,6,8] (.s [0,3,5] (.b (.n (.cd zzD (.t [0,3,5,30] (.cd zzD (.t [0,3,5,37] (.cd zzD (.t [0,3,5,44] zzF)))))))) (.t [0,3,9,10] (.q zzC (.t [0,3] (.s [] zzH zzD))))))))),
 (42,(.n (.s zzP (.t [0,1,11] zzF) (.t zzP (.s [] (.t [0,1,20,21] (.v [] (.lp [0,1,20,21] (.n (.q de (.s [0,1,20,21] zzN .nl)))))) zzD))))),
 (43,(.n (.t [0,3,5] (.n (.n (.s [5,6,7] (.n (.v [5,6,7] zzL)) (.s [7] zzH zzD))))))),
 (59,zzE),
 (56,(.n (.t [4,6,7] (.s [4,6] zzC (.t [4,8] zzD))))),
 (29,zzE),
 (45,zzE),
 (60,zzE),
 (23,(.n (.t zzT (.s zzT (.t zzZ (.v zzT (.lp zzZ (.n (.q de (.s zzZ zzN .nl)))))) (.s [2,3] (.t [2,3,41,42,43] (.v [2,3] (.lp [2,3,41,42,43] (.n (.q de (.s [2,3,41,42,43] (.b (.n (.t [2,3,7,41,42,43] .nl))) .nl)))))) zzD))))),
 (15,(.n zzK)),
 (34,zzE),
 (35,zzE),
 (13,(.n (.n (.s [3] (.n (.v [3] (.lp [3,7,8,9] (.n (.q de (.s [3,7,8,9] zzN .nl)))))) zzD)))),
 (22,(.n (.n (.s [1,4] (.t [1,4,55] zzF) (.t [1,4] (.s [1,4] (.n (.v [1,4] (.lp [1,4,62,63,64] (.n (.q de (.s [1,4,62,63,64] (.b (.t [1,4,5,6,62,63,64] (.t [1,4,5,6,7,62,63,64] (.t [1,4,62,63,64,101] zzF)))) .nl)))))) (.s [1,4] (.n (.v [1,4] (.lp [1,4,104,105,106] (.n (.q de (.s [1,4,104,105,106] (.b (.t [1,4,9,10,104,105,106] (.t [1,4,9,10,11,12,104,105,106] (.s [1,4,9,10,104,105,106] (.t [1,4,9,10,104,105,106,128] zzF) .nl)))) .nl)))))) (.s [4] (.n (.v [4] (.lp [4,148,149,150] (.n (.q de (.s [4,148,149,150] (.b (.n (.s [4,14,148,149,150] (.t [4,14,148,149,150,195] zzF) (.t [4,16,148,149,150] zzC)))) .nl)))))) zzD)))))))),
 (93,zzE),
 (57,(.n (.t [2,3,5,6] (.s [2,3,5] (.t [2,3,5,33] zzF) (.t [2,3,5] (.s [2,3] zzC (.s [2,3] (.n (.v [2,3] (.lp [2,3,48,49,50] (.n (.q de (.s [2,3,48,49,50] (.b (.t [2,3,7,8,48,49,50] (.t [2,3,7,8,9,48,49,50] (.t [2,3,48,49,50,104] zzF)))) .nl)))))) (.s [] (.n (.v [] (.lp [2,3,107,108,109] (.n (.q de (.s [2,3,107,108,109] (.b (.t [2,3,10,11,107,108,109] (.t [2,3,107,108,109,130] zzF))) .nl)))))) zzD)))))))),
 (96,zzE),
 (37,zzB),
 (38,zzB),
 (39,zzA),
 (31,zzI),
 (14,(.n (.n (.t [0,3] (.t [0,3] (.s [0,3] (.pr [0,3] (ZS 2 3 0)) (.t [0,3] (.s [3] (.t [3,52,53,54] (.v [3] (.lp [3,52,53,54] (.n (.q de (.s [3,52,53,54] zzN .nl)))))) zzD)))))))),
 (98,zzE),
 (100,zzE),
 (140,zzE),
 (141,zzE),
 (139,(.n (.t [3,4] zzD))),
 (99,(.n (.s zzP zzC (.t [1,6,7] (.s [6,7] (.n (.v [6,7] (.lp [6,7,18,19,20] (.n (.q de (.s [6,7,18,19,20] (.b (.n (.t [6,7,18,19,20] .nl))) .nl)))))) zzD))))),
 (65,(.n (.t [3] zzD))),
 (62,(.s zzP (.v zzP (.lp zzP (.q zzH (.s zzP zzS .nl)))) .nl)),
 (61,.nl),
 (63,(.t zzP .nl)),
 (142,zzD),
 (101,(.n (.n (.s [0] (.n (.v [0] (.lp [0,3,4] (.s [0,3,4] (.t [0,3,4,23] de) (.s [0,3,4] (.b (.t [0,3,4,5] (.t [0,3,4,5] (.q zzH (.s [0,3,4] (.t [0,3,4,57] de) (.t [3] zzD)))))) .nl))))) zzE)))),
 (67,zzE),
 (103,(.n (.n (.s [0,5] (.t [0,5,32] (.cd zzE .nl)) (.t [0,5,6] (.t [6] zzD)))))),
 (102,(.n (.n (.s [5] (.t [0,5,20] (.cd zzE .nl)) zzD)))),
 (69,zzE),
 (26,(.n (.s zzP (.t [0,1,20] zzF) (.n (.n (.n (.n (.t [5,6] (.s [5,6] (.n (.v [5,6] (.lp [5,6,34,35,36] (.n (.q de (.s [5,6,34,35,36] (.b (.t [5,6,7,8,34,35,36] zzD)) .nl)))))) (.t [5,6] (.s [5,6] (.n (.v [5,6] (.lp [5,6,56,57,58] (.n (.q de (.s [5,6,56,57,58] (.b (.t [5,6,9,10,56,57,58] (.t [5,6,10,56,57,58] .nl))) .nl)))))) (.t [5,6] (.s [6] (.n (.v [6] (.lp [6,78,79,80] (.n (.q de (.s [6,78,79,80] (.b zzK) .nl)))))) (.n (.s [6] (.n (.v [6] (.lp [6,13,100] (.n (.q de (.s [6,13,100] zzN .nl)))))) zzD))))))))))))))),
 (64,(.n (.t [0,3] (.s [0,3] (.n (.v [0,3] (.lp [0,3,14,15,16] (.n (.q de (.s [0,3,14,15,16] (.b (.n (.t [0,3,5,14,15,16] (.t [0,3,5,14,15,16] zzD)))) .nl)))))) (.t [0,3] (.n (.v [] (.lp [0,46,47,48] (.n (.q de (.s [0,46,47,48] zzN .nl))))))))))),
 (105,(.n (.t [0,4,5] (.t [0,4,5,7] (.s [0,4,7] (.n (.v [0,4,7] (.lp [0,4,7,19,20] (.n (.q de (.s [0,4,7,19,20] zzS .nl)))))) (.s [4,7] (.n (.v [4,7] (.lp [0,4,7,38,39] (.n (.q de (.s [0,4,7,38,39] zzS .nl)))))) zzD)))))),
 (68,(.n (.t zzT (.s zzT (.n (.v zzT (.lp [0,2,3,11,12] (.n (.q de (.s [0,2,3,11,12] (.b (.t [0,2,3,11,12] .nl)) .nl)))))) (.s zzT (.n (.v zzT (.lp [0,2,3,30,31] (.n (.q de (.s [0,2,3,30,31] (.b (.n (.n (.s [0,2,3,4,5,30,31] (.t [0,2,3,4,5,6,30,31] zzH) (.t [0,2,3,5,30,31] .nl))))) .nl)))))) (.s [2,3] (.n (.v [2,3] (.lp [0,2,3,62,63] (.n (.q de (.s [0,2,3,62,63] zzS .nl)))))) zzD)))))),
 (27,(.n (.s [0] (.t [0,17] zzF) (.t [0,5] (.n (.n (.t [0,5,6,8,9] (.s [6,8] (.t [6,8,45] zzF) zzD)))))))),
 (66,zzI),
 (70,zzE),
 (25,(.n (.t [0,3] (.s [3] (.n (.v [3] (.lp [0,3,4] (.s [0,3,4] (.t [0,3,4,17] de) (.s [0,3,4] zzS .nl))))) zzD)))),
 (10,(.n (.q zzC (.s [0,1,2] (.t [0,1,2,30] zzF) (.n (.n (.s [2,7,8] (.n (.v [2,7,8] (.lp [1,2,7,8,9] (.q zzH (.s [1,2,7,8,9] zzS .nl))))) (.t [7,8,10,11,12] zzD)))))))),
 (24,(.n (.n (.n (.t [1,2,3,4,5] zzD))))),
 (0,.nl)]
def an (g:Nat):An:=PQ Uw g
abbrev cK:CF:=CK P (vX P) ext bH an
abbrev yS (n:Nat):=JT->GT->CF->K.Fn n
abbrev yL (n m:Nat):=JT->GT->CF->K.Fn n->K.Fn m
abbrev yB (n m:Nat):=JT->GT->CF->K.Fn n->K.Fn m->K.Fn m
def yX {n:Nat}(g:Nat)(p v:List Nat)(k:Nat)(c:List Nat)(J:JT)(G:GT)(cf:CF)(x:K.Fn n):K.Fn v.length:=CV P an J G cf g p v λq t H=>match Nat.beq q k with|true=>app n x (aH c t) H|false=>none
abbrev yC0 (g:Nat)(s:yS 0):=∀{H:Hp} {r:AV×Hp},s JN GO cK  H=some r->cK (zf g) [] H=some r
section
variable {H:Hp}{a0 a1 a2:AV}{c:List Nat}{g k v0 v1 v2 v3 v4 v5:Nat}{r:AV×Hp}
theorem yM0 {s:yS 0}(e:∀J G cf H,F3 P J G bH an cf g [] H=s J G cf  H:=by intros;kernel_rfl):yC0 g s:=λh=>xP (first:=[]) (cap:=[]) ((e ..).trans h)
abbrev yC1 (g:Nat)(s:yS 1):=∀{a0:AV} {H:Hp} {r:AV×Hp},s JN GO cK a0 H=some r->cK (zf g) [a0] H=some r
theorem yM1 {s:yS 1}(e:∀J G cf (a0:AV) H,F3 P J G bH an cf g [a0] H=s J G cf a0 H:=by intros;kernel_rfl):yC1 g s:=λh=>xP (first:=[]) (cap:=[]) ((e ..).trans h)
abbrev yC2 (g:Nat)(s:yS 2):=∀{a0 a1:AV} {H:Hp} {r:AV×Hp},s JN GO cK a0 a1 H=some r->cK (zf g) [a0,a1] H=some r
theorem yM2 {s:yS 2}(e:∀J G cf (a0 a1:AV) H,F3 P J G bH an cf g [a0,a1] H=s J G cf a0 a1 H:=by intros;kernel_rfl):yC2 g s:=λh=>xP (first:=[]) (cap:=[]) ((e ..).trans h)
abbrev yC3 (g:Nat)(s:yS 3):=∀{a0 a1 a2:AV} {H:Hp} {r:AV×Hp},s JN GO cK a0 a1 a2 H=some r->cK (zf g) [a0,a1,a2] H=some r
theorem yM3 {s:yS 3}(e:∀J G cf (a0 a1 a2:AV) H,F3 P J G bH an cf g [a0,a1,a2] H=s J G cf a0 a1 a2 H:=by intros;kernel_rfl):yC3 g s:=λh=>xP (first:=[]) (cap:=[]) ((e ..).trans h)
abbrev yC4 (g:Nat)(s:yS 4):=∀{a0 a1 a2 a3:AV} {H:Hp} {r:AV×Hp},s JN GO cK a0 a1 a2 a3 H=some r->cK (zf g) [a0,a1,a2,a3] H=some r
theorem yM4 {s:yS 4}(e:∀J G cf (a0 a1 a2 a3:AV) H,F3 P J G bH an cf g [a0,a1,a2,a3] H=s J G cf a0 a1 a2 a3 H:=by intros;kernel_rfl):yC4 g s:=λh=>xP (first:=[]) (cap:=[]) ((e ..).trans h)
abbrev yQ2 {n:Nat}(l:yL n 2)(b:yB n 2):=∀(cf:CF) (x:K.Fn n) (a0 a1:AV) (H:Hp),l JN GO cf x a0 a1 H=b JN GO cf x (l JN GO cf x) a0 a1 H
theorem yq2 {n:Nat}{p:List Nat}{B:yB n 2}(h:∀J G cf x (j:K.Fn 2) (a0 a1:AV) H,xg P an J G cf g p [v0,v1] (λq t H=>match Nat.beq q k with|true=>app n x (aH c t) H|false=>none) j [a0,a1] H=B J G cf x j a0 a1 H:=by intros;kernel_rfl):yQ2 (yX g p [v0,v1] k c) B:=λcf x a0 a1 H=>(xq cf g p [v0,v1] _ [a0,a1] rfl H).trans (h ..)
abbrev yQ3 {n:Nat}(l:yL n 3)(b:yB n 3):=∀(cf:CF) (x:K.Fn n) (a0 a1 a2:AV) (H:Hp),l JN GO cf x a0 a1 a2 H=b JN GO cf x (l JN GO cf x) a0 a1 a2 H
theorem yq3 {n:Nat}{p:List Nat}{B:yB n 3}(h:∀J G cf x (j:K.Fn 3) (a0 a1 a2:AV) H,xg P an J G cf g p [v0,v1,v2] (λq t H=>match Nat.beq q k with|true=>app n x (aH c t) H|false=>none) j [a0,a1,a2] H=B J G cf x j a0 a1 a2 H:=by intros;kernel_rfl):yQ3 (yX g p [v0,v1,v2] k c) B:=λcf x a0 a1 a2 H=>(xq cf g p [v0,v1,v2] _ [a0,a1,a2] rfl H).trans (h ..)
abbrev yQ4 {n:Nat}(l:yL n 4)(b:yB n 4):=∀(cf:CF) (x:K.Fn n) (a0 a1 a2 a3:AV) (H:Hp),l JN GO cf x a0 a1 a2 a3 H=b JN GO cf x (l JN GO cf x) a0 a1 a2 a3 H
theorem yq4 {n:Nat}{p:List Nat}{B:yB n 4}(h:∀J G cf x (j:K.Fn 4) (a0 a1 a2 a3:AV) H,xg P an J G cf g p [v0,v1,v2,v3] (λq t H=>match Nat.beq q k with|true=>app n x (aH c t) H|false=>none) j [a0,a1,a2,a3] H=B J G cf x j a0 a1 a2 a3 H:=by intros;kernel_rfl):yQ4 (yX g p [v0,v1,v2,v3] k c) B:=λcf x a0 a1 a2 a3 H=>(xq cf g p [v0,v1,v2,v3] _ [a0,a1,a2,a3] rfl H).trans (h ..)
abbrev yQ5 {n:Nat}(l:yL n 5)(b:yB n 5):=∀(cf:CF) (x:K.Fn n) (a0 a1 a2 a3 a4:AV) (H:Hp),l JN GO cf x a0 a1 a2 a3 a4 H=b JN GO cf x (l JN GO cf x) a0 a1 a2 a3 a4 H
theorem yq5 {n:Nat}{p:List Nat}{B:yB n 5}(h:∀J G cf x (j:K.Fn 5) (a0 a1 a2 a3 a4:AV) H,xg P an J G cf g p [v0,v1,v2,v3,v4] (λq t H=>match Nat.beq q k with|true=>app n x (aH c t) H|false=>none) j [a0,a1,a2,a3,a4] H=B J G cf x j a0 a1 a2 a3 a4 H:=by intros;kernel_rfl):yQ5 (yX g p [v0,v1,v2,v3,v4] k c) B:=λcf x a0 a1 a2 a3 a4 H=>(xq cf g p [v0,v1,v2,v3,v4] _ [a0,a1,a2,a3,a4] rfl H).trans (h ..)
abbrev yQ6 {n:Nat}(l:yL n 6)(b:yB n 6):=∀(cf:CF) (x:K.Fn n) (a0 a1 a2 a3 a4 a5:AV) (H:Hp),l JN GO cf x a0 a1 a2 a3 a4 a5 H=b JN GO cf x (l JN GO cf x) a0 a1 a2 a3 a4 a5 H
theorem yq6 {n:Nat}{p:List Nat}{B:yB n 6}(h:∀J G cf x (j:K.Fn 6) (a0 a1 a2 a3 a4 a5:AV) H,xg P an J G cf g p [v0,v1,v2,v3,v4,v5] (λq t H=>match Nat.beq q k with|true=>app n x (aH c t) H|false=>none) j [a0,a1,a2,a3,a4,a5] H=B J G cf x j a0 a1 a2 a3 a4 a5 H:=by intros;kernel_rfl):yQ6 (yX g p [v0,v1,v2,v3,v4,v5] k c) B:=λcf x a0 a1 a2 a3 a4 a5 H=>(xq cf g p [v0,v1,v2,v3,v4,v5] _ [a0,a1,a2,a3,a4,a5] rfl H).trans (h ..)
abbrev yQ7 {n:Nat}(l:yL n 7)(b:yB n 7):=∀(cf:CF) (x:K.Fn n) (a0 a1 a2 a3 a4 a5 a6:AV) (H:Hp),l JN GO cf x a0 a1 a2 a3 a4 a5 a6 H=b JN GO cf x (l JN GO cf x) a0 a1 a2 a3 a4 a5 a6 H
theorem yq7 {n:Nat}{p:List Nat}{v6:Nat}{B:yB n 7}(h:∀J G cf x (j:K.Fn 7) (a0 a1 a2 a3 a4 a5 a6:AV) H,xg P an J G cf g p [v0,v1,v2,v3,v4,v5,v6] (λq t H=>match Nat.beq q k with|true=>app n x (aH c t) H|false=>none) j [a0,a1,a2,a3,a4,a5,a6] H=B J G cf x j a0 a1 a2 a3 a4 a5 a6 H:=by intros;kernel_rfl):yQ7 (yX g p [v0,v1,v2,v3,v4,v5,v6] k c) B:=λcf x a0 a1 a2 a3 a4 a5 a6 H=>(xq cf g p [v0,v1,v2,v3,v4,v5,v6] _ [a0,a1,a2,a3,a4,a5,a6] rfl H).trans (h ..)
def afI:yS 2:=λJ G cf a0 a1 H=>B2 (cf (zf 116) [a0,a1,(zi 0),(zi (-1))] H) λv0 h1=>some (v0,h1)
theorem aqn:yC2 88 afI:=yM2
def Ym:yB 3 6:=λJ G cf vz hJ bI cH bK eB dK gC eM=>B1 (ba gC eB) λeZ=>CD eZ (B2 (cf (zf 151) [bI,cH] eM) λv44 ji=>B1 (ba v44 (zi 0)) λv46=>CD v46 (vz bI dK gC ji) (J 7 (λBM=>B1 (aZ v44 bK) λfj=>B1 (qM bI none (some fj)) λv49=>B1 (ia 1 dK gC) λgH=>B1 (st 1 gH v49 ji) λkB=>BM bI cH bK eB dK gC v44 kB) (λfL gY iv fT eD fy eY tJ=>J 6 (λj60=>B1 (lens gY) λki=>B1 (aZ eY ki) λhU=>B1 (qM fL (some hU) none) λv63=>j60 v63 gY iv fT eD fy tJ) (λfE fg mB gD gF kT uw=>B1 (aZ kT (zi 1)) λma=>hJ fE fg mB gD gF ma uw)))) (vz bI dK gC eM)
def aay:yL 3 6:=yX 116 [1,1,1,1,1,1,1,1,0,0,0] [0,1,2,3,9,10] 0 [0,9,10]
theorem aiu:yQ6 aay Ym:=yq6
def ahz:yS 4:=λJ G cf a0 a1 a2 a3 H=>B1 (bJ a3 (zi 0)) λv0=>CD v0 (some (.ah,H)) (J 4 (λj1=>B1 (seq a1 (.str [])) λv2=>CD v2 (B2 (cf (zf 149) [a0,a3] H) λv3 h4=>some (v3,h4)) (j1 a0 a1 a2 a3 H)) (λx5 x6 x7 x8 h9=>J 4 (λbr=>B1 (ba x8 (zi 0)) λv11=>CD v11 (B2 (cf (zf 150) [x5,x6] h9) λv12 fw=>B1 (aZ v12 (zi 1)) λbu=>br x5 x6 x7 bu fw) (br x5 x6 x7 x8 h9)) (λdX bU cP bM dW=>J 4 (λaK=>B1 (lens dX) λv21=>B1 (aZ v21 (zi 1)) λv22=>B2 (jn P .min #[3,3] [bM,v22] dW) λv23 gj=>aK dX bU cP v23 gj) (λbX cZ db eu dm=>B2 (B0 [(.str [])] 9 1 eu eu dm) λv30 hZ=>B1 (pC eu (zi 1)) λv32=>J 3 (λpT=>J 3 (λvz=>aay J G cf vz bX cZ db v32 v30 (zi 0) hZ) (λn0 js jK nM=>pT n0 js jK nM)) (λgK fD gz iI=>J 2 (λMR=>B1 (ia 1 fD gz) λkR=>B1 (st 1 kR gK iI) λsN=>MR fD gz sN) (λmG ng rF=>B1 (aZ ng (zi 1)) λqu=>B1 (oh 1 mG none (some qu) none) λv87=>some (v87,rF)))))))
theorem apo:yC4 116 ahz:=yM4
def atY:yL 1 3:=yX 150 [1,1,1,1,0,0] [0,1,5] 0 [4]
def amH:yS 2:=λJ G cf a0 a1 H=>J 2 (λj0=>B1 (lens a1) λv1=>B1 (bJ v1 (zi 0)) λv2=>CD v2 (B2 (cf (zf 170) [a0] H) λv3 h4=>B1 (aZ v3 (zi 1)) λv5=>some (v5,h4)) (j0 a0 a1 H)) (λx6 x7 h8=>J 2 (λj9=>B1 (lens x7) λv10=>B1 (bJ v10 (zi 1)) λv11=>CD v11 (B1 (z7 x7 (zi 0)) λv12=>B2 (cf (zf 171) [x6,v12] h8) λcO iG=>some (cO,iG)) (j9 x6 x7 h8)) (λdX bU dT=>J 1 (λpO=>atY J G cf pO dX bU (zi 0) dT) (λcj cU=>some (cj,cU))))
theorem aHG:yC2 150 amH:=yM2
def ai0:yS 2:=λJ G cf a0 a1 H=>B2 (cf (zf 172) [a0,a1] H) λv0 h1=>some (v0,h1)
theorem aD2:yC2 151 ai0:=yM2
def ad1:yS 2:=λJ G cf a0 a1 H=>B2 (cf (zf 152) [a0,a1] H) λv0 h1=>B1 (ex 0 v0) λv2=>B1 (ex 1 v0) λv3=>B1 (ex 2 v0) λv4=>some (.tuple [v2,v3,v4],h1)
theorem aBa:yC2 117 ad1:=yM2
def XF:yB 3 6:=λJ G cf Mk wW gC fH ft lT iQ jS mj=>B1 (ba jS iQ) λfj=>CD fj (J 6 (λA6=>B1 (ia 1 lT jS) λgH=>B1 (ld gH mj) λv51=>J 7 (λj52=>J 8 (λML=>B1 (lens v51) λiY=>B1 (pC (zi 9223372036854775807) ft) λfZ=>B1 (iC iY fZ) λjF=>ML gC fH ft v51 lT iQ jS jF mj) (λfy eY dI ez dq jf gT fE oa=>CD fE (none) (j52 fy eY dI ez dq jf gT oa))) (λmB gD gF kT jT nG n0 Aq=>B1 (lens kT) λjL=>B1 (aZ gF jL) λv75=>A6 mB gD v75 jT nG n0 Aq)) (λgK fD gz pD oF oV sN=>B1 (aZ oV (zi 1)) λjV=>wW gK fD gz pD oF jV sN)) (Mk gC fH ft mj)
def aaX:yL 3 6:=yX 85 [1,1,1,1,0,1,0,0] [0,1,5,39,40,41] 1 [0,1,5]
theorem ahc:yQ6 aaX XF:=yq6
def Xw:yB 1 5:=λJ G cf LK ax2 Ct uv pq th mF yO=>B1 (ba mF th) λwE=>CD wE (J 5 (λapQ=>B1 (ia 1 pq mF) λsZ=>B1 (ld sZ yO) λxf=>B2 (cf (zf 113) [uv,Ct] yO) λuT sS=>B2 (cf (zf 113) [uv,xf] sS) λv117 Dy=>apQ Ct uv pq th mF Dy) (λqn pY rf tS vE ry=>B1 (aZ vE (zi 1)) λym=>ax2 qn pY rf tS ym ry)) (LK uv yO)
def XR:yL 1 5:=yX 85 [1,1,1,1,1,1,1,1,0,1,0,0] [1,8,63,64,65] 3 [8]
theorem anQ:yQ5 XR Xw:=yq5
def RC:yS 2:=λJ G cf a0 a1 H=>J 2 (λj0=>B1 (aG a0) λv1=>B1 (bJ v1 (zi 0)) λv2=>CD v2 (some ((.str []),H)) (B1 (bJ v1 (zi 1)) λv3=>CD v3 (B1 (ia 1 a0 (zi 0)) λv4=>B1 (ld v4 H) λv5=>some (v5,H)) (j0 a0 a1 H))) (λx6 x7 h8=>J 3 (λj9=>B1 (lens x7) λv10=>B1 (iC v10 (zi 0)) λv11=>CD v11 (J 3 (λdV=>J 4 (λeC=>B1 (lens x7) λbu=>B1 (aG x6) λdL=>B1 (pC dL (zi 1)) λcq=>B1 (Gr (zi 9223372036854775807) cq) λeH=>B1 (me bu eH) λcg=>eC x6 x7 (zi 0) cg h8) (λbV dN bc bo dc=>CD bo (none) (dV bV dN bc dc))) (λdi bX cZ eX=>B1 (lens bX) λv28=>B1 (aG di) λv29=>B1 (pC v29 (zi 1)) λv30=>B1 (vK v28 v30) λv31=>B1 (aZ cZ v31) λv32=>j9 di bX v32 eX)) (j9 x6 x7 (zi 0) h8)) (λfO eg da nR=>J 3 (λMM=>B1 (aG fO) λgZ=>J 3 (λMk=>aaX J G cf Mk fO eg da fO gZ (zi 0) nR) (λng lK oJ pZ=>MM ng lK oJ pZ)) (λoq BZ DE zI=>BN (aA zI [.dE,.ah] 180 0) λi92 IF=>B2 (cf (zf 112) [(.ptr i92 0),DE] IF) λux nH=>B1 (ia 1 oq (zi 0)) λlO=>B1 (ld lO nH) λBI=>B2 (cf (zf 113) [(.ptr i92 0),BI] nH) λxW Eu=>J 1 (λavv=>B1 (oh 1 oq (some (zi 1)) none none) λwY=>B1 (aG wY) λoQ=>J 1 (λLK=>XR J G cf LK BZ (.ptr i92 0) wY oQ (zi 0) Eu) (λlf WV=>avv lf WV)) (λjt Kn=>B2 (cf (zf 114) [jt] Kn) λv130 D8=>some (v130,D8)))))
theorem UO:yC2 85 RC:=yM2
def avE:yL 0 8:=yX 172 [1,1,1,1,1,1,1,1,0,0,0] [0,1,5,6,7,8,9,10] 1 []
def an9:yS 2:=λJ G cf a0 a1 H=>B1 (lens a1) λv0=>J 3 (λj1=>J 4 (λj2=>B1 (bJ v0 (zi 0)) λv3=>G v3 false (λk4=>k4 a1 H) (λv5 h6=>G v3 false (λk7=>k7 a0 h6) (λv8 h9=>G v3 false (λuA=>B1 (seq v5 v8) λv11=>uA v11 h9) (λv12 fw=>B1 (pk v3 (.bool true) v12) λbu=>j2 a0 a1 v0 bu fw) h9) h6) H) (λdX bU cP bM dW=>CD bM (some ((zi 0),dW)) (B1 (bJ cP (zi 1)) λv20=>CD v20 (B1 (z7 bU (zi 0)) λv21=>B2 (cf (zf 186) [dX,v21] dW) λv22 dc=>some (v22,dc)) (J 4 (λBm=>B1 (lens dX) λv25=>B1 (me cP v25) λv26=>Bm dX bU cP v26 dW) (λdb eu dF dS hZ=>CD dS (some ((zi (-1)),hZ)) (J 4 (λfM=>B1 (ld (.ptr 1 0) hZ) λeQ=>B1 (qE dF eQ) λdf=>G df true (λwC=>wC db hZ) (λv36 gG=>G df true (λyN=>B1 (lens v36) λfQ=>yN fQ gG) (λv40 ig=>G df true (λCi=>B1 (qE v40 (zi 64)) λeZ=>Ci eZ ig) (λv44 ji=>B1 (pk df v44 (.bool false)) λv46=>fM db eu dF v46 ji) ig) gG) hZ) (λic gW gr ik kB=>CD ik (B2 (cf (zf 187) [ic,gW] kB) λgR gL=>some (gR,gL)) (j1 ic gW gr kB)))))))) (λiv fT eD oR=>B1 (z7 fT (zi 0)) λjP=>B1 (z7 fT (zi 1)) λv59=>J 7 (λj60=>B1 (lens iv) λki=>B1 (pC ki eD) λhU=>B1 (aZ hU (zi 1)) λv63=>j60 iv fT eD jP v59 (zi 0) v63 oR) (λfE fg mB gD gF kT jT kj=>J 0 (λBP=>J 0 (λj73=>avE J G cf j73 fE fg mB gD gF kT jT (zi 0) kj) (λaxL=>BP  axL)) (λatJ=>some ((zi (-1)),atJ))))
theorem axz:yC2 172 an9:=yM2
def an7:yS 2:=λJ G cf a0 a1 H=>B2 (cf (zf 197) [a0,a1] H) λv0 h1=>some (v0,h1)
theorem aCO:yC2 186 an7:=yM2
def ams:yS 2:=λJ G cf a0 a1 H=>J 1 (λj0=>B2 (cf (zf 172) [a0,a1] H) λv1 h2=>B1 (me v1 (zi 0)) λv3=>CD v3 (B1 (qM a0 none (some v1)) λv4=>B1 (lens a1) λv5=>B1 (aZ v1 v5) λv6=>B1 (qM a0 (some v6) none) λv7=>some (.tuple [v4,v7,(.bool true)],h2)) (j0 a0 h2)) (λx8 h9=>some (.tuple [x8,(.str []),(.bool false)],h9))
theorem asN:yC2 152 ams:=yM2
def aoQ:yS 2:=λJ G cf a0 a1 H=>B2 (cf (zf 147) [a0] H) λv0 h1=>J 2 (λj2=>B1 (ba a1 (zi 0)) λv3=>CD v3 (none) (j2 a0 a1 h1)) (λx4 x5 h6=>J 3 (λj7=>B1 (aI x4) λv8=>B1 (fa 1 v8) λv9=>B1 (ld v9 h6) λv10=>B2 (jn P .cap #[52] [v10] h6) λv11 et=>B1 (aI x4) λcO=>B1 (fa 1 cO) λbu=>B1 (ld bu h6) λdL=>B1 (aG dL) λcq=>B1 (pC v11 cq) λeH=>B1 (ba eH x5) λcg=>j7 x4 x5 cg h6) (λbV dN bc iA=>CD bc (B2 (cf (zf 148) [bV,dN] iA) λv23 gj=>some (.tuple [],gj)) (some (.tuple [],iA))))
theorem aqk:yC2 112 aoQ:=yM2
def ae9:yS 2:=λJ G cf a0 a1 H=>B2 (cf (zf 147) [a0] H) λv0 h1=>J 1 (λj2=>B1 (aI a0) λv3=>B1 (fa 1 v3) λv4=>B1 (ld v4 h1) λv5=>B2 (c8 5 1 [(.int .u8 0)] false v5 a1 h1) λv6 h7=>B1 (aI a0) λv8=>B1 (fa 1 v8) λv9=>B1 (st 1 v9 v6 h7) λcG=>j2 a1 cG) (λbZ et=>B1 (lens bZ) λcO=>some (.tuple [cO,.nilIface],et))
theorem atj:yC2 113 ae9:=yM2
def aiH:yS 1:=λJ G cf a0 H=>B1 (aI a0) λv0=>B1 (fa 1 v0) λv1=>B1 (ld v1 H) λv2=>B2 (jn P .unsafeSliceData #[52] [v2] H) λv3 h4=>B1 (aI a0) λv5=>B1 (fa 1 v5) λv6=>B1 (ld v6 h4) λv7=>B1 (aG v7) λv8=>B2 (jn P .unsafeString #[222,3] [v3,v8] h4) λv9 cG=>B1 (ld v6 H) λv11=>SM v7 v11 <| B1 (aG v7) λv12=>SM v8 v12 <| some (v9,cG)
theorem aEf:yC1 114 aiH:=yM1
def U6:yS 1:=λJ G cf a0 H=>J 2 (λj0=>B1 (aI a0) λv1=>B1 (fa 0 v1) λv2=>B1 (ld v2 H) λv3=>B1 (CQ .eql (pe v3 .dE H)) λv4=>j0 a0 v4 H) (λx5 x6 h7=>CD x6 (B2 (kY P 178 242 x5 h7) λv8 h9=>B2 (cf (zf 168) [v8] h9) λv10 eE=>B2 (kY P 242 178 v10 eE) λv12 fw=>B1 (aI x5) λbu=>B1 (fa 0 bu) λdL=>B1 (st 1 dL v12 fw) λbO=>some (.tuple [],bO)) (J 1 (λoI=>B1 (aI x5) λcg=>B1 (fa 0 cg) λeT=>B1 (ld eT h7) λv20=>B1 (CQ .neq (pe v20 x5 h7)) λv21=>oI v21 h7) (λbo dc=>CD bo (none) (some (.tuple [],dc)))))
theorem amc:yC1 147 U6:=yM1
def aib:yS 2:=λJ G cf a0 a1 H=>J 2 (λj0=>B1 (aI a0) λv1=>B1 (fa 1 v1) λv2=>B1 (ld v2 H) λv3=>B2 (jn P .cap #[52] [v3] H) λv4 h5=>B1 (vK (zi 2) v4) λv6=>B1 (aZ v6 a1) λv7=>B2 (cf (zf 169) [v7] H) λv8 h9=>B1 (aI a0) λv10=>B1 (fa 1 v10) λv11=>B1 (ld v11 h9) λv12=>B1 (aG v12) λcO=>B1 (oh 1 v8 none (some cO) none) λbu=>B1 (ld v11 H) λdL=>SM v12 dL <| B1 (aG v12) λcq=>SM cO cq <| j0 a0 bu h9) (λcP bM dW=>J 2 (λaK=>B1 (aI cP) λv21=>B1 (fa 1 v21) λv22=>B1 (ld v22 dW) λv23=>B2 (JM 1 bM v23 dW) λv24 dR=>aK cP bM dR) (λcZ db gP=>B1 (aI cZ) λv29=>B1 (fa 1 v29) λv30=>B1 (st 1 v30 db gP) λhZ=>some (.tuple [],hZ)))
theorem aDl:yC2 148 aib:=yM2
def ad5:yS 1:=λJ G cf a0 H=>B2 (cf (zf 111) [a0] H) λv0 h1=>some (v0,h1)
theorem ax5:yC1 84 ad5:=yM1
def ajH:yS 1:=λJ G cf a0 H=>B2 (cf (zf 146) [a0,(zi 10)] H) λv0 h1=>some (v0,h1)
theorem arS:yC1 111 ajH:=yM1
def Sa:yS 2:=λJ G cf a0 a1 H=>J 2 (λj0=>B1 (bJ a1 (zi 10)) λv1=>CD v1 (J 1 (λj2=>J 2 (λj3=>B1 (qE (zi 0) a0) λv4=>G v4 true (λk5=>k5 a0 H) (λv6 h7=>G v4 true (λk8=>B1 (ba v6 (zi 100)) λv9=>k8 v9 h7) (λv10 eE=>B1 (pk v4 v10 (.bool false)) λv12=>j3 a0 v12 eE) h7) H) (λbR eI eJ=>CD eI (B2 (cf (zf 164) [bR] eJ) λcq dT=>some (cq,dT)) (j2 bR eJ))) (λbM dW=>BN (aA dW [(.int .u8 0),(.int .u8 0),(.int .u8 0),(.int .u8 0),(.int .u8 0),(.int .u8 0),(.int .u8 0),(.int .u8 0),(.int .u8 0),(.int .u8 0),(.int .u8 0),(.int .u8 0),(.int .u8 0),(.int .u8 0),(.int .u8 0),(.int .u8 0),(.int .u8 0),(.int .u8 0),(.int .u8 0),(.int .u8 0),(.int .u8 0),(.int .u8 0),(.int .u8 0),(.int .u8 0)] 238 0) λi20 kP=>B1 (cv .u64 bM) λv22=>J 3 (λef=>B1 (ba bM (zi 0)) λv24=>CD v24 (B1 (ep .neg v22) λv25=>ef bM (.ptr i20 0) v25 kP) (ef bM (.ptr i20 0) v22 kP)) (λcZ db eu dm=>B2 (cf (zf 165) [eu] dm) λv30 hZ=>J 3 (λfM=>B1 (aZ (zi 1) v30) λeQ=>B1 (uJ P 238 db (some (zi 1)) (some eQ) none hZ) λdf=>B2 (cf (zf 166) [df,eu] hZ) λv35 nR=>fM cZ db v30 nR) (λcH bK eB mg=>J 2 (λCc=>B1 (ba cH (zi 0)) λdB=>CD dB (B1 (qA 24 1 bK (zi 0)) λeZ=>B1 (st 1 eZ (.int .u8 45) mg) λdZ=>B1 (aZ (zi 1) eB) λeh=>B1 (uJ P 238 bK none (some eh) none dZ) λv46=>B1 (tQ v46 dZ) λiN=>some (iN,dZ)) (Cc bK eB mg)) (λgW gr lC=>B1 (aZ (zi 1) gr) λv51=>B1 (uJ P 238 gW (some (zi 1)) (some v51) none lC) λgR=>B1 (tQ gR lC) λv53=>some (v53,lC)))))) (j0 a0 a1 H)) (λiv fT iH=>J 1 (λLN=>B1 (cv .u64 iv) λjP=>B1 (ba iv (zi 0)) λv59=>B2 (cf (zf 167) [.ah,jP,fT,v59,(.bool false)] iH) λfB kZ=>B1 (ex 0 fB) λhU=>B1 (ex 1 fB) λv63=>LN v63 kZ) (λfE oa=>some (fE,oa)))
theorem XV:yC2 146 Sa:=yM2
def ag6:yS 1:=λJ G cf a0 H=>J 1 (λj0=>B1 (ba a0 (zi 10)) λv1=>CD v1 (B1 (aZ a0 (zi 1)) λv2=>B1 (qM (.str [48,49,50,51,52,53,54,55,56,57,97,98,99,100,101,102,103,104,105,106,107,108,109,110,111,112,113,114,115,116,117,118,119,120,121,122]) (some a0) (some v2)) λv3=>some (v3,H)) (j0 a0 H)) (λx4 h5=>B1 (vK x4 (zi 2)) λv6=>B1 (vK x4 (zi 2)) λv7=>B1 (aZ v7 (zi 2)) λv8=>B1 (qM (.str [48,48,48,49,48,50,48,51,48,52,48,53,48,54,48,55,48,56,48,57,49,48,49,49,49,50,49,51,49,52,49,53,49,54,49,55,49,56,49,57,50,48,50,49,50,50,50,51,50,52,50,53,50,54,50,55,50,56,50,57,51,48,51,49,51,50,51,51,51,52,51,53,51,54,51,55,51,56,51,57,52,48,52,49,52,50,52,51,52,52,52,53,52,54,52,55,52,56,52,57,53,48,53,49,53,50,53,51,53,52,53,53,53,54,53,55,53,56,53,57,54,48,54,49,54,50,54,51,54,52,54,53,54,54,54,55,54,56,54,57,55,48,55,49,55,50,55,51,55,52,55,53,55,54,55,55,55,56,55,57,56,48,56,49,56,50,56,51,56,52,56,53,56,54,56,55,56,56,56,57,57,48,57,49,57,50,57,51,57,52,57,53,57,54,57,55,57,56,57,57]) (some v6) (some v8)) λv9=>some (v9,h5))
theorem aDD:yC1 164 ag6:=yM1
def aly:yS 1:=λJ G cf a0 H=>B2 (cf (zf 182) [a0] H) λv0 h1=>B2 (cf (zf 181) [v0] h1) λv2 h3=>B1 (qA 20 1 (.ptr 0 0) v2) λv4=>B1 (ld v4 h3) λv5=>B1 (me a0 v5) λv6=>B2 (cf (zf 183) [v6] h3) λv7 h8=>B1 (aZ v2 v7) λv9=>some (v9,h8)
theorem aAM:yC1 165 aly:=yM1
def afW:yS 1:=λJ G cf a0 H=>B1 (vK a0 (zi 78913)) λv0=>B1 (sP v0 (.int .u64 18)) λv1=>some (v1,H)
theorem aFX:yC1 181 afW:=yM1
def T9:yS 1:=λJ G cf a0 H=>CD a0 (some ((zi 1),H)) (some ((zi 0),H))
theorem akJ:yC1 183 T9:=yM1
def V2:yB 0 4:=λJ G cf j2 j3 x4 x5 x6 x7 h8=>B1 (ba x7 x6) λv9=>CD v9 (J 4 (λbr=>J 6 (λqc=>B1 (ia 1 x4 x7) λv12=>B1 (ld v12 h8) λcO=>B1 (seq x5 cO) λbu=>qc x4 x5 x7 x6 x7 bu h8) (λdX bU cP bM bV dN kP=>CD dN (some (cP,kP)) (br dX bU bM bV kP))) (λbo bQ di bX eO=>B1 (aZ bX (zi 1)) λv27=>j3 bo bQ di v27 eO)) (j2  h8)
def Ze:yL 0 4:=yX 104 [1,0,1,0,0] [0,1,7,8] 0 []
theorem anz:yQ4 Ze V2:=yq4
def am1:yS 2:=λJ G cf a0 a1 H=>J 0 (λj0=>B1 (aG a0) λv1=>J 0 (λj2=>Ze J G cf j2 a0 a1 v1 (zi 0) H) (λgP=>j0  gP)) (λdm=>some ((zi (-1)),dm))
theorem aA6:yC2 104 am1:=yM2
def ajf:yS 2:=λJ G cf a0 a1 H=>B2 (cf (zf 104) [a0,a1] H) λv0 h1=>B1 (me v0 (zi 0)) λv2=>some (v2,h1)
theorem aAx:yC2 94 ajf:=yM2
def XU:yB 0 4:=λJ G cf j4 j5 x6 x7 x8 x9 cG=>B1 (ba x9 x8) λv11=>CD v11 (J 4 (λdV=>J 6 (λeC=>B1 (aB 2 x7 cG) λbu=>B1 (ia 2 x6 x9) λdL=>B1 (aB 2 dL cG) λcq=>xi (gA P .eql 231 false bu cq) <| B1 (fV P .eql 231 bu cq cG) λeH=>eC x6 x7 x9 x8 x9 eH cG) (λbM bV dN bc bo bQ gj=>CD bQ (some (dN,gj)) (dV bM bV bc bo gj))) (λbX cZ db eu dm=>B1 (aZ eu (zi 1)) λv30=>j5 bX cZ db v30 dm)) (j4  cG)
def aar:yL 0 4:=yX 177 [1,0,1,0,0] [0,3,7,8] 0 []
theorem alT:yQ4 aar XU:=yq4
def agT:yS 2:=λJ G cf a0 a1 H=>BN (bx 231 a1 H) λi0 h1=>J 0 (λj2=>B1 (aG a0) λv3=>J 0 (λj4=>aar J G cf j4 a0 (.ptr i0 0) v3 (zi 0) h1) (λhZ=>j2  hZ)) (λcU=>some ((zi (-1)),cU))
theorem aAu:yC2 177 agT:=yM2
def ant:yS 2:=λJ G cf a0 a1 H=>BN (bx 231 a1 H) λi0 h1=>B1 (aB 2 (.ptr i0 0) h1) λv2=>B2 (cf (zf 177) [a0,v2] h1) λv3 h4=>B1 (me v3 (zi 0)) λv5=>some (v5,h4)
theorem aD3:yC2 158 ant:=yM2
def aku:yS 2:=λJ G cf a0 a1 H=>B2 (cf (zf 163) [a0,a1] H) λv0 h1=>B1 (me v0 (zi 0)) λv2=>some (v2,h1)
theorem aGt:yC2 143 aku:=yM2
def Qy:yB 0 4:=λJ G cf j2 j3 x4 x5 x6 x7 h8=>B1 (ba x7 x6) λv9=>CD v9 (J 4 (λbr=>J 6 (λqc=>B1 (ia 1 x4 x7) λv12=>B1 (ld v12 h8) λcO=>B2 (cf x5 [cO] h8) λbu eJ=>qc x4 x5 x7 x6 x7 bu eJ) (λbU cP bM bV dN bc iA=>CD bc (some (bM,iA)) (br bU cP bV dN iA))) (λbQ di bX cZ eX=>B1 (aZ cZ (zi 1)) λv28=>j3 bQ di bX v28 eX)) (j2  h8)
def Vt:yL 0 4:=yX 163 [1,0,1,0,0] [0,1,7,8] 0 []
theorem Vj:yQ4 Vt Qy:=yq4
def anw:yS 2:=λJ G cf a0 a1 H=>J 0 (λj0=>B1 (aG a0) λv1=>J 0 (λj2=>Vt J G cf j2 a0 a1 v1 (zi 0) H) (λdm=>j0  dm)) (λiW=>some ((zi (-1)),iW))
theorem aHp:yC2 163 anw:=yM2
def XM:yB 0 4:=λJ G cf j2 j3 x4 x5 x6 x7 h8=>B1 (ba x7 x6) λv9=>CD v9 (J 4 (λbr=>J 6 (λqc=>B1 (ia 1 x4 x7) λv12=>B1 (ld v12 h8) λcO=>B1 (bJ x5 cO) λbu=>qc x4 x5 x7 x6 x7 bu h8) (λdX bU cP bM bV dN kP=>CD dN (some (cP,kP)) (br dX bU bM bV kP))) (λbo bQ di bX eO=>B1 (aZ bX (zi 1)) λv27=>j3 bo bQ di v27 eO)) (j2  h8)
def Ui:yL 0 4:=yX 174 [1,0,1,0,0] [0,1,7,8] 0 []
theorem aco:yQ4 Ui XM:=yq4
def aoi:yS 2:=λJ G cf a0 a1 H=>J 0 (λj0=>B1 (aG a0) λv1=>J 0 (λj2=>Ui J G cf j2 a0 a1 v1 (zi 0) H) (λgP=>j0  gP)) (λdm=>some ((zi (-1)),dm))
theorem aGx:yC2 174 aoi:=yM2
def aeu:yS 2:=λJ G cf a0 a1 H=>B2 (cf (zf 174) [a0,a1] H) λv0 h1=>B1 (me v0 (zi 0)) λv2=>some (v2,h1)
theorem axg:yC2 154 aeu:=yM2
def agi:yS 2:=λJ G cf a0 a1 H=>B2 (cf (zf 135) [a0,a1] H) λv0 h1=>B1 (me v0 (zi 0)) λv2=>some (v2,h1)
theorem aBy:yC2 95 agi:=yM2
def Rj:yB 0 4:=λJ G cf j2 j3 x4 x5 x6 x7 h8=>B1 (ba x7 x6) λv9=>CD v9 (J 4 (λbr=>J 6 (λqc=>B1 (ia 6 x4 x7) λv12=>B1 (aB 6 v12 h8) λcO=>B2 (cf x5 [cO] h8) λbu eJ=>qc x4 x5 x7 x6 x7 bu eJ) (λbU cP bM bV dN bc iA=>CD bc (some (bM,iA)) (br bU cP bV dN iA))) (λbQ di bX cZ eX=>B1 (aZ cZ (zi 1)) λv28=>j3 bQ di bX v28 eX)) (j2  h8)
def YT:yL 0 4:=yX 135 [1,0,1,0,0] [0,1,7,8] 0 []
theorem Ws:yQ4 YT Rj:=yq4
def acB:yS 2:=λJ G cf a0 a1 H=>J 0 (λj0=>B1 (aG a0) λv1=>J 0 (λj2=>YT J G cf j2 a0 a1 v1 (zi 0) H) (λdm=>j0  dm)) (λiW=>some ((zi (-1)),iW))
theorem atv:yC2 135 acB:=yM2
def aao:yS 1:=λJ G cf a0 H=>xi (gA P .eql 70 true a0 .ah) <| B1 (fV P .eql 70 a0 .ah H) λv0=>CD v0 (some (.ah,H)) (B1 (fl [] []) λl1=>BN (aA H l1 99 0) λi2 h3=>B2 (c8 99 6 [(.str []),.ah,(zi 0),(zi 0),(zi 0),(.str [])] false (.slice i2 0 0 0 true 6) a0 h3) λv4 h5=>some (v4,h5))
theorem afa:yC1 136 aao:=yM1
def Zr:yS 1:=λJ G cf a0 H=>xi (gA P .eql 97 true a0 .ah) <| B1 (fV P .eql 97 a0 .ah H) λv0=>CD v0 (some (.ah,H)) (B1 (fl [] []) λl1=>BN (aA H l1 3 0) λi2 h3=>B2 (c8 3 1 [(zi 0)] false (.slice i2 0 0 0 true 1) a0 h3) λv4 h5=>some (v4,h5))
theorem ajz:yC1 137 Zr:=yM1
def Vn:yS 1:=λJ G cf a0 H=>xi (gA P .eql 73 true a0 .ah) <| B1 (fV P .eql 73 a0 .ah H) λv0=>CD v0 (some (.ah,H)) (B1 (fl [] []) λl1=>BN (aA H l1 132 0) λi2 h3=>B2 (c8 132 4 [(zi 0),(zi 0),(zi 0),(.str [])] false (.slice i2 0 0 0 true 4) a0 h3) λv4 h5=>some (v4,h5))
theorem ano:yC1 138 Vn:=yM1
def Zw:yS 1:=λJ G cf a0 H=>xi (gA P .eql 46 true a0 .ah) <| B1 (fV P .eql 46 a0 .ah H) λv0=>CD v0 (some (.ah,H)) (B1 (fl [] []) λl1=>BN (aA H l1 9 0) λi2 h3=>B2 (c8 9 1 [(.str [])] false (.slice i2 0 0 0 true 1) a0 h3) λv4 h5=>some (v4,h5))
theorem akb:yC1 30 Zw:=yM1
def Zl:yB 0 4:=λJ G cf eK jh bU cP bM bV cW=>B1 (ba bV bM) λv21=>CD v21 (J 4 (λwX=>J 5 (λef=>B1 (ia 1 bU bV) λv24=>B1 (ld v24 cW) λv25=>B1 (ia 1 cP bV) λv26=>B1 (ld v26 cW) λv27=>B1 (gk v25 v27) λv28=>ef bU cP bM bV v28 cW) (λdF dS cj fC fO ij=>CD fO (some ((.bool false),ij)) (wX dF dS cj fC ij))) (λda bI cH bK fe=>B1 (aZ bK (zi 1)) λv40=>jh da bI cH v40 fe)) (eK  cW)
def YZ:yL 0 4:=yX 72 [1,1,0,1,0,0] [0,1,12,13] 0 []
theorem aiY:yQ4 YZ Zl:=yq4
def alF:yS 2:=λJ G cf a0 a1 H=>J 2 (λj0=>J 3 (λj1=>B1 (aG a0) λv2=>B1 (aG a1) λv3=>B1 (gk v2 v3) λv4=>j1 a0 a1 v4 H) (λx5 x6 x7 h8=>CD x7 (some ((.bool false),h8)) (j0 x5 x6 h8))) (λx9 cw eE=>J 0 (λdV=>B1 (aG x9) λcO=>J 0 (λeK=>YZ J G cf eK x9 cw cO (zi 0) eE) (λig=>dV  ig)) (λeM=>some ((.bool true),eM)))
theorem aw8:yC2 72 alF:=yM2
def Tx:yB 0 4:=λJ G cf eK jh bU cP bM bV cW=>B1 (ba bV bM) λv21=>CD v21 (J 4 (λwX=>J 5 (λef=>B1 (ia 4 bU bV) λv24=>B1 (aB 4 v24 cW) λv25=>B1 (ia 4 cP bV) λv26=>B1 (aB 4 v26 cW) λv27=>xi (gA P .neq 132 false v25 v27) <| B1 (fV P .neq 132 v25 v27 cW) λv28=>ef bU cP bM bV v28 cW) (λdF dS cj fC fO ij=>CD fO (some ((.bool false),ij)) (wX dF dS cj fC ij))) (λda bI cH bK fe=>B1 (aZ bK (zi 1)) λv40=>jh da bI cH v40 fe)) (eK  cW)
def UC:yL 0 4:=yX 73 [1,1,0,1,0,0] [0,1,12,13] 0 []
theorem ahM:yQ4 UC Tx:=yq4
def akt:yS 2:=λJ G cf a0 a1 H=>J 2 (λj0=>J 3 (λj1=>B1 (aG a0) λv2=>B1 (aG a1) λv3=>B1 (gk v2 v3) λv4=>j1 a0 a1 v4 H) (λx5 x6 x7 h8=>CD x7 (some ((.bool false),h8)) (j0 x5 x6 h8))) (λx9 cw eE=>J 0 (λdV=>B1 (aG x9) λcO=>J 0 (λeK=>UC J G cf eK x9 cw cO (zi 0) eE) (λig=>dV  ig)) (λeM=>some ((.bool true),eM)))
theorem aE1:yC2 73 akt:=yM2
def Ub:yB 0 4:=λJ G cf eK jh bU cP bM bV cW=>B1 (ba bV bM) λv21=>CD v21 (J 4 (λwX=>J 5 (λef=>B1 (ia 1 bU bV) λv24=>B1 (ld v24 cW) λv25=>B1 (ia 1 cP bV) λv26=>B1 (ld v26 cW) λv27=>B1 (sL v25 v27) λv28=>ef bU cP bM bV v28 cW) (λdF dS cj fC fO ij=>CD fO (some ((.bool false),ij)) (wX dF dS cj fC ij))) (λda bI cH bK fe=>B1 (aZ bK (zi 1)) λv40=>jh da bI cH v40 fe)) (eK  cW)
def Zf:yL 0 4:=yX 74 [1,1,0,1,0,0] [0,1,12,13] 0 []
theorem aip:yQ4 Zf Ub:=yq4
def akI:yS 2:=λJ G cf a0 a1 H=>J 2 (λj0=>J 3 (λj1=>B1 (aG a0) λv2=>B1 (aG a1) λv3=>B1 (gk v2 v3) λv4=>j1 a0 a1 v4 H) (λx5 x6 x7 h8=>CD x7 (some ((.bool false),h8)) (j0 x5 x6 h8))) (λx9 cw eE=>J 0 (λdV=>B1 (aG x9) λcO=>J 0 (λeK=>Zf J G cf eK x9 cw cO (zi 0) eE) (λig=>dV  ig)) (λeM=>some ((.bool true),eM)))
theorem avI:yC2 74 akI:=yM2
def QB:yB 0 5:=λJ G cf bA oI bM bV dN bc bo dc=>B1 (ba bo bc) λv24=>CD v24 (J 5 (λyQ=>J 7 (λB5=>B1 (ia 6 dN bo) λv27=>B1 (aB 6 v27 dc) λv28=>BN (aA dc [(.str []),.ah,(zi 0),(zi 0),(zi 0),(.str [])] 99 0) λi29 iW=>B1 (st 6 (.ptr i29 0) v28 iW) λhZ=>B5 bM bV bo (.ptr i29 0) dN bc bo hZ) (λfC fO eg da bI cH bK fe=>J 7 (λwW=>B1 (ia 6 fC eg) λv41=>B1 (aB 6 v41 fe) λdB=>BN (aA fe [(.str []),.ah,(zi 0),(zi 0),(zi 0),(.str [])] 99 0) λi43 dZ=>B1 (st 6 (.ptr i43 0) dB dZ) λji=>wW fC fO da (.ptr i43 0) bI cH bK ji) (λjS ic gW gr ik gM fL gL=>J 6 (λgf=>B1 (aB 6 gW gL) λfZ=>B1 (aB 6 gr gL) λjF=>B2 (cf ic [fZ,jF] gL) λv57 ku=>B1 (ep .not v57) λv59=>gf jS ic ik gM fL v59 ku) (λez dq jf gT fE fg eR=>CD fg (some ((.bool false),eR)) (yQ ez dq jf gT fE eR))))) (λgD gF kT jT nG nE=>B1 (aZ nG (zi 1)) λiP=>oI gD gF kT jT iP nE)) (bA  dc)
def abP:yL 0 5:=yX 75 [1,1,0,1,0,0] [1,2,15,16,17] 0 []
theorem Ul:yQ5 abP QB:=yq5
def Y5:yS 3:=λJ G cf a0 a1 a2 H=>J 3 (λj0=>J 4 (λj1=>B1 (aG a0) λv2=>B1 (aG a1) λv3=>B1 (gk v2 v3) λv4=>j1 a0 a1 a2 v4 H) (λx5 x6 x7 x8 h9=>CD x8 (some ((.bool false),h9)) (j0 x5 x6 x7 h9))) (λcw bZ bL fw=>J 0 (λeK=>B1 (aG cw) λdL=>J 0 (λbA=>abP J G cf bA bZ bL cw dL (zi 0) fw) (λrO=>eK  rO)) (λnM=>some ((.bool true),nM)))
theorem akP:yC3 75 Y5:=yM3
def Y1:yB 0 5:=λJ G cf fA fM fO eg da bI cH iR=>B1 (ba cH bI) λfQ=>CD fQ (J 5 (λwW=>B1 (ia 2 da cH) λv41=>B1 (aB 2 v41 iR) λdB=>BN (aA iR [(zi 0),(zi 0)] 231 0) λi43 dZ=>B1 (st 2 (.ptr i43 0) dB dZ) λji=>J 6 (λN9=>J 7 (λBM=>B1 (aB 2 fO ji) λfj=>B1 (qA 2 1 (.ptr i43 0) (zi 0)) λv49=>B1 (ld v49 ji) λgH=>B2 (cf (zf 175) [fj,gH] ji) λv51 kV=>B1 (ep .not v51) λv53=>G v53 false (λk54=>B1 (aB 2 fO kV) λfZ=>k54 fZ kV) (λjF oR=>G v53 false (λFa=>B1 (qA 2 1 (.ptr i43 0) (zi 1)) λv59=>Fa v59 oR) (λfB kZ=>G v53 false (λk62=>B1 (ld fB kZ) λv63=>k62 v63 kZ) (λv64 oa=>G v53 false (λFl=>B2 (cf (zf 175) [jF,v64] oa) λlF qF=>Fl lF qF) (λmi uw=>G v53 false (λY9=>B1 (ep .not mi) λv72=>Y9 v72 uw) (λiP rO=>B1 (pk v53 (.bool true) iP) λv75=>G v75 false (λk76=>B1 (qA 2 1 (.ptr i43 0) (zi 0)) λva=>k76 va rO) (λqq iI=>G v75 false (λGp=>B1 (ld qq iI) λkR=>Gp kR iI) (λjW pf=>G v75 false (λFM=>B1 (qA 2 1 (.ptr i43 0) (zi 1)) λv85=>FM v85 pf) (λqu pZ=>G v75 false (λk88=>B1 (ld qu pZ) λoz=>k88 oz pZ) (λoK zI=>G v75 false (λOa=>B1 (bJ jW oK) λv93=>Oa v93 zI) (λux nH=>B1 (pk v75 (.bool true) ux) λlO=>G lO false (λk97=>k97 eg nH) (λxW Eu=>G lO false (λaG8=>B1 (aB 2 (.ptr i43 0) Eu) λwY=>aG8 wY Eu) (λoQ mE=>G lO false (λaat=>B1 (tP P 248 xW oQ false mE) λv105=>aat v105 mE) (λyR F7=>B1 (pk lO (.bool true) yR) λsB=>BM fO eg (.ptr i43 0) da bI cH sB F7) mE) Eu) nH) zI) pZ) pf) iI) rO) uw) oa) kZ) oR) kV) (λmF uc um xU uN sf yi sS=>CD yi (some ((.bool false),sS)) (N9 mF uc um xU uN sf sS))) (λxw rr qn pY rf tS Ju=>B1 (aB 2 qn Ju) λv124=>B1 (qm P 248 rr v124 (.bool true) Ju) λCJ=>wW xw rr pY rf tS CJ)) (λlf iZ jt jM mq D8=>B1 (aZ mq (zi 1)) λDO=>fM lf iZ jt jM DO D8)) (fA  iR)
def Zz:yL 0 5:=yX 155 [1,1,1,0,1,0,0] [1,3,16,17,18] 0 []
theorem ag4:yQ5 Zz Y1:=yq5
def amv:yS 1:=λJ G cf a0 H=>BN (bx 201 a0 H) λi0 h1=>J 1 (λj2=>J 2 (λj3=>B1 (fa 0 (.ptr i0 0)) λv4=>B1 (ld v4 h1) λv5=>B1 (ba v5 (zi 0)) λv6=>G v6 false (λk7=>B1 (fa 0 (.ptr i0 0)) λv8=>k7 v8 h1) (λv9 cG=>G v6 false (λCO=>B1 (ld v9 cG) λv12=>CO v12 cG) (λcO iG=>G v6 false (λzM=>B1 (iC cO (zi 16)) λcq=>zM cq iG) (λeH iu=>B1 (pk v6 (.bool true) eH) λeT=>j3 (.ptr i0 0) eT iu) iG) cG) h1) (λdN bc iA=>CD bc (some ((.bool false),iA)) (j2 dN iA))) (λbQ gj=>BN (BS gj) λi25 eO=>J 0 (λzN=>B1 (fa 1 bQ) λv28=>B1 (ld v28 eO) λv29=>B1 (aG v29) λv30=>J 0 (λfA=>Zz J G cf fA bQ (.map i25) v29 v30 (zi 0) eO) (λlN=>zN  lN)) (λDX=>some ((.bool true),DX)))
theorem aqW:yC1 155 amv:=yM1
def ahd:yS 2:=λJ G cf a0 a1 H=>BN (bx 201 a0 H) λi0 h1=>B1 (me a1 (zi 0)) λv2=>G v2 true (λk3=>k3 a1 h1) (λv4 h5=>G v2 true (λk6=>B1 (fa 0 (.ptr i0 0)) λv7=>k6 v7 h5) (λv8 h9=>G v2 true (λuA=>B1 (ld v8 h9) λv11=>uA v11 h9) (λv12 fw=>G v2 true (λG8=>B1 (ba v4 v12) λdL=>G8 dL fw) (λcq dT=>B1 (pk v2 cq (.bool false)) λcg=>some (cg,dT)) fw) h9) h5) h1
theorem azt:yC2 175 ahd:=yM2
def IB:yB 1 6:=λJ G cf br qc bL bR eI dX bU cP iu=>B1 (ba cP bU) λeT=>CD eT (J 6 (λaK=>J 6 (λiJ=>B1 (ia 2 dX cP) λv22=>B1 (aB 2 v22 iu) λv23=>BN (aA iu [(zi 0),(zi 0)] 231 0) λi24 dR=>B1 (st 2 (.ptr i24 0) v23 dR) λeO=>J 8 (λzN=>B1 (qA 2 1 (.ptr i24 0) bR) λv28=>B1 (ld v28 eO) λv29=>B1 (bJ v29 bL) λv30=>zN bL bR eI (.ptr i24 0) dX bU cP v30 eO) (λcj fC fO eg da bI cH bK fe=>CD bK (B1 (pC (zi 1) fC) λv40=>B1 (qA 2 1 eg v40) λv41=>B1 (ld v41 fe) λdB=>B1 (fl [(zi 0)] [(0,1,dB)]) λl43=>BN (aA fe l43 3 0) λi44 ji=>B2 (c8 3 1 [(zi 0)] false fO (.slice i44 0 1 1 true 1) ji) λv46 mj=>iJ cj fC v46 da bI cH mj) (iJ cj fC fO da bI cH fe))) (λgW gr ik gM fL gY mL=>aK gW gr ik gM fL gY mL)) (λfT eD fy eY dI ez kZ=>B1 (aZ ez (zi 1)) λhU=>qc fT eD fy eY dI hU kZ)) (br eI iu)
def X0:yL 1 6:=yX 176 [1,1,1,0,1,0,0] [1,2,7,14,15,16] 0 [7]
theorem X6:yQ6 X0 IB:=yq6
def aic:yS 3:=λJ G cf a0 a1 a2 H=>BN (bx 201 a0 H) λi0 h1=>B1 (aB 2 (.ptr i0 0) h1) λv2=>B2 (cf (zf 155) [v2] h1) λv3 h4=>B1 (ep .not v3) λv5=>CD v5 (some (.ah,h4)) (J 1 (λj6=>B1 (fa 1 (.ptr i0 0)) λv7=>B1 (ld v7 h4) λv8=>B1 (aG v8) λv9=>J 1 (λbr=>X0 J G cf br a1 a2 .ah v8 v9 (zi 0) h4) (λgT kH=>j6 gT kH)) (λfg eR=>B2 (cf (zf 192) [fg] eR) λlF qF=>some (fg,qF)))
theorem arK:yC3 176 aic:=yM3
def agx:yS 2:=λJ G cf a0 a1 H=>BN (bx 201 a0 H) λi0 h1=>B1 (aB 2 (.ptr i0 0) h1) λv2=>B2 (cf (zf 176) [v2,a1,(zi 0)] h1) λv3 h4=>some (v3,h4)
theorem arD:yC2 157 agx:=yM2
def On (J:JT)(G:GT)(cf:CF)(br:K.Fn 1)(aK:K.Fn 4)(ef:K.Fn 4)(hJ:K.Fn 7)(gf:K.Fn 7)(wF:K.Fn 10)(eD fy eY dI ez dq jf gT fE fg:AV)(eR:Hp):R:=B1 (ba fg fE) λlF=>CD lF (J 10 (λYf=>J 10 (λJm=>B1 (ia 1 gT fg) λv70=>B1 (ld v70 eR) λma=>J 12 (λBP=>B1 (ia 1 fy ma) λiP=>B1 (ld iP eR) λjL=>B1 (bJ jL (zi 0)) λv75=>BP eD fy eY dI ma ez dq jf gT fE fg v75 eR) (λgK fD gz pD oF oV qI mG ng lK oJ tf qH=>CD tf (J 11 (λIy=>B1 (ia 1 fD oF) λoK=>B1 (st 1 oK gz qH) λzI=>Iy gK fD gz pD oF oV qI mG ng lK oJ zI) (λlQ nB jA jR rj pU vU vu By wM za mE=>B1 (fl [(zi 0)] [(0,1,rj)]) λVF=>BN (aA mE VF 3 0) λi105 Lk=>B2 (c8 3 1 [(zi 0)] false jR (.slice i105 0 1 1 true 1) Lk) λv107 uQ=>Jm lQ nB jA v107 pU vU vu By wM za uQ)) (Jm gK fD gz pD oV qI mG ng lK oJ qH))) (λmF uc um xU uN sf yi tK xw rr XO=>Yf mF uc um xU uN sf yi tK xw rr XO)) (λpY rf tS vE CA KP lf iZ jt jM Zu=>B1 (aZ jM (zi 1)) λv131=>wF pY rf tS vE CA KP lf iZ jt v131 Zu)) (gf eD fy eY dI ez dq jf eR)
def Nt (J:JT)(G:GT)(cf:CF)(br:K.Fn 1)(aK:K.Fn 4)(ef:K.Fn 4)(hJ:K.Fn 7)(gf:K.Fn 7):K.Fn 10:=CV P an J G cf 156 [1,1,1,0,1,0,0,1,0,0,1,0,1,0,0,1,1,0,0,1,1,0,0] [2,5,7,8,23,24,25,31,32,33] (λq t H=>match Nat.beq q 4 with|true=>app 7 gf (aH [2,5,7,8,23,24,25] t) H|false=>(λq t H=>match Nat.beq q 3 with|true=>app 7 hJ (aH [2,5,7,8,23,24,25] t) H|false=>(λq t H=>match Nat.beq q 2 with|true=>app 4 ef (aH [2,5,7,8] t) H|false=>(λq t H=>match Nat.beq q 1 with|true=>app 4 aK (aH [2,5,6,7] t) H|false=>(λq t H=>match Nat.beq q 0 with|true=>app 1 br (aH [5] t) H|false=>(λ_ _ _=>none) q t H) q t H) q t H) q t H) q t H)
theorem aA5 (J:JT)(G:GT)(cf:CF)(br:K.Fn 1)(aK:K.Fn 4)(ef:K.Fn 4)(hJ:K.Fn 7)(gf:K.Fn 7)(wF:K.Fn 10)(eD fy eY dI ez dq jf gT fE fg:AV)(eR:Hp):xg P an J G cf 156 [1,1,1,0,1,0,0,1,0,0,1,0,1,0,0,1,1,0,0,1,1,0,0] [2,5,7,8,23,24,25,31,32,33] (λq t H=>match Nat.beq q 4 with|true=>app 7 gf (aH [2,5,7,8,23,24,25] t) H|false=>(λq t H=>match Nat.beq q 3 with|true=>app 7 hJ (aH [2,5,7,8,23,24,25] t) H|false=>(λq t H=>match Nat.beq q 2 with|true=>app 4 ef (aH [2,5,7,8] t) H|false=>(λq t H=>match Nat.beq q 1 with|true=>app 4 aK (aH [2,5,6,7] t) H|false=>(λq t H=>match Nat.beq q 0 with|true=>app 1 br (aH [5] t) H|false=>(λ_ _ _=>none) q t H) q t H) q t H) q t H) q t H) wF [eD,fy,eY,dI,ez,dq,jf,gT,fE,fg] eR=On J G cf br aK ef hJ gf wF eD fy eY dI ez dq jf gT fE fg eR:=zzw
theorem Vo (cf:CF)(br:K.Fn 1)(aK:K.Fn 4)(ef:K.Fn 4)(hJ:K.Fn 7)(gf:K.Fn 7)(eD fy eY dI ez dq jf gT fE fg:AV)(eR:Hp):Nt JN GO cf br aK ef hJ gf eD fy eY dI ez dq jf gT fE fg eR=On JN GO cf br aK ef hJ gf (Nt JN GO cf br aK ef hJ gf) eD fy eY dI ez dq jf gT fE fg eR:=abk (b:=app 10 (Nt JN GO cf br aK ef hJ gf) [eD,fy,eY,dI,ez,dq,jf,gT,fE,fg] eR) zzw ((xq cf _ _ _ _ [eD,fy,eY,dI,ez,dq,jf,gT,fE,fg] rfl eR).trans (aA5 JN GO cf br aK ef hJ gf _ eD fy eY dI ez dq jf gT fE fg eR))
def O9 (J:JT)(G:GT)(cf:CF)(br:K.Fn 1)(aK:K.Fn 4)(ef:K.Fn 4)(Bm:K.Fn 7)(bX cZ db eu dF dS cj:AV)(cU:Hp):R:=B1 (ba cj dS) λeQ=>CD eQ (J 7 (λvz=>J 7 (λhJ=>B1 (ia 1 dF cj) λv36=>B1 (ld v36 cU) λv37=>J 10 (λVs=>B1 (aB 2 bX cU) λfQ=>B2 (cf (zf 157) [fQ,v37] cU) λv40 ig=>B1 (aG v40) λdB=>Vs bX cZ db eu dF dS cj v40 dB (zi 0) ig) (λft lT iQ jS ic gW gr ik gM fL gL=>J 7 (λgf=>Nt J G cf br aK ef hJ gf ft lT iQ jS ic gW gr ik gM fL gL) (λkM yp zD uk pR uf wo Ek=>hJ kM yp zD uk pR uf wo Ek))) (λAv Mm M1 Mh Ge CM HT Us=>vz Av Mm M1 Mh Ge CM HT Us)) (λCg xS yY rP pL yq ya aF3=>B1 (aZ ya (zi 1)) λGs=>Bm Cg xS yY rP pL yq Gs aF3)) (ef bX cZ db eu cU)
def KS (J:JT)(G:GT)(cf:CF)(br:K.Fn 1)(aK:K.Fn 4)(ef:K.Fn 4):K.Fn 7:=CV P an J G cf 156 [1,1,1,0,1,0,0,1,0,0,1,0,1,0,0] [2,5,7,8,23,24,25] (λq t H=>match Nat.beq q 2 with|true=>app 4 ef (aH [2,5,7,8] t) H|false=>(λq t H=>match Nat.beq q 1 with|true=>app 4 aK (aH [2,5,6,7] t) H|false=>(λq t H=>match Nat.beq q 0 with|true=>app 1 br (aH [5] t) H|false=>(λ_ _ _=>none) q t H) q t H) q t H)
theorem aAh (J:JT)(G:GT)(cf:CF)(br:K.Fn 1)(aK:K.Fn 4)(ef:K.Fn 4)(Bm:K.Fn 7)(bX cZ db eu dF dS cj:AV)(cU:Hp):xg P an J G cf 156 [1,1,1,0,1,0,0,1,0,0,1,0,1,0,0] [2,5,7,8,23,24,25] (λq t H=>match Nat.beq q 2 with|true=>app 4 ef (aH [2,5,7,8] t) H|false=>(λq t H=>match Nat.beq q 1 with|true=>app 4 aK (aH [2,5,6,7] t) H|false=>(λq t H=>match Nat.beq q 0 with|true=>app 1 br (aH [5] t) H|false=>(λ_ _ _=>none) q t H) q t H) q t H) Bm [bX,cZ,db,eu,dF,dS,cj] cU=O9 J G cf br aK ef Bm bX cZ db eu dF dS cj cU:=zzw
theorem alj (cf:CF)(br:K.Fn 1)(aK:K.Fn 4)(ef:K.Fn 4)(bX cZ db eu dF dS cj:AV)(cU:Hp):KS JN GO cf br aK ef bX cZ db eu dF dS cj cU=O9 JN GO cf br aK ef (KS JN GO cf br aK ef) bX cZ db eu dF dS cj cU:=abk (b:=app 7 (KS JN GO cf br aK ef) [bX,cZ,db,eu,dF,dS,cj] cU) zzw ((xq cf _ _ _ _ [bX,cZ,db,eu,dF,dS,cj] rfl cU).trans (aAh JN GO cf br aK ef _ bX cZ db eu dF dS cj cU))
def Vu:yB 1 4:=λJ G cf br qc bL bR eI dX bO=>B1 (aG eI) λeH=>B1 (iC eH (zi 0)) λcg=>CD cg (J 4 (λdh=>J 4 (λaK=>J 4 (λiJ=>B1 (aG eI) λv22=>J 4 (λef=>KS J G cf br aK ef bL bR dX .ah eI v22 (zi 0) bO) (λzC uX WM Fz Hn=>iJ zC uX WM Fz Hn)) (λGm Fx NO WG Yh=>aK Gm Fx WG NO Yh)) (λsd wh vQ CI Ya=>dh sd wh vQ CI Ya)) (λwP tW vG G0 aa6=>B1 (aZ G0 (zi 1)) λDb=>qc wP tW vG Db aa6)) (br bR bO)
def Su:yL 1 4:=yX 156 [1,1,1,0,1,0,0] [2,5,6,7] 0 [5]
theorem ah9:yQ4 Su Vu:=yq4
def acw:yS 2:=λJ G cf a0 a1 H=>BN (bx 201 a0 H) λi0 h1=>B1 (fa 0 (.ptr i0 0)) λv2=>B1 (ld v2 h1) λv3=>B2 (B0 [(zi 0)] 3 1 v3 v3 h1) λv4 h5=>B1 (fl [(zi 0)] [(0,1,a1)]) λl6=>BN (aA h5 l6 3 0) λi7 h8=>J 1 (λj9=>J 1 (λbr=>Su J G cf br (.ptr i0 0) v4 (.slice i7 0 1 1 true 1) (zi 1) h8) (λUM ats=>j9 UM ats)) (λTZ aa7=>some (TZ,aa7))
theorem aqd:yC2 156 acw:=yM2
def Jp:yB 3 5:=λJ G cf j9 br bZ bL bR eI dX bO=>B1 (ba dX eI) λeH=>CD eH (J 5 (λpO=>J 5 (λdh=>J 7 (λaK=>B1 (aB 2 bZ bO) λv21=>B2 (cf (zf 156) [v21,dX] bO) λv22 dc=>B1 (ia 1 v22 dX) λv24=>B1 (ld v24 dc) λv25=>aK bZ bL bR dX v25 eI dX dc) (λcZ db eu dF dS cj fC jB=>J 8 (λvz=>B1 (iC dS (zi 0)) λv35=>G v35 true (λU9=>U9 eu jB) (λv37 iR=>G v35 true (λze=>B1 (bJ v37 (zi 0)) λv40=>ze v40 iR) (λv41 eM=>G v35 true (λwN=>wN v41 eM) (λv44 ji=>G v44 false (λLp=>Lp dS ji) (λiN pz=>G v44 false (λZL=>ZL eu pz) (λgH kB=>G v44 false (λxr=>B1 (ba iN gH) λv53=>xr v53 kB) (λiY pG=>G v35 true (λCp=>B1 (pk v44 (.bool true) iY) λv57=>Cp v57 pG) (λjP tJ=>B1 (pk v35 jP (.bool false)) λfB=>vz cZ db eu dF dS cj fC fB tJ) pG) kB) pz) ji) eM) iR) jB) (λdq jf gT fE fg mB gD gF qo=>CD gF (dh dq fE fg mB gD qo) (dh dq jf gT mB gD qo)))) (λjT nG n0 js jK nM=>pO jT nG n0 js jK nM)) (λgK fD gz pD oF xJ=>B1 (aZ oF (zi 1)) λjW=>br gK fD gz pD jW xJ)) (j9 bZ bL bR bO)
def abt:yL 3 5:=yX 126 [1,1,1,0,1,0,0] [1,3,4,15,16] 0 [1,3,4]
theorem K3:yQ5 abt Jp:=yq5
def Kr (J:JT)(G:GT)(cf:CF)(kU:K.Fn 1)(nJ:K.Fn 4)(nV:K.Fn 4)(Km:K.Fn 7)(lf iZ jt jM mq pt kM:AV)(lN:Hp):R:=B1 (ba kM pt) λCa=>CD Ca (J 7 (λZ9=>B1 (ia 1 mq kM) λLu=>B1 (ld Lu lN) λDS=>J 9 (λUQ=>B1 (gk DS iZ) λv139=>G v139 true (λaCx=>B1 (aB 2 lf lN) λv141=>aCx v141 lN) (λCm Ri=>G v139 true (λaBM=>aBM DS Ri) (λv145 yj=>G v139 true (λav0=>B2 (cf (zf 156) [Cm,v145] yj) λv148 Ie=>av0 v148 Ie) (λMQ GI=>G v139 true (λax0=>ax0 iZ GI) (λWf zU=>G v139 true (λars=>B1 (ia 1 MQ Wf) λGs=>ars Gs zU) (λv157 WO=>G v139 true (λaBT=>B1 (ld v157 WO) λv160=>aBT v160 WO) (λZR acW=>G v139 true (λawV=>awV jM acW) (λv164 JG=>G v139 true (λazZ=>B1 (bJ ZR v164) λv167=>azZ v167 JG) (λv168 atl=>B1 (pk v139 v168 (.bool false)) λZ2=>UQ lf iZ jt jM DS mq pt kM Z2 atl) JG) acW) WO) zU) GI) yj) Ri) lN) (λwR wP tW vG G0 aaL WD UM Zm NN=>CD Zm (B1 (fl [(zi 0)] [(0,1,G0)]) λWw=>BN (aA NN Ww 3 0) λi182 Qj=>B2 (c8 3 1 [(zi 0)] false tW (.slice i182 0 1 1 true 1) Qj) λCW aby=>nV wR wP CW vG aby) (Z9 wR wP tW vG aaL WD UM NN))) (λYH XY Wx Up U0 MN Yr aax=>B1 (aZ Yr (zi 1)) λv194=>Km YH XY Wx Up U0 MN v194 aax)) (nV lf iZ jt jM lN)
def Lj (J:JT)(G:GT)(cf:CF)(kU:K.Fn 1)(nJ:K.Fn 4)(nV:K.Fn 4):K.Fn 7:=CV P an J G cf 126 [1,1,1,1,1,1,0,1,0,0,1,0,0,1,0,0] [1,3,7,8,56,57,58] (λq t H=>match Nat.beq q 4 with|true=>app 4 nV (aH [1,3,7,8] t) H|false=>(λq t H=>match Nat.beq q 3 with|true=>app 4 nJ (aH [1,3,7,8] t) H|false=>(λq t H=>match Nat.beq q 2 with|true=>app 1 kU (aH [7] t) H|false=>(λ_ _ _=>none) q t H) q t H) q t H)
theorem ar9 (J:JT)(G:GT)(cf:CF)(kU:K.Fn 1)(nJ:K.Fn 4)(nV:K.Fn 4)(Km:K.Fn 7)(lf iZ jt jM mq pt kM:AV)(lN:Hp):xg P an J G cf 126 [1,1,1,1,1,1,0,1,0,0,1,0,0,1,0,0] [1,3,7,8,56,57,58] (λq t H=>match Nat.beq q 4 with|true=>app 4 nV (aH [1,3,7,8] t) H|false=>(λq t H=>match Nat.beq q 3 with|true=>app 4 nJ (aH [1,3,7,8] t) H|false=>(λq t H=>match Nat.beq q 2 with|true=>app 1 kU (aH [7] t) H|false=>(λ_ _ _=>none) q t H) q t H) q t H) Km [lf,iZ,jt,jM,mq,pt,kM] lN=Kr J G cf kU nJ nV Km lf iZ jt jM mq pt kM lN:=zzw
theorem QZ (cf:CF)(kU:K.Fn 1)(nJ:K.Fn 4)(nV:K.Fn 4)(lf iZ jt jM mq pt kM:AV)(lN:Hp):Lj JN GO cf kU nJ nV lf iZ jt jM mq pt kM lN=Kr JN GO cf kU nJ nV (Lj JN GO cf kU nJ nV) lf iZ jt jM mq pt kM lN:=abk (b:=app 7 (Lj JN GO cf kU nJ nV) [lf,iZ,jt,jM,mq,pt,kM] lN) zzw ((xq cf _ _ _ _ [lf,iZ,jt,jM,mq,pt,kM] rfl lN).trans (ar9 JN GO cf kU nJ nV _ lf iZ jt jM mq pt kM lN))
def X8:yB 1 4:=λJ G cf kU TY vu By wM za mE=>B1 (iC za (zi 0)) λnD=>CD nD (J 4 (λazi=>J 4 (λnJ=>J 7 (λaqF=>B1 (aB 2 vu mE) λsB=>B1 (aG wM) λv109=>B1 (pC v109 (zi 1)) λDg=>B1 (ia 1 wM Dg) λwE=>B1 (ld wE mE) λzr=>B2 (cf (zf 157) [sB,zr] mE) λsZ YM=>B1 (aG sZ) λuT=>aqF vu By wM za sZ uT (zi 0) YM) (λtK xw rr qn pY rf tS Ju=>J 4 (λnV=>Lj J G cf kU nJ nV tK xw rr qn pY rf tS Ju) (λMz OC Ig B7 Pm=>nJ Mz OC Ig B7 Pm))) (λC0 FJ KE Mc azr=>azi C0 FJ KE Mc azr)) (λZM yz OG IN aqy=>B1 (pC IN (zi 1)) λv210=>TY ZM yz OG v210 aqy)) (kU wM mE)
def V3:yL 1 4:=yX 126 [1,1,1,1,1,1,0,1,0,0] [1,3,7,8] 2 [7]
theorem anf:yQ4 V3 X8:=yq4
def aaj:yS 1:=λJ G cf a0 H=>BN (bx 201 a0 H) λi0 h1=>B1 (aB 2 (.ptr i0 0) h1) λv2=>B2 (cf (zf 155) [v2] h1) λv3 h4=>B1 (ep .not v3) λv5=>CD v5 (some (.ah,h4)) (J 3 (λj6=>B1 (fa 0 (.ptr i0 0)) λv7=>B1 (ld v7 h4) λv8=>J 3 (λj9=>abt J G cf j9 (.ptr i0 0) (zi 0) (zi 0) v8 (zi 0) h4) (λmG ng lK sA=>j6 mG ng lK sA)) (λtf oq BZ tH=>B1 (bJ BZ (zi 0)) λv91=>CD v91 (some (.ah,tH)) (B1 (fl [(zi 0)] [(0,1,oq)]) λl92=>BN (aA tH l92 3 0) λi93 DZ=>J 1 (λj95=>B1 (pC BZ (zi 1)) λlO=>J 1 (λkU=>V3 J G cf kU tf oq (.slice i93 0 1 1 true 1) lO DZ) (λaDB aDb=>j95 aDB aDb)) (λUm ary=>some (Um,ary)))))
theorem alr:yC1 126 aaj:=yM1
def agp:yS 1:=λJ G cf a0 H=>B1 (sL a0 (.str [])) λv0=>G v0 true (λk1=>k1 a0 H) (λv2 h3=>G v0 true (λk4=>B1 (lens v2) λv5=>k4 v5 h3) (λv6 h7=>G v0 true (λk8=>B1 (qE v6 (zi 16)) λv9=>k8 v9 h7) (λv10 eE=>B1 (pk v0 v10 (.bool false)) λv12=>G v12 true (λzz=>zz a0 eE) (λbu eJ=>G v12 true (λM9=>B2 (cf (zf 91) [bu,(.str [97,98,99,100,101,102,103,104,105,106,107,108,109,110,111,112,113,114,115,116,117,118,119,120,121,122,48,49,50,51,52,53,54,55,56,57])] eJ) λeH iu=>M9 eH iu) (λeT cW=>G v12 true (λwS=>B1 (seq eT (.str [])) λv22=>wS v22 cW) (λv23 gj=>B1 (pk v12 v23 (.bool false)) λv25=>some (v25,gj)) cW) eJ) eE) h7) h3) H
theorem aDR:yC1 54 agp:=yM1
def IP:yS 1:=λJ G cf a0 H=>J 1 (λj0=>B1 (lens a0) λv1=>B1 (iC v1 (zi 4)) λv2=>CD v2 (some (.tuple [(zi 0),(.bool false)],H)) (j0 a0 H)) (λx3 h4=>J 3 (λj5=>B2 (cf (zf 173) [x3] h4) λv6 h7=>B1 (ex 0 v6) λv8=>B1 (ex 1 v6) λv9=>j5 x3 v8 v9 h7) (λcw bZ bL fw=>xi (gA P .eql 183 true bL .nilIface) <| B1 (fV P .eql 183 bL .nilIface fw) λbu=>G bu true (λzM=>zM bZ fw) (λcq dT=>G bu true (λHe=>B2 (cf (zf 84) [cq] dT) λeT cW=>He eT cW) (λv21 iA=>G bu true (λNa=>Na cw iA) (λv24 dR=>G bu true (λCe=>B1 (seq v21 v24) λv27=>Ce v27 dR) (λv28 dm=>B1 (pk bu v28 (.bool false)) λv30=>G v30 true (λyP=>yP bZ dm) (λv32 jB=>G v30 true (λKG=>B1 (me v32 (zi 0)) λv35=>KG v35 jB) (λv36 gG=>B1 (pk v30 v36 (.bool false)) λgZ=>some (.tuple [bZ,gZ],gG)) jB) dm) dR) iA) dT) fw))
theorem Lv:yC1 153 IP:=yM1
def Kx (J:JT)(G:GT)(cf:CF)(eC:K.Fn 1)(dh:K.Fn 0)(aK:K.Fn 5)(bc bo bQ di bX:AV)(eO:Hp):R:=B1 (ba bX di) λv27=>CD v27 (J 5 (λrW=>B1 (ia 1 bQ bX) λv29=>B1 (ld v29 eO) λv30=>B2 (cf (zf 104) [bo,v30] eO) λv31 cU=>B1 (ba v31 (zi 0)) λeQ=>CD eQ (some ((.bool false),cU)) (B1 (aI bc) λdf=>B1 (fa 1 df) λv35=>B1 (ld v35 cU) λv36=>B1 (fl [(zi 0)] [(0,1,v31)]) λYc=>BN (aA cU Yc 3 0) λi38 fe=>B2 (c8 3 1 [(zi 0)] false v36 (.slice i38 0 1 1 true 1) fe) λv40 ig=>B1 (aI bc) λdB=>B1 (fa 1 dB) λeZ=>B1 (st 1 eZ v40 ig) λdZ=>rW bc bo bQ di bX dZ)) (λiQ jS ic gW gr lC=>B1 (aZ gr (zi 1)) λv51=>aK iQ jS ic gW v51 lC)) (dh  eO)
def Ja (J:JT)(G:GT)(cf:CF)(eC:K.Fn 1)(dh:K.Fn 0):K.Fn 5:=CV P an J G cf 118 [1,1,0,1,0,1,0,0,1,0,0] [0,3,23,24,25] (λq t H=>match Nat.beq q 1 with|true=>app 0 dh (aH [] t) H|false=>(λq t H=>match Nat.beq q 0 with|true=>app 1 eC (aH [10] t) H|false=>(λ_ _ _=>none) q t H) q t H)
theorem awc (J:JT)(G:GT)(cf:CF)(eC:K.Fn 1)(dh:K.Fn 0)(aK:K.Fn 5)(bc bo bQ di bX:AV)(eO:Hp):xg P an J G cf 118 [1,1,0,1,0,1,0,0,1,0,0] [0,3,23,24,25] (λq t H=>match Nat.beq q 1 with|true=>app 0 dh (aH [] t) H|false=>(λq t H=>match Nat.beq q 0 with|true=>app 1 eC (aH [10] t) H|false=>(λ_ _ _=>none) q t H) q t H) aK [bc,bo,bQ,di,bX] eO=Kx J G cf eC dh aK bc bo bQ di bX eO:=zzw
theorem PA (cf:CF)(eC:K.Fn 1)(dh:K.Fn 0)(bc bo bQ di bX:AV)(eO:Hp):Ja JN GO cf eC dh bc bo bQ di bX eO=Kx JN GO cf eC dh (Ja JN GO cf eC dh) bc bo bQ di bX eO:=abk (b:=app 5 (Ja JN GO cf eC dh) [bc,bo,bQ,di,bX] eO) zzw ((xq cf _ _ _ _ [bc,bo,bQ,di,bX] rfl eO).trans (awc JN GO cf eC dh _ bc bo bQ di bX eO))
def Be:yS 4:=λJ G cf a0 a1 a2 a3 H=>J 6 (λj0=>B2 (cf (zf 153) [a2] H) λv1 h2=>B1 (ex 0 v1) λv3=>B1 (ex 1 v1) λv4=>j0 a0 a1 a2 a3 v3 v4 h2) (λx5 x6 x7 x8 x9 cw eE=>J 1 (λdV=>J 1 (λeC=>B1 (seq x6 (.str [97,102,116,101,114])) λbu=>CD bu (J 0 (λjh=>B2 (cf (zf 88) [x7,(.str [44])] eE) λcq dT=>B1 (aG cq) λcg=>J 0 (λdh=>Ja J G cf eC dh x5 x8 cq cg (zi 0) dT) (λkV=>jh  kV)) (λgL=>some ((.bool true),gL))) (B1 (seq x6 (.str [114,101,116,114,121])) λiY=>CD iY (B1 (aI x5) λfZ=>B1 (fa 2 fZ) λjF=>B1 (st 1 jF x9 eE) λoR=>eC cw oR) (B1 (seq x6 (.str [119,97,105,116])) λjP=>CD jP (B1 (aI x5) λv59=>B1 (fa 3 v59) λfB=>B1 (st 1 fB x9 eE) λkZ=>eC cw kZ) (B1 (seq x6 (.str [98,97,115,101])) λhU=>CD hU (B1 (aI x5) λv63=>B1 (fa 4 v63) λv64=>B1 (st 1 v64 x9 eE) λoa=>eC cw oa) (B1 (seq x6 (.str [111,110])) λmW=>CD mW (J 1 (λLM=>B1 (aI x5) λnb=>B1 (fa 5 nb) λmi=>B1 (st 1 mi x7 eE) λuw=>LM x7 uw) (λnG nE=>B1 (sL nG (.str [])) λiP=>some (iP,nE))) (eC cw eE)))))) (λjK nM=>dV jK nM)) (λgK JI=>some (gK,JI)))
theorem G5:yC4 118 Be:=yM4
def Gd:yB 2 7:=λJ G cf aK iJ bo bQ di bX cZ db eu dm=>B1 (ba eu db) λv30=>CD v30 (J 7 (λfA=>B1 (ia 1 cZ eu) λv32=>B1 (ld v32 dm) λeQ=>J 10 (λvz=>B2 (cf (zf 117) [eQ,(.str [61])] dm) λv35 nR=>B1 (ex 0 v35) λv37=>B1 (ex 1 v35) λgZ=>B1 (ex 2 v35) λfQ=>vz bo bQ di bX eQ v37 gZ cZ db eu nR) (λdK gC fH ft lT iQ jS ic gW gr lC=>B2 (cf (zf 104) [ft,iQ] lC) λv51 kV=>J 8 (λML=>J 9 (λgf=>B1 (ba v51 (zi 0)) λfZ=>G fZ false (λCp=>Cp iQ kV) (λv57 ku=>G fZ false (λGB=>B1 (lens v57) λfB=>GB fB ku) (λki iD=>G fZ false (λwk=>wk lT iD) (λv64 oa=>G fZ false (λFl=>B1 (lens v64) λlF=>Fl lF oa) (λnb qo=>G fZ false (λk70=>B1 (bJ ki nb) λma=>k70 ma qo) (λv72 Aq=>B1 (pk fZ (.bool true) v72) λjL=>G jL false (λVf=>Vf iQ Aq) (λv76 JI=>G jL false (λk78=>k78 jS JI) (λnz C7=>G jL false (λYu=>Yu dK C7) (λjW pf=>G jL false (λFM=>B2 (cf (zf 118) [fH,v76,nz,jW] pf) λv85 sA=>FM v85 sA) (λv87 qH=>G jL false (λVp=>B1 (ep .not v87) λoK=>Vp oK qH) (λv91 Da=>B1 (pk jL (.bool true) v91) λv93=>gf dK gC fH ft v51 ic gW gr v93 Da) qH) pf) C7) JI) Aq) qo) oa) iD) ku) kV) (λjA jR rj pU vU vu By wM za mE=>CD za (B1 (fl [(.str []),.ah,(zi 0),(zi 0),(zi 0),(.str [])] []) λVF=>B1 (st 6 jR (.agg VF) mE) λqP=>B1 (aB 6 jR qP) λyR=>some (.tuple [yR,(.bool false)],qP)) (ML jA jR rj pU vU vu By wM mE))) (λpq th mF uc um xU uN sf Ey=>B1 (aZ um (zi 1)) λGM=>B1 (oh 1 uc (some GM) none none) λv117=>fA pq th mF v117 xU uN sf Ey))) (λrr qn pY rf tS vE CA CJ=>B1 (aZ CA (zi 1)) λEV=>iJ rr qn pY rf tS vE EV CJ)) (aK bQ di dm)
def Qp:yL 2 7:=yX 89 [1,1,1,0,1,0,0] [1,4,6,7,20,21,22] 0 [4,6]
theorem JV:yQ7 Qp Gd:=yq7
def aa0:yS 2:=λJ G cf a0 a1 H=>BN (aA H [(.str []),.ah,(zi 0),(zi 0),(zi 0),(.str [])] 99 0) λi0 h1=>J 4 (λj2=>B1 (ia 1 a0 (zi 0)) λv3=>B1 (ld v3 h1) λv4=>B1 (fl [(.str []),.ah,(zi 0),(zi 0),(zi 0),(.str [])] [(0,1,v4),(3,1,(zi 10)),(4,1,(zi 1))]) λl5=>BN (aA h1 [(.str []),.ah,(zi 0),(zi 0),(zi 0),(.str [])] 99 0) λi6 h7=>B1 (st 6 (.ptr i6 0) (.agg l5) h7) λh8=>j2 a0 a1 (.ptr i0 0) (.ptr i6 0) h8) (λx9 cw bZ bL fw=>B1 (fl [(.str []),(.str []),(.str []),(.str []),(.str [])] [(0,1,(.str [97,102,116,101,114])),(1,1,(.str [114,101,116,114,121])),(2,1,(.str [119,97,105,116])),(3,1,(.str [98,97,115,101])),(4,1,(.str [111,110]))]) λl14=>BN (aA fw l14 9 0) λi15 bO=>J 2 (λoI=>B1 (oh 1 x9 (some (zi 1)) none none) λcg=>B1 (aG cg) λeT=>J 2 (λaK=>Qp J G cf aK cw bZ bL (.slice i15 0 5 5 true 1) cg eT (zi 0) bO) (λiZ jt Kn=>oI iZ jt Kn)) (λmq pt Jl=>B1 (aB 6 pt Jl) λCN=>B1 (st 6 mq CN Jl) λDX=>B1 (aB 6 mq DX) λBB=>some (.tuple [BB,(.bool true)],DX)))
theorem ac5:yC2 89 aa0:=yM2
def WZ:yB 3 6:=λJ G cf jh bA cP bM bV dN bc bo dc=>B1 (ba bo bc) λv24=>CD v24 (J 6 (λyQ=>B1 (ia 1 dN bo) λv26=>B1 (ld v26 dc) λv27=>B2 (cf (zf 88) [v27,(.str [32])] dc) λv28 dm=>J 7 (λAa=>B1 (fl [.ah] [(0,1,v28)]) λl31=>BN (aA dm l31 46 0) λi32 jB=>B2 (c8 46 1 [.ah] false bM (.slice i32 0 1 1 true 1) jB) λdf iX=>Aa cP df bV v28 dN bc bo iX) (λbI cH bK eB dK gC fH uR=>B1 (ia 1 eB (zi 0)) λv44=>B1 (ld v44 uR) λeh=>B1 (fl [(.str [])] [(0,1,eh)]) λl46=>BN (aA uR l46 9 0) λi47 pz=>B2 (c8 9 1 [(.str [])] false bK (.slice i47 0 1 1 true 1) pz) λv49 lC=>yQ bI cH v49 dK gC fH lC)) (λgM fL gY iv fT eD oR=>B1 (aZ eD (zi 1)) λjP=>bA gM fL gY iv fT jP oR)) (jh cP bM bV dc)
def Zk:yL 3 6:=yX 53 [1,1,1,1,0,1,0,0] [2,4,5,20,21,22] 0 [2,4,5]
theorem akq:yQ6 Zk WZ:=yq6
def KU:yB 2 6:=λJ G cf xN BP js jK ka gK fD gz iI=>B1 (ba gz fD) λv80=>CD v80 (J 6 (λj81=>B1 (ia 1 gK gz) λjW=>B1 (ld jW iI) λjV=>J 8 (λVE=>B2 (cf (zf 89) [jV,jK] iI) λv85 sA=>B1 (ex 0 v85) λv87=>B1 (ex 1 v85) λsR=>BN (aA sA [(.str []),.ah,(zi 0),(zi 0),(zi 0),(.str [])] 99 0) λi89 tH=>B1 (st 6 (.ptr i89 0) v87 tH) λzI=>VE js jK ka (.ptr i89 0) sR gK fD gz zI) (λlQ nB jA jR rj pU vU vu yo=>J 7 (λAk=>B1 (ep .not rj) λoQ=>CD oQ (B1 (fl [.ah] []) λawu=>B1 (st 1 lQ (.agg awu) yo) λGG=>B1 (aB 1 lQ GG) λv105=>some (.tuple [v105,(zi 2)],GG)) (Ak lQ nB jA jR pU vU vu yo)) (λuv pq th mF uc um xU EM=>B1 (fa 0 th) λxf=>B1 (ld xf EM) λuT=>B1 (aB 6 mF EM) λGM=>B1 (fl [(.str []),.ah,(zi 0),(zi 0),(zi 0),(.str [])] [(0,6,GM)]) λayf=>BN (aA EM ayf 99 0) λi118 XO=>B2 (c8 99 6 [(.str []),.ah,(zi 0),(zi 0),(zi 0),(.str [])] false uT (.slice i118 0 1 1 true 6) XO) λKR QE=>B1 (fa 0 th) λyG=>B1 (st 1 yG KR QE) λJu=>j81 uv pq th uc um xU Ju))) (λCA KP lf iZ jt jM Zu=>B1 (aZ jM (zi 1)) λv131=>BP CA KP lf iZ jt v131 Zu)) (xN js ka iI)
def S0:yL 2 6:=yX 53 [1,1,1,1,1,1,0,1,0,0] [2,5,9,39,40,41] 2 [2,9]
theorem R1:yQ6 S0 KU:=yq6
def JA:yS 1:=λJ G cf a0 H=>BN (aA H [.ah] 72 0) λi0 h1=>J 2 (λj2=>B1 (lens a0) λv3=>B1 (iC v3 (zi 1024)) λv4=>CD v4 (B1 (fl [.ah] []) λl5=>B1 (st 1 (.ptr i0 0) (.agg l5) h1) λh6=>B1 (aB 1 (.ptr i0 0) h6) λv7=>some (.tuple [v7,(zi 14)],h6)) (j2 a0 (.ptr i0 0) h1)) (λx8 x9 cG=>J 3 (λqc=>B2 (cf (zf 88) [x8,(.str [59])] cG) λv12 fw=>B1 (aG v12) λbu=>J 3 (λjh=>Zk J G cf jh x9 .ah .ah v12 bu (zi 0) fw) (λdI ez dq iD=>qc dI ez dq iD)) (λgT fE fg eR=>BN (aA eR [.ah] 72 0) λi67 qF=>J 2 (λJm=>B1 (aG fE) λv70=>J 2 (λxN=>S0 J G cf xN gT fg (.ptr i67 0) fE v70 (zi 0) qF) (λkM yp DX=>Jm kM yp DX)) (λuk pR GW=>J 2 (λUQ=>B1 (aB 1 pR GW) λv139=>B2 (cf (zf 90) [v139] GW) λCX uS=>B1 (gk CX (zi 0)) λCm=>CD Cm (B1 (fl [.ah] []) λas8=>B1 (st 1 uk (.agg as8) uS) λDC=>B1 (aB 1 uk DC) λv145=>some (.tuple [v145,CX],DC)) (UQ uk pR uS)) (λHT Cr Kt=>B1 (aB 1 Cr Kt) λaae=>B1 (st 1 HT aae Kt) λPr=>B1 (aB 1 HT Pr) λar6=>some (.tuple [ar6,(zi 0)],Pr)))))
theorem NR:yC1 53 JA:=yM1
def ad6:yS 3:=λJ G cf a0 a1 a2 H=>B1 (me a0 a1) λv0=>G v0 true (λk1=>k1 a0 H) (λv2 h3=>G v0 true (λk4=>k4 a2 h3) (λv5 h6=>G v0 true (λk7=>B1 (qE v2 v5) λv8=>k7 v8 h6) (λv9 cG=>B1 (pk v0 v9 (.bool false)) λv11=>some (v11,cG)) h6) h3) H
theorem aDa:yC3 119 ad6:=yM3
def To:yB 0 4:=λJ G cf j6 j7 x8 x9 cw bZ et=>B1 (ba bZ cw) λcO=>CD cO (J 4 (λeK=>J 6 (λjh=>B1 (ia 6 x9 bZ) λcq=>B1 (aB 6 cq et) λeH=>BN (aA et [(.str []),.ah,(zi 0),(zi 0),(zi 0),(.str [])] 99 0) λi18 dW=>B1 (st 6 (.ptr i18 0) eH dW) λcW=>jh x8 bZ (.ptr i18 0) x9 cw bZ cW) (λbc bo bQ di bX cZ eX=>B1 (aB 6 bQ eX) λv28=>B2 (cf bc [bo,v28] eX) λv29 iW=>CD v29 (some ((.bool true),iW)) (eK bc di bX cZ iW))) (λcj fC fO eg iX=>B1 (aZ eg (zi 1)) λv36=>j7 cj fC fO v36 iX)) (j6  et)
def Vy:yL 0 4:=yX 125 [1,0,1,0,0] [1,8,9,10] 0 []
theorem Wm:yQ4 Vy To:=yq4
def afO:yS 2:=λJ G cf a0 a1 H=>BN (bx 72 a0 H) λi0 h1=>J 0 (λj2=>B1 (fa 0 (.ptr i0 0)) λv3=>B1 (ld v3 h1) λv4=>B1 (aG v4) λv5=>J 0 (λj6=>Vy J G cf j6 a1 v4 v5 (zi 0) h1) (λgG=>j2  gG)) (λiR=>some ((.bool false),iR))
theorem awE:yC2 125 afO:=yM2
def Sr:yB 1 4:=λJ G cf hJ LZ cH bK eB dK ig=>B1 (ba dK eB) λdB=>CD dB (J 4 (λLm=>B1 (ia 2 bK dK) λv44=>B1 (aB 2 v44 ig) λeh=>BN (aA ig [.nilFunc,(zi 0)] 194 0) λi46 mj=>B1 (st 2 (.ptr i46 0) eh mj) λpz=>B1 (aB 1 cH pz) λv49=>B1 (fa 0 (.ptr i46 0)) λgH=>B1 (ld gH pz) λv51=>B2 (cf (zf 125) [v49,v51] pz) λgR gL=>CD gR (B1 (fa 1 (.ptr i46 0)) λiY=>B1 (ld iY gL) λfZ=>some (fZ,gL)) (Lm cH bK eB dK gL)) (λeD fy eY dI qB=>B1 (aZ dI (zi 1)) λki=>LZ eD fy eY ki qB)) (hJ cH ig)
def Ng:yL 1 4:=yX 90 [1,1,1,0,1,0,0] [1,18,19,20] 0 [1]
theorem aex:yQ4 Ng Sr:=yq4
def Ef:yS 1:=λJ G cf a0 H=>BN (bx 72 a0 H) λi0 h1=>J 1 (λj2=>J 2 (λj3=>B1 (fa 0 (.ptr i0 0)) λv4=>B1 (ld v4 h1) λv5=>B1 (aG v5) λv6=>B2 (cf (zf 119) [v6,(zi 1),(zi 16)] h1) λv7 h8=>B1 (ep .not v7) λv9=>j3 (.ptr i0 0) v9 h8) (λcw bZ et=>CD bZ (some ((zi 1),et)) (j2 cw et))) (λbR iG=>BN (BS iG) λi15 bO=>BN (aA bO [.lz] 192 0) λi17 iu=>B1 (st 1 (.ptr i17 0) (.map i15) iu) λdW=>J 1 (λaK=>J 4 (λiJ=>B1 (fl [.nilFunc,(zi 0)] [(0,1,(zf 120)),(1,1,(zi 2))]) λVa=>B1 (fl [.nilFunc,(zi 0)] [(0,1,(.func (.func 121) [] [(.ptr i17 0)])),(1,1,(zi 5))]) λl23=>B1 (fl [.nilFunc,(zi 0)] [(0,1,(zf 122)),(1,1,(zi 1))]) λZd=>B1 (fl [.nilFunc,(zi 0)] [(0,1,(.func (.func 123) [] [bR])),(1,1,(zi 1))]) λl25=>B1 (fl [.nilFunc,(zi 0),.nilFunc,(zi 0),.nilFunc,(zi 0),.nilFunc,(zi 0)] [(0,2,(.agg Va)),(2,2,(.agg l23)),(4,2,(.agg Zd)),(6,2,(.agg l25))]) λl26=>BN (aA dW l26 194 0) λi27 gP=>B1 (aG (.slice i27 0 4 4 true 2)) λv29=>iJ bR (.slice i27 0 4 4 true 2) v29 (zi 0) gP) (λdS cj fC fO ij=>J 1 (λhJ=>Ng J G cf hJ dS cj fC fO ij) (λjf xh=>aK jf xh))) (λfE oa=>J 0 (λj66=>J 1 (λLM=>B1 (aB 1 fE oa) λnb=>B2 (cf (zf 127) [nb] oa) λmi uw=>B2 (cf (zf 126) [mi] uw) λma nE=>B1 (aG ma) λiP=>B1 (iC iP (zi 0)) λjL=>LM jL nE) (λka jw=>CD ka (some ((zi 7),jw)) (j66  jw))) (λJI=>some ((zi 0),JI))))
theorem I8:yC1 90 Ef:=yM1
def acb:yS 2:=λJ G cf a0 a1 H=>BN (bx 99 a1 H) λi0 h1=>B1 (fa 0 (.ptr i0 0)) λv2=>B1 (ld v2 h1) λv3=>B2 (cf (zf 54) [v3] h1) λv4 h5=>B1 (ep .not v4) λv6=>G v6 false (λk7=>B1 (fa 5 (.ptr i0 0)) λv8=>k7 v8 h5) (λv9 cG=>G v6 false (λCO=>B1 (ld v9 cG) λv12=>CO v12 cG) (λcO iG=>G v6 false (λzM=>B1 (sL cO (.str [])) λcq=>zM cq iG) (λeH iu=>G v6 false (λOO=>OO eH iu) (λv20 kP=>G v20 true (λGy=>B1 (fa 5 (.ptr i0 0)) λv23=>Gy v23 kP) (λv24 dR=>G v20 true (λCe=>B1 (ld v24 dR) λv27=>Ce v27 dR) (λv28 dm=>G v20 true (λyF=>B2 (cf (zf 54) [v28] dm) λv31 cU=>yF v31 cU) (λeQ ij=>G v20 true (λwC=>B1 (ep .not eQ) λv36=>wC v36 ij) (λv37 iR=>G v6 false (λze=>B1 (pk v20 v37 (.bool false)) λv40=>ze v40 iR) (λv41 eM=>B1 (pk v6 (.bool true) v41) λeZ=>some (eZ,eM)) iR) ij) dm) dR) kP) iu) iG) cG) h5
theorem ayS:yC2 120 acb:=yM2
def WY:yS 3:=λJ G cf a0 a1 a2 H=>BN (bx 99 a1 H) λi0 h1=>J 3 (λj2=>B1 (ld a2 h1) λv3=>B1 (fa 0 (.ptr i0 0)) λv4=>B1 (ld v4 h1) λv5=>B1 (tC .str (.bool false) false v3 v5 h1) λv6=>j2 a2 (.ptr i0 0) v6 h1) (λx7 x8 x9 cG=>B1 (ld x7 cG) λv11=>B1 (fa 0 x8) λv12=>B1 (ld v12 cG) λcO=>B1 (xT .str v11 cO (.bool true) cG) λiG=>some (x9,iG))
theorem ajU (h:WY JN GO cK a0 a1 a2 H=some r):cK (.func (.func 121) [] [a2]) [a0,a1] H=some r:=xP (first:=[]) (cap:=[a2]) (abk zzw h)
def aeQ:yS 2:=λJ G cf a0 a1 H=>BN (bx 99 a1 H) λi0 h1=>B1 (fa 2 (.ptr i0 0)) λv2=>B1 (ld v2 h1) λv3=>B2 (cf (zf 119) [v3,(zi 0),(zi 8)] h1) λv4 h5=>B1 (ep .not v4) λv6=>G v6 false (λk7=>B1 (fa 3 (.ptr i0 0)) λv8=>k7 v8 h5) (λv9 cG=>G v6 false (λCO=>B1 (ld v9 cG) λv12=>CO v12 cG) (λcO iG=>G v6 false (λzM=>B2 (cf (zf 119) [cO,(zi 1),(zi 1000)] iG) λcq dT=>zM cq dT) (λcg dW=>G v6 false (λLt=>B1 (ep .not cg) λv21=>Lt v21 dW) (λv22 dc=>B1 (pk v6 (.bool true) v22) λv24=>G v24 false (λyK=>B1 (fa 4 (.ptr i0 0)) λv26=>yK v26 dc) (λv27 gP=>G v24 false (λNk=>B1 (ld v27 gP) λv30=>Nk v30 gP) (λv31 cU=>G v24 false (λCS=>B2 (cf (zf 119) [v31,(zi 1),(zi 1000)] cU) λdf iX=>CS df iX) (λv36 gG=>G v24 false (λyN=>B1 (ep .not v36) λfQ=>yN fQ gG) (λv40 ig=>B1 (pk v24 (.bool true) v40) λdB=>some (dB,ig)) gG) cU) gP) dc) dW) iG) cG) h5
theorem ape:yC2 122 aeQ:=yM2
def aiQ:yS 3:=λJ G cf a0 a1 a2 H=>BN (bx 99 a1 H) λi0 h1=>B1 (aB 1 a2 h1) λv2=>B1 (fa 1 (.ptr i0 0)) λv3=>B1 (ld v3 h1) λv4=>B2 (cf (zf 124) [v2,a0,v4] h1) λv5 h6=>B1 (ep .not v5) λv7=>some (v7,h6)
theorem auC (h:aiQ JN GO cK a0 a1 a2 H=some r):cK (.func (.func 123) [] [a2]) [a0,a1] H=some r:=xP (first:=[]) (cap:=[a2]) (abk zzw h)
def Im:yB 0 6:=λJ G cf j4 j5 x6 x7 x8 x9 cw bZ et=>B1 (ba bZ cw) λcO=>CD cO (J 6 (λeK=>J 8 (λjh=>B1 (ia 1 x9 bZ) λcq=>B1 (ld cq et) λeH=>jh x6 x7 x8 bZ eH x9 cw bZ et) (λbM bV dN bc bo bQ di bX eO=>J 7 (λzN=>B1 (fa 0 dN) λv28=>B1 (ld v28 eO) λv29=>B1 (aG v29) λv30=>B1 (pC v30 (zi 1)) λv31=>B2 (cf (zf 119) [bo,(zi 0),v31] eO) λv32 jB=>B1 (ep .not v32) λdf=>G df false (λwC=>wC bo jB) (λv36 gG=>G df false (λyN=>yN bM gG) (λfQ mg=>G df false (λk41=>B1 (bJ v36 fQ) λdB=>k41 dB mg) (λeZ dZ=>B1 (pk df (.bool true) eZ) λeh=>G eh false (λLp=>Lp bV dZ) (λiN pz=>G eh false (λZL=>ZL bc pz) (λgH kB=>G eh false (λxr=>B1 (oh 1 iN none (some gH) none) λv53=>xr v53 kB) (λiY pG=>G eh false (λCp=>Cp bo pG) (λv57 ku=>G eh false (λGB=>B2 (cf (zf 154) [iY,v57] ku) λfB kZ=>GB fB kZ) (λhU xh=>B1 (pk eh (.bool true) hU) λv64=>zN bM bV dN bQ di bX v64 xh) ku) pG) kB) pz) dZ) mg) gG) jB) (λfg mB gD gF kT jT nG nE=>CD nG (some ((.bool false),nE)) (eK fg mB gD gF kT jT nE)))) (λjs jK ka gK fD gz iI=>B1 (aZ gz (zi 1)) λv80=>j5 js jK ka gK fD v80 iI)) (j4  et)
def WN:yL 0 6:=yX 124 [1,0,1,0,0] [1,2,3,9,10,11] 0 []
theorem aju:yQ6 WN Im:=yq6
def acY:yS 3:=λJ G cf a0 a1 a2 H=>BN (bx 72 a0 H) λi0 h1=>J 0 (λj2=>B1 (aG a2) λv3=>J 0 (λj4=>WN J G cf j4 a1 a2 (.ptr i0 0) a2 v3 (zi 0) h1) (λxJ=>j2  xJ)) (λsN=>some ((.bool true),sN))
theorem aBO:yC3 124 acY:=yM3
def Nf (J:JT)(G:GT)(cf:CF)(br:K.Fn 1)(aK:K.Fn 5)(fM:K.Fn 7)(pT:K.Fn 10)(eg da bI cH bK eB dK gC fH ft:AV)(dZ:Hp):R:=B1 (ba ft fH) λeh=>CD eh (J 10 (λN9=>J 12 (λBM=>B1 (ia 1 gC ft) λfj=>B1 (ld fj dZ) λv49=>BM eg da bI cH ft v49 bK eB dK gC fH ft dZ) (λik gM fL gY iv fT eD fy eY dI ez dq iD=>J 11 (λPb=>B1 (bJ iv (zi 0)) λv64=>CD v64 (B1 (uY gY (.str [32,97,102,116,101,114,61])) λgU=>Pb ik gM fL gU fT eD fy eY dI ez dq iD) (B1 (uY gY (.str [44])) λmW=>Pb ik gM fL mW fT eD fy eY dI ez dq iD)) (λgD gF kT jT nG n0 js jK ka gK fD ve=>B1 (fa 0 gD) λnz=>B1 (ld nz ve) λv80=>B1 (ia 6 v80 nG) λkR=>B1 (fa 0 kR) λjW=>B1 (ld jW ve) λjV=>B1 (uY jT jV) λCb=>N9 gD gF kT Cb n0 js jK ka gK fD ve))) (λlK oJ tf oq BZ DE zd lQ nB jA nH=>B1 (aZ jA (zi 1)) λlO=>pT lK oJ tf oq BZ DE zd lQ nB lO nH)) (fM eg da bI cH bK eB dK dZ)
def LA (J:JT)(G:GT)(cf:CF)(br:K.Fn 1)(aK:K.Fn 5)(fM:K.Fn 7):K.Fn 10:=CV P an J G cf 55 [1,1,1,0,1,0,0,1,1,0,0,1,1,0,1,0,0] [1,3,5,6,13,14,15,22,23,24] (λq t H=>match Nat.beq q 2 with|true=>app 7 fM (aH [1,3,5,6,13,14,15] t) H|false=>(λq t H=>match Nat.beq q 1 with|true=>app 5 aK (aH [1,3,13,14,15] t) H|false=>(λq t H=>match Nat.beq q 0 with|true=>app 1 br (aH [3] t) H|false=>(λ_ _ _=>none) q t H) q t H) q t H)
theorem avU (J:JT)(G:GT)(cf:CF)(br:K.Fn 1)(aK:K.Fn 5)(fM:K.Fn 7)(pT:K.Fn 10)(eg da bI cH bK eB dK gC fH ft:AV)(dZ:Hp):xg P an J G cf 55 [1,1,1,0,1,0,0,1,1,0,0,1,1,0,1,0,0] [1,3,5,6,13,14,15,22,23,24] (λq t H=>match Nat.beq q 2 with|true=>app 7 fM (aH [1,3,5,6,13,14,15] t) H|false=>(λq t H=>match Nat.beq q 1 with|true=>app 5 aK (aH [1,3,13,14,15] t) H|false=>(λq t H=>match Nat.beq q 0 with|true=>app 1 br (aH [3] t) H|false=>(λ_ _ _=>none) q t H) q t H) q t H) pT [eg,da,bI,cH,bK,eB,dK,gC,fH,ft] dZ=Nf J G cf br aK fM pT eg da bI cH bK eB dK gC fH ft dZ:=zzw
theorem Xj (cf:CF)(br:K.Fn 1)(aK:K.Fn 5)(fM:K.Fn 7)(eg da bI cH bK eB dK gC fH ft:AV)(dZ:Hp):LA JN GO cf br aK fM eg da bI cH bK eB dK gC fH ft dZ=Nf JN GO cf br aK fM (LA JN GO cf br aK fM) eg da bI cH bK eB dK gC fH ft dZ:=abk (b:=app 10 (LA JN GO cf br aK fM) [eg,da,bI,cH,bK,eB,dK,gC,fH,ft] dZ) zzw ((xq cf _ _ _ _ [eg,da,bI,cH,bK,eB,dK,gC,fH,ft] rfl dZ).trans (avU JN GO cf br aK fM _ eg da bI cH bK eB dK gC fH ft dZ))
def S5:yB 1 5:=λJ G cf br qc bL bR eI dX bU dT=>B1 (ba bU dX) λcg=>CD cg (J 5 (λdh=>J 5 (λaK=>B1 (ia 6 eI bU) λv21=>B1 (aB 6 v21 dT) λv22=>BN (aA dT [(.str []),.ah,(zi 0),(zi 0),(zi 0),(.str [])] 99 0) λi23 gj=>B1 (st 6 (.ptr i23 0) v22 gj) λdR=>B1 (fa 0 (.ptr i23 0)) λv26=>B1 (ld v26 dR) λv27=>J 7 (λrW=>B1 (fa 1 (.ptr i23 0)) λv29=>B1 (ld v29 dR) λv30=>B1 (aG v30) λv31=>J 7 (λfM=>LA J G cf br aK fM bL bR (.ptr i23 0) v27 eI dX bU v30 v31 (zi 0) dR) (λpU vU vu By wM za CT GG=>rW pU vU vu By wM za CT GG)) (λCt uv pq th mF uc um sj=>J 7 (λavA=>B1 (fa 2 pq) λxf=>B1 (ld xf sj) λuT=>B2 (cf (zf 92) [(.str [32,114,101,116,114,121,61]),uT,(zi 0)] sj) λGM A9=>B1 (fa 3 pq) λxG=>B1 (ld xG A9) λxX=>B2 (cf (zf 92) [(.str [32,119,97,105,116,61]),xX,(zi 10)] A9) λKR QE=>B1 (uY GM KR) λyG=>B1 (fa 4 pq) λwO=>B1 (ld wO QE) λv124=>B2 (cf (zf 92) [(.str [32,98,97,115,101,61]),v124,(zi 1)] QE) λym A8=>B1 (uY yG ym) λv127=>B1 (uY th v127) λET=>B1 (ld xG sj) λGq=>SM xX Gq <| B1 (ld wO sj) λv130=>SM v124 v130 <| B1 (ld wO A9) λv131=>SM v124 v131 <| avA Ct uv pq ET mF uc um A8) (λkM yp zD uk pR uf wo Ek=>J 6 (λanY=>B1 (fa 5 zD) λv141=>B1 (ld v141 Ek) λCm=>B1 (sL Cm (.str [])) λv143=>CD v143 (B1 (fa 5 zD) λabL=>B1 (ld abL Ek) λv145=>B1 (uY (.str [32,111,110,61]) v145) λv146=>B1 (uY uk v146) λDt=>anY kM yp Dt pR uf wo Ek) (anY kM yp uk pR uf wo Ek)) (λCg xS yY rP pL yq zU=>B1 (fl [(.str [])] [(0,1,yY)]) λaul=>BN (aA zU aul 9 0) λi156 Ux=>B2 (c8 9 1 [(.str [])] false xS (.slice i156 0 1 1 true 1) Ux) λMJ IW=>aK Cg MJ rP pL yq IW)))) (λFz Yx Gm Fx NO JG=>dh Fz Yx Gm Fx NO JG)) (λWK sd wh vQ CI Ya=>B1 (aZ CI (zi 1)) λaba=>qc WK sd wh vQ aba Ya)) (br bR dT)
def aaa:yL 1 5:=yX 55 [1,1,1,0,1,0,0] [1,3,13,14,15] 0 [3]
theorem abZ:yQ5 aaa S5:=yq5
def abw:yS 1:=λJ G cf a0 H=>BN (bx 72 a0 H) λi0 h1=>B1 (aB 1 (.ptr i0 0) h1) λv2=>B2 (cf (zf 90) [v2] h1) λv3 h4=>B1 (gk v3 (zi 0)) λv5=>CD v5 (some ((.str []),h4)) (J 1 (λj6=>B1 (fa 0 (.ptr i0 0)) λv7=>B1 (ld v7 h4) λv8=>B1 (aG v8) λv9=>J 1 (λbr=>aaa J G cf br (.ptr i0 0) .ah v8 v9 (zi 0) h4) (λtW az3=>j6 tW az3)) (λG0 aa6=>B2 (cf (zf 85) [G0,(.str [59])] aa6) λDb vw=>some (Db,vw)))
theorem aeW:yC1 55 abw:=yM1
def WR:yS 3:=λJ G cf a0 a1 a2 H=>B1 (bJ a1 a2) λv0=>CD v0 (some ((.str []),H)) (B2 (cf (zf 84) [a1] H) λv1 h2=>B1 (uY a0 v1) λv3=>some (v3,h2))
theorem agu:yC3 92 WR:=yM3
def TW (J:JT)(G:GT)(cf:CF)(aK:K.Fn 2)(fA:K.Fn 6)(mw:K.Fn 6)(R4:K.Fn 10)(fL gY iv fT eD fy eY dI ez dq:AV)(iD:Hp):R:=B1 (ba dq ez) λv63=>CD v63 (J 10 (λj64=>J 10 (λj65=>B1 (ia 1 dI dq) λmW=>B1 (ld mW iD) λlF=>J 12 (λYf=>B1 (fl [(zi 0),(zi 0)] [(0,1,lF),(1,1,fT)]) λl69=>BN (aA iD [(zi 0),(zi 0)] 231 0) λi70 kj=>B1 (st 2 (.ptr i70 0) (.agg l69) kj) λnE=>Yf fL gY iv fT lF (.ptr i70 0) eD fy eY dI ez dq nE) (λjs jK ka gK fD gz pD oF oV qI mG ng rF=>J 12 (λK2=>B1 (fa 0 js) λv87=>B1 (ld v87 rF) λsR=>B1 (aG sR) λoz=>B1 (pC oz (zi 1)) λoK=>B2 (cf (zf 119) [fD,(zi 0),oK] rF) λv91 Da=>G v91 true (λQ2=>Q2 fD Da) (λux nH=>G v91 true (λk96=>k96 gK nH) (λBI AG=>G v91 true (λXK=>B1 (gk ux BI) λrE=>XK rE AG) (λwY y7=>B1 (pk v91 wY (.bool false)) λxB=>G xB true (λaat=>B1 (fa 1 ka) λv105=>aat v105 y7) (λyR F7=>G xB true (λasX=>B1 (ld yR F7) λv109=>asX v109 F7) (λDg OF=>G xB true (λap1=>B1 (aB 2 gz OF) λsZ=>ap1 sZ OF) (λxf Ey=>G xB true (λatn=>B2 (cf (zf 158) [Dg,xf] Ey) λv117 Dy=>atn v117 Dy) (λxX zJ=>G xB true (λXl=>B1 (ep .not xX) λyG=>Xl yG zJ) (λwO ry=>B1 (pk xB wO (.bool false)) λym=>K2 js jK ka gK gz pD oF oV qI mG ng ym ry) zJ) Ey) OF) F7) y7) AG) nH) Da) (λlf iZ jt jM mq pt kM yp zD uk pR uf Hv=>CD uf (B1 (fa 1 jt) λv139=>B1 (ld v139 Hv) λCX=>B1 (aB 2 mq Hv) λv141=>B1 (fl [(zi 0),(zi 0)] [(0,2,v141)]) λaAe=>BN (aA Hv aAe 231 0) λi143 DC=>B2 (c8 231 2 [(zi 0),(zi 0)] false CX (.slice i143 0 1 1 true 2) DC) λv145 yj=>B1 (fa 1 jt) λDt=>B1 (st 1 Dt v145 yj) λKt=>j65 lf iZ jt jM pt kM yp zD uk pR Kt) (j65 lf iZ jt jM pt kM yp zD uk pR Hv)))) (λxS yY rP pL yq ya Mu z6 zC uX IW=>j64 xS yY rP pL yq ya Mu z6 zC uX IW)) (λFz Yx Gm Fx NO WG WK sd wh vQ aB7=>B1 (aZ vQ (zi 1)) λv171=>R4 Fz Yx Gm Fx NO WG WK sd wh v171 aB7)) (mw fL gY iv eD fy eY iD)
def Ny (J:JT)(G:GT)(cf:CF)(aK:K.Fn 2)(fA:K.Fn 6)(mw:K.Fn 6):K.Fn 10:=CV P an J G cf 127 [1,1,0,1,0,0,1,1,0,0,1,1,0,0] [1,2,3,4,14,15,16,22,23,24] (λq t H=>match Nat.beq q 2 with|true=>app 6 mw (aH [1,2,3,14,15,16] t) H|false=>(λq t H=>match Nat.beq q 1 with|true=>app 6 fA (aH [1,2,3,14,15,16] t) H|false=>(λq t H=>match Nat.beq q 0 with|true=>app 2 aK (aH [2,3] t) H|false=>(λ_ _ _=>none) q t H) q t H) q t H)
theorem aCT (J:JT)(G:GT)(cf:CF)(aK:K.Fn 2)(fA:K.Fn 6)(mw:K.Fn 6)(R4:K.Fn 10)(fL gY iv fT eD fy eY dI ez dq:AV)(iD:Hp):xg P an J G cf 127 [1,1,0,1,0,0,1,1,0,0,1,1,0,0] [1,2,3,4,14,15,16,22,23,24] (λq t H=>match Nat.beq q 2 with|true=>app 6 mw (aH [1,2,3,14,15,16] t) H|false=>(λq t H=>match Nat.beq q 1 with|true=>app 6 fA (aH [1,2,3,14,15,16] t) H|false=>(λq t H=>match Nat.beq q 0 with|true=>app 2 aK (aH [2,3] t) H|false=>(λ_ _ _=>none) q t H) q t H) q t H) R4 [fL,gY,iv,fT,eD,fy,eY,dI,ez,dq] iD=TW J G cf aK fA mw R4 fL gY iv fT eD fy eY dI ez dq iD:=zzw
theorem af9 (cf:CF)(aK:K.Fn 2)(fA:K.Fn 6)(mw:K.Fn 6)(fL gY iv fT eD fy eY dI ez dq:AV)(iD:Hp):Ny JN GO cf aK fA mw fL gY iv fT eD fy eY dI ez dq iD=TW JN GO cf aK fA mw (Ny JN GO cf aK fA mw) fL gY iv fT eD fy eY dI ez dq iD:=abk (b:=app 10 (Ny JN GO cf aK fA mw) [fL,gY,iv,fT,eD,fy,eY,dI,ez,dq] iD) zzw ((xq cf _ _ _ _ [fL,gY,iv,fT,eD,fy,eY,dI,ez,dq] rfl iD).trans (aCT JN GO cf aK fA mw _ fL gY iv fT eD fy eY dI ez dq iD))
def U2:yB 2 6:=λJ G cf aK iJ bo bQ di bX cZ db gP=>B1 (ba db cZ) λv29=>CD v29 (J 6 (λAa=>J 6 (λfA=>J 8 (λfM=>B1 (ia 6 bX db) λeQ=>B1 (aB 6 eQ gP) λdf=>BN (aA gP [(.str []),.ah,(zi 0),(zi 0),(zi 0),(.str [])] 99 0) λi35 nR=>B1 (st 6 (.ptr i35 0) df nR) λgG=>fM bo bQ di db (.ptr i35 0) bX cZ db gG) (λbK eB dK gC fH ft lT iQ iM=>B1 (fa 1 fH) λiN=>B1 (ld iN iM) λfj=>B1 (aG fj) λv49=>J 6 (λmw=>Ny J G cf aK fA mw bK eB dK gC ft lT iQ fj v49 (zi 0) iM) (λwP tW vG G0 aaL WD vw=>fA wP tW vG G0 aaL WD vw))) (λZm TZ aBk aya aw9 aDz aby=>Aa Zm TZ aBk aya aw9 aDz aby)) (λYH XY Wx Up U0 MN SN=>B1 (aZ MN (zi 1)) λv193=>iJ YH XY Wx Up U0 v193 SN)) (aK bQ di gP)
def YN:yL 2 6:=yX 127 [1,1,0,1,0,0] [1,2,3,14,15,16] 0 [2,3]
theorem ae5:yQ6 YN U2:=yq6
def aok:yS 1:=λJ G cf a0 H=>BN (bx 72 a0 H) λi0 h1=>BN (aA h1 [(zi 0),.ah] 201 0) λi2 h3=>J 3 (λj4=>B1 (fa 0 (.ptr i0 0)) λv5=>B1 (ld v5 h3) λv6=>B1 (aG v6) λv7=>B1 (fl [(zi 0),.ah] [(0,1,v7)]) λl8=>BN (aA h3 [(zi 0),.ah] 201 0) λi9 cG=>B1 (st 2 (.ptr i9 0) (.agg l8) cG) λeE=>j4 (.ptr i0 0) (.ptr i2 0) (.ptr i9 0) eE) (λbL bR eI eJ=>J 2 (λbA=>B1 (fa 0 bL) λeH=>B1 (ld eH eJ) λcg=>B1 (aG cg) λeT=>J 2 (λaK=>YN J G cf aK bL bR eI cg eT (zi 0) eJ) (λaap Mz aBz=>bA aap Mz aBz)) (λIg B7 Pm=>B1 (aB 2 B7 Pm) λarb=>B1 (st 2 Ig arb Pm) λPd=>B1 (aB 2 Ig Pd) λabS=>some (abS,Pd)))
theorem asM:yC1 127 aok:=yM1
def V9:yS 1:=λJ G cf a0 H=>BN (bx 72 a0 H) λi0 h1=>BN (aA h1 [.ah,(zi 0),.ah,.ah] 75 0) λi2 h3=>J 2 (λj4=>B1 (aB 1 (.ptr i0 0) h3) λv5=>B2 (cf (zf 90) [v5] h3) λv6 h7=>B1 (gk v6 (zi 0)) λv8=>CD v8 (B1 (fl [.ah,(zi 0),.ah,.ah] []) λl9=>B1 (st 4 (.ptr i2 0) (.agg l9) h7) λcG=>B1 (aB 4 (.ptr i2 0) cG) λv11=>some (.tuple [v11,v6],cG)) (j4 (.ptr i0 0) (.ptr i2 0) h7)) (λbL bR iG=>J 2 (λjh=>B1 (aB 1 bL iG) λcq=>B1 (fa 0 bL) λeH=>B1 (ld eH iG) λcg=>B1 (aG cg) λeT=>B2 (B0 [(zi 0),(zi 0),(zi 0),(.str [])] 132 4 eT eT iG) λv20 kP=>B1 (fl [.ah,(zi 0),.ah,.ah] [(0,1,cq),(2,1,v20)]) λVa=>B2 (cf (zf 97) [(.agg Va)] kP) λv23 gj=>BN (aA gj [.ah,(zi 0),.ah,.ah] 75 0) λi25 eO=>B1 (st 4 (.ptr i25 0) v23 eO) λeX=>B1 (aB 1 bL kP) λv28=>SM cq v28 <| jh bR (.ptr i25 0) eX) (λdF dS hZ=>B2 (cf (zf 106) [dS] hZ) λv32 jB=>B1 (aB 4 dS jB) λdf=>B1 (st 4 dF df jB) λiX=>B1 (aB 4 dF iX) λv36=>some (.tuple [v36,(zi 0)],iX)))
theorem acO:yC1 76 V9:=yM1
def abv:yB 2 5:=λJ G cf rW GV dS cj fC fO eg iX=>B1 (ba eg fO) λv36=>CD v36 (J 5 (λMM=>J 7 (λVs=>B1 (ia 6 fC eg) λfQ=>B1 (aB 6 fQ iX) λv40=>BN (aA iX [(.str []),.ah,(zi 0),(zi 0),(zi 0),(.str [])] 99 0) λi41 eM=>B1 (st 6 (.ptr i41 0) v40 eM) λuR=>Vs dS cj eg (.ptr i41 0) fC fO eg uR) (λlT iQ jS ic gW gr ik kB=>B1 (fa 0 lT) λgR=>B1 (fa 0 gR) λv53=>B1 (ld v53 kB) λiY=>B1 (fa 1 ic) λfZ=>B1 (ld fZ kB) λjF=>B2 (cf (zf 137) [jF] kB) λv57 ku=>B1 (ia 6 iY jS) λv59=>B1 (fa 1 v59) λfB=>B1 (st 1 fB v57 ku) λkZ=>B1 (ld v53 ku) λhU=>SM iY hU <| MM lT iQ gW gr ik kZ)) (λgT fE fg mB gD qF=>B1 (aZ gD (zi 1)) λmi=>GV gT fE fg mB mi qF)) (rW dS cj iX)
def abR:yL 2 5:=yX 97 [1,1,0,1,0,0] [1,2,13,14,15] 0 [1,2]
theorem aj6:yQ5 abR abv:=yq5
def ae4:yS 1:=λJ G cf a0 H=>BN (bx 75 a0 H) λi0 h1=>BN (aA h1 [.ah,(zi 0),.ah,.ah] 75 0) λi2 h3=>J 2 (λj4=>B1 (fa 0 (.ptr i0 0)) λv5=>B1 (fa 0 v5) λv6=>B1 (ld v6 h3) λv7=>B2 (cf (zf 136) [v7] h3) λv8 h9=>B1 (fa 0 (.ptr i0 0)) λv10=>B1 (fa 0 v10) λv11=>B1 (st 1 v11 v8 h9) λet=>j4 (.ptr i0 0) (.ptr i2 0) et) (λbR eI eJ=>J 2 (λbA=>J 5 (λoI=>B1 (fa 0 bR) λcg=>B1 (fa 0 cg) λeT=>B1 (ld eT eJ) λv20=>B1 (aG v20) λv21=>oI bR eI v20 v21 (zi 0) eJ) (λbo bQ di bX cZ eX=>J 2 (λrW=>abR J G cf rW bo bQ di bX cZ eX) (λjT nG nE=>bA jT nG nE))) (λjs jK nM=>J 2 (λMw=>B1 (fa 2 js) λva=>B1 (ld va nM) λqq=>B2 (cf (zf 138) [qq] nM) λnz C7=>B1 (fa 2 js) λkR=>B1 (st 1 kR nz C7) λsN=>Mw js jK sN) (λmG ng rF=>J 2 (λK2=>B1 (fa 3 mG) λv87=>B1 (ld v87 rF) λsR=>B2 (cf (zf 30) [sR] rF) λoz tH=>B1 (fa 3 mG) λv91=>B1 (st 1 v91 oz tH) λDa=>K2 mG ng Da) (λnB jA nH=>B1 (aB 4 nB nH) λlO=>B1 (st 4 jA lO nH) λBs=>B1 (aB 4 jA Bs) λxW=>some (xW,Bs)))))
theorem aDj:yC1 97 ae4:=yM1
def GR:yB 2 5:=λJ G cf bA oI bM bV dN bc bo dc=>B1 (ba bo bc) λv24=>CD v24 (J 5 (λyQ=>J 7 (λB5=>B1 (ia 6 dN bo) λv27=>B1 (aB 6 v27 dc) λv28=>BN (aA dc [(.str []),.ah,(zi 0),(zi 0),(zi 0),(.str [])] 99 0) λi29 iW=>B1 (st 6 (.ptr i29 0) v28 iW) λhZ=>B5 bM bV bo (.ptr i29 0) dN bc bo hZ) (λfC fO eg da bI cH bK fe=>J 8 (λwW=>B1 (fa 1 da) λv41=>B1 (ld v41 fe) λdB=>B2 (cf (zf 143) [dB,(.func (.func 144) [] [fC])] fe) λeZ dZ=>wW fC fO eg da eZ bI cH bK dZ) (λiQ jS ic gW gr ik gM fL gL=>J 6 (λgf=>J 7 (λwF=>B1 (ld iQ gL) λjF=>B1 (aI jF) λv57=>B1 (fa 2 v57) λjP=>B1 (ld jP gL) λv59=>B1 (ia 4 v59 ic) λfB=>B1 (fa 0 fB) λki=>B1 (ld ki gL) λhU=>B1 (bJ hU (zi 0)) λv63=>jD v63 true (B1 (ep .not gr) λv64=>jD v64 true (B1 (fa 5 gW) λgU=>B1 (ld gU gL) λmW=>B1 (seq mW (.str [])) λlF=>jD lF false (B1 (ld iQ gL) λnb=>B1 (aI nb) λmi=>B1 (fa 3 mi) λv70=>B1 (ld v70 gL) λma=>B1 (fa 5 gW) λv72=>B1 (ld v72 gL) λiP=>B2 (cf (zf 94) [ma,iP] gL) λjL nM=>wF iQ jS ic ik gM fL jL nM) (wF iQ jS ic ik gM fL (.bool true) gL)) (wF iQ jS ic ik gM fL (.bool false) gL)) (wF iQ jS ic ik gM fL (.bool false) gL)) (λgK fD gz pD oF oV qI pf=>CD qI (B1 (ld gK pf) λCb=>B1 (aI Cb) λv85=>B1 (fa 2 v85) λqu=>B1 (ld qu pf) λv87=>B1 (ia 4 v87 gz) λsR=>B1 (fa 0 sR) λoz=>B1 (st 1 oz (zi 1) pf) λtH=>gf gK fD gz pD oF oV tH) (gf gK fD gz pD oF oV pf))) (λzd lQ nB jA jR rj Bs=>G lQ true (λZ4=>B1 (ld zd Bs) λqO=>Z4 qO Bs) (λrE qC=>G lQ true (λXc=>B1 (aI rE) λxB=>Xc xB qC) (λnD qP=>G lQ true (λHy=>B1 (fa 2 nD) λv107=>Hy v107 qP) (λsB zT=>G lQ true (λabz=>B1 (ld sB zT) λwE=>abz wE zT) (λzr EM=>G lQ true (λaza=>aza nB EM) (λuT sS=>G lQ true (λauu=>B1 (ia 4 zr uT) λxG=>auu xG sS) (λxX zJ=>G lQ true (λXl=>B1 (fa 0 xX) λyG=>Xl yG zJ) (λwO ry=>G lQ true (λaH0=>B1 (ld wO ry) λEV=>aH0 EV ry) (λv127 BD=>G lQ true (λaBL=>B1 (bJ v127 (zi 3)) λv130=>aBL v130 BD) (λv131 Jl=>B1 (pk lQ v131 (.bool false)) λCN=>yQ zd CN jA jR rj Jl) BD) ry) zJ) sS) EM) zT) qP) qC) Bs)))) (λzD uk pR uf wo Ek=>B1 (aZ wo (zi 1)) λCX=>oI zD uk pR uf CX Ek)) (bA bM bV dc)
def CE:yL 2 5:=yX 106 [1,1,0,1,0,0] [1,2,10,11,12] 0 [1,2]
theorem ZF:yQ5 CE GR:=yq5
def Wq:yS 1:=λJ G cf a0 H=>BN (bx 146 a0 H) λi0 h1=>J 2 (λj2=>J 5 (λj3=>B1 (ld (.ptr i0 0) h1) λv4=>B1 (aI v4) λv5=>B1 (fa 0 v5) λv6=>B1 (fa 0 v6) λv7=>B1 (ld v7 h1) λv8=>B1 (aG v8) λv9=>j3 (.ptr i0 0) (.bool true) v8 v9 (zi 0) h1) (λcw bZ bL bR eI eJ=>J 2 (λbA=>CE J G cf bA cw bZ bL bR eI eJ) (λMm M1 Ri=>j2 Mm M1 Ri))) (λGe CM yj=>CD CM (B1 (ld Ge yj) λDt=>B1 (aI Dt) λv148=>B1 (fa 1 v148) λaae=>B1 (st 1 aae (zi 1) yj) λPr=>some (.tuple [],Pr)) (some (.tuple [],yj)))
theorem aiv:yC1 106 Wq:=yM1
def aks:yS 2:=λJ G cf a0 a1 H=>B1 (ld a1 H) λv0=>B1 (aI v0) λv1=>B1 (fa 2 v1) λv2=>B1 (ld v2 H) λv3=>B1 (ia 4 v3 a0) λv4=>B1 (fa 0 v4) λv5=>B1 (ld v5 H) λv6=>B1 (gk v6 (zi 3)) λv7=>some (v7,H)
theorem azw (h:aks JN GO cK a0 a1 H=some r):cK (.func (.func 144) [] [a1]) [a0] H=some r:=xP (first:=[]) (cap:=[a1]) (abk zzw h)
def ajQ:yS 2:=λJ G cf a0 a1 H=>BN (bx 75 a0 H) λi0 h1=>J 0 (λj2=>J 2 (λj3=>B1 (ba a1 (zi 0)) λv4=>G v4 false (λk5=>k5 a1 h1) (λv6 h7=>G v4 false (λk8=>B1 (fa 2 (.ptr i0 0)) λv9=>k8 v9 h7) (λv10 eE=>G v4 false (λU3=>B1 (ld v10 eE) λcO=>U3 cO eE) (λbu eJ=>G v4 false (λM9=>B1 (aG bu) λeH=>M9 eH eJ) (λcg dW=>G v4 false (λLt=>B1 (me v6 cg) λv21=>Lt v21 dW) (λv22 dc=>B1 (pk v4 (.bool true) v22) λv24=>j3 (.ptr i0 0) v24 dc) dW) eJ) eE) h7) h1) (λbX cZ eX=>CD cZ (some ((zi 1),eX)) (B1 (fa 1 bX) λv28=>B1 (ld v28 eX) λv29=>B1 (gk v29 (zi 0)) λv30=>CD v30 (some ((zi 9),eX)) (j2  eX)))) (λhZ=>some ((zi 0),hZ))
theorem avQ:yC2 108 ajQ:=yM2
def VG:yS 3:=λJ G cf a0 a1 a2 H=>BN (bx 75 a0 H) λi0 h1=>J 3 (λj2=>B1 (aB 4 (.ptr i0 0) h1) λv3=>B2 (cf (zf 108) [v3,a1] h1) λv4 h5=>B1 (gk v4 (zi 0)) λv6=>CD v6 (some (v4,h5)) (j2 a1 a2 (.ptr i0 0) h5)) (λx7 x8 x9 cG=>J 0 (λqc=>J 2 (λdV=>B1 (fa 2 x9) λcO=>B1 (ld cO cG) λbu=>B1 (ia 4 bu x7) λdL=>B1 (aB 4 dL cG) λcq=>BN (aA cG [(zi 0),(zi 0),(zi 0),(.str [])] 132 0) λi17 iu=>B1 (st 4 (.ptr i17 0) cq iu) λdW=>dV x8 (.ptr i17 0) dW) (λdN bc iA=>J 1 (λef=>B1 (fa 0 bc) λv24=>B1 (ld v24 iA) λv25=>B1 (gk v25 (zi 2)) λv26=>G v26 false (λOP=>B1 (fa 1 bc) λv28=>OP v28 iA) (λv29 iW=>G v26 false (λyP=>B1 (ld v29 iW) λv32=>yP v32 iW) (λeQ ij=>G v26 false (λwC=>wC dN ij) (λv36 gG=>G v26 false (λyN=>B1 (gk eQ v36) λfQ=>yN fQ gG) (λv40 ig=>B1 (pk v26 (.bool true) v40) λdB=>ef dB ig) gG) ij) iW) iA) (λft dZ=>CD ft (some ((zi 8),dZ)) (qc  dZ)))) (λji=>some ((zi 0),ji)))
theorem ac7:yC3 109 VG:=yM3
def OD:yS 4:=λJ G cf a0 a1 a2 a3 H=>BN (bx 75 a0 H) λi0 h1=>BN (aA h1 [.ah,(zi 0),.ah,.ah] 75 0) λi2 h3=>J 5 (λj4=>B1 (aB 4 (.ptr i0 0) h3) λv5=>B2 (cf (zf 108) [v5,a1] h3) λv6 h7=>B1 (gk v6 (zi 0)) λv8=>CD v8 (B1 (fl [.ah,(zi 0),.ah,.ah] []) λl9=>B1 (st 4 (.ptr i2 0) (.agg l9) h7) λcG=>B1 (aB 4 (.ptr i2 0) cG) λv11=>some (.tuple [v11,v6],cG)) (j4 a1 a2 a3 (.ptr i0 0) (.ptr i2 0) h7)) (λbL bR eI dX bU dT=>J 6 (λpO=>B1 (fa 2 dX) λeT=>B1 (ld eT dT) λv20=>B1 (ia 4 v20 bL) λv21=>B1 (aB 4 v21 dT) λv22=>BN (aA dT [(zi 0),(zi 0),(zi 0),(.str [])] 132 0) λi23 gj=>B1 (st 4 (.ptr i23 0) v22 gj) λdR=>pO bL bR eI dX bU (.ptr i23 0) dR) (λcZ db eu dF dS cj cU=>J 6 (λpT=>B1 (fa 0 cj) λdf=>B1 (ld df cU) λv35=>B1 (gk v35 (zi 1)) λv36=>CD v36 (B1 (fl [.ah,(zi 0),.ah,.ah] []) λYc=>B1 (st 4 dS (.agg Yc) cU) λiR=>B1 (aB 4 dS iR) λfQ=>some (.tuple [fQ,(zi 4)],iR)) (J 7 (λwW=>B1 (fa 1 cj) λv41=>B1 (ld v41 cU) λdB=>B1 (aZ dB (zi 1)) λeZ=>B1 (gk db eZ) λv44=>wW cZ db eu dF dS cj v44 cU) (λiQ jS ic gW gr ik gM kV=>CD gM (B1 (fl [.ah,(zi 0),.ah,.ah] []) λYO=>B1 (st 4 gr (.agg YO) kV) λmL=>B1 (aB 4 gr mL) λfZ=>some (.tuple [fZ,(zi 8)],mL)) (pT iQ jS ic gW gr ik kV)))) (λeD fy eY dI ez dq iD=>B1 (aB 4 dI iD) λv63=>B2 (cf (zf 97) [v63] iD) λv64 oa=>B1 (st 4 dI v64 oa) λeR=>J 4 (λLM=>B1 (fa 0 dI) λnb=>B1 (fa 0 nb) λmi=>B1 (ld mi eR) λv70=>B1 (ia 6 v70 eD) λma=>B1 (fa 3 ma) λv72=>B1 (ld v72 eR) λiP=>B1 (aZ eY iP) λjL=>B1 (fa 0 dq) λv75=>B1 (st 1 v75 (zi 2) eR) λjw=>B1 (fa 1 dq) λva=>B1 (st 1 va fy jw) λve=>B1 (fa 2 dq) λnz=>B1 (st 1 nz jL ve) λC7=>B1 (ld mi jw) λkR=>SM v70 kR <| B1 (ld v72 jw) λjW=>SM iP jW <| B1 (ld mi ve) λjV=>SM v70 jV <| B1 (ld v72 ve) λCb=>SM iP Cb <| LM eD dI ez dq C7) (λlK oJ tf oq ri=>J 2 (λuo=>B1 (fa 2 oJ) λv91=>B1 (ld v91 ri) λvD=>B1 (aB 4 oq ri) λv93=>B1 (ia 4 vD lK) λux=>B1 (st 4 ux v93 ri) λnH=>uo oJ tf nH) (λrj pU AG=>B1 (aB 4 rj AG) λqO=>B1 (st 4 pU qO AG) λyo=>B1 (aB 4 pU yo) λwY=>some (.tuple [wY,(zi 0)],yo))))))
theorem Tz:yC4 78 OD:=yM4
def WB:yS 4:=λJ G cf a0 a1 a2 a3 H=>BN (bx 75 a0 H) λi0 h1=>BN (aA h1 [.ah,(zi 0),.ah,.ah] 75 0) λi2 h3=>J 5 (λj4=>J 6 (λj5=>B1 (aB 4 (.ptr i0 0) h3) λv6=>B2 (cf (zf 109) [v6,a1,a2] h3) λv7 h8=>j5 a1 a2 a3 (.ptr i0 0) (.ptr i2 0) v7 h8) (λx9 cw bZ bL bR eI eJ=>B1 (gk eI (zi 0)) λcq=>CD cq (B1 (fl [.ah,(zi 0),.ah,.ah] []) λl17=>B1 (st 4 bR (.agg l17) eJ) λiu=>B1 (aB 4 bR iu) λeT=>some (.tuple [eT,eI],iu)) (j4 x9 cw bZ bL bR eJ))) (λdN bc bo bQ di dR=>B1 (aB 4 bQ dR) λv26=>B2 (cf (zf 97) [v26] dR) λv27 gP=>B1 (st 4 bQ v27 gP) λdm=>J 2 (λAa=>B1 (fa 2 bQ) λv31=>B1 (ld v31 dm) λv32=>B1 (fl [(zi 0),(zi 0),(zi 0),(.str [])] [(0,1,(zi 3)),(1,1,bc),(3,1,bo)]) λl33=>B1 (ia 4 v32 dN) λdf=>B1 (st 4 df (.agg l33) dm) λiX=>Aa bQ di iX) (λbI cH iR=>B2 (cf (zf 106) [bI] iR) λfQ mg=>B1 (aB 4 bI mg) λv41=>B1 (st 4 cH v41 mg) λeM=>B1 (aB 4 cH eM) λeZ=>some (.tuple [eZ,(zi 0)],eM)))
theorem al9:yC4 79 WB:=yM4
def Wp:yS 3:=λJ G cf a0 a1 a2 H=>J 4 (λj0=>B1 (aI a0) λv1=>B1 (fa 2 v1) λv2=>B1 (ld v2 H) λv3=>B1 (ia 4 v3 a1) λv4=>B1 (aI a0) λv5=>B1 (fa 0 v5) λv6=>B1 (fa 0 v6) λv7=>B1 (ld v7 H) λv8=>B1 (ia 6 v8 a1) λv9=>B1 (aB 6 v9 H) λv10=>BN (aA H [(.str []),.ah,(zi 0),(zi 0),(zi 0),(.str [])] 99 0) λi11 et=>B1 (st 6 (.ptr i11 0) v10 et) λfw=>j0 a0 a2 v4 (.ptr i11 0) fw) (λeI dX bU cP iu=>J 2 (λdh=>J 5 (λaK=>B1 (aI bU) λv21=>B1 (fa 1 v21) λv22=>B1 (ld v22 iu) λv23=>B1 (fa 2 cP) λv24=>B1 (ld v24 iu) λv25=>B1 (qE v23 v25) λv26=>aK eI dX bU cP v26 iu) (λdb eu dF dS cj cU=>CD cj (B1 (fa 4 dS) λeQ=>B1 (ld eQ cU) λdf=>B1 (aI dF) λv35=>B1 (fa 1 v35) λv36=>B1 (ld v36 cU) λv37=>B2 (cf (zf 145) [df,v37] cU) λgZ fe=>B1 (aZ eu gZ) λv40=>B1 (aI dF) λv41=>B1 (fa 0 v41) λdB=>B1 (st 1 dB (zi 5) fe) λuR=>B1 (aI dF) λv44=>B1 (fa 2 v44) λeh=>B1 (st 1 eh v40 uR) λiM=>some (.tuple [],iM)) (dh db dF cU))) (λic gW mR=>J 1 (λmw=>B1 (aI gW) λv51=>B1 (fa 0 v51) λgR=>B1 (st 1 gR (zi 4) mR) λgL=>B1 (aI gW) λiY=>B1 (fa 2 iY) λfZ=>B1 (st 1 fZ (zi 0) gL) λiH=>mw ic iH) (λfy ku=>B1 (aI fy) λv59=>B1 (fa 1 v59) λfB=>B1 (st 1 fB (zi 2) ku) λkZ=>some (.tuple [],kZ))))
theorem aka:yC3 107 Wp:=yM3
def XE:yS 4:=λJ G cf a0 a1 a2 a3 H=>BN (bx 75 a0 H) λi0 h1=>BN (aA h1 [.ah,(zi 0),.ah,.ah] 75 0) λi2 h3=>J 4 (λj4=>J 5 (λj5=>B1 (aB 4 (.ptr i0 0) h3) λv6=>B2 (cf (zf 109) [v6,a1,a2] h3) λv7 h8=>j5 a1 a3 (.ptr i0 0) (.ptr i2 0) v7 h8) (λx9 cw bZ bL bR iG=>B1 (gk bR (zi 0)) λdL=>CD dL (B1 (fl [.ah,(zi 0),.ah,.ah] []) λl16=>B1 (st 4 bL (.agg l16) iG) λdT=>B1 (aB 4 bL dT) λcg=>some (.tuple [cg,bR],dT)) (j4 x9 cw bZ bL iG))) (λbV dN bc bo dc=>B1 (aB 4 bc dc) λv24=>B2 (cf (zf 97) [v24] dc) λv25 eO=>B1 (st 4 bc v25 eO) λeX=>B2 (cf (zf 107) [bc,bV,dN] eX) λv28 dm=>B1 (aB 4 bc dm) λv30=>B1 (st 4 bo v30 dm) λhZ=>B1 (aB 4 bo hZ) λv32=>some (.tuple [v32,(zi 0)],hZ))
theorem aor:yC4 80 XE:=yM4
def FH:yB 2 5:=λJ G cf dV eC eI dX bU cP bM dW=>B1 (ba bM cP) λv20=>CD v20 (J 5 (λiJ=>J 5 (λwX=>J 7 (λef=>B1 (fa 2 dX) λv24=>B1 (ld v24 dW) λv25=>B1 (ia 4 v25 bM) λv26=>ef eI dX bU bM v26 cP bM dW) (λdb eu dF dS cj fC fO ij=>J 5 (λhJ=>J 8 (λLZ=>B1 (fa 1 eu) λv37=>B1 (ld v37 ij) λgZ=>B1 (gk gZ (zi 0)) λfQ=>G fQ false (λNw=>Nw cj ij) (λv41 eM=>G fQ false (λwN=>B1 (aI v41) λv44=>wN v44 eM) (λeh iM=>G fQ false (λGw=>B1 (fa 2 eh) λfj=>Gw fj iM) (λv49 lC=>G fQ false (λOe=>B1 (ld v49 lC) λgR=>Oe gR lC) (λv53 mL=>G fQ false (λNx=>Nx db mL) (λjF oR=>G fQ false (λFa=>B1 (iC v53 jF) λv59=>Fa v59 oR) (λfB kZ=>B1 (pk fQ (.bool true) fB) λhU=>LZ db eu dF dS cj fC fO hU kZ) oR) mL) lC) iM) eM) ij) (λgT fE fg mB gD gF kT jT kj=>CD jT (hJ gT fE fg gF kT kj) (J 8 (λBP=>B1 (aI gD) λiP=>B1 (fa 0 iP) λjL=>B1 (ld jL kj) λv75=>B1 (bJ v75 (zi 2)) λv76=>BP gT fE fg mB gD gF kT v76 kj) (λfD gz pD oF oV qI mG ng rF=>CD ng (B2 (cf (zf 107) [gz,oF,fD] rF) λqu pZ=>hJ fD gz pD qI mG pZ) (J 7 (λAY=>B1 (aI oV) λoz=>B1 (fa 0 oz) λoK=>B1 (ld oK rF) λv91=>B1 (bJ v91 (zi 5)) λvD=>AY fD gz pD oV qI mG vD rF) (λnB jA jR rj pU vU vu yo=>CD vu (B1 (aI rj) λwY=>B1 (fa 0 wY) λoQ=>B1 (st 1 oQ (zi 1) yo) λmE=>B1 (aI rj) λnD=>B1 (fa 2 nD) λv105=>B1 (st 1 v105 (zi 0) mE) λLk=>hJ nB jA jR pU vU Lk) (hJ nB jA jR pU vU yo))))))) (λpq th mF uc um sj=>wX pq th mF uc um sj))) (λuN sf yi tK xw Dy=>iJ uN sf yi tK xw Dy)) (λqn pY rf tS vE ry=>B1 (aZ vE (zi 1)) λym=>eC qn pY rf tS ym ry)) (dV dX bU dW)
def Kf:yL 2 5:=yX 77 [1,1,0,1,0,0] [1,2,4,11,12] 0 [2,4]
theorem HO:yQ5 Kf FH:=yq5
def alh:yS 2:=λJ G cf a0 a1 H=>BN (bx 75 a0 H) λi0 h1=>BN (aA h1 [.ah,(zi 0),.ah,.ah] 75 0) λi2 h3=>B1 (aB 4 (.ptr i0 0) h3) λv4=>B2 (cf (zf 97) [v4] h3) λv5 h6=>B1 (st 4 (.ptr i0 0) v5 h6) λh7=>J 2 (λj8=>B1 (fa 2 (.ptr i0 0)) λv9=>B1 (ld v9 h7) λv10=>B1 (aG v10) λv11=>J 2 (λdV=>Kf J G cf dV a1 (.ptr i0 0) (.ptr i2 0) v11 (zi 0) h7) (λlf iZ BD=>j8 lf iZ BD)) (λjM mq D8=>B1 (aB 4 jM D8) λDO=>B1 (st 4 mq DO D8) λlN=>B1 (aB 4 mq lN) λCa=>some (Ca,lN))
theorem arp:yC2 77 alh:=yM2
def NZ:yS 2:=λJ G cf a0 a1 H=>BN (bx 75 a0 H) λi0 h1=>BN (bx 9 a1 h1) λi2 h3=>BN (aA h3 [.ah,(zi 0),.ah,.ah] 75 0) λi4 h5=>J 3 (λj6=>B1 (fa 1 (.ptr i0 0)) λv7=>B1 (ld v7 h5) λv8=>B1 (gk v8 (zi 0)) λv9=>CD v9 (B1 (fl [.ah,(zi 0),.ah,.ah] []) λl10=>B1 (st 4 (.ptr i4 0) (.agg l10) h5) λeE=>B1 (aB 4 (.ptr i4 0) eE) λv12=>some (.tuple [v12,(zi 9)],eE)) (J 4 (λeC=>B1 (fa 3 (.ptr i0 0)) λbu=>B1 (ld bu h5) λdL=>B1 (ld (.ptr i2 0) h5) λcq=>B2 (cf (zf 94) [dL,cq] h5) λeH iu=>eC (.ptr i0 0) (.ptr i2 0) (.ptr i4 0) eH iu) (λbV dN bc bo dc=>CD bo (B1 (fl [.ah,(zi 0),.ah,.ah] []) λZd=>B1 (st 4 bc (.agg Zd) dc) λdR=>B1 (aB 4 bc dR) λv26=>some (.tuple [v26,(zi 5)],dR)) (J 4 (λzN=>B1 (fa 0 bV) λv28=>B1 (fa 0 v28) λv29=>B1 (ld v29 dc) λv30=>B2 (cf (zf 95) [v30,(.func (.func 110) [] [dN])] dc) λv31 cU=>B1 (ep .not v31) λeQ=>zN bV dN bc eQ cU) (λeg da bI cH iR=>CD cH (B1 (fl [.ah,(zi 0),.ah,.ah] []) λl39=>B1 (st 4 bI (.agg l39) iR) λmg=>B1 (aB 4 bI mg) λv41=>some (.tuple [v41,(zi 1)],mg)) (j6 eg da bI iR)))))) (λfH ft lT ji=>B1 (aB 4 fH ji) λv46=>B2 (cf (zf 97) [v46] ji) λiN pz=>B1 (st 4 fH iN pz) λmR=>J 2 (λmw=>B1 (fa 3 fH) λv51=>B1 (ld v51 mR) λgR=>B1 (ld ft mR) λv53=>B1 (fl [(.str [])] [(0,1,v53)]) λl54=>BN (aA mR l54 9 0) λi55 iH=>B2 (c8 9 1 [(.str [])] false gR (.slice i55 0 1 1 true 1) iH) λv57 ku=>B1 (fa 3 fH) λv59=>B1 (st 1 v59 v57 ku) λqB=>mw fH lT qB) (λdq jf xh=>B2 (cf (zf 106) [dq] xh) λv64 oa=>B1 (aB 4 dq oa) λmW=>B1 (st 4 jf mW oa) λqi=>B1 (aB 4 jf qi) λnb=>some (.tuple [nb,(zi 0)],qi)))
theorem P6:yC2 81 NZ:=yM2
def agS:yS 2:=λJ G cf a0 a1 H=>BN (bx 99 a0 H) λi0 h1=>B1 (fa 5 (.ptr i0 0)) λv2=>B1 (ld v2 h1) λv3=>B1 (ld a1 h1) λv4=>B1 (seq v3 v4) λv5=>G v5 true (λk6=>B1 (ld a1 h1) λv7=>k6 v7 h1) (λv8 h9=>G v5 true (λuA=>B1 (sL v8 (.str [])) λv11=>uA v11 h9) (λv12 fw=>B1 (pk v5 v12 (.bool false)) λbu=>some (bu,fw)) h9) h1
theorem aqR (h:agS JN GO cK a0 a1 H=some r):cK (.func (.func 110) [] [a1]) [a0] H=some r:=xP (first:=[]) (cap:=[a1]) (abk zzw h)
def N4:yS 2:=λJ G cf a0 a1 H=>BN (bx 75 a0 H) λi0 h1=>BN (bx 75 a1 h1) λi2 h3=>B1 (fa 1 (.ptr i0 0)) λv4=>B1 (ld v4 h3) λv5=>B1 (fa 1 (.ptr i2 0)) λv6=>B1 (ld v6 h3) λv7=>B1 (bJ v5 v7) λv8=>G v8 true (λk9=>B1 (fa 2 (.ptr i0 0)) λv10=>k9 v10 h3) (λv11 et=>G v8 true (λzz=>B1 (ld v11 et) λbu=>zz bu et) (λdL bO=>G v8 true (λHk=>B1 (fa 2 (.ptr i2 0)) λcg=>Hk cg bO) (λeT cW=>G v8 true (λwS=>B1 (ld eT cW) λv22=>wS v22 cW) (λv23 gj=>G v8 true (λyK=>B2 (cf (zf 73) [dL,v23] gj) λv26 eX=>yK v26 eX) (λv28 dm=>B1 (pk v8 v28 (.bool false)) λv30=>G v30 true (λyP=>B1 (fa 3 (.ptr i0 0)) λv32=>yP v32 dm) (λeQ ij=>G v30 true (λwC=>B1 (ld eQ ij) λv36=>wC v36 ij) (λv37 iR=>G v30 true (λze=>B1 (fa 3 (.ptr i2 0)) λv40=>ze v40 iR) (λv41 eM=>G v30 true (λwN=>B1 (ld v41 eM) λv44=>wN v44 eM) (λeh iM=>G v30 true (λGw=>B2 (cf (zf 74) [v37,eh] iM) λfj mR=>Gw fj mR) (λgH kB=>B1 (pk v30 gH (.bool false)) λgR=>G gR true (λub=>B1 (fa 0 (.ptr i0 0)) λiY=>ub iY kB) (λfZ iH=>G gR true (λk57=>B1 (fa 0 fZ) λjP=>k57 jP iH) (λv59 qB=>G gR true (λKZ=>B1 (ld v59 qB) λhU=>KZ hU qB) (λv63 kH=>G gR true (λk65=>B1 (fa 0 (.ptr i2 0)) λmW=>k65 mW kH) (λlF qF=>G gR true (λNQ=>B1 (fa 0 lF) λv70=>NQ v70 qF) (λma nE=>G gR true (λX3=>B1 (ld ma nE) λjL=>X3 jL nE) (λv75 jw=>G gR true (λM7=>M7 (zf 71) jw) (λqq iI=>G gR true (λGp=>B2 (cf (zf 75) [v63,v75,qq] iI) λkR sN=>Gp kR sN) (λjV mH=>B1 (pk gR jV (.bool false)) λv85=>some (v85,mH)) iI) jw) nE) qF) kH) qB) iH) kB) iM) eM) iR) ij) dm) gj) cW) bO) et) h3
theorem Rm:yC2 36 N4:=yM2
def anO:yS 2:=λJ G cf a0 a1 H=>BN (bx 99 a0 H) λi0 h1=>BN (bx 99 a1 h1) λi2 h3=>B1 (fa 1 (.ptr i0 0)) λv4=>B1 (ld v4 h3) λv5=>B1 (fa 1 (.ptr i2 0)) λv6=>B1 (ld v6 h3) λv7=>B2 (cf (zf 72) [v5,v7] h3) λv8 h9=>G v8 true (λuA=>B1 (fa 0 (.ptr i0 0)) λv11=>uA v11 h9) (λv12 fw=>G v8 true (λG8=>B1 (ld v12 fw) λdL=>G8 dL fw) (λcq dT=>G v8 true (λHe=>B1 (fa 0 (.ptr i2 0)) λeT=>He eT dT) (λv20 kP=>G v8 true (λGy=>B1 (ld v20 kP) λv23=>Gy v23 kP) (λv24 dR=>G v8 true (λCe=>B1 (seq cq v24) λv27=>Ce v27 dR) (λv28 dm=>B1 (pk v8 v28 (.bool false)) λv30=>G v30 true (λyP=>B1 (fa 2 (.ptr i0 0)) λv32=>yP v32 dm) (λeQ ij=>G v30 true (λwC=>B1 (ld eQ ij) λv36=>wC v36 ij) (λv37 iR=>G v30 true (λze=>B1 (fa 2 (.ptr i2 0)) λv40=>ze v40 iR) (λv41 eM=>G v30 true (λwN=>B1 (ld v41 eM) λv44=>wN v44 eM) (λeh iM=>G v30 true (λGw=>B1 (bJ v37 eh) λfj=>Gw fj iM) (λv49 lC=>B1 (pk v30 v49 (.bool false)) λv51=>G v51 true (λxr=>B1 (fa 3 (.ptr i0 0)) λv53=>xr v53 lC) (λiY pG=>G v51 true (λCp=>B1 (ld iY pG) λv57=>Cp v57 pG) (λjP tJ=>G v51 true (λk60=>B1 (fa 3 (.ptr i2 0)) λki=>k60 ki tJ) (λhU xh=>G v51 true (λk64=>B1 (ld hU xh) λgU=>k64 gU xh) (λmW qi=>G v51 true (λk68=>B1 (bJ jP mW) λmi=>k68 mi qi) (λv70 kj=>B1 (pk v51 v70 (.bool false)) λv72=>G v72 true (λX3=>B1 (fa 4 (.ptr i0 0)) λjL=>X3 jL kj) (λv75 jw=>G v72 true (λM7=>B1 (ld v75 jw) λqq=>M7 qq jw) (λnz C7=>G v72 true (λYu=>B1 (fa 4 (.ptr i2 0)) λjW=>Yu jW C7) (λjV mH=>G v72 true (λZ5=>B1 (ld jV mH) λqu=>Z5 qu mH) (λv87 qH=>G v72 true (λVp=>B1 (bJ nz v87) λoK=>Vp oK qH) (λv91 Da=>B1 (pk v72 v91 (.bool false)) λv93=>G v93 true (λk94=>B1 (fa 5 (.ptr i0 0)) λL1=>k94 L1 Da) (λlO Bs=>G v93 true (λZ4=>B1 (ld lO Bs) λqO=>Z4 qO Bs) (λrE qC=>G v93 true (λXc=>B1 (fa 5 (.ptr i2 0)) λxB=>Xc xB qC) (λnD qP=>G v93 true (λHy=>B1 (ld nD qP) λv107=>Hy v107 qP) (λsB zT=>G v93 true (λabz=>B1 (seq rE sB) λwE=>abz wE zT) (λzr EM=>B1 (pk v93 zr (.bool false)) λxf=>some (xf,EM)) zT) qP) qC) Bs) Da) qH) mH) C7) jw) kj) qi) xh) tJ) pG) lC) iM) eM) iR) ij) dm) dR) kP) dT) fw) h9
theorem azY:yC2 71 anO:=yM2
def Qt:yB 1 3:=λJ G cf iJ wX bQ di bX eO=>J 3 (λzN=>J 4 (λrW=>B1 (ba bX bQ) λv29=>G v29 true (λyF=>yF di eO) (λv31 cU=>G v29 true (λCS=>B1 (ba v31 (zi 64000)) λdf=>CS df cU) (λv35 nR=>B1 (pk v29 v35 (.bool false)) λv37=>rW bQ di bX v37 nR) cU) eO) (λbK eB dK gC eM=>CD gC (zN bK eB dK eM) (iJ eB eM))) (λft lT iQ iM=>B1 (wD lT (.int .u64 1)) λiN=>B2 (jn P .min #[2,2] [iN,(zi 64000)] iM) λfj mR=>B1 (aZ iQ (zi 1)) λgH=>wX ft fj gH mR)
def ZJ:yL 1 3:=yX 145 [1,1,1,0,1,0,0] [1,5,6] 0 [5]
theorem afA:yQ3 ZJ Qt:=yq3
def am7:yS 2:=λJ G cf a0 a1 H=>J 2 (λj0=>J 3 (λj1=>B1 (ba a0 (zi 1)) λv2=>G v2 false (λk3=>k3 a1 H) (λv4 h5=>G v2 false (λk6=>B1 (ba v4 (zi 1)) λv7=>k6 v7 h5) (λv8 h9=>B1 (pk v2 (.bool true) v8) λv10=>j1 a0 a1 v10 h9) h5) H) (λbZ bL bR iG=>CD bR (some ((zi 0),iG)) (j0 bZ bL iG))) (λdX bU dT=>B2 (jn P .min #[2,2] [dX,(zi 64000)] dT) λcg dW=>J 1 (λaK=>J 1 (λiJ=>ZJ J G cf iJ bU cg (zi 1) dW) (λgM kV=>aK gM kV)) (λgY mL=>some (gY,mL)))
theorem aq5:yC2 145 am7:=yM2
def amS:yS 2:=λJ G cf a0 a1 H=>B2 (cf (zf 86) [a0,a1] H) λv0 h1=>B1 (me v0 (zi 0)) λv2=>some (v2,h1)
theorem aDZ:yC2 50 amS:=yM2
def amg:yS 2:=λJ G cf a0 a1 H=>B2 (cf (zf 115) [a0,a1,(.bool true)] H) λv0 h1=>some (v0,h1)
theorem apN:yC2 86 amg:=yM2
def PH:yB 0 3:=λJ G cf j3 j4 x5 x6 x7 h8=>B2 (Bf x7 true h8) λv9 cG=>B1 (ex 0 v9) λv11=>CD v11 (B1 (ex 1 v9) λv12=>B1 (ex 2 v9) λcO=>J 5 (λeK=>B2 (cf x5 [cO] cG) λdL bO=>B1 (bb .eql dL x6) λeH=>eK x5 x6 v12 x7 eH bO) (λbM bV dN bc bo dc=>CD bo (some (dN,dc)) (j4 bM bV bc dc))) (j3  cG)
def ZH:yL 0 3:=yX 115 [1,0,1,0,0] [1,2,10] 0 []
theorem XD:yQ3 ZH PH:=yq3
def agU:yS 3:=λJ G cf a0 a1 a2 H=>J 0 (λj0=>B2 (C9 P 9 a0 H) λv1 h2=>J 0 (λj3=>ZH J G cf j3 a1 a2 v1 h2) (λgj=>j0  gj)) (λdR=>some ((zi (-1)),dR))
theorem az8:yC3 115 agU:=yM3
end
end
end Go.Proofs.YtodfajmihkagnaaGreatDoor.bq
