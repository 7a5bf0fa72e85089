/- Laws that the proof uses. -/
import Derived.Test.YtodfajmihkagnaaGreatDoorAm9
import Derived.Test.YtodfajmihkagnaaGreatDoorShelf
import Derived.ProofKit
import Derived.Shelf.SortM.Plain
import Derived.Shelf.SortM.SortNone
import Derived.Shelf.Strconv.Itoa0
import Derived.Shelf.Strconv.Itoa2
import Derived.Shelf.Strconv.AtoiAll
import Derived.Test.YtodfajmihkagnaaGreatDoorAm14
import Derived.Test.YtodfajmihkagnaaGreatDoorProg
import Derived.Test.YtodfajmihkagnaaGreatDoorRows
import Derived.KernelRfl
set_option maxRecDepth 100000
set_option linter.unusedVariables false
set_option linter.unusedSimpArgs false
namespace Go.Proofs.YtodfajmihkagnaaGreatDoor.ahu
open Go Go.Proofs Go.RowKit Go.Shelf
theorem aqF:Am.CY Tryz.prog 91 Am.L5:=by refine Am.atn (λas' w=>Am.Ba (by unfold Am.qR;kernel_rfl) Tryz.func91 rfl as' w) ?_;intro s c w hs hc ha;exact Any.strings_Trim_laid Tryz.lays160 zzw s c w hs hc ha
end Go.Proofs.YtodfajmihkagnaaGreatDoor.ahu
namespace Go.Proofs.YtodfajmihkagnaaGreatDoor.jy
open Go Am Go.Sort Go.RowKit Go.Proofs
def Uj:AV->Option Int
 |.int .i64 z=>some z|_=>none
def Es:List AV->Option (List Int)
 |[]=>some []|v::r=>match Uj v,Es r with
  |some z,some l=>some (z::l)|_,_=>none
def va (l:List Int):List AV:=l.map (AV.int .i64)
def sG (l:List Int):List Int:=l.mergeSort λx y=>decide (x<=y)
theorem ari {v:AV}{z:Int}(h:Uj v=some z):v=.int .i64 z:=by
 unfold Uj at h;split at h;·cases h;rfl
 ·cases h
theorem aey:∀{l:List AV} {zs:List Int},Es l=some zs->l=va zs
 |[],zs,h=>by cases h;rfl
 |v::r,zs,h=>by
  unfold Es at h;split at h;·rename_i z l h1 h2;cases h;rw[ari h1,aey h2];rfl
  ·cases h
theorem ag4:∀(zs:List Int),Es (va zs)=some zs
 |[]=>rfl|z::zs=>by show (match Uj (AV.int .i64 z),Es (va zs) with|some z,some l=>some (z::l)|_,_=>none)=_;rw[ag4 zs];rfl
theorem ahb (l:List Int):(sG l).length=l.length:=(List.mergeSort_perm l _).length_eq
noncomputable section
def aHE (H:Hp)(i off:Nat)(c:Tr AV)(lo hi el fl:Nat)(r:Option (List Int)):Option (AV×Hp):=match r with
 |some zs=>some (.tuple [],{H with h:=H.h.cW i (.cells (c.cl off (va (sG zs))) lo hi el fl)})|none=>none
open Classical in
def Ys (H:Hp)(i off n:Nat)(o:AO):Option (AV×Hp):=match o with
 |.cells c lo hi el fl=>if lo<=off/\off+n<=hi/\fl<=1 then aHE H i off c lo hi el fl ((av H i off n).bind Es) else none
 |_=>none
open Classical in
def xV:Prim:=λargs H=>match args with
 |[.ah]=>some (.tuple [],H)|[.slice i off n cap ex es]=>if n=0 then some (.tuple [],H) else if es=1/\n<4611686018427387904 then (H.h.get i).bind (Ys H i off n) else none
 |_=>none
end
theorem Mx (e:Em):VR e (.tuple []) (.tuple #[]):=.tuple [] #[] rfl (λi v v' h=>by simp at h)
theorem aBC {f:Nat}(Iv:∀as' w,(callFunc f as').run Tryz.prog w=.ok (.enter f as') w)
  (h0:∀(p:Option Addr) (cap:Nat) (w:World),Calls Tryz.prog f #[.slice p 0 cap] w λe w'=>e=.returned (.tuple #[])/\w'=w)
  (h1:∀ (cn off cap:Nat) (zs:List Int) (w:World),Holds (Value.int .i64) w cn off zs.toArray->cn<w.heap.size->zs.length<4611686018427387904->
   Calls Tryz.prog f #[.slice (some ⟨cn,off,none⟩) zs.length cap] w λe w'=>e=.returned (.tuple #[])/\∃n os,w'=grow (putRow (Value.int .i64) (Sort.ahead w n) cn off (zs.mergeSort λx y=>decide (x<=y)).toArray) os):CY Tryz.prog f xV:=by
 intro args H v H' hp Fr W e w as' hR ha;unfold xV at hp;split at hp;·obtain⟨a',r1,e1,oV,jL⟩:=ha.cons_inv;have e3:=jL.mh;subst e3;cases hp;cases oV;obtain rfl:as'=#[.slice none 0 0]:=adT.1 e1;refine⟨Iv _ _,(h0 none 0 w).mono ?_⟩;rintro en w' ⟨rfl,rfl⟩;exact⟨e,_,rfl,e.le_refl,hR,Mx e⟩
 ·rename_i i off n cap ex es;obtain⟨a',r1,e1,oV,jL⟩:=ha.cons_inv;have e3:=jL.mh;subst e3;split at hp
  ·rename_i nU;subst nU;cases hp;rcases oV.nN with⟨o,c,k1,k2,k3,k4,k5,k6,rfl⟩|⟨_,_,a,rfl⟩;·obtain rfl:as'=#[.slice (some ⟨e.b i,o,none⟩) 0 c]:=adT.1 e1;refine⟨Iv _ _,(h0 _ c w).mono ?_⟩;rintro en w' ⟨rfl,rfl⟩;exact⟨e,_,rfl,e.le_refl,hR,Mx e⟩
   ·obtain rfl:as'=#[.slice (some a) 0 0]:=adT.1 e1;refine⟨Iv _ _,(h0 _ 0 w).mono ?_⟩;rintro en w' ⟨rfl,rfl⟩;exact⟨e,_,rfl,e.le_refl,hR,Mx e⟩
  ·rename_i nU;split at hp
   ·rename_i ef;obtain⟨rfl,Fl⟩:=ef;rcases oV.nN with⟨o,cc,k1,k2,k3,k4,k5,k6,rfl⟩|⟨q,_,a,rfl⟩
    ·obtain⟨ob0,hg,hp⟩:=aaV.1 hp;unfold Ys at hp;split at hp
     ·rename_i c lo hi el fl;split at hp
      ·rename_i vJ;obtain⟨g1,g2,g3⟩:=vJ;cases hr:(av H i off n).bind Es with
       |none=>rw[hr] at hp;cases hp
       |some zs=>
        rw[hr] at hp;cases hp;obtain⟨l,hl,hz⟩:=aaV.1 hr;have hlz:=aey hz;obtain⟨cs,c1,c2,c3⟩:=hR.Ds hl k2;have hzn:zs.length=n:=by rw[<-c2,c1.1,hlz];simp[va]
        have gQ:∀j z,zs[j]?=some z->w.cell? ⟨e.b i,o+j,none⟩=some (.int .i64 z):=by intro j z hj;obtain⟨v',bQ,dH⟩:=c1.get (i:=j) (v:=.int .i64 z) (by rw[hlz];simp[va,hj]);have:=dH.ij;subst this;exact c3 j _ bQ
        obtain⟨hN,ob,eW,fj,hF⟩:=hR.obj i _ hg;cases fj with
        |cells _ _ _ _ _ C fz hn kO oZ ue hd=>
         have fN:o+n<=C.size:=by rw[hn];omega
         have hH:Holds (Value.int .i64) w (e.b i) o zs.toArray:=by
          intro j hj;have lL:j<zs.length:=by simpa using hj
          refine⟨?_,?_⟩;·rw[gQ j zs[j] (aaC lL)];simp[lL]
          ·have:=ue g3 (o+j) zzz;simp only[World.frozen?,eW];exact this
         obtain rfl:as'=#[.slice (some ⟨e.b i,o,none⟩) n cc]:=adT.1 e1;have KK:=h1 (e.b i) o cc zs w hH (acA.1 eW).1 zzz;rw[hzn] at KK;refine⟨Iv _ _,KK.mono ?_⟩;rintro en w' ⟨rfl,m,os,rfl⟩;refine⟨e,_,rfl,e.le_refl,?_,Mx e⟩;have AI:=hR.drawn (w.drawn+m);have aC:(zs.mergeSort λx y=>decide (x<=y))=sG zs:=rfl;have mR:=ahb zs;rw[aC];generalize sG zs=ss at*
         have mA:RH Tryz.prog.globals.size Fr W e {H with h:=H.h.cW i (.cells (c.cl off (va ss)) lo hi el fl)} (putRow (Value.int .i64) (Sort.ahead w m) (e.b i) o ss.toArray):=by
          refine AI.put hg (by simp[wr,g3]) (tA:=.cells (putCells (Value.int .i64) o ss.toArray C) el fz) ?_ ?_ ?_ ?_ rfl rfl rfl;·simp[putRow,mapBlock,Sort.ahead]
          ·simp only[putRow,mapBlock,Sort.ahead];rw[J6 _ _ _ eW];rfl
          ·intro k hk;simp only[putRow,mapBlock,Sort.ahead];rw[Jd _ _ _ _ (λq=>hk q.symm)]
          ·have ku:(putCells (Value.int .i64) o ss.toArray C).size=C.size:=by simp[putCells]
           refine .cells _ lo hi el fl _ fz (by rw[ku];exact hn) ?_ oZ (by rw[ku];exact ue) hd;intro k u a b hk;rw[Tr.zj] at hk;have jw:(va ss).length=n:=by simp[va];omega
           rw[jw] at hk;by_cases mV:off<=k/\k<off+n
           ·rw[zz2 mV] at hk;have tX:k-off<ss.length:=zzz;have hu:u=.int .i64 ss[k-off]:=by
             have:(va ss)[k-off]?=some (.int .i64 ss[k-off]):=by simp[va,tX]
             rw[this] at hk;exact (acd hk).symm
            subst hu;refine⟨o+(k-off),zzz,.int .i64 ss[k-off],?_,.int _ _⟩;have hC:o+(k-off)<C.size:=zzz;simp only[putCells];rw[Array.getElem?_mapIdx,ahi hC];simp only[adX,List.size_toArray];rw[zz2 zzz,ae0];simp[tX]
           ·rw[zz1 mV] at hk;obtain⟨I9,Dv,u',kI,dH⟩:=kO k u a b hk;refine⟨I9,Dv,u',?_,dH⟩;simp only[putCells];rw[Array.getElem?_mapIdx,kI];simp only[adX,List.size_toArray];rw[zz1 zzz]
         exact mA.below ⟨rfl,rfl,rfl,by simp[grow],λk hk=>by simp only[grow];rw[Array.getElem?_append_left hk]⟩
      ·cases hp
     ·cases hp
    ·omega
   ·cases hp
 ·cases hp
theorem atp:CY Tryz.prog 192 xV:=
 aBC (λas' w=>Ba (by unfold qR;kernel_rfl) Tryz.func192 rfl as' w)
  (λp cap w=>AnyM.slices_Sort_int_none Tryz.sortN p cap w) (λcn off cap zs w hH hb hl=>AnyM.slices_Sort_int Tryz.sortN cn off cap zs w hH hb hl)
end Go.Proofs.YtodfajmihkagnaaGreatDoor.jy
namespace Go.Proofs.YtodfajmihkagnaaGreatDoor.kJ
open Go Am Go.Sort Go.RowKit Go.Proofs jy
theorem ab8:qR Tryz.prog:=by unfold qR;kernel_rfl
noncomputable section
open Classical in
def NN:Prim:=λargs H=>match args with
 |[.int .u64 x]=>if 0<=x/\x<=18446744073709551615 then some (.int .i64 (Lib.bitLen x.toNat),H) else none
 |_=>none
def qA (u n:Nat):List AV:=(List.range n).map λt=>AV.int .u8 ((Lib.dg u (n-1-t)).toNat)
open Classical in
def YH (H:Hp)(i off n u:Nat)(o:AO):Option (AV×Hp):=match o with
 |.cells c lo hi el fl=>if lo<=off/\off+n<=hi/\fl<=1/\(∃l,av H i off n=some l/\∀v∈l,∃b:Nat,b<256/\v=.int .u8 b) then some (.tuple [],{H with h:=H.h.cW i (.cells (c.cl off (qA u n)) lo hi el fl)}) else none
 |_=>none
open Classical in
def Mc:Prim:=λargs H=>match args with
 |[.slice i off n cap ex es,.int .u64 u]=>if es=1/\0<n/\n<4611686018427387904/\0<=u/\u<18446744073709551616/\u.toNat<10^n then (H.h.get i).bind (YH H i off n u.toNat) else none
 |_=>none
structure SP (H:Hp):Prop where
 syn:∃t p,cellAt H 6 0=some (.iface t p)
 rng:∃t p,cellAt H 7 0=some (.iface t p)
def Ao (s:List Nat):List UInt8:=s.map UInt8.ofNat
def Qd (s:List Nat):AV:=match Lib.atoiAll (Ao s) with
 |.ok v=>.tuple [.int .i64 v,.nilIface]|.range=>.tuple [.int .i64 (Lib.atoiSat (Ao s)),.iface 269 .dG]|_=>.tuple [.int .i64 0,.iface 269 .dG]
open Classical in
def Pe:Prim:=λargs H=>match args with
 |[.str s]=>if SP H/\s.length<=281474976710656 then some (Qd s,H) else none
 |_=>none
end
theorem aAL:CY Tryz.prog 182 NN:=by
 intro args H v H' hp F W e w as' hR ha;unfold NN at hp;split at hp
 ·rename_i x;split at hp;·rename_i hx;cases hp;obtain⟨a',r1,e1,oV,jL⟩:=ha.cons_inv;have e3:=jL.mh;subst e3;have:=oV.ij;subst this;obtain rfl:as'=#[.int .u64 x]:=adT.1 e1;refine⟨Ba ab8 Tryz.func182 rfl _ w,(Any.bits_Len64 Tryz.lays129 x w hx.1 hx.2).mono ?_⟩;rintro en w' ⟨rfl,rfl⟩;exact⟨e,_,rfl,e.le_refl,hR,.int _ _⟩
  ·cases hp
 ·cases hp
theorem VR.two {e:Em}{a b:AV}{a' b':Value}(h:VR e a a')(k:VR e b b'):VR e (.tuple [a,b]) (.tuple #[a',b']):=by
 refine .tuple _ _ rfl ?_;intro i v v' h1 h2
 match i,h1,h2 with
 |0,h1,h2=>cases h1;cases h2;exact h|1,h1,h2=>cases h1;cases h2;exact k
theorem aCr:CY Tryz.prog 166 Mc:=by
 intro args H v H' hp Fr W e w as' hR ha;unfold Mc at hp;split at hp
 ·rename_i i off n cap ex es u;obtain⟨a',r1,e1,oV,jL⟩:=ha.cons_inv;obtain⟨b',r2,e2,vD,rI⟩:=jL.cons_inv;have e3:=rI.mh;subst e3;have kI:=vD.ij;subst kI;split at hp
  ·rename_i hc;obtain⟨rfl,nU,Fl,hu0,aJ9,af4⟩:=hc;obtain⟨un,rfl⟩:∃un:Nat,u=un:=⟨u.toNat,zzz⟩;rw[abI] at hp af4;rcases oV.nN with⟨o,cc,k1,k2,k3,k4,k5,k6,rfl⟩|⟨q,_,a,rfl⟩
   ·obtain⟨ob0,hg,hp⟩:=aaV.1 hp;unfold YH at hp;split at hp
    ·rename_i c lo hi el fl;split at hp
     ·rename_i vJ;obtain⟨g1,g2,g3,l,hl,pF⟩:=vJ;cases hp;obtain⟨cs,c1,c2,c3⟩:=hR.Ds hl k2;have dO:l.length=n:=by rw[<-c1.1,c2]
      obtain⟨d,fX,wO⟩:∃d:List UInt8,d.length=n/\∀(j:Nat) (z:UInt8),d[j]?=some z->l[j]?=some (AV.int .u8 (z.toNat:Int)):=by refine⟨l.map λv=>match v with|AV.int _ b=>UInt8.ofNat b.toNat|_=>0,by simp[dO],λj z hj=>?_⟩;rw[ab9,aaq] at hj;obtain⟨v,hv,rfl⟩:=hj;obtain⟨b,hb,rfl⟩:=pF v (aac hv);rw[hv];simp only[abI,UInt8.toNat_ofNat'];rw[ahr hb]
      have gQ:∀(j:Nat) (z:UInt8),d[j]?=some z->w.cell? ⟨e.b i,o+j,none⟩=some (.int .u8 (z.toNat:Int)):=by intro j z hj;obtain⟨v',bQ,dH⟩:=c1.get (wO j z hj);have:=dH.ij;subst this;exact c3 j _ bQ
      obtain⟨hN,ob,eW,fj,hF⟩:=hR.obj i _ hg;cases fj with
      |cells _ _ _ _ _ C fz hn kO oZ ue hd=>
       have fN:o+n<=C.size:=by rw[hn];omega
       have hH:Holds (λ(b:UInt8)=>Value.int .u8 (b.toNat:Int)) w (e.b i) o d.toArray:=by
        intro j hj;have lL:j<d.length:=by simpa using hj
        refine⟨?_,?_⟩;·rw[gQ j d[j] (aaC lL)];simp[lL]
        ·have:=ue g3 (o+j) zzz;simp only[World.frozen?,eW];exact this
       obtain rfl:as'=#[.slice (some ⟨e.b i,o,none⟩) n cc,.int .u64 un]:=adT.1 (by rw[e1,e2]);have KK:=Any.internal_strconv_formatBase10 Tryz.lays285 (e.b i) o cc un d.toArray w hH (by simpa[fX] using af4) zzz (by simpa[fX] using Fl);have hdz:d.toArray.size=n:=by simp[fX]
       rw[hdz] at KK;refine⟨Ba ab8 Tryz.func166 rfl _ w,KK.mono ?_⟩;rintro en w' ⟨rfl,m,v',dk,rfl,hinv⟩;refine⟨e,_,rfl,e.le_refl,?_,Mx e⟩;have hdk:∀t,t<n->dk[t]! = Lib.dg un (n-1-t):=λt ht=>hinv.done t (aa7 _) ht;have Gh:=hinv.size;have jw:(qA un n).length=n:=by simp[qA]
       have mA:RH Tryz.prog.globals.size Fr W e {H with h:=H.h.cW i (.cells (c.cl off (qA un n)) lo hi el fl)} (putRow (λ(b:UInt8)=>Value.int .u8 (b.toNat:Int)) w (e.b i) o dk):=by
        refine hR.put hg (by simp[wr,g3]) (tA:=.cells (putCells (λ(b:UInt8)=>Value.int .u8 (b.toNat:Int)) o dk C) el fz) ?_ ?_ ?_ ?_ rfl rfl rfl;·simp[putRow,mapBlock]
        ·simp only[putRow,mapBlock];rw[J6 _ _ _ eW];rfl
        ·intro k hk;simp only[putRow,mapBlock];rw[Jd _ _ _ _ (λq=>hk q.symm)]
        ·have ku:(putCells (λ(b:UInt8)=>Value.int .u8 (b.toNat:Int)) o dk C).size=C.size:=by simp[putCells]
         refine .cells _ lo hi el fl _ fz (by rw[ku];exact hn) ?_ oZ (by rw[ku];exact ue) hd;intro k u' a b hk;rw[Tr.zj,jw] at hk;by_cases mV:off<=k/\k<off+n
         ·rw[zz2 mV] at hk;have hj:k-off<n:=zzz;have hu:u'=.int .u8 ((Lib.dg un (n-1-(k-off))).toNat):=by
           have:(qA un n)[k-off]?=some (.int .u8 ((Lib.dg un (n-1-(k-off))).toNat)):=by simp[qA,hj]
           rw[this] at hk;exact (acd hk).symm
          subst hu;refine⟨o+(k-off),zzz,.int .u8 ((Lib.dg un (n-1-(k-off))).toNat),?_,.int _ _⟩;have hC:o+(k-off)<C.size:=zzz;simp only[putCells];rw[Array.getElem?_mapIdx,ahi hC];simp only[adX];rw[zz2 zzz,ae0,hdk _ hj]
         ·rw[zz1 mV] at hk;obtain⟨I9,Dv,u2,xd,dH⟩:=kO k u' a b hk;refine⟨I9,Dv,u2,?_,dH⟩;simp only[putCells];rw[Array.getElem?_mapIdx,xd];simp only[adX];rw[zz1 zzz]
       exact mA.drawn _
     ·cases hp
    ·cases hp
   ·omega
  ·cases hp
 ·cases hp
theorem SP.cells {Fr:Nat->Prop}{W:World}{e:Em}{H:Hp}{w:World}(h:SP H)(hR:RH Tryz.prog.globals.size Fr W e H w):
  (∃t p,w.cell? ⟨6,0,none⟩=some (.iface t p))/\∃t p,w.cell? ⟨7,0,none⟩=some (.iface t p):=by
 have oq:6<Tryz.prog.globals.size:=by rw[<-adW];kernel_rfl
 have Cr:7<Tryz.prog.globals.size:=by rw[<-adW];kernel_rfl
 have key:∀g k v,g<Tryz.prog.globals.size->cellAt H g (k:Nat)=some v->∃v',w.cell? ⟨g,k,none⟩=some v'/\VR e v v':=by intro g k v hg hc;obtain⟨_,o,ho,v',h1,h2⟩:=hR.load hc;obtain⟨_,hb,hd⟩:=hR.uH g hg;rw[hb] at h1;rw[hd] at ho;obtain rfl:o=k:=zzz;exact⟨v',h1,h2⟩
 refine⟨?_,?_⟩;·obtain⟨t,p,hc⟩:=h.syn;obtain⟨v',h1,h2⟩:=key _ 0 _ oq hc;cases h2;exact⟨_,_,h1⟩
 ·obtain⟨t,p,hc⟩:=h.rng;obtain⟨v',h1,h2⟩:=key _ 0 _ Cr hc;cases h2;exact⟨_,_,h1⟩
theorem aD5 (s:ByteArray):Ao (Am.bytes s)=s.data.toList:=by unfold Ao Am.bytes;rw[anY,List.map_congr_left (g:=id) (λx _=>zzy)];simp
theorem ay3:CY Tryz.prog 173 Pe:=by
 intro args H v H' hp F W e w as' hR ha;unfold Pe at hp;split at hp
 ·rename_i s;split at hp
  ·rename_i hx;cases hp;obtain⟨hE,hlen⟩:=hx;obtain⟨a',r1,e1,oV,jL⟩:=ha.cons_inv;have e3:=jL.mh;subst e3;obtain⟨s',rfl,rfl⟩:=oV.og;obtain rfl:as'=#[.string s']:=adT.1 e1;refine⟨Ba ab8 Tryz.func173 rfl _ w,?_⟩;have hl:s'.size<=281474976710656:=by
    have:s'.size=(Am.bytes s').length:=by simp[Am.bytes]
    omega
   obtain⟨⟨t1,p1,q1⟩,⟨t2,p2,q2⟩⟩:=hE.cells hR;unfold Qd;rw[aD5];cases hr:Lib.atoiAll s'.data.toList with
   |ok v=>
    refine (Any.strconv_Atoi_ok Tryz.laysC172 s' zzz v hr w).mono ?_;rintro en w' ⟨rfl,hw⟩;refine⟨e,_,rfl,e.le_refl,?_,VR.two (.int _ _) .nilIface⟩;rcases hw with rfl|⟨t,rfl⟩;·exact hR
    ·exact hR.below (Lib.bytesWorld_below _ _ _)
   |range=>
    refine (Any.strconv_Atoi_range Tryz.laysC172 s' hl hr _ w q2 (.inr ⟨_,_,rfl⟩)).mono ?_;rintro en w' ⟨N,rfl,_,_,hb⟩;exact⟨e,_,rfl,e.le_refl,hR.below hb,VR.two (.int _ _) (.iface _ _ _ (.dG _))⟩
   |_=>
    refine (Any.strconv_Atoi_syntax Tryz.laysC172 s' hl hr _ w q1 (.inr ⟨_,_,rfl⟩)).mono ?_;rintro en w' ⟨N,rfl,_,_,hb⟩;exact⟨e,_,rfl,e.le_refl,hR.below hb,VR.two (.int _ _) (.iface _ _ _ (.dG _))⟩
  ·cases hp
 ·cases hp
end Go.Proofs.YtodfajmihkagnaaGreatDoor.kJ
namespace Go.Proofs.YtodfajmihkagnaaGreatDoor.lD
open Go Go.RowKit Am
def ext (g:Nat):Option Ext:=bif Nat.beq g 168 then some .same else bif Nat.beq g 169 then some (.MO 52) else bif Nat.beq g 197 then some .T9 else bif Nat.beq g 171 then some .count else none
theorem aov:Bg Tryz.prog ext:=by
 intro aU k h as' w;unfold ext at h;cases h1:Nat.beq aU 168 with
 |true=>
  rw[h1] at h;cases h;obtain rfl:=aa9 h1;exact Qy (e:=Extern.AbiNoEscape.same) Tryz.func168 zzw zzw zzw zzw rfl as' w
 |false=>
  rw[h1] at h;clear h1;cases h1:Nat.beq aU 169 with
  |true=>
   rw[h1] at h;cases h;obtain rfl:=aa9 h1;exact Qy (e:=Extern.BytealgMakeNoZero.makeNoZero #[] #[52]) Tryz.func169 zzw zzw zzw zzw rfl as' w
  |false=>
   rw[h1] at h;clear h1;cases h1:Nat.beq aU 197 with
   |true=>
    rw[h1] at h;cases h;obtain rfl:=aa9 h1;exact Qy (e:=Extern.BytealgIndexByte.indexByte) Tryz.func197 zzw zzw zzw zzw rfl as' w
   |false=>
    rw[h1] at h;clear h1;cases h1:Nat.beq aU 171 with
    |true=>
     rw[h1] at h;cases h;obtain rfl:=aa9 h1;exact Qy (e:=Extern.BytealgCount.count) Tryz.func171 zzw zzw zzw zzw rfl as' w
    |false=>
     rw[h1] at h;clear h1;cases h
noncomputable def Qf (g:Nat):Option Prim:=bif Nat.beq g 91 then some Am.L5 else none
theorem aop:xe Tryz.prog Qf:=by
 intro aU p h args H v H' hp;unfold Qf at h;cases h1:Nat.beq aU 91 with
 |true=>
  rw[h1] at h;cases h;obtain rfl:=aa9 h1;exact ahu.aqF args H v H' hp
 |false=>
  rw[h1] at h;clear h1;cases h
theorem apw:qR Tryz.prog:=by unfold qR;kernel_rfl
theorem mixed:Tryz.prog.follows .mixedOrders=true:=zzw
def Rl:List Int:=[1,10,100,1000,10000,100000,1000000,10000000,100000000,1000000000,10000000000,100000000000,1000000000000,10000000000000,100000000000000,1000000000000000,10000000000000000,100000000000000000,1000000000000000000,10000000000000000000]
def ad3:List Int:=[0,1,28,2,29,14,24,3,30,22,20,15,25,17,4,8,31,27,13,23,21,19,16,7,26,12,18,6,11,5,10,9]
def anc:List Int:=[0,1,56,2,57,49,28,3,61,58,42,50,38,29,17,4,62,47,59,36,45,43,51,22,53,39,33,30,24,18,12,5,63,55,48,27,60,41,37,16,46,35,44,21,52,32,23,11,54,26,40,15,34,20,31,10,25,14,19,9,13,8,7,6]
def qg:List (Nat×List AV):=[(0,Rl.map (AV.int .u64)),(4,ad3.map (AV.int .u8)),(5,anc.map (AV.int .u8)),(6,[.iface 290 (.ptr 10 0)]),(7,[.iface 290 (.ptr 9 0)])]
abbrev laid:List (String×DataW Unit):=[("math/bits.deBruijn32tab",Rows.laid_math_bits_deBruijn32tab),("math/bits.deBruijn64tab",Rows.laid_math_bits_deBruijn64tab),("internal/strconv.uint64pow10",Rows.laid_internal_strconv_uint64pow10),("unicode/utf8.acceptRanges",Rows.laid_unicode_utf8_acceptRanges),("strconv.ErrRange",Rows.laid_strconv_ErrRange),("strconv.ErrSyntax",Rows.laid_strconv_ErrSyntax),("unicode/utf8.first",Rows.laid_unicode_utf8_first)]
theorem star: "*" ++ "errors.errorString" = "*errors.errorString" :=zzx
theorem apm (u:TypeId)(h:Tryz.prog.typeName? 3 u=some "*errors.errorString"):u=290 :=
 typeName_ptr_named (nm := "errors.errorString") (by rw[star];kernel_rfl) zzw zzx u (by rw[star];exact h)
theorem axI {W:World}(h:laidMet Tryz.prog laid W)(fN:8<=W.heap.size)(bx:Nat->Nat)(dx:Nat->Int)(nx:Nat->Nat){N:Nat}(hN:11<=N){PO:List (Nat×AO)}
  (hP:∀i o,(i,o)∈PO->11<=i/\i<N/\wr o=false/\∃ob,W.heap[bx i]?=some ob/\∀e:Em,e.N=N->(∀j,11<=j->e.b j=bx j/\e.d j=dx j/\e.n j=nx j)->OR e i o ob):
  ∃e,RH Tryz.prog.globals.size (λk=>k<W.heap.size) W e ⟨uV PO (um (Ea W) qg),N⟩ W/\e.N=N/\∀j,11<=j->e.b j=bx j/\e.d j=dx j/\e.n j=nx j:=by
 have hs:Tryz.prog.globals.size=8:=zzw;rw[hs];obtain⟨b0,o0,t0,w0⟩:=agE (n := "strconv.ErrRange") (nm := "*errors.errorString") (tp:=290) (te:=292) (ts:=9) h (.tail _ (.tail _ (.tail _ (.tail _ (.head _))))) (g:=7) (ti:=183) zzw zzw Tryz.underlying183 apm Tryz.underlying290 Tryz.underlying292 rfl rfl Tryz.underlying9 zzw zzw;obtain⟨b1,o1,t1,w1⟩:=agE (n := "strconv.ErrSyntax") (nm := "*errors.errorString") (tp:=290) (te:=292) (ts:=9) h (.tail _ (.tail _ (.tail _ (.tail _ (.tail _ (.head _)))))) (g:=6) (ti:=183) zzw zzw Tryz.underlying183 apm Tryz.underlying290 Tryz.underlying292 rfl rfl Tryz.underlying9 zzw zzw;let bz:Nat->Nat:=λi=>if i=9 then b0 else if i=10 then b1 else bx i
 let dz:Nat->Int:=λi=>if i=9 then (o0:Int) else if i=10 then (o1:Int) else dx i
 have T0:=λem:Em=>aaR (name := "internal/strconv.uint64pow10") (k:=.u64) (zs:=Rl) h (.tail _ (.tail _ (.head _))) (g:=0) zzw zzw Tryz.underlying254 Tryz.underlying118 zzw zzw zzx em;have T4:=λem:Em=>aaR (name := "math/bits.deBruijn32tab") (k:=.u8) (zs:=ad3) h (.head _) (g:=4) zzw zzw Tryz.underlying273 Tryz.underlying5 zzw zzw zzx em;have T5:=λem:Em=>aaR (name := "math/bits.deBruijn64tab") (k:=.u8) (zs:=anc) h (.tail _ (.head _)) (g:=5) zzw zzw Tryz.underlying274 Tryz.underlying5 zzw zzw zzx em;have hj:∀j,11<=j->(Am.start W 8 N bz dz nx).b j=bx j/\(Am.start W 8 N bz dz nx).d j=dx j/\(Am.start W 8 N bz dz nx).n j=nx j:=by intro j hj;refine⟨?_,?_,?_⟩<;>simp only[Am.start,bz,dz]<;>(repeat rw[zz1 zzz])
 refine⟨Am.start W 8 N bz dz nx,RH.start bz dz nx zzz zzx fN ?_ ?_,rfl,hj⟩
 ·intro g l hm;simp only[qg,aaD,abW,aj6,or_false] at hm;rcases hm with⟨rfl,rfl⟩|⟨rfl,rfl⟩|⟨rfl,rfl⟩|⟨rfl,rfl⟩|⟨rfl,rfl⟩;·exact⟨zzx,zzx,T0 _⟩
  ·exact⟨zzx,zzx,T4 _⟩
  ·exact⟨zzx,zzx,T5 _⟩
  ·refine⟨zzx,zzx,_,t1,w1,λk v hv=>?_⟩;cases k with
   |zero=>
    simp only[ada,acD] at hv;subst hv;exact⟨_,rfl,.iface _ _ _ (.ptr (e:=Am.start W 8 N bz dz nx) 10 0 o1 (show (10:Nat)<N by omega) (by simp[Am.start,dz]))⟩
   |succ k=>simp at hv
  ·refine⟨zzx,zzx,_,t0,w0,λk v hv=>?_⟩;cases k with
   |zero=>
    simp only[ada,acD] at hv;subst hv;exact⟨_,rfl,.iface _ _ _ (.ptr (e:=Am.start W 8 N bz dz nx) 9 0 o0 (show (9:Nat)<N by omega) (by simp[Am.start,dz]))⟩
   |succ k=>simp at hv
 ·intro i o hm;obtain⟨h1,h2,h3,ob,h4,h5⟩:=hP i o hm;exact⟨zzz,h2,h3,ob,by have:=(hj i h1).1;simp only[Am.start,zz1 (show ¬i<8 by omega)] at this;rw[this];exact h4,h5 _ rfl hj⟩
theorem aAh:Tryz.prog.globals.size<11:=by have hs:Tryz.prog.globals.size=8:=zzw;omega
theorem atZ (el:Nat->TypeId):Tw (Rx (Tryz.prog) ext Qf 20000 11 [] ⟨um el qg,11⟩)=true:=zzw
theorem aue:CY Tryz.prog 11 (Qj qg 11):=
 aBG mixed apw aov aop Tryz.func11 rfl aAh
  (by
   have hs:Tryz.prog.globals.size=8:=zzw;rw[hs];intro g l hm;simp only[qg,aaD,abW,aj6,or_false] at hm;rcases hm with⟨rfl,rfl⟩|⟨rfl,rfl⟩|⟨rfl,rfl⟩|⟨rfl,rfl⟩|⟨rfl,rfl⟩<;>exact⟨zzx,zzx,zzx,zzx⟩) λel=>atZ el
noncomputable def acn (g:Nat):Option Prim:=bif Nat.beq g 182 then some kJ.NN else bif Nat.beq g 166 then some kJ.Mc else bif Nat.beq g 173 then some kJ.Pe else bif Nat.beq g 192 then some jy.xV else Qf g
theorem asZ:xe Tryz.prog acn:=by
 intro aU p h args H v H' hp;unfold acn at h;cases h1:Nat.beq aU 182 with
 |true=>
  rw[h1] at h;cases h;obtain rfl:=aa9 h1;exact kJ.aAL args H v H' hp
 |false=>
  rw[h1] at h;clear h1;cases h1:Nat.beq aU 166 with
  |true=>
   rw[h1] at h;cases h;obtain rfl:=aa9 h1;exact kJ.aCr args H v H' hp
  |false=>
   rw[h1] at h;clear h1;cases h1:Nat.beq aU 173 with
   |true=>
    rw[h1] at h;cases h;obtain rfl:=aa9 h1;exact kJ.ay3 args H v H' hp
   |false=>
    rw[h1] at h;clear h1;cases h1:Nat.beq aU 192 with
    |true=>
     rw[h1] at h;cases h;obtain rfl:=aa9 h1;exact jy.atp args H v H' hp
    |false=>
     rw[h1] at h;clear h1;exact aop aU p h args H v H' hp
noncomputable def bH (g:Nat):Option Prim:=bif Nat.beq g 11 then some (Qj qg 11) else acn g
theorem aIs:xe Tryz.prog bH:=by
 intro aU p h args H v H' hp;unfold bH at h;cases h1:Nat.beq aU 11 with
 |true=>
  rw[h1] at h;cases h;obtain rfl:=aa9 h1;exact aue args H v H' hp
 |false=>
  rw[h1] at h;clear h1;exact asZ aU p h args H v H' hp
theorem akN {Q:Type}{enc:TypeId×Value->Q}{g:Nat}{fn:Func}{b:Code}(hf:Tryz.prog.funcs[g]?=some fn)(hb:fn.body=some b)(an:Nat->K.An)(hA:K.AN Tryz.prog an){W:World}(hL:laidMet Tryz.prog laid W)(fN:8<=W.heap.size){base:Nat}{spare:Nat->Bool}{held:Bool}(mL:∀b,spare b=true){uT:List K.Ty}{vs:List Value}
  (ha:K.Pf enc Tryz.prog W base spare held uT vs) (law:∀H as' ds,K.Hy H uT as' ds->CQ H qg->11<=H.next->∃H',K.CK Tryz.prog (K.vU Tryz.prog) ext bH an (.func (.func g) [] []) as' H=some (.bool true,H')):
  Calls Tryz.prog g vs.toArray W λen w'=>en=.returned (.bool true)/\Below W.heap.size W w':=by
 obtain⟨as',os,ds,a1,a2,a3,a4⟩:=K.apP mL ha 11;have hs:Tryz.prog.globals.size=8:=zzw;obtain⟨e,hR,hN,hj⟩:=axI hL fN (λi=>((os[i-11]?).map (·.b)).getD 0) (λ_=>0) (λi=>((os[i-11]?).map (·.n)).getD 0) (N:=11+os.length) zzz (PO:=K.Bp 11 os) (by
  intro i o hm;obtain⟨j,ob,h1,rfl,rfl⟩:=K.adm os 11 i o hm;have tX:=(aag.1 h1).1;have alG:∀e:Em,e.N=11+os.length->(∀j,11<=j->e.b j=((os[j-11]?).map (·.b)).getD 0/\e.d j=0/\e.n j=((os[j-11]?).map (·.n)).getD 0)->K.Fits e 11 os:=by intro e he hj;refine⟨zzz,λj o ho=>?_⟩;obtain⟨x,y,z⟩:=hj (11+j) zzz;rw[ae0,ho] at x z;exact⟨x,y,z⟩
  have hex:∃ow,W.heap[ob.b]?=some ow:=by let e0:Em:=⟨λj=>((os[j-11]?).map (·.b)).getD 0,λ_=>0,λj=>((os[j-11]?).map (·.n)).getD 0,11+os.length⟩;obtain⟨ow,h,_⟩:=a2 e0 (alG e0 rfl λj _=>⟨rfl,rfl,rfl⟩) j ob h1;exact⟨ow,h⟩
  obtain⟨ow,how⟩:=hex;refine⟨zzz,zzz,a3 ob (aac h1),ow,?_,λe he hj=>?_⟩;·rw[ae0,h1];exact how
  ·obtain⟨ow2,h,h2⟩:=a2 e (alG e he hj) j ob h1;rw[how] at h;cases h;exact h2)
 have R2:K.Fits e 11 os:=by refine⟨zzz,λj o ho=>?_⟩;obtain⟨x,y,z⟩:=hj (11+j) zzz;rw[ae0,ho] at x z;exact⟨x,y,z⟩
 have az3:K.Has ⟨uV (K.Bp 11 os) (um (Ea W) qg),11+os.length⟩ 11 os:=⟨aaO _,λj o ho=>K.akP os 11 _ j o ho⟩;have hT:CQ ⟨uV (K.Bp 11 os) (um (Ea W) qg),11+os.length⟩ qg:=by
  refine⟨Ea W,λg l hm=>?_⟩;have hg:g<11:=by simp only[qg,aaD,abW,aj6,or_false] at hm;rcases hm with⟨rfl,rfl⟩|⟨rfl,rfl⟩|⟨rfl,rfl⟩|⟨rfl,rfl⟩|⟨rfl,rfl⟩<;>decide
  show (uV _ _).get g=_;rw[K.ad0 os 11 _ g hg];exact K.alF _ _ zzx g l hm
 obtain⟨H',hk⟩:=law _ as' ds (a4 _ az3) hT (Nat.le_add_right _ _);refine (K.auz mixed apw aov aIs K.atg hA hk hf hb hR (as':=vs.toArray) (by simpa using a1 e R2)).mono λen w' ⟨e',v',h1,_,bp,hv⟩=>?_;have:=hv.y7;subst this;exact⟨h1,⟨bp.os,bp.tape,bp.output,bp.size,λk hk=>(bp.frame k hk).2⟩⟩
end Go.Proofs.YtodfajmihkagnaaGreatDoor.lD
namespace Go.Proofs.YtodfajmihkagnaaGreatDoor.bD
open Go Am Am.K lD
noncomputable section
abbrev zi (n:Int):AV:=.int .i64 n
abbrev zf (g:Nat):AV:=.func (.func g) [] []
noncomputable abbrev P:Program:=Tryz.prog
def zzM:List Nat:=[2,5,7,8,23,24,25,31,32,33]
def zzN:List Nat:=[1,2,3,4,14,15,16,22,23,24]
def zzO:List Nat:=[0,1]
def zzP:List Nat:=[2,5,7,8,23,24,25]
def zzQ:List Nat:=[1,2,3,14,15,16]
def zzR:List Nat:=[0,2,3]
def zzS:List Nat:=[0,1,5,6,7,8,9,10]
def zzT:List Nat:=[1,3,7,8,56,57,58]
def zzU:List Nat:=[1,3,5,6,13,14,15]
def zzV:List Nat:=[1,2,4,11,12]
def zzW:List Nat:=[1,2,7,14,15,16]
def zzX:List Nat:=[0,2,3,20,21,22]
def zzA:An:=(.cd .nl .nl)
def zzE:An:=(.n .nl)
def zzB:An:=(.cd zzE .nl)
def zzF:An:=(.n zzE)
def zzH:An:=(.n zzA)
def de:An:=(.n zzB)
def zzK:An:=(.n zzF)
def zzI:An:=(.n (.q de zzE))
def zzJ:An:=(.n (.cd zzE de))
def zzL:An:=(.n (.cd .nl (.n (.cd .nl (.n (.cd .nl zzH))))))
def zzG:An:=(.n (.s [] (.n (.v [] (.lp [0,1,7,8] (.n (.q zzA (.s [0,1,7,8] (.b (.n (.t [0,1,5,7,8,16] zzB))) .nl)))))) zzE))
def zzC:An:=(.n (.s zzO (.t [0,1,10] zzB) (.s [] (.n (.v [] (.lp [0,1,12,13] (.n (.q zzA (.s [0,1,12,13] (.b (.n (.t [0,1,12,13,24] zzB))) .nl)))))) zzE)))
def zzD:An:=(.n (.s [0,1,2] (.t [0,1,2,14] zzB) (.s [] (.n (.v [] (.lp [1,2,15,16,17] (.n (.q zzA (.s [1,2,15,16,17] (.b (.t [1,2,7,8,15,16,17] (.t [1,2,8,9,15,16,17] (.t [1,2,15,16,17,30] zzB)))) .nl)))))) zzE)))
def anL:List (Nat×An):=[(88,zzF),
 (116,(.n (.q de (.s [0,1,2,3] de (.s [0,1,2,3] zzH (.t [0,1,2,3] (.n (.n (.n (.s [0,9,10] (.v [0,9,10] (.lp [0,1,2,3,9,10] (.q zzH (.b (.n (.q zzH (.t [0,1,2,3,9,10,11] (.t [0,1,2,3,9,10] .nl)))))))) (.t [9,10] zzE))))))))))),
 (150,(.n (.s zzO de (.s zzO de (.n (.v [4] (.lp [0,1,5] (.b zzI)))))))),
 (151,zzF),
 (117,zzF),
 (85,(.n (.s zzO (.n (.b zzJ)) (.n (.s [0,1,5] (.n (.cd (.s [0,1,5] (.t [0,1,5,29] zzA) .nl) .nl)) (.s [0,1,5] (.n (.v [0,1,5] (.lp [0,1,5,39,40,41] (.n (.q zzA (.s [0,1,5,39,40,41] (.b (.n (.s [0,1,5,7,39,40,41] (.t [0,1,5,7,39,40,41,49] zzA) .nl))) .nl)))))) (.n (.n (.n (.s [8] (.n (.v [8] (.lp [1,8,63,64,65] (.n (.q zzA (.s [1,8,63,64,65] (.b zzF) .nl)))))) zzE)))))))))),
 (172,(.n (.n (.s [0,1,5] (.b (.t [0,1,5,16] (.cd zzE (.n (.cd zzE (.t [0,1,5,31] (.cd zzE (.t [0,1,5,36] zzB)))))))) (.n (.n (.n (.t [0,1,5,6,7,8,9] (.n (.s [] (.v [] (.lp zzS (.q zzH (.b (.s zzS (.t [0,1,5,6,7,8,9,10,64] (.cd (.t [0,1,5,6,7,8,9,10,11] (.q de .nl)) .nl)) (.s zzS (.t [0,1,5,6,7,8,9,10,93] zzB) (.n (.n (.t [0,1,5,6,7,8,9,10,107] (.cd (.t [8,12] (.s [] de zzE)) (.t [0,1,5,6,7,8,9,10,132] (.cd (.t [8,13] (.q de zzE)) .nl)))))))))))) zzE)))))))))),
 (186,zzF),
 (152,(.n (.s [0] (.n de) zzE))),
 (112,(.n (.s zzO zzH (.t [0,1,21] zzA)))),
 (113,(.n (.n (.t [1] zzE)))),
 (114,zzF),
 (147,(.t [0,6] (.cd .nl (.t [19] zzA)))),
 (148,(.t [0,4] (.t [0,4] .nl))),
 (84,zzF),
 (111,zzF),
 (146,(.n (.s zzO (.n (.cd (.s [0] (.t [0,17] zzB) (.n (.n (.s [0,5,6] zzH (.n (.t [0,5,7] (.s [5,7] (.n (.cd zzF .nl)) zzE))))))) .nl)) (.t [9] zzE)))),
 (164,(.n (.s [0] de zzE))),
 (165,zzK),
 (181,zzF),
 (183,zzI),
 (104,zzG),
 (94,zzF),
 (177,(.n (.s [] (.n (.v [] (.lp [0,3,7,8] (.n (.q zzA (.s [0,3,7,8] (.b (.n (.t [0,3,5,7,8,16] zzB))) .nl)))))) zzE))),
 (158,zzF),
 (143,zzF),
 (163,zzG),
 (174,zzG),
 (154,zzF),
 (95,zzF),
 (135,zzG),
 (136,zzI),
 (137,zzI),
 (138,zzI),
 (30,zzI),
 (72,zzC),
 (73,zzC),
 (74,zzC),
 (75,zzD),
 (155,(.n (.s [1] (.t [1,13] zzB) (.n (.s [] (.n (.v [] (.lp [1,3,16,17,18] (.n (.q zzA (.s [1,3,16,17,18] (.b (.n (.s [1,3,5,16,17,18] (.t [1,3,5,16,17,18,45] zzB) .nl))) .nl)))))) zzE))))),
 (175,zzF),
 (176,(.n (.q de (.n (.s [7] (.n (.v [7] (.lp zzW (.n (.q zzA (.s zzW (.v zzW (.n (.t [1,2,7,9,14,15,16,24] zzA))) .nl)))))) zzF))))),
 (157,zzF),
 (156,(.n (.n (.n (.s [5] (.n (.v [5] (.lp [2,5,6,7] (.q zzH (.s [2,5,6,7] (.v [2,5,6,7] (.n (.s [2,5,7,8] (.n (.v [2,5,7,8] (.lp zzP (.n (.q zzA (.s zzP (.v zzP (.n (.t zzM (.v zzP (.lp zzM (.n (.q zzA (.s zzM (.v zzM (.n (.t [2,5,7,8,12,23,24,25,31,32,33,41] (.cd (.t [2,5,7,8,12,23,24,25,31,32,33] .nl) .nl)))) .nl)))))))) .nl)))))) .nl))) .nl))))) zzE))))),
 (126,(.n (.q de (.n (.s [1,3,4] (.n (.v [1,3,4] (.lp [1,3,4,15,16] (.n (.q zzA (.s [1,3,4,15,16] (.v [1,3,4,15,16] (.n (.t [1,3,4,5,6,15,16] (.t [1,3,4,5,6,15,16,35] zzA)))) .nl)))))) (.q de (.n (.s [7] (.n (.v [7] (.lp [1,3,7,8] (.q zzH (.s [1,3,7,8] (.v [1,3,7,8] (.t zzT (.v [1,3,7,8] (.lp zzT (.n (.q zzA (.s zzT (.b (.n (.t [1,3,7,8,10,56,57,58,74] zzB))) .nl))))))) .nl))))) zzE)))))))),
 (54,zzF),
 (153,(.n (.s [0] de (.t [0,4,5] zzE)))),
 (118,(.n (.t [0,1,2,3,9,10] (.s [10] (.n (.v [10] (.n (.cd (.s [] (.n (.v [] (.lp [0,3,23,24,25] (.n (.q zzA (.s [0,3,23,24,25] (.b (.n (.n (.q de .nl)))) .nl)))))) zzE) (.n (.cd .nl (.n (.cd .nl (.n (.cd .nl (.n (.cd (.t [2] zzE) .nl)))))))))))) zzE)))),
 (89,(.n (.t [0,1,4,6] (.n (.s [4,6] (.n (.v [4,6] (.lp [1,4,6,7,20,21,22] (.n (.q zzA (.s [1,4,6,7,20,21,22] (.b (.n (.t [1,4,6,7,9,10,11,20,21,22] (.n (.s [1,4,6,7,13,20,21,22] (.t [1,4,6,7,13,20,21,22,50] zzB) .nl))))) .nl)))))) zzE))))),
 (53,(.n (.s [0,2] de (.n (.n (.s [2,4,5] (.n (.v [2,4,5] (.lp [2,4,5,20,21,22] (.n (.q zzA (.s [2,4,5,20,21,22] (.b (.n (.n (.t [2,4,5,8,20,21,22] .nl)))) .nl)))))) (.n (.s [2,9] (.n (.v [2,9] (.lp [2,5,9,39,40,41] (.n (.q zzA (.s [2,5,9,39,40,41] (.b (.n (.t [2,5,9,12,13,39,40,41] (.s [2,5,9,12,39,40,41] de .nl)))) .nl)))))) (.s [2,9] (.n de) zzE))))))))),
 (119,zzF),
 (125,(.n (.s [] (.n (.v [] (.lp [1,8,9,10] (.n (.q zzA (.s [1,8,9,10] (.b (.t [1,5,6,8,9,10] de)) .nl)))))) zzE))),
 (90,(.n (.s [1] (.t [1,10] zzB) (.n (.s [1] (.t [1,18,19,20] (.v [1] (.lp [1,18,19,20] (.n (.q zzA (.s [1,18,19,20] (.b (.n de)) .nl)))))) (.s [] (.t [35] zzB) zzE)))))),
 (120,zzF),
 (121,(.n (.t [2,4,6] zzF))),
 (122,zzF),
 (123,zzF),
 (124,(.n (.s [] (.n (.v [] (.lp [1,2,3,9,10,11] (.n (.q zzA (.s [1,2,3,9,10,11] (.b (.t [1,2,3,7,8,9,10,11] (.t [1,2,3,9,10,11,34] zzB))) .nl)))))) zzE))),
 (55,(.n (.q de (.n (.s [3] (.n (.v [3] (.lp [1,3,13,14,15] (.n (.q zzA (.s [1,3,13,14,15] (.v [1,3,13,14,15] (.n (.n (.s zzU (.n (.v zzU (.lp [1,3,5,6,13,14,15,22,23,24] (.n (.q zzA (.s [1,3,5,6,13,14,15,22,23,24] (.b (.t [1,3,5,6,7,8,13,14,15,22,23,24] (.s [1,3,5,6,8,13,14,15,22,23,24] zzH .nl))) .nl)))))) (.t zzU (.s [1,3,6,13,14,15] zzH .nl)))))) .nl)))))) zzE))))),
 (92,zzI),
 (127,(.n (.t [1,2,3] (.s [2,3] (.n (.v [2,3] (.lp zzQ (.n (.q zzA (.s zzQ (.v zzQ (.t [1,2,3,4,5,14,15,16] (.n (.v zzQ (.lp zzN (.n (.q zzA (.s zzN (.v zzN (.n (.t [1,2,3,4,7,8,14,15,16,22,23,24] (.t [1,2,3,4,8,14,15,16,22,23,24,48] zzA)))) .nl)))))))) .nl)))))) zzE)))),
 (76,(.n (.s [1,2] (.n de) (.t [2,5] zzF)))),
 (97,(.n (.t [1,2] (.s [1,2] (.t [1,2,13,14,15] (.v [1,2] (.lp [1,2,13,14,15] (.n (.q zzA (.s [1,2,13,14,15] (.b (.t [1,2,3,4,13,14,15] .nl)) .nl)))))) (.t [1,2] (.t [1,2] zzE)))))),
 (106,(.n (.n (.s [1,2] (.t [1,2,10,11,12] (.v [1,2] (.lp [1,2,10,11,12] (.n (.q zzA (.s [1,2,10,11,12] (.b (.t [1,2,3,4,10,11,12] (.t [1,2,3,4,5,10,11,12] (.s [1,2,3,10,11,12] (.t [1,2,3,10,11,12,47] zzA) .nl)))) .nl)))))) zzH)))),
 (144,zzF),
 (108,(.n (.s [] (.b (.t [2,5] (.cd zzE de))) zzE))),
 (109,(.n (.s [1,2,3] (.n de) (.s [] (.t [2,8] (.t [28] zzB)) zzE)))),
 (78,(.n (.s [1,2,3,4,8] (.n de) (.t [1,2,3,4,8,11] (.s [1,2,3,4,8,11] (.b (.n (.cd zzE (.t [1,2,3,4,8,11,29] zzB)))) (.n (.t [1,4,8,11] (.t [4,8] zzE)))))))),
 (79,(.n (.s [1,2,3,4,8] (.t [1,2,3,4,8,10] de) (.n (.t [4,8] zzF))))),
 (107,(.t [0,2,6,7] (.s [0,6] (.t [0,2,6,7,28] zzB) (.t [0] .nl)))),
 (80,(.n (.s [1,3,4,8] (.t [1,3,4,8,10] de) zzK))),
 (77,(.n (.n (.s [2,4] (.n (.v [2,4] (.lp zzV (.n (.q zzA (.s zzV (.v zzV (.n (.t [1,2,4,5,6,11,12] (.v zzV (.t [1,2,4,5,6,11,12,19] (.cd .nl (.t [1,2,4,5,6,11,12,31] (.cd .nl (.t [1,2,4,6,11,12,40] zzA))))))))) .nl)))))) zzE)))),
 (81,(.n (.s [2,3,4] (.b (.n (.cd zzE (.t [2,3,4,11] (.cd zzE (.t [2,3,4,17] zzB)))))) (.n (.t [2,4] zzF))))),
 (110,zzF),
 (36,zzK),
 (71,zzF),
 (145,(.n (.s zzO (.t [0,1,12] zzB) (.n (.s [5] (.n (.v [5] (.lp [1,5,6] (.s [1,5,6] (.t [1,5,6,21] zzA) (.q (.b .nl) .nl))))) zzE))))),
 (50,zzF),
 (86,zzF),
 (115,(.n (.s [] (.n (.v [] (.lp [1,2,10] (.n (.q zzA (.b (.n (.t [1,2,7,10,19] zzB)))))))) zzE))),
 (48,(.n (.s [] (.n (.b (.n (.cd zzE (.n (.cd zzE (.s [3,8] zzH (.cd zzE (.n (.cd zzE (.s [3,13] zzH (.cd zzE zzJ)))))))))))) zzE))),
 (87,zzF),
 (52,(.n (.s [2] (.n (.b (.n (.cd zzE (.n (.cd zzE (.n (.cd zzE (.n (.cd (.n (.s [2,5] zzH zzE)) zzJ)))))))))) (.s [2] de zzE)))),
 (49,(.n (.t [1,2,4,5] (.s [4,5] (.n (.v [4,5] (.lp [2,4,5,12] (.n (.q zzA (.v [2,4,5,12] (.n (.n (.v [2,4,5,12] (.n (.cd .nl (.n (.cd .nl (.n (.cd .nl zzL))))))))))))))) zzE)))),
 (21,zzK),
 (51,zzF),
 (44,zzF),
 (33,(.n (.s [0,2,4] (.t [0,2,4,8,9] de) (.s [0,2,4] (.t [0,2,4,30] (.cd (.t [0,2,4] .nl) .nl)) (.t [0,2,4] (.t [2] zzE)))))),
 (83,(.n (.t [6,7] zzE))),
 (32,(.n (.n (.s [3] (.t [0,3,9,10,11] (.v [3] (.lp [0,3,9,10,11] (.n (.q zzA (.s [0,3,9,10,11] (.b zzE) .nl)))))) zzE)))),
 (82,(.n (.s [1,2] de zzK))),
 (58,zzF),
 (18,zzF),
 (16,(.n (.q de (.s [0,3] (.n (.b (.n (.cd zzE (.n (.cd zzE zzJ)))))) (.s [0,3] (.t [0,3,38] zzB) zzE))))),
 (40,(.n (.s [0,1,2] (.t [0,1,2,8] de) (.t [0,1,9,10] (.q de (.s [0,1,9] (.t [0,1,9,34] zzB) (.t [0,1,9] (.t [] zzE)))))))),
 (41,(.n (.t [0,3,5,6] (.t [0,3,5,6,8] (.s [0,3,5] (.b (.n (.cd zzE (.t [0,3,5,30] (.cd zzE (.t [0,3,5,37] (.cd zzE (.t [0,3,5,44] zzB)))))))) (.t [0,3,9,10] (.q de (.t [0,3] (.s [] zzH zzE))))))))),
 (42,(.n (.s zzO (.t [0,1,11] zzB) (.t zzO (.s [] (.t [0,1,20,21] (.v [] (.lp [0,1,20,21] (.n (.q zzA (.s [0,1,20,21] (.b zzE) .nl)))))) zzE))))),
 (43,(.n (.t [0,3,5] (.n (.n (.s [5,6,7] (.n (.v [5,6,7] zzL)) (.s [7] zzH zzE))))))),
 (59,zzF),
 (56,(.n (.t [4,6,7] (.s [4,6] de (.t [4,8] zzE))))),
 (29,zzF),
 (45,zzF),
 (60,zzF),
 (23,(.n (.t zzR (.s zzR (.t zzX (.v zzR (.lp zzX (.n (.q zzA (.s zzX (.b zzE) .nl)))))) (.s [2,3] (.t [2,3,41,42,43] (.v [2,3] (.lp [2,3,41,42,43] (.n (.q zzA (.s [2,3,41,42,43] (.b (.n (.t [2,3,7,41,42,43] .nl))) .nl)))))) zzE))))),
 (15,(.n zzK)),
 (34,zzF),
 (35,zzF),
 (13,(.n (.n (.s [3] (.n (.v [3] (.lp [3,7,8,9] (.n (.q zzA (.s [3,7,8,9] (.b zzE) .nl)))))) zzE)))),
 (22,(.n (.n (.s [1,4] (.t [1,4,55] zzB) (.t [1,4] (.s [1,4] (.n (.v [1,4] (.lp [1,4,62,63,64] (.n (.q zzA (.s [1,4,62,63,64] (.b (.t [1,4,5,6,62,63,64] (.t [1,4,5,6,7,62,63,64] (.t [1,4,62,63,64,101] zzB)))) .nl)))))) (.s [1,4] (.n (.v [1,4] (.lp [1,4,104,105,106] (.n (.q zzA (.s [1,4,104,105,106] (.b (.t [1,4,9,10,104,105,106] (.t [1,4,9,10,11,12,104,105,106] (.s [1,4,9,10,104,105,106] (.t [1,4,9,10,104,105,106,128] zzB) .nl)))) .nl)))))) (.s [4] (.n (.v [4] (.lp [4,148,149,150] (.n (.q zzA (.s [4,148,149,150] (.b (.n (.s [4,14,148,149,150] (.t [4,14,148,149,150,195] zzB) (.t [4,16,148,149,150] de)))) .nl)))))) zzE)))))))),
 (93,zzF),
 (57,(.n (.t [2,3,5,6] (.s [2,3,5] (.t [2,3,5,33] zzB) (.t [2,3,5] (.s [2,3] de (.s [2,3] (.n (.v [2,3] (.lp [2,3,48,49,50] (.n (.q zzA (.s [2,3,48,49,50] (.b (.t [2,3,7,8,48,49,50] (.t [2,3,7,8,9,48,49,50] (.t [2,3,48,49,50,104] zzB)))) .nl)))))) (.s [] (.n (.v [] (.lp [2,3,107,108,109] (.n (.q zzA (.s [2,3,107,108,109] (.b (.t [2,3,10,11,107,108,109] (.t [2,3,107,108,109,130] zzB))) .nl)))))) zzE)))))))),
 (96,zzF),
 (37,zzD),
 (38,zzD),
 (39,zzC),
 (98,zzF),
 (100,zzF),
 (140,zzF),
 (141,zzF),
 (139,(.n (.t [3,4] zzE))),
 (99,(.n (.s zzO de (.t [1,6,7] (.s [6,7] (.n (.v [6,7] (.lp [6,7,18,19,20] (.n (.q zzA (.s [6,7,18,19,20] (.b (.n (.t [6,7,18,19,20] .nl))) .nl)))))) zzE))))),
 (65,(.n (.t [3] zzE))),
 (62,(.s zzO (.v zzO (.lp zzO (.q zzH (.s zzO (.b .nl) .nl)))) .nl)),
 (61,.nl),
 (63,(.t zzO .nl)),
 (142,zzE),
 (101,(.n (.n (.s [0] (.n (.v [0] (.lp [0,3,4] (.s [0,3,4] (.t [0,3,4,23] zzA) (.s [0,3,4] (.b (.t [0,3,4,5] (.t [0,3,4,5] (.q zzH (.s [0,3,4] (.t [0,3,4,57] zzA) (.t [3] zzE)))))) .nl))))) zzF)))),
 (67,zzF),
 (103,(.n (.n (.s [0,5] (.t [0,5,32] (.cd zzF .nl)) (.t [0,5,6] (.t [6] zzE)))))),
 (102,(.n (.n (.s [5] (.t [0,5,20] (.cd zzF .nl)) zzE)))),
 (69,zzF),
 (26,(.n (.s zzO (.t [0,1,20] zzB) (.n (.n (.n (.n (.t [5,6] (.s [5,6] (.n (.v [5,6] (.lp [5,6,34,35,36] (.n (.q zzA (.s [5,6,34,35,36] (.b (.t [5,6,7,8,34,35,36] zzE)) .nl)))))) (.t [5,6] (.s [5,6] (.n (.v [5,6] (.lp [5,6,56,57,58] (.n (.q zzA (.s [5,6,56,57,58] (.b (.t [5,6,9,10,56,57,58] (.t [5,6,10,56,57,58] .nl))) .nl)))))) (.t [5,6] (.s [6] (.n (.v [6] (.lp [6,78,79,80] (.n (.q zzA (.s [6,78,79,80] (.b zzK) .nl)))))) (.n (.s [6] (.n (.v [6] (.lp [6,13,100] (.n (.q zzA (.s [6,13,100] (.b zzE) .nl)))))) zzE))))))))))))))),
 (64,(.n (.t [0,3] (.s [0,3] (.n (.v [0,3] (.lp [0,3,14,15,16] (.n (.q zzA (.s [0,3,14,15,16] (.b (.n (.t [0,3,5,14,15,16] (.t [0,3,5,14,15,16] zzE)))) .nl)))))) (.t [0,3] (.n (.v [] (.lp [0,46,47,48] (.n (.q zzA (.s [0,46,47,48] (.b zzE) .nl))))))))))),
 (105,(.n (.t [0,4,5] (.t [0,4,5,7] (.s [0,4,7] (.n (.v [0,4,7] (.lp [0,4,7,19,20] (.n (.q zzA (.s [0,4,7,19,20] (.b .nl) .nl)))))) (.s [4,7] (.n (.v [4,7] (.lp [0,4,7,38,39] (.n (.q zzA (.s [0,4,7,38,39] (.b .nl) .nl)))))) zzE)))))),
 (68,(.n (.t zzR (.s zzR (.n (.v zzR (.lp [0,2,3,11,12] (.n (.q zzA (.s [0,2,3,11,12] (.b (.t [0,2,3,11,12] .nl)) .nl)))))) (.s zzR (.n (.v zzR (.lp [0,2,3,30,31] (.n (.q zzA (.s [0,2,3,30,31] (.b (.n (.n (.s [0,2,3,4,5,30,31] (.t [0,2,3,4,5,6,30,31] zzH) (.t [0,2,3,5,30,31] .nl))))) .nl)))))) (.s [2,3] (.n (.v [2,3] (.lp [0,2,3,62,63] (.n (.q zzA (.s [0,2,3,62,63] (.b .nl) .nl)))))) zzE)))))),
 (27,(.n (.s [0] (.t [0,17] zzB) (.t [0,5] (.n (.n (.t [0,5,6,8,9] (.s [6,8] (.t [6,8,45] zzB) zzE)))))))),
 (66,zzI),
 (70,zzF),
 (25,(.n (.t [0,3] (.s [3] (.n (.v [3] (.lp [0,3,4] (.s [0,3,4] (.t [0,3,4,17] zzA) (.s [0,3,4] (.b .nl) .nl))))) zzE)))),
 (7,(.n (.q de (.s [0,1,2,3,4,5] (.t [0,1,2,3,4,5,47] zzB) (.s [0,1,2,3,4,5] (.n (.v [0,1,2,3,4,5] (.lp [0,1,2,3,4,5,13] (.q zzH (.s [0,1,2,3,4,5,13] (.b (.t [0,1,2,3,4,5,13,60] zzB)) .nl))))) (.n (.n (.t [1,2,3,4,5,14,15,16,17,18] (.s [1,3,4,5,14,15,16] (.t [1,3,4,5,14,15,16,98] zzB) (.s [1,4,5,14,15,16] (.t [1,3,4,5,14,15,16,106] (.cd (.t [1,4,5,14,15,16,21] de) .nl)) (.t [1,4,5,14,15,16,24] (.q de (.s [1,14,16] (.t [1,4,5,14,15,16,145] (.cd (.n (.t [1,14,16,25] (.t [1,14,16,28] de))) .nl)) (.s [] (.n (.v [] (.lp [1,14,16,29] (.q zzH (.s [1,14,16,29] (.b (.s [1,14,16,29] (.t [1,14,16,29,173] zzB) (.t [1,14,16,29,192] zzB))) .nl))))) zzE)))))))))))))),
 (9,(.n (.q de (.q de (.n (.s [3,4] (.n (.v [3,4] (.lp [0,3,4,5] (.q zzH (.s [0,3,4,5] (.b (.s [0,3,4,5] (.t [0,3,4,5,28] zzB) (.t [0,3,5,6,7,8] (.s [0,3,5,6] (.t [0,3,5,6,47] zzB) (.n (.t [0,3,4,5,61] zzB)))))) .nl))))) zzE)))))),
 (24,(.n (.n (.n (.t [1,2,3,4,5] zzE))))),
 (0,.nl)]
def an (g:Nat):An:=Qc anL g
abbrev cK:CF:=CK P (vU P) ext bH an
abbrev yS (n:Nat):=JT->GT->CF->K.Fn n
abbrev yL (n m:Nat):=JT->GT->CF->K.Fn n->K.Fn m
abbrev yB (n m:Nat):=JT->GT->CF->K.Fn n->K.Fn m->K.Fn m
def yX {n:Nat}(g:Nat)(p v:List Nat)(k:Nat)(c:List Nat)(J:JT)(G:GT)(cf:CF)(x:K.Fn n):K.Fn v.length:=CW P an J G cf g p v λq t H=>match Nat.beq q k with|true=>app n x (aI c t) H|false=>none
abbrev yC0 (g:Nat)(s:yS 0):=∀{H:Hp} {r:AV×Hp},s JN GO cK  H=some r->cK (zf g) [] H=some r
section
variable {H:Hp}{a0 a1 a2:AV}{c:List Nat}{g k v0 v1 v2 v3 v4 v5:Nat}{r:AV×Hp}
theorem yM0 {s:yS 0}(e:∀J G cf H,DV P J G bH an cf g [] H=s J G cf  H:=by intros;kernel_rfl):yC0 g s:=λh=>vY (first:=[]) (cap:=[]) ((e ..).trans h)
abbrev yC1 (g:Nat)(s:yS 1):=∀{a0:AV} {H:Hp} {r:AV×Hp},s JN GO cK a0 H=some r->cK (zf g) [a0] H=some r
theorem yM1 {s:yS 1}(e:∀J G cf (a0:AV) H,DV P J G bH an cf g [a0] H=s J G cf a0 H:=by intros;kernel_rfl):yC1 g s:=λh=>vY (first:=[]) (cap:=[]) ((e ..).trans h)
abbrev yC2 (g:Nat)(s:yS 2):=∀{a0 a1:AV} {H:Hp} {r:AV×Hp},s JN GO cK a0 a1 H=some r->cK (zf g) [a0,a1] H=some r
theorem yM2 {s:yS 2}(e:∀J G cf (a0 a1:AV) H,DV P J G bH an cf g [a0,a1] H=s J G cf a0 a1 H:=by intros;kernel_rfl):yC2 g s:=λh=>vY (first:=[]) (cap:=[]) ((e ..).trans h)
abbrev yC3 (g:Nat)(s:yS 3):=∀{a0 a1 a2:AV} {H:Hp} {r:AV×Hp},s JN GO cK a0 a1 a2 H=some r->cK (zf g) [a0,a1,a2] H=some r
theorem yM3 {s:yS 3}(e:∀J G cf (a0 a1 a2:AV) H,DV P J G bH an cf g [a0,a1,a2] H=s J G cf a0 a1 a2 H:=by intros;kernel_rfl):yC3 g s:=λh=>vY (first:=[]) (cap:=[]) ((e ..).trans h)
abbrev yC4 (g:Nat)(s:yS 4):=∀{a0 a1 a2 a3:AV} {H:Hp} {r:AV×Hp},s JN GO cK a0 a1 a2 a3 H=some r->cK (zf g) [a0,a1,a2,a3] H=some r
theorem yM4 {s:yS 4}(e:∀J G cf (a0 a1 a2 a3:AV) H,DV P J G bH an cf g [a0,a1,a2,a3] H=s J G cf a0 a1 a2 a3 H:=by intros;kernel_rfl):yC4 g s:=λh=>vY (first:=[]) (cap:=[]) ((e ..).trans h)
abbrev yC6 (g:Nat)(s:yS 6):=∀{a0 a1 a2 a3 a4 a5:AV} {H:Hp} {r:AV×Hp},s JN GO cK a0 a1 a2 a3 a4 a5 H=some r->cK (zf g) [a0,a1,a2,a3,a4,a5] H=some r
theorem yM6 {s:yS 6}(e:∀J G cf (a0 a1 a2 a3 a4 a5:AV) H,DV P J G bH an cf g [a0,a1,a2,a3,a4,a5] H=s J G cf a0 a1 a2 a3 a4 a5 H:=by intros;kernel_rfl):yC6 g s:=λh=>vY (first:=[]) (cap:=[]) ((e ..).trans h)
abbrev yQ2 {n:Nat}(l:yL n 2)(b:yB n 2):=∀(cf:CF) (x:K.Fn n) (a0 a1:AV) (H:Hp),l JN GO cf x a0 a1 H=b JN GO cf x (l JN GO cf x) a0 a1 H
theorem yq2 {n:Nat}{p:List Nat}{B:yB n 2}(h:∀J G cf x (j:K.Fn 2) (a0 a1:AV) H,xa P an J G cf g p [v0,v1] (λq t H=>match Nat.beq q k with|true=>app n x (aI c t) H|false=>none) j [a0,a1] H=B J G cf x j a0 a1 H:=by intros;kernel_rfl):yQ2 (yX g p [v0,v1] k c) B:=λcf x a0 a1 H=>(xj cf g p [v0,v1] _ [a0,a1] rfl H).trans (h ..)
abbrev yQ3 {n:Nat}(l:yL n 3)(b:yB n 3):=∀(cf:CF) (x:K.Fn n) (a0 a1 a2:AV) (H:Hp),l JN GO cf x a0 a1 a2 H=b JN GO cf x (l JN GO cf x) a0 a1 a2 H
theorem yq3 {n:Nat}{p:List Nat}{B:yB n 3}(h:∀J G cf x (j:K.Fn 3) (a0 a1 a2:AV) H,xa P an J G cf g p [v0,v1,v2] (λq t H=>match Nat.beq q k with|true=>app n x (aI c t) H|false=>none) j [a0,a1,a2] H=B J G cf x j a0 a1 a2 H:=by intros;kernel_rfl):yQ3 (yX g p [v0,v1,v2] k c) B:=λcf x a0 a1 a2 H=>(xj cf g p [v0,v1,v2] _ [a0,a1,a2] rfl H).trans (h ..)
abbrev yQ4 {n:Nat}(l:yL n 4)(b:yB n 4):=∀(cf:CF) (x:K.Fn n) (a0 a1 a2 a3:AV) (H:Hp),l JN GO cf x a0 a1 a2 a3 H=b JN GO cf x (l JN GO cf x) a0 a1 a2 a3 H
theorem yq4 {n:Nat}{p:List Nat}{B:yB n 4}(h:∀J G cf x (j:K.Fn 4) (a0 a1 a2 a3:AV) H,xa P an J G cf g p [v0,v1,v2,v3] (λq t H=>match Nat.beq q k with|true=>app n x (aI c t) H|false=>none) j [a0,a1,a2,a3] H=B J G cf x j a0 a1 a2 a3 H:=by intros;kernel_rfl):yQ4 (yX g p [v0,v1,v2,v3] k c) B:=λcf x a0 a1 a2 a3 H=>(xj cf g p [v0,v1,v2,v3] _ [a0,a1,a2,a3] rfl H).trans (h ..)
abbrev yQ5 {n:Nat}(l:yL n 5)(b:yB n 5):=∀(cf:CF) (x:K.Fn n) (a0 a1 a2 a3 a4:AV) (H:Hp),l JN GO cf x a0 a1 a2 a3 a4 H=b JN GO cf x (l JN GO cf x) a0 a1 a2 a3 a4 H
theorem yq5 {n:Nat}{p:List Nat}{B:yB n 5}(h:∀J G cf x (j:K.Fn 5) (a0 a1 a2 a3 a4:AV) H,xa P an J G cf g p [v0,v1,v2,v3,v4] (λq t H=>match Nat.beq q k with|true=>app n x (aI c t) H|false=>none) j [a0,a1,a2,a3,a4] H=B J G cf x j a0 a1 a2 a3 a4 H:=by intros;kernel_rfl):yQ5 (yX g p [v0,v1,v2,v3,v4] k c) B:=λcf x a0 a1 a2 a3 a4 H=>(xj cf g p [v0,v1,v2,v3,v4] _ [a0,a1,a2,a3,a4] rfl H).trans (h ..)
abbrev yQ6 {n:Nat}(l:yL n 6)(b:yB n 6):=∀(cf:CF) (x:K.Fn n) (a0 a1 a2 a3 a4 a5:AV) (H:Hp),l JN GO cf x a0 a1 a2 a3 a4 a5 H=b JN GO cf x (l JN GO cf x) a0 a1 a2 a3 a4 a5 H
theorem yq6 {n:Nat}{p:List Nat}{B:yB n 6}(h:∀J G cf x (j:K.Fn 6) (a0 a1 a2 a3 a4 a5:AV) H,xa P an J G cf g p [v0,v1,v2,v3,v4,v5] (λq t H=>match Nat.beq q k with|true=>app n x (aI c t) H|false=>none) j [a0,a1,a2,a3,a4,a5] H=B J G cf x j a0 a1 a2 a3 a4 a5 H:=by intros;kernel_rfl):yQ6 (yX g p [v0,v1,v2,v3,v4,v5] k c) B:=λcf x a0 a1 a2 a3 a4 a5 H=>(xj cf g p [v0,v1,v2,v3,v4,v5] _ [a0,a1,a2,a3,a4,a5] rfl H).trans (h ..)
abbrev yQ7 {n:Nat}(l:yL n 7)(b:yB n 7):=∀(cf:CF) (x:K.Fn n) (a0 a1 a2 a3 a4 a5 a6:AV) (H:Hp),l JN GO cf x a0 a1 a2 a3 a4 a5 a6 H=b JN GO cf x (l JN GO cf x) a0 a1 a2 a3 a4 a5 a6 H
theorem yq7 {n:Nat}{p:List Nat}{v6:Nat}{B:yB n 7}(h:∀J G cf x (j:K.Fn 7) (a0 a1 a2 a3 a4 a5 a6:AV) H,xa P an J G cf g p [v0,v1,v2,v3,v4,v5,v6] (λq t H=>match Nat.beq q k with|true=>app n x (aI c t) H|false=>none) j [a0,a1,a2,a3,a4,a5,a6] H=B J G cf x j a0 a1 a2 a3 a4 a5 a6 H:=by intros;kernel_rfl):yQ7 (yX g p [v0,v1,v2,v3,v4,v5,v6] k c) B:=λcf x a0 a1 a2 a3 a4 a5 a6 H=>(xj cf g p [v0,v1,v2,v3,v4,v5,v6] _ [a0,a1,a2,a3,a4,a5,a6] rfl H).trans (h ..)
def agy:yS 2:=λJ G cf a0 a1 H=>B2 (cf (zf 116) [a0,a1,(zi 0),(zi (-1))] H) λv0 h1=>some (v0,h1)
theorem aq3:yC2 88 agy:=yM2
def Y9:yB 3 6:=λJ G cf vl gY bG cz bN eI dK gD dX=>B1 (ba gD eI) λfc=>CD fc (B2 (cf (zf 151) [bG,cz] dX) λv44 jx=>B1 (ba v44 (zi 0)) λv46=>CD v46 (vl bG dK gD jx) (J 7 (λBQ=>B1 (bc v44 bN) λfO=>B1 (qM bG none (some fO)) λv49=>B1 (ia 1 dK gD) λgH=>B1 (st 1 gH v49 jx) λjZ=>BQ bG cz bN eI dK gD v44 jZ) (λgK gI iF gg eQ fB eZ tB=>J 6 (λj60=>B1 (lens gI) λjU=>B1 (bc eZ jU) λgO=>B1 (qM gK (some gO) none) λv63=>j60 v63 gI iF gg eQ fB tB) (λfS fM nF gS gV kX uh=>B1 (bc kX (zi 1)) λmg=>gY fS fM nF gS gV mg uh)))) (vl bG dK gD dX)
def abo:yL 3 6:=yX 116 [1,1,1,1,1,1,1,1,0,0,0] [0,1,2,3,9,10] 0 [0,9,10]
theorem ajj:yQ6 abo Y9:=yq6
def aio:yS 4:=λJ G cf a0 a1 a2 a3 H=>B1 (bK a3 (zi 0)) λv0=>CD v0 (some (.ah,H)) (J 4 (λj1=>B1 (seq a1 (.str [])) λv2=>CD v2 (B2 (cf (zf 149) [a0,a3] H) λv3 h4=>some (v3,h4)) (j1 a0 a1 a2 a3 H)) (λx5 x6 x7 x8 h9=>J 4 (λaX=>B1 (ba x8 (zi 0)) λv11=>CD v11 (B2 (cf (zf 150) [x5,x6] h9) λv12 fw=>B1 (bc v12 (zi 1)) λbu=>aX x5 x6 x7 bu fw) (aX x5 x6 x7 x8 h9)) (λdF bU cO bO dZ=>J 4 (λaK=>B1 (lens dF) λv21=>B1 (bc v21 (zi 1)) λv22=>B2 (jh P .min #[3,3] [bO,v22] dZ) λv23 gm=>aK dF bU cO v23 gm) (λbX dD dd dY dc=>B2 (B6 [(.str [])] 9 1 dY dY dc) λv30 hJ=>B1 (pG dY (zi 1)) λv32=>J 3 (λp9=>J 3 (λvl=>abo J G cf vl bX dD dd v32 v30 (zi 0) hJ) (λoc jk jf nO=>p9 oc jk jf nO)) (λgM fL gB iH=>J 2 (λMZ=>B1 (ia 1 fL gB) λkV=>B1 (st 1 kV gM iH) λsL=>MZ fL gB sL) (λkC kG oO=>B1 (bc kG (zi 1)) λsu=>B1 (nK 1 kC none (some su) none) λv87=>some (v87,oO)))))))
theorem ap9:yC4 116 aio:=yM4
def auJ:yL 1 3:=yX 150 [1,1,1,1,0,0] [0,1,5] 0 [4]
def anu:yS 2:=λJ G cf a0 a1 H=>J 2 (λj0=>B1 (lens a1) λv1=>B1 (bK v1 (zi 0)) λv2=>CD v2 (B2 (cf (zf 170) [a0] H) λv3 h4=>B1 (bc v3 (zi 1)) λv5=>some (v5,h4)) (j0 a0 a1 H)) (λx6 x7 h8=>J 2 (λj9=>B1 (lens x7) λv10=>B1 (bK v10 (zi 1)) λv11=>CD v11 (B1 (Ah x7 (zi 0)) λv12=>B2 (cf (zf 171) [x6,v12] h8) λcY iG=>some (cY,iG)) (j9 x6 x7 h8)) (λdF bU eC=>J 1 (λpT=>auJ J G cf pT dF bU (zi 0) eC) (λbV cw=>some (bV,cw))))
theorem aIm:yC2 150 anu:=yM2
def ajM:yS 2:=λJ G cf a0 a1 H=>B2 (cf (zf 172) [a0,a1] H) λv0 h1=>some (v0,h1)
theorem aEN:yC2 151 ajM:=yM2
def aeN:yS 2:=λJ G cf a0 a1 H=>B2 (cf (zf 152) [a0,a1] H) λv0 h1=>B1 (ex 0 v0) λv2=>B1 (ex 1 v0) λv3=>B1 (ex 2 v0) λv4=>some (.tuple [v2,v3,v4],h1)
theorem aBY:yC2 117 aeN:=yM2
def Yn:yB 3 6:=λJ G cf Mu wR gD fZ eT kL ik iQ oz=>B1 (ba iQ ik) λfO=>CD fO (J 6 (λj49=>B1 (ia 1 kL iQ) λgH=>B1 (ld gH oz) λv51=>J 7 (λWt=>J 8 (λGK=>B1 (lens v51) λiV=>B1 (pG (zi 9223372036854775807) eT) λfh=>B1 (gF iV fh) λjB=>GK gD fZ eT v51 kL ik iQ jB oz) (λfB eZ dI eF dm jb gT fS oe=>CD fS (none) (Wt fB eZ dI eF dm jb gT oe))) (λnF gS gV kX jm nG oc xw=>B1 (lens kX) λjF=>B1 (bc gV jF) λv75=>j49 nF gS v75 jm nG oc xw)) (λgM fL gB nY oI lU sL=>B1 (bc lU (zi 1)) λlB=>wR gM fL gB nY oI lB sL)) (Mu gD fZ eT oz)
def abS:yL 3 6:=yX 85 [1,1,1,1,0,1,0,0] [0,1,5,39,40,41] 1 [0,1,5]
theorem ah1:yQ6 abS Yn:=yq6
def Yd:yB 1 5:=λJ G cf LR ayP zz rG pA sY lP yN=>B1 (ba lP sY) λwz=>CD wz (J 5 (λaqy=>B1 (ia 1 pA lP) λvq=>B1 (ld vq yN) λwZ=>B2 (cf (zf 113) [rG,zz] yN) λse qO=>B2 (cf (zf 113) [rG,wZ] qO) λv117 Dy=>aqy zz rG pA sY lP Dy) (λnL oQ pZ tI vn rr=>B1 (bc vn (zi 1)) λrH=>ayP nL oQ pZ tI rH rr)) (LR rG yN)
def YA:yL 1 5:=yX 85 [1,1,1,1,1,1,1,1,0,1,0,0] [1,8,63,64,65] 3 [8]
theorem aoD:yQ5 YA Yd:=yq5
def Sb:yS 2:=λJ G cf a0 a1 H=>J 2 (λj0=>B1 (aE a0) λv1=>B1 (bK v1 (zi 0)) λv2=>CD v2 (some ((.str []),H)) (B1 (bK v1 (zi 1)) λv3=>CD v3 (B1 (ia 1 a0 (zi 0)) λv4=>B1 (ld v4 H) λv5=>some (v5,H)) (j0 a0 a1 H))) (λx6 x7 h8=>J 3 (λj9=>B1 (lens x7) λv10=>B1 (gF v10 (zi 0)) λv11=>CD v11 (J 3 (λeD=>J 4 (λeJ=>B1 (lens x7) λbu=>B1 (aE x6) λdW=>B1 (pG dW (zi 1)) λcB=>B1 (Gx (zi 9223372036854775807) cB) λeB=>B1 (lg bu eB) λcg=>eJ x6 x7 (zi 0) cg h8) (λbW dP bo br du=>CD br (none) (eD bW dP bo du))) (λdb bX dD eX=>B1 (lens bX) λv28=>B1 (aE db) λv29=>B1 (pG v29 (zi 1)) λv30=>B1 (vC v28 v30) λv31=>B1 (bc dD v31) λv32=>j9 db bX v32 eX)) (j9 x6 x7 (zi 0) h8)) (λfA dV cN nV=>J 3 (λMU=>B1 (aE fA) λgX=>J 3 (λMu=>abS J G cf Mu fA dV cN fA gX (zi 0) nV) (λkG lR oR qb=>MU kG lR oR qb)) (λnc yT AH zL=>BN (az zL [.da,.ah] 180 0) λi92 IQ=>B2 (cf (zf 112) [(.ptr i92 0),AH] IQ) λuj nI=>B1 (ia 1 nc (zi 0)) λkE=>B1 (ld kE nI) λBK=>B2 (cf (zf 113) [(.ptr i92 0),BK] nI) λxR Er=>J 1 (λawg=>B1 (nK 1 nc (some (zi 1)) none none) λwT=>B1 (aE wT) λql=>J 1 (λLR=>YA J G cf LR yT (.ptr i92 0) wT ql (zi 0) Er) (λlq XH=>awg lq XH)) (λjn Ks=>B2 (cf (zf 114) [jn] Ks) λv130 zp=>some (v130,zp)))))
theorem Vm:yC2 85 Sb:=yM2
def awq:yL 0 8:=yX 172 [1,1,1,1,1,1,1,1,0,0,0] [0,1,5,6,7,8,9,10] 1 []
def aoV:yS 2:=λJ G cf a0 a1 H=>B1 (lens a1) λv0=>J 3 (λj1=>J 4 (λj2=>B1 (bK v0 (zi 0)) λv3=>G v3 false (λk4=>k4 a1 H) (λv5 h6=>G v3 false (λk7=>k7 a0 h6) (λv8 h9=>G v3 false (λuo=>B1 (seq v5 v8) λv11=>uo v11 h9) (λv12 fw=>B1 (pk v3 (.bool true) v12) λbu=>j2 a0 a1 v0 bu fw) h9) h6) H) (λdF bU cO bO dZ=>CD bO (some ((zi 0),dZ)) (B1 (bK cO (zi 1)) λv20=>CD v20 (B1 (Ah bU (zi 0)) λv21=>B2 (cf (zf 186) [dF,v21] dZ) λv22 du=>some (v22,du)) (J 4 (λEz=>B1 (lens dF) λv25=>B1 (lg cO v25) λv26=>Ez dF bU cO v26 dZ) (λdd dY di dN hJ=>CD dN (some ((zi (-1)),hJ)) (J 4 (λfP=>B1 (ld (.ptr 1 0) hJ) λft=>B1 (qF di ft) λc8=>G c8 true (λwq=>wq dd hJ) (λv36 gG=>G c8 true (λyM=>B1 (lens v36) λfC=>yM fC gG) (λv40 hZ=>G c8 true (λCn=>B1 (qF v40 (zi 64)) λfc=>Cn fc hZ) (λv44 jx=>B1 (pk c8 v44 (.bool false)) λv46=>fP dd dY di v46 jx) hZ) gG) hJ) (λgq fU gj ie jZ=>CD ie (B2 (cf (zf 187) [gq,fU] jZ) λgP ig=>some (gP,ig)) (j1 gq fU gj jZ)))))))) (λiF gg eQ oX=>B1 (Ah gg (zi 0)) λkj=>B1 (Ah gg (zi 1)) λv59=>J 7 (λj60=>B1 (lens iF) λjU=>B1 (pG jU eQ) λgO=>B1 (bc gO (zi 1)) λv63=>j60 iF gg eQ kj v59 (zi 0) v63 oX) (λfS fM nF gS gV kX jm jW=>J 0 (λBR=>J 0 (λj73=>awq J G cf j73 fS fM nF gS gV kX jm (zi 0) jW) (λayw=>BR  ayw)) (λauu=>some ((zi (-1)),auu))))
theorem ayk:yC2 172 aoV:=yM2
def aoT:yS 2:=λJ G cf a0 a1 H=>B2 (cf (zf 197) [a0,a1] H) λv0 h1=>some (v0,h1)
theorem aDy:yC2 186 aoT:=yM2
def anf:yS 2:=λJ G cf a0 a1 H=>J 1 (λj0=>B2 (cf (zf 172) [a0,a1] H) λv1 h2=>B1 (lg v1 (zi 0)) λv3=>CD v3 (B1 (qM a0 none (some v1)) λv4=>B1 (lens a1) λv5=>B1 (bc v1 v5) λv6=>B1 (qM a0 (some v6) none) λv7=>some (.tuple [v4,v7,(.bool true)],h2)) (j0 a0 h2)) (λx8 h9=>some (.tuple [x8,(.str []),(.bool false)],h9))
theorem atB:yC2 152 anf:=yM2
def apD:yS 2:=λJ G cf a0 a1 H=>B2 (cf (zf 147) [a0] H) λv0 h1=>J 2 (λj2=>B1 (ba a1 (zi 0)) λv3=>CD v3 (none) (j2 a0 a1 h1)) (λx4 x5 h6=>J 3 (λj7=>B1 (aJ x4) λv8=>B1 (fa 1 v8) λv9=>B1 (ld v9 h6) λv10=>B2 (jh P .cap #[52] [v10] h6) λv11 ez=>B1 (aJ x4) λcY=>B1 (fa 1 cY) λbu=>B1 (ld bu h6) λdW=>B1 (aE dW) λcB=>B1 (pG v11 cB) λeB=>B1 (ba eB x5) λcg=>j7 x4 x5 cg h6) (λbW dP bo iy=>CD bo (B2 (cf (zf 148) [bW,dP] iy) λv23 gm=>some (.tuple [],gm)) (some (.tuple [],iy))))
theorem aq1:yC2 112 apD:=yM2
def afW:yS 2:=λJ G cf a0 a1 H=>B2 (cf (zf 147) [a0] H) λv0 h1=>J 1 (λj2=>B1 (aJ a0) λv3=>B1 (fa 1 v3) λv4=>B1 (ld v4 h1) λv5=>B2 (cL 5 1 [(.int .u8 0)] false v5 a1 h1) λv6 h7=>B1 (aJ a0) λv8=>B1 (fa 1 v8) λv9=>B1 (st 1 v9 v6 h7) λcu=>j2 a1 cu) (λbZ ez=>B1 (lens bZ) λcY=>some (.tuple [cY,.nilIface],ez))
theorem at3:yC2 113 afW:=yM2
def aju:yS 1:=λJ G cf a0 H=>B1 (aJ a0) λv0=>B1 (fa 1 v0) λv1=>B1 (ld v1 H) λv2=>B2 (jh P .unsafeSliceData #[52] [v2] H) λv3 h4=>B1 (aJ a0) λv5=>B1 (fa 1 v5) λv6=>B1 (ld v6 h4) λv7=>B1 (aE v7) λv8=>B2 (jh P .unsafeString #[222,3] [v3,v8] h4) λv9 cu=>B1 (ld v6 H) λv11=>SM v7 v11 <| B1 (aE v7) λv12=>SM v8 v12 <| some (v9,cu)
theorem aE1:yC1 114 aju:=yM1
def VA:yS 1:=λJ G cf a0 H=>J 2 (λj0=>B1 (aJ a0) λv1=>B1 (fa 0 v1) λv2=>B1 (ld v2 H) λv3=>B1 (zT .eql (pe v3 .da H)) λv4=>j0 a0 v4 H) (λx5 x6 h7=>CD x6 (B2 (lh P 178 242 x5 h7) λv8 h9=>B2 (cf (zf 168) [v8] h9) λv10 eY=>B2 (lh P 242 178 v10 eY) λv12 fw=>B1 (aJ x5) λbu=>B1 (fa 0 bu) λdW=>B1 (st 1 dW v12 fw) λbL=>some (.tuple [],bL)) (J 1 (λoL=>B1 (aJ x5) λcg=>B1 (fa 0 cg) λfy=>B1 (ld fy h7) λv20=>B1 (zT .neq (pe v20 x5 h7)) λv21=>oL v21 h7) (λbr du=>CD br (none) (some (.tuple [],du)))))
theorem amW:yC1 147 VA:=yM1
def ai3:yS 2:=λJ G cf a0 a1 H=>J 2 (λj0=>B1 (aJ a0) λv1=>B1 (fa 1 v1) λv2=>B1 (ld v2 H) λv3=>B2 (jh P .cap #[52] [v3] H) λv4 h5=>B1 (vC (zi 2) v4) λv6=>B1 (bc v6 a1) λv7=>B2 (cf (zf 169) [v7] H) λv8 h9=>B1 (aJ a0) λv10=>B1 (fa 1 v10) λv11=>B1 (ld v11 h9) λv12=>B1 (aE v12) λcY=>B1 (nK 1 v8 none (some cY) none) λbu=>B1 (ld v11 H) λdW=>SM v12 dW <| B1 (aE v12) λcB=>SM cY cB <| j0 a0 bu h9) (λcO bO dZ=>J 2 (λaK=>B1 (aJ cO) λv21=>B1 (fa 1 v21) λv22=>B1 (ld v22 dZ) λv23=>B2 (JY 1 bO v23 dZ) λv24 ep=>aK cO bO ep) (λdD dd iz=>B1 (aJ dD) λv29=>B1 (fa 1 v29) λv30=>B1 (st 1 v30 dd iz) λhJ=>some (.tuple [],hJ)))
theorem aD3:yC2 148 ai3:=yM2
def aeR:yS 1:=λJ G cf a0 H=>B2 (cf (zf 111) [a0] H) λv0 h1=>some (v0,h1)
theorem ayS:yC1 84 aeR:=yM1
def aku:yS 1:=λJ G cf a0 H=>B2 (cf (zf 146) [a0,(zi 10)] H) λv0 h1=>some (v0,h1)
theorem asE:yC1 111 aku:=yM1
def Sw:yS 2:=λJ G cf a0 a1 H=>J 2 (λj0=>B1 (bK a1 (zi 10)) λv1=>CD v1 (J 1 (λj2=>J 2 (λj3=>B1 (qF (zi 0) a0) λv4=>G v4 true (λk5=>k5 a0 H) (λv6 h7=>G v4 true (λk8=>B1 (ba v6 (zi 100)) λv9=>k8 v9 h7) (λv10 eY=>B1 (pk v4 v10 (.bool false)) λv12=>j3 a0 v12 eY) h7) H) (λbM ei eM=>CD ei (B2 (cf (zf 164) [bM] eM) λcB eC=>some (cB,eC)) (j2 bM eM))) (λbO dZ=>BN (az dZ [(.int .u8 0),(.int .u8 0),(.int .u8 0),(.int .u8 0),(.int .u8 0),(.int .u8 0),(.int .u8 0),(.int .u8 0),(.int .u8 0),(.int .u8 0),(.int .u8 0),(.int .u8 0),(.int .u8 0),(.int .u8 0),(.int .u8 0),(.int .u8 0),(.int .u8 0),(.int .u8 0),(.int .u8 0),(.int .u8 0),(.int .u8 0),(.int .u8 0),(.int .u8 0),(.int .u8 0)] 238 0) λi20 kU=>B1 (cv .u64 bO) λv22=>J 3 (λet=>B1 (ba bO (zi 0)) λv24=>CD v24 (B1 (dR .neg v22) λv25=>et bO (.ptr i20 0) v25 kU) (et bO (.ptr i20 0) v22 kU)) (λdD dd dY dc=>B2 (cf (zf 165) [dY] dc) λv30 hJ=>J 3 (λfP=>B1 (bc (zi 1) v30) λft=>B1 (uy P 238 dd (some (zi 1)) (some ft) none hJ) λc8=>B2 (cf (zf 166) [c8,dY] hJ) λv35 nV=>fP dD dd v30 nV) (λcz bN eI mM=>J 2 (λGf=>B1 (ba cz (zi 0)) λdE=>CD dE (B1 (qD 24 1 bN (zi 0)) λfc=>B1 (st 1 fc (.int .u8 45) mM) λeg=>B1 (bc (zi 1) eI) λeu=>B1 (uy P 238 bN none (some eu) none eg) λv46=>B1 (Cc v46 eg) λiM=>some (iM,eg)) (Gf bN eI mM)) (λfU gj lJ=>B1 (bc (zi 1) gj) λv51=>B1 (uy P 238 fU (some (zi 1)) (some v51) none lJ) λgP=>B1 (Cc gP lJ) λv53=>some (v53,lJ)))))) (j0 a0 a1 H)) (λiF gg jA=>J 1 (λLW=>B1 (cv .u64 iF) λkj=>B1 (ba iF (zi 0)) λv59=>B2 (cf (zf 167) [.ah,kj,gg,v59,(.bool false)] jA) λfE lj=>B1 (ex 0 fE) λgO=>B1 (ex 1 fE) λv63=>LW v63 lj) (λfS oe=>some (fS,oe)))
theorem YG:yC2 146 Sw:=yM2
def ahU:yS 1:=λJ G cf a0 H=>J 1 (λj0=>B1 (ba a0 (zi 10)) λv1=>CD v1 (B1 (bc a0 (zi 1)) λv2=>B1 (qM (.str [48,49,50,51,52,53,54,55,56,57,97,98,99,100,101,102,103,104,105,106,107,108,109,110,111,112,113,114,115,116,117,118,119,120,121,122]) (some a0) (some v2)) λv3=>some (v3,H)) (j0 a0 H)) (λx4 h5=>B1 (vC x4 (zi 2)) λv6=>B1 (vC x4 (zi 2)) λv7=>B1 (bc v7 (zi 2)) λv8=>B1 (qM (.str [48,48,48,49,48,50,48,51,48,52,48,53,48,54,48,55,48,56,48,57,49,48,49,49,49,50,49,51,49,52,49,53,49,54,49,55,49,56,49,57,50,48,50,49,50,50,50,51,50,52,50,53,50,54,50,55,50,56,50,57,51,48,51,49,51,50,51,51,51,52,51,53,51,54,51,55,51,56,51,57,52,48,52,49,52,50,52,51,52,52,52,53,52,54,52,55,52,56,52,57,53,48,53,49,53,50,53,51,53,52,53,53,53,54,53,55,53,56,53,57,54,48,54,49,54,50,54,51,54,52,54,53,54,54,54,55,54,56,54,57,55,48,55,49,55,50,55,51,55,52,55,53,55,54,55,55,55,56,55,57,56,48,56,49,56,50,56,51,56,52,56,53,56,54,56,55,56,56,56,57,57,48,57,49,57,50,57,51,57,52,57,53,57,54,57,55,57,56,57,57]) (some v6) (some v8)) λv9=>some (v9,h5))
theorem aEn:yC1 164 ahU:=yM1
def amk:yS 1:=λJ G cf a0 H=>B2 (cf (zf 182) [a0] H) λv0 h1=>B2 (cf (zf 181) [v0] h1) λv2 h3=>B1 (qD 20 1 (.ptr 0 0) v2) λv4=>B1 (ld v4 h3) λv5=>B1 (lg a0 v5) λv6=>B2 (cf (zf 183) [v6] h3) λv7 h8=>B1 (bc v2 v7) λv9=>some (v9,h8)
theorem aBz:yC1 165 amk:=yM1
def agM:yS 1:=λJ G cf a0 H=>B1 (vC a0 (zi 78913)) λv0=>B1 (sN v0 (.int .u64 18)) λv1=>some (v1,H)
theorem aGx:yC1 181 agM:=yM1
def UH:yS 1:=λJ G cf a0 H=>CD a0 (some ((zi 1),H)) (some ((zi 0),H))
theorem aly:yC1 183 UH:=yM1
def Wy:yB 0 4:=λJ G cf j2 j3 x4 x5 x6 x7 h8=>B1 (ba x7 x6) λv9=>CD v9 (J 4 (λaX=>J 6 (λoU=>B1 (ia 1 x4 x7) λv12=>B1 (ld v12 h8) λcY=>B1 (seq x5 cY) λbu=>oU x4 x5 x7 x6 x7 bu h8) (λdF bU cO bO bW dP kU=>CD dP (some (cO,kU)) (aX dF bU bO bW kU))) (λbr bR db bX eS=>B1 (bc bX (zi 1)) λv27=>j3 br bR db v27 eS)) (j2  h8)
def Z2:yL 0 4:=yX 104 [1,0,1,0,0] [0,1,7,8] 0 []
theorem aoq:yQ4 Z2 Wy:=yq4
def anT:yS 2:=λJ G cf a0 a1 H=>J 0 (λj0=>B1 (aE a0) λv1=>J 0 (λj2=>Z2 J G cf j2 a0 a1 v1 (zi 0) H) (λiz=>j0  iz)) (λdc=>some ((zi (-1)),dc))
theorem aBS:yC2 104 anT:=yM2
def aj3:yS 2:=λJ G cf a0 a1 H=>B2 (cf (zf 104) [a0,a1] H) λv0 h1=>B1 (lg v0 (zi 0)) λv2=>some (v2,h1)
theorem aBj:yC2 94 aj3:=yM2
def YF:yB 0 4:=λJ G cf j4 j5 x6 x7 x8 x9 cu=>B1 (ba x9 x8) λv11=>CD v11 (J 4 (λeD=>J 6 (λeJ=>B1 (aB 2 x7 cu) λbu=>B1 (ia 2 x6 x9) λdW=>B1 (aB 2 dW cu) λcB=>yr (gA P .eql 231 false bu cB) <| B1 (gi P .eql 231 bu cB cu) λeB=>eJ x6 x7 x9 x8 x9 eB cu) (λbO bW dP bo br bR gm=>CD bR (some (dP,gm)) (eD bO bW bo br gm))) (λbX dD dd dY dc=>B1 (bc dY (zi 1)) λv30=>j5 bX dD dd v30 dc)) (j4  cu)
def abh:yL 0 4:=yX 177 [1,0,1,0,0] [0,3,7,8] 0 []
theorem amD:yQ4 abh YF:=yq4
def ahF:yS 2:=λJ G cf a0 a1 H=>BN (bx 231 a1 H) λi0 h1=>J 0 (λj2=>B1 (aE a0) λv3=>J 0 (λj4=>abh J G cf j4 a0 (.ptr i0 0) v3 (zi 0) h1) (λhJ=>j2  hJ)) (λcw=>some ((zi (-1)),cw))
theorem aBf:yC2 177 ahF:=yM2
def aol:yS 2:=λJ G cf a0 a1 H=>BN (bx 231 a1 H) λi0 h1=>B1 (aB 2 (.ptr i0 0) h1) λv2=>B2 (cf (zf 177) [a0,v2] h1) λv3 h4=>B1 (lg v3 (zi 0)) λv5=>some (v5,h4)
theorem aEO:yC2 158 aol:=yM2
def ali:yS 2:=λJ G cf a0 a1 H=>B2 (cf (zf 163) [a0,a1] H) λv0 h1=>B1 (lg v0 (zi 0)) λv2=>some (v2,h1)
theorem aG1:yC2 143 ali:=yM2
def QR:yB 0 4:=λJ G cf j2 j3 x4 x5 x6 x7 h8=>B1 (ba x7 x6) λv9=>CD v9 (J 4 (λaX=>J 6 (λoU=>B1 (ia 1 x4 x7) λv12=>B1 (ld v12 h8) λcY=>B2 (cf x5 [cY] h8) λbu eM=>oU x4 x5 x7 x6 x7 bu eM) (λbU cO bO bW dP bo iy=>CD bo (some (bO,iy)) (aX bU cO bW dP iy))) (λbR db bX dD eX=>B1 (bc dD (zi 1)) λv28=>j3 bR db bX v28 eX)) (j2  h8)
def V2:yL 0 4:=yX 163 [1,0,1,0,0] [0,1,7,8] 0 []
theorem VQ:yQ4 V2 QR:=yq4
def aoo:yS 2:=λJ G cf a0 a1 H=>J 0 (λj0=>B1 (aE a0) λv1=>J 0 (λj2=>V2 J G cf j2 a0 a1 v1 (zi 0) H) (λdc=>j0  dc)) (λiT=>some ((zi (-1)),iT))
theorem aH3:yC2 163 aoo:=yM2
def Yv:yB 0 4:=λJ G cf j2 j3 x4 x5 x6 x7 h8=>B1 (ba x7 x6) λv9=>CD v9 (J 4 (λaX=>J 6 (λoU=>B1 (ia 1 x4 x7) λv12=>B1 (ld v12 h8) λcY=>B1 (bK x5 cY) λbu=>oU x4 x5 x7 x6 x7 bu h8) (λdF bU cO bO bW dP kU=>CD dP (some (cO,kU)) (aX dF bU bO bW kU))) (λbr bR db bX eS=>B1 (bc bX (zi 1)) λv27=>j3 br bR db v27 eS)) (j2  h8)
def US:yL 0 4:=yX 174 [1,0,1,0,0] [0,1,7,8] 0 []
theorem adl:yQ4 US Yv:=yq4
def ao3:yS 2:=λJ G cf a0 a1 H=>J 0 (λj0=>B1 (aE a0) λv1=>J 0 (λj2=>US J G cf j2 a0 a1 v1 (zi 0) H) (λiz=>j0  iz)) (λdc=>some ((zi (-1)),dc))
theorem aG5:yC2 174 ao3:=yM2
def afi:yS 2:=λJ G cf a0 a1 H=>B2 (cf (zf 174) [a0,a1] H) λv0 h1=>B1 (lg v0 (zi 0)) λv2=>some (v2,h1)
theorem ax3:yC2 154 afi:=yM2
def ag5:yS 2:=λJ G cf a0 a1 H=>B2 (cf (zf 135) [a0,a1] H) λv0 h1=>B1 (lg v0 (zi 0)) λv2=>some (v2,h1)
theorem aCl:yC2 95 ag5:=yM2
def RN:yB 0 4:=λJ G cf j2 j3 x4 x5 x6 x7 h8=>B1 (ba x7 x6) λv9=>CD v9 (J 4 (λaX=>J 6 (λoU=>B1 (ia 6 x4 x7) λv12=>B1 (aB 6 v12 h8) λcY=>B2 (cf x5 [cY] h8) λbu eM=>oU x4 x5 x7 x6 x7 bu eM) (λbU cO bO bW dP bo iy=>CD bo (some (bO,iy)) (aX bU cO bW dP iy))) (λbR db bX dD eX=>B1 (bc dD (zi 1)) λv28=>j3 bR db bX v28 eX)) (j2  h8)
def ZH:yL 0 4:=yX 135 [1,0,1,0,0] [0,1,7,8] 0 []
theorem Xf:yQ4 ZH RN:=yq4
def adw:yS 2:=λJ G cf a0 a1 H=>J 0 (λj0=>B1 (aE a0) λv1=>J 0 (λj2=>ZH J G cf j2 a0 a1 v1 (zi 0) H) (λdc=>j0  dc)) (λiT=>some ((zi (-1)),iT))
theorem auj:yC2 135 adw:=yM2
def abf:yS 1:=λJ G cf a0 H=>yr (gA P .eql 70 true a0 .ah) <| B1 (gi P .eql 70 a0 .ah H) λv0=>CD v0 (some (.ah,H)) (B1 (fl [] []) λl1=>BN (az H l1 99 0) λi2 h3=>B2 (cL 99 6 [(.str []),.ah,(zi 0),(zi 0),(zi 0),(.str [])] false (.slice i2 0 0 0 true 6) a0 h3) λv4 h5=>some (v4,h5))
theorem afY:yC1 136 abf:=yM1
def aaf:yS 1:=λJ G cf a0 H=>yr (gA P .eql 97 true a0 .ah) <| B1 (gi P .eql 97 a0 .ah H) λv0=>CD v0 (some (.ah,H)) (B1 (fl [] []) λl1=>BN (az H l1 3 0) λi2 h3=>B2 (cL 3 1 [(zi 0)] false (.slice i2 0 0 0 true 1) a0 h3) λv4 h5=>some (v4,h5))
theorem akm:yC1 137 aaf:=yM1
def VW:yS 1:=λJ G cf a0 H=>yr (gA P .eql 73 true a0 .ah) <| B1 (gi P .eql 73 a0 .ah H) λv0=>CD v0 (some (.ah,H)) (B1 (fl [] []) λl1=>BN (az H l1 132 0) λi2 h3=>B2 (cL 132 4 [(zi 0),(zi 0),(zi 0),(.str [])] false (.slice i2 0 0 0 true 4) a0 h3) λv4 h5=>some (v4,h5))
theorem aoe:yC1 138 VW:=yM1
def aaj:yS 1:=λJ G cf a0 H=>yr (gA P .eql 46 true a0 .ah) <| B1 (gi P .eql 46 a0 .ah H) λv0=>CD v0 (some (.ah,H)) (B1 (fl [] []) λl1=>BN (az H l1 9 0) λi2 h3=>B2 (cL 9 1 [(.str [])] false (.slice i2 0 0 0 true 1) a0 h3) λv4 h5=>some (v4,h5))
theorem ak0:yC1 30 aaj:=yM1
def Z9:yB 0 4:=λJ G cf eN jc bU cO bO bW dh=>B1 (ba bW bO) λv21=>CD v21 (J 4 (λwS=>J 5 (λet=>B1 (ia 1 bU bW) λv24=>B1 (ld v24 dh) λv25=>B1 (ia 1 cO bW) λv26=>B1 (ld v26 dh) λv27=>B1 (eA v25 v27) λv28=>et bU cO bO bW v28 dh) (λdi dN bV fG fA iI=>CD fA (some ((.bool false),iI)) (wS di dN bV fG iI))) (λcN bG cz bN fQ=>B1 (bc bN (zi 1)) λv40=>jc cN bG cz v40 fQ)) (eN  dh)
def ZQ:yL 0 4:=yX 72 [1,1,0,1,0,0] [0,1,12,13] 0 []
theorem ajJ:yQ4 ZQ Z9:=yq4
def amq:yS 2:=λJ G cf a0 a1 H=>J 2 (λj0=>J 3 (λj1=>B1 (aE a0) λv2=>B1 (aE a1) λv3=>B1 (eA v2 v3) λv4=>j1 a0 a1 v4 H) (λx5 x6 x7 h8=>CD x7 (some ((.bool false),h8)) (j0 x5 x6 h8))) (λx9 cH eY=>J 0 (λeD=>B1 (aE x9) λcY=>J 0 (λeN=>ZQ J G cf eN x9 cH cY (zi 0) eY) (λhZ=>eD  hZ)) (λdX=>some ((.bool true),dX)))
theorem axU:yC2 72 amq:=yM2
def Uh:yB 0 4:=λJ G cf eN jc bU cO bO bW dh=>B1 (ba bW bO) λv21=>CD v21 (J 4 (λwS=>J 5 (λet=>B1 (ia 4 bU bW) λv24=>B1 (aB 4 v24 dh) λv25=>B1 (ia 4 cO bW) λv26=>B1 (aB 4 v26 dh) λv27=>yr (gA P .neq 132 false v25 v27) <| B1 (gi P .neq 132 v25 v27 dh) λv28=>et bU cO bO bW v28 dh) (λdi dN bV fG fA iI=>CD fA (some ((.bool false),iI)) (wS di dN bV fG iI))) (λcN bG cz bN fQ=>B1 (bc bN (zi 1)) λv40=>jc cN bG cz v40 fQ)) (eN  dh)
def Va:yL 0 4:=yX 73 [1,1,0,1,0,0] [0,1,12,13] 0 []
theorem aiC:yQ4 Va Uh:=yq4
def alh:yS 2:=λJ G cf a0 a1 H=>J 2 (λj0=>J 3 (λj1=>B1 (aE a0) λv2=>B1 (aE a1) λv3=>B1 (eA v2 v3) λv4=>j1 a0 a1 v4 H) (λx5 x6 x7 h8=>CD x7 (some ((.bool false),h8)) (j0 x5 x6 h8))) (λx9 cH eY=>J 0 (λeD=>B1 (aE x9) λcY=>J 0 (λeN=>Va J G cf eN x9 cH cY (zi 0) eY) (λhZ=>eD  hZ)) (λdX=>some ((.bool true),dX)))
theorem aFH:yC2 73 alh:=yM2
def UI:yB 0 4:=λJ G cf eN jc bU cO bO bW dh=>B1 (ba bW bO) λv21=>CD v21 (J 4 (λwS=>J 5 (λet=>B1 (ia 1 bU bW) λv24=>B1 (ld v24 dh) λv25=>B1 (ia 1 cO bW) λv26=>B1 (ld v26 dh) λv27=>B1 (tW v25 v27) λv28=>et bU cO bO bW v28 dh) (λdi dN bV fG fA iI=>CD fA (some ((.bool false),iI)) (wS di dN bV fG iI))) (λcN bG cz bN fQ=>B1 (bc bN (zi 1)) λv40=>jc cN bG cz v40 fQ)) (eN  dh)
def Z3:yL 0 4:=yX 74 [1,1,0,1,0,0] [0,1,12,13] 0 []
theorem aje:yQ4 Z3 UI:=yq4
def alx:yS 2:=λJ G cf a0 a1 H=>J 2 (λj0=>J 3 (λj1=>B1 (aE a0) λv2=>B1 (aE a1) λv3=>B1 (eA v2 v3) λv4=>j1 a0 a1 v4 H) (λx5 x6 x7 h8=>CD x7 (some ((.bool false),h8)) (j0 x5 x6 h8))) (λx9 cH eY=>J 0 (λeD=>B1 (aE x9) λcY=>J 0 (λeN=>Z3 J G cf eN x9 cH cY (zi 0) eY) (λhZ=>eD  hZ)) (λdX=>some ((.bool true),dX)))
theorem aws:yC2 74 alx:=yM2
def QU:yB 0 5:=λJ G cf bA oL bO bW dP bo br du=>B1 (ba br bo) λv24=>CD v24 (J 5 (λyP=>J 7 (λB8=>B1 (ia 6 dP br) λv27=>B1 (aB 6 v27 du) λv28=>BN (az du [(.str []),.ah,(zi 0),(zi 0),(zi 0),(.str [])] 99 0) λi29 iT=>B1 (st 6 (.ptr i29 0) v28 iT) λhJ=>B8 bO bW br (.ptr i29 0) dP bo br hJ) (λfG fA dV cN bG cz bN fQ=>J 7 (λwR=>B1 (ia 6 fG dV) λv41=>B1 (aB 6 v41 fQ) λdE=>BN (az fQ [(.str []),.ah,(zi 0),(zi 0),(zi 0),(.str [])] 99 0) λi43 eg=>B1 (st 6 (.ptr i43 0) dE eg) λjx=>wR fG fA cN (.ptr i43 0) bG cz bN jx) (λiQ gq fU gj ie iJ gK ig=>J 6 (λiD=>B1 (aB 6 fU ig) λfh=>B1 (aB 6 gj ig) λjB=>B2 (cf gq [fh,jB] ig) λv57 jd=>B1 (dR .not v57) λv59=>iD iQ gq ie iJ gK v59 jd) (λeF dm jb gT fS fM eP=>CD fM (some ((.bool false),eP)) (yP eF dm jb gT fS eP))))) (λgS gV kX jm nG nD=>B1 (bc nG (zi 1)) λjg=>oL gS gV kX jm jg nD)) (bA  du)
def abA:yL 0 5:=yX 75 [1,1,0,1,0,0] [1,2,15,16,17] 0 []
theorem UW:yQ5 abA QU:=yq5
def ZW:yS 3:=λJ G cf a0 a1 a2 H=>J 3 (λj0=>J 4 (λj1=>B1 (aE a0) λv2=>B1 (aE a1) λv3=>B1 (eA v2 v3) λv4=>j1 a0 a1 a2 v4 H) (λx5 x6 x7 x8 h9=>CD x8 (some ((.bool false),h9)) (j0 x5 x6 x7 h9))) (λcH bZ bI fw=>J 0 (λeN=>B1 (aE cH) λdW=>J 0 (λbA=>abA J G cf bA bZ bI cH dW (zi 0) fw) (λuv=>eN  uv)) (λnO=>some ((.bool true),nO)))
theorem alE:yC3 75 ZW:=yM3
def ZS:yB 0 5:=λJ G cf fD fP fA dV cN bG cz iO=>B1 (ba cz bG) λfC=>CD fC (J 5 (λwR=>B1 (ia 2 cN cz) λv41=>B1 (aB 2 v41 iO) λdE=>BN (az iO [(zi 0),(zi 0)] 231 0) λi43 eg=>B1 (st 2 (.ptr i43 0) dE eg) λjx=>J 6 (λOm=>J 7 (λBQ=>B1 (aB 2 fA jx) λfO=>B1 (qD 2 1 (.ptr i43 0) (zi 0)) λv49=>B1 (ld v49 jx) λgH=>B2 (cf (zf 175) [fO,gH] jx) λv51 jH=>B1 (dR .not v51) λv53=>G v53 false (λk54=>B1 (aB 2 fA jH) λfh=>k54 fh jH) (λjB oX=>G v53 false (λFf=>B1 (qD 2 1 (.ptr i43 0) (zi 1)) λv59=>Ff v59 oX) (λfE lj=>G v53 false (λk62=>B1 (ld fE lj) λv63=>k62 v63 lj) (λv64 oe=>G v53 false (λFv=>B2 (cf (zf 175) [jB,v64] oe) λkc qG=>Fv kc qG) (λml uh=>G v53 false (λZY=>B1 (dR .not ml) λv72=>ZY v72 uh) (λjg uv=>B1 (pk v53 (.bool true) jg) λv75=>G v75 false (λk76=>B1 (qD 2 1 (.ptr i43 0) (zi 0)) λuU=>k76 uU uv) (λqw iH=>G v75 false (λGv=>B1 (ld qw iH) λkV=>Gv kV iH) (λmT po=>G v75 false (λF0=>B1 (qD 2 1 (.ptr i43 0) (zi 1)) λv85=>F0 v85 po) (λsu qb=>G v75 false (λk88=>B1 (ld su qb) λoC=>k88 oC qb) (λqh zL=>G v75 false (λOn=>B1 (bK mT qh) λv93=>On v93 zL) (λuj nI=>B1 (pk v75 (.bool true) uj) λkE=>G kE false (λk97=>k97 dV nI) (λxR Er=>G kE false (λaHI=>B1 (aB 2 (.ptr i43 0) Er) λwT=>aHI wT Er) (λql lO=>G kE false (λabj=>B1 (tG P 248 xR ql false lO) λv105=>abj v105 lO) (λyQ Cf=>B1 (pk kE (.bool true) yQ) λqz=>BQ fA dV (.ptr i43 0) cN bG cz qz Cf) lO) Er) nI) zL) qb) po) iH) uv) uh) oe) lj) oX) jH) (λlP ru ub sB qm qo vm qO=>CD vm (some ((.bool false),qO)) (Om lP ru ub sB qm qo qO))) (λth oJ nL oQ pZ tI JG=>B1 (aB 2 nL JG) λv124=>B1 (sd P 248 oJ v124 (.bool true) JG) λCP=>wR th oJ oQ pZ tI CP)) (λlq iX jn jI mr zp=>B1 (bc mr (zi 1)) λDO=>fP lq iX jn jI DO zp)) (fD  iO)
def aan:yL 0 5:=yX 155 [1,1,1,0,1,0,0] [1,3,16,17,18] 0 []
theorem ahS:yQ5 aan ZS:=yq5
def anj:yS 1:=λJ G cf a0 H=>BN (bx 201 a0 H) λi0 h1=>J 1 (λj2=>J 2 (λj3=>B1 (fa 0 (.ptr i0 0)) λv4=>B1 (ld v4 h1) λv5=>B1 (ba v5 (zi 0)) λv6=>G v6 false (λk7=>B1 (fa 0 (.ptr i0 0)) λv8=>k7 v8 h1) (λv9 cu=>G v6 false (λCS=>B1 (ld v9 cu) λv12=>CS v12 cu) (λcY iG=>G v6 false (λzP=>B1 (gF cY (zi 16)) λcB=>zP cB iG) (λeB iq=>B1 (pk v6 (.bool true) eB) λfy=>j3 (.ptr i0 0) fy iq) iG) cu) h1) (λdP bo iy=>CD bo (some ((.bool false),iy)) (j2 dP iy))) (λbR gm=>BN (BV gm) λi25 eS=>J 0 (λzW=>B1 (fa 1 bR) λv28=>B1 (ld v28 eS) λv29=>B1 (aE v29) λv30=>J 0 (λfD=>aan J G cf fD bR (.map i25) v29 v30 (zi 0) eS) (λlV=>zW  lV)) (λDY=>some ((.bool true),DY)))
theorem arH:yC1 155 anj:=yM1
def ah2:yS 2:=λJ G cf a0 a1 H=>BN (bx 201 a0 H) λi0 h1=>B1 (lg a1 (zi 0)) λv2=>G v2 true (λk3=>k3 a1 h1) (λv4 h5=>G v2 true (λk6=>B1 (fa 0 (.ptr i0 0)) λv7=>k6 v7 h5) (λv8 h9=>G v2 true (λuo=>B1 (ld v8 h9) λv11=>uo v11 h9) (λv12 fw=>G v2 true (λHj=>B1 (ba v4 v12) λdW=>Hj dW fw) (λcB eC=>B1 (pk v2 cB (.bool false)) λcg=>some (cg,eC)) fw) h9) h5) h1
theorem aAi:yC2 175 ah2:=yM2
def IM:yB 1 6:=λJ G cf aX oU bI bM ei dF bU cO iq=>B1 (ba cO bU) λfy=>CD fy (J 6 (λaK=>J 6 (λic=>B1 (ia 2 dF cO) λv22=>B1 (aB 2 v22 iq) λv23=>BN (az iq [(zi 0),(zi 0)] 231 0) λi24 ep=>B1 (st 2 (.ptr i24 0) v23 ep) λeS=>J 8 (λzW=>B1 (qD 2 1 (.ptr i24 0) bM) λv28=>B1 (ld v28 eS) λv29=>B1 (bK v29 bI) λv30=>zW bI bM ei (.ptr i24 0) dF bU cO v30 eS) (λbV fG fA dV cN bG cz bN fQ=>CD bN (B1 (pG (zi 1) fG) λv40=>B1 (qD 2 1 dV v40) λv41=>B1 (ld v41 fQ) λdE=>B1 (fl [(zi 0)] [(0,1,dE)]) λl43=>BN (az fQ l43 3 0) λi44 jx=>B2 (cL 3 1 [(zi 0)] false fA (.slice i44 0 1 1 true 1) jx) λv46 oz=>ic bV fG v46 cN bG cz oz) (ic bV fG fA cN bG cz fQ))) (λfU gj ie iJ gK gI mN=>aK fU gj ie iJ gK gI mN)) (λgg eQ fB eZ dI eF lj=>B1 (bc eF (zi 1)) λgO=>oU gg eQ fB eZ dI gO lj)) (aX ei iq)
def YL:yL 1 6:=yX 176 [1,1,1,0,1,0,0] [1,2,7,14,15,16] 0 [7]
theorem YQ:yQ6 YL IM:=yq6
def ai4:yS 3:=λJ G cf a0 a1 a2 H=>BN (bx 201 a0 H) λi0 h1=>B1 (aB 2 (.ptr i0 0) h1) λv2=>B2 (cf (zf 155) [v2] h1) λv3 h4=>B1 (dR .not v3) λv5=>CD v5 (some (.ah,h4)) (J 1 (λj6=>B1 (fa 1 (.ptr i0 0)) λv7=>B1 (ld v7 h4) λv8=>B1 (aE v8) λv9=>J 1 (λaX=>YL J G cf aX a1 a2 .ah v8 v9 (zi 0) h4) (λgT kH=>j6 gT kH)) (λfM eP=>B2 (cf (zf 192) [fM] eP) λkc qG=>some (fM,qG)))
theorem ass:yC3 176 ai4:=yM3
def ahk:yS 2:=λJ G cf a0 a1 H=>BN (bx 201 a0 H) λi0 h1=>B1 (aB 2 (.ptr i0 0) h1) λv2=>B2 (cf (zf 176) [v2,a1,(zi 0)] h1) λv3 h4=>some (v3,h4)
theorem asl:yC2 157 ahk:=yM2
def OJ (J:JT)(G:GT)(cf:CF)(aX:K.Fn 1)(aK:K.Fn 4)(et:K.Fn 4)(gY:K.Fn 7)(iD:K.Fn 7)(zD:K.Fn 10)(eQ fB eZ dI eF dm jb gT fS fM:AV)(eP:Hp):R:=B1 (ba fM fS) λkc=>CD kc (J 10 (λY2=>J 10 (λJw=>B1 (ia 1 gT fM) λv70=>B1 (ld v70 eP) λmg=>J 12 (λBR=>B1 (ia 1 fB mg) λjg=>B1 (ld jg eP) λjF=>B1 (bK jF (zi 0)) λv75=>BR eQ fB eZ dI mg eF dm jb gT fS fM v75 eP) (λgM fL gB nY oI lU nB kC kG lR oR sX wB=>CD sX (J 11 (λIJ=>B1 (ia 1 fL oI) λqh=>B1 (st 1 qh gB wB) λzL=>IJ gM fL gB nY oI lU nB kC kG lR oR zL) (λkF nC jT jV rf nQ qV qL vz ud za lO=>B1 (fl [(zi 0)] [(0,1,rf)]) λWe=>BN (az lO We 3 0) λi105 Lv=>B2 (cL 3 1 [(zi 0)] false jV (.slice i105 0 1 1 true 1) Lv) λv107 vM=>Jw kF nC jT v107 nQ qV qL vz ud za vM)) (Jw gM fL gB nY lU nB kC kG lR oR wB))) (λlP ru ub sB qm qo vm qY th oJ Yx=>Y2 lP ru ub sB qm qo vm qY th oJ Yx)) (λoQ pZ tI vn CH KU lq iX jn jI aai=>B1 (bc jI (zi 1)) λv131=>zD oQ pZ tI vn CH KU lq iX jn v131 aai)) (iD eQ fB eZ dI eF dm jb eP)
def NB (J:JT)(G:GT)(cf:CF)(aX:K.Fn 1)(aK:K.Fn 4)(et:K.Fn 4)(gY:K.Fn 7)(iD:K.Fn 7):K.Fn 10:=CW P an J G cf 156 [1,1,1,0,1,0,0,1,0,0,1,0,1,0,0,1,1,0,0,1,1,0,0] [2,5,7,8,23,24,25,31,32,33] (λq t H=>match Nat.beq q 4 with|true=>app 7 iD (aI [2,5,7,8,23,24,25] t) H|false=>(λq t H=>match Nat.beq q 3 with|true=>app 7 gY (aI [2,5,7,8,23,24,25] t) H|false=>(λq t H=>match Nat.beq q 2 with|true=>app 4 et (aI [2,5,7,8] t) H|false=>(λq t H=>match Nat.beq q 1 with|true=>app 4 aK (aI [2,5,6,7] t) H|false=>(λq t H=>match Nat.beq q 0 with|true=>app 1 aX (aI [5] t) H|false=>(λ_ _ _=>none) q t H) q t H) q t H) q t H) q t H)
theorem aBR (J:JT)(G:GT)(cf:CF)(aX:K.Fn 1)(aK:K.Fn 4)(et:K.Fn 4)(gY:K.Fn 7)(iD:K.Fn 7)(zD:K.Fn 10)(eQ fB eZ dI eF dm jb gT fS fM:AV)(eP:Hp):xa P an J G cf 156 [1,1,1,0,1,0,0,1,0,0,1,0,1,0,0,1,1,0,0,1,1,0,0] [2,5,7,8,23,24,25,31,32,33] (λq t H=>match Nat.beq q 4 with|true=>app 7 iD (aI [2,5,7,8,23,24,25] t) H|false=>(λq t H=>match Nat.beq q 3 with|true=>app 7 gY (aI [2,5,7,8,23,24,25] t) H|false=>(λq t H=>match Nat.beq q 2 with|true=>app 4 et (aI [2,5,7,8] t) H|false=>(λq t H=>match Nat.beq q 1 with|true=>app 4 aK (aI [2,5,6,7] t) H|false=>(λq t H=>match Nat.beq q 0 with|true=>app 1 aX (aI [5] t) H|false=>(λ_ _ _=>none) q t H) q t H) q t H) q t H) q t H) zD [eQ,fB,eZ,dI,eF,dm,jb,gT,fS,fM] eP=OJ J G cf aX aK et gY iD zD eQ fB eZ dI eF dm jb gT fS fM eP:=zzw
theorem VX (cf:CF)(aX:K.Fn 1)(aK:K.Fn 4)(et:K.Fn 4)(gY:K.Fn 7)(iD:K.Fn 7)(eQ fB eZ dI eF dm jb gT fS fM:AV)(eP:Hp):NB JN GO cf aX aK et gY iD eQ fB eZ dI eF dm jb gT fS fM eP=OJ JN GO cf aX aK et gY iD (NB JN GO cf aX aK et gY iD) eQ fB eZ dI eF dm jb gT fS fM eP:=abg (b:=app 10 (NB JN GO cf aX aK et gY iD) [eQ,fB,eZ,dI,eF,dm,jb,gT,fS,fM] eP) zzw ((xj cf _ _ _ _ [eQ,fB,eZ,dI,eF,dm,jb,gT,fS,fM] rfl eP).trans (aBR JN GO cf aX aK et gY iD _ eQ fB eZ dI eF dm jb gT fS fM eP))
def Pu (J:JT)(G:GT)(cf:CF)(aX:K.Fn 1)(aK:K.Fn 4)(et:K.Fn 4)(Ez:K.Fn 7)(bX dD dd dY di dN bV:AV)(cw:Hp):R:=B1 (ba bV dN) λft=>CD ft (J 7 (λvl=>J 7 (λgY=>B1 (ia 1 di bV) λv36=>B1 (ld v36 cw) λv37=>J 10 (λLo=>B1 (aB 2 bX cw) λfC=>B2 (cf (zf 157) [fC,v37] cw) λv40 hZ=>B1 (aE v40) λdE=>Lo bX dD dd dY di dN bV v40 dE (zi 0) hZ) (λeT kL ik iQ gq fU gj ie iJ gK ig=>J 7 (λiD=>NB J G cf aX aK et gY iD eT kL ik iQ gq fU gj ie iJ gK ig) (λkP yj zI ua pX tT wh xT=>gY kP yj zI ua pX tT wh xT))) (λAD Mv M9 Mr Gm CR Ii Ia=>vl AD Mv M9 Mr Gm CR Ii Ia)) (λCk xL yY rM pR yl xW Ud=>B1 (bc xW (zi 1)) λGz=>Ez Ck xL yY rM pR yl Gz Ud)) (et bX dD dd dY cw)
def KY (J:JT)(G:GT)(cf:CF)(aX:K.Fn 1)(aK:K.Fn 4)(et:K.Fn 4):K.Fn 7:=CW P an J G cf 156 [1,1,1,0,1,0,0,1,0,0,1,0,1,0,0] [2,5,7,8,23,24,25] (λq t H=>match Nat.beq q 2 with|true=>app 4 et (aI [2,5,7,8] t) H|false=>(λq t H=>match Nat.beq q 1 with|true=>app 4 aK (aI [2,5,6,7] t) H|false=>(λq t H=>match Nat.beq q 0 with|true=>app 1 aX (aI [5] t) H|false=>(λ_ _ _=>none) q t H) q t H) q t H)
theorem aA4 (J:JT)(G:GT)(cf:CF)(aX:K.Fn 1)(aK:K.Fn 4)(et:K.Fn 4)(Ez:K.Fn 7)(bX dD dd dY di dN bV:AV)(cw:Hp):xa P an J G cf 156 [1,1,1,0,1,0,0,1,0,0,1,0,1,0,0] [2,5,7,8,23,24,25] (λq t H=>match Nat.beq q 2 with|true=>app 4 et (aI [2,5,7,8] t) H|false=>(λq t H=>match Nat.beq q 1 with|true=>app 4 aK (aI [2,5,6,7] t) H|false=>(λq t H=>match Nat.beq q 0 with|true=>app 1 aX (aI [5] t) H|false=>(λ_ _ _=>none) q t H) q t H) q t H) Ez [bX,dD,dd,dY,di,dN,bV] cw=Pu J G cf aX aK et Ez bX dD dd dY di dN bV cw:=zzw
theorem al7 (cf:CF)(aX:K.Fn 1)(aK:K.Fn 4)(et:K.Fn 4)(bX dD dd dY di dN bV:AV)(cw:Hp):KY JN GO cf aX aK et bX dD dd dY di dN bV cw=Pu JN GO cf aX aK et (KY JN GO cf aX aK et) bX dD dd dY di dN bV cw:=abg (b:=app 7 (KY JN GO cf aX aK et) [bX,dD,dd,dY,di,dN,bV] cw) zzw ((xj cf _ _ _ _ [bX,dD,dd,dY,di,dN,bV] rfl cw).trans (aA4 JN GO cf aX aK et _ bX dD dd dY di dN bV cw))
def V3:yB 1 4:=λJ G cf aX oU bI bM ei dF bL=>B1 (aE ei) λeB=>B1 (gF eB (zi 0)) λcg=>CD cg (J 4 (λcP=>J 4 (λaK=>J 4 (λic=>B1 (aE ei) λv22=>J 4 (λet=>KY J G cf aX aK et bI bM dF .ah ei v22 (zi 0) bL) (λzH uL Xz FN HC=>ic zH uL Xz FN HC)) (λGt FG NY Xs Y4=>aK Gt FG Xs NY Y4)) (λrX vW vK CO Jm=>cP rX vW vK CO Jm)) (λwJ tN vp Hd ab0=>B1 (bc Hd (zi 1)) λAf=>oU wJ tN vp Af ab0)) (aX bM bL)
def S4:yL 1 4:=yX 156 [1,1,1,0,1,0,0] [2,5,6,7] 0 [5]
theorem ai1:yQ4 S4 V3:=yq4
def adr:yS 2:=λJ G cf a0 a1 H=>BN (bx 201 a0 H) λi0 h1=>B1 (fa 0 (.ptr i0 0)) λv2=>B1 (ld v2 h1) λv3=>B2 (B6 [(zi 0)] 3 1 v3 v3 h1) λv4 h5=>B1 (fl [(zi 0)] [(0,1,a1)]) λl6=>BN (az h5 l6 3 0) λi7 h8=>J 1 (λj9=>J 1 (λaX=>S4 J G cf aX (.ptr i0 0) v4 (.slice i7 0 1 1 true 1) (zi 1) h8) (λVk Qw=>j9 Vk Qw)) (λUE ab1=>some (UE,ab1))
theorem aqU:yC2 156 adr:=yM2
def JA:yB 3 5:=λJ G cf j9 aX bZ bI bM ei dF bL=>B1 (ba dF ei) λeB=>CD eB (J 5 (λpT=>J 5 (λcP=>J 7 (λaK=>B1 (aB 2 bZ bL) λv21=>B2 (cf (zf 156) [v21,dF] bL) λv22 du=>B1 (ia 1 v22 dF) λv24=>B1 (ld v24 du) λv25=>aK bZ bI bM dF v25 ei dF du) (λdD dd dY di dN bV fG jv=>J 8 (λvl=>B1 (gF dN (zi 0)) λv35=>G v35 true (λVF=>VF dY jv) (λv37 iO=>G v35 true (λzd=>B1 (bK v37 (zi 0)) λv40=>zd v40 iO) (λv41 dX=>G v35 true (λwH=>wH v41 dX) (λv44 jx=>G v44 false (λLB=>LB dN jx) (λiM pD=>G v44 false (λk49=>k49 dY pD) (λgH jZ=>G v44 false (λxm=>B1 (ba iM gH) λv53=>xm v53 jZ) (λiV pI=>G v35 true (λzy=>B1 (pk v44 (.bool true) iV) λv57=>zy v57 pI) (λkj tB=>B1 (pk v35 kj (.bool false)) λfE=>vl dD dd dY di dN bV fG fE tB) pI) jZ) pD) jx) dX) iO) jv) (λdm jb gT fS fM nF gS gV pV=>CD gV (cP dm fS fM nF gS pV) (cP dm jb gT nF gS pV)))) (λjm nG oc jk jf nO=>pT jm nG oc jk jf nO)) (λgM fL gB nY oI FJ=>B1 (bc oI (zi 1)) λmT=>aX gM fL gB nY mT FJ)) (j9 bZ bI bM bL)
def acm:yL 3 5:=yX 126 [1,1,1,0,1,0,0] [1,3,4,15,16] 0 [1,3,4]
theorem La:yQ5 acm JA:=yq5
def Kv (J:JT)(G:GT)(cf:CF)(kY:K.Fn 1)(mF:K.Fn 4)(mU:K.Fn 4)(Kr:K.Fn 7)(lq iX jn jI mr pB kP:AV)(lV:Hp):R:=B1 (ba kP pB) λy8=>CD y8 (J 7 (λaaZ=>B1 (ia 1 mr kP) λB0=>B1 (ld B0 lV) λDU=>J 9 (λVo=>B1 (eA DU iX) λv139=>G v139 true (λaaz=>B1 (aB 2 lq lV) λv141=>aaz v141 lV) (λzr Gy=>G v139 true (λaCB=>aCB DU Gy) (λv145 yd=>G v139 true (λawM=>B2 (cf (zf 156) [zr,v145] yd) λv148 It=>awM v148 It) (λMY GS=>G v139 true (λayN=>ayN iX GS) (λWQ z7=>G v139 true (λar8=>B1 (ia 1 MY WQ) λGz=>ar8 Gz z7) (λv157 XB=>G v139 true (λaCJ=>B1 (ld v157 XB) λv160=>aCJ v160 XB) (λaaI adQ=>G v139 true (λaxG=>axG jI adQ) (λv164 JR=>G v139 true (λaAN=>B1 (bK aaI v164) λv167=>aAN v167 JR) (λv168 at5=>B1 (pk v139 v168 (.bool false)) λNG=>Vo lq iX jn jI DU mr pB kP NG at5) JR) adQ) XB) z7) GS) yd) Gy) lV) (λwL wJ tN vp Hd abD Xp Vk aaa NX=>CD aaa (B1 (fl [(zi 0)] [(0,1,Hd)]) λXj=>BN (az NX Xj 3 0) λi182 Iz=>B2 (cL 3 1 [(zi 0)] false tN (.slice i182 0 1 1 true 1) Iz) λzZ acs=>mU wL wJ zZ vp acs) (aaZ wL wJ tN vp abD Xp Vk NX))) (λMS Mw LS KS Lc GL MK J8=>B1 (bc MK (zi 1)) λv194=>Kr MS Mw LS KS Lc GL v194 J8)) (mU lq iX jn jI lV)
def Lu (J:JT)(G:GT)(cf:CF)(kY:K.Fn 1)(mF:K.Fn 4)(mU:K.Fn 4):K.Fn 7:=CW P an J G cf 126 [1,1,1,1,1,1,0,1,0,0,1,0,0,1,0,0] [1,3,7,8,56,57,58] (λq t H=>match Nat.beq q 4 with|true=>app 4 mU (aI [1,3,7,8] t) H|false=>(λq t H=>match Nat.beq q 3 with|true=>app 4 mF (aI [1,3,7,8] t) H|false=>(λq t H=>match Nat.beq q 2 with|true=>app 1 kY (aI [7] t) H|false=>(λ_ _ _=>none) q t H) q t H) q t H)
theorem asY (J:JT)(G:GT)(cf:CF)(kY:K.Fn 1)(mF:K.Fn 4)(mU:K.Fn 4)(Kr:K.Fn 7)(lq iX jn jI mr pB kP:AV)(lV:Hp):xa P an J G cf 126 [1,1,1,1,1,1,0,1,0,0,1,0,0,1,0,0] [1,3,7,8,56,57,58] (λq t H=>match Nat.beq q 4 with|true=>app 4 mU (aI [1,3,7,8] t) H|false=>(λq t H=>match Nat.beq q 3 with|true=>app 4 mF (aI [1,3,7,8] t) H|false=>(λq t H=>match Nat.beq q 2 with|true=>app 1 kY (aI [7] t) H|false=>(λ_ _ _=>none) q t H) q t H) q t H) Kr [lq,iX,jn,jI,mr,pB,kP] lV=Kv J G cf kY mF mU Kr lq iX jn jI mr pB kP lV:=zzw
theorem Rr (cf:CF)(kY:K.Fn 1)(mF:K.Fn 4)(mU:K.Fn 4)(lq iX jn jI mr pB kP:AV)(lV:Hp):Lu JN GO cf kY mF mU lq iX jn jI mr pB kP lV=Kv JN GO cf kY mF mU (Lu JN GO cf kY mF mU) lq iX jn jI mr pB kP lV:=abg (b:=app 7 (Lu JN GO cf kY mF mU) [lq,iX,jn,jI,mr,pB,kP] lV) zzw ((xj cf _ _ _ _ [lq,iX,jn,jI,mr,pB,kP] rfl lV).trans (asY JN GO cf kY mF mU _ lq iX jn jI mr pB kP lV))
def YV:yB 1 4:=λJ G cf kY UD qL vz ud za lO=>B1 (gF za (zi 0)) λmX=>CD mX (J 4 (λaz6=>J 4 (λmF=>J 7 (λaro=>B1 (aB 2 qL lO) λqz=>B1 (aE ud) λv109=>B1 (pG v109 (zi 1)) λDd=>B1 (ia 1 ud Dd) λwz=>B1 (ld wz lO) λzu=>B2 (cf (zf 157) [qz,zu] lO) λvq MV=>B1 (aE vq) λse=>aro qL vz ud za vq se (zi 0) MV) (λqY th oJ nL oQ pZ tI JG=>J 4 (λmU=>Lu J G cf kY mF mU qY th oJ nL oQ pZ tI JG) (λCz HN Dx yV PD=>mF Cz HN Dx yV PD))) (λz8 FZ KJ Mi aAg=>az6 z8 FZ KJ Mi aAg)) (λaaE yw O0 IW ard=>B1 (pG IW (zi 1)) λv210=>UD aaE yw O0 v210 ard)) (kY ud lO)
def Wz:yL 1 4:=yX 126 [1,1,1,1,1,1,0,1,0,0] [1,3,7,8] 2 [7]
theorem an5:yQ4 Wz YV:=yq4
def aba:yS 1:=λJ G cf a0 H=>BN (bx 201 a0 H) λi0 h1=>B1 (aB 2 (.ptr i0 0) h1) λv2=>B2 (cf (zf 155) [v2] h1) λv3 h4=>B1 (dR .not v3) λv5=>CD v5 (some (.ah,h4)) (J 3 (λj6=>B1 (fa 0 (.ptr i0 0)) λv7=>B1 (ld v7 h4) λv8=>J 3 (λj9=>acm J G cf j9 (.ptr i0 0) (zi 0) (zi 0) v8 (zi 0) h4) (λkC kG lR si=>j6 kC kG lR si)) (λsX nc yT qq=>B1 (bK yT (zi 0)) λv91=>CD v91 (some (.ah,qq)) (B1 (fl [(zi 0)] [(0,1,nc)]) λl92=>BN (az qq l92 3 0) λi93 xM=>J 1 (λj95=>B1 (pG yT (zi 1)) λkE=>J 1 (λkY=>Wz J G cf kY sX nc (.slice i93 0 1 1 true 1) kE xM) (λaEl aDR=>j95 aEl aDR)) (λUX P8=>some (UX,P8)))))
theorem ame:yC1 126 aba:=yM1
def ahc:yS 1:=λJ G cf a0 H=>B1 (tW a0 (.str [])) λv0=>G v0 true (λk1=>k1 a0 H) (λv2 h3=>G v0 true (λk4=>B1 (lens v2) λv5=>k4 v5 h3) (λv6 h7=>G v0 true (λk8=>B1 (qF v6 (zi 16)) λv9=>k8 v9 h7) (λv10 eY=>B1 (pk v0 v10 (.bool false)) λv12=>G v12 true (λzF=>zF a0 eY) (λbu eM=>G v12 true (λNh=>B2 (cf (zf 91) [bu,(.str [97,98,99,100,101,102,103,104,105,106,107,108,109,110,111,112,113,114,115,116,117,118,119,120,121,122,48,49,50,51,52,53,54,55,56,57])] eM) λeB iq=>Nh eB iq) (λfy dh=>G v12 true (λwM=>B1 (seq fy (.str [])) λv22=>wM v22 dh) (λv23 gm=>B1 (pk v12 v23 (.bool false)) λv25=>some (v25,gm)) dh) eM) eY) h7) h3) H
theorem aEC:yC1 54 ahc:=yM1
def IY:yS 1:=λJ G cf a0 H=>J 1 (λj0=>B1 (lens a0) λv1=>B1 (gF v1 (zi 4)) λv2=>CD v2 (some (.tuple [(zi 0),(.bool false)],H)) (j0 a0 H)) (λx3 h4=>J 3 (λj5=>B2 (cf (zf 173) [x3] h4) λv6 h7=>B1 (ex 0 v6) λv8=>B1 (ex 1 v6) λv9=>j5 x3 v8 v9 h7) (λcH bZ bI fw=>yr (gA P .eql 183 true bI .nilIface) <| B1 (gi P .eql 183 bI .nilIface fw) λbu=>G bu true (λzP=>zP bZ fw) (λcB eC=>G bu true (λHo=>B2 (cf (zf 84) [cB] eC) λfy dh=>Ho fy dh) (λv21 iy=>G bu true (λNi=>Ni cH iy) (λv24 ep=>G bu true (λCi=>B1 (seq v21 v24) λv27=>Ci v27 ep) (λv28 dc=>B1 (pk bu v28 (.bool false)) λv30=>G v30 true (λyO=>yO bZ dc) (λv32 jv=>G v30 true (λKL=>B1 (lg v32 (zi 0)) λv35=>KL v35 jv) (λv36 gG=>B1 (pk v30 v36 (.bool false)) λgX=>some (.tuple [bZ,gX],gG)) jv) dc) ep) iy) eC) fw))
theorem LH:yC1 153 IY:=yM1
def KC (J:JT)(G:GT)(cf:CF)(eJ:K.Fn 1)(cP:K.Fn 0)(aK:K.Fn 5)(bo br bR db bX:AV)(eS:Hp):R:=B1 (ba bX db) λv27=>CD v27 (J 5 (λrU=>B1 (ia 1 bR bX) λv29=>B1 (ld v29 eS) λv30=>B2 (cf (zf 104) [br,v30] eS) λv31 cw=>B1 (ba v31 (zi 0)) λft=>CD ft (some ((.bool false),cw)) (B1 (aJ bo) λc8=>B1 (fa 1 c8) λv35=>B1 (ld v35 cw) λv36=>B1 (fl [(zi 0)] [(0,1,v31)]) λYZ=>BN (az cw YZ 3 0) λi38 fQ=>B2 (cL 3 1 [(zi 0)] false v36 (.slice i38 0 1 1 true 1) fQ) λv40 hZ=>B1 (aJ bo) λdE=>B1 (fa 1 dE) λfc=>B1 (st 1 fc v40 hZ) λeg=>rU bo br bR db bX eg)) (λik iQ gq fU gj lJ=>B1 (bc gj (zi 1)) λv51=>aK ik iQ gq fU v51 lJ)) (cP  eS)
def Jg (J:JT)(G:GT)(cf:CF)(eJ:K.Fn 1)(cP:K.Fn 0):K.Fn 5:=CW P an J G cf 118 [1,1,0,1,0,1,0,0,1,0,0] [0,3,23,24,25] (λq t H=>match Nat.beq q 1 with|true=>app 0 cP (aI [] t) H|false=>(λq t H=>match Nat.beq q 0 with|true=>app 1 eJ (aI [10] t) H|false=>(λ_ _ _=>none) q t H) q t H)
theorem awZ (J:JT)(G:GT)(cf:CF)(eJ:K.Fn 1)(cP:K.Fn 0)(aK:K.Fn 5)(bo br bR db bX:AV)(eS:Hp):xa P an J G cf 118 [1,1,0,1,0,1,0,0,1,0,0] [0,3,23,24,25] (λq t H=>match Nat.beq q 1 with|true=>app 0 cP (aI [] t) H|false=>(λq t H=>match Nat.beq q 0 with|true=>app 1 eJ (aI [10] t) H|false=>(λ_ _ _=>none) q t H) q t H) aK [bo,br,bR,db,bX] eS=KC J G cf eJ cP aK bo br bR db bX eS:=zzw
theorem PY (cf:CF)(eJ:K.Fn 1)(cP:K.Fn 0)(bo br bR db bX:AV)(eS:Hp):Jg JN GO cf eJ cP bo br bR db bX eS=KC JN GO cf eJ cP (Jg JN GO cf eJ cP) bo br bR db bX eS:=abg (b:=app 5 (Jg JN GO cf eJ cP) [bo,br,bR,db,bX] eS) zzw ((xj cf _ _ _ _ [bo,br,bR,db,bX] rfl eS).trans (awZ JN GO cf eJ cP _ bo br bR db bX eS))
def Bl:yS 4:=λJ G cf a0 a1 a2 a3 H=>J 6 (λj0=>B2 (cf (zf 153) [a2] H) λv1 h2=>B1 (ex 0 v1) λv3=>B1 (ex 1 v1) λv4=>j0 a0 a1 a2 a3 v3 v4 h2) (λx5 x6 x7 x8 x9 cH eY=>J 1 (λeD=>J 1 (λeJ=>B1 (seq x6 (.str [97,102,116,101,114])) λbu=>CD bu (J 0 (λjc=>B2 (cf (zf 88) [x7,(.str [44])] eY) λcB eC=>B1 (aE cB) λcg=>J 0 (λcP=>Jg J G cf eJ cP x5 x8 cB cg (zi 0) eC) (λjH=>jc  jH)) (λig=>some ((.bool true),ig))) (B1 (seq x6 (.str [114,101,116,114,121])) λiV=>CD iV (B1 (aJ x5) λfh=>B1 (fa 2 fh) λjB=>B1 (st 1 jB x9 eY) λoX=>eJ cH oX) (B1 (seq x6 (.str [119,97,105,116])) λkj=>CD kj (B1 (aJ x5) λv59=>B1 (fa 3 v59) λfE=>B1 (st 1 fE x9 eY) λlj=>eJ cH lj) (B1 (seq x6 (.str [98,97,115,101])) λgO=>CD gO (B1 (aJ x5) λv63=>B1 (fa 4 v63) λv64=>B1 (st 1 v64 x9 eY) λoe=>eJ cH oe) (B1 (seq x6 (.str [111,110])) λmi=>CD mi (J 1 (λLV=>B1 (aJ x5) λmn=>B1 (fa 5 mn) λml=>B1 (st 1 ml x7 eY) λuh=>LV x7 uh) (λnG nD=>B1 (tW nG (.str [])) λjg=>some (jg,nD))) (eJ cH eY)))))) (λjf nO=>eD jf nO)) (λgM JV=>some (gM,JV)))
theorem Hh:yC4 118 Bl:=yM4
def Gk:yB 2 7:=λJ G cf aK ic br bR db bX dD dd dY dc=>B1 (ba dY dd) λv30=>CD v30 (J 7 (λfD=>B1 (ia 1 dD dY) λv32=>B1 (ld v32 dc) λft=>J 10 (λvl=>B2 (cf (zf 117) [ft,(.str [61])] dc) λv35 nV=>B1 (ex 0 v35) λv37=>B1 (ex 1 v35) λgX=>B1 (ex 2 v35) λfC=>vl br bR db bX ft v37 gX dD dd dY nV) (λdK gD fZ eT kL ik iQ gq fU gj lJ=>B2 (cf (zf 104) [eT,ik] lJ) λv51 jH=>J 8 (λGK=>J 9 (λiD=>B1 (ba v51 (zi 0)) λfh=>G fh false (λzy=>zy ik jH) (λv57 jd=>G fh false (λCA=>B1 (lens v57) λfE=>CA fE jd) (λjU gU=>G fh false (λvZ=>vZ kL gU) (λv64 oe=>G fh false (λFv=>B1 (lens v64) λkc=>Fv kc oe) (λmn pV=>G fh false (λYJ=>B1 (bK jU mn) λmg=>YJ mg pV) (λv72 xw=>B1 (pk fh (.bool true) v72) λjF=>G jF false (λVM=>VM ik xw) (λv76 JV=>G jF false (λk78=>k78 iQ JV) (λnz yk=>G jF false (λZg=>Zg dK yk) (λmT po=>G jF false (λF0=>B2 (cf (zf 118) [fZ,v76,nz,mT] po) λv85 si=>F0 v85 si) (λv87 wB=>G jF false (λVY=>B1 (dR .not v87) λqh=>VY qh wB) (λv91 C7=>B1 (pk jF (.bool true) v91) λv93=>iD dK gD fZ eT v51 gq fU gj v93 C7) wB) po) yk) JV) xw) pV) oe) gU) jd) jH) (λjT jV rf nQ qV qL vz ud za lO=>CD za (B1 (fl [(.str []),.ah,(zi 0),(zi 0),(zi 0),(.str [])] []) λWe=>B1 (st 6 jV (.agg We) lO) λrL=>B1 (aB 6 jV rL) λyQ=>some (.tuple [yQ,(.bool false)],rL)) (GK jT jV rf nQ qV qL vz ud lO))) (λpA sY lP ru ub sB qm qo Et=>B1 (bc ub (zi 1)) λGY=>B1 (nK 1 ru (some GY) none none) λv117=>fD pA sY lP v117 sB qm qo Et))) (λoJ nL oQ pZ tI vn CH CP=>B1 (bc CH (zi 1)) λEZ=>ic oJ nL oQ pZ tI vn EZ CP)) (aK bR db dc)
def QI:yL 2 7:=yX 89 [1,1,1,0,1,0,0] [1,4,6,7,20,21,22] 0 [4,6]
theorem J4:yQ7 QI Gk:=yq7
def abU:yS 2:=λJ G cf a0 a1 H=>BN (az H [(.str []),.ah,(zi 0),(zi 0),(zi 0),(.str [])] 99 0) λi0 h1=>J 4 (λj2=>B1 (ia 1 a0 (zi 0)) λv3=>B1 (ld v3 h1) λv4=>B1 (fl [(.str []),.ah,(zi 0),(zi 0),(zi 0),(.str [])] [(0,1,v4),(3,1,(zi 10)),(4,1,(zi 1))]) λl5=>BN (az h1 [(.str []),.ah,(zi 0),(zi 0),(zi 0),(.str [])] 99 0) λi6 h7=>B1 (st 6 (.ptr i6 0) (.agg l5) h7) λh8=>j2 a0 a1 (.ptr i0 0) (.ptr i6 0) h8) (λx9 cH bZ bI fw=>B1 (fl [(.str []),(.str []),(.str []),(.str []),(.str [])] [(0,1,(.str [97,102,116,101,114])),(1,1,(.str [114,101,116,114,121])),(2,1,(.str [119,97,105,116])),(3,1,(.str [98,97,115,101])),(4,1,(.str [111,110]))]) λl14=>BN (az fw l14 9 0) λi15 bL=>J 2 (λoL=>B1 (nK 1 x9 (some (zi 1)) none none) λcg=>B1 (aE cg) λfy=>J 2 (λaK=>QI J G cf aK cH bZ bI (.slice i15 0 5 5 true 1) cg fy (zi 0) bL) (λiX jn Ks=>oL iX jn Ks)) (λmr pB Jv=>B1 (aB 6 pB Jv) λzQ=>B1 (st 6 mr zQ Jv) λDY=>B1 (aB 6 mr DY) λBG=>some (.tuple [BG,(.bool true)],DY)))
theorem adZ:yC2 89 abU:=yM2
def XL:yB 3 6:=λJ G cf jc bA cO bO bW dP bo br du=>B1 (ba br bo) λv24=>CD v24 (J 6 (λyP=>B1 (ia 1 dP br) λv26=>B1 (ld v26 du) λv27=>B2 (cf (zf 88) [v27,(.str [32])] du) λv28 dc=>J 7 (λAj=>B1 (fl [.ah] [(0,1,v28)]) λl31=>BN (az dc l31 46 0) λi32 jv=>B2 (cL 46 1 [.ah] false bO (.slice i32 0 1 1 true 1) jv) λc8 iU=>Aj cO c8 bW v28 dP bo br iU) (λbG cz bN eI dK gD fZ xB=>B1 (ia 1 eI (zi 0)) λv44=>B1 (ld v44 xB) λeu=>B1 (fl [(.str [])] [(0,1,eu)]) λl46=>BN (az xB l46 9 0) λi47 pD=>B2 (cL 9 1 [(.str [])] false bN (.slice i47 0 1 1 true 1) pD) λv49 lJ=>yP bG cz v49 dK gD fZ lJ)) (λiJ gK gI iF gg eQ oX=>B1 (bc eQ (zi 1)) λkj=>bA iJ gK gI iF gg kj oX)) (jc cO bO bW du)
def Z8:yL 3 6:=yX 53 [1,1,1,1,0,1,0,0] [2,4,5,20,21,22] 0 [2,4,5]
theorem ale:yQ6 Z8 XL:=yq6
def KZ:yB 2 6:=λJ G cf xI BR jk jf jR gM fL gB iH=>B1 (ba gB fL) λv80=>CD v80 (J 6 (λj81=>B1 (ia 1 gM gB) λmT=>B1 (ld mT iH) λlB=>J 8 (λWd=>B2 (cf (zf 89) [lB,jf] iH) λv85 si=>B1 (ex 0 v85) λv87=>B1 (ex 1 v85) λqN=>BN (az si [(.str []),.ah,(zi 0),(zi 0),(zi 0),(.str [])] 99 0) λi89 qq=>B1 (st 6 (.ptr i89 0) v87 qq) λzL=>Wd jk jf jR (.ptr i89 0) qN gM fL gB zL) (λkF nC jT jV rf nQ qV qL yi=>J 7 (λAx=>B1 (dR .not rf) λql=>CD ql (B1 (fl [.ah] []) λaxh=>B1 (st 1 kF (.agg axh) yi) λGQ=>B1 (aB 1 kF GQ) λv105=>some (.tuple [v105,(zi 2)],GQ)) (Ax kF nC jT jV nQ qV qL yi)) (λrG pA sY lP ru ub sB EN=>B1 (fa 0 sY) λwZ=>B1 (ld wZ EN) λse=>B1 (aB 6 lP EN) λGY=>B1 (fl [(.str []),.ah,(zi 0),(zi 0),(zi 0),(.str [])] [(0,6,GY)]) λay0=>BN (az EN ay0 99 0) λi118 Yx=>B2 (cL 99 6 [(.str []),.ah,(zi 0),(zi 0),(zi 0),(.str [])] false se (.slice i118 0 1 1 true 6) Yx) λKX QY=>B1 (fa 0 sY) λyE=>B1 (st 1 yE KX QY) λJG=>j81 rG pA sY ru ub sB JG))) (λCH KU lq iX jn jI aai=>B1 (bc jI (zi 1)) λv131=>BR CH KU lq iX jn v131 aai)) (xI jk jR iH)
def Tu:yL 2 6:=yX 53 [1,1,1,1,1,1,0,1,0,0] [2,5,9,39,40,41] 2 [2,9]
theorem St:yQ6 Tu KZ:=yq6
def JK:yS 1:=λJ G cf a0 H=>BN (az H [.ah] 72 0) λi0 h1=>J 2 (λj2=>B1 (lens a0) λv3=>B1 (gF v3 (zi 1024)) λv4=>CD v4 (B1 (fl [.ah] []) λl5=>B1 (st 1 (.ptr i0 0) (.agg l5) h1) λh6=>B1 (aB 1 (.ptr i0 0) h6) λv7=>some (.tuple [v7,(zi 14)],h6)) (j2 a0 (.ptr i0 0) h1)) (λx8 x9 cu=>J 3 (λoU=>B2 (cf (zf 88) [x8,(.str [59])] cu) λv12 fw=>B1 (aE v12) λbu=>J 3 (λjc=>Z8 J G cf jc x9 .ah .ah v12 bu (zi 0) fw) (λdI eF dm gU=>oU dI eF dm gU)) (λgT fS fM eP=>BN (az eP [.ah] 72 0) λi67 qG=>J 2 (λJw=>B1 (aE fS) λv70=>J 2 (λxI=>Tu J G cf xI gT fM (.ptr i67 0) fS v70 (zi 0) qG) (λkP yj DY=>Jw kP yj DY)) (λua pX G7=>J 2 (λVo=>B1 (aB 1 pX G7) λv139=>B2 (cf (zf 90) [v139] G7) λCX uE=>B1 (eA CX (zi 0)) λzr=>CD zr (B1 (fl [.ah] []) λatS=>B1 (st 1 ua (.agg atS) uE) λDC=>B1 (aB 1 ua DC) λv145=>some (.tuple [v145,CX],DC)) (Vo ua pX uE)) (λIi Cv Kz=>B1 (aB 1 Cv Kz) λNS=>B1 (st 1 Ii NS Kz) λFg=>B1 (aB 1 Ii Fg) λasU=>some (.tuple [asU,(zi 0)],Fg)))))
theorem N6:yC1 53 JK:=yM1
def aeS:yS 3:=λJ G cf a0 a1 a2 H=>B1 (lg a0 a1) λv0=>G v0 true (λk1=>k1 a0 H) (λv2 h3=>G v0 true (λk4=>k4 a2 h3) (λv5 h6=>G v0 true (λk7=>B1 (qF v2 v5) λv8=>k7 v8 h6) (λv9 cu=>B1 (pk v0 v9 (.bool false)) λv11=>some (v11,cu)) h6) h3) H
theorem aDQ:yC3 119 aeS:=yM3
def TW:yB 0 4:=λJ G cf j6 j7 x8 x9 cH bZ ez=>B1 (ba bZ cH) λcY=>CD cY (J 4 (λeN=>J 6 (λjc=>B1 (ia 6 x9 bZ) λcB=>B1 (aB 6 cB ez) λeB=>BN (az ez [(.str []),.ah,(zi 0),(zi 0),(zi 0),(.str [])] 99 0) λi18 dZ=>B1 (st 6 (.ptr i18 0) eB dZ) λdh=>jc x8 bZ (.ptr i18 0) x9 cH bZ dh) (λbo br bR db bX dD eX=>B1 (aB 6 bR eX) λv28=>B2 (cf bo [br,v28] eX) λv29 iT=>CD v29 (some ((.bool true),iT)) (eN bo db bX dD iT))) (λbV fG fA dV iU=>B1 (bc dV (zi 1)) λv36=>j7 bV fG fA v36 iU)) (j6  ez)
def V6:yL 0 4:=yX 125 [1,0,1,0,0] [1,8,9,10] 0 []
theorem WZ:yQ4 V6 TW:=yq4
def agF:yS 2:=λJ G cf a0 a1 H=>BN (bx 72 a0 H) λi0 h1=>J 0 (λj2=>B1 (fa 0 (.ptr i0 0)) λv3=>B1 (ld v3 h1) λv4=>B1 (aE v4) λv5=>J 0 (λj6=>V6 J G cf j6 a1 v4 v5 (zi 0) h1) (λgG=>j2  gG)) (λiO=>some ((.bool false),iO))
theorem axq:yC2 125 agF:=yM2
def SW:yB 1 4:=λJ G cf gY Ma cz bN eI dK hZ=>B1 (ba dK eI) λdE=>CD dE (J 4 (λLx=>B1 (ia 2 bN dK) λv44=>B1 (aB 2 v44 hZ) λeu=>BN (az hZ [.nilFunc,(zi 0)] 194 0) λi46 oz=>B1 (st 2 (.ptr i46 0) eu oz) λpD=>B1 (aB 1 cz pD) λv49=>B1 (fa 0 (.ptr i46 0)) λgH=>B1 (ld gH pD) λv51=>B2 (cf (zf 125) [v49,v51] pD) λgP ig=>CD gP (B1 (fa 1 (.ptr i46 0)) λiV=>B1 (ld iV ig) λfh=>some (fh,ig)) (Lx cz bN eI dK ig)) (λeQ fB eZ dI qE=>B1 (bc dI (zi 1)) λjU=>Ma eQ fB eZ jU qE)) (gY cz hZ)
def Np:yL 1 4:=yX 90 [1,1,1,0,1,0,0] [1,18,19,20] 0 [1]
theorem afl:yQ4 Np SW:=yq4
def Ee:yS 1:=λJ G cf a0 H=>BN (bx 72 a0 H) λi0 h1=>J 1 (λj2=>J 2 (λj3=>B1 (fa 0 (.ptr i0 0)) λv4=>B1 (ld v4 h1) λv5=>B1 (aE v5) λv6=>B2 (cf (zf 119) [v6,(zi 1),(zi 16)] h1) λv7 h8=>B1 (dR .not v7) λv9=>j3 (.ptr i0 0) v9 h8) (λcH bZ ez=>CD bZ (some ((zi 1),ez)) (j2 cH ez))) (λbM iG=>BN (BV iG) λi15 bL=>BN (az bL [.lG] 192 0) λi17 iq=>B1 (st 1 (.ptr i17 0) (.map i15) iq) λdZ=>J 1 (λaK=>J 4 (λic=>B1 (fl [.nilFunc,(zi 0)] [(0,1,(zf 120)),(1,1,(zi 2))]) λVG=>B1 (fl [.nilFunc,(zi 0)] [(0,1,(.func (.func 121) [] [(.ptr i17 0)])),(1,1,(zi 5))]) λl23=>B1 (fl [.nilFunc,(zi 0)] [(0,1,(zf 122)),(1,1,(zi 1))]) λZ1=>B1 (fl [.nilFunc,(zi 0)] [(0,1,(.func (.func 123) [] [bM])),(1,1,(zi 1))]) λl25=>B1 (fl [.nilFunc,(zi 0),.nilFunc,(zi 0),.nilFunc,(zi 0),.nilFunc,(zi 0)] [(0,2,(.agg VG)),(2,2,(.agg l23)),(4,2,(.agg Z1)),(6,2,(.agg l25))]) λl26=>BN (az dZ l26 194 0) λi27 iz=>B1 (aE (.slice i27 0 4 4 true 2)) λv29=>ic bM (.slice i27 0 4 4 true 2) v29 (zi 0) iz) (λdN bV fG fA iI=>J 1 (λgY=>Np J G cf gY dN bV fG fA iI) (λjb Ak=>aK jb Ak))) (λfS oe=>J 0 (λj66=>J 1 (λLV=>B1 (aB 1 fS oe) λmn=>B2 (cf (zf 127) [mn] oe) λml uh=>B2 (cf (zf 126) [ml] uh) λmg nD=>B1 (aE mg) λjg=>B1 (gF jg (zi 0)) λjF=>LV jF nD) (λjR jO=>CD jR (some ((zi 7),jO)) (j66  jO))) (λJV=>some ((zi 0),JV))))
theorem Je:yC1 90 Ee:=yM1
def ac9:yS 2:=λJ G cf a0 a1 H=>BN (bx 99 a1 H) λi0 h1=>B1 (fa 0 (.ptr i0 0)) λv2=>B1 (ld v2 h1) λv3=>B2 (cf (zf 54) [v3] h1) λv4 h5=>B1 (dR .not v4) λv6=>G v6 false (λk7=>B1 (fa 5 (.ptr i0 0)) λv8=>k7 v8 h5) (λv9 cu=>G v6 false (λCS=>B1 (ld v9 cu) λv12=>CS v12 cu) (λcY iG=>G v6 false (λzP=>B1 (tW cY (.str [])) λcB=>zP cB iG) (λeB iq=>G v6 false (λPg=>Pg eB iq) (λv20 kU=>G v20 true (λGG=>B1 (fa 5 (.ptr i0 0)) λv23=>GG v23 kU) (λv24 ep=>G v20 true (λCi=>B1 (ld v24 ep) λv27=>Ci v27 ep) (λv28 dc=>G v20 true (λyA=>B2 (cf (zf 54) [v28] dc) λv31 cw=>yA v31 cw) (λft iI=>G v20 true (λwq=>B1 (dR .not ft) λv36=>wq v36 iI) (λv37 iO=>G v6 false (λzd=>B1 (pk v20 v37 (.bool false)) λv40=>zd v40 iO) (λv41 dX=>B1 (pk v6 (.bool true) v41) λfc=>some (fc,dX)) iO) iI) dc) ep) kU) iq) iG) cu) h5
theorem azC:yC2 120 ac9:=yM2
def XJ:yS 3:=λJ G cf a0 a1 a2 H=>BN (bx 99 a1 H) λi0 h1=>J 3 (λj2=>B1 (ld a2 h1) λv3=>B1 (fa 0 (.ptr i0 0)) λv4=>B1 (ld v4 h1) λv5=>B1 (tv .str (.bool false) false v3 v5 h1) λv6=>j2 a2 (.ptr i0 0) v6 h1) (λx7 x8 x9 cu=>B1 (ld x7 cu) λv11=>B1 (fa 0 x8) λv12=>B1 (ld v12 cu) λcY=>B1 (zg .str v11 cY (.bool true) cu) λiG=>some (x9,iG))
theorem akJ (h:XJ JN GO cK a0 a1 a2 H=some r):cK (.func (.func 121) [] [a2]) [a0,a1] H=some r:=vY (first:=[]) (cap:=[a2]) (abg zzw h)
def afF:yS 2:=λJ G cf a0 a1 H=>BN (bx 99 a1 H) λi0 h1=>B1 (fa 2 (.ptr i0 0)) λv2=>B1 (ld v2 h1) λv3=>B2 (cf (zf 119) [v3,(zi 0),(zi 8)] h1) λv4 h5=>B1 (dR .not v4) λv6=>G v6 false (λk7=>B1 (fa 3 (.ptr i0 0)) λv8=>k7 v8 h5) (λv9 cu=>G v6 false (λCS=>B1 (ld v9 cu) λv12=>CS v12 cu) (λcY iG=>G v6 false (λzP=>B2 (cf (zf 119) [cY,(zi 1),(zi 1000)] iG) λcB eC=>zP cB eC) (λcg dZ=>G v6 false (λLG=>B1 (dR .not cg) λv21=>LG v21 dZ) (λv22 du=>B1 (pk v6 (.bool true) v22) λv24=>G v24 false (λyI=>B1 (fa 4 (.ptr i0 0)) λv26=>yI v26 du) (λv27 iz=>G v24 false (λNt=>B1 (ld v27 iz) λv30=>Nt v30 iz) (λv31 cw=>G v24 false (λCV=>B2 (cf (zf 119) [v31,(zi 1),(zi 1000)] cw) λc8 iU=>CV c8 iU) (λv36 gG=>G v24 false (λyM=>B1 (dR .not v36) λfC=>yM fC gG) (λv40 hZ=>B1 (pk v24 (.bool true) v40) λdE=>some (dE,hZ)) gG) cw) iz) du) dZ) iG) cu) h5
theorem ap0:yC2 122 afF:=yM2
def ajB:yS 3:=λJ G cf a0 a1 a2 H=>BN (bx 99 a1 H) λi0 h1=>B1 (aB 1 a2 h1) λv2=>B1 (fa 1 (.ptr i0 0)) λv3=>B1 (ld v3 h1) λv4=>B2 (cf (zf 124) [v2,a0,v4] h1) λv5 h6=>B1 (dR .not v5) λv7=>some (v7,h6)
theorem avl (h:ajB JN GO cK a0 a1 a2 H=some r):cK (.func (.func 123) [] [a2]) [a0,a1] H=some r:=vY (first:=[]) (cap:=[a2]) (abg zzw h)
def IA:yB 0 6:=λJ G cf j4 j5 x6 x7 x8 x9 cH bZ ez=>B1 (ba bZ cH) λcY=>CD cY (J 6 (λeN=>J 8 (λjc=>B1 (ia 1 x9 bZ) λcB=>B1 (ld cB ez) λeB=>jc x6 x7 x8 bZ eB x9 cH bZ ez) (λbO bW dP bo br bR db bX eS=>J 7 (λzW=>B1 (fa 0 dP) λv28=>B1 (ld v28 eS) λv29=>B1 (aE v29) λv30=>B1 (pG v30 (zi 1)) λv31=>B2 (cf (zf 119) [br,(zi 0),v31] eS) λv32 jv=>B1 (dR .not v32) λc8=>G c8 false (λwq=>wq br jv) (λv36 gG=>G c8 false (λyM=>yM bO gG) (λfC mM=>G c8 false (λk41=>B1 (bK v36 fC) λdE=>k41 dE mM) (λfc eg=>B1 (pk c8 (.bool true) fc) λeu=>G eu false (λLB=>LB bW eg) (λiM pD=>G eu false (λk49=>k49 bo pD) (λgH jZ=>G eu false (λxm=>B1 (nK 1 iM none (some gH) none) λv53=>xm v53 jZ) (λiV pI=>G eu false (λzy=>zy br pI) (λv57 jd=>G eu false (λCA=>B2 (cf (zf 154) [iV,v57] jd) λfE lj=>CA fE lj) (λgO Ak=>B1 (pk eu (.bool true) gO) λv64=>zW bO bW dP bR db bX v64 Ak) jd) pI) jZ) pD) eg) mM) gG) jv) (λfM nF gS gV kX jm nG nD=>CD nG (some ((.bool false),nD)) (eN fM nF gS gV kX jm nD)))) (λjk jf jR gM fL gB iH=>B1 (bc gB (zi 1)) λv80=>j5 jk jf jR gM fL v80 iH)) (j4  ez)
def XA:yL 0 6:=yX 124 [1,0,1,0,0] [1,2,3,9,10,11] 0 []
theorem akh:yQ6 XA IA:=yq6
def adS:yS 3:=λJ G cf a0 a1 a2 H=>BN (bx 72 a0 H) λi0 h1=>J 0 (λj2=>B1 (aE a2) λv3=>J 0 (λj4=>XA J G cf j4 a1 a2 (.ptr i0 0) a2 v3 (zi 0) h1) (λFJ=>j2  FJ)) (λsL=>some ((.bool true),sL))
theorem aCF:yC3 124 adS:=yM3
def Nn (J:JT)(G:GT)(cf:CF)(aX:K.Fn 1)(aK:K.Fn 5)(fP:K.Fn 7)(p9:K.Fn 10)(dV cN bG cz bN eI dK gD fZ eT:AV)(eg:Hp):R:=B1 (ba eT fZ) λeu=>CD eu (J 10 (λOm=>J 12 (λBQ=>B1 (ia 1 gD eT) λfO=>B1 (ld fO eg) λv49=>BQ dV cN bG cz eT v49 bN eI dK gD fZ eT eg) (λie iJ gK gI iF gg eQ fB eZ dI eF dm gU=>J 11 (λHU=>B1 (bK iF (zi 0)) λv64=>CD v64 (B1 (uN gI (.str [32,97,102,116,101,114,61])) λgf=>HU ie iJ gK gf gg eQ fB eZ dI eF dm gU) (B1 (uN gI (.str [44])) λmi=>HU ie iJ gK mi gg eQ fB eZ dI eF dm gU)) (λgS gV kX jm nG oc jk jf jR gM fL tS=>B1 (fa 0 gS) λnz=>B1 (ld nz tS) λv80=>B1 (ia 6 v80 nG) λkV=>B1 (fa 0 kV) λmT=>B1 (ld mT tS) λlB=>B1 (uN jm lB) λCe=>Om gS gV kX Ce oc jk jf jR gM fL tS))) (λlR oR sX nc yT AH wj kF nC jT nI=>B1 (bc jT (zi 1)) λkE=>p9 lR oR sX nc yT AH wj kF nC kE nI)) (fP dV cN bG cz bN eI dK eg)
def LM (J:JT)(G:GT)(cf:CF)(aX:K.Fn 1)(aK:K.Fn 5)(fP:K.Fn 7):K.Fn 10:=CW P an J G cf 55 [1,1,1,0,1,0,0,1,1,0,0,1,1,0,1,0,0] [1,3,5,6,13,14,15,22,23,24] (λq t H=>match Nat.beq q 2 with|true=>app 7 fP (aI [1,3,5,6,13,14,15] t) H|false=>(λq t H=>match Nat.beq q 1 with|true=>app 5 aK (aI [1,3,13,14,15] t) H|false=>(λq t H=>match Nat.beq q 0 with|true=>app 1 aX (aI [3] t) H|false=>(λ_ _ _=>none) q t H) q t H) q t H)
theorem awG (J:JT)(G:GT)(cf:CF)(aX:K.Fn 1)(aK:K.Fn 5)(fP:K.Fn 7)(p9:K.Fn 10)(dV cN bG cz bN eI dK gD fZ eT:AV)(eg:Hp):xa P an J G cf 55 [1,1,1,0,1,0,0,1,1,0,0,1,1,0,1,0,0] [1,3,5,6,13,14,15,22,23,24] (λq t H=>match Nat.beq q 2 with|true=>app 7 fP (aI [1,3,5,6,13,14,15] t) H|false=>(λq t H=>match Nat.beq q 1 with|true=>app 5 aK (aI [1,3,13,14,15] t) H|false=>(λq t H=>match Nat.beq q 0 with|true=>app 1 aX (aI [3] t) H|false=>(λ_ _ _=>none) q t H) q t H) q t H) p9 [dV,cN,bG,cz,bN,eI,dK,gD,fZ,eT] eg=Nn J G cf aX aK fP p9 dV cN bG cz bN eI dK gD fZ eT eg:=zzw
theorem X0 (cf:CF)(aX:K.Fn 1)(aK:K.Fn 5)(fP:K.Fn 7)(dV cN bG cz bN eI dK gD fZ eT:AV)(eg:Hp):LM JN GO cf aX aK fP dV cN bG cz bN eI dK gD fZ eT eg=Nn JN GO cf aX aK fP (LM JN GO cf aX aK fP) dV cN bG cz bN eI dK gD fZ eT eg:=abg (b:=app 10 (LM JN GO cf aX aK fP) [dV,cN,bG,cz,bN,eI,dK,gD,fZ,eT] eg) zzw ((xj cf _ _ _ _ [dV,cN,bG,cz,bN,eI,dK,gD,fZ,eT] rfl eg).trans (awG JN GO cf aX aK fP _ dV cN bG cz bN eI dK gD fZ eT eg))
def Tx:yB 1 5:=λJ G cf aX oU bI bM ei dF bU eC=>B1 (ba bU dF) λcg=>CD cg (J 5 (λcP=>J 5 (λaK=>B1 (ia 6 ei bU) λv21=>B1 (aB 6 v21 eC) λv22=>BN (az eC [(.str []),.ah,(zi 0),(zi 0),(zi 0),(.str [])] 99 0) λi23 gm=>B1 (st 6 (.ptr i23 0) v22 gm) λep=>B1 (fa 0 (.ptr i23 0)) λv26=>B1 (ld v26 ep) λv27=>J 7 (λrU=>B1 (fa 1 (.ptr i23 0)) λv29=>B1 (ld v29 ep) λv30=>B1 (aE v30) λv31=>J 7 (λfP=>LM J G cf aX aK fP bI bM (.ptr i23 0) v27 ei dF bU v30 v31 (zi 0) ep) (λnQ qV qL vz ud za zV GQ=>rU nQ qV qL vz ud za zV GQ)) (λzz rG pA sY lP ru ub uD=>J 7 (λawm=>B1 (fa 2 pA) λwZ=>B1 (ld wZ uD) λse=>B2 (cf (zf 92) [(.str [32,114,101,116,114,121,61]),se,(zi 0)] uD) λGY Bi=>B1 (fa 3 pA) λxC=>B1 (ld xC Bi) λxS=>B2 (cf (zf 92) [(.str [32,119,97,105,116,61]),xS,(zi 10)] Bi) λKX QY=>B1 (uN GY KX) λyE=>B1 (fa 4 pA) λwI=>B1 (ld wI QY) λv124=>B2 (cf (zf 92) [(.str [32,98,97,115,101,61]),v124,(zi 1)] QY) λrH Bh=>B1 (uN yE rH) λv127=>B1 (uN sY v127) λEV=>B1 (ld xC uD) λGw=>SM xS Gw <| B1 (ld wI uD) λv130=>SM v124 v130 <| B1 (ld wI Bi) λv131=>SM v124 v131 <| awm zz rG pA EV lP ru ub Bh) (λkP yj zI ua pX tT wh xT=>J 6 (λaoK=>B1 (fa 5 zI) λv141=>B1 (ld v141 xT) λzr=>B1 (tW zr (.str [])) λv143=>CD v143 (B1 (fa 5 zI) λC8=>B1 (ld C8 xT) λv145=>B1 (uN (.str [32,111,110,61]) v145) λv146=>B1 (uN ua v146) λDt=>aoK kP yj Dt pX tT wh xT) (aoK kP yj ua pX tT wh xT)) (λCk xL yY rM pR yl z7=>B1 (fl [(.str [])] [(0,1,yY)]) λau4=>BN (az z7 au4 9 0) λi156 U6=>B2 (cL 9 1 [(.str [])] false xL (.slice i156 0 1 1 true 1) U6) λGI Ch=>aK Ck GI rM pR yl Ch)))) (λFN Zj Gt FG NY JR=>cP FN Zj Gt FG NY JR)) (λXx rX vW vK CO Jm=>B1 (bc CO (zi 1)) λEG=>oU Xx rX vW vK EG Jm)) (aX bM eC)
def aa0:yL 1 5:=yX 55 [1,1,1,0,1,0,0] [1,3,13,14,15] 0 [3]
theorem acX:yQ5 aa0 Tx:=yq5
def acp:yS 1:=λJ G cf a0 H=>BN (bx 72 a0 H) λi0 h1=>B1 (aB 1 (.ptr i0 0) h1) λv2=>B2 (cf (zf 90) [v2] h1) λv3 h4=>B1 (eA v3 (zi 0)) λv5=>CD v5 (some ((.str []),h4)) (J 1 (λj6=>B1 (fa 0 (.ptr i0 0)) λv7=>B1 (ld v7 h4) λv8=>B1 (aE v8) λv9=>J 1 (λaX=>aa0 J G cf aX (.ptr i0 0) .ah v8 v9 (zi 0) h4) (λtN aAQ=>j6 tN aAQ)) (λHd ab0=>B2 (cf (zf 85) [Hd,(.str [59])] ab0) λAf vj=>some (Af,vj)))
theorem afK:yC1 55 acp:=yM1
def XD:yS 3:=λJ G cf a0 a1 a2 H=>B1 (bK a1 a2) λv0=>CD v0 (some ((.str []),H)) (B2 (cf (zf 84) [a1] H) λv1 h2=>B1 (uN a0 v1) λv3=>some (v3,h2))
theorem ahg:yC3 92 XD:=yM3
def UA (J:JT)(G:GT)(cf:CF)(aK:K.Fn 2)(fD:K.Fn 6)(my:K.Fn 6)(rC:K.Fn 10)(gK gI iF gg eQ fB eZ dI eF dm:AV)(gU:Hp):R:=B1 (ba dm eF) λv63=>CD v63 (J 10 (λj64=>J 10 (λj65=>B1 (ia 1 dI dm) λmi=>B1 (ld mi gU) λkc=>J 12 (λY2=>B1 (fl [(zi 0),(zi 0)] [(0,1,kc),(1,1,gg)]) λl69=>BN (az gU [(zi 0),(zi 0)] 231 0) λi70 jW=>B1 (st 2 (.ptr i70 0) (.agg l69) jW) λnD=>Y2 gK gI iF gg kc (.ptr i70 0) eQ fB eZ dI eF dm nD) (λjk jf jR gM fL gB nY oI lU nB kC kG oO=>J 12 (λFk=>B1 (fa 0 jk) λv87=>B1 (ld v87 oO) λqN=>B1 (aE qN) λoC=>B1 (pG oC (zi 1)) λqh=>B2 (cf (zf 119) [fL,(zi 0),qh] oO) λv91 C7=>G v91 true (λRu=>Ru fL C7) (λuj nI=>G v91 true (λk96=>k96 gM nI) (λBK DH=>G v91 true (λYt=>B1 (eA uj BK) λtV=>Yt tV DH) (λwT uM=>B1 (pk v91 wT (.bool false)) λxx=>G xx true (λabj=>B1 (fa 1 jR) λv105=>abj v105 uM) (λyQ Cf=>G xx true (λatL=>B1 (ld yQ Cf) λv109=>atL v109 Cf) (λDd HO=>G xx true (λaqI=>B1 (aB 2 gB HO) λvq=>aqI vq HO) (λwZ Et=>G xx true (λaub=>B2 (cf (zf 158) [Dd,wZ] Et) λv117 Dy=>aub v117 Dy) (λxS zM=>G xx true (λX1=>B1 (dR .not xS) λyE=>X1 yE zM) (λwI rr=>B1 (pk xx wI (.bool false)) λrH=>Fk jk jf jR gM gB nY oI lU nB kC kG rH rr) zM) Et) HO) Cf) uM) DH) nI) C7) (λlq iX jn jI mr pB kP yj zI ua pX tT HK=>CD tT (B1 (fa 1 jn) λv139=>B1 (ld v139 HK) λCX=>B1 (aB 2 mr HK) λv141=>B1 (fl [(zi 0),(zi 0)] [(0,2,v141)]) λaA1=>BN (az HK aA1 231 0) λi143 DC=>B2 (cL 231 2 [(zi 0),(zi 0)] false CX (.slice i143 0 1 1 true 2) DC) λv145 yd=>B1 (fa 1 jn) λDt=>B1 (st 1 Dt v145 yd) λKz=>j65 lq iX jn jI pB kP yj zI ua pX Kz) (j65 lq iX jn jI pB kP yj zI ua pX HK)))) (λxL yY rM pR yl xW MD Ag zH uL Ch=>j64 xL yY rM pR yl xW MD Ag zH uL Ch)) (λFN Zj Gt FG NY Xs Xx rX vW vK aCW=>B1 (bc vK (zi 1)) λv171=>rC FN Zj Gt FG NY Xs Xx rX vW v171 aCW)) (my gK gI iF eQ fB eZ gU)
def NJ (J:JT)(G:GT)(cf:CF)(aK:K.Fn 2)(fD:K.Fn 6)(my:K.Fn 6):K.Fn 10:=CW P an J G cf 127 [1,1,0,1,0,0,1,1,0,0,1,1,0,0] [1,2,3,4,14,15,16,22,23,24] (λq t H=>match Nat.beq q 2 with|true=>app 6 my (aI [1,2,3,14,15,16] t) H|false=>(λq t H=>match Nat.beq q 1 with|true=>app 6 fD (aI [1,2,3,14,15,16] t) H|false=>(λq t H=>match Nat.beq q 0 with|true=>app 2 aK (aI [2,3] t) H|false=>(λ_ _ _=>none) q t H) q t H) q t H)
theorem aDE (J:JT)(G:GT)(cf:CF)(aK:K.Fn 2)(fD:K.Fn 6)(my:K.Fn 6)(rC:K.Fn 10)(gK gI iF gg eQ fB eZ dI eF dm:AV)(gU:Hp):xa P an J G cf 127 [1,1,0,1,0,0,1,1,0,0,1,1,0,0] [1,2,3,4,14,15,16,22,23,24] (λq t H=>match Nat.beq q 2 with|true=>app 6 my (aI [1,2,3,14,15,16] t) H|false=>(λq t H=>match Nat.beq q 1 with|true=>app 6 fD (aI [1,2,3,14,15,16] t) H|false=>(λq t H=>match Nat.beq q 0 with|true=>app 2 aK (aI [2,3] t) H|false=>(λ_ _ _=>none) q t H) q t H) q t H) rC [gK,gI,iF,gg,eQ,fB,eZ,dI,eF,dm] gU=UA J G cf aK fD my rC gK gI iF gg eQ fB eZ dI eF dm gU:=zzw
theorem agX (cf:CF)(aK:K.Fn 2)(fD:K.Fn 6)(my:K.Fn 6)(gK gI iF gg eQ fB eZ dI eF dm:AV)(gU:Hp):NJ JN GO cf aK fD my gK gI iF gg eQ fB eZ dI eF dm gU=UA JN GO cf aK fD my (NJ JN GO cf aK fD my) gK gI iF gg eQ fB eZ dI eF dm gU:=abg (b:=app 10 (NJ JN GO cf aK fD my) [gK,gI,iF,gg,eQ,fB,eZ,dI,eF,dm] gU) zzw ((xj cf _ _ _ _ [gK,gI,iF,gg,eQ,fB,eZ,dI,eF,dm] rfl gU).trans (aDE JN GO cf aK fD my _ gK gI iF gg eQ fB eZ dI eF dm gU))
def Vx:yB 2 6:=λJ G cf aK ic br bR db bX dD dd iz=>B1 (ba dd dD) λv29=>CD v29 (J 6 (λAj=>J 6 (λfD=>J 8 (λfP=>B1 (ia 6 bX dd) λft=>B1 (aB 6 ft iz) λc8=>BN (az iz [(.str []),.ah,(zi 0),(zi 0),(zi 0),(.str [])] 99 0) λi35 nV=>B1 (st 6 (.ptr i35 0) c8 nV) λgG=>fP br bR db dd (.ptr i35 0) bX dD dd gG) (λbN eI dK gD fZ eT kL ik iL=>B1 (fa 1 fZ) λiM=>B1 (ld iM iL) λfO=>B1 (aE fO) λv49=>J 6 (λmy=>NJ J G cf aK fD my bN eI dK gD eT kL ik fO v49 (zi 0) iL) (λwJ tN vp Hd abD Xp vj=>fD wJ tN vp Hd abD Xp vj))) (λaaa UE aB7 ayW axV aEj acs=>Aj aaa UE aB7 ayW axV aEj acs)) (λMS Mw LS KS Lc GL Tj=>B1 (bc GL (zi 1)) λv193=>ic MS Mw LS KS Lc v193 Tj)) (aK bR db iz)
def ZB:yL 2 6:=yX 127 [1,1,0,1,0,0] [1,2,3,14,15,16] 0 [2,3]
theorem afS:yQ6 ZB Vx:=yq6
def ao5:yS 1:=λJ G cf a0 H=>BN (bx 72 a0 H) λi0 h1=>BN (az h1 [(zi 0),.ah] 201 0) λi2 h3=>J 3 (λj4=>B1 (fa 0 (.ptr i0 0)) λv5=>B1 (ld v5 h3) λv6=>B1 (aE v6) λv7=>B1 (fl [(zi 0),.ah] [(0,1,v7)]) λl8=>BN (az h3 [(zi 0),.ah] 201 0) λi9 cu=>B1 (st 2 (.ptr i9 0) (.agg l8) cu) λeY=>j4 (.ptr i0 0) (.ptr i2 0) (.ptr i9 0) eY) (λbI bM ei eM=>J 2 (λbA=>B1 (fa 0 bI) λeB=>B1 (ld eB eM) λcg=>B1 (aE cg) λfy=>J 2 (λaK=>ZB J G cf aK bI bM ei cg fy (zi 0) eM) (λNZ Cz aCm=>bA NZ Cz aCm)) (λDx yV PD=>B1 (aB 2 yV PD) λarV=>B1 (st 2 Dx arV PD) λFa=>B1 (aB 2 Dx Fa) λacL=>some (acL,Fa)))
theorem atz:yC1 127 ao5:=yM1
def WG:yS 1:=λJ G cf a0 H=>BN (bx 72 a0 H) λi0 h1=>BN (az h1 [.ah,(zi 0),.ah,.ah] 75 0) λi2 h3=>J 2 (λj4=>B1 (aB 1 (.ptr i0 0) h3) λv5=>B2 (cf (zf 90) [v5] h3) λv6 h7=>B1 (eA v6 (zi 0)) λv8=>CD v8 (B1 (fl [.ah,(zi 0),.ah,.ah] []) λl9=>B1 (st 4 (.ptr i2 0) (.agg l9) h7) λcu=>B1 (aB 4 (.ptr i2 0) cu) λv11=>some (.tuple [v11,v6],cu)) (j4 (.ptr i0 0) (.ptr i2 0) h7)) (λbI bM iG=>J 2 (λjc=>B1 (aB 1 bI iG) λcB=>B1 (fa 0 bI) λeB=>B1 (ld eB iG) λcg=>B1 (aE cg) λfy=>B2 (B6 [(zi 0),(zi 0),(zi 0),(.str [])] 132 4 fy fy iG) λv20 kU=>B1 (fl [.ah,(zi 0),.ah,.ah] [(0,1,cB),(2,1,v20)]) λVG=>B2 (cf (zf 97) [(.agg VG)] kU) λv23 gm=>BN (az gm [.ah,(zi 0),.ah,.ah] 75 0) λi25 eS=>B1 (st 4 (.ptr i25 0) v23 eS) λeX=>B1 (aB 1 bI kU) λv28=>SM cB v28 <| jc bM (.ptr i25 0) eX) (λdi dN hJ=>B2 (cf (zf 106) [dN] hJ) λv32 jv=>B1 (aB 4 dN jv) λc8=>B1 (st 4 di c8 jv) λiU=>B1 (aB 4 di iU) λv36=>some (.tuple [v36,(zi 0)],iU)))
theorem adI:yC1 76 WG:=yM1
def aco:yB 2 5:=λJ G cf rU Ns dN bV fG fA dV iU=>B1 (ba dV fA) λv36=>CD v36 (J 5 (λMU=>J 7 (λLo=>B1 (ia 6 fG dV) λfC=>B1 (aB 6 fC iU) λv40=>BN (az iU [(.str []),.ah,(zi 0),(zi 0),(zi 0),(.str [])] 99 0) λi41 dX=>B1 (st 6 (.ptr i41 0) v40 dX) λxB=>Lo dN bV dV (.ptr i41 0) fG fA dV xB) (λkL ik iQ gq fU gj ie jZ=>B1 (fa 0 kL) λgP=>B1 (fa 0 gP) λv53=>B1 (ld v53 jZ) λiV=>B1 (fa 1 gq) λfh=>B1 (ld fh jZ) λjB=>B2 (cf (zf 137) [jB] jZ) λv57 jd=>B1 (ia 6 iV iQ) λv59=>B1 (fa 1 v59) λfE=>B1 (st 1 fE v57 jd) λlj=>B1 (ld v53 jd) λgO=>SM iV gO <| MU kL ik fU gj ie lj)) (λgT fS fM nF gS qG=>B1 (bc gS (zi 1)) λml=>Ns gT fS fM nF ml qG)) (rU dN bV iU)
def acK:yL 2 5:=yX 97 [1,1,0,1,0,0] [1,2,13,14,15] 0 [1,2]
theorem akV:yQ5 acK aco:=yq5
def afR:yS 1:=λJ G cf a0 H=>BN (bx 75 a0 H) λi0 h1=>BN (az h1 [.ah,(zi 0),.ah,.ah] 75 0) λi2 h3=>J 2 (λj4=>B1 (fa 0 (.ptr i0 0)) λv5=>B1 (fa 0 v5) λv6=>B1 (ld v6 h3) λv7=>B2 (cf (zf 136) [v7] h3) λv8 h9=>B1 (fa 0 (.ptr i0 0)) λv10=>B1 (fa 0 v10) λv11=>B1 (st 1 v11 v8 h9) λez=>j4 (.ptr i0 0) (.ptr i2 0) ez) (λbM ei eM=>J 2 (λbA=>J 5 (λoL=>B1 (fa 0 bM) λcg=>B1 (fa 0 cg) λfy=>B1 (ld fy eM) λv20=>B1 (aE v20) λv21=>oL bM ei v20 v21 (zi 0) eM) (λbr bR db bX dD eX=>J 2 (λrU=>acK J G cf rU br bR db bX dD eX) (λjm nG nD=>bA jm nG nD))) (λjk jf nO=>J 2 (λMG=>B1 (fa 2 jk) λuU=>B1 (ld uU nO) λqw=>B2 (cf (zf 138) [qw] nO) λnz yk=>B1 (fa 2 jk) λkV=>B1 (st 1 kV nz yk) λsL=>MG jk jf sL) (λkC kG oO=>J 2 (λFk=>B1 (fa 3 kC) λv87=>B1 (ld v87 oO) λqN=>B2 (cf (zf 30) [qN] oO) λoC qq=>B1 (fa 3 kC) λv91=>B1 (st 1 v91 oC qq) λC7=>Fk kC kG C7) (λnC jT nI=>B1 (aB 4 nC nI) λkE=>B1 (st 4 jT kE nI) λBz=>B1 (aB 4 jT Bz) λxR=>some (xR,Bz)))))
theorem aD1:yC1 97 afR:=yM1
def G3:yB 2 5:=λJ G cf bA oL bO bW dP bo br du=>B1 (ba br bo) λv24=>CD v24 (J 5 (λyP=>J 7 (λB8=>B1 (ia 6 dP br) λv27=>B1 (aB 6 v27 du) λv28=>BN (az du [(.str []),.ah,(zi 0),(zi 0),(zi 0),(.str [])] 99 0) λi29 iT=>B1 (st 6 (.ptr i29 0) v28 iT) λhJ=>B8 bO bW br (.ptr i29 0) dP bo br hJ) (λfG fA dV cN bG cz bN fQ=>J 8 (λwR=>B1 (fa 1 cN) λv41=>B1 (ld v41 fQ) λdE=>B2 (cf (zf 143) [dE,(.func (.func 144) [] [fG])] fQ) λfc eg=>wR fG fA dV cN fc bG cz bN eg) (λik iQ gq fU gj ie iJ gK ig=>J 6 (λiD=>J 7 (λzD=>B1 (ld ik ig) λjB=>B1 (aJ jB) λv57=>B1 (fa 2 v57) λkj=>B1 (ld kj ig) λv59=>B1 (ia 4 v59 gq) λfE=>B1 (fa 0 fE) λjU=>B1 (ld jU ig) λgO=>B1 (bK gO (zi 0)) λv63=>jj v63 true (B1 (dR .not gj) λv64=>jj v64 true (B1 (fa 5 fU) λgf=>B1 (ld gf ig) λmi=>B1 (seq mi (.str [])) λkc=>jj kc false (B1 (ld ik ig) λmn=>B1 (aJ mn) λml=>B1 (fa 3 ml) λv70=>B1 (ld v70 ig) λmg=>B1 (fa 5 fU) λv72=>B1 (ld v72 ig) λjg=>B2 (cf (zf 94) [mg,jg] ig) λjF nO=>zD ik iQ gq ie iJ gK jF nO) (zD ik iQ gq ie iJ gK (.bool true) ig)) (zD ik iQ gq ie iJ gK (.bool false) ig)) (zD ik iQ gq ie iJ gK (.bool false) ig)) (λgM fL gB nY oI lU nB po=>CD nB (B1 (ld gM po) λCe=>B1 (aJ Ce) λv85=>B1 (fa 2 v85) λsu=>B1 (ld su po) λv87=>B1 (ia 4 v87 gB) λqN=>B1 (fa 0 qN) λoC=>B1 (st 1 oC (zi 1) po) λqq=>iD gM fL gB nY oI lU qq) (iD gM fL gB nY oI lU po))) (λwj kF nC jT jV rf Bz=>G kF true (λk98=>B1 (ld wj Bz) λsV=>k98 sV Bz) (λtV rp=>G kF true (λXR=>B1 (aJ tV) λxx=>XR xx rp) (λmX rL=>G kF true (λOQ=>B1 (fa 2 mX) λv107=>OQ v107 rL) (λqz z6=>G kF true (λacv=>B1 (ld qz z6) λwz=>acv wz z6) (λzu EN=>G kF true (λazT=>azT nC EN) (λse qO=>G kF true (λave=>B1 (ia 4 zu se) λxC=>ave xC qO) (λxS zM=>G kF true (λX1=>B1 (fa 0 xS) λyE=>X1 yE zM) (λwI rr=>G kF true (λaIF=>B1 (ld wI rr) λEZ=>aIF EZ rr) (λv127 xf=>G kF true (λaab=>B1 (bK v127 (zi 3)) λv130=>aab v130 xf) (λv131 Jv=>B1 (pk kF v131 (.bool false)) λzQ=>yP wj zQ jT jV rf Jv) xf) rr) zM) qO) EN) z6) rL) rp) Bz)))) (λzI ua pX tT wh xT=>B1 (bc wh (zi 1)) λCX=>oL zI ua pX tT CX xT)) (bA bO bW du)
def CJ:yL 2 5:=yX 106 [1,1,0,1,0,0] [1,2,10,11,12] 0 [1,2]
theorem aau:yQ5 CJ G3:=yq5
def Xe:yS 1:=λJ G cf a0 H=>BN (bx 146 a0 H) λi0 h1=>J 2 (λj2=>J 5 (λj3=>B1 (ld (.ptr i0 0) h1) λv4=>B1 (aJ v4) λv5=>B1 (fa 0 v5) λv6=>B1 (fa 0 v6) λv7=>B1 (ld v7 h1) λv8=>B1 (aE v8) λv9=>j3 (.ptr i0 0) (.bool true) v8 v9 (zi 0) h1) (λcH bZ bI bM ei eM=>J 2 (λbA=>CJ J G cf bA cH bZ bI bM ei eM) (λMv M9 Gy=>j2 Mv M9 Gy))) (λGm CR yd=>CD CR (B1 (ld Gm yd) λDt=>B1 (aJ Dt) λv148=>B1 (fa 1 v148) λNS=>B1 (st 1 NS (zi 1) yd) λFg=>some (.tuple [],Fg)) (some (.tuple [],yd)))
theorem ajk:yC1 106 Xe:=yM1
def alg:yS 2:=λJ G cf a0 a1 H=>B1 (ld a1 H) λv0=>B1 (aJ v0) λv1=>B1 (fa 2 v1) λv2=>B1 (ld v2 H) λv3=>B1 (ia 4 v3 a0) λv4=>B1 (fa 0 v4) λv5=>B1 (ld v5 H) λv6=>B1 (eA v6 (zi 3)) λv7=>some (v7,H)
theorem aAk (h:alg JN GO cK a0 a1 H=some r):cK (.func (.func 144) [] [a1]) [a0] H=some r:=vY (first:=[]) (cap:=[a1]) (abg zzw h)
def akF:yS 2:=λJ G cf a0 a1 H=>BN (bx 75 a0 H) λi0 h1=>J 0 (λj2=>J 2 (λj3=>B1 (ba a1 (zi 0)) λv4=>G v4 false (λk5=>k5 a1 h1) (λv6 h7=>G v4 false (λk8=>B1 (fa 2 (.ptr i0 0)) λv9=>k8 v9 h7) (λv10 eY=>G v4 false (λVy=>B1 (ld v10 eY) λcY=>Vy cY eY) (λbu eM=>G v4 false (λNh=>B1 (aE bu) λeB=>Nh eB eM) (λcg dZ=>G v4 false (λLG=>B1 (lg v6 cg) λv21=>LG v21 dZ) (λv22 du=>B1 (pk v4 (.bool true) v22) λv24=>j3 (.ptr i0 0) v24 du) dZ) eM) eY) h7) h1) (λbX dD eX=>CD dD (some ((zi 1),eX)) (B1 (fa 1 bX) λv28=>B1 (ld v28 eX) λv29=>B1 (eA v29 (zi 0)) λv30=>CD v30 (some ((zi 9),eX)) (j2  eX)))) (λhJ=>some ((zi 0),hJ))
theorem awB:yC2 108 akF:=yM2
def Wf:yS 3:=λJ G cf a0 a1 a2 H=>BN (bx 75 a0 H) λi0 h1=>J 3 (λj2=>B1 (aB 4 (.ptr i0 0) h1) λv3=>B2 (cf (zf 108) [v3,a1] h1) λv4 h5=>B1 (eA v4 (zi 0)) λv6=>CD v6 (some (v4,h5)) (j2 a1 a2 (.ptr i0 0) h5)) (λx7 x8 x9 cu=>J 0 (λoU=>J 2 (λeD=>B1 (fa 2 x9) λcY=>B1 (ld cY cu) λbu=>B1 (ia 4 bu x7) λdW=>B1 (aB 4 dW cu) λcB=>BN (az cu [(zi 0),(zi 0),(zi 0),(.str [])] 132 0) λi17 iq=>B1 (st 4 (.ptr i17 0) cB iq) λdZ=>eD x8 (.ptr i17 0) dZ) (λdP bo iy=>J 1 (λet=>B1 (fa 0 bo) λv24=>B1 (ld v24 iy) λv25=>B1 (eA v25 (zi 2)) λv26=>G v26 false (λPh=>B1 (fa 1 bo) λv28=>Ph v28 iy) (λv29 iT=>G v26 false (λyO=>B1 (ld v29 iT) λv32=>yO v32 iT) (λft iI=>G v26 false (λwq=>wq dP iI) (λv36 gG=>G v26 false (λyM=>B1 (eA ft v36) λfC=>yM fC gG) (λv40 hZ=>B1 (pk v26 (.bool true) v40) λdE=>et dE hZ) gG) iI) iT) iy) (λeT eg=>CD eT (some ((zi 8),eg)) (oU  eg)))) (λjx=>some ((zi 0),jx)))
theorem ad1:yC3 109 Wf:=yM3
def OZ:yS 4:=λJ G cf a0 a1 a2 a3 H=>BN (bx 75 a0 H) λi0 h1=>BN (az h1 [.ah,(zi 0),.ah,.ah] 75 0) λi2 h3=>J 5 (λj4=>B1 (aB 4 (.ptr i0 0) h3) λv5=>B2 (cf (zf 108) [v5,a1] h3) λv6 h7=>B1 (eA v6 (zi 0)) λv8=>CD v8 (B1 (fl [.ah,(zi 0),.ah,.ah] []) λl9=>B1 (st 4 (.ptr i2 0) (.agg l9) h7) λcu=>B1 (aB 4 (.ptr i2 0) cu) λv11=>some (.tuple [v11,v6],cu)) (j4 a1 a2 a3 (.ptr i0 0) (.ptr i2 0) h7)) (λbI bM ei dF bU eC=>J 6 (λpT=>B1 (fa 2 dF) λfy=>B1 (ld fy eC) λv20=>B1 (ia 4 v20 bI) λv21=>B1 (aB 4 v21 eC) λv22=>BN (az eC [(zi 0),(zi 0),(zi 0),(.str [])] 132 0) λi23 gm=>B1 (st 4 (.ptr i23 0) v22 gm) λep=>pT bI bM ei dF bU (.ptr i23 0) ep) (λdD dd dY di dN bV cw=>J 6 (λp9=>B1 (fa 0 bV) λc8=>B1 (ld c8 cw) λv35=>B1 (eA v35 (zi 1)) λv36=>CD v36 (B1 (fl [.ah,(zi 0),.ah,.ah] []) λYZ=>B1 (st 4 dN (.agg YZ) cw) λiO=>B1 (aB 4 dN iO) λfC=>some (.tuple [fC,(zi 4)],iO)) (J 7 (λwR=>B1 (fa 1 bV) λv41=>B1 (ld v41 cw) λdE=>B1 (bc dE (zi 1)) λfc=>B1 (eA dd fc) λv44=>wR dD dd dY di dN bV v44 cw) (λik iQ gq fU gj ie iJ jH=>CD iJ (B1 (fl [.ah,(zi 0),.ah,.ah] []) λZC=>B1 (st 4 gj (.agg ZC) jH) λmN=>B1 (aB 4 gj mN) λfh=>some (.tuple [fh,(zi 8)],mN)) (p9 ik iQ gq fU gj ie jH)))) (λeQ fB eZ dI eF dm gU=>B1 (aB 4 dI gU) λv63=>B2 (cf (zf 97) [v63] gU) λv64 oe=>B1 (st 4 dI v64 oe) λeP=>J 4 (λLV=>B1 (fa 0 dI) λmn=>B1 (fa 0 mn) λml=>B1 (ld ml eP) λv70=>B1 (ia 6 v70 eQ) λmg=>B1 (fa 3 mg) λv72=>B1 (ld v72 eP) λjg=>B1 (bc eZ jg) λjF=>B1 (fa 0 dm) λv75=>B1 (st 1 v75 (zi 2) eP) λjO=>B1 (fa 1 dm) λuU=>B1 (st 1 uU fB jO) λtS=>B1 (fa 2 dm) λnz=>B1 (st 1 nz jF tS) λyk=>B1 (ld ml jO) λkV=>SM v70 kV <| B1 (ld v72 jO) λmT=>SM jg mT <| B1 (ld ml tS) λlB=>SM v70 lB <| B1 (ld v72 tS) λCe=>SM jg Ce <| LV eQ dI eF dm yk) (λlR oR sX nc q8=>J 2 (λuc=>B1 (fa 2 oR) λv91=>B1 (ld v91 q8) λui=>B1 (aB 4 nc q8) λv93=>B1 (ia 4 ui lR) λuj=>B1 (st 4 uj v93 q8) λnI=>uc oR sX nI) (λrf nQ DH=>B1 (aB 4 rf DH) λsV=>B1 (st 4 nQ sV DH) λyi=>B1 (aB 4 nQ yi) λwT=>some (.tuple [wT,(zi 0)],yi))))))
theorem Ui:yC4 78 OZ:=yM4
def Xn:yS 4:=λJ G cf a0 a1 a2 a3 H=>BN (bx 75 a0 H) λi0 h1=>BN (az h1 [.ah,(zi 0),.ah,.ah] 75 0) λi2 h3=>J 5 (λj4=>J 6 (λj5=>B1 (aB 4 (.ptr i0 0) h3) λv6=>B2 (cf (zf 109) [v6,a1,a2] h3) λv7 h8=>j5 a1 a2 a3 (.ptr i0 0) (.ptr i2 0) v7 h8) (λx9 cH bZ bI bM ei eM=>B1 (eA ei (zi 0)) λcB=>CD cB (B1 (fl [.ah,(zi 0),.ah,.ah] []) λl17=>B1 (st 4 bM (.agg l17) eM) λiq=>B1 (aB 4 bM iq) λfy=>some (.tuple [fy,ei],iq)) (j4 x9 cH bZ bI bM eM))) (λdP bo br bR db ep=>B1 (aB 4 bR ep) λv26=>B2 (cf (zf 97) [v26] ep) λv27 iz=>B1 (st 4 bR v27 iz) λdc=>J 2 (λAj=>B1 (fa 2 bR) λv31=>B1 (ld v31 dc) λv32=>B1 (fl [(zi 0),(zi 0),(zi 0),(.str [])] [(0,1,(zi 3)),(1,1,bo),(3,1,br)]) λl33=>B1 (ia 4 v32 dP) λc8=>B1 (st 4 c8 (.agg l33) dc) λiU=>Aj bR db iU) (λbG cz iO=>B2 (cf (zf 106) [bG] iO) λfC mM=>B1 (aB 4 bG mM) λv41=>B1 (st 4 cz v41 mM) λdX=>B1 (aB 4 cz dX) λfc=>some (.tuple [fc,(zi 0)],dX)))
theorem amT:yC4 79 Xn:=yM4
def Xc:yS 3:=λJ G cf a0 a1 a2 H=>J 4 (λj0=>B1 (aJ a0) λv1=>B1 (fa 2 v1) λv2=>B1 (ld v2 H) λv3=>B1 (ia 4 v3 a1) λv4=>B1 (aJ a0) λv5=>B1 (fa 0 v5) λv6=>B1 (fa 0 v6) λv7=>B1 (ld v7 H) λv8=>B1 (ia 6 v8 a1) λv9=>B1 (aB 6 v9 H) λv10=>BN (az H [(.str []),.ah,(zi 0),(zi 0),(zi 0),(.str [])] 99 0) λi11 ez=>B1 (st 6 (.ptr i11 0) v10 ez) λfw=>j0 a0 a2 v4 (.ptr i11 0) fw) (λei dF bU cO iq=>J 2 (λcP=>J 5 (λaK=>B1 (aJ bU) λv21=>B1 (fa 1 v21) λv22=>B1 (ld v22 iq) λv23=>B1 (fa 2 cO) λv24=>B1 (ld v24 iq) λv25=>B1 (qF v23 v25) λv26=>aK ei dF bU cO v26 iq) (λdd dY di dN bV cw=>CD bV (B1 (fa 4 dN) λft=>B1 (ld ft cw) λc8=>B1 (aJ di) λv35=>B1 (fa 1 v35) λv36=>B1 (ld v36 cw) λv37=>B2 (cf (zf 145) [c8,v37] cw) λgX fQ=>B1 (bc dY gX) λv40=>B1 (aJ di) λv41=>B1 (fa 0 v41) λdE=>B1 (st 1 dE (zi 5) fQ) λxB=>B1 (aJ di) λv44=>B1 (fa 2 v44) λeu=>B1 (st 1 eu v40 xB) λiL=>some (.tuple [],iL)) (cP dd di cw))) (λgq fU mb=>J 1 (λmy=>B1 (aJ fU) λv51=>B1 (fa 0 v51) λgP=>B1 (st 1 gP (zi 4) mb) λig=>B1 (aJ fU) λiV=>B1 (fa 2 iV) λfh=>B1 (st 1 fh (zi 0) ig) λjA=>my gq jA) (λfB jd=>B1 (aJ fB) λv59=>B1 (fa 1 v59) λfE=>B1 (st 1 fE (zi 2) jd) λlj=>some (.tuple [],lj))))
theorem akZ:yC3 107 Xc:=yM3
def Ym:yS 4:=λJ G cf a0 a1 a2 a3 H=>BN (bx 75 a0 H) λi0 h1=>BN (az h1 [.ah,(zi 0),.ah,.ah] 75 0) λi2 h3=>J 4 (λj4=>J 5 (λj5=>B1 (aB 4 (.ptr i0 0) h3) λv6=>B2 (cf (zf 109) [v6,a1,a2] h3) λv7 h8=>j5 a1 a3 (.ptr i0 0) (.ptr i2 0) v7 h8) (λx9 cH bZ bI bM iG=>B1 (eA bM (zi 0)) λdW=>CD dW (B1 (fl [.ah,(zi 0),.ah,.ah] []) λl16=>B1 (st 4 bI (.agg l16) iG) λeC=>B1 (aB 4 bI eC) λcg=>some (.tuple [cg,bM],eC)) (j4 x9 cH bZ bI iG))) (λbW dP bo br du=>B1 (aB 4 bo du) λv24=>B2 (cf (zf 97) [v24] du) λv25 eS=>B1 (st 4 bo v25 eS) λeX=>B2 (cf (zf 107) [bo,bW,dP] eX) λv28 dc=>B1 (aB 4 bo dc) λv30=>B1 (st 4 br v30 dc) λhJ=>B1 (aB 4 br hJ) λv32=>some (.tuple [v32,(zi 0)],hJ))
theorem apb:yC4 80 Ym:=yM4
def FY:yB 2 5:=λJ G cf eD eJ ei dF bU cO bO dZ=>B1 (ba bO cO) λv20=>CD v20 (J 5 (λic=>J 5 (λwS=>J 7 (λet=>B1 (fa 2 dF) λv24=>B1 (ld v24 dZ) λv25=>B1 (ia 4 v25 bO) λv26=>et ei dF bU bO v26 cO bO dZ) (λdd dY di dN bV fG fA iI=>J 5 (λgY=>J 8 (λMa=>B1 (fa 1 dY) λv37=>B1 (ld v37 iI) λgX=>B1 (eA gX (zi 0)) λfC=>G fC false (λNH=>NH bV iI) (λv41 dX=>G fC false (λwH=>B1 (aJ v41) λv44=>wH v44 dX) (λeu iL=>G fC false (λGF=>B1 (fa 2 eu) λfO=>GF fO iL) (λv49 lJ=>G fC false (λOy=>B1 (ld v49 lJ) λgP=>Oy gP lJ) (λv53 mN=>G fC false (λNI=>NI dd mN) (λjB oX=>G fC false (λFf=>B1 (gF v53 jB) λv59=>Ff v59 oX) (λfE lj=>B1 (pk fC (.bool true) fE) λgO=>Ma dd dY di dN bV fG fA gO lj) oX) mN) lJ) iL) dX) iI) (λgT fS fM nF gS gV kX jm jW=>CD jm (gY gT fS fM gV kX jW) (J 8 (λBR=>B1 (aJ gS) λjg=>B1 (fa 0 jg) λjF=>B1 (ld jF jW) λv75=>B1 (bK v75 (zi 2)) λv76=>BR gT fS fM nF gS gV kX v76 jW) (λfL gB nY oI lU nB kC kG oO=>CD kG (B2 (cf (zf 107) [gB,oI,fL] oO) λsu qb=>gY fL gB nY nB kC qb) (J 7 (λBc=>B1 (aJ lU) λoC=>B1 (fa 0 oC) λqh=>B1 (ld qh oO) λv91=>B1 (bK v91 (zi 5)) λui=>Bc fL gB nY lU nB kC ui oO) (λnC jT jV rf nQ qV qL yi=>CD qL (B1 (aJ rf) λwT=>B1 (fa 0 wT) λql=>B1 (st 1 ql (zi 1) yi) λlO=>B1 (aJ rf) λmX=>B1 (fa 2 mX) λv105=>B1 (st 1 v105 (zi 0) lO) λLv=>gY nC jT jV nQ qV Lv) (gY nC jT jV nQ qV yi))))))) (λpA sY lP ru ub uD=>wS pA sY lP ru ub uD))) (λqm qo vm qY th Dy=>ic qm qo vm qY th Dy)) (λnL oQ pZ tI vn rr=>B1 (bc vn (zi 1)) λrH=>eJ nL oQ pZ tI rH rr)) (eD dF bU dZ)
def Kk:yL 2 5:=yX 77 [1,1,0,1,0,0] [1,2,4,11,12] 0 [2,4]
theorem Ic:yQ5 Kk FY:=yq5
def al5:yS 2:=λJ G cf a0 a1 H=>BN (bx 75 a0 H) λi0 h1=>BN (az h1 [.ah,(zi 0),.ah,.ah] 75 0) λi2 h3=>B1 (aB 4 (.ptr i0 0) h3) λv4=>B2 (cf (zf 97) [v4] h3) λv5 h6=>B1 (st 4 (.ptr i0 0) v5 h6) λh7=>J 2 (λj8=>B1 (fa 2 (.ptr i0 0)) λv9=>B1 (ld v9 h7) λv10=>B1 (aE v10) λv11=>J 2 (λeD=>Kk J G cf eD a1 (.ptr i0 0) (.ptr i2 0) v11 (zi 0) h7) (λlq iX xf=>j8 lq iX xf)) (λjI mr zp=>B1 (aB 4 jI zp) λDO=>B1 (st 4 mr DO zp) λlV=>B1 (aB 4 mr lV) λy8=>some (y8,lV))
theorem ar5:yC2 77 al5:=yM2
def Oe:yS 2:=λJ G cf a0 a1 H=>BN (bx 75 a0 H) λi0 h1=>BN (bx 9 a1 h1) λi2 h3=>BN (az h3 [.ah,(zi 0),.ah,.ah] 75 0) λi4 h5=>J 3 (λj6=>B1 (fa 1 (.ptr i0 0)) λv7=>B1 (ld v7 h5) λv8=>B1 (eA v8 (zi 0)) λv9=>CD v9 (B1 (fl [.ah,(zi 0),.ah,.ah] []) λl10=>B1 (st 4 (.ptr i4 0) (.agg l10) h5) λeY=>B1 (aB 4 (.ptr i4 0) eY) λv12=>some (.tuple [v12,(zi 9)],eY)) (J 4 (λeJ=>B1 (fa 3 (.ptr i0 0)) λbu=>B1 (ld bu h5) λdW=>B1 (ld (.ptr i2 0) h5) λcB=>B2 (cf (zf 94) [dW,cB] h5) λeB iq=>eJ (.ptr i0 0) (.ptr i2 0) (.ptr i4 0) eB iq) (λbW dP bo br du=>CD br (B1 (fl [.ah,(zi 0),.ah,.ah] []) λZ1=>B1 (st 4 bo (.agg Z1) du) λep=>B1 (aB 4 bo ep) λv26=>some (.tuple [v26,(zi 5)],ep)) (J 4 (λzW=>B1 (fa 0 bW) λv28=>B1 (fa 0 v28) λv29=>B1 (ld v29 du) λv30=>B2 (cf (zf 95) [v30,(.func (.func 110) [] [dP])] du) λv31 cw=>B1 (dR .not v31) λft=>zW bW dP bo ft cw) (λdV cN bG cz iO=>CD cz (B1 (fl [.ah,(zi 0),.ah,.ah] []) λl39=>B1 (st 4 bG (.agg l39) iO) λmM=>B1 (aB 4 bG mM) λv41=>some (.tuple [v41,(zi 1)],mM)) (j6 dV cN bG iO)))))) (λfZ eT kL jx=>B1 (aB 4 fZ jx) λv46=>B2 (cf (zf 97) [v46] jx) λiM pD=>B1 (st 4 fZ iM pD) λmb=>J 2 (λmy=>B1 (fa 3 fZ) λv51=>B1 (ld v51 mb) λgP=>B1 (ld eT mb) λv53=>B1 (fl [(.str [])] [(0,1,v53)]) λl54=>BN (az mb l54 9 0) λi55 jA=>B2 (cL 9 1 [(.str [])] false gP (.slice i55 0 1 1 true 1) jA) λv57 jd=>B1 (fa 3 fZ) λv59=>B1 (st 1 v59 v57 jd) λqE=>my fZ kL qE) (λdm jb Ak=>B2 (cf (zf 106) [dm] Ak) λv64 oe=>B1 (aB 4 dm oe) λmi=>B1 (st 4 jb mi oe) λvE=>B1 (aB 4 jb vE) λmn=>some (.tuple [mn,(zi 0)],vE)))
theorem Qn:yC2 81 Oe:=yM2
def ahE:yS 2:=λJ G cf a0 a1 H=>BN (bx 99 a0 H) λi0 h1=>B1 (fa 5 (.ptr i0 0)) λv2=>B1 (ld v2 h1) λv3=>B1 (ld a1 h1) λv4=>B1 (seq v3 v4) λv5=>G v5 true (λk6=>B1 (ld a1 h1) λv7=>k6 v7 h1) (λv8 h9=>G v5 true (λuo=>B1 (tW v8 (.str [])) λv11=>uo v11 h9) (λv12 fw=>B1 (pk v5 v12 (.bool false)) λbu=>some (bu,fw)) h9) h1
theorem arC (h:ahE JN GO cK a0 a1 H=some r):cK (.func (.func 110) [] [a1]) [a0] H=some r:=vY (first:=[]) (cap:=[a1]) (abg zzw h)
def Og:yS 2:=λJ G cf a0 a1 H=>BN (bx 75 a0 H) λi0 h1=>BN (bx 75 a1 h1) λi2 h3=>B1 (fa 1 (.ptr i0 0)) λv4=>B1 (ld v4 h3) λv5=>B1 (fa 1 (.ptr i2 0)) λv6=>B1 (ld v6 h3) λv7=>B1 (bK v5 v7) λv8=>G v8 true (λk9=>B1 (fa 2 (.ptr i0 0)) λv10=>k9 v10 h3) (λv11 ez=>G v8 true (λzF=>B1 (ld v11 ez) λbu=>zF bu ez) (λdW bL=>G v8 true (λHz=>B1 (fa 2 (.ptr i2 0)) λcg=>Hz cg bL) (λfy dh=>G v8 true (λwM=>B1 (ld fy dh) λv22=>wM v22 dh) (λv23 gm=>G v8 true (λyI=>B2 (cf (zf 73) [dW,v23] gm) λv26 eX=>yI v26 eX) (λv28 dc=>B1 (pk v8 v28 (.bool false)) λv30=>G v30 true (λyO=>B1 (fa 3 (.ptr i0 0)) λv32=>yO v32 dc) (λft iI=>G v30 true (λwq=>B1 (ld ft iI) λv36=>wq v36 iI) (λv37 iO=>G v30 true (λzd=>B1 (fa 3 (.ptr i2 0)) λv40=>zd v40 iO) (λv41 dX=>G v30 true (λwH=>B1 (ld v41 dX) λv44=>wH v44 dX) (λeu iL=>G v30 true (λGF=>B2 (cf (zf 74) [v37,eu] iL) λfO mb=>GF fO mb) (λgH jZ=>B1 (pk v30 gH (.bool false)) λgP=>G gP true (λtR=>B1 (fa 0 (.ptr i0 0)) λiV=>tR iV jZ) (λfh jA=>G gP true (λk57=>B1 (fa 0 fh) λkj=>k57 kj jA) (λv59 qE=>G gP true (λK5=>B1 (ld v59 qE) λgO=>K5 gO qE) (λv63 kH=>G gP true (λk65=>B1 (fa 0 (.ptr i2 0)) λmi=>k65 mi kH) (λkc qG=>G gP true (λN4=>B1 (fa 0 kc) λv70=>N4 v70 qG) (λmg nD=>G gP true (λYN=>B1 (ld mg nD) λjF=>YN jF nD) (λv75 jO=>G gP true (λNf=>Nf (zf 71) jO) (λqw iH=>G gP true (λGv=>B2 (cf (zf 75) [v63,v75,qw] iH) λkV sL=>Gv kV sL) (λlB qp=>B1 (pk gP lB (.bool false)) λv85=>some (v85,qp)) iH) jO) nD) qG) kH) qE) jA) jZ) iL) dX) iO) iI) dc) gm) dh) bL) ez) h3
theorem RU:yC2 36 Og:=yM2
def aoB:yS 2:=λJ G cf a0 a1 H=>BN (bx 99 a0 H) λi0 h1=>BN (bx 99 a1 h1) λi2 h3=>B1 (fa 1 (.ptr i0 0)) λv4=>B1 (ld v4 h3) λv5=>B1 (fa 1 (.ptr i2 0)) λv6=>B1 (ld v6 h3) λv7=>B2 (cf (zf 72) [v5,v7] h3) λv8 h9=>G v8 true (λuo=>B1 (fa 0 (.ptr i0 0)) λv11=>uo v11 h9) (λv12 fw=>G v8 true (λHj=>B1 (ld v12 fw) λdW=>Hj dW fw) (λcB eC=>G v8 true (λHo=>B1 (fa 0 (.ptr i2 0)) λfy=>Ho fy eC) (λv20 kU=>G v8 true (λGG=>B1 (ld v20 kU) λv23=>GG v23 kU) (λv24 ep=>G v8 true (λCi=>B1 (seq cB v24) λv27=>Ci v27 ep) (λv28 dc=>B1 (pk v8 v28 (.bool false)) λv30=>G v30 true (λyO=>B1 (fa 2 (.ptr i0 0)) λv32=>yO v32 dc) (λft iI=>G v30 true (λwq=>B1 (ld ft iI) λv36=>wq v36 iI) (λv37 iO=>G v30 true (λzd=>B1 (fa 2 (.ptr i2 0)) λv40=>zd v40 iO) (λv41 dX=>G v30 true (λwH=>B1 (ld v41 dX) λv44=>wH v44 dX) (λeu iL=>G v30 true (λGF=>B1 (bK v37 eu) λfO=>GF fO iL) (λv49 lJ=>B1 (pk v30 v49 (.bool false)) λv51=>G v51 true (λxm=>B1 (fa 3 (.ptr i0 0)) λv53=>xm v53 lJ) (λiV pI=>G v51 true (λzy=>B1 (ld iV pI) λv57=>zy v57 pI) (λkj tB=>G v51 true (λk60=>B1 (fa 3 (.ptr i2 0)) λjU=>k60 jU tB) (λgO Ak=>G v51 true (λYg=>B1 (ld gO Ak) λgf=>Yg gf Ak) (λmi vE=>G v51 true (λk68=>B1 (bK kj mi) λml=>k68 ml vE) (λv70 jW=>B1 (pk v51 v70 (.bool false)) λv72=>G v72 true (λYN=>B1 (fa 4 (.ptr i0 0)) λjF=>YN jF jW) (λv75 jO=>G v72 true (λNf=>B1 (ld v75 jO) λqw=>Nf qw jO) (λnz yk=>G v72 true (λZg=>B1 (fa 4 (.ptr i2 0)) λmT=>Zg mT yk) (λlB qp=>G v72 true (λk85=>B1 (ld lB qp) λsu=>k85 su qp) (λv87 wB=>G v72 true (λVY=>B1 (bK nz v87) λqh=>VY qh wB) (λv91 C7=>B1 (pk v72 v91 (.bool false)) λv93=>G v93 true (λk94=>B1 (fa 5 (.ptr i0 0)) λGe=>k94 Ge C7) (λkE Bz=>G v93 true (λk98=>B1 (ld kE Bz) λsV=>k98 sV Bz) (λtV rp=>G v93 true (λXR=>B1 (fa 5 (.ptr i2 0)) λxx=>XR xx rp) (λmX rL=>G v93 true (λOQ=>B1 (ld mX rL) λv107=>OQ v107 rL) (λqz z6=>G v93 true (λacv=>B1 (seq tV qz) λwz=>acv wz z6) (λzu EN=>B1 (pk v93 zu (.bool false)) λwZ=>some (wZ,EN)) z6) rL) rp) Bz) C7) wB) qp) yk) jO) jW) vE) Ak) tB) pI) lJ) iL) dX) iO) iI) dc) ep) kU) eC) fw) h9
theorem aAM:yC2 71 aoB:=yM2
def QM:yB 1 3:=λJ G cf ic wS bR db bX eS=>J 3 (λzW=>J 4 (λrU=>B1 (ba bX bR) λv29=>G v29 true (λyA=>yA db eS) (λv31 cw=>G v29 true (λCV=>B1 (ba v31 (zi 64000)) λc8=>CV c8 cw) (λv35 nV=>B1 (pk v29 v35 (.bool false)) λv37=>rU bR db bX v37 nV) cw) eS) (λbN eI dK gD dX=>CD gD (zW bN eI dK dX) (ic eI dX))) (λeT kL ik iL=>B1 (wu kL (.int .u64 1)) λiM=>B2 (jh P .min #[2,2] [iM,(zi 64000)] iL) λfO mb=>B1 (bc ik (zi 1)) λgH=>wS eT fO gH mb)
def aaA:yL 1 3:=yX 145 [1,1,1,0,1,0,0] [1,5,6] 0 [5]
theorem agq:yQ3 aaA QM:=yq3
def anZ:yS 2:=λJ G cf a0 a1 H=>J 2 (λj0=>J 3 (λj1=>B1 (ba a0 (zi 1)) λv2=>G v2 false (λk3=>k3 a1 H) (λv4 h5=>G v2 false (λk6=>B1 (ba v4 (zi 1)) λv7=>k6 v7 h5) (λv8 h9=>B1 (pk v2 (.bool true) v8) λv10=>j1 a0 a1 v10 h9) h5) H) (λbZ bI bM iG=>CD bM (some ((zi 0),iG)) (j0 bZ bI iG))) (λdF bU eC=>B2 (jh P .min #[2,2] [dF,(zi 64000)] eC) λcg dZ=>J 1 (λaK=>J 1 (λic=>aaA J G cf ic bU cg (zi 1) dZ) (λiJ jH=>aK iJ jH)) (λgI mN=>some (gI,mN)))
theorem arO:yC2 145 anZ:=yM2
def anI:yS 2:=λJ G cf a0 a1 H=>B2 (cf (zf 86) [a0,a1] H) λv0 h1=>B1 (lg v0 (zi 0)) λv2=>some (v2,h1)
theorem aEK:yC2 50 anI:=yM2
def am2:yS 2:=λJ G cf a0 a1 H=>B2 (cf (zf 115) [a0,a1,(.bool true)] H) λv0 h1=>some (v0,h1)
theorem aqw:yC2 86 am2:=yM2
def P5:yB 0 3:=λJ G cf j3 j4 x5 x6 x7 h8=>B2 (Bm x7 true h8) λv9 cu=>B1 (ex 0 v9) λv11=>CD v11 (B1 (ex 1 v9) λv12=>B1 (ex 2 v9) λcY=>J 5 (λeN=>B2 (cf x5 [cY] cu) λdW bL=>B1 (bb .eql dW x6) λeB=>eN x5 x6 v12 x7 eB bL) (λbO bW dP bo br du=>CD br (some (dP,du)) (j4 bO bW bo du))) (j3  cu)
def aay:yL 0 3:=yX 115 [1,0,1,0,0] [1,2,10] 0 []
theorem Yl:yQ3 aay P5:=yq3
def ahH:yS 3:=λJ G cf a0 a1 a2 H=>J 0 (λj0=>B2 (C6 P 9 a0 H) λv1 h2=>J 0 (λj3=>aay J G cf j3 a1 a2 v1 h2) (λgm=>j0  gm)) (λep=>some ((zi (-1)),ep))
theorem aAV:yC3 115 ahH:=yM3
end
end
end Go.Proofs.YtodfajmihkagnaaGreatDoor.bD
