/- Laws that the proof uses. -/
import Derived.Test.YtodfajmihkagnaaGreatDoorAm9
import Derived.Test.YtodfajmihkagnaaGreatDoorShelf
import Derived.ProofKit
import Derived.Shelf.SortM.Plain
import Derived.Shelf.SortM.SortNone
import Derived.Shelf.Strconv.Itoa0
import Derived.Shelf.Strconv.Itoa2
import Derived.Shelf.Strconv.AtoiAll
import Derived.Test.YtodfajmihkagnaaGreatDoorAm14
import Derived.Test.YtodfajmihkagnaaGreatDoorProg
import Derived.Test.YtodfajmihkagnaaGreatDoorRows
import Derived.KernelRfl
set_option maxRecDepth 100000
set_option linter.unusedVariables false
set_option linter.unusedSimpArgs false
namespace Go.Proofs.YtodfajmihkagnaaGreatDoor.aeS
open Go Go.Proofs Go.RowKit Go.Shelf
theorem anS:Am.Cf Tryz.prog 91 Am.KL:=by refine Am.aqj (λas' w=>Am.Aq (by unfold Am.qg;kernel_rfl) Tryz.func91 rfl as' w) ?_;intro s c w hs hc ha;exact Any.strings_Trim_laid Tryz.lays160 zzw s c w hs hc ha
end Go.Proofs.YtodfajmihkagnaaGreatDoor.aeS
namespace Go.Proofs.YtodfajmihkagnaaGreatDoor.jn
open Go Am Go.Sort Go.RowKit Go.Proofs
def RU:AV->Option Int
 |.int .i64 z=>some z|_=>none
def DE:List AV->Option (List Int)
 |[]=>some []|v::r=>match RU v,DE r with
  |some z,some l=>some (z::l)|_,_=>none
def uB (l:List Int):List AV:=l.map (AV.int .i64)
def ry (l:List Int):List Int:=l.mergeSort λx y=>decide (x<=y)
theorem aos {v:AV}{z:Int}(h:RU v=some z):v=.int .i64 z:=by
 unfold RU at h;split at h;·cases h;rfl
 ·cases h
theorem abZ:∀{l:List AV} {zs:List Int},DE l=some zs->l=uB zs
 |[],zs,h=>by cases h;rfl
 |v::r,zs,h=>by
  unfold DE at h;split at h;·rename_i z l h1 h2;cases h;rw[aos h1,abZ h2];rfl
  ·cases h
theorem aev:∀(zs:List Int),DE (uB zs)=some zs
 |[]=>rfl|z::zs=>by show (match RU (AV.int .i64 z),DE (uB zs) with|some z,some l=>some (z::l)|_,_=>none)=_;rw[aev zs];rfl
theorem aeB (l:List Int):(ry l).length=l.length:=(List.mergeSort_perm l _).length_eq
noncomputable section
def aEb (H:Hp)(i off:Nat)(c:Tr AV)(lo hi el fl:Nat)(r:Option (List Int)):Option (AV×Hp):=match r with
 |some zs=>some (.tuple [],{H with h:=H.h.cL i (.cells (c.bZ off (uB (ry zs))) lo hi el fl)})|none=>none
open Classical in
def V3 (H:Hp)(i off n:Nat)(o:AO):Option (AV×Hp):=match o with
 |.cells c lo hi el fl=>if lo<=off/\off+n<=hi/\fl<=1 then aEb H i off c lo hi el fl ((au H i off n).bind DE) else none
 |_=>none
open Classical in
def xv:Prim:=λargs H=>match args with
 |[.ah]=>some (.tuple [],H)|[.slice i off n cap ex es]=>if n=0 then some (.tuple [],H) else if es=1/\n<4611686018427387904 then (H.h.get i).bind (V3 H i off n) else none
 |_=>none
end
theorem K8 (e:Em):VR e (.tuple []) (.tuple #[]):=.tuple [] #[] rfl (λi v v' h=>by simp at h)
theorem aye {f:Nat}(Hc:∀as' w,(callFunc f as').run Tryz.prog w=.ok (.enter f as') w)
  (h0:∀(p:Option Addr) (cap:Nat) (w:World),Calls Tryz.prog f #[.slice p 0 cap] w λe w'=>e=.returned (.tuple #[])/\w'=w)
  (h1:∀ (cj off cap:Nat) (zs:List Int) (w:World),Holds (Value.int .i64) w cj off zs.toArray->cj<w.heap.size->zs.length<4611686018427387904->
   Calls Tryz.prog f #[.slice (some ⟨cj,off,none⟩) zs.length cap] w λe w'=>e=.returned (.tuple #[])/\∃n os,w'=grow (putRow (Value.int .i64) (Sort.ahead w n) cj off (zs.mergeSort λx y=>decide (x<=y)).toArray) os):Cf Tryz.prog f xv:=by
 intro args H v H' hp Fr W e w as' hR ha;unfold xv at hp;split at hp;·obtain⟨a',r1,e1,nZ,jC⟩:=ha.cons_inv;have e3:=jC.lH;subst e3;cases hp;cases nZ;obtain rfl:as'=#[.slice none 0 0]:=aes.1 e1;refine⟨Hc _ _,(h0 none 0 w).mono ?_⟩;rintro en w' ⟨rfl,rfl⟩;exact⟨e,_,rfl,e.le_refl,hR,K8 e⟩
 ·rename_i i off n cap ex es;obtain⟨a',r1,e1,nZ,jC⟩:=ha.cons_inv;have e3:=jC.lH;subst e3;split at hp
  ·rename_i nj;subst nj;cases hp;rcases nZ.nf with⟨o,c,k1,k2,k3,k4,k5,k6,rfl⟩|⟨_,_,a,rfl⟩;·obtain rfl:as'=#[.slice (some ⟨e.b i,o,none⟩) 0 c]:=aes.1 e1;refine⟨Hc _ _,(h0 _ c w).mono ?_⟩;rintro en w' ⟨rfl,rfl⟩;exact⟨e,_,rfl,e.le_refl,hR,K8 e⟩
   ·obtain rfl:as'=#[.slice (some a) 0 0]:=aes.1 e1;refine⟨Hc _ _,(h0 _ 0 w).mono ?_⟩;rintro en w' ⟨rfl,rfl⟩;exact⟨e,_,rfl,e.le_refl,hR,K8 e⟩
  ·rename_i nj;split at hp
   ·rename_i dO;obtain⟨rfl,Eh⟩:=dO;rcases nZ.nf with⟨o,cc,k1,k2,k3,k4,k5,k6,rfl⟩|⟨q,_,a,rfl⟩
    ·obtain⟨ob0,hg,hp⟩:=aba.1 hp;unfold V3 at hp;split at hp
     ·rename_i c lo hi el fl;split at hp
      ·rename_i uZ;obtain⟨g1,g2,g3⟩:=uZ;cases hr:(au H i off n).bind DE with
       |none=>rw[hr] at hp;cases hp
       |some zs=>
        rw[hr] at hp;cases hp;obtain⟨l,hl,hz⟩:=aba.1 hr;have hlz:=abZ hz;obtain⟨cs,c1,c2,c3⟩:=hR.CI hl k2;have hzn:zs.length=n:=by rw[<-c2,c1.1,hlz];simp[uB]
        have gG:∀j z,zs[j]?=some z->w.cell? ⟨e.b i,o+j,none⟩=some (.int .i64 z):=by intro j z hj;obtain⟨v',bS,dA⟩:=c1.get (i:=j) (v:=.int .i64 z) (by rw[hlz];simp[uB,hj]);have:=dA.gV;subst this;exact c3 j _ bS
        obtain⟨hN,ob,eN,eT,hF⟩:=hR.obj i _ hg;cases eT with
        |cells _ _ _ _ _ C fz hn ka qm tA hd=>
         have fy:o+n<=C.size:=by rw[hn];omega
         have hH:Holds (Value.int .i64) w (e.b i) o zs.toArray:=by
          intro j hj;have kX:j<zs.length:=by simpa using hj
          refine⟨?_,?_⟩;·rw[gG j zs[j] (aap kX)];simp[kX]
          ·have:=tA g3 (o+j) zzz;simp only[World.frozen?,eN];exact this
         obtain rfl:as'=#[.slice (some ⟨e.b i,o,none⟩) n cc]:=aes.1 e1;have JB:=h1 (e.b i) o cc zs w hH (adh.1 eN).1 zzz;rw[hzn] at JB;refine⟨Hc _ _,JB.mono ?_⟩;rintro en w' ⟨rfl,m,os,rfl⟩;refine⟨e,_,rfl,e.le_refl,?_,K8 e⟩;have zX:=hR.drawn (w.drawn+m);have aC:(zs.mergeSort λx y=>decide (x<=y))=ry zs:=rfl;have mq:=aeB zs;rw[aC];generalize ry zs=ss at*
         have lT:RH Tryz.prog.globals.size Fr W e {H with h:=H.h.cL i (.cells (c.bZ off (uB ss)) lo hi el fl)} (putRow (Value.int .i64) (Sort.ahead w m) (e.b i) o ss.toArray):=by
          refine zX.put hg (by simp[wr,g3]) (sD:=.cells (putCells (Value.int .i64) o ss.toArray C) el fz) ?_ ?_ ?_ ?_ rfl rfl rfl;·simp[putRow,mapBlock,Sort.ahead]
          ·simp only[putRow,mapBlock,Sort.ahead];rw[I2 _ _ _ eN];rfl
          ·intro k hk;simp only[putRow,mapBlock,Sort.ahead];rw[HY _ _ _ _ (λq=>hk q.symm)]
          ·have jS:(putCells (Value.int .i64) o ss.toArray C).size=C.size:=by simp[putCells]
           refine .cells _ lo hi el fl _ fz (by rw[jS];exact hn) ?_ qm (by rw[jS];exact tA) hd;intro k u a b hk;rw[Tr.yE] at hk;have jk:(uB ss).length=n:=by simp[uB];omega
           rw[jk] at hk;by_cases mw:off<=k/\k<off+n
           ·rw[zz2 mw] at hk;have th:k-off<ss.length:=zzz;have hu:u=.int .i64 ss[k-off]:=by
             have:(uB ss)[k-off]?=some (.int .i64 ss[k-off]):=by simp[uB,th]
             rw[this] at hk;exact (ac0 hk).symm
            subst hu;refine⟨o+(k-off),zzz,.int .i64 ss[k-off],?_,.int _ _⟩;have hC:o+(k-off)<C.size:=zzz;simp only[putCells];rw[Array.getElem?_mapIdx,aip hC];simp only[aeL,List.size_toArray];rw[zz2 zzz,afX];simp[th]
           ·rw[zz1 mw] at hk;obtain⟨HU,CN,u',jW,dA⟩:=ka k u a b hk;refine⟨HU,CN,u',?_,dA⟩;simp only[putCells];rw[Array.getElem?_mapIdx,jW];simp only[aeL,List.size_toArray];rw[zz1 zzz]
         exact lT.below ⟨rfl,rfl,rfl,by simp[grow],λk hk=>by simp only[grow];rw[Array.getElem?_append_left hk]⟩
      ·cases hp
     ·cases hp
    ·omega
   ·cases hp
 ·cases hp
theorem aqk:Cf Tryz.prog 192 xv:=
 aye (λas' w=>Aq (by unfold qg;kernel_rfl) Tryz.func192 rfl as' w)
  (λp cap w=>AnyM.slices_Sort_int_none Tryz.sortN p cap w) (λcj off cap zs w hH hb hl=>AnyM.slices_Sort_int Tryz.sortN cj off cap zs w hH hb hl)
end Go.Proofs.YtodfajmihkagnaaGreatDoor.jn
namespace Go.Proofs.YtodfajmihkagnaaGreatDoor.kJ
open Go Am Go.Sort Go.RowKit Go.Proofs jn
theorem ZG:qg Tryz.prog:=by unfold qg;kernel_rfl
noncomputable section
open Classical in
def Mo:Prim:=λargs H=>match args with
 |[.int .u64 x]=>if 0<=x/\x<=18446744073709551615 then some (.int .i64 (Lib.bitLen x.toNat),H) else none
 |_=>none
def pT (u n:Nat):List AV:=(List.range n).map λt=>AV.int .u8 ((Lib.dg u (n-1-t)).toNat)
open Classical in
def Wg (H:Hp)(i off n u:Nat)(o:AO):Option (AV×Hp):=match o with
 |.cells c lo hi el fl=>if lo<=off/\off+n<=hi/\fl<=1/\(∃l,au H i off n=some l/\∀v∈l,∃b:Nat,b<256/\v=.int .u8 b) then some (.tuple [],{H with h:=H.h.cL i (.cells (c.bZ off (pT u n)) lo hi el fl)}) else none
 |_=>none
open Classical in
def KR:Prim:=λargs H=>match args with
 |[.slice i off n cap ex es,.int .u64 u]=>if es=1/\0<n/\n<4611686018427387904/\0<=u/\u<18446744073709551616/\u.toNat<10^n then (H.h.get i).bind (Wg H i off n u.toNat) else none
 |_=>none
structure QH (H:Hp):Prop where
 syn:∃t p,cellAt H 6 0=some (.iface t p)
 rng:∃t p,cellAt H 7 0=some (.iface t p)
def zB (s:List Nat):List UInt8:=s.map UInt8.ofNat
def Oo (s:List Nat):AV:=match Lib.atoiAll (zB s) with
 |.ok v=>.tuple [.int .i64 v,.nilIface]|.range=>.tuple [.int .i64 (Lib.atoiSat (zB s)),.iface 269 .du]|_=>.tuple [.int .i64 0,.iface 269 .du]
open Classical in
def Nv:Prim:=λargs H=>match args with
 |[.str s]=>if QH H/\s.length<=281474976710656 then some (Oo s,H) else none
 |_=>none
end
theorem axo:Cf Tryz.prog 182 Mo:=by
 intro args H v H' hp F W e w as' hR ha;unfold Mo at hp;split at hp
 ·rename_i x;split at hp;·rename_i hx;cases hp;obtain⟨a',r1,e1,nZ,jC⟩:=ha.cons_inv;have e3:=jC.lH;subst e3;have:=nZ.gV;subst this;obtain rfl:as'=#[.int .u64 x]:=aes.1 e1;refine⟨Aq ZG Tryz.func182 rfl _ w,(Any.bits_Len64 Tryz.lays129 x w hx.1 hx.2).mono ?_⟩;rintro en w' ⟨rfl,rfl⟩;exact⟨e,_,rfl,e.le_refl,hR,.int _ _⟩
  ·cases hp
 ·cases hp
theorem VR.two {e:Em}{a b:AV}{a' b':Value}(h:VR e a a')(k:VR e b b'):VR e (.tuple [a,b]) (.tuple #[a',b']):=by
 refine .tuple _ _ rfl ?_;intro i v v' h1 h2
 match i,h1,h2 with
 |0,h1,h2=>cases h1;cases h2;exact h|1,h1,h2=>cases h1;cases h2;exact k
theorem ay3:Cf Tryz.prog 166 KR:=by
 intro args H v H' hp Fr W e w as' hR ha;unfold KR at hp;split at hp
 ·rename_i i off n cap ex es u;obtain⟨a',r1,e1,nZ,jC⟩:=ha.cons_inv;obtain⟨b',r2,e2,vi,qK⟩:=jC.cons_inv;have e3:=qK.lH;subst e3;have jW:=vi.gV;subst jW;split at hp
  ·rename_i hc;obtain⟨rfl,nj,Eh,hu0,aGp,adw⟩:=hc;obtain⟨un,rfl⟩:∃un:Nat,u=un:=⟨u.toNat,zzz⟩;rw[acv] at hp adw;rcases nZ.nf with⟨o,cc,k1,k2,k3,k4,k5,k6,rfl⟩|⟨q,_,a,rfl⟩
   ·obtain⟨ob0,hg,hp⟩:=aba.1 hp;unfold Wg at hp;split at hp
    ·rename_i c lo hi el fl;split at hp
     ·rename_i uZ;obtain⟨g1,g2,g3,l,hl,oK⟩:=uZ;cases hp;obtain⟨cs,c1,c2,c3⟩:=hR.CI hl k2;have gy:l.length=n:=by rw[<-c1.1,c2]
      obtain⟨d,fM,vV⟩:∃d:List UInt8,d.length=n/\∀(j:Nat) (z:UInt8),d[j]?=some z->l[j]?=some (AV.int .u8 (z.toNat:Int)):=by refine⟨l.map λv=>match v with|AV.int _ b=>UInt8.ofNat b.toNat|_=>0,by simp[gy],λj z hj=>?_⟩;rw[acV,aal] at hj;obtain⟨v,hv,rfl⟩:=hj;obtain⟨b,hb,rfl⟩:=oK v (aad hv);rw[hv];simp only[acv,UInt8.toNat_ofNat'];rw[ajg hb]
      have gG:∀(j:Nat) (z:UInt8),d[j]?=some z->w.cell? ⟨e.b i,o+j,none⟩=some (.int .u8 (z.toNat:Int)):=by intro j z hj;obtain⟨v',bS,dA⟩:=c1.get (vV j z hj);have:=dA.gV;subst this;exact c3 j _ bS
      obtain⟨hN,ob,eN,eT,hF⟩:=hR.obj i _ hg;cases eT with
      |cells _ _ _ _ _ C fz hn ka qm tA hd=>
       have fy:o+n<=C.size:=by rw[hn];omega
       have hH:Holds (λ(b:UInt8)=>Value.int .u8 (b.toNat:Int)) w (e.b i) o d.toArray:=by
        intro j hj;have kX:j<d.length:=by simpa using hj
        refine⟨?_,?_⟩;·rw[gG j d[j] (aap kX)];simp[kX]
        ·have:=tA g3 (o+j) zzz;simp only[World.frozen?,eN];exact this
       obtain rfl:as'=#[.slice (some ⟨e.b i,o,none⟩) n cc,.int .u64 un]:=aes.1 (by rw[e1,e2]);have JB:=Any.internal_strconv_formatBase10 Tryz.lays285 (e.b i) o cc un d.toArray w hH (by simpa[fM] using adw) zzz (by simpa[fM] using Eh);have hdz:d.toArray.size=n:=by simp[fM]
       rw[hdz] at JB;refine⟨Aq ZG Tryz.func166 rfl _ w,JB.mono ?_⟩;rintro en w' ⟨rfl,m,v',dk,rfl,hinv⟩;refine⟨e,_,rfl,e.le_refl,?_,K8 e⟩;have hdk:∀t,t<n->dk[t]! = Lib.dg un (n-1-t):=λt ht=>hinv.done t (abz _) ht;have Fg:=hinv.size;have jk:(pT un n).length=n:=by simp[pT]
       have lT:RH Tryz.prog.globals.size Fr W e {H with h:=H.h.cL i (.cells (c.bZ off (pT un n)) lo hi el fl)} (putRow (λ(b:UInt8)=>Value.int .u8 (b.toNat:Int)) w (e.b i) o dk):=by
        refine hR.put hg (by simp[wr,g3]) (sD:=.cells (putCells (λ(b:UInt8)=>Value.int .u8 (b.toNat:Int)) o dk C) el fz) ?_ ?_ ?_ ?_ rfl rfl rfl;·simp[putRow,mapBlock]
        ·simp only[putRow,mapBlock];rw[I2 _ _ _ eN];rfl
        ·intro k hk;simp only[putRow,mapBlock];rw[HY _ _ _ _ (λq=>hk q.symm)]
        ·have jS:(putCells (λ(b:UInt8)=>Value.int .u8 (b.toNat:Int)) o dk C).size=C.size:=by simp[putCells]
         refine .cells _ lo hi el fl _ fz (by rw[jS];exact hn) ?_ qm (by rw[jS];exact tA) hd;intro k u' a b hk;rw[Tr.yE,jk] at hk;by_cases mw:off<=k/\k<off+n
         ·rw[zz2 mw] at hk;have hj:k-off<n:=zzz;have hu:u'=.int .u8 ((Lib.dg un (n-1-(k-off))).toNat):=by
           have:(pT un n)[k-off]?=some (.int .u8 ((Lib.dg un (n-1-(k-off))).toNat)):=by simp[pT,hj]
           rw[this] at hk;exact (ac0 hk).symm
          subst hu;refine⟨o+(k-off),zzz,.int .u8 ((Lib.dg un (n-1-(k-off))).toNat),?_,.int _ _⟩;have hC:o+(k-off)<C.size:=zzz;simp only[putCells];rw[Array.getElem?_mapIdx,aip hC];simp only[aeL];rw[zz2 zzz,afX,hdk _ hj]
         ·rw[zz1 mw] at hk;obtain⟨HU,CN,u2,wA,dA⟩:=ka k u' a b hk;refine⟨HU,CN,u2,?_,dA⟩;simp only[putCells];rw[Array.getElem?_mapIdx,wA];simp only[aeL];rw[zz1 zzz]
       exact lT.drawn _
     ·cases hp
    ·cases hp
   ·omega
  ·cases hp
 ·cases hp
theorem QH.cells {Fr:Nat->Prop}{W:World}{e:Em}{H:Hp}{w:World}(h:QH H)(hR:RH Tryz.prog.globals.size Fr W e H w):
  (∃t p,w.cell? ⟨6,0,none⟩=some (.iface t p))/\∃t p,w.cell? ⟨7,0,none⟩=some (.iface t p):=by
 have nH:6<Tryz.prog.globals.size:=by rw[<-aeI];kernel_rfl
 have BL:7<Tryz.prog.globals.size:=by rw[<-aeI];kernel_rfl
 have key:∀g k v,g<Tryz.prog.globals.size->cellAt H g (k:Nat)=some v->∃v',w.cell? ⟨g,k,none⟩=some v'/\VR e v v':=by intro g k v hg hc;obtain⟨_,o,ho,v',h1,h2⟩:=hR.load hc;obtain⟨_,hb,hd⟩:=hR.ub g hg;rw[hb] at h1;rw[hd] at ho;obtain rfl:o=k:=zzz;exact⟨v',h1,h2⟩
 refine⟨?_,?_⟩;·obtain⟨t,p,hc⟩:=h.syn;obtain⟨v',h1,h2⟩:=key _ 0 _ nH hc;cases h2;exact⟨_,_,h1⟩
 ·obtain⟨t,p,hc⟩:=h.rng;obtain⟨v',h1,h2⟩:=key _ 0 _ BL hc;cases h2;exact⟨_,_,h1⟩
theorem aAF (s:ByteArray):zB (Am.bytes s)=s.data.toList:=by unfold zB Am.bytes;rw[aoL,List.map_congr_left (g:=id) (λx _=>zzy)];simp
theorem avQ:Cf Tryz.prog 173 Nv:=by
 intro args H v H' hp F W e w as' hR ha;unfold Nv at hp;split at hp
 ·rename_i s;split at hp
  ·rename_i hx;cases hp;obtain⟨hE,hlen⟩:=hx;obtain⟨a',r1,e1,nZ,jC⟩:=ha.cons_inv;have e3:=jC.lH;subst e3;obtain⟨s',rfl,rfl⟩:=nZ.nD;obtain rfl:as'=#[.string s']:=aes.1 e1;refine⟨Aq ZG Tryz.func173 rfl _ w,?_⟩;have hl:s'.size<=281474976710656:=by
    have:s'.size=(Am.bytes s').length:=by simp[Am.bytes]
    omega
   obtain⟨⟨t1,p1,q1⟩,⟨t2,p2,q2⟩⟩:=hE.cells hR;unfold Oo;rw[aAF];cases hr:Lib.atoiAll s'.data.toList with
   |ok v=>
    refine (Any.strconv_Atoi_ok Tryz.laysC172 s' zzz v hr w).mono ?_;rintro en w' ⟨rfl,hw⟩;refine⟨e,_,rfl,e.le_refl,?_,VR.two (.int _ _) .nilIface⟩;rcases hw with rfl|⟨t,rfl⟩;·exact hR
    ·exact hR.below (Lib.bytesWorld_below _ _ _)
   |range=>
    refine (Any.strconv_Atoi_range Tryz.laysC172 s' hl hr _ w q2 (.inr ⟨_,_,rfl⟩)).mono ?_;rintro en w' ⟨N,rfl,_,_,hb⟩;exact⟨e,_,rfl,e.le_refl,hR.below hb,VR.two (.int _ _) (.iface _ _ _ (.du _))⟩
   |_=>
    refine (Any.strconv_Atoi_syntax Tryz.laysC172 s' hl hr _ w q1 (.inr ⟨_,_,rfl⟩)).mono ?_;rintro en w' ⟨N,rfl,_,_,hb⟩;exact⟨e,_,rfl,e.le_refl,hR.below hb,VR.two (.int _ _) (.iface _ _ _ (.du _))⟩
  ·cases hp
 ·cases hp
end Go.Proofs.YtodfajmihkagnaaGreatDoor.kJ
namespace Go.Proofs.YtodfajmihkagnaaGreatDoor.lR
open Go Go.RowKit Am
def ext (g:Nat):Option Ext:=bif Nat.beq g 168 then some .same else bif Nat.beq g 169 then some (.Lm 52) else bif Nat.beq g 197 then some .RJ else bif Nat.beq g 171 then some .count else none
theorem alD:Aw Tryz.prog ext:=by
 intro aU k h as' w;unfold ext at h;cases h1:Nat.beq aU 168 with
 |true=>
  rw[h1] at h;cases h;obtain rfl:=abx h1;exact OO (e:=Extern.AbiNoEscape.same) Tryz.func168 zzw zzw zzw zzw rfl as' w
 |false=>
  rw[h1] at h;clear h1;cases h1:Nat.beq aU 169 with
  |true=>
   rw[h1] at h;cases h;obtain rfl:=abx h1;exact OO (e:=Extern.BytealgMakeNoZero.makeNoZero #[] #[52]) Tryz.func169 zzw zzw zzw zzw rfl as' w
  |false=>
   rw[h1] at h;clear h1;cases h1:Nat.beq aU 197 with
   |true=>
    rw[h1] at h;cases h;obtain rfl:=abx h1;exact OO (e:=Extern.BytealgIndexByte.indexByte) Tryz.func197 zzw zzw zzw zzw rfl as' w
   |false=>
    rw[h1] at h;clear h1;cases h1:Nat.beq aU 171 with
    |true=>
     rw[h1] at h;cases h;obtain rfl:=abx h1;exact OO (e:=Extern.BytealgCount.count) Tryz.func171 zzw zzw zzw zzw rfl as' w
    |false=>
     rw[h1] at h;clear h1;cases h
noncomputable def Ot (g:Nat):Option Prim:=bif Nat.beq g 91 then some Am.KL else none
theorem alx:wB Tryz.prog Ot:=by
 intro aU p h args H v H' hp;unfold Ot at h;cases h1:Nat.beq aU 91 with
 |true=>
  rw[h1] at h;cases h;obtain rfl:=abx h1;exact aeS.anS args H v H' hp
 |false=>
  rw[h1] at h;clear h1;cases h
theorem amF:qg Tryz.prog:=by unfold qg;kernel_rfl
theorem mixed:Tryz.prog.follows .mixedOrders=true:=zzw
def PG:List Int:=[1,10,100,1000,10000,100000,1000000,10000000,100000000,1000000000,10000000000,100000000000,1000000000000,10000000000000,100000000000000,1000000000000000,10000000000000000,100000000000000000,1000000000000000000,10000000000000000000]
def abt:List Int:=[0,1,28,2,29,14,24,3,30,22,20,15,25,17,4,8,31,27,13,23,21,19,16,7,26,12,18,6,11,5,10,9]
def akp:List Int:=[0,1,56,2,57,49,28,3,61,58,42,50,38,29,17,4,62,47,59,36,45,43,51,22,53,39,33,30,24,18,12,5,63,55,48,27,60,41,37,16,46,35,44,21,52,32,23,11,54,26,40,15,34,20,31,10,25,14,19,9,13,8,7,6]
def qJ:List (Nat×List AV):=[(0,PG.map (AV.int .u64)),(4,abt.map (AV.int .u8)),(5,akp.map (AV.int .u8)),(6,[.iface 290 (.ptr 10 0)]),(7,[.iface 290 (.ptr 9 0)])]
abbrev laid:List (String×DataW Unit):=[("math/bits.deBruijn32tab",Rows.laid_math_bits_deBruijn32tab),("math/bits.deBruijn64tab",Rows.laid_math_bits_deBruijn64tab),("internal/strconv.uint64pow10",Rows.laid_internal_strconv_uint64pow10),("unicode/utf8.acceptRanges",Rows.laid_unicode_utf8_acceptRanges),("strconv.ErrRange",Rows.laid_strconv_ErrRange),("strconv.ErrSyntax",Rows.laid_strconv_ErrSyntax),("unicode/utf8.first",Rows.laid_unicode_utf8_first)]
theorem star: "*" ++ "errors.errorString" = "*errors.errorString" :=zzx
theorem amx (u:TypeId)(h:Tryz.prog.typeName? 3 u=some "*errors.errorString"):u=290 :=
 typeName_ptr_named (nm := "errors.errorString") (by rw[star];kernel_rfl) zzw zzx u (by rw[star];exact h)
theorem auz {W:World}(h:laidMet Tryz.prog laid W)(fy:8<=W.heap.size)(bx:Nat->Nat)(dx:Nat->Int)(nx:Nat->Nat){N:Nat}(hN:11<=N){PO:List (Nat×AO)}
  (hP:∀i o,(i,o)∈PO->11<=i/\i<N/\wr o=false/\∃ob,W.heap[bx i]?=some ob/\∀e:Em,e.N=N->(∀j,11<=j->e.b j=bx j/\e.d j=dx j/\e.n j=nx j)->OR e i o ob):
  ∃e,RH Tryz.prog.globals.size (λk=>k<W.heap.size) W e ⟨uu PO (tI (Dl W) qJ),N⟩ W/\e.N=N/\∀j,11<=j->e.b j=bx j/\e.d j=dx j/\e.n j=nx j:=by
 have hs:Tryz.prog.globals.size=8:=zzw;rw[hs];obtain⟨b0,o0,t0,w0⟩:=ad4 (n := "strconv.ErrRange") (nm := "*errors.errorString") (tp:=290) (te:=292) (ts:=9) h (.tail _ (.tail _ (.tail _ (.tail _ (.head _))))) (g:=7) (ti:=183) zzw zzw Tryz.underlying183 amx Tryz.underlying290 Tryz.underlying292 rfl rfl Tryz.underlying9 zzw zzw;obtain⟨b1,o1,t1,w1⟩:=ad4 (n := "strconv.ErrSyntax") (nm := "*errors.errorString") (tp:=290) (te:=292) (ts:=9) h (.tail _ (.tail _ (.tail _ (.tail _ (.tail _ (.head _)))))) (g:=6) (ti:=183) zzw zzw Tryz.underlying183 amx Tryz.underlying290 Tryz.underlying292 rfl rfl Tryz.underlying9 zzw zzw;let bz:Nat->Nat:=λi=>if i=9 then b0 else if i=10 then b1 else bx i
 let dz:Nat->Int:=λi=>if i=9 then (o0:Int) else if i=10 then (o1:Int) else dx i
 have T0:=λem:Em=>Ys (name := "internal/strconv.uint64pow10") (k:=.u64) (zs:=PG) h (.tail _ (.tail _ (.head _))) (g:=0) zzw zzw Tryz.underlying254 Tryz.underlying118 zzw zzw zzx em;have T4:=λem:Em=>Ys (name := "math/bits.deBruijn32tab") (k:=.u8) (zs:=abt) h (.head _) (g:=4) zzw zzw Tryz.underlying273 Tryz.underlying5 zzw zzw zzx em;have T5:=λem:Em=>Ys (name := "math/bits.deBruijn64tab") (k:=.u8) (zs:=akp) h (.tail _ (.head _)) (g:=5) zzw zzw Tryz.underlying274 Tryz.underlying5 zzw zzw zzx em;have hj:∀j,11<=j->(Am.start W 8 N bz dz nx).b j=bx j/\(Am.start W 8 N bz dz nx).d j=dx j/\(Am.start W 8 N bz dz nx).n j=nx j:=by intro j hj;refine⟨?_,?_,?_⟩<;>simp only[Am.start,bz,dz]<;>(repeat rw[zz1 zzz])
 refine⟨Am.start W 8 N bz dz nx,RH.start bz dz nx zzz zzx fy ?_ ?_,rfl,hj⟩
 ·intro g l hm;simp only[qJ,aar,acC,ak5,or_false] at hm;rcases hm with⟨rfl,rfl⟩|⟨rfl,rfl⟩|⟨rfl,rfl⟩|⟨rfl,rfl⟩|⟨rfl,rfl⟩;·exact⟨zzx,zzx,T0 _⟩
  ·exact⟨zzx,zzx,T4 _⟩
  ·exact⟨zzx,zzx,T5 _⟩
  ·refine⟨zzx,zzx,_,t1,w1,λk v hv=>?_⟩;cases k with
   |zero=>
    simp only[adW,adn] at hv;subst hv;exact⟨_,rfl,.iface _ _ _ (.ptr (e:=Am.start W 8 N bz dz nx) 10 0 o1 (show (10:Nat)<N by omega) (by simp[Am.start,dz]))⟩
   |succ k=>simp at hv
  ·refine⟨zzx,zzx,_,t0,w0,λk v hv=>?_⟩;cases k with
   |zero=>
    simp only[adW,adn] at hv;subst hv;exact⟨_,rfl,.iface _ _ _ (.ptr (e:=Am.start W 8 N bz dz nx) 9 0 o0 (show (9:Nat)<N by omega) (by simp[Am.start,dz]))⟩
   |succ k=>simp at hv
 ·intro i o hm;obtain⟨h1,h2,h3,ob,h4,h5⟩:=hP i o hm;exact⟨zzz,h2,h3,ob,by have:=(hj i h1).1;simp only[Am.start,zz1 (show ¬i<8 by omega)] at this;rw[this];exact h4,h5 _ rfl hj⟩
theorem awU:Tryz.prog.globals.size<11:=by have hs:Tryz.prog.globals.size=8:=zzw;omega
theorem aqQ (el:Nat->TypeId):Rg (PN (Tryz.prog) ext Ot 20000 11 [] ⟨tI el qJ,11⟩)=true:=zzw
theorem aq0:Cf Tryz.prog 11 (Oy qJ 11):=
 ayh mixed amF alD alx Tryz.func11 rfl awU
  (by
   have hs:Tryz.prog.globals.size=8:=zzw;rw[hs];intro g l hm;simp only[qJ,aar,acC,ak5,or_false] at hm;rcases hm with⟨rfl,rfl⟩|⟨rfl,rfl⟩|⟨rfl,rfl⟩|⟨rfl,rfl⟩|⟨rfl,rfl⟩<;>exact⟨zzx,zzx,zzx,zzx⟩) λel=>aqQ el
noncomputable def ZT (g:Nat):Option Prim:=bif Nat.beq g 182 then some kJ.Mo else bif Nat.beq g 166 then some kJ.KR else bif Nat.beq g 173 then some kJ.Nv else bif Nat.beq g 192 then some jn.xv else Ot g
theorem apW:wB Tryz.prog ZT:=by
 intro aU p h args H v H' hp;unfold ZT at h;cases h1:Nat.beq aU 182 with
 |true=>
  rw[h1] at h;cases h;obtain rfl:=abx h1;exact kJ.axo args H v H' hp
 |false=>
  rw[h1] at h;clear h1;cases h1:Nat.beq aU 166 with
  |true=>
   rw[h1] at h;cases h;obtain rfl:=abx h1;exact kJ.ay3 args H v H' hp
  |false=>
   rw[h1] at h;clear h1;cases h1:Nat.beq aU 173 with
   |true=>
    rw[h1] at h;cases h;obtain rfl:=abx h1;exact kJ.avQ args H v H' hp
   |false=>
    rw[h1] at h;clear h1;cases h1:Nat.beq aU 192 with
    |true=>
     rw[h1] at h;cases h;obtain rfl:=abx h1;exact jn.aqk args H v H' hp
    |false=>
     rw[h1] at h;clear h1;exact alx aU p h args H v H' hp
noncomputable def bE (g:Nat):Option Prim:=bif Nat.beq g 11 then some (Oy qJ 11) else ZT g
theorem aEU:wB Tryz.prog bE:=by
 intro aU p h args H v H' hp;unfold bE at h;cases h1:Nat.beq aU 11 with
 |true=>
  rw[h1] at h;cases h;obtain rfl:=abx h1;exact aq0 args H v H' hp
 |false=>
  rw[h1] at h;clear h1;exact apW aU p h args H v H' hp
theorem ayo {Q:Type}{enc:TypeId×Value->Q}{g:Nat}{fn:Func}{b:Code}(hf:Tryz.prog.funcs[g]?=some fn)(hb:fn.body=some b)(an:Nat->K.An)(hA:K.z8 Tryz.prog an){W:World}(hL:laidMet Tryz.prog laid W)(fy:8<=W.heap.size){base:Nat}{spare:Nat->Bool}{held:Bool}(mh:∀b,spare b=true){uq:List K.Ty}{vs:List Value}
  (ha:K.Nw enc Tryz.prog W base spare held uq vs) (law:∀H as' ds,K.Jd H uq as' ds->Gh H qJ->11<=H.next->∃H',K.CK Tryz.prog (K.vh Tryz.prog) ext bE an (.func (.func g) [] []) as' H=some (.bool true,H')):
  Calls Tryz.prog g vs.toArray W λen w'=>en=.returned (.bool true)/\Below W.heap.size W w':=by
 obtain⟨as',os,ds,a1,a2,a3,a4⟩:=K.amZ mh ha 11;have hs:Tryz.prog.globals.size=8:=zzw;obtain⟨e,hR,hN,hj⟩:=auz hL fy (λi=>((os[i-11]?).map (·.b)).getD 0) (λ_=>0) (λi=>((os[i-11]?).map (·.n)).getD 0) (N:=11+os.length) zzz (PO:=K.AG 11 os) (by
  intro i o hm;obtain⟨j,ob,h1,rfl,rfl⟩:=K.aaK os 11 i o hm;have th:=(aak.1 h1).1;have aiW:∀e:Em,e.N=11+os.length->(∀j,11<=j->e.b j=((os[j-11]?).map (·.b)).getD 0/\e.d j=0/\e.n j=((os[j-11]?).map (·.n)).getD 0)->K.Fits e 11 os:=by intro e he hj;refine⟨zzz,λj o ho=>?_⟩;obtain⟨x,y,z⟩:=hj (11+j) zzz;rw[afX,ho] at x z;exact⟨x,y,z⟩
  have hex:∃ow,W.heap[ob.b]?=some ow:=by let e0:Em:=⟨λj=>((os[j-11]?).map (·.b)).getD 0,λ_=>0,λj=>((os[j-11]?).map (·.n)).getD 0,11+os.length⟩;obtain⟨ow,h,_⟩:=a2 e0 (aiW e0 rfl λj _=>⟨rfl,rfl,rfl⟩) j ob h1;exact⟨ow,h⟩
  obtain⟨ow,how⟩:=hex;refine⟨zzz,zzz,a3 ob (aad h1),ow,?_,λe he hj=>?_⟩;·rw[afX,h1];exact how
  ·obtain⟨ow2,h,h2⟩:=a2 e (aiW e he hj) j ob h1;rw[how] at h;cases h;exact h2)
 have Qa:K.Fits e 11 os:=by refine⟨zzz,λj o ho=>?_⟩;obtain⟨x,y,z⟩:=hj (11+j) zzz;rw[afX,ho] at x z;exact⟨x,y,z⟩
 have awI:K.Has ⟨uu (K.AG 11 os) (tI (Dl W) qJ),11+os.length⟩ 11 os:=⟨aaC _,λj o ho=>K.ah6 os 11 _ j o ho⟩;have hT:Gh ⟨uu (K.AG 11 os) (tI (Dl W) qJ),11+os.length⟩ qJ:=by
  refine⟨Dl W,λg l hm=>?_⟩;have hg:g<11:=by simp only[qJ,aar,acC,ak5,or_false] at hm;rcases hm with⟨rfl,rfl⟩|⟨rfl,rfl⟩|⟨rfl,rfl⟩|⟨rfl,rfl⟩|⟨rfl,rfl⟩<;>decide
  show (uu _ _).get g=_;rw[K.abp os 11 _ g hg];exact K.aiV _ _ zzx g l hm
 obtain⟨H',hk⟩:=law _ as' ds (a4 _ awI) hT (Nat.le_add_right _ _);refine (K.arn mixed amF alD aEU K.aqd hA hk hf hb hR (as':=vs.toArray) (by simpa using a1 e Qa)).mono λen w' ⟨e',v',h1,_,bg,hv⟩=>?_;have:=hv.yu;subst this;exact⟨h1,⟨bg.os,bg.tape,bg.output,bg.size,λk hk=>(bg.frame k hk).2⟩⟩
end Go.Proofs.YtodfajmihkagnaaGreatDoor.lR
namespace Go.Proofs.YtodfajmihkagnaaGreatDoor.bI
open Go Am Am.K lR
noncomputable section
abbrev zi (n:Int):AV:=.int .i64 n
abbrev zf (g:Nat):AV:=.func (.func g) [] []
noncomputable abbrev P:Program:=Tryz.prog
def zzM:List Nat:=[2,5,7,8,23,24,25,31,32,33]
def zzN:List Nat:=[1,2,3,4,14,15,16,22,23,24]
def zzO:List Nat:=[0,1]
def zzP:List Nat:=[2,5,7,8,23,24,25]
def zzQ:List Nat:=[1,2,3,14,15,16]
def zzR:List Nat:=[0,2,3]
def zzS:List Nat:=[0,3,4]
def zzT:List Nat:=[0,1,5,6,7,8,9,10]
def zzU:List Nat:=[1,3,7,8,56,57,58]
def zzV:List Nat:=[1,3,5,6,13,14,15]
def zzW:List Nat:=[1,2,4,11,12]
def zzX:List Nat:=[1,2,7,14,15,16]
def zzY:List Nat:=[0,2,3,20,21,22]
def de:An:=(.cd .nl .nl)
def zzE:An:=(.n .nl)
def zzD:An:=(.n zzE)
def zzF:An:=(.cd zzE .nl)
def zzH:An:=(.n de)
def zzA:An:=(.n zzF)
def zzK:An:=(.n zzD)
def zzI:An:=(.n (.q zzA zzE))
def zzJ:An:=(.n (.cd zzE zzA))
def zzL:An:=(.n (.cd .nl (.n (.cd .nl (.n (.cd .nl zzH))))))
def zzG:An:=(.n (.s [] (.n (.v [] (.lp [0,1,7,8] (.n (.q de (.s [0,1,7,8] (.b (.n (.t [0,1,5,7,8,16] zzF))) .nl)))))) zzE))
def zzB:An:=(.n (.s zzO (.t [0,1,10] zzF) (.s [] (.n (.v [] (.lp [0,1,12,13] (.n (.q de (.s [0,1,12,13] (.b (.n (.t [0,1,12,13,24] zzF))) .nl)))))) zzE)))
def zzC:An:=(.n (.s [0,1,2] (.t [0,1,2,14] zzF) (.s [] (.n (.v [] (.lp [1,2,15,16,17] (.n (.q de (.s [1,2,15,16,17] (.b (.t [1,2,7,8,15,16,17] (.t [1,2,8,9,15,16,17] (.t [1,2,15,16,17,30] zzF)))) .nl)))))) zzE)))
def anL:List (Nat×An):=[(88,zzD),
 (116,(.n (.q zzA (.s [0,1,2,3] zzA (.s [0,1,2,3] zzH (.t [0,1,2,3] (.n (.n (.n (.s [0,9,10] (.v [0,9,10] (.lp [0,1,2,3,9,10] (.q zzH (.b (.n (.q zzH (.t [0,1,2,3,9,10,11] (.t [0,1,2,3,9,10] .nl)))))))) (.t [9,10] zzE))))))))))),
 (150,(.n (.s zzO zzA (.s zzO zzA (.n (.v [4] (.lp [0,1,5] (.b zzI)))))))),
 (151,zzD),
 (117,zzD),
 (85,(.n (.s zzO (.n (.b zzJ)) (.n (.s [0,1,5] (.n (.cd (.s [0,1,5] (.t [0,1,5,29] de) .nl) .nl)) (.s [0,1,5] (.n (.v [0,1,5] (.lp [0,1,5,39,40,41] (.n (.q de (.s [0,1,5,39,40,41] (.b (.n (.s [0,1,5,7,39,40,41] (.t [0,1,5,7,39,40,41,49] de) .nl))) .nl)))))) (.n (.n (.n (.s [8] (.n (.v [8] (.lp [1,8,63,64,65] (.n (.q de (.s [1,8,63,64,65] (.b zzD) .nl)))))) zzE)))))))))),
 (172,(.n (.n (.s [0,1,5] (.b (.t [0,1,5,16] (.cd zzE (.n (.cd zzE (.t [0,1,5,31] (.cd zzE (.t [0,1,5,36] zzF)))))))) (.n (.n (.n (.t [0,1,5,6,7,8,9] (.n (.s [] (.v [] (.lp zzT (.q zzH (.b (.s zzT (.t [0,1,5,6,7,8,9,10,64] (.cd (.t [0,1,5,6,7,8,9,10,11] (.q zzA .nl)) .nl)) (.s zzT (.t [0,1,5,6,7,8,9,10,93] zzF) (.n (.n (.t [0,1,5,6,7,8,9,10,107] (.cd (.t [8,12] (.s [] zzA zzE)) (.t [0,1,5,6,7,8,9,10,132] (.cd (.t [8,13] (.q zzA zzE)) .nl)))))))))))) zzE)))))))))),
 (186,zzD),
 (152,(.n (.s [0] (.n zzA) zzE))),
 (112,(.n (.s zzO zzH (.t [0,1,21] de)))),
 (113,(.n (.n (.t [1] zzE)))),
 (114,zzD),
 (147,(.t [0,6] (.cd .nl (.t [19] de)))),
 (148,(.t [0,4] (.t [0,4] .nl))),
 (84,zzD),
 (111,zzD),
 (146,(.n (.s zzO (.n (.cd (.s [0] (.t [0,17] zzF) (.n (.n (.s [0,5,6] zzH (.n (.t [0,5,7] (.s [5,7] (.n (.cd zzD .nl)) zzE))))))) .nl)) (.t [9] zzE)))),
 (164,(.n (.s [0] zzA zzE))),
 (165,zzK),
 (181,zzD),
 (183,zzI),
 (104,zzG),
 (94,zzD),
 (177,(.n (.s [] (.n (.v [] (.lp [0,3,7,8] (.n (.q de (.s [0,3,7,8] (.b (.n (.t [0,3,5,7,8,16] zzF))) .nl)))))) zzE))),
 (158,zzD),
 (143,zzD),
 (163,zzG),
 (174,zzG),
 (154,zzD),
 (95,zzD),
 (135,zzG),
 (136,zzI),
 (137,zzI),
 (138,zzI),
 (30,zzI),
 (72,zzB),
 (73,zzB),
 (74,zzB),
 (75,zzC),
 (155,(.n (.s [1] (.t [1,13] zzF) (.n (.s [] (.n (.v [] (.lp [1,3,16,17,18] (.n (.q de (.s [1,3,16,17,18] (.b (.n (.s [1,3,5,16,17,18] (.t [1,3,5,16,17,18,45] zzF) .nl))) .nl)))))) zzE))))),
 (175,zzD),
 (176,(.n (.q zzA (.n (.s [7] (.n (.v [7] (.lp zzX (.n (.q de (.s zzX (.v zzX (.n (.t [1,2,7,9,14,15,16,24] de))) .nl)))))) zzD))))),
 (157,zzD),
 (156,(.n (.n (.n (.s [5] (.n (.v [5] (.lp [2,5,6,7] (.q zzH (.s [2,5,6,7] (.v [2,5,6,7] (.n (.s [2,5,7,8] (.n (.v [2,5,7,8] (.lp zzP (.n (.q de (.s zzP (.v zzP (.n (.t zzM (.v zzP (.lp zzM (.n (.q de (.s zzM (.v zzM (.n (.t [2,5,7,8,12,23,24,25,31,32,33,41] (.cd (.t [2,5,7,8,12,23,24,25,31,32,33] .nl) .nl)))) .nl)))))))) .nl)))))) .nl))) .nl))))) zzE))))),
 (126,(.n (.q zzA (.n (.s [1,3,4] (.n (.v [1,3,4] (.lp [1,3,4,15,16] (.n (.q de (.s [1,3,4,15,16] (.v [1,3,4,15,16] (.n (.t [1,3,4,5,6,15,16] (.t [1,3,4,5,6,15,16,35] de)))) .nl)))))) (.q zzA (.n (.s [7] (.n (.v [7] (.lp [1,3,7,8] (.q zzH (.s [1,3,7,8] (.v [1,3,7,8] (.t zzU (.v [1,3,7,8] (.lp zzU (.n (.q de (.s zzU (.b (.n (.t [1,3,7,8,10,56,57,58,74] zzF))) .nl))))))) .nl))))) zzE)))))))),
 (54,zzD),
 (153,(.n (.s [0] zzA (.t [0,4,5] zzE)))),
 (118,(.n (.t [0,1,2,3,9,10] (.s [10] (.n (.v [10] (.n (.cd (.s [] (.n (.v [] (.lp [0,3,23,24,25] (.n (.q de (.s [0,3,23,24,25] (.b (.n (.n (.q zzA .nl)))) .nl)))))) zzE) (.n (.cd .nl (.n (.cd .nl (.n (.cd .nl (.n (.cd (.t [2] zzE) .nl)))))))))))) zzE)))),
 (89,(.n (.t [0,1,4,6] (.n (.s [4,6] (.n (.v [4,6] (.lp [1,4,6,7,20,21,22] (.n (.q de (.s [1,4,6,7,20,21,22] (.b (.n (.t [1,4,6,7,9,10,11,20,21,22] (.n (.s [1,4,6,7,13,20,21,22] (.t [1,4,6,7,13,20,21,22,50] zzF) .nl))))) .nl)))))) zzE))))),
 (53,(.n (.s [0,2] zzA (.n (.n (.s [2,4,5] (.n (.v [2,4,5] (.lp [2,4,5,20,21,22] (.n (.q de (.s [2,4,5,20,21,22] (.b (.n (.n (.t [2,4,5,8,20,21,22] .nl)))) .nl)))))) (.n (.s [2,9] (.n (.v [2,9] (.lp [2,5,9,39,40,41] (.n (.q de (.s [2,5,9,39,40,41] (.b (.n (.t [2,5,9,12,13,39,40,41] (.s [2,5,9,12,39,40,41] zzA .nl)))) .nl)))))) (.s [2,9] (.n zzA) zzE))))))))),
 (119,zzD),
 (125,(.n (.s [] (.n (.v [] (.lp [1,8,9,10] (.n (.q de (.s [1,8,9,10] (.b (.t [1,5,6,8,9,10] zzA)) .nl)))))) zzE))),
 (90,(.n (.s [1] (.t [1,10] zzF) (.n (.s [1] (.t [1,18,19,20] (.v [1] (.lp [1,18,19,20] (.n (.q de (.s [1,18,19,20] (.b (.n zzA)) .nl)))))) (.s [] (.t [35] zzF) zzE)))))),
 (120,zzD),
 (121,(.n (.t [2,4,6] zzD))),
 (122,zzD),
 (123,zzD),
 (124,(.n (.s [] (.n (.v [] (.lp [1,2,3,9,10,11] (.n (.q de (.s [1,2,3,9,10,11] (.b (.t [1,2,3,7,8,9,10,11] (.t [1,2,3,9,10,11,34] zzF))) .nl)))))) zzE))),
 (55,(.n (.q zzA (.n (.s [3] (.n (.v [3] (.lp [1,3,13,14,15] (.n (.q de (.s [1,3,13,14,15] (.v [1,3,13,14,15] (.n (.n (.s zzV (.n (.v zzV (.lp [1,3,5,6,13,14,15,22,23,24] (.n (.q de (.s [1,3,5,6,13,14,15,22,23,24] (.b (.t [1,3,5,6,7,8,13,14,15,22,23,24] (.s [1,3,5,6,8,13,14,15,22,23,24] zzH .nl))) .nl)))))) (.t zzV (.s [1,3,6,13,14,15] zzH .nl)))))) .nl)))))) zzE))))),
 (92,zzI),
 (127,(.n (.t [1,2,3] (.s [2,3] (.n (.v [2,3] (.lp zzQ (.n (.q de (.s zzQ (.v zzQ (.t [1,2,3,4,5,14,15,16] (.n (.v zzQ (.lp zzN (.n (.q de (.s zzN (.v zzN (.n (.t [1,2,3,4,7,8,14,15,16,22,23,24] (.t [1,2,3,4,8,14,15,16,22,23,24,48] de)))) .nl)))))))) .nl)))))) zzE)))),
 (76,(.n (.s [1,2] (.n zzA) (.t [2,5] zzD)))),
 (97,(.n (.t [1,2] (.s [1,2] (.t [1,2,13,14,15] (.v [1,2] (.lp [1,2,13,14,15] (.n (.q de (.s [1,2,13,14,15] (.b (.t [1,2,3,4,13,14,15] .nl)) .nl)))))) (.t [1,2] (.t [1,2] zzE)))))),
 (106,(.n (.n (.s [1,2] (.t [1,2,10,11,12] (.v [1,2] (.lp [1,2,10,11,12] (.n (.q de (.s [1,2,10,11,12] (.b (.t [1,2,3,4,10,11,12] (.t [1,2,3,4,5,10,11,12] (.s [1,2,3,10,11,12] (.t [1,2,3,10,11,12,47] de) .nl)))) .nl)))))) zzH)))),
 (144,zzD),
 (108,(.n (.s [] (.b (.t [2,5] (.cd zzE zzA))) zzE))),
 (109,(.n (.s [1,2,3] (.n zzA) (.s [] (.t [2,8] (.t [28] zzF)) zzE)))),
 (78,(.n (.s [1,2,3,4,8] (.n zzA) (.t [1,2,3,4,8,11] (.s [1,2,3,4,8,11] (.b (.n (.cd zzE (.t [1,2,3,4,8,11,29] zzF)))) (.n (.t [1,4,8,11] (.t [4,8] zzE)))))))),
 (79,(.n (.s [1,2,3,4,8] (.t [1,2,3,4,8,10] zzA) (.n (.t [4,8] zzD))))),
 (107,(.t [0,2,6,7] (.s [0,6] (.t [0,2,6,7,28] zzF) (.t [0] .nl)))),
 (80,(.n (.s [1,3,4,8] (.t [1,3,4,8,10] zzA) zzK))),
 (77,(.n (.n (.s [2,4] (.n (.v [2,4] (.lp zzW (.n (.q de (.s zzW (.v zzW (.n (.t [1,2,4,5,6,11,12] (.v zzW (.t [1,2,4,5,6,11,12,19] (.cd .nl (.t [1,2,4,5,6,11,12,31] (.cd .nl (.t [1,2,4,6,11,12,40] de))))))))) .nl)))))) zzE)))),
 (81,(.n (.s [2,3,4] (.b (.n (.cd zzE (.t [2,3,4,11] (.cd zzE (.t [2,3,4,17] zzF)))))) (.n (.t [2,4] zzD))))),
 (110,zzD),
 (36,zzK),
 (71,zzD),
 (145,(.n (.s zzO (.t [0,1,12] zzF) (.n (.s [5] (.n (.v [5] (.lp [1,5,6] (.s [1,5,6] (.t [1,5,6,21] de) (.q (.b .nl) .nl))))) zzE))))),
 (50,zzD),
 (86,zzD),
 (115,(.n (.s [] (.n (.v [] (.lp [1,2,10] (.n (.q de (.b (.n (.t [1,2,7,10,19] zzF)))))))) zzE))),
 (48,(.n (.s [] (.n (.b (.n (.cd zzE (.n (.cd zzE (.s [3,8] zzH (.cd zzE (.n (.cd zzE (.s [3,13] zzH (.cd zzE zzJ)))))))))))) zzE))),
 (87,zzD),
 (52,(.n (.s [2] (.n (.b (.n (.cd zzE (.n (.cd zzE (.n (.cd zzE (.n (.cd (.n (.s [2,5] zzH zzE)) zzJ)))))))))) (.s [2] zzA zzE)))),
 (49,(.n (.t [1,2,4,5] (.s [4,5] (.n (.v [4,5] (.lp [2,4,5,12] (.n (.q de (.v [2,4,5,12] (.n (.n (.v [2,4,5,12] (.n (.cd .nl (.n (.cd .nl (.n (.cd .nl zzL))))))))))))))) zzE)))),
 (21,zzK),
 (51,zzD),
 (44,zzD),
 (33,(.n (.s [0,2,4] (.t [0,2,4,8,9] zzA) (.s [0,2,4] (.t [0,2,4,30] (.cd (.t [0,2,4] .nl) .nl)) (.t [0,2,4] (.t [2] zzE)))))),
 (83,(.n (.t [6,7] zzE))),
 (32,(.n (.n (.s [3] (.t [0,3,9,10,11] (.v [3] (.lp [0,3,9,10,11] (.n (.q de (.s [0,3,9,10,11] (.b zzE) .nl)))))) zzE)))),
 (82,(.n (.s [1,2] zzA zzK))),
 (58,zzD),
 (18,zzD),
 (16,(.n (.q zzA (.s [0,3] (.n (.b (.n (.cd zzE (.n (.cd zzE zzJ)))))) (.s [0,3] (.t [0,3,38] zzF) zzE))))),
 (40,(.n (.s [0,1,2] (.t [0,1,2,8] zzA) (.t [0,1,9,10] (.q zzA (.s [0,1,9] (.t [0,1,9,34] zzF) (.t [0,1,9] (.t [] zzE)))))))),
 (41,(.n (.t [0,3,5,6] (.t [0,3,5,6,8] (.s [0,3,5] (.b (.n (.cd zzE (.t [0,3,5,30] (.cd zzE (.t [0,3,5,37] (.cd zzE (.t [0,3,5,44] zzF)))))))) (.t [0,3,9,10] (.q zzA (.t [0,3] (.s [] zzH zzE))))))))),
 (42,(.n (.s zzO (.t [0,1,11] zzF) (.t zzO (.s [] (.t [0,1,20,21] (.v [] (.lp [0,1,20,21] (.n (.q de (.s [0,1,20,21] (.b zzE) .nl)))))) zzE))))),
 (43,(.n (.t [0,3,5] (.n (.n (.s [5,6,7] (.n (.v [5,6,7] zzL)) (.s [7] zzH zzE))))))),
 (59,zzD),
 (56,(.n (.t [4,6,7] (.s [4,6] zzA (.t [4,8] zzE))))),
 (29,zzD),
 (45,zzD),
 (60,zzD),
 (23,(.n (.t zzR (.s zzR (.t zzY (.v zzR (.lp zzY (.n (.q de (.s zzY (.b zzE) .nl)))))) (.s [2,3] (.t [2,3,41,42,43] (.v [2,3] (.lp [2,3,41,42,43] (.n (.q de (.s [2,3,41,42,43] (.b (.n (.t [2,3,7,41,42,43] .nl))) .nl)))))) zzE))))),
 (15,(.n zzK)),
 (34,zzD),
 (35,zzD),
 (13,(.n (.n (.s [3] (.n (.v [3] (.lp [3,7,8,9] (.n (.q de (.s [3,7,8,9] (.b zzE) .nl)))))) zzE)))),
 (22,(.n (.n (.s [1,4] (.t [1,4,55] zzF) (.t [1,4] (.s [1,4] (.n (.v [1,4] (.lp [1,4,62,63,64] (.n (.q de (.s [1,4,62,63,64] (.b (.t [1,4,5,6,62,63,64] (.t [1,4,5,6,7,62,63,64] (.t [1,4,62,63,64,101] zzF)))) .nl)))))) (.s [1,4] (.n (.v [1,4] (.lp [1,4,104,105,106] (.n (.q de (.s [1,4,104,105,106] (.b (.t [1,4,9,10,104,105,106] (.t [1,4,9,10,11,12,104,105,106] (.s [1,4,9,10,104,105,106] (.t [1,4,9,10,104,105,106,128] zzF) .nl)))) .nl)))))) (.s [4] (.n (.v [4] (.lp [4,148,149,150] (.n (.q de (.s [4,148,149,150] (.b (.n (.s [4,14,148,149,150] (.t [4,14,148,149,150,195] zzF) (.t [4,16,148,149,150] zzA)))) .nl)))))) zzE)))))))),
 (93,zzD),
 (57,(.n (.t [2,3,5,6] (.s [2,3,5] (.t [2,3,5,33] zzF) (.t [2,3,5] (.s [2,3] zzA (.s [2,3] (.n (.v [2,3] (.lp [2,3,48,49,50] (.n (.q de (.s [2,3,48,49,50] (.b (.t [2,3,7,8,48,49,50] (.t [2,3,7,8,9,48,49,50] (.t [2,3,48,49,50,104] zzF)))) .nl)))))) (.s [] (.n (.v [] (.lp [2,3,107,108,109] (.n (.q de (.s [2,3,107,108,109] (.b (.t [2,3,10,11,107,108,109] (.t [2,3,107,108,109,130] zzF))) .nl)))))) zzE)))))))),
 (96,zzD),
 (37,zzC),
 (38,zzC),
 (39,zzB),
 (98,zzD),
 (100,zzD),
 (140,zzD),
 (141,zzD),
 (139,(.n (.t [3,4] zzE))),
 (99,(.n (.s zzO zzA (.t [1,6,7] (.s [6,7] (.n (.v [6,7] (.lp [6,7,18,19,20] (.n (.q de (.s [6,7,18,19,20] (.b (.n (.t [6,7,18,19,20] .nl))) .nl)))))) zzE))))),
 (65,(.n (.t [3] zzE))),
 (62,(.s zzO (.v zzO (.lp zzO (.q zzH (.s zzO (.b .nl) .nl)))) .nl)),
 (61,.nl),
 (63,(.t zzO .nl)),
 (142,zzE),
 (101,(.n (.n (.s [0] (.n (.v [0] (.lp zzS (.s zzS (.t [0,3,4,23] de) (.s zzS (.b (.t [0,3,4,5] (.t [0,3,4,5] (.q zzH (.s zzS (.t [0,3,4,57] de) (.t [3] zzE)))))) .nl))))) zzD)))),
 (67,zzD),
 (103,(.n (.n (.s [0,5] (.t [0,5,32] (.cd zzD .nl)) (.t [0,5,6] (.t [6] zzE)))))),
 (102,(.n (.n (.s [5] (.t [0,5,20] (.cd zzD .nl)) zzE)))),
 (69,zzD),
 (26,(.n (.s zzO (.t [0,1,20] zzF) (.n (.n (.n (.n (.t [5,6] (.s [5,6] (.n (.v [5,6] (.lp [5,6,34,35,36] (.n (.q de (.s [5,6,34,35,36] (.b (.t [5,6,7,8,34,35,36] zzE)) .nl)))))) (.t [5,6] (.s [5,6] (.n (.v [5,6] (.lp [5,6,56,57,58] (.n (.q de (.s [5,6,56,57,58] (.b (.t [5,6,9,10,56,57,58] (.t [5,6,10,56,57,58] .nl))) .nl)))))) (.t [5,6] (.s [6] (.n (.v [6] (.lp [6,78,79,80] (.n (.q de (.s [6,78,79,80] (.b zzK) .nl)))))) (.n (.s [6] (.n (.v [6] (.lp [6,13,100] (.n (.q de (.s [6,13,100] (.b zzE) .nl)))))) zzE))))))))))))))),
 (64,(.n (.t [0,3] (.s [0,3] (.n (.v [0,3] (.lp [0,3,14,15,16] (.n (.q de (.s [0,3,14,15,16] (.b (.n (.t [0,3,5,14,15,16] (.t [0,3,5,14,15,16] zzE)))) .nl)))))) (.t [0,3] (.n (.v [] (.lp [0,46,47,48] (.n (.q de (.s [0,46,47,48] (.b zzE) .nl))))))))))),
 (105,(.n (.t [0,4,5] (.t [0,4,5,7] (.s [0,4,7] (.n (.v [0,4,7] (.lp [0,4,7,19,20] (.n (.q de (.s [0,4,7,19,20] (.b .nl) .nl)))))) (.s [4,7] (.n (.v [4,7] (.lp [0,4,7,38,39] (.n (.q de (.s [0,4,7,38,39] (.b .nl) .nl)))))) zzE)))))),
 (68,(.n (.t zzR (.s zzR (.n (.v zzR (.lp [0,2,3,11,12] (.n (.q de (.s [0,2,3,11,12] (.b (.t [0,2,3,11,12] .nl)) .nl)))))) (.s zzR (.n (.v zzR (.lp [0,2,3,30,31] (.n (.q de (.s [0,2,3,30,31] (.b (.n (.n (.s [0,2,3,4,5,30,31] (.t [0,2,3,4,5,6,30,31] zzH) (.t [0,2,3,5,30,31] .nl))))) .nl)))))) (.s [2,3] (.n (.v [2,3] (.lp [0,2,3,62,63] (.n (.q de (.s [0,2,3,62,63] (.b .nl) .nl)))))) zzE)))))),
 (27,(.n (.s [0] (.t [0,17] zzF) (.t [0,5] (.n (.n (.t [0,5,6,8,9] (.s [6,8] (.t [6,8,45] zzF) zzE)))))))),
 (66,zzI),
 (70,zzD),
 (25,(.n (.t [0,3] (.s [3] (.n (.v [3] (.lp zzS (.s zzS (.t [0,3,4,17] de) (.s zzS (.b .nl) .nl))))) zzE)))),
 (8,(.n (.q zzA (.q zzA (.t [0,3,4,5] (.s zzS zzA zzE)))))),
 (24,(.n (.n (.n (.t [1,2,3,4,5] zzE))))),
 (0,.nl)]
def an (g:Nat):An:=On anL g
abbrev cK:CF:=CK P (vh P) ext bE an
abbrev yS (n:Nat):=JT->GT->CF->K.Fn n
abbrev yL (n m:Nat):=JT->GT->CF->K.Fn n->K.Fn m
abbrev yB (n m:Nat):=JT->GT->CF->K.Fn n->K.Fn m->K.Fn m
def yX {n:Nat}(g:Nat)(p v:List Nat)(k:Nat)(c:List Nat)(J:JT)(G:GT)(cf:CF)(x:K.Fn n):K.Fn v.length:=Cc P an J G cf g p v λq t H=>match Nat.beq q k with|true=>app n x (aI c t) H|false=>none
abbrev yC0 (g:Nat)(s:yS 0):=∀{H:Hp} {r:AV×Hp},s JN GO cK  H=some r->cK (zf g) [] H=some r
section
variable {H:Hp}{a0 a1 a2:AV}{c:List Nat}{g k v0 v1 v2 v3 v4 v5:Nat}{r:AV×Hp}
theorem yM0 {s:yS 0}(e:∀J G cf H,Fb P J G bE an cf g [] H=s J G cf  H:=by intros;kernel_rfl):yC0 g s:=λh=>xe (first:=[]) (cap:=[]) ((e ..).trans h)
abbrev yC1 (g:Nat)(s:yS 1):=∀{a0:AV} {H:Hp} {r:AV×Hp},s JN GO cK a0 H=some r->cK (zf g) [a0] H=some r
theorem yM1 {s:yS 1}(e:∀J G cf (a0:AV) H,Fb P J G bE an cf g [a0] H=s J G cf a0 H:=by intros;kernel_rfl):yC1 g s:=λh=>xe (first:=[]) (cap:=[]) ((e ..).trans h)
abbrev yC2 (g:Nat)(s:yS 2):=∀{a0 a1:AV} {H:Hp} {r:AV×Hp},s JN GO cK a0 a1 H=some r->cK (zf g) [a0,a1] H=some r
theorem yM2 {s:yS 2}(e:∀J G cf (a0 a1:AV) H,Fb P J G bE an cf g [a0,a1] H=s J G cf a0 a1 H:=by intros;kernel_rfl):yC2 g s:=λh=>xe (first:=[]) (cap:=[]) ((e ..).trans h)
abbrev yC3 (g:Nat)(s:yS 3):=∀{a0 a1 a2:AV} {H:Hp} {r:AV×Hp},s JN GO cK a0 a1 a2 H=some r->cK (zf g) [a0,a1,a2] H=some r
theorem yM3 {s:yS 3}(e:∀J G cf (a0 a1 a2:AV) H,Fb P J G bE an cf g [a0,a1,a2] H=s J G cf a0 a1 a2 H:=by intros;kernel_rfl):yC3 g s:=λh=>xe (first:=[]) (cap:=[]) ((e ..).trans h)
abbrev yC4 (g:Nat)(s:yS 4):=∀{a0 a1 a2 a3:AV} {H:Hp} {r:AV×Hp},s JN GO cK a0 a1 a2 a3 H=some r->cK (zf g) [a0,a1,a2,a3] H=some r
theorem yM4 {s:yS 4}(e:∀J G cf (a0 a1 a2 a3:AV) H,Fb P J G bE an cf g [a0,a1,a2,a3] H=s J G cf a0 a1 a2 a3 H:=by intros;kernel_rfl):yC4 g s:=λh=>xe (first:=[]) (cap:=[]) ((e ..).trans h)
abbrev yQ2 {n:Nat}(l:yL n 2)(b:yB n 2):=∀(cf:CF) (x:K.Fn n) (a0 a1:AV) (H:Hp),l JN GO cf x a0 a1 H=b JN GO cf x (l JN GO cf x) a0 a1 H
theorem yq2 {n:Nat}{p:List Nat}{B:yB n 2}(h:∀J G cf x (j:K.Fn 2) (a0 a1:AV) H,wu P an J G cf g p [v0,v1] (λq t H=>match Nat.beq q k with|true=>app n x (aI c t) H|false=>none) j [a0,a1] H=B J G cf x j a0 a1 H:=by intros;kernel_rfl):yQ2 (yX g p [v0,v1] k c) B:=λcf x a0 a1 H=>(wF cf g p [v0,v1] _ [a0,a1] rfl H).trans (h ..)
abbrev yQ3 {n:Nat}(l:yL n 3)(b:yB n 3):=∀(cf:CF) (x:K.Fn n) (a0 a1 a2:AV) (H:Hp),l JN GO cf x a0 a1 a2 H=b JN GO cf x (l JN GO cf x) a0 a1 a2 H
theorem yq3 {n:Nat}{p:List Nat}{B:yB n 3}(h:∀J G cf x (j:K.Fn 3) (a0 a1 a2:AV) H,wu P an J G cf g p [v0,v1,v2] (λq t H=>match Nat.beq q k with|true=>app n x (aI c t) H|false=>none) j [a0,a1,a2] H=B J G cf x j a0 a1 a2 H:=by intros;kernel_rfl):yQ3 (yX g p [v0,v1,v2] k c) B:=λcf x a0 a1 a2 H=>(wF cf g p [v0,v1,v2] _ [a0,a1,a2] rfl H).trans (h ..)
abbrev yQ4 {n:Nat}(l:yL n 4)(b:yB n 4):=∀(cf:CF) (x:K.Fn n) (a0 a1 a2 a3:AV) (H:Hp),l JN GO cf x a0 a1 a2 a3 H=b JN GO cf x (l JN GO cf x) a0 a1 a2 a3 H
theorem yq4 {n:Nat}{p:List Nat}{B:yB n 4}(h:∀J G cf x (j:K.Fn 4) (a0 a1 a2 a3:AV) H,wu P an J G cf g p [v0,v1,v2,v3] (λq t H=>match Nat.beq q k with|true=>app n x (aI c t) H|false=>none) j [a0,a1,a2,a3] H=B J G cf x j a0 a1 a2 a3 H:=by intros;kernel_rfl):yQ4 (yX g p [v0,v1,v2,v3] k c) B:=λcf x a0 a1 a2 a3 H=>(wF cf g p [v0,v1,v2,v3] _ [a0,a1,a2,a3] rfl H).trans (h ..)
abbrev yQ5 {n:Nat}(l:yL n 5)(b:yB n 5):=∀(cf:CF) (x:K.Fn n) (a0 a1 a2 a3 a4:AV) (H:Hp),l JN GO cf x a0 a1 a2 a3 a4 H=b JN GO cf x (l JN GO cf x) a0 a1 a2 a3 a4 H
theorem yq5 {n:Nat}{p:List Nat}{B:yB n 5}(h:∀J G cf x (j:K.Fn 5) (a0 a1 a2 a3 a4:AV) H,wu P an J G cf g p [v0,v1,v2,v3,v4] (λq t H=>match Nat.beq q k with|true=>app n x (aI c t) H|false=>none) j [a0,a1,a2,a3,a4] H=B J G cf x j a0 a1 a2 a3 a4 H:=by intros;kernel_rfl):yQ5 (yX g p [v0,v1,v2,v3,v4] k c) B:=λcf x a0 a1 a2 a3 a4 H=>(wF cf g p [v0,v1,v2,v3,v4] _ [a0,a1,a2,a3,a4] rfl H).trans (h ..)
abbrev yQ6 {n:Nat}(l:yL n 6)(b:yB n 6):=∀(cf:CF) (x:K.Fn n) (a0 a1 a2 a3 a4 a5:AV) (H:Hp),l JN GO cf x a0 a1 a2 a3 a4 a5 H=b JN GO cf x (l JN GO cf x) a0 a1 a2 a3 a4 a5 H
theorem yq6 {n:Nat}{p:List Nat}{B:yB n 6}(h:∀J G cf x (j:K.Fn 6) (a0 a1 a2 a3 a4 a5:AV) H,wu P an J G cf g p [v0,v1,v2,v3,v4,v5] (λq t H=>match Nat.beq q k with|true=>app n x (aI c t) H|false=>none) j [a0,a1,a2,a3,a4,a5] H=B J G cf x j a0 a1 a2 a3 a4 a5 H:=by intros;kernel_rfl):yQ6 (yX g p [v0,v1,v2,v3,v4,v5] k c) B:=λcf x a0 a1 a2 a3 a4 a5 H=>(wF cf g p [v0,v1,v2,v3,v4,v5] _ [a0,a1,a2,a3,a4,a5] rfl H).trans (h ..)
abbrev yQ7 {n:Nat}(l:yL n 7)(b:yB n 7):=∀(cf:CF) (x:K.Fn n) (a0 a1 a2 a3 a4 a5 a6:AV) (H:Hp),l JN GO cf x a0 a1 a2 a3 a4 a5 a6 H=b JN GO cf x (l JN GO cf x) a0 a1 a2 a3 a4 a5 a6 H
theorem yq7 {n:Nat}{p:List Nat}{v6:Nat}{B:yB n 7}(h:∀J G cf x (j:K.Fn 7) (a0 a1 a2 a3 a4 a5 a6:AV) H,wu P an J G cf g p [v0,v1,v2,v3,v4,v5,v6] (λq t H=>match Nat.beq q k with|true=>app n x (aI c t) H|false=>none) j [a0,a1,a2,a3,a4,a5,a6] H=B J G cf x j a0 a1 a2 a3 a4 a5 a6 H:=by intros;kernel_rfl):yQ7 (yX g p [v0,v1,v2,v3,v4,v5,v6] k c) B:=λcf x a0 a1 a2 a3 a4 a5 a6 H=>(wF cf g p [v0,v1,v2,v3,v4,v5,v6] _ [a0,a1,a2,a3,a4,a5,a6] rfl H).trans (h ..)
def adY:yS 2:=λJ G cf a0 a1 H=>B2 (cf (zf 116) [a0,a1,(zi 0),(zi (-1))] H) λv0 h1=>some (v0,h1)
theorem aoe:yC2 88 adY:=yM2
def WJ:yB 3 6:=λJ G cf uL gP bG cn bN eK dI gF eG=>B1 (ba gF eK) λeM=>CD eM (B2 (cf (zf 151) [bG,cn] eG) λv44 jm=>B1 (ba v44 (zi 0)) λv46=>CD v46 (uL bG dI gF jm) (J 7 (λBe=>B1 (aZ v44 bN) λfA=>B1 (qc bG none (some fA)) λv49=>B1 (ia 1 dI gF) λgm=>B1 (st 1 gm v49 jm) λjO=>Be bG cn bN eK dI gF v44 jO) (λgr iw jb gu eY fN fD sE=>J 6 (λY6=>B1 (lens iw) λlK=>B1 (aZ fD lK) λgW=>B1 (qc gr (some gW) none) λv63=>Y6 v63 iw jb gu eY fN sE) (λfH fw mW gH gK kj tE=>B1 (aZ kj (zi 1)) λmD=>gP fH fw mW gH gK mD tE)))) (uL bG dI gF eG)
def YZ:yL 3 6:=yX 116 [1,1,1,1,1,1,1,1,0,0,0] [0,1,2,3,9,10] 0 [0,9,10]
theorem agF:yQ6 YZ WJ:=yq6
def afL:yS 4:=λJ G cf a0 a1 a2 a3 H=>B1 (bD a3 (zi 0)) λv0=>CD v0 (some (.ah,H)) (J 4 (λj1=>B1 (seq a1 (.str [])) λv2=>CD v2 (B2 (cf (zf 149) [a0,a3] H) λv3 h4=>some (v3,h4)) (j1 a0 a1 a2 a3 H)) (λx5 x6 x7 x8 h9=>J 4 (λbh=>B1 (ba x8 (zi 0)) λv11=>CD v11 (B2 (cf (zf 150) [x5,x6] h9) λv12 fL=>B1 (aZ v12 (zi 1)) λbq=>bh x5 x6 x7 bq fL) (bh x5 x6 x7 x8 h9)) (λdN bT cG bK dL=>J 4 (λaK=>B1 (lens dN) λv21=>B1 (aZ v21 (zi 1)) λv22=>B2 (iW P .min #[3,3] [bK,v22] dL) λv23 fW=>aK dN bT cG v23 fW) (λbV di dm eh c8=>B2 (Br [(.str [])] 9 1 eh eh c8) λv30 gR=>B1 (oL eh (zi 1)) λv32=>J 3 (λpz=>J 3 (λuL=>YZ J G cf uL bV di dm v32 v30 (zi 0) gR) (λoW jy ju ng=>pz oW jy ju ng)) (λir gk gD il=>J 2 (λLy=>B1 (ia 1 gk gD) λki=>B1 (st 1 ki ir il) λrE=>Ly gk gD rE) (λnb mM qG=>B1 (aZ mM (zi 1)) λrf=>B1 (nG 1 nb none (some rf) none) λv87=>some (v87,qG)))))))
theorem anh:yC4 116 afL:=yM4
def arA:yL 1 3:=yX 150 [1,1,1,1,0,0] [0,1,5] 0 [4]
def akH:yS 2:=λJ G cf a0 a1 H=>J 2 (λj0=>B1 (lens a1) λv1=>B1 (bD v1 (zi 0)) λv2=>CD v2 (B2 (cf (zf 170) [a0] H) λv3 h4=>B1 (aZ v3 (zi 1)) λv5=>some (v5,h4)) (j0 a0 a1 H)) (λx6 x7 h8=>J 2 (λj9=>B1 (lens x7) λv10=>B1 (bD v10 (zi 1)) λv11=>CD v11 (B1 (zw x7 (zi 0)) λv12=>B2 (cf (zf 171) [x6,v12] h8) λcN ik=>some (cN,ik)) (j9 x6 x7 h8)) (λdN bT eH=>J 1 (λpg=>arA J G cf pg dN bT (zi 0) eH) (λbX cH=>some (bX,cH))))
theorem aEN:yC2 150 akH:=yM2
def ag8:yS 2:=λJ G cf a0 a1 H=>B2 (cf (zf 172) [a0,a1] H) λv0 h1=>some (v0,h1)
theorem aBk:yC2 151 ag8:=yM2
def acg:yS 2:=λJ G cf a0 a1 H=>B2 (cf (zf 152) [a0,a1] H) λv0 h1=>B1 (ex 0 v0) λv2=>B1 (ex 1 v0) λv3=>B1 (ex 2 v0) λv4=>some (.tuple [v2,v3,v4],h1)
theorem ayB:yC2 117 acg:=yM2
def VZ:yB 3 6:=λJ G cf K6 vY gF fP eV lz iB jz nN=>B1 (ba jz iB) λfA=>CD fA (J 6 (λj49=>B1 (ia 1 lz jz) λgm=>B1 (ld gm nN) λv51=>J 7 (λj52=>J 8 (λLs=>B1 (lens v51) λiI=>B1 (oL (zi 9223372036854775807) eV) λfR=>B1 (iP iI fR) λjq=>Ls gF fP eV v51 lz iB jz jq nN) (λfN fD dV et dc iO gI fH nC=>CD fH (none) (j52 fN fD dV et dc iO gI nC))) (λmW gH gK kj jA nY oW zM=>B1 (lens kj) λjN=>B1 (aZ gK jN) λv75=>j49 mW gH v75 jA nY oW zM)) (λir gk gD qd pA og rE=>B1 (aZ og (zi 1)) λkL=>vY ir gk gD qd pA kL rE)) (K6 gF fP eV nN)
def Zn:yL 3 6:=yX 85 [1,1,1,1,0,1,0,0] [0,1,5,39,40,41] 1 [0,1,5]
theorem afm:yQ6 Zn VZ:=yq6
def VO:yB 1 5:=λJ G cf KA avC BS tD oD rX ma yk=>B1 (ba ma rX) λyR=>CD yR (J 5 (λanI=>B1 (ia 1 oD ma) λuP=>B1 (ld uP yk) λwq=>B2 (cf (zf 113) [tD,BS] yk) λtZ rJ=>B2 (cf (zf 113) [tD,wq] rJ) λv117 CP=>anI BS tD oD rX ma CP) (λpQ pD qo sL uM qC=>B1 (aZ uM (zi 1)) λxJ=>avC pQ pD qo sL xJ qC)) (KA tD yk)
def Wb:yL 1 5:=yX 85 [1,1,1,1,1,1,1,1,0,1,0,0] [1,8,63,64,65] 3 [8]
theorem alM:yQ5 Wb VO:=yq5
def Qd:yS 2:=λJ G cf a0 a1 H=>J 2 (λj0=>B1 (aG a0) λv1=>B1 (bD v1 (zi 0)) λv2=>CD v2 (some ((.str []),H)) (B1 (bD v1 (zi 1)) λv3=>CD v3 (B1 (ia 1 a0 (zi 0)) λv4=>B1 (ld v4 H) λv5=>some (v5,H)) (j0 a0 a1 H))) (λx6 x7 h8=>J 3 (λj9=>B1 (lens x7) λv10=>B1 (iP v10 (zi 0)) λv11=>CD v11 (J 3 (λei=>J 4 (λez=>B1 (lens x7) λbq=>B1 (aG x6) λdX=>B1 (oL dX (zi 1)) λcF=>B1 (Fy (zi 9223372036854775807) cF) λef=>B1 (lI bq ef) λcg=>ez x6 x7 (zi 0) cg h8) (λbU dD bf bo df=>CD bo (none) (ei bU dD bf df))) (λcZ bV di eO=>B1 (lens bV) λv28=>B1 (aG cZ) λv29=>B1 (oL v29 (zi 1)) λv30=>B1 (uT v28 v30) λv31=>B1 (aZ di v31) λv32=>j9 cZ bV v32 eO)) (j9 x6 x7 (zi 0) h8)) (λfC dT cI np=>J 3 (λLt=>B1 (aG fC) λgO=>J 3 (λK6=>Zn J G cf K6 fC dT cI fC gO (zi 0) np) (λmM me nV pE=>Lt mM me nV pE)) (λnI Bq CT y8=>BN (aA y8 [.db,.ah] 180 0) λi92 Hy=>B2 (cf (zf 112) [(.ptr i92 0),CT] Hy) λtG mY=>B1 (ia 1 nI (zi 0)) λlj=>B1 (ld lj mY) λA9=>B2 (cf (zf 113) [(.ptr i92 0),A9] mY) λxq DD=>J 1 (λas3=>B1 (nG 1 nI (some (zi 1)) none none) λwg=>B1 (aG wg) λsf=>J 1 (λKA=>Wb J G cf KA Bq (.ptr i92 0) wg sf (zi 0) DD) (λkG Vo=>as3 kG Vo)) (λjc Jm=>B2 (cf (zf 114) [jc] Jm) λv130 Dh=>some (v130,Dh)))))
theorem S8:yC2 85 Qd:=yM2
def atd:yL 0 8:=yX 172 [1,1,1,1,1,1,1,1,0,0,0] [0,1,5,6,7,8,9,10] 1 []
def al5:yS 2:=λJ G cf a0 a1 H=>B1 (lens a1) λv0=>J 3 (λj1=>J 4 (λj2=>B1 (bD v0 (zi 0)) λv3=>G v3 false (λk4=>k4 a1 H) (λv5 h6=>G v3 false (λk7=>k7 a0 h6) (λv8 h9=>G v3 false (λwm=>B1 (seq v5 v8) λv11=>wm v11 h9) (λv12 fL=>B1 (pk v3 (.bool true) v12) λbq=>j2 a0 a1 v0 bq fL) h9) h6) H) (λdN bT cG bK dL=>CD bK (some ((zi 0),dL)) (B1 (bD cG (zi 1)) λv20=>CD v20 (B1 (zw bT (zi 0)) λv21=>B2 (cf (zf 186) [dN,v21] dL) λv22 df=>some (v22,df)) (J 4 (λDJ=>B1 (lens dN) λv25=>B1 (lI cG v25) λv26=>DJ dN bT cG v26 dL) (λdm eh dq dJ gR=>CD dJ (some ((zi (-1)),gR)) (J 4 (λfB=>B1 (ld (.ptr 1 0) gR) λeU=>B1 (pW dq eU) λcP=>G cP true (λvC=>vC dm gR) (λv36 gN=>G cP true (λyj=>B1 (lens v36) λfc=>yj fc gN) (λv40 fZ=>G cP true (λBG=>B1 (pW v40 (zi 64)) λeM=>BG eM fZ) (λv44 jm=>B1 (pk cP v44 (.bool false)) λv46=>fB dm eh dq v46 jm) fZ) gN) gR) (λgS gM gB iv jO=>CD iv (B2 (cf (zf 187) [gS,gM] jO) λgE gU=>some (gE,gU)) (j1 gS gM gB jO)))))))) (λjb gu eY oa=>B1 (zw gu (zi 0)) λjR=>B1 (zw gu (zi 1)) λv59=>J 7 (λY6=>B1 (lens jb) λlK=>B1 (oL lK eY) λgW=>B1 (aZ gW (zi 1)) λv63=>Y6 jb gu eY jR v59 (zi 0) v63 oa) (λfH fw mW gH gK kj jA jJ=>J 0 (λBf=>J 0 (λj73=>atd J G cf j73 fH fw mW gH gK kj jA (zi 0) jJ) (λavl=>Bf  avl)) (λari=>some ((zi (-1)),ari))))
theorem ava:yC2 172 al5:=yM2
def al3:yS 2:=λJ G cf a0 a1 H=>B2 (cf (zf 197) [a0,a1] H) λv0 h1=>some (v0,h1)
theorem az9:yC2 186 al3:=yM2
def akr:yS 2:=λJ G cf a0 a1 H=>J 1 (λj0=>B2 (cf (zf 172) [a0,a1] H) λv1 h2=>B1 (lI v1 (zi 0)) λv3=>CD v3 (B1 (qc a0 none (some v1)) λv4=>B1 (lens a1) λv5=>B1 (aZ v1 v5) λv6=>B1 (qc a0 (some v6) none) λv7=>some (.tuple [v4,v7,(.bool true)],h2)) (j0 a0 h2)) (λx8 h9=>some (.tuple [x8,(.str []),(.bool false)],h9))
theorem aqu:yC2 152 akr:=yM2
def amM:yS 2:=λJ G cf a0 a1 H=>B2 (cf (zf 147) [a0] H) λv0 h1=>J 2 (λj2=>B1 (ba a1 (zi 0)) λv3=>CD v3 (none) (j2 a0 a1 h1)) (λx4 x5 h6=>J 3 (λj7=>B1 (aJ x4) λv8=>B1 (fa 1 v8) λv9=>B1 (ld v9 h6) λv10=>B2 (iW P .cap #[52] [v10] h6) λv11 dZ=>B1 (aJ x4) λcN=>B1 (fa 1 cN) λbq=>B1 (ld bq h6) λdX=>B1 (aG dX) λcF=>B1 (oL v11 cF) λef=>B1 (ba ef x5) λcg=>j7 x4 x5 cg h6) (λbU dD bf hU=>CD bf (B2 (cf (zf 148) [bU,dD] hU) λv23 fW=>some (.tuple [],fW)) (some (.tuple [],hU))))
theorem aoc:yC2 112 amM:=yM2
def ado:yS 2:=λJ G cf a0 a1 H=>B2 (cf (zf 147) [a0] H) λv0 h1=>J 1 (λj2=>B1 (aJ a0) λv3=>B1 (fa 1 v3) λv4=>B1 (ld v4 h1) λv5=>B2 (cY 5 1 [(.int .u8 0)] false v5 a1 h1) λv6 h7=>B1 (aJ a0) λv8=>B1 (fa 1 v8) λv9=>B1 (st 1 v9 v6 h7) λcl=>j2 a1 cl) (λbR dZ=>B1 (lens bR) λcN=>some (.tuple [cN,.nilIface],dZ))
theorem aqT:yC2 113 ado:=yM2
def agR:yS 1:=λJ G cf a0 H=>B1 (aJ a0) λv0=>B1 (fa 1 v0) λv1=>B1 (ld v1 H) λv2=>B2 (iW P .unsafeSliceData #[52] [v2] H) λv3 h4=>B1 (aJ a0) λv5=>B1 (fa 1 v5) λv6=>B1 (ld v6 h4) λv7=>B1 (aG v7) λv8=>B2 (iW P .unsafeString #[222,3] [v3,v8] h4) λv9 cl=>B1 (ld v6 H) λv11=>SM v7 v11 <| B1 (aG v7) λv12=>SM v8 v12 <| some (v9,cl)
theorem aBw:yC1 114 agR:=yM1
def Tp:yS 1:=λJ G cf a0 H=>J 2 (λj0=>B1 (aJ a0) λv1=>B1 (fa 0 v1) λv2=>B1 (ld v2 H) λv3=>B1 (zd .eql (pe v3 .db H)) λv4=>j0 a0 v4 H) (λx5 x6 h7=>CD x6 (B2 (kD P 178 242 x5 h7) λv8 h9=>B2 (cf (zf 168) [v8] h9) λv10 eP=>B2 (kD P 242 178 v10 eP) λv12 fL=>B1 (aJ x5) λbq=>B1 (fa 0 bq) λdX=>B1 (st 1 dX v12 fL) λbL=>some (.tuple [],bL)) (J 1 (λnR=>B1 (aJ x5) λcg=>B1 (fa 0 cg) λeZ=>B1 (ld eZ h7) λv20=>B1 (zd .neq (pe v20 x5 h7)) λv21=>nR v21 h7) (λbo df=>CD bo (none) (some (.tuple [],df)))))
theorem akc:yC1 147 Tp:=yM1
def agp:yS 2:=λJ G cf a0 a1 H=>J 2 (λj0=>B1 (aJ a0) λv1=>B1 (fa 1 v1) λv2=>B1 (ld v2 H) λv3=>B2 (iW P .cap #[52] [v3] H) λv4 h5=>B1 (uT (zi 2) v4) λv6=>B1 (aZ v6 a1) λv7=>B2 (cf (zf 169) [v7] H) λv8 h9=>B1 (aJ a0) λv10=>B1 (fa 1 v10) λv11=>B1 (ld v11 h9) λv12=>B1 (aG v12) λcN=>B1 (nG 1 v8 none (some cN) none) λbq=>B1 (ld v11 H) λdX=>SM v12 dX <| B1 (aG v12) λcF=>SM cN cF <| j0 a0 bq h9) (λcG bK dL=>J 2 (λaK=>B1 (aJ cG) λv21=>B1 (fa 1 v21) λv22=>B1 (ld v22 dL) λv23=>B2 (IT 1 bK v23 dL) λv24 dR=>aK cG bK dR) (λdi dm hZ=>B1 (aJ di) λv29=>B1 (fa 1 v29) λv30=>B1 (st 1 v30 dm hZ) λgR=>some (.tuple [],gR)))
theorem aAD:yC2 148 agp:=yM2
def ack:yS 1:=λJ G cf a0 H=>B2 (cf (zf 111) [a0] H) λv0 h1=>some (v0,h1)
theorem avF:yC1 84 ack:=yM1
def ahN:yS 1:=λJ G cf a0 H=>B2 (cf (zf 146) [a0,(zi 10)] H) λv0 h1=>some (v0,h1)
theorem apF:yC1 111 ahN:=yM1
def Qw:yS 2:=λJ G cf a0 a1 H=>J 2 (λj0=>B1 (bD a1 (zi 10)) λv1=>CD v1 (J 1 (λj2=>J 2 (λj3=>B1 (pW (zi 0) a0) λv4=>G v4 true (λk5=>k5 a0 H) (λv6 h7=>G v4 true (λk8=>B1 (ba v6 (zi 100)) λv9=>k8 v9 h7) (λv10 eP=>B1 (pk v4 v10 (.bool false)) λv12=>j3 a0 v12 eP) h7) H) (λbJ dQ dK=>CD dQ (B2 (cf (zf 164) [bJ] dK) λcF eH=>some (cF,eH)) (j2 bJ dK))) (λbK dL=>BN (aA dL [(.int .u8 0),(.int .u8 0),(.int .u8 0),(.int .u8 0),(.int .u8 0),(.int .u8 0),(.int .u8 0),(.int .u8 0),(.int .u8 0),(.int .u8 0),(.int .u8 0),(.int .u8 0),(.int .u8 0),(.int .u8 0),(.int .u8 0),(.int .u8 0),(.int .u8 0),(.int .u8 0),(.int .u8 0),(.int .u8 0),(.int .u8 0),(.int .u8 0),(.int .u8 0),(.int .u8 0)] 238 0) λi20 jM=>B1 (cv .u64 bK) λv22=>J 3 (λdS=>B1 (ba bK (zi 0)) λv24=>CD v24 (B1 (dY .neg v22) λv25=>dS bK (.ptr i20 0) v25 jM) (dS bK (.ptr i20 0) v22 jM)) (λdi dm eh c8=>B2 (cf (zf 165) [eh] c8) λv30 gR=>J 3 (λfB=>B1 (aZ (zi 1) v30) λeU=>B1 (tR P 238 dm (some (zi 1)) (some eU) none gR) λcP=>B2 (cf (zf 166) [cP,eh] gR) λv35 np=>fB di dm v30 np) (λcn bN eK nc=>J 2 (λFe=>B1 (ba cn (zi 0)) λcW=>CD cW (B1 (pV 24 1 bN (zi 0)) λeM=>B1 (st 1 eM (.int .u8 45) nc) λdP=>B1 (aZ (zi 1) eK) λdU=>B1 (tR P 238 bN none (some dU) none dP) λv46=>B1 (xf v46 dP) λiA=>some (iA,dP)) (Fe bN eK nc)) (λgM gB kU=>B1 (aZ (zi 1) gB) λv51=>B1 (tR P 238 gM (some (zi 1)) (some v51) none kU) λgE=>B1 (xf gE kU) λv53=>some (v53,kU)))))) (j0 a0 a1 H)) (λjb gu jo=>J 1 (λKD=>B1 (cv .u64 jb) λjR=>B1 (ba jb (zi 0)) λv59=>B2 (cf (zf 167) [.ah,jR,gu,v59,(.bool false)] jo) λfE kE=>B1 (ex 0 fE) λgW=>B1 (ex 1 fE) λv63=>KD v63 kE) (λfH nC=>some (fH,nC)))
theorem Wf:yC2 146 Qw:=yM2
def afg:yS 1:=λJ G cf a0 H=>J 1 (λj0=>B1 (ba a0 (zi 10)) λv1=>CD v1 (B1 (aZ a0 (zi 1)) λv2=>B1 (qc (.str [48,49,50,51,52,53,54,55,56,57,97,98,99,100,101,102,103,104,105,106,107,108,109,110,111,112,113,114,115,116,117,118,119,120,121,122]) (some a0) (some v2)) λv3=>some (v3,H)) (j0 a0 H)) (λx4 h5=>B1 (uT x4 (zi 2)) λv6=>B1 (uT x4 (zi 2)) λv7=>B1 (aZ v7 (zi 2)) λv8=>B1 (qc (.str [48,48,48,49,48,50,48,51,48,52,48,53,48,54,48,55,48,56,48,57,49,48,49,49,49,50,49,51,49,52,49,53,49,54,49,55,49,56,49,57,50,48,50,49,50,50,50,51,50,52,50,53,50,54,50,55,50,56,50,57,51,48,51,49,51,50,51,51,51,52,51,53,51,54,51,55,51,56,51,57,52,48,52,49,52,50,52,51,52,52,52,53,52,54,52,55,52,56,52,57,53,48,53,49,53,50,53,51,53,52,53,53,53,54,53,55,53,56,53,57,54,48,54,49,54,50,54,51,54,52,54,53,54,54,54,55,54,56,54,57,55,48,55,49,55,50,55,51,55,52,55,53,55,54,55,55,55,56,55,57,56,48,56,49,56,50,56,51,56,52,56,53,56,54,56,55,56,56,56,57,57,48,57,49,57,50,57,51,57,52,57,53,57,54,57,55,57,56,57,57]) (some v6) (some v8)) λv9=>some (v9,h5))
theorem aAV:yC1 164 afg:=yM1
def ajB:yS 1:=λJ G cf a0 H=>B2 (cf (zf 182) [a0] H) λv0 h1=>B2 (cf (zf 181) [v0] h1) λv2 h3=>B1 (pV 20 1 (.ptr 0 0) v2) λv4=>B1 (ld v4 h3) λv5=>B1 (lI a0 v5) λv6=>B2 (cf (zf 183) [v6] h3) λv7 h8=>B1 (aZ v2 v7) λv9=>some (v9,h8)
theorem ayb:yC1 165 ajB:=yM1
def aed:yS 1:=λJ G cf a0 H=>B1 (uT a0 (zi 78913)) λv0=>B1 (rG v0 (.int .u64 18)) λv1=>some (v1,H)
theorem aDa:yC1 181 aed:=yM1
def Sk:yS 1:=λJ G cf a0 H=>CD a0 (some ((zi 1),H)) (some ((zi 0),H))
theorem aiN:yC1 183 Sk:=yM1
def Uw:yB 0 4:=λJ G cf j2 j3 x4 x5 x6 x7 h8=>B1 (ba x7 x6) λv9=>CD v9 (J 4 (λbh=>J 6 (λpI=>B1 (ia 1 x4 x7) λv12=>B1 (ld v12 h8) λcN=>B1 (seq x5 cN) λbq=>pI x4 x5 x7 x6 x7 bq h8) (λdN bT cG bK bU dD jM=>CD dD (some (cG,jM)) (bh dN bT bK bU jM))) (λbo bO cZ bV eI=>B1 (aZ bV (zi 1)) λv27=>j3 bo bO cZ v27 eI)) (j2  h8)
def XK:yL 0 4:=yX 104 [1,0,1,0,0] [0,1,7,8] 0 []
theorem aly:yQ4 XK Uw:=yq4
def ak0:yS 2:=λJ G cf a0 a1 H=>J 0 (λj0=>B1 (aG a0) λv1=>J 0 (λj2=>XK J G cf j2 a0 a1 v1 (zi 0) H) (λhZ=>j0  hZ)) (λc8=>some ((zi (-1)),c8))
theorem ayw:yC2 104 ak0:=yM2
def aho:yS 2:=λJ G cf a0 a1 H=>B2 (cf (zf 104) [a0,a1] H) λv0 h1=>B1 (lI v0 (zi 0)) λv2=>some (v2,h1)
theorem axY:yC2 94 aho:=yM2
def We:yB 0 4:=λJ G cf j4 j5 x6 x7 x8 x9 cl=>B1 (ba x9 x8) λv11=>CD v11 (J 4 (λei=>J 6 (λez=>B1 (aB 2 x7 cl) λbq=>B1 (ia 2 x6 x9) λdX=>B1 (aB 2 dX cl) λcF=>xT (gA P .eql 231 false bq cF) <| B1 (fT P .eql 231 bq cF cl) λef=>ez x6 x7 x9 x8 x9 ef cl) (λbK bU dD bf bo bO fW=>CD bO (some (dD,fW)) (ei bK bU bf bo fW))) (λbV di dm eh c8=>B1 (aZ eh (zi 1)) λv30=>j5 bV di dm v30 c8)) (j4  cl)
def YT:yL 0 4:=yX 177 [1,0,1,0,0] [0,3,7,8] 0 []
theorem ajS:yQ4 YT We:=yq4
def ae3:yS 2:=λJ G cf a0 a1 H=>BN (bx 231 a1 H) λi0 h1=>J 0 (λj2=>B1 (aG a0) λv3=>J 0 (λj4=>YT J G cf j4 a0 (.ptr i0 0) v3 (zi 0) h1) (λgR=>j2  gR)) (λcH=>some ((zi (-1)),cH))
theorem axU:yC2 177 ae3:=yM2
def als:yS 2:=λJ G cf a0 a1 H=>BN (bx 231 a1 H) λi0 h1=>B1 (aB 2 (.ptr i0 0) h1) λv2=>B2 (cf (zf 177) [a0,v2] h1) λv3 h4=>B1 (lI v3 (zi 0)) λv5=>some (v5,h4)
theorem aBl:yC2 158 als:=yM2
def aiz:yS 2:=λJ G cf a0 a1 H=>B2 (cf (zf 163) [a0,a1] H) λv0 h1=>B1 (lI v0 (zi 0)) λv2=>some (v2,h1)
theorem aDD:yC2 143 aiz:=yM2
def Ph:yB 0 4:=λJ G cf j2 j3 x4 x5 x6 x7 h8=>B1 (ba x7 x6) λv9=>CD v9 (J 4 (λbh=>J 6 (λpI=>B1 (ia 1 x4 x7) λv12=>B1 (ld v12 h8) λcN=>B2 (cf x5 [cN] h8) λbq dK=>pI x4 x5 x7 x6 x7 bq dK) (λbT cG bK bU dD bf hU=>CD bf (some (bK,hU)) (bh bT cG bU dD hU))) (λbO cZ bV di eO=>B1 (aZ di (zi 1)) λv28=>j3 bO cZ bV v28 eO)) (j2  h8)
def TU:yL 0 4:=yX 163 [1,0,1,0,0] [0,1,7,8] 0 []
theorem TG:yQ4 TU Ph:=yq4
def alw:yS 2:=λJ G cf a0 a1 H=>J 0 (λj0=>B1 (aG a0) λv1=>J 0 (λj2=>TU J G cf j2 a0 a1 v1 (zi 0) H) (λc8=>j0  c8)) (λiG=>some ((zi (-1)),iG))
theorem aEv:yC2 163 alw:=yM2
def V6:yB 0 4:=λJ G cf j2 j3 x4 x5 x6 x7 h8=>B1 (ba x7 x6) λv9=>CD v9 (J 4 (λbh=>J 6 (λpI=>B1 (ia 1 x4 x7) λv12=>B1 (ld v12 h8) λcN=>B1 (bD x5 cN) λbq=>pI x4 x5 x7 x6 x7 bq h8) (λdN bT cG bK bU dD jM=>CD dD (some (cG,jM)) (bh dN bT bK bU jM))) (λbo bO cZ bV eI=>B1 (aZ bV (zi 1)) λv27=>j3 bo bO cZ v27 eI)) (j2  h8)
def Sv:yL 0 4:=yX 174 [1,0,1,0,0] [0,1,7,8] 0 []
theorem aaJ:yQ4 Sv V6:=yq4
def amd:yS 2:=λJ G cf a0 a1 H=>J 0 (λj0=>B1 (aG a0) λv1=>J 0 (λj2=>Sv J G cf j2 a0 a1 v1 (zi 0) H) (λhZ=>j0  hZ)) (λc8=>some ((zi (-1)),c8))
theorem aDG:yC2 174 amd:=yM2
def acL:yS 2:=λJ G cf a0 a1 H=>B2 (cf (zf 174) [a0,a1] H) λv0 h1=>B1 (lI v0 (zi 0)) λv2=>some (v2,h1)
theorem auT:yC2 154 acL:=yM2
def aew:yS 2:=λJ G cf a0 a1 H=>B2 (cf (zf 135) [a0,a1] H) λv0 h1=>B1 (lI v0 (zi 0)) λv2=>some (v2,h1)
theorem ayZ:yC2 95 aew:=yM2
def P0:yB 0 4:=λJ G cf j2 j3 x4 x5 x6 x7 h8=>B1 (ba x7 x6) λv9=>CD v9 (J 4 (λbh=>J 6 (λpI=>B1 (ia 6 x4 x7) λv12=>B1 (aB 6 v12 h8) λcN=>B2 (cf x5 [cN] h8) λbq dK=>pI x4 x5 x7 x6 x7 bq dK) (λbT cG bK bU dD bf hU=>CD bf (some (bK,hU)) (bh bT cG bU dD hU))) (λbO cZ bV di eO=>B1 (aZ di (zi 1)) λv28=>j3 bO cZ bV v28 eO)) (j2  h8)
def Xr:yL 0 4:=yX 135 [1,0,1,0,0] [0,1,7,8] 0 []
theorem U0:yQ4 Xr P0:=yq4
def aaU:yS 2:=λJ G cf a0 a1 H=>J 0 (λj0=>B1 (aG a0) λv1=>J 0 (λj2=>Xr J G cf j2 a0 a1 v1 (zi 0) H) (λc8=>j0  c8)) (λiG=>some ((zi (-1)),iG))
theorem aq5:yC2 135 aaU:=yM2
def YQ:yS 1:=λJ G cf a0 H=>xT (gA P .eql 70 true a0 .ah) <| B1 (fT P .eql 70 a0 .ah H) λv0=>CD v0 (some (.ah,H)) (B1 (fl [] []) λl1=>BN (aA H l1 99 0) λi2 h3=>B2 (cY 99 6 [(.str []),.ah,(zi 0),(zi 0),(zi 0),(.str [])] false (.slice i2 0 0 0 true 6) a0 h3) λv4 h5=>some (v4,h5))
theorem adp:yC1 136 YQ:=yM1
def XW:yS 1:=λJ G cf a0 H=>xT (gA P .eql 97 true a0 .ah) <| B1 (fT P .eql 97 a0 .ah H) λv0=>CD v0 (some (.ah,H)) (B1 (fl [] []) λl1=>BN (aA H l1 3 0) λi2 h3=>B2 (cY 3 1 [(zi 0)] false (.slice i2 0 0 0 true 1) a0 h3) λv4 h5=>some (v4,h5))
theorem ahF:yC1 137 XW:=yM1
def TL:yS 1:=λJ G cf a0 H=>xT (gA P .eql 73 true a0 .ah) <| B1 (fT P .eql 73 a0 .ah H) λv0=>CD v0 (some (.ah,H)) (B1 (fl [] []) λl1=>BN (aA H l1 132 0) λi2 h3=>B2 (cY 132 4 [(zi 0),(zi 0),(zi 0),(.str [])] false (.slice i2 0 0 0 true 4) a0 h3) λv4 h5=>some (v4,h5))
theorem alm:yC1 138 TL:=yM1
def X0:yS 1:=λJ G cf a0 H=>xT (gA P .eql 46 true a0 .ah) <| B1 (fT P .eql 46 a0 .ah H) λv0=>CD v0 (some (.ah,H)) (B1 (fl [] []) λl1=>BN (aA H l1 9 0) λi2 h3=>B2 (cY 9 1 [(.str [])] false (.slice i2 0 0 0 true 1) a0 h3) λv4 h5=>some (v4,h5))
theorem aih:yC1 30 X0:=yM1
def XR:yB 0 4:=λJ G cf eD iR bT cG bK bU da=>B1 (ba bU bK) λv21=>CD v21 (J 4 (λvZ=>J 5 (λdS=>B1 (ia 1 bT bU) λv24=>B1 (ld v24 da) λv25=>B1 (ia 1 cG bU) λv26=>B1 (ld v26 da) λv27=>B1 (fQ v25 v27) λv28=>dS bT cG bK bU v28 da) (λdq dJ bX fg fC iu=>CD fC (some ((.bool false),iu)) (vZ dq dJ bX fg iu))) (λcI bG cn bN fF=>B1 (aZ bN (zi 1)) λv40=>iR cI bG cn v40 fF)) (eD  da)
def Xz:yL 0 4:=yX 72 [1,1,0,1,0,0] [0,1,12,13] 0 []
theorem ag6:yQ4 Xz XR:=yq4
def ajF:yS 2:=λJ G cf a0 a1 H=>J 2 (λj0=>J 3 (λj1=>B1 (aG a0) λv2=>B1 (aG a1) λv3=>B1 (fQ v2 v3) λv4=>j1 a0 a1 v4 H) (λx5 x6 x7 h8=>CD x7 (some ((.bool false),h8)) (j0 x5 x6 h8))) (λx9 cz eP=>J 0 (λei=>B1 (aG x9) λcN=>J 0 (λeD=>Xz J G cf eD x9 cz cN (zi 0) eP) (λfZ=>ei  fZ)) (λeG=>some ((.bool true),eG)))
theorem auL:yC2 72 ajF:=yM2
def RQ:yB 0 4:=λJ G cf eD iR bT cG bK bU da=>B1 (ba bU bK) λv21=>CD v21 (J 4 (λvZ=>J 5 (λdS=>B1 (ia 4 bT bU) λv24=>B1 (aB 4 v24 da) λv25=>B1 (ia 4 cG bU) λv26=>B1 (aB 4 v26 da) λv27=>xT (gA P .neq 132 false v25 v27) <| B1 (fT P .neq 132 v25 v27 da) λv28=>dS bT cG bK bU v28 da) (λdq dJ bX fg fC iu=>CD fC (some ((.bool false),iu)) (vZ dq dJ bX fg iu))) (λcI bG cn bN fF=>B1 (aZ bN (zi 1)) λv40=>iR cI bG cn v40 fF)) (eD  da)
def SP:yL 0 4:=yX 73 [1,1,0,1,0,0] [0,1,12,13] 0 []
theorem afY:yQ4 SP RQ:=yq4
def aiy:yS 2:=λJ G cf a0 a1 H=>J 2 (λj0=>J 3 (λj1=>B1 (aG a0) λv2=>B1 (aG a1) λv3=>B1 (fQ v2 v3) λv4=>j1 a0 a1 v4 H) (λx5 x6 x7 h8=>CD x7 (some ((.bool false),h8)) (j0 x5 x6 h8))) (λx9 cz eP=>J 0 (λei=>B1 (aG x9) λcN=>J 0 (λeD=>SP J G cf eD x9 cz cN (zi 0) eP) (λfZ=>ei  fZ)) (λeG=>some ((.bool true),eG)))
theorem aCi:yC2 73 aiy:=yM2
def Sn:yB 0 4:=λJ G cf eD iR bT cG bK bU da=>B1 (ba bU bK) λv21=>CD v21 (J 4 (λvZ=>J 5 (λdS=>B1 (ia 1 bT bU) λv24=>B1 (ld v24 da) λv25=>B1 (ia 1 cG bU) λv26=>B1 (ld v26 da) λv27=>B1 (tf v25 v27) λv28=>dS bT cG bK bU v28 da) (λdq dJ bX fg fC iu=>CD fC (some ((.bool false),iu)) (vZ dq dJ bX fg iu))) (λcI bG cn bN fF=>B1 (aZ bN (zi 1)) λv40=>iR cI bG cn v40 fF)) (eD  da)
def XL:yL 0 4:=yX 74 [1,1,0,1,0,0] [0,1,12,13] 0 []
theorem agA:yQ4 XL Sn:=yq4
def aiM:yS 2:=λJ G cf a0 a1 H=>J 2 (λj0=>J 3 (λj1=>B1 (aG a0) λv2=>B1 (aG a1) λv3=>B1 (fQ v2 v3) λv4=>j1 a0 a1 v4 H) (λx5 x6 x7 h8=>CD x7 (some ((.bool false),h8)) (j0 x5 x6 h8))) (λx9 cz eP=>J 0 (λei=>B1 (aG x9) λcN=>J 0 (λeD=>XL J G cf eD x9 cz cN (zi 0) eP) (λfZ=>ei  fZ)) (λeG=>some ((.bool true),eG)))
theorem atg:yC2 74 aiM:=yM2
def Pm:yB 0 5:=λJ G cf bp nR bK bU dD bf bo df=>B1 (ba bo bf) λv24=>CD v24 (J 5 (λym=>J 7 (λBt=>B1 (ia 6 dD bo) λv27=>B1 (aB 6 v27 df) λv28=>BN (aA df [(.str []),.ah,(zi 0),(zi 0),(zi 0),(.str [])] 99 0) λi29 iG=>B1 (st 6 (.ptr i29 0) v28 iG) λgR=>Bt bK bU bo (.ptr i29 0) dD bf bo gR) (λfg fC dT cI bG cn bN fF=>J 7 (λvY=>B1 (ia 6 fg dT) λv41=>B1 (aB 6 v41 fF) λcW=>BN (aA fF [(.str []),.ah,(zi 0),(zi 0),(zi 0),(.str [])] 99 0) λi43 dP=>B1 (st 6 (.ptr i43 0) cW dP) λjm=>vY fg fC cI (.ptr i43 0) bG cn bN jm) (λjz gS gM gB iv iT gr gU=>J 6 (λiS=>B1 (aB 6 gM gU) λfR=>B1 (aB 6 gB gU) λjq=>B2 (cf gS [fR,jq] gU) λv57 jK=>B1 (dY .not v57) λv59=>iS jz gS iv iT gr v59 jK) (λet dc iO gI fH fw eX=>CD fw (some ((.bool false),eX)) (ym et dc iO gI fH eX))))) (λgH gK kj jA nY mU=>B1 (aZ nY (zi 1)) λiV=>nR gH gK kj jA iV mU)) (bp  df)
def Y9:yL 0 5:=yX 75 [1,1,0,1,0,0] [1,2,15,16,17] 0 []
theorem Sy:yQ5 Y9 Pm:=yq5
def XE:yS 3:=λJ G cf a0 a1 a2 H=>J 3 (λj0=>J 4 (λj1=>B1 (aG a0) λv2=>B1 (aG a1) λv3=>B1 (fQ v2 v3) λv4=>j1 a0 a1 a2 v4 H) (λx5 x6 x7 x8 h9=>CD x8 (some ((.bool false),h9)) (j0 x5 x6 x7 h9))) (λcz bR bH fL=>J 0 (λeD=>B1 (aG cz) λdX=>J 0 (λbp=>Y9 J G cf bp bR bH cz dX (zi 0) fL) (λtN=>eD  tN)) (λng=>some ((.bool true),ng)))
theorem aiU:yC3 75 XE:=yM3
def XB:yB 0 5:=λJ G cf fe fB fC dT cI bG cn gq=>B1 (ba cn bG) λfc=>CD fc (J 5 (λvY=>B1 (ia 2 cI cn) λv41=>B1 (aB 2 v41 gq) λcW=>BN (aA gq [(zi 0),(zi 0)] 231 0) λi43 dP=>B1 (st 2 (.ptr i43 0) cW dP) λjm=>J 6 (λMU=>J 7 (λBe=>B1 (aB 2 fC jm) λfA=>B1 (pV 2 1 (.ptr i43 0) (zi 0)) λv49=>B1 (ld v49 jm) λgm=>B2 (cf (zf 175) [fA,gm] jm) λv51 kA=>B1 (dY .not v51) λv53=>G v53 false (λk54=>B1 (aB 2 fC kA) λfR=>k54 fR kA) (λjq oa=>G v53 false (λEb=>B1 (pV 2 1 (.ptr i43 0) (zi 1)) λv59=>Eb v59 oa) (λfE kE=>G v53 false (λk62=>B1 (ld fE kE) λv63=>k62 v63 kE) (λv64 nC=>G v53 false (λEo=>B2 (cf (zf 175) [jq,v64] nC) λkY pX=>Eo kY pX) (λmJ tE=>G v53 false (λXG=>B1 (dY .not mJ) λv72=>XG v72 tE) (λiV tN=>B1 (pk v53 (.bool true) iV) λv75=>G v75 false (λk76=>B1 (pV 2 1 (.ptr i43 0) (zi 0)) λur=>k76 ur tN) (λpR il=>G v75 false (λFw=>B1 (ld pR il) λki=>Fw ki il) (λmu ot=>G v75 false (λEM=>B1 (pV 2 1 (.ptr i43 0) (zi 1)) λv85=>EM v85 ot) (λrf pE=>G v75 false (λZK=>B1 (ld rf pE) λpw=>ZK pw pE) (λpJ y8=>G v75 false (λMV=>B1 (bD mu pJ) λv93=>MV v93 y8) (λtG mY=>B1 (pk v75 (.bool true) tG) λlj=>G lj false (λk97=>k97 dT mY) (λxq DD=>G lj false (λaEd=>B1 (aB 2 (.ptr i43 0) DD) λwg=>aEd wg DD) (λsf lZ=>G lj false (λYV=>B1 (sJ P 248 xq sf false lZ) λv105=>YV v105 lZ) (λyn Fc=>B1 (pk lj (.bool true) yn) λq8=>Be fC dT (.ptr i43 0) cI bG cn q8 Fc) lZ) DD) mY) y8) pE) ot) il) tN) tE) nC) kE) oa) kA) (λma sX tv xj tV qW xE rJ=>CD xE (some ((.bool false),rJ)) (MU ma sX tv xj tV qW rJ))) (λwK qA pQ pD qo sL IA=>B1 (aB 2 pQ IA) λv124=>B1 (qX P 248 qA v124 (.bool true) IA) λB4=>vY wK qA pD qo sL B4)) (λkG iK jc jw lO Dh=>B1 (aZ lO (zi 1)) λC7=>fB kG iK jc jw C7 Dh)) (fe  gq)
def X3:yL 0 5:=yX 155 [1,1,1,0,1,0,0] [1,3,16,17,18] 0 []
theorem afe:yQ5 X3 XB:=yq5
def aku:yS 1:=λJ G cf a0 H=>BN (bx 201 a0 H) λi0 h1=>J 1 (λj2=>J 2 (λj3=>B1 (fa 0 (.ptr i0 0)) λv4=>B1 (ld v4 h1) λv5=>B1 (ba v5 (zi 0)) λv6=>G v6 false (λk7=>B1 (fa 0 (.ptr i0 0)) λv8=>k7 v8 h1) (λv9 cl=>G v6 false (λB7=>B1 (ld v9 cl) λv12=>B7 v12 cl) (λcN ik=>G v6 false (λzb=>B1 (iP cN (zi 16)) λcF=>zb cF ik) (λef gY=>B1 (pk v6 (.bool true) ef) λeZ=>j3 (.ptr i0 0) eZ gY) ik) cl) h1) (λdD bf hU=>CD bf (some ((.bool false),hU)) (j2 dD hU))) (λbO fW=>BN (Bj fW) λi25 eI=>J 0 (λzg=>B1 (fa 1 bO) λv28=>B1 (ld v28 eI) λv29=>B1 (aG v29) λv30=>J 0 (λfe=>X3 J G cf fe bO (.map i25) v29 v30 (zi 0) eI) (λlh=>zg  lh)) (λDd=>some ((.bool true),Dd)))
theorem aoN:yC1 155 aku:=yM1
def afn:yS 2:=λJ G cf a0 a1 H=>BN (bx 201 a0 H) λi0 h1=>B1 (lI a1 (zi 0)) λv2=>G v2 true (λk3=>k3 a1 h1) (λv4 h5=>G v2 true (λk6=>B1 (fa 0 (.ptr i0 0)) λv7=>k6 v7 h5) (λv8 h9=>G v2 true (λwm=>B1 (ld v8 h9) λv11=>wm v11 h9) (λv12 fL=>G v2 true (λMx=>B1 (ba v4 v12) λdX=>Mx dX fL) (λcF eH=>B1 (pk v2 cF (.bool false)) λcg=>some (cg,eH)) fL) h9) h5) h1
theorem awV:yC2 175 afn:=yM2
def Hu:yB 1 6:=λJ G cf bh pI bH bJ dQ dN bT cG gY=>B1 (ba cG bT) λeZ=>CD eZ (J 6 (λaK=>J 6 (λiq=>B1 (ia 2 dN cG) λv22=>B1 (aB 2 v22 gY) λv23=>BN (aA gY [(zi 0),(zi 0)] 231 0) λi24 dR=>B1 (st 2 (.ptr i24 0) v23 dR) λeI=>J 8 (λzg=>B1 (pV 2 1 (.ptr i24 0) bJ) λv28=>B1 (ld v28 eI) λv29=>B1 (bD v29 bH) λv30=>zg bH bJ dQ (.ptr i24 0) dN bT cG v30 eI) (λbX fg fC dT cI bG cn bN fF=>CD bN (B1 (oL (zi 1) fg) λv40=>B1 (pV 2 1 dT v40) λv41=>B1 (ld v41 fF) λcW=>B1 (fl [(zi 0)] [(0,1,cW)]) λl43=>BN (aA fF l43 3 0) λi44 jm=>B2 (cY 3 1 [(zi 0)] false fC (.slice i44 0 1 1 true 1) jm) λv46 nN=>iq bX fg v46 cI bG cn nN) (iq bX fg fC cI bG cn fF))) (λgM gB iv iT gr iw mj=>aK gM gB iv iT gr iw mj)) (λgu eY fN fD dV et kE=>B1 (aZ et (zi 1)) λgW=>pI gu eY fN fD dV gW kE)) (bh dQ gY)
def Wk:yL 1 6:=yX 176 [1,1,1,0,1,0,0] [1,2,7,14,15,16] 0 [7]
theorem Wp:yQ6 Wk Hu:=yq6
def agq:yS 3:=λJ G cf a0 a1 a2 H=>BN (bx 201 a0 H) λi0 h1=>B1 (aB 2 (.ptr i0 0) h1) λv2=>B2 (cf (zf 155) [v2] h1) λv3 h4=>B1 (dY .not v3) λv5=>CD v5 (some (.ah,h4)) (J 1 (λj6=>B1 (fa 1 (.ptr i0 0)) λv7=>B1 (ld v7 h4) λv8=>B1 (aG v8) λv9=>J 1 (λbh=>Wk J G cf bh a1 a2 .ah v8 v9 (zi 0) h4) (λgI jV=>j6 gI jV)) (λfw eX=>B2 (cf (zf 192) [fw] eX) λkY pX=>some (fw,pX)))
theorem apw:yC3 176 agq:=yM3
def aeJ:yS 2:=λJ G cf a0 a1 H=>BN (bx 201 a0 H) λi0 h1=>B1 (aB 2 (.ptr i0 0) h1) λv2=>B2 (cf (zf 176) [v2,a1,(zi 0)] h1) λv3 h4=>some (v3,h4)
theorem apo:yC2 157 aeJ:=yM2
def Na (J:JT)(G:GT)(cf:CF)(bh:K.Fn 1)(aK:K.Fn 4)(dS:K.Fn 4)(gP:K.Fn 7)(iS:K.Fn 7)(yT:K.Fn 10)(eY fN fD dV et dc iO gI fH fw:AV)(eX:Hp):R:=B1 (ba fw fH) λkY=>CD kY (J 10 (λWA=>J 10 (λIr=>B1 (ia 1 gI fw) λv70=>B1 (ld v70 eX) λmD=>J 12 (λBf=>B1 (ia 1 fN mD) λiV=>B1 (ld iV eX) λjN=>B1 (bD jN (zi 0)) λv75=>Bf eY fN fD dV mD et dc iO gI fH fw v75 eX) (λir gk gD qd pA og p8 nb mM me nV rW vG=>CD rW (J 11 (λHr=>B1 (ia 1 gk pA) λpJ=>B1 (st 1 pJ gD vG) λy8=>Hr ir gk gD qd pA og p8 nb mM me nV y8) (λlq nW jI kC sM qw ve uJ AU vN yx lZ=>B1 (fl [(zi 0)] [(0,1,sM)]) λUc=>BN (aA lZ Uc 3 0) λi105 Kh=>B2 (cY 3 1 [(zi 0)] false kC (.slice i105 0 1 1 true 1) Kh) λv107 yf=>Ir lq nW jI v107 qw ve uJ AU vN yx yf)) (Ir ir gk gD qd og p8 nb mM me nV vG))) (λma sX tv xj tV qW xE sF wK qA V8=>WA ma sX tv xj tV qW xE sF wK qA V8)) (λpD qo sL uM BW JI kG iK jc jw XZ=>B1 (aZ jw (zi 1)) λv131=>yT pD qo sL uM BW JI kG iK jc v131 XZ)) (iS eY fN fD dV et dc iO eX)
def Mf (J:JT)(G:GT)(cf:CF)(bh:K.Fn 1)(aK:K.Fn 4)(dS:K.Fn 4)(gP:K.Fn 7)(iS:K.Fn 7):K.Fn 10:=Cc P an J G cf 156 [1,1,1,0,1,0,0,1,0,0,1,0,1,0,0,1,1,0,0,1,1,0,0] [2,5,7,8,23,24,25,31,32,33] (λq t H=>match Nat.beq q 4 with|true=>app 7 iS (aI [2,5,7,8,23,24,25] t) H|false=>(λq t H=>match Nat.beq q 3 with|true=>app 7 gP (aI [2,5,7,8,23,24,25] t) H|false=>(λq t H=>match Nat.beq q 2 with|true=>app 4 dS (aI [2,5,7,8] t) H|false=>(λq t H=>match Nat.beq q 1 with|true=>app 4 aK (aI [2,5,6,7] t) H|false=>(λq t H=>match Nat.beq q 0 with|true=>app 1 bh (aI [5] t) H|false=>(λ_ _ _=>none) q t H) q t H) q t H) q t H) q t H)
theorem ayv (J:JT)(G:GT)(cf:CF)(bh:K.Fn 1)(aK:K.Fn 4)(dS:K.Fn 4)(gP:K.Fn 7)(iS:K.Fn 7)(yT:K.Fn 10)(eY fN fD dV et dc iO gI fH fw:AV)(eX:Hp):wu P an J G cf 156 [1,1,1,0,1,0,0,1,0,0,1,0,1,0,0,1,1,0,0,1,1,0,0] [2,5,7,8,23,24,25,31,32,33] (λq t H=>match Nat.beq q 4 with|true=>app 7 iS (aI [2,5,7,8,23,24,25] t) H|false=>(λq t H=>match Nat.beq q 3 with|true=>app 7 gP (aI [2,5,7,8,23,24,25] t) H|false=>(λq t H=>match Nat.beq q 2 with|true=>app 4 dS (aI [2,5,7,8] t) H|false=>(λq t H=>match Nat.beq q 1 with|true=>app 4 aK (aI [2,5,6,7] t) H|false=>(λq t H=>match Nat.beq q 0 with|true=>app 1 bh (aI [5] t) H|false=>(λ_ _ _=>none) q t H) q t H) q t H) q t H) q t H) yT [eY,fN,fD,dV,et,dc,iO,gI,fH,fw] eX=Na J G cf bh aK dS gP iS yT eY fN fD dV et dc iO gI fH fw eX:=zzw
theorem TM (cf:CF)(bh:K.Fn 1)(aK:K.Fn 4)(dS:K.Fn 4)(gP:K.Fn 7)(iS:K.Fn 7)(eY fN fD dV et dc iO gI fH fw:AV)(eX:Hp):Mf JN GO cf bh aK dS gP iS eY fN fD dV et dc iO gI fH fw eX=Na JN GO cf bh aK dS gP iS (Mf JN GO cf bh aK dS gP iS) eY fN fD dV et dc iO gI fH fw eX:=abG (b:=app 10 (Mf JN GO cf bh aK dS gP iS) [eY,fN,fD,dV,et,dc,iO,gI,fH,fw] eX) zzw ((wF cf _ _ _ _ [eY,fN,fD,dV,et,dc,iO,gI,fH,fw] rfl eX).trans (ayv JN GO cf bh aK dS gP iS _ eY fN fD dV et dc iO gI fH fw eX))
def NK (J:JT)(G:GT)(cf:CF)(bh:K.Fn 1)(aK:K.Fn 4)(dS:K.Fn 4)(DJ:K.Fn 7)(bV di dm eh dq dJ bX:AV)(cH:Hp):R:=B1 (ba bX dJ) λeU=>CD eU (J 7 (λuL=>J 7 (λgP=>B1 (ia 1 dq bX) λv36=>B1 (ld v36 cH) λv37=>J 10 (λTT=>B1 (aB 2 bV cH) λfc=>B2 (cf (zf 157) [fc,v37] cH) λv40 fZ=>B1 (aG v40) λcW=>TT bV di dm eh dq dJ bX v40 cW (zi 0) fZ) (λeV lz iB jz gS gM gB iv iT gr gU=>J 7 (λiS=>Mf J G cf bh aK dS gP iS eV lz iB jz gS gM gB iv iT gr gU) (λkc xM yY tu pq sY vq Du=>gP kc xM yY tu pq sY vq Du))) (λzT K7 LJ K3 Fk B5 GW SG=>uL zT K7 LJ K3 Fk B5 GW SG)) (λBE xi yr qN oZ xN xw aDf=>B1 (aZ xw (zi 1)) λFz=>DJ BE xi yr qN oZ xN Fz aDf)) (dS bV di dm eh cH)
def JM (J:JT)(G:GT)(cf:CF)(bh:K.Fn 1)(aK:K.Fn 4)(dS:K.Fn 4):K.Fn 7:=Cc P an J G cf 156 [1,1,1,0,1,0,0,1,0,0,1,0,1,0,0] [2,5,7,8,23,24,25] (λq t H=>match Nat.beq q 2 with|true=>app 4 dS (aI [2,5,7,8] t) H|false=>(λq t H=>match Nat.beq q 1 with|true=>app 4 aK (aI [2,5,6,7] t) H|false=>(λq t H=>match Nat.beq q 0 with|true=>app 1 bh (aI [5] t) H|false=>(λ_ _ _=>none) q t H) q t H) q t H)
theorem axI (J:JT)(G:GT)(cf:CF)(bh:K.Fn 1)(aK:K.Fn 4)(dS:K.Fn 4)(DJ:K.Fn 7)(bV di dm eh dq dJ bX:AV)(cH:Hp):wu P an J G cf 156 [1,1,1,0,1,0,0,1,0,0,1,0,1,0,0] [2,5,7,8,23,24,25] (λq t H=>match Nat.beq q 2 with|true=>app 4 dS (aI [2,5,7,8] t) H|false=>(λq t H=>match Nat.beq q 1 with|true=>app 4 aK (aI [2,5,6,7] t) H|false=>(λq t H=>match Nat.beq q 0 with|true=>app 1 bh (aI [5] t) H|false=>(λ_ _ _=>none) q t H) q t H) q t H) DJ [bV,di,dm,eh,dq,dJ,bX] cH=NK J G cf bh aK dS DJ bV di dm eh dq dJ bX cH:=zzw
theorem ajo (cf:CF)(bh:K.Fn 1)(aK:K.Fn 4)(dS:K.Fn 4)(bV di dm eh dq dJ bX:AV)(cH:Hp):JM JN GO cf bh aK dS bV di dm eh dq dJ bX cH=NK JN GO cf bh aK dS (JM JN GO cf bh aK dS) bV di dm eh dq dJ bX cH:=abG (b:=app 7 (JM JN GO cf bh aK dS) [bV,di,dm,eh,dq,dJ,bX] cH) zzw ((wF cf _ _ _ _ [bV,di,dm,eh,dq,dJ,bX] rfl cH).trans (axI JN GO cf bh aK dS _ bV di dm eh dq dJ bX cH))
def TV:yB 1 4:=λJ G cf bh pI bH bJ dQ dN bL=>B1 (aG dQ) λef=>B1 (iP ef (zi 0)) λcg=>CD cg (J 4 (λcU=>J 4 (λaK=>J 4 (λiq=>B1 (aG dQ) λv22=>J 4 (λdS=>JM J G cf bh aK dS bH bJ dN .ah dQ v22 (zi 0) bL) (λyW ug Vh EC Gv=>iq yW ug Vh EC Gv)) (λFu Ez MB Vb WC=>aK Fu Ez Vb MB WC)) (λqU vm u6 B3 Wv=>cU qU vm u6 B3 Wv)) (λvQ sQ uO Ge Zy=>B1 (aZ Ge (zi 1)) λCn=>pI vQ sQ uO Cn Zy)) (bh bJ bL)
def QO:yL 1 4:=yX 156 [1,1,1,0,1,0,0] [2,5,6,7] 0 [5]
theorem agn:yQ4 QO TV:=yq4
def aaP:yS 2:=λJ G cf a0 a1 H=>BN (bx 201 a0 H) λi0 h1=>B1 (fa 0 (.ptr i0 0)) λv2=>B1 (ld v2 h1) λv3=>B2 (Br [(zi 0)] 3 1 v3 v3 h1) λv4 h5=>B1 (fl [(zi 0)] [(0,1,a1)]) λl6=>BN (aA h5 l6 3 0) λi7 h8=>J 1 (λj9=>J 1 (λbh=>QO J G cf bh (.ptr i0 0) v4 (.slice i7 0 1 1 true 1) (zi 1) h8) (λS5 aq2=>j9 S5 aq2)) (λSh Zz=>some (Sh,Zz))
theorem an6:yC2 156 aaP:=yM2
def Iv:yB 3 5:=λJ G cf j9 bh bR bH bJ dQ dN bL=>B1 (ba dN dQ) λef=>CD ef (J 5 (λpg=>J 5 (λcU=>J 7 (λaK=>B1 (aB 2 bR bL) λv21=>B2 (cf (zf 156) [v21,dN] bL) λv22 df=>B1 (ia 1 v22 dN) λv24=>B1 (ld v24 df) λv25=>aK bR bH bJ dN v25 dQ dN df) (λdi dm eh dq dJ bX fg jj=>J 8 (λuL=>B1 (iP dJ (zi 0)) λv35=>G v35 true (λTu=>Tu eh jj) (λv37 gq=>G v35 true (λyA=>B1 (bD v37 (zi 0)) λv40=>yA v40 gq) (λv41 eG=>G v35 true (λvO=>vO v41 eG) (λv44 jm=>G v44 false (λKm=>Km dJ jm) (λiA oI=>G v44 false (λYe=>Ye eh oI) (λgm jO=>G v44 false (λwG=>B1 (ba iA gm) λv53=>wG v53 jO) (λiI oO=>G v35 true (λBP=>B1 (pk v44 (.bool true) iI) λv57=>BP v57 oO) (λjR sE=>B1 (pk v35 jR (.bool false)) λfE=>uL di dm eh dq dJ bX fg fE sE) oO) jO) oI) jm) eG) gq) jj) (λdc iO gI fH fw mW gH gK qZ=>CD gK (cU dc fH fw mW gH qZ) (cU dc iO gI mW gH qZ)))) (λjA nY oW jy ju ng=>pg jA nY oW jy ju ng)) (λir gk gD qd pA EA=>B1 (aZ pA (zi 1)) λmu=>bh ir gk gD qd mu EA)) (j9 bR bH bJ bL)
def ZS:yL 3 5:=yX 126 [1,1,1,0,1,0,0] [1,3,4,15,16] 0 [1,3,4]
theorem JY:yQ5 ZS Iv:=yq5
def Jp (J:JT)(G:GT)(cf:CF)(ku:K.Fn 1)(na:K.Fn 4)(nu:K.Fn 4)(Jl:K.Fn 7)(kG iK jc jw lO oF kc:AV)(lh:Hp):R:=B1 (ba kc oF) λBy=>CD By (J 7 (λYA=>B1 (ia 1 lO kc) λKq=>B1 (ld Kq lh) λDa=>J 9 (λTa=>B1 (fQ Da iK) λv139=>G v139 true (λazT=>B1 (aB 2 kG lh) λv141=>azT v141 lh) (λBK PZ=>G v139 true (λazd=>azd Da PZ) (λv145 xF=>G v139 true (λatz=>B2 (cf (zf 156) [BK,v145] xF) λv148 G7=>atz v148 G7) (λLx FV=>G v139 true (λavA=>avA iK FV) (λUL zo=>G v139 true (λapd=>B1 (ia 1 Lx UL) λFz=>apd Fz zo) (λv157 Vi=>G v139 true (λazk=>B1 (ld v157 Vi) λv160=>azk v160 Vi) (λYj abf=>G v139 true (λauy=>auy jw abf) (λv164 IM=>G v139 true (λaxq=>B1 (bD Yj v164) λv167=>axq v167 IM) (λv168 aqV=>B1 (pk v139 v168 (.bool false)) λYt=>Ta kG iK jc jw Da lO oF kc Yt aqV) IM) abf) Vi) zo) FV) xF) PZ) lh) (λvS vQ sQ uO Ge Zc U9 S5 XS Mz=>CD XS (B1 (fl [(zi 0)] [(0,1,Ge)]) λU3=>BN (aA Mz U3 3 0) λi182 OT=>B2 (cY 3 1 [(zi 0)] false sQ (.slice i182 0 1 1 true 1) OT) λCd ZX=>nu vS vQ Cd uO ZX) (YA vS vQ sQ uO Zc U9 S5 Mz))) (λXf Wi U4 SE Ti Lu WO YY=>B1 (aZ WO (zi 1)) λv194=>Jl Xf Wi U4 SE Ti Lu v194 YY)) (nu kG iK jc jw lh)
def Kf (J:JT)(G:GT)(cf:CF)(ku:K.Fn 1)(na:K.Fn 4)(nu:K.Fn 4):K.Fn 7:=Cc P an J G cf 126 [1,1,1,1,1,1,0,1,0,0,1,0,0,1,0,0] [1,3,7,8,56,57,58] (λq t H=>match Nat.beq q 4 with|true=>app 4 nu (aI [1,3,7,8] t) H|false=>(λq t H=>match Nat.beq q 3 with|true=>app 4 na (aI [1,3,7,8] t) H|false=>(λq t H=>match Nat.beq q 2 with|true=>app 1 ku (aI [7] t) H|false=>(λ_ _ _=>none) q t H) q t H) q t H)
theorem apV (J:JT)(G:GT)(cf:CF)(ku:K.Fn 1)(na:K.Fn 4)(nu:K.Fn 4)(Jl:K.Fn 7)(kG iK jc jw lO oF kc:AV)(lh:Hp):wu P an J G cf 126 [1,1,1,1,1,1,0,1,0,0,1,0,0,1,0,0] [1,3,7,8,56,57,58] (λq t H=>match Nat.beq q 4 with|true=>app 4 nu (aI [1,3,7,8] t) H|false=>(λq t H=>match Nat.beq q 3 with|true=>app 4 na (aI [1,3,7,8] t) H|false=>(λq t H=>match Nat.beq q 2 with|true=>app 1 ku (aI [7] t) H|false=>(λ_ _ _=>none) q t H) q t H) q t H) Jl [kG,iK,jc,jw,lO,oF,kc] lh=Jp J G cf ku na nu Jl kG iK jc jw lO oF kc lh:=zzw
theorem PJ (cf:CF)(ku:K.Fn 1)(na:K.Fn 4)(nu:K.Fn 4)(kG iK jc jw lO oF kc:AV)(lh:Hp):Kf JN GO cf ku na nu kG iK jc jw lO oF kc lh=Jp JN GO cf ku na nu (Kf JN GO cf ku na nu) kG iK jc jw lO oF kc lh:=abG (b:=app 7 (Kf JN GO cf ku na nu) [kG,iK,jc,jw,lO,oF,kc] lh) zzw ((wF cf _ _ _ _ [kG,iK,jc,jw,lO,oF,kc] rfl lh).trans (apV JN GO cf ku na nu _ kG iK jc jw lO oF kc lh))
def Wt:yB 1 4:=λJ G cf ku Sg uJ AU vN yx lZ=>B1 (iP yx (zi 0)) λnX=>CD nX (J 4 (λawL=>J 4 (λna=>J 7 (λaox=>B1 (aB 2 uJ lZ) λq8=>B1 (aG vN) λv109=>B1 (oL v109 (zi 1)) λGG=>B1 (ia 1 vN GG) λyR=>B1 (ld yR lZ) λyK=>B2 (cf (zf 157) [q8,yK] lZ) λuP Xk=>B1 (aG uP) λtZ=>aox uJ AU vN yx uP tZ (zi 0) Xk) (λsF wK qA pQ pD qo sL IA=>J 4 (λnu=>Kf J G cf ku na nu sF wK qA pQ pD qo sL IA) (λLi Np G8 Bw NU=>na Li Np G8 Bw NU))) (λCg EL JA KY awT=>awL Cg EL JA KY awT)) (λYf xX Ns HE aop=>B1 (oL HE (zi 1)) λv210=>Sg Yf xX Ns v210 aop)) (ku vN lZ)
def Ux:yL 1 4:=yX 126 [1,1,1,1,1,1,0,1,0,0] [1,3,7,8] 2 [7]
theorem ald:yQ4 Ux Wt:=yq4
def YM:yS 1:=λJ G cf a0 H=>BN (bx 201 a0 H) λi0 h1=>B1 (aB 2 (.ptr i0 0) h1) λv2=>B2 (cf (zf 155) [v2] h1) λv3 h4=>B1 (dY .not v3) λv5=>CD v5 (some (.ah,h4)) (J 3 (λj6=>B1 (fa 0 (.ptr i0 0)) λv7=>B1 (ld v7 h4) λv8=>J 3 (λj9=>ZS J G cf j9 (.ptr i0 0) (zi 0) (zi 0) v8 (zi 0) h4) (λnb mM me ue=>j6 nb mM me ue)) (λrW nI Bq sC=>B1 (bD Bq (zi 0)) λv91=>CD v91 (some (.ah,sC)) (B1 (fl [(zi 0)] [(0,1,nI)]) λl92=>BN (aA sC l92 3 0) λi93 Df=>J 1 (λj95=>B1 (oL Bq (zi 1)) λlj=>J 1 (λku=>Ux J G cf ku rW nI (.slice i93 0 1 1 true 1) lj Df) (λaAT aAs=>j95 aAT aAs)) (λSz api=>some (Sz,api)))))
theorem ajv:yC1 126 YM:=yM1
def aeC:yS 1:=λJ G cf a0 H=>B1 (tf a0 (.str [])) λv0=>G v0 true (λk1=>k1 a0 H) (λv2 h3=>G v0 true (λk4=>B1 (lens v2) λv5=>k4 v5 h3) (λv6 h7=>G v0 true (λk8=>B1 (pW v6 (zi 16)) λv9=>k8 v9 h7) (λv10 eP=>B1 (pk v0 v10 (.bool false)) λv12=>G v12 true (λyU=>yU a0 eP) (λbq dK=>G v12 true (λLS=>B2 (cf (zf 91) [bq,(.str [97,98,99,100,101,102,103,104,105,106,107,108,109,110,111,112,113,114,115,116,117,118,119,120,121,122,48,49,50,51,52,53,54,55,56,57])] dK) λef gY=>LS ef gY) (λeZ da=>G v12 true (λvT=>B1 (seq eZ (.str [])) λv22=>vT v22 da) (λv23 fW=>B1 (pk v12 v23 (.bool false)) λv25=>some (v25,fW)) da) dK) eP) h7) h3) H
theorem aBa:yC1 54 aeC:=yM1
def HI:yS 1:=λJ G cf a0 H=>J 1 (λj0=>B1 (lens a0) λv1=>B1 (iP v1 (zi 4)) λv2=>CD v2 (some (.tuple [(zi 0),(.bool false)],H)) (j0 a0 H)) (λx3 h4=>J 3 (λj5=>B2 (cf (zf 173) [x3] h4) λv6 h7=>B1 (ex 0 v6) λv8=>B1 (ex 1 v6) λv9=>j5 x3 v8 v9 h7) (λcz bR bH fL=>xT (gA P .eql 183 true bH .nilIface) <| B1 (fT P .eql 183 bH .nilIface fL) λbq=>G bq true (λzb=>zb bR fL) (λcF eH=>G bq true (λGn=>B2 (cf (zf 84) [cF] eH) λeZ da=>Gn eZ da) (λv21 hU=>G bq true (λLU=>LU cz hU) (λv24 dR=>G bq true (λBC=>B1 (seq v21 v24) λv27=>BC v27 dR) (λv28 c8=>B1 (pk bq v28 (.bool false)) λv30=>G v30 true (λyl=>yl bR c8) (λv32 jj=>G v30 true (λJC=>B1 (lI v32 (zi 0)) λv35=>JC v35 jj) (λv36 gN=>B1 (pk v30 v36 (.bool false)) λgO=>some (.tuple [bR,gO],gN)) jj) c8) dR) hU) eH) fL))
theorem Kr:yC1 153 HI:=yM1
def Ju (J:JT)(G:GT)(cf:CF)(ez:K.Fn 1)(cU:K.Fn 0)(aK:K.Fn 5)(bf bo bO cZ bV:AV)(eI:Hp):R:=B1 (ba bV cZ) λv27=>CD v27 (J 5 (λqR=>B1 (ia 1 bO bV) λv29=>B1 (ld v29 eI) λv30=>B2 (cf (zf 104) [bo,v30] eI) λv31 cH=>B1 (ba v31 (zi 0)) λeU=>CD eU (some ((.bool false),cH)) (B1 (aJ bf) λcP=>B1 (fa 1 cP) λv35=>B1 (ld v35 cH) λv36=>B1 (fl [(zi 0)] [(0,1,v31)]) λWx=>BN (aA cH Wx 3 0) λi38 fF=>B2 (cY 3 1 [(zi 0)] false v36 (.slice i38 0 1 1 true 1) fF) λv40 fZ=>B1 (aJ bf) λcW=>B1 (fa 1 cW) λeM=>B1 (st 1 eM v40 fZ) λdP=>qR bf bo bO cZ bV dP)) (λiB jz gS gM gB kU=>B1 (aZ gB (zi 1)) λv51=>aK iB jz gS gM v51 kU)) (cU  eI)
def Ib (J:JT)(G:GT)(cf:CF)(ez:K.Fn 1)(cU:K.Fn 0):K.Fn 5:=Cc P an J G cf 118 [1,1,0,1,0,1,0,0,1,0,0] [0,3,23,24,25] (λq t H=>match Nat.beq q 1 with|true=>app 0 cU (aI [] t) H|false=>(λq t H=>match Nat.beq q 0 with|true=>app 1 ez (aI [10] t) H|false=>(λ_ _ _=>none) q t H) q t H)
theorem atM (J:JT)(G:GT)(cf:CF)(ez:K.Fn 1)(cU:K.Fn 0)(aK:K.Fn 5)(bf bo bO cZ bV:AV)(eI:Hp):wu P an J G cf 118 [1,1,0,1,0,1,0,0,1,0,0] [0,3,23,24,25] (λq t H=>match Nat.beq q 1 with|true=>app 0 cU (aI [] t) H|false=>(λq t H=>match Nat.beq q 0 with|true=>app 1 ez (aI [10] t) H|false=>(λ_ _ _=>none) q t H) q t H) aK [bf,bo,bO,cZ,bV] eI=Ju J G cf ez cU aK bf bo bO cZ bV eI:=zzw
theorem N9 (cf:CF)(ez:K.Fn 1)(cU:K.Fn 0)(bf bo bO cZ bV:AV)(eI:Hp):Ib JN GO cf ez cU bf bo bO cZ bV eI=Ju JN GO cf ez cU (Ib JN GO cf ez cU) bf bo bO cZ bV eI:=abG (b:=app 5 (Ib JN GO cf ez cU) [bf,bo,bO,cZ,bV] eI) zzw ((wF cf _ _ _ _ [bf,bo,bO,cZ,bV] rfl eI).trans (atM JN GO cf ez cU _ bf bo bO cZ bV eI))
def AB:yS 4:=λJ G cf a0 a1 a2 a3 H=>J 6 (λj0=>B2 (cf (zf 153) [a2] H) λv1 h2=>B1 (ex 0 v1) λv3=>B1 (ex 1 v1) λv4=>j0 a0 a1 a2 a3 v3 v4 h2) (λx5 x6 x7 x8 x9 cz eP=>J 1 (λei=>J 1 (λez=>B1 (seq x6 (.str [97,102,116,101,114])) λbq=>CD bq (J 0 (λiR=>B2 (cf (zf 88) [x7,(.str [44])] eP) λcF eH=>B1 (aG cF) λcg=>J 0 (λcU=>Ib J G cf ez cU x5 x8 cF cg (zi 0) eH) (λkA=>iR  kA)) (λgU=>some ((.bool true),gU))) (B1 (seq x6 (.str [114,101,116,114,121])) λiI=>CD iI (B1 (aJ x5) λfR=>B1 (fa 2 fR) λjq=>B1 (st 1 jq x9 eP) λoa=>ez cz oa) (B1 (seq x6 (.str [119,97,105,116])) λjR=>CD jR (B1 (aJ x5) λv59=>B1 (fa 3 v59) λfE=>B1 (st 1 fE x9 eP) λkE=>ez cz kE) (B1 (seq x6 (.str [98,97,115,101])) λgW=>CD gW (B1 (aJ x5) λv63=>B1 (fa 4 v63) λv64=>B1 (st 1 v64 x9 eP) λnC=>ez cz nC) (B1 (seq x6 (.str [111,110])) λmF=>CD mF (J 1 (λKC=>B1 (aJ x5) λnM=>B1 (fa 5 nM) λmJ=>B1 (st 1 mJ x7 eP) λtE=>KC x7 tE) (λnY mU=>B1 (tf nY (.str [])) λiV=>some (iV,mU))) (ez cz eP)))))) (λju ng=>ei ju ng)) (λir IP=>some (ir,IP)))
theorem Gi:yC4 118 AB:=yM4
def Fj:yB 2 7:=λJ G cf aK iq bo bO cZ bV di dm eh c8=>B1 (ba eh dm) λv30=>CD v30 (J 7 (λfe=>B1 (ia 1 di eh) λv32=>B1 (ld v32 c8) λeU=>J 10 (λuL=>B2 (cf (zf 117) [eU,(.str [61])] c8) λv35 np=>B1 (ex 0 v35) λv37=>B1 (ex 1 v35) λgO=>B1 (ex 2 v35) λfc=>uL bo bO cZ bV eU v37 gO di dm eh np) (λdI gF fP eV lz iB jz gS gM gB kU=>B2 (cf (zf 104) [eV,iB] kU) λv51 kA=>J 8 (λLs=>J 9 (λiS=>B1 (ba v51 (zi 0)) λfR=>G fR false (λBP=>BP iB kA) (λv57 jK=>G fR false (λFM=>B1 (lens v57) λfE=>FM fE jK) (λlK ie=>G fR false (λvo=>vo lz ie) (λv64 nC=>G fR false (λEo=>B1 (lens v64) λkY=>Eo kY nC) (λnM qZ=>G fR false (λk70=>B1 (bD lK nM) λmD=>k70 mD qZ) (λv72 zM=>B1 (pk fR (.bool true) v72) λjN=>G jN false (λTB=>TB iB zM) (λv76 IP=>G jN false (λk78=>k78 jz IP) (λmS Ci=>G jN false (λWT=>WT dI Ci) (λmu ot=>G jN false (λEM=>B2 (cf (zf 118) [fP,v76,mS,mu] ot) λv85 ue=>EM v85 ue) (λv87 vG=>G jN false (λTN=>B1 (dY .not v87) λpJ=>TN pJ vG) (λv91 Cm=>B1 (pk jN (.bool true) v91) λv93=>iS dI gF fP eV v51 gS gM gB v93 Cm) vG) ot) Ci) IP) zM) qZ) nC) ie) jK) kA) (λjI kC sM qw ve uJ AU vN yx lZ=>CD yx (B1 (fl [(.str []),.ah,(zi 0),(zi 0),(zi 0),(.str [])] []) λUc=>B1 (st 6 kC (.agg Uc) lZ) λtP=>B1 (aB 6 kC tP) λyn=>some (.tuple [yn,(.bool false)],tP)) (Ls jI kC sM qw ve uJ AU vN lZ))) (λoD rX ma sX tv xj tV qW DF=>B1 (aZ tv (zi 1)) λFZ=>B1 (nG 1 sX (some FZ) none none) λv117=>fe oD rX ma v117 xj tV qW DF))) (λqA pQ pD qo sL uM BW B4=>B1 (aZ BW (zi 1)) λD7=>iq qA pQ pD qo sL uM D7 B4)) (aK bO cZ c8)
def OZ:yL 2 7:=yX 89 [1,1,1,0,1,0,0] [1,4,6,7,20,21,22] 0 [4,6]
theorem IZ:yQ7 OZ Fj:=yq7
def Zr:yS 2:=λJ G cf a0 a1 H=>BN (aA H [(.str []),.ah,(zi 0),(zi 0),(zi 0),(.str [])] 99 0) λi0 h1=>J 4 (λj2=>B1 (ia 1 a0 (zi 0)) λv3=>B1 (ld v3 h1) λv4=>B1 (fl [(.str []),.ah,(zi 0),(zi 0),(zi 0),(.str [])] [(0,1,v4),(3,1,(zi 10)),(4,1,(zi 1))]) λl5=>BN (aA h1 [(.str []),.ah,(zi 0),(zi 0),(zi 0),(.str [])] 99 0) λi6 h7=>B1 (st 6 (.ptr i6 0) (.agg l5) h7) λh8=>j2 a0 a1 (.ptr i0 0) (.ptr i6 0) h8) (λx9 cz bR bH fL=>B1 (fl [(.str []),(.str []),(.str []),(.str []),(.str [])] [(0,1,(.str [97,102,116,101,114])),(1,1,(.str [114,101,116,114,121])),(2,1,(.str [119,97,105,116])),(3,1,(.str [98,97,115,101])),(4,1,(.str [111,110]))]) λl14=>BN (aA fL l14 9 0) λi15 bL=>J 2 (λnR=>B1 (nG 1 x9 (some (zi 1)) none none) λcg=>B1 (aG cg) λeZ=>J 2 (λaK=>OZ J G cf aK cz bR bH (.slice i15 0 5 5 true 1) cg eZ (zi 0) bL) (λiK jc Jm=>nR iK jc Jm)) (λlO oF Iq=>B1 (aB 6 oF Iq) λB6=>B1 (st 6 lO B6 Iq) λDd=>B1 (aB 6 lO Dd) λAY=>some (.tuple [AY,(.bool true)],Dd)))
theorem abn:yC2 89 Zr:=yM2
def Vr:yB 3 6:=λJ G cf iR bp cG bK bU dD bf bo df=>B1 (ba bo bf) λv24=>CD v24 (J 6 (λym=>B1 (ia 1 dD bo) λv26=>B1 (ld v26 df) λv27=>B2 (cf (zf 88) [v27,(.str [32])] df) λv28 c8=>J 7 (λzy=>B1 (fl [.ah] [(0,1,v28)]) λYK=>BN (aA c8 YK 46 0) λi32 jj=>B2 (cY 46 1 [.ah] false bK (.slice i32 0 1 1 true 1) jj) λcP iH=>zy cG cP bU v28 dD bf bo iH) (λbG cn bN eK dI gF fP wU=>B1 (ia 1 eK (zi 0)) λv44=>B1 (ld v44 wU) λdU=>B1 (fl [(.str [])] [(0,1,dU)]) λl46=>BN (aA wU l46 9 0) λi47 oI=>B2 (cY 9 1 [(.str [])] false bN (.slice i47 0 1 1 true 1) oI) λv49 kU=>ym bG cn v49 dI gF fP kU)) (λiT gr iw jb gu eY oa=>B1 (aZ eY (zi 1)) λjR=>bp iT gr iw jb gu jR oa)) (iR cG bK bU df)
def XQ:yL 3 6:=yX 53 [1,1,1,1,0,1,0,0] [2,4,5,20,21,22] 0 [2,4,5]
theorem aiv:yQ6 XQ Vr:=yq6
def JO:yB 2 6:=λJ G cf xc Bf jy ju lF ir gk gD il=>B1 (ba gD gk) λv80=>CD v80 (J 6 (λYC=>B1 (ia 1 ir gD) λmu=>B1 (ld mu il) λkL=>J 8 (λUb=>B2 (cf (zf 89) [kL,ju] il) λv85 ue=>B1 (ex 0 v85) λv87=>B1 (ex 1 v85) λrI=>BN (aA ue [(.str []),.ah,(zi 0),(zi 0),(zi 0),(.str [])] 99 0) λi89 sC=>B1 (st 6 (.ptr i89 0) v87 sC) λy8=>Ub jy ju lF (.ptr i89 0) rI ir gk gD y8) (λlq nW jI kC sM qw ve uJ xL=>J 7 (λzK=>B1 (dY .not sM) λsf=>CD sf (B1 (fl [.ah] []) λat5=>B1 (st 1 lq (.agg at5) xL) λFR=>B1 (aB 1 lq FR) λv105=>some (.tuple [v105,(zi 2)],FR)) (zK lq nW jI kC qw ve uJ xL)) (λtD oD rX ma sX tv xj DU=>B1 (fa 0 rX) λwq=>B1 (ld wq DU) λtZ=>B1 (aB 6 ma DU) λFZ=>B1 (fl [(.str []),.ah,(zi 0),(zi 0),(zi 0),(.str [])] [(0,6,FZ)]) λavN=>BN (aA DU avN 99 0) λi118 V8=>B2 (cY 99 6 [(.str []),.ah,(zi 0),(zi 0),(zi 0),(.str [])] false tZ (.slice i118 0 1 1 true 6) V8) λJL Pp=>B1 (fa 0 rX) λyc=>B1 (st 1 yc JL Pp) λIA=>YC tD oD rX sX tv xj IA))) (λBW JI kG iK jc jw XZ=>B1 (aZ jw (zi 1)) λv131=>Bf BW JI kG iK jc v131 XZ)) (xc jy lF il)
def Re:yL 2 6:=yX 53 [1,1,1,1,1,1,0,1,0,0] [2,5,9,39,40,41] 2 [2,9]
theorem Qs:yQ6 Re JO:=yq6
def IF:yS 1:=λJ G cf a0 H=>BN (aA H [.ah] 72 0) λi0 h1=>J 2 (λj2=>B1 (lens a0) λv3=>B1 (iP v3 (zi 1024)) λv4=>CD v4 (B1 (fl [.ah] []) λl5=>B1 (st 1 (.ptr i0 0) (.agg l5) h1) λh6=>B1 (aB 1 (.ptr i0 0) h6) λv7=>some (.tuple [v7,(zi 14)],h6)) (j2 a0 (.ptr i0 0) h1)) (λx8 x9 cl=>J 3 (λpI=>B2 (cf (zf 88) [x8,(.str [59])] cl) λv12 fL=>B1 (aG v12) λbq=>J 3 (λiR=>XQ J G cf iR x9 .ah .ah v12 bq (zi 0) fL) (λdV et dc ie=>pI dV et dc ie)) (λgI fH fw eX=>BN (aA eX [.ah] 72 0) λi67 pX=>J 2 (λIr=>B1 (aG fH) λv70=>J 2 (λxc=>Re J G cf xc gI fw (.ptr i67 0) fH v70 (zi 0) pX) (λkc xM Dd=>Ir kc xM Dd)) (λtu pq Ga=>J 2 (λTa=>B1 (aB 1 pq Ga) λv139=>B2 (cf (zf 90) [v139] Ga) λCe tY=>B1 (fQ Ce (zi 0)) λBK=>CD BK (B1 (fl [.ah] []) λaqK=>B1 (st 1 tu (.agg aqK) tY) λCS=>B1 (aB 1 tu CS) λv145=>some (.tuple [v145,Ce],CS)) (Ta tu pq tY)) (λGW BR Jr=>B1 (aB 1 BR Jr) λYF=>B1 (st 1 GW YF Jr) λNX=>B1 (aB 1 GW NX) λapS=>some (.tuple [apS,(zi 0)],NX)))))
theorem MG:yC1 53 IF:=yM1
def acm:yS 3:=λJ G cf a0 a1 a2 H=>B1 (lI a0 a1) λv0=>G v0 true (λk1=>k1 a0 H) (λv2 h3=>G v0 true (λk4=>k4 a2 h3) (λv5 h6=>G v0 true (λk7=>B1 (pW v2 v5) λv8=>k7 v8 h6) (λv9 cl=>B1 (pk v0 v9 (.bool false)) λv11=>some (v11,cl)) h6) h3) H
theorem aAr:yC3 119 acm:=yM3
def RC:yB 0 4:=λJ G cf j6 j7 x8 x9 cz bR dZ=>B1 (ba bR cz) λcN=>CD cN (J 4 (λeD=>J 6 (λiR=>B1 (ia 6 x9 bR) λcF=>B1 (aB 6 cF dZ) λef=>BN (aA dZ [(.str []),.ah,(zi 0),(zi 0),(zi 0),(.str [])] 99 0) λi18 dL=>B1 (st 6 (.ptr i18 0) ef dL) λda=>iR x8 bR (.ptr i18 0) x9 cz bR da) (λbf bo bO cZ bV di eO=>B1 (aB 6 bO eO) λv28=>B2 (cf bf [bo,v28] eO) λv29 iG=>CD v29 (some ((.bool true),iG)) (eD bf cZ bV di iG))) (λbX fg fC dT iH=>B1 (aZ dT (zi 1)) λv36=>j7 bX fg fC v36 iH)) (j6  dZ)
def TY:yL 0 4:=yX 125 [1,0,1,0,0] [1,8,9,10] 0 []
theorem UT:yQ4 TY RC:=yq4
def ad5:yS 2:=λJ G cf a0 a1 H=>BN (bx 72 a0 H) λi0 h1=>J 0 (λj2=>B1 (fa 0 (.ptr i0 0)) λv3=>B1 (ld v3 h1) λv4=>B1 (aG v4) λv5=>J 0 (λj6=>TY J G cf j6 a1 v4 v5 (zi 0) h1) (λgN=>j2  gN)) (λgq=>some ((.bool false),gq))
theorem aug:yC2 125 ad5:=yM2
def QL:yB 1 4:=λJ G cf gP KM cn bN eK dI fZ=>B1 (ba dI eK) λcW=>CD cW (J 4 (λKj=>B1 (ia 2 bN dI) λv44=>B1 (aB 2 v44 fZ) λdU=>BN (aA fZ [.nilFunc,(zi 0)] 194 0) λi46 nN=>B1 (st 2 (.ptr i46 0) dU nN) λoI=>B1 (aB 1 cn oI) λv49=>B1 (fa 0 (.ptr i46 0)) λgm=>B1 (ld gm oI) λv51=>B2 (cf (zf 125) [v49,v51] oI) λgE gU=>CD gE (B1 (fa 1 (.ptr i46 0)) λiI=>B1 (ld iI gU) λfR=>some (fR,gU)) (Kj cn bN eK dI gU)) (λeY fN fD dV uj=>B1 (aZ dV (zi 1)) λlK=>KM eY fN fD lK uj)) (gP cn fZ)
def LZ:yL 1 4:=yX 90 [1,1,1,0,1,0,0] [1,18,19,20] 0 [1]
theorem acO:yQ4 LZ QL:=yq4
def Dp:yS 1:=λJ G cf a0 H=>BN (bx 72 a0 H) λi0 h1=>J 1 (λj2=>J 2 (λj3=>B1 (fa 0 (.ptr i0 0)) λv4=>B1 (ld v4 h1) λv5=>B1 (aG v5) λv6=>B2 (cf (zf 119) [v6,(zi 1),(zi 16)] h1) λv7 h8=>B1 (dY .not v7) λv9=>j3 (.ptr i0 0) v9 h8) (λcz bR dZ=>CD bR (some ((zi 1),dZ)) (j2 cz dZ))) (λbJ ik=>BN (Bj ik) λi15 bL=>BN (aA bL [.kP] 192 0) λi17 gY=>B1 (st 1 (.ptr i17 0) (.map i15) gY) λdL=>J 1 (λaK=>J 4 (λiq=>B1 (fl [.nilFunc,(zi 0)] [(0,1,(zf 120)),(1,1,(zi 2))]) λTv=>B1 (fl [.nilFunc,(zi 0)] [(0,1,(.func (.func 121) [] [(.ptr i17 0)])),(1,1,(zi 5))]) λl23=>B1 (fl [.nilFunc,(zi 0)] [(0,1,(zf 122)),(1,1,(zi 1))]) λXJ=>B1 (fl [.nilFunc,(zi 0)] [(0,1,(.func (.func 123) [] [bJ])),(1,1,(zi 1))]) λl25=>B1 (fl [.nilFunc,(zi 0),.nilFunc,(zi 0),.nilFunc,(zi 0),.nilFunc,(zi 0)] [(0,2,(.agg Tv)),(2,2,(.agg l23)),(4,2,(.agg XJ)),(6,2,(.agg l25))]) λl26=>BN (aA dL l26 194 0) λi27 hZ=>B1 (aG (.slice i27 0 4 4 true 2)) λv29=>iq bJ (.slice i27 0 4 4 true 2) v29 (zi 0) hZ) (λdJ bX fg fC iu=>J 1 (λgP=>LZ J G cf gP dJ bX fg fC iu) (λiO zz=>aK iO zz))) (λfH nC=>J 0 (λj66=>J 1 (λKC=>B1 (aB 1 fH nC) λnM=>B2 (cf (zf 127) [nM] nC) λmJ tE=>B2 (cf (zf 126) [mJ] tE) λmD mU=>B1 (aG mD) λiV=>B1 (iP iV (zi 0)) λjN=>KC jN mU) (λlF jF=>CD lF (some ((zi 7),jF)) (j66  jF))) (λIP=>some ((zi 0),IP))))
theorem HZ:yC1 90 Dp:=yM1
def aaz:yS 2:=λJ G cf a0 a1 H=>BN (bx 99 a1 H) λi0 h1=>B1 (fa 0 (.ptr i0 0)) λv2=>B1 (ld v2 h1) λv3=>B2 (cf (zf 54) [v3] h1) λv4 h5=>B1 (dY .not v4) λv6=>G v6 false (λk7=>B1 (fa 5 (.ptr i0 0)) λv8=>k7 v8 h5) (λv9 cl=>G v6 false (λB7=>B1 (ld v9 cl) λv12=>B7 v12 cl) (λcN ik=>G v6 false (λzb=>B1 (tf cN (.str [])) λcF=>zb cF ik) (λef gY=>G v6 false (λNx=>Nx ef gY) (λv20 jM=>G v20 true (λFG=>B1 (fa 5 (.ptr i0 0)) λv23=>FG v23 jM) (λv24 dR=>G v20 true (λBC=>B1 (ld v24 dR) λv27=>BC v27 dR) (λv28 c8=>G v20 true (λyb=>B2 (cf (zf 54) [v28] c8) λv31 cH=>yb v31 cH) (λeU iu=>G v20 true (λvC=>B1 (dY .not eU) λv36=>vC v36 iu) (λv37 gq=>G v6 false (λyA=>B1 (pk v20 v37 (.bool false)) λv40=>yA v40 gq) (λv41 eG=>B1 (pk v6 (.bool true) v41) λeM=>some (eM,eG)) gq) iu) c8) dR) jM) gY) ik) cl) h5
theorem awo:yC2 120 aaz:=yM2
def Vq:yS 3:=λJ G cf a0 a1 a2 H=>BN (bx 99 a1 H) λi0 h1=>J 3 (λj2=>B1 (ld a2 h1) λv3=>B1 (fa 0 (.ptr i0 0)) λv4=>B1 (ld v4 h1) λv5=>B1 (sw .str (.bool false) false v3 v5 h1) λv6=>j2 a2 (.ptr i0 0) v6 h1) (λx7 x8 x9 cl=>B1 (ld x7 cl) λv11=>B1 (fa 0 x8) λv12=>B1 (ld v12 cl) λcN=>B1 (yD .str v11 cN (.bool true) cl) λik=>some (x9,ik))
theorem ah0 (h:Vq JN GO cK a0 a1 a2 H=some r):cK (.func (.func 121) [] [a2]) [a0,a1] H=some r:=xe (first:=[]) (cap:=[a2]) (abG zzw h)
def ac6:yS 2:=λJ G cf a0 a1 H=>BN (bx 99 a1 H) λi0 h1=>B1 (fa 2 (.ptr i0 0)) λv2=>B1 (ld v2 h1) λv3=>B2 (cf (zf 119) [v3,(zi 0),(zi 8)] h1) λv4 h5=>B1 (dY .not v4) λv6=>G v6 false (λk7=>B1 (fa 3 (.ptr i0 0)) λv8=>k7 v8 h5) (λv9 cl=>G v6 false (λB7=>B1 (ld v9 cl) λv12=>B7 v12 cl) (λcN ik=>G v6 false (λzb=>B2 (cf (zf 119) [cN,(zi 1),(zi 1000)] ik) λcF eH=>zb cF eH) (λcg dL=>G v6 false (λKo=>B1 (dY .not cg) λv21=>Ko v21 dL) (λv22 df=>B1 (pk v6 (.bool true) v22) λv24=>G v24 false (λyh=>B1 (fa 4 (.ptr i0 0)) λv26=>yh v26 df) (λv27 hZ=>G v24 false (λL4=>B1 (ld v27 hZ) λv30=>L4 v30 hZ) (λv31 cH=>G v24 false (λCa=>B2 (cf (zf 119) [v31,(zi 1),(zi 1000)] cH) λcP iH=>Ca cP iH) (λv36 gN=>G v24 false (λyj=>B1 (dY .not v36) λfc=>yj fc gN) (λv40 fZ=>B1 (pk v24 (.bool true) v40) λcW=>some (cW,fZ)) gN) cH) hZ) df) dL) ik) cl) h5
theorem am9:yC2 122 ac6:=yM2
def agZ:yS 3:=λJ G cf a0 a1 a2 H=>BN (bx 99 a1 H) λi0 h1=>B1 (aB 1 a2 h1) λv2=>B1 (fa 1 (.ptr i0 0)) λv3=>B1 (ld v3 h1) λv4=>B2 (cf (zf 124) [v2,a0,v4] h1) λv5 h6=>B1 (dY .not v5) λv7=>some (v7,h6)
theorem ar8 (h:agZ JN GO cK a0 a1 a2 H=some r):cK (.func (.func 123) [] [a2]) [a0,a1] H=some r:=xe (first:=[]) (cap:=[a2]) (abG zzw h)
def Hg:yB 0 6:=λJ G cf j4 j5 x6 x7 x8 x9 cz bR dZ=>B1 (ba bR cz) λcN=>CD cN (J 6 (λeD=>J 8 (λiR=>B1 (ia 1 x9 bR) λcF=>B1 (ld cF dZ) λef=>iR x6 x7 x8 bR ef x9 cz bR dZ) (λbK bU dD bf bo bO cZ bV eI=>J 7 (λzg=>B1 (fa 0 dD) λv28=>B1 (ld v28 eI) λv29=>B1 (aG v29) λv30=>B1 (oL v30 (zi 1)) λv31=>B2 (cf (zf 119) [bo,(zi 0),v31] eI) λv32 jj=>B1 (dY .not v32) λcP=>G cP false (λvC=>vC bo jj) (λv36 gN=>G cP false (λyj=>yj bK gN) (λfc nc=>G cP false (λY3=>B1 (bD v36 fc) λcW=>Y3 cW nc) (λeM dP=>B1 (pk cP (.bool true) eM) λdU=>G dU false (λKm=>Km bU dP) (λiA oI=>G dU false (λYe=>Ye bf oI) (λgm jO=>G dU false (λwG=>B1 (nG 1 iA none (some gm) none) λv53=>wG v53 jO) (λiI oO=>G dU false (λBP=>BP bo oO) (λv57 jK=>G dU false (λFM=>B2 (cf (zf 154) [iI,v57] jK) λfE kE=>FM fE kE) (λgW zz=>B1 (pk dU (.bool true) gW) λv64=>zg bK bU dD bO cZ bV v64 zz) jK) oO) jO) oI) dP) nc) gN) jj) (λfw mW gH gK kj jA nY mU=>CD nY (some ((.bool false),mU)) (eD fw mW gH gK kj jA mU)))) (λjy ju lF ir gk gD il=>B1 (aZ gD (zi 1)) λv80=>j5 jy ju lF ir gk v80 il)) (j4  dZ)
def SU:yL 0 6:=yX 124 [1,0,1,0,0] [1,2,3,9,10,11] 0 []
theorem ahB:yQ6 SU Hg:=yq6
def abh:yS 3:=λJ G cf a0 a1 a2 H=>BN (bx 72 a0 H) λi0 h1=>J 0 (λj2=>B1 (aG a2) λv3=>J 0 (λj4=>SU J G cf j4 a1 a2 (.ptr i0 0) a2 v3 (zi 0) h1) (λEA=>j2  EA)) (λrE=>some ((.bool true),rE))
theorem azg:yC3 124 abh:=yM3
def LY (J:JT)(G:GT)(cf:CF)(bh:K.Fn 1)(aK:K.Fn 5)(fB:K.Fn 7)(pz:K.Fn 10)(dT cI bG cn bN eK dI gF fP eV:AV)(dP:Hp):R:=B1 (ba eV fP) λdU=>CD dU (J 10 (λMU=>J 12 (λBe=>B1 (ia 1 gF eV) λfA=>B1 (ld fA dP) λv49=>Be dT cI bG cn eV v49 bN eK dI gF fP eV dP) (λiv iT gr iw jb gu eY fN fD dV et dc ie=>J 11 (λNL=>B1 (bD jb (zi 0)) λv64=>CD v64 (B1 (uh iw (.str [32,97,102,116,101,114,61])) λgJ=>NL iv iT gr gJ gu eY fN fD dV et dc ie) (B1 (uh iw (.str [44])) λmF=>NL iv iT gr mF gu eY fN fD dV et dc ie)) (λgH gK kj jA nY oW jy ju lF ir gk xr=>B1 (fa 0 gH) λmS=>B1 (ld mS xr) λv80=>B1 (ia 6 v80 nY) λki=>B1 (fa 0 ki) λmu=>B1 (ld mu xr) λkL=>B1 (uh jA kL) λBz=>MU gH gK kj Bz oW jy ju lF ir gk xr))) (λme nV rW nI Bq CT yz lq nW jI mY=>B1 (aZ jI (zi 1)) λlj=>pz me nV rW nI Bq CT yz lq nW lj mY)) (fB dT cI bG cn bN eK dI dP)
def Kw (J:JT)(G:GT)(cf:CF)(bh:K.Fn 1)(aK:K.Fn 5)(fB:K.Fn 7):K.Fn 10:=Cc P an J G cf 55 [1,1,1,0,1,0,0,1,1,0,0,1,1,0,1,0,0] [1,3,5,6,13,14,15,22,23,24] (λq t H=>match Nat.beq q 2 with|true=>app 7 fB (aI [1,3,5,6,13,14,15] t) H|false=>(λq t H=>match Nat.beq q 1 with|true=>app 5 aK (aI [1,3,13,14,15] t) H|false=>(λq t H=>match Nat.beq q 0 with|true=>app 1 bh (aI [3] t) H|false=>(λ_ _ _=>none) q t H) q t H) q t H)
theorem att (J:JT)(G:GT)(cf:CF)(bh:K.Fn 1)(aK:K.Fn 5)(fB:K.Fn 7)(pz:K.Fn 10)(dT cI bG cn bN eK dI gF fP eV:AV)(dP:Hp):wu P an J G cf 55 [1,1,1,0,1,0,0,1,1,0,0,1,1,0,1,0,0] [1,3,5,6,13,14,15,22,23,24] (λq t H=>match Nat.beq q 2 with|true=>app 7 fB (aI [1,3,5,6,13,14,15] t) H|false=>(λq t H=>match Nat.beq q 1 with|true=>app 5 aK (aI [1,3,13,14,15] t) H|false=>(λq t H=>match Nat.beq q 0 with|true=>app 1 bh (aI [3] t) H|false=>(λ_ _ _=>none) q t H) q t H) q t H) pz [dT,cI,bG,cn,bN,eK,dI,gF,fP,eV] dP=LY J G cf bh aK fB pz dT cI bG cn bN eK dI gF fP eV dP:=zzw
theorem VB (cf:CF)(bh:K.Fn 1)(aK:K.Fn 5)(fB:K.Fn 7)(dT cI bG cn bN eK dI gF fP eV:AV)(dP:Hp):Kw JN GO cf bh aK fB dT cI bG cn bN eK dI gF fP eV dP=LY JN GO cf bh aK fB (Kw JN GO cf bh aK fB) dT cI bG cn bN eK dI gF fP eV dP:=abG (b:=app 10 (Kw JN GO cf bh aK fB) [dT,cI,bG,cn,bN,eK,dI,gF,fP,eV] dP) zzw ((wF cf _ _ _ _ [dT,cI,bG,cn,bN,eK,dI,gF,fP,eV] rfl dP).trans (att JN GO cf bh aK fB _ dT cI bG cn bN eK dI gF fP eV dP))
def Rh:yB 1 5:=λJ G cf bh pI bH bJ dQ dN bT eH=>B1 (ba bT dN) λcg=>CD cg (J 5 (λcU=>J 5 (λaK=>B1 (ia 6 dQ bT) λv21=>B1 (aB 6 v21 eH) λv22=>BN (aA eH [(.str []),.ah,(zi 0),(zi 0),(zi 0),(.str [])] 99 0) λi23 fW=>B1 (st 6 (.ptr i23 0) v22 fW) λdR=>B1 (fa 0 (.ptr i23 0)) λv26=>B1 (ld v26 dR) λv27=>J 7 (λqR=>B1 (fa 1 (.ptr i23 0)) λv29=>B1 (ld v29 dR) λv30=>B1 (aG v30) λv31=>J 7 (λfB=>Kw J G cf bh aK fB bH bJ (.ptr i23 0) v27 dQ dN bT v30 v31 (zi 0) dR) (λqw ve uJ AU vN yx Cb FR=>qR qw ve uJ AU vN yx Cb FR)) (λBS tD oD rX ma sX tv tX=>J 7 (λas9=>B1 (fa 2 oD) λwq=>B1 (ld wq tX) λtZ=>B2 (cf (zf 92) [(.str [32,114,101,116,114,121,61]),tZ,(zi 0)] tX) λFZ Ay=>B1 (fa 3 oD) λwV=>B1 (ld wV Ay) λxt=>B2 (cf (zf 92) [(.str [32,119,97,105,116,61]),xt,(zi 10)] Ay) λJL Pp=>B1 (uh FZ JL) λyc=>B1 (fa 4 oD) λvP=>B1 (ld vP Pp) λv124=>B2 (cf (zf 92) [(.str [32,98,97,115,101,61]),v124,(zi 1)] Pp) λxJ Ax=>B1 (uh yc xJ) λv127=>B1 (uh rX v127) λDY=>B1 (ld wV tX) λFx=>SM xt Fx <| B1 (ld vP tX) λv130=>SM v124 v130 <| B1 (ld vP Ay) λv131=>SM v124 v131 <| as9 BS tD oD DY ma sX tv Ax) (λkc xM yY tu pq sY vq Du=>J 6 (λalU=>B1 (fa 5 yY) λv141=>B1 (ld v141 Du) λBK=>B1 (tf BK (.str [])) λv143=>CD v143 (B1 (fa 5 yY) λaab=>B1 (ld aab Du) λv145=>B1 (uh (.str [32,111,110,61]) v145) λv146=>B1 (uh tu v146) λCJ=>alU kc xM CJ pq sY vq Du) (alU kc xM tu pq sY vq Du)) (λBE xi yr qN oZ xN zo=>B1 (fl [(.str [])] [(0,1,yr)]) λarS=>BN (aA zo arS 9 0) λi156 SJ=>B2 (cY 9 1 [(.str [])] false xi (.slice i156 0 1 1 true 1) SJ) λLq HO=>aK BE Lq qN oZ xN HO)))) (λEC WX Fu Ez MB IM=>cU EC WX Fu Ez MB IM)) (λVf qU vm u6 B3 Wv=>B1 (aZ B3 (zi 1)) λZB=>pI Vf qU vm u6 ZB Wv)) (bh bJ eH)
def YB:yL 1 5:=yX 55 [1,1,1,0,1,0,0] [1,3,13,14,15] 0 [3]
theorem aao:yQ5 YB Rh:=yq5
def ZV:yS 1:=λJ G cf a0 H=>BN (bx 72 a0 H) λi0 h1=>B1 (aB 1 (.ptr i0 0) h1) λv2=>B2 (cf (zf 90) [v2] h1) λv3 h4=>B1 (fQ v3 (zi 0)) λv5=>CD v5 (some ((.str []),h4)) (J 1 (λj6=>B1 (fa 0 (.ptr i0 0)) λv7=>B1 (ld v7 h4) λv8=>B1 (aG v8) λv9=>J 1 (λbh=>YB J G cf bh (.ptr i0 0) .ah v8 v9 (zi 0) h4) (λsQ axu=>j6 sQ axu)) (λGe Zy=>B2 (cf (zf 85) [Ge,(.str [59])] Zy) λCn uK=>some (Cn,uK)))
theorem adb:yC1 55 ZV:=yM1
def Vk:yS 3:=λJ G cf a0 a1 a2 H=>B1 (bD a1 a2) λv0=>CD v0 (some ((.str []),H)) (B2 (cf (zf 84) [a1] H) λv1 h2=>B1 (uh a0 v1) λv3=>some (v3,h2))
theorem aeG:yC3 92 Vk:=yM3
def Se (J:JT)(G:GT)(cf:CF)(aK:K.Fn 2)(fe:K.Fn 6)(mR:K.Fn 6)(Qv:K.Fn 10)(gr iw jb gu eY fN fD dV et dc:AV)(ie:Hp):R:=B1 (ba dc et) λv63=>CD v63 (J 10 (λj64=>J 10 (λj65=>B1 (ia 1 dV dc) λmF=>B1 (ld mF ie) λkY=>J 12 (λWA=>B1 (fl [(zi 0),(zi 0)] [(0,1,kY),(1,1,gu)]) λl69=>BN (aA ie [(zi 0),(zi 0)] 231 0) λi70 jJ=>B1 (st 2 (.ptr i70 0) (.agg l69) jJ) λmU=>WA gr iw jb gu kY (.ptr i70 0) eY fN fD dV et dc mU) (λjy ju lF ir gk gD qd pA og p8 nb mM qG=>J 12 (λJX=>B1 (fa 0 jy) λv87=>B1 (ld v87 qG) λrI=>B1 (aG rI) λpw=>B1 (oL pw (zi 1)) λpJ=>B2 (cf (zf 119) [gk,(zi 0),pJ] qG) λv91 Cm=>G v91 true (λPL=>PL gk Cm) (λtG mY=>G v91 true (λk96=>k96 ir mY) (λA9 CW=>G v91 true (λV4=>B1 (fQ tG A9) λtc=>V4 tc CW) (λwg yv=>B1 (pk v91 wg (.bool false)) λwQ=>G wQ true (λYV=>B1 (fa 1 lF) λv105=>YV v105 yv) (λyn Fc=>G wQ true (λaqD=>B1 (ld yn Fc) λv109=>aqD v109 Fc) (λGG Nr=>G wQ true (λanV=>B1 (aB 2 gD Nr) λuP=>anV uP Nr) (λwq DF=>G wQ true (λaqX=>B2 (cf (zf 158) [GG,wq] DF) λv117 CP=>aqX v117 CP) (λxt y9=>G wQ true (λVE=>B1 (dY .not xt) λyc=>VE yc y9) (λvP qC=>B1 (pk wQ vP (.bool false)) λxJ=>JX jy ju lF ir gD qd pA og p8 nb mM xJ qC) y9) DF) Nr) Fc) yv) CW) mY) Cm) (λkG iK jc jw lO oF kc xM yY tu pq sY GB=>CD sY (B1 (fa 1 jc) λv139=>B1 (ld v139 GB) λCe=>B1 (aB 2 lO GB) λv141=>B1 (fl [(zi 0),(zi 0)] [(0,2,v141)]) λaxF=>BN (aA GB axF 231 0) λi143 CS=>B2 (cY 231 2 [(zi 0),(zi 0)] false Ce (.slice i143 0 1 1 true 2) CS) λv145 xF=>B1 (fa 1 jc) λCJ=>B1 (st 1 CJ v145 xF) λJr=>j65 kG iK jc jw oF kc xM yY tu pq Jr) (j65 kG iK jc jw oF kc xM yY tu pq GB)))) (λxi yr qN oZ xN xw Le zv yW ug HO=>j64 xi yr qN oZ xN xw Le zv yW ug HO)) (λEC WX Fu Ez MB Vb Vf qU vm u6 azx=>B1 (aZ u6 (zi 1)) λv171=>Qv EC WX Fu Ez MB Vb Vf qU vm v171 azx)) (mR gr iw jb eY fN fD ie)
def Ml (J:JT)(G:GT)(cf:CF)(aK:K.Fn 2)(fe:K.Fn 6)(mR:K.Fn 6):K.Fn 10:=Cc P an J G cf 127 [1,1,0,1,0,0,1,1,0,0,1,1,0,0] [1,2,3,4,14,15,16,22,23,24] (λq t H=>match Nat.beq q 2 with|true=>app 6 mR (aI [1,2,3,14,15,16] t) H|false=>(λq t H=>match Nat.beq q 1 with|true=>app 6 fe (aI [1,2,3,14,15,16] t) H|false=>(λq t H=>match Nat.beq q 0 with|true=>app 2 aK (aI [2,3] t) H|false=>(λ_ _ _=>none) q t H) q t H) q t H)
theorem aAe (J:JT)(G:GT)(cf:CF)(aK:K.Fn 2)(fe:K.Fn 6)(mR:K.Fn 6)(Qv:K.Fn 10)(gr iw jb gu eY fN fD dV et dc:AV)(ie:Hp):wu P an J G cf 127 [1,1,0,1,0,0,1,1,0,0,1,1,0,0] [1,2,3,4,14,15,16,22,23,24] (λq t H=>match Nat.beq q 2 with|true=>app 6 mR (aI [1,2,3,14,15,16] t) H|false=>(λq t H=>match Nat.beq q 1 with|true=>app 6 fe (aI [1,2,3,14,15,16] t) H|false=>(λq t H=>match Nat.beq q 0 with|true=>app 2 aK (aI [2,3] t) H|false=>(λ_ _ _=>none) q t H) q t H) q t H) Qv [gr,iw,jb,gu,eY,fN,fD,dV,et,dc] ie=Se J G cf aK fe mR Qv gr iw jb gu eY fN fD dV et dc ie:=zzw
theorem aep (cf:CF)(aK:K.Fn 2)(fe:K.Fn 6)(mR:K.Fn 6)(gr iw jb gu eY fN fD dV et dc:AV)(ie:Hp):Ml JN GO cf aK fe mR gr iw jb gu eY fN fD dV et dc ie=Se JN GO cf aK fe mR (Ml JN GO cf aK fe mR) gr iw jb gu eY fN fD dV et dc ie:=abG (b:=app 10 (Ml JN GO cf aK fe mR) [gr,iw,jb,gu,eY,fN,fD,dV,et,dc] ie) zzw ((wF cf _ _ _ _ [gr,iw,jb,gu,eY,fN,fD,dV,et,dc] rfl ie).trans (aAe JN GO cf aK fe mR _ gr iw jb gu eY fN fD dV et dc ie))
def Tl:yB 2 6:=λJ G cf aK iq bo bO cZ bV di dm hZ=>B1 (ba dm di) λv29=>CD v29 (J 6 (λzy=>J 6 (λfe=>J 8 (λfB=>B1 (ia 6 bV dm) λeU=>B1 (aB 6 eU hZ) λcP=>BN (aA hZ [(.str []),.ah,(zi 0),(zi 0),(zi 0),(.str [])] 99 0) λi35 np=>B1 (st 6 (.ptr i35 0) cP np) λgN=>fB bo bO cZ dm (.ptr i35 0) bV di dm gN) (λbN eK dI gF fP eV lz iB iz=>B1 (fa 1 fP) λiA=>B1 (ld iA iz) λfA=>B1 (aG fA) λv49=>J 6 (λmR=>Ml J G cf aK fe mR bN eK dI gF eV lz iB fA v49 (zi 0) iz) (λvQ sQ uO Ge Zc U9 uK=>fe vQ sQ uO Ge Zc U9 uK))) (λXS Sh ayK avJ auM aAR ZX=>zy XS Sh ayK avJ auM aAR ZX)) (λXf Wi U4 SE Ti Lu Q2=>B1 (aZ Lu (zi 1)) λv193=>iq Xf Wi U4 SE Ti v193 Q2)) (aK bO cZ hZ)
def Xl:yL 2 6:=yX 127 [1,1,0,1,0,0] [1,2,3,14,15,16] 0 [2,3]
theorem adk:yQ6 Xl Tl:=yq6
def amf:yS 1:=λJ G cf a0 H=>BN (bx 72 a0 H) λi0 h1=>BN (aA h1 [(zi 0),.ah] 201 0) λi2 h3=>J 3 (λj4=>B1 (fa 0 (.ptr i0 0)) λv5=>B1 (ld v5 h3) λv6=>B1 (aG v6) λv7=>B1 (fl [(zi 0),.ah] [(0,1,v7)]) λl8=>BN (aA h3 [(zi 0),.ah] 201 0) λi9 cl=>B1 (st 2 (.ptr i9 0) (.agg l8) cl) λeP=>j4 (.ptr i0 0) (.ptr i2 0) (.ptr i9 0) eP) (λbH bJ dQ dK=>J 2 (λbp=>B1 (fa 0 bH) λef=>B1 (ld ef dK) λcg=>B1 (aG cg) λeZ=>J 2 (λaK=>Xl J G cf aK bH bJ dQ cg eZ (zi 0) dK) (λYR Li ay0=>bp YR Li ay0)) (λG8 Bw NU=>B1 (aB 2 Bw NU) λao0=>B1 (st 2 G8 ao0 NU) λNN=>B1 (aB 2 G8 NN) λaag=>some (aag,NN)))
theorem aqt:yC1 127 amf:=yM1
def UE:yS 1:=λJ G cf a0 H=>BN (bx 72 a0 H) λi0 h1=>BN (aA h1 [.ah,(zi 0),.ah,.ah] 75 0) λi2 h3=>J 2 (λj4=>B1 (aB 1 (.ptr i0 0) h3) λv5=>B2 (cf (zf 90) [v5] h3) λv6 h7=>B1 (fQ v6 (zi 0)) λv8=>CD v8 (B1 (fl [.ah,(zi 0),.ah,.ah] []) λl9=>B1 (st 4 (.ptr i2 0) (.agg l9) h7) λcl=>B1 (aB 4 (.ptr i2 0) cl) λv11=>some (.tuple [v11,v6],cl)) (j4 (.ptr i0 0) (.ptr i2 0) h7)) (λbH bJ ik=>J 2 (λiR=>B1 (aB 1 bH ik) λcF=>B1 (fa 0 bH) λef=>B1 (ld ef ik) λcg=>B1 (aG cg) λeZ=>B2 (Br [(zi 0),(zi 0),(zi 0),(.str [])] 132 4 eZ eZ ik) λv20 jM=>B1 (fl [.ah,(zi 0),.ah,.ah] [(0,1,cF),(2,1,v20)]) λTv=>B2 (cf (zf 97) [(.agg Tv)] jM) λv23 fW=>BN (aA fW [.ah,(zi 0),.ah,.ah] 75 0) λi25 eI=>B1 (st 4 (.ptr i25 0) v23 eI) λeO=>B1 (aB 1 bH jM) λv28=>SM cF v28 <| iR bJ (.ptr i25 0) eO) (λdq dJ gR=>B2 (cf (zf 106) [dJ] gR) λv32 jj=>B1 (aB 4 dJ jj) λcP=>B1 (st 4 dq cP jj) λiH=>B1 (aB 4 dq iH) λv36=>some (.tuple [v36,(zi 0)],iH)))
theorem aa6:yC1 76 UE:=yM1
def ZU:yB 2 5:=λJ G cf qR L3 dJ bX fg fC dT iH=>B1 (ba dT fC) λv36=>CD v36 (J 5 (λLt=>J 7 (λTT=>B1 (ia 6 fg dT) λfc=>B1 (aB 6 fc iH) λv40=>BN (aA iH [(.str []),.ah,(zi 0),(zi 0),(zi 0),(.str [])] 99 0) λi41 eG=>B1 (st 6 (.ptr i41 0) v40 eG) λwU=>TT dJ bX dT (.ptr i41 0) fg fC dT wU) (λlz iB jz gS gM gB iv jO=>B1 (fa 0 lz) λgE=>B1 (fa 0 gE) λv53=>B1 (ld v53 jO) λiI=>B1 (fa 1 gS) λfR=>B1 (ld fR jO) λjq=>B2 (cf (zf 137) [jq] jO) λv57 jK=>B1 (ia 6 iI jz) λv59=>B1 (fa 1 v59) λfE=>B1 (st 1 fE v57 jK) λkE=>B1 (ld v53 jK) λgW=>SM iI gW <| Lt lz iB gM gB iv kE)) (λgI fH fw mW gH pX=>B1 (aZ gH (zi 1)) λmJ=>L3 gI fH fw mW mJ pX)) (qR dJ bX iH)
def aaf:yL 2 5:=yX 97 [1,1,0,1,0,0] [1,2,13,14,15] 0 [1,2]
theorem aib:yQ5 aaf ZU:=yq5
def adj:yS 1:=λJ G cf a0 H=>BN (bx 75 a0 H) λi0 h1=>BN (aA h1 [.ah,(zi 0),.ah,.ah] 75 0) λi2 h3=>J 2 (λj4=>B1 (fa 0 (.ptr i0 0)) λv5=>B1 (fa 0 v5) λv6=>B1 (ld v6 h3) λv7=>B2 (cf (zf 136) [v7] h3) λv8 h9=>B1 (fa 0 (.ptr i0 0)) λv10=>B1 (fa 0 v10) λv11=>B1 (st 1 v11 v8 h9) λdZ=>j4 (.ptr i0 0) (.ptr i2 0) dZ) (λbJ dQ dK=>J 2 (λbp=>J 5 (λnR=>B1 (fa 0 bJ) λcg=>B1 (fa 0 cg) λeZ=>B1 (ld eZ dK) λv20=>B1 (aG v20) λv21=>nR bJ dQ v20 v21 (zi 0) dK) (λbo bO cZ bV di eO=>J 2 (λqR=>aaf J G cf qR bo bO cZ bV di eO) (λjA nY mU=>bp jA nY mU))) (λjy ju ng=>J 2 (λLg=>B1 (fa 2 jy) λur=>B1 (ld ur ng) λpR=>B2 (cf (zf 138) [pR] ng) λmS Ci=>B1 (fa 2 jy) λki=>B1 (st 1 ki mS Ci) λrE=>Lg jy ju rE) (λnb mM qG=>J 2 (λJX=>B1 (fa 3 nb) λv87=>B1 (ld v87 qG) λrI=>B2 (cf (zf 30) [rI] qG) λpw sC=>B1 (fa 3 nb) λv91=>B1 (st 1 v91 pw sC) λCm=>JX nb mM Cm) (λnW jI mY=>B1 (aB 4 nW mY) λlj=>B1 (st 4 jI lj mY) λAP=>B1 (aB 4 jI AP) λxq=>some (xq,AP)))))
theorem aAB:yC1 97 adj:=yM1
def F7:yB 2 5:=λJ G cf bp nR bK bU dD bf bo df=>B1 (ba bo bf) λv24=>CD v24 (J 5 (λym=>J 7 (λBt=>B1 (ia 6 dD bo) λv27=>B1 (aB 6 v27 df) λv28=>BN (aA df [(.str []),.ah,(zi 0),(zi 0),(zi 0),(.str [])] 99 0) λi29 iG=>B1 (st 6 (.ptr i29 0) v28 iG) λgR=>Bt bK bU bo (.ptr i29 0) dD bf bo gR) (λfg fC dT cI bG cn bN fF=>J 8 (λvY=>B1 (fa 1 cI) λv41=>B1 (ld v41 fF) λcW=>B2 (cf (zf 143) [cW,(.func (.func 144) [] [fg])] fF) λeM dP=>vY fg fC dT cI eM bG cn bN dP) (λiB jz gS gM gB iv iT gr gU=>J 6 (λiS=>J 7 (λyT=>B1 (ld iB gU) λjq=>B1 (aJ jq) λv57=>B1 (fa 2 v57) λjR=>B1 (ld jR gU) λv59=>B1 (ia 4 v59 gS) λfE=>B1 (fa 0 fE) λlK=>B1 (ld lK gU) λgW=>B1 (bD gW (zi 0)) λv63=>ja v63 true (B1 (dY .not gB) λv64=>ja v64 true (B1 (fa 5 gM) λgJ=>B1 (ld gJ gU) λmF=>B1 (seq mF (.str [])) λkY=>ja kY false (B1 (ld iB gU) λnM=>B1 (aJ nM) λmJ=>B1 (fa 3 mJ) λv70=>B1 (ld v70 gU) λmD=>B1 (fa 5 gM) λv72=>B1 (ld v72 gU) λiV=>B2 (cf (zf 94) [mD,iV] gU) λjN ng=>yT iB jz gS iv iT gr jN ng) (yT iB jz gS iv iT gr (.bool true) gU)) (yT iB jz gS iv iT gr (.bool false) gU)) (yT iB jz gS iv iT gr (.bool false) gU)) (λir gk gD qd pA og p8 ot=>CD p8 (B1 (ld ir ot) λBz=>B1 (aJ Bz) λv85=>B1 (fa 2 v85) λrf=>B1 (ld rf ot) λv87=>B1 (ia 4 v87 gD) λrI=>B1 (fa 0 rI) λpw=>B1 (st 1 pw (zi 1) ot) λsC=>iS ir gk gD qd pA og sC) (iS ir gk gD qd pA og ot))) (λyz lq nW jI kC sM AP=>G lq true (λYv=>B1 (ld yz AP) λrS=>Yv rS AP) (λtc sS=>G lq true (λVv=>B1 (aJ tc) λwQ=>Vv wQ sS) (λnX tP=>G lq true (λNg=>B1 (fa 2 nX) λv107=>Ng v107 tP) (λq8 zn=>G lq true (λZY=>B1 (ld q8 zn) λyR=>ZY yR zn) (λyK DU=>G lq true (λawC=>awC nW DU) (λtZ rJ=>G lq true (λar1=>B1 (ia 4 yK tZ) λwV=>ar1 wV rJ) (λxt y9=>G lq true (λVE=>B1 (fa 0 xt) λyc=>VE yc y9) (λvP qC=>G lq true (λaE7=>B1 (ld vP qC) λD7=>aE7 D7 qC) (λv127 A6=>G lq true (λazc=>B1 (bD v127 (zi 3)) λv130=>azc v130 A6) (λv131 Iq=>B1 (pk lq v131 (.bool false)) λB6=>ym yz B6 jI kC sM Iq) A6) qC) y9) rJ) DU) zn) tP) sS) AP)))) (λyY tu pq sY vq Du=>B1 (aZ vq (zi 1)) λCe=>nR yY tu pq sY Ce Du)) (bp bK bU df)
def BY:yL 2 5:=yX 106 [1,1,0,1,0,0] [1,2,10,11,12] 0 [1,2]
theorem X9:yQ5 BY F7:=yq5
def UZ:yS 1:=λJ G cf a0 H=>BN (bx 146 a0 H) λi0 h1=>J 2 (λj2=>J 5 (λj3=>B1 (ld (.ptr i0 0) h1) λv4=>B1 (aJ v4) λv5=>B1 (fa 0 v5) λv6=>B1 (fa 0 v6) λv7=>B1 (ld v7 h1) λv8=>B1 (aG v8) λv9=>j3 (.ptr i0 0) (.bool true) v8 v9 (zi 0) h1) (λcz bR bH bJ dQ dK=>J 2 (λbp=>BY J G cf bp cz bR bH bJ dQ dK) (λK7 LJ PZ=>j2 K7 LJ PZ))) (λFk B5 xF=>CD B5 (B1 (ld Fk xF) λCJ=>B1 (aJ CJ) λv148=>B1 (fa 1 v148) λYF=>B1 (st 1 YF (zi 1) xF) λNX=>some (.tuple [],NX)) (some (.tuple [],xF)))
theorem agG:yC1 106 UZ:=yM1
def aix:yS 2:=λJ G cf a0 a1 H=>B1 (ld a1 H) λv0=>B1 (aJ v0) λv1=>B1 (fa 2 v1) λv2=>B1 (ld v2 H) λv3=>B1 (ia 4 v3 a0) λv4=>B1 (fa 0 v4) λv5=>B1 (ld v5 H) λv6=>B1 (fQ v6 (zi 3)) λv7=>some (v7,H)
theorem awX (h:aix JN GO cK a0 a1 H=some r):cK (.func (.func 144) [] [a1]) [a0] H=some r:=xe (first:=[]) (cap:=[a1]) (abG zzw h)
def ahW:yS 2:=λJ G cf a0 a1 H=>BN (bx 75 a0 H) λi0 h1=>J 0 (λj2=>J 2 (λj3=>B1 (ba a1 (zi 0)) λv4=>G v4 false (λk5=>k5 a1 h1) (λv6 h7=>G v4 false (λk8=>B1 (fa 2 (.ptr i0 0)) λv9=>k8 v9 h7) (λv10 eP=>G v4 false (λTn=>B1 (ld v10 eP) λcN=>Tn cN eP) (λbq dK=>G v4 false (λLS=>B1 (aG bq) λef=>LS ef dK) (λcg dL=>G v4 false (λKo=>B1 (lI v6 cg) λv21=>Ko v21 dL) (λv22 df=>B1 (pk v4 (.bool true) v22) λv24=>j3 (.ptr i0 0) v24 df) dL) dK) eP) h7) h1) (λbV di eO=>CD di (some ((zi 1),eO)) (B1 (fa 1 bV) λv28=>B1 (ld v28 eO) λv29=>B1 (fQ v29 (zi 0)) λv30=>CD v30 (some ((zi 9),eO)) (j2  eO)))) (λgR=>some ((zi 0),gR))
theorem ato:yC2 108 ahW:=yM2
def Ud:yS 3:=λJ G cf a0 a1 a2 H=>BN (bx 75 a0 H) λi0 h1=>J 3 (λj2=>B1 (aB 4 (.ptr i0 0) h1) λv3=>B2 (cf (zf 108) [v3,a1] h1) λv4 h5=>B1 (fQ v4 (zi 0)) λv6=>CD v6 (some (v4,h5)) (j2 a1 a2 (.ptr i0 0) h5)) (λx7 x8 x9 cl=>J 0 (λpI=>J 2 (λei=>B1 (fa 2 x9) λcN=>B1 (ld cN cl) λbq=>B1 (ia 4 bq x7) λdX=>B1 (aB 4 dX cl) λcF=>BN (aA cl [(zi 0),(zi 0),(zi 0),(.str [])] 132 0) λi17 gY=>B1 (st 4 (.ptr i17 0) cF gY) λdL=>ei x8 (.ptr i17 0) dL) (λdD bf hU=>J 1 (λdS=>B1 (fa 0 bf) λv24=>B1 (ld v24 hU) λv25=>B1 (fQ v25 (zi 2)) λv26=>G v26 false (λNy=>B1 (fa 1 bf) λv28=>Ny v28 hU) (λv29 iG=>G v26 false (λyl=>B1 (ld v29 iG) λv32=>yl v32 iG) (λeU iu=>G v26 false (λvC=>vC dD iu) (λv36 gN=>G v26 false (λyj=>B1 (fQ eU v36) λfc=>yj fc gN) (λv40 fZ=>B1 (pk v26 (.bool true) v40) λcW=>dS cW fZ) gN) iu) iG) hU) (λeV dP=>CD eV (some ((zi 8),dP)) (pI  dP)))) (λjm=>some ((zi 0),jm)))
theorem abq:yC3 109 Ud:=yM3
def Nq:yS 4:=λJ G cf a0 a1 a2 a3 H=>BN (bx 75 a0 H) λi0 h1=>BN (aA h1 [.ah,(zi 0),.ah,.ah] 75 0) λi2 h3=>J 5 (λj4=>B1 (aB 4 (.ptr i0 0) h3) λv5=>B2 (cf (zf 108) [v5,a1] h3) λv6 h7=>B1 (fQ v6 (zi 0)) λv8=>CD v8 (B1 (fl [.ah,(zi 0),.ah,.ah] []) λl9=>B1 (st 4 (.ptr i2 0) (.agg l9) h7) λcl=>B1 (aB 4 (.ptr i2 0) cl) λv11=>some (.tuple [v11,v6],cl)) (j4 a1 a2 a3 (.ptr i0 0) (.ptr i2 0) h7)) (λbH bJ dQ dN bT eH=>J 6 (λpg=>B1 (fa 2 dN) λeZ=>B1 (ld eZ eH) λv20=>B1 (ia 4 v20 bH) λv21=>B1 (aB 4 v21 eH) λv22=>BN (aA eH [(zi 0),(zi 0),(zi 0),(.str [])] 132 0) λi23 fW=>B1 (st 4 (.ptr i23 0) v22 fW) λdR=>pg bH bJ dQ dN bT (.ptr i23 0) dR) (λdi dm eh dq dJ bX cH=>J 6 (λpz=>B1 (fa 0 bX) λcP=>B1 (ld cP cH) λv35=>B1 (fQ v35 (zi 1)) λv36=>CD v36 (B1 (fl [.ah,(zi 0),.ah,.ah] []) λWx=>B1 (st 4 dJ (.agg Wx) cH) λgq=>B1 (aB 4 dJ gq) λfc=>some (.tuple [fc,(zi 4)],gq)) (J 7 (λvY=>B1 (fa 1 bX) λv41=>B1 (ld v41 cH) λcW=>B1 (aZ cW (zi 1)) λeM=>B1 (fQ dm eM) λv44=>vY di dm eh dq dJ bX v44 cH) (λiB jz gS gM gB iv iT kA=>CD iT (B1 (fl [.ah,(zi 0),.ah,.ah] []) λXm=>B1 (st 4 gB (.agg Xm) kA) λmj=>B1 (aB 4 gB mj) λfR=>some (.tuple [fR,(zi 8)],mj)) (pz iB jz gS gM gB iv kA)))) (λeY fN fD dV et dc ie=>B1 (aB 4 dV ie) λv63=>B2 (cf (zf 97) [v63] ie) λv64 nC=>B1 (st 4 dV v64 nC) λeX=>J 4 (λKC=>B1 (fa 0 dV) λnM=>B1 (fa 0 nM) λmJ=>B1 (ld mJ eX) λv70=>B1 (ia 6 v70 eY) λmD=>B1 (fa 3 mD) λv72=>B1 (ld v72 eX) λiV=>B1 (aZ fD iV) λjN=>B1 (fa 0 dc) λv75=>B1 (st 1 v75 (zi 2) eX) λjF=>B1 (fa 1 dc) λur=>B1 (st 1 ur fN jF) λxr=>B1 (fa 2 dc) λmS=>B1 (st 1 mS jN xr) λCi=>B1 (ld mJ jF) λki=>SM v70 ki <| B1 (ld v72 jF) λmu=>SM iV mu <| B1 (ld mJ xr) λkL=>SM v70 kL <| B1 (ld v72 xr) λBz=>SM iV Bz <| KC eY dV et dc Ci) (λme nV rW nI qp=>J 2 (λtw=>B1 (fa 2 nV) λv91=>B1 (ld v91 qp) λxH=>B1 (aB 4 nI qp) λv93=>B1 (ia 4 xH me) λtG=>B1 (st 4 tG v93 qp) λmY=>tw nV rW mY) (λsM qw CW=>B1 (aB 4 sM CW) λrS=>B1 (st 4 qw rS CW) λxL=>B1 (aB 4 qw xL) λwg=>some (.tuple [wg,(zi 0)],xL))))))
theorem RS:yC4 78 Nq:=yM4
def U7:yS 4:=λJ G cf a0 a1 a2 a3 H=>BN (bx 75 a0 H) λi0 h1=>BN (aA h1 [.ah,(zi 0),.ah,.ah] 75 0) λi2 h3=>J 5 (λj4=>J 6 (λj5=>B1 (aB 4 (.ptr i0 0) h3) λv6=>B2 (cf (zf 109) [v6,a1,a2] h3) λv7 h8=>j5 a1 a2 a3 (.ptr i0 0) (.ptr i2 0) v7 h8) (λx9 cz bR bH bJ dQ dK=>B1 (fQ dQ (zi 0)) λcF=>CD cF (B1 (fl [.ah,(zi 0),.ah,.ah] []) λl17=>B1 (st 4 bJ (.agg l17) dK) λgY=>B1 (aB 4 bJ gY) λeZ=>some (.tuple [eZ,dQ],gY)) (j4 x9 cz bR bH bJ dK))) (λdD bf bo bO cZ dR=>B1 (aB 4 bO dR) λv26=>B2 (cf (zf 97) [v26] dR) λv27 hZ=>B1 (st 4 bO v27 hZ) λc8=>J 2 (λzy=>B1 (fa 2 bO) λv31=>B1 (ld v31 c8) λv32=>B1 (fl [(zi 0),(zi 0),(zi 0),(.str [])] [(0,1,(zi 3)),(1,1,bf),(3,1,bo)]) λZH=>B1 (ia 4 v32 dD) λcP=>B1 (st 4 cP (.agg ZH) c8) λiH=>zy bO cZ iH) (λbG cn gq=>B2 (cf (zf 106) [bG] gq) λfc nc=>B1 (aB 4 bG nc) λv41=>B1 (st 4 cn v41 nc) λeG=>B1 (aB 4 cn eG) λeM=>some (.tuple [eM,(zi 0)],eG)))
theorem aj9:yC4 79 U7:=yM4
def UY:yS 3:=λJ G cf a0 a1 a2 H=>J 4 (λj0=>B1 (aJ a0) λv1=>B1 (fa 2 v1) λv2=>B1 (ld v2 H) λv3=>B1 (ia 4 v3 a1) λv4=>B1 (aJ a0) λv5=>B1 (fa 0 v5) λv6=>B1 (fa 0 v6) λv7=>B1 (ld v7 H) λv8=>B1 (ia 6 v8 a1) λv9=>B1 (aB 6 v9 H) λv10=>BN (aA H [(.str []),.ah,(zi 0),(zi 0),(zi 0),(.str [])] 99 0) λi11 dZ=>B1 (st 6 (.ptr i11 0) v10 dZ) λfL=>j0 a0 a2 v4 (.ptr i11 0) fL) (λdQ dN bT cG gY=>J 2 (λcU=>J 5 (λaK=>B1 (aJ bT) λv21=>B1 (fa 1 v21) λv22=>B1 (ld v22 gY) λv23=>B1 (fa 2 cG) λv24=>B1 (ld v24 gY) λv25=>B1 (pW v23 v25) λv26=>aK dQ dN bT cG v26 gY) (λdm eh dq dJ bX cH=>CD bX (B1 (fa 4 dJ) λeU=>B1 (ld eU cH) λcP=>B1 (aJ dq) λv35=>B1 (fa 1 v35) λv36=>B1 (ld v36 cH) λv37=>B2 (cf (zf 145) [cP,v37] cH) λgO fF=>B1 (aZ eh gO) λv40=>B1 (aJ dq) λv41=>B1 (fa 0 v41) λcW=>B1 (st 1 cW (zi 5) fF) λwU=>B1 (aJ dq) λv44=>B1 (fa 2 v44) λdU=>B1 (st 1 dU v40 wU) λiz=>some (.tuple [],iz)) (cU dm dq cH))) (λgS gM mA=>J 1 (λmR=>B1 (aJ gM) λv51=>B1 (fa 0 v51) λgE=>B1 (st 1 gE (zi 4) mA) λgU=>B1 (aJ gM) λiI=>B1 (fa 2 iI) λfR=>B1 (st 1 fR (zi 0) gU) λjo=>mR gS jo) (λfN jK=>B1 (aJ fN) λv59=>B1 (fa 1 v59) λfE=>B1 (st 1 fE (zi 2) jK) λkE=>some (.tuple [],kE))))
theorem aif:yC3 107 UY:=yM3
def VY:yS 4:=λJ G cf a0 a1 a2 a3 H=>BN (bx 75 a0 H) λi0 h1=>BN (aA h1 [.ah,(zi 0),.ah,.ah] 75 0) λi2 h3=>J 4 (λj4=>J 5 (λj5=>B1 (aB 4 (.ptr i0 0) h3) λv6=>B2 (cf (zf 109) [v6,a1,a2] h3) λv7 h8=>j5 a1 a3 (.ptr i0 0) (.ptr i2 0) v7 h8) (λx9 cz bR bH bJ ik=>B1 (fQ bJ (zi 0)) λdX=>CD dX (B1 (fl [.ah,(zi 0),.ah,.ah] []) λl16=>B1 (st 4 bH (.agg l16) ik) λeH=>B1 (aB 4 bH eH) λcg=>some (.tuple [cg,bJ],eH)) (j4 x9 cz bR bH ik))) (λbU dD bf bo df=>B1 (aB 4 bf df) λv24=>B2 (cf (zf 97) [v24] df) λv25 eI=>B1 (st 4 bf v25 eI) λeO=>B2 (cf (zf 107) [bf,bU,dD] eO) λv28 c8=>B1 (aB 4 bf c8) λv30=>B1 (st 4 bo v30 c8) λgR=>B1 (aB 4 bo gR) λv32=>some (.tuple [v32,(zi 0)],gR))
theorem amm:yC4 80 VY:=yM4
def EK:yB 2 5:=λJ G cf ei ez dQ dN bT cG bK dL=>B1 (ba bK cG) λv20=>CD v20 (J 5 (λiq=>J 5 (λvZ=>J 7 (λdS=>B1 (fa 2 dN) λv24=>B1 (ld v24 dL) λv25=>B1 (ia 4 v25 bK) λv26=>dS dQ dN bT bK v26 cG bK dL) (λdm eh dq dJ bX fg fC iu=>J 5 (λgP=>J 8 (λKM=>B1 (fa 1 eh) λv37=>B1 (ld v37 iu) λgO=>B1 (fQ gO (zi 0)) λfc=>G fc false (λMj=>Mj bX iu) (λv41 eG=>G fc false (λvO=>B1 (aJ v41) λv44=>vO v44 eG) (λdU iz=>G fc false (λFF=>B1 (fa 2 dU) λfA=>FF fA iz) (λv49 kU=>G fc false (λMZ=>B1 (ld v49 kU) λgE=>MZ gE kU) (λv53 mj=>G fc false (λMk=>Mk dm mj) (λjq oa=>G fc false (λEb=>B1 (iP v53 jq) λv59=>Eb v59 oa) (λfE kE=>B1 (pk fc (.bool true) fE) λgW=>KM dm eh dq dJ bX fg fC gW kE) oa) mj) kU) iz) eG) iu) (λgI fH fw mW gH gK kj jA jJ=>CD jA (gP gI fH fw gK kj jJ) (J 8 (λBf=>B1 (aJ gH) λiV=>B1 (fa 0 iV) λjN=>B1 (ld jN jJ) λv75=>B1 (bD v75 (zi 2)) λv76=>Bf gI fH fw mW gH gK kj v76 jJ) (λgk gD qd pA og p8 nb mM qG=>CD mM (B2 (cf (zf 107) [gD,pA,gk] qG) λrf pE=>gP gk gD qd p8 nb pE) (J 7 (λAs=>B1 (aJ og) λpw=>B1 (fa 0 pw) λpJ=>B1 (ld pJ qG) λv91=>B1 (bD v91 (zi 5)) λxH=>As gk gD qd og p8 nb xH qG) (λnW jI kC sM qw ve uJ xL=>CD uJ (B1 (aJ sM) λwg=>B1 (fa 0 wg) λsf=>B1 (st 1 sf (zi 1) xL) λlZ=>B1 (aJ sM) λnX=>B1 (fa 2 nX) λv105=>B1 (st 1 v105 (zi 0) lZ) λKh=>gP nW jI kC qw ve Kh) (gP nW jI kC qw ve xL))))))) (λoD rX ma sX tv tX=>vZ oD rX ma sX tv tX))) (λtV qW xE sF wK CP=>iq tV qW xE sF wK CP)) (λpQ pD qo sL uM qC=>B1 (aZ uM (zi 1)) λxJ=>ez pQ pD qo sL xJ qC)) (ei dN bT dL)
def Jf:yL 2 5:=yX 77 [1,1,0,1,0,0] [1,2,4,11,12] 0 [2,4]
theorem GR:yQ5 Jf EK:=yq5
def ajm:yS 2:=λJ G cf a0 a1 H=>BN (bx 75 a0 H) λi0 h1=>BN (aA h1 [.ah,(zi 0),.ah,.ah] 75 0) λi2 h3=>B1 (aB 4 (.ptr i0 0) h3) λv4=>B2 (cf (zf 97) [v4] h3) λv5 h6=>B1 (st 4 (.ptr i0 0) v5 h6) λh7=>J 2 (λj8=>B1 (fa 2 (.ptr i0 0)) λv9=>B1 (ld v9 h7) λv10=>B1 (aG v10) λv11=>J 2 (λei=>Jf J G cf ei a1 (.ptr i0 0) (.ptr i2 0) v11 (zi 0) h7) (λkG iK A6=>j8 kG iK A6)) (λjw lO Dh=>B1 (aB 4 jw Dh) λC7=>B1 (st 4 lO C7 Dh) λlh=>B1 (aB 4 lO lh) λBy=>some (By,lh))
theorem apb:yC2 77 ajm:=yM2
def MO:yS 2:=λJ G cf a0 a1 H=>BN (bx 75 a0 H) λi0 h1=>BN (bx 9 a1 h1) λi2 h3=>BN (aA h3 [.ah,(zi 0),.ah,.ah] 75 0) λi4 h5=>J 3 (λj6=>B1 (fa 1 (.ptr i0 0)) λv7=>B1 (ld v7 h5) λv8=>B1 (fQ v8 (zi 0)) λv9=>CD v9 (B1 (fl [.ah,(zi 0),.ah,.ah] []) λl10=>B1 (st 4 (.ptr i4 0) (.agg l10) h5) λeP=>B1 (aB 4 (.ptr i4 0) eP) λv12=>some (.tuple [v12,(zi 9)],eP)) (J 4 (λez=>B1 (fa 3 (.ptr i0 0)) λbq=>B1 (ld bq h5) λdX=>B1 (ld (.ptr i2 0) h5) λcF=>B2 (cf (zf 94) [dX,cF] h5) λef gY=>ez (.ptr i0 0) (.ptr i2 0) (.ptr i4 0) ef gY) (λbU dD bf bo df=>CD bo (B1 (fl [.ah,(zi 0),.ah,.ah] []) λXJ=>B1 (st 4 bf (.agg XJ) df) λdR=>B1 (aB 4 bf dR) λv26=>some (.tuple [v26,(zi 5)],dR)) (J 4 (λzg=>B1 (fa 0 bU) λv28=>B1 (fa 0 v28) λv29=>B1 (ld v29 df) λv30=>B2 (cf (zf 95) [v30,(.func (.func 110) [] [dD])] df) λv31 cH=>B1 (dY .not v31) λeU=>zg bU dD bf eU cH) (λdT cI bG cn gq=>CD cn (B1 (fl [.ah,(zi 0),.ah,.ah] []) λl39=>B1 (st 4 bG (.agg l39) gq) λnc=>B1 (aB 4 bG nc) λv41=>some (.tuple [v41,(zi 1)],nc)) (j6 dT cI bG gq)))))) (λfP eV lz jm=>B1 (aB 4 fP jm) λv46=>B2 (cf (zf 97) [v46] jm) λiA oI=>B1 (st 4 fP iA oI) λmA=>J 2 (λmR=>B1 (fa 3 fP) λv51=>B1 (ld v51 mA) λgE=>B1 (ld eV mA) λv53=>B1 (fl [(.str [])] [(0,1,v53)]) λl54=>BN (aA mA l54 9 0) λi55 jo=>B2 (cY 9 1 [(.str [])] false gE (.slice i55 0 1 1 true 1) jo) λv57 jK=>B1 (fa 3 fP) λv59=>B1 (st 1 v59 v57 jK) λuj=>mR fP lz uj) (λdc iO zz=>B2 (cf (zf 106) [dc] zz) λv64 nC=>B1 (aB 4 dc nC) λmF=>B1 (st 4 iO mF nC) λuU=>B1 (aB 4 iO uU) λnM=>some (.tuple [nM,(zi 0)],uU)))
theorem OD:yC2 81 MO:=yM2
def ae2:yS 2:=λJ G cf a0 a1 H=>BN (bx 99 a0 H) λi0 h1=>B1 (fa 5 (.ptr i0 0)) λv2=>B1 (ld v2 h1) λv3=>B1 (ld a1 h1) λv4=>B1 (seq v3 v4) λv5=>G v5 true (λk6=>B1 (ld a1 h1) λv7=>k6 v7 h1) (λv8 h9=>G v5 true (λwm=>B1 (tf v8 (.str [])) λv11=>wm v11 h9) (λv12 fL=>B1 (pk v5 v12 (.bool false)) λbq=>some (bq,fL)) h9) h1
theorem aoJ (h:ae2 JN GO cK a0 a1 H=some r):cK (.func (.func 110) [] [a1]) [a0] H=some r:=xe (first:=[]) (cap:=[a1]) (abG zzw h)
def MQ:yS 2:=λJ G cf a0 a1 H=>BN (bx 75 a0 H) λi0 h1=>BN (bx 75 a1 h1) λi2 h3=>B1 (fa 1 (.ptr i0 0)) λv4=>B1 (ld v4 h3) λv5=>B1 (fa 1 (.ptr i2 0)) λv6=>B1 (ld v6 h3) λv7=>B1 (bD v5 v7) λv8=>G v8 true (λk9=>B1 (fa 2 (.ptr i0 0)) λv10=>k9 v10 h3) (λv11 dZ=>G v8 true (λyU=>B1 (ld v11 dZ) λbq=>yU bq dZ) (λdX bL=>G v8 true (λGt=>B1 (fa 2 (.ptr i2 0)) λcg=>Gt cg bL) (λeZ da=>G v8 true (λvT=>B1 (ld eZ da) λv22=>vT v22 da) (λv23 fW=>G v8 true (λyh=>B2 (cf (zf 73) [dX,v23] fW) λv26 eO=>yh v26 eO) (λv28 c8=>B1 (pk v8 v28 (.bool false)) λv30=>G v30 true (λyl=>B1 (fa 3 (.ptr i0 0)) λv32=>yl v32 c8) (λeU iu=>G v30 true (λvC=>B1 (ld eU iu) λv36=>vC v36 iu) (λv37 gq=>G v30 true (λyA=>B1 (fa 3 (.ptr i2 0)) λv40=>yA v40 gq) (λv41 eG=>G v30 true (λvO=>B1 (ld v41 eG) λv44=>vO v44 eG) (λdU iz=>G v30 true (λFF=>B2 (cf (zf 74) [v37,dU] iz) λfA mA=>FF fA mA) (λgm jO=>B1 (pk v30 gm (.bool false)) λgE=>G gE true (λsW=>B1 (fa 0 (.ptr i0 0)) λiI=>sW iI jO) (λfR jo=>G gE true (λk57=>B1 (fa 0 fR) λjR=>k57 jR jo) (λv59 uj=>G gE true (λJU=>B1 (ld v59 uj) λgW=>JU gW uj) (λv63 jV=>G gE true (λk65=>B1 (fa 0 (.ptr i2 0)) λmF=>k65 mF jV) (λkY pX=>G gE true (λMD=>B1 (fa 0 kY) λv70=>MD v70 pX) (λmD mU=>G gE true (λWm=>B1 (ld mD mU) λjN=>Wm jN mU) (λv75 jF=>G gE true (λLQ=>LQ (zf 71) jF) (λpR il=>G gE true (λFw=>B2 (cf (zf 75) [v63,v75,pR] il) λki rE=>Fw ki rE) (λkL pP=>B1 (pk gE kL (.bool false)) λv85=>some (v85,pP)) il) jF) mU) pX) jV) uj) jo) jO) iz) eG) gq) iu) c8) fW) da) bL) dZ) h3
theorem P3:yC2 36 MQ:=yM2
def alK:yS 2:=λJ G cf a0 a1 H=>BN (bx 99 a0 H) λi0 h1=>BN (bx 99 a1 h1) λi2 h3=>B1 (fa 1 (.ptr i0 0)) λv4=>B1 (ld v4 h3) λv5=>B1 (fa 1 (.ptr i2 0)) λv6=>B1 (ld v6 h3) λv7=>B2 (cf (zf 72) [v5,v7] h3) λv8 h9=>G v8 true (λwm=>B1 (fa 0 (.ptr i0 0)) λv11=>wm v11 h9) (λv12 fL=>G v8 true (λMx=>B1 (ld v12 fL) λdX=>Mx dX fL) (λcF eH=>G v8 true (λGn=>B1 (fa 0 (.ptr i2 0)) λeZ=>Gn eZ eH) (λv20 jM=>G v8 true (λFG=>B1 (ld v20 jM) λv23=>FG v23 jM) (λv24 dR=>G v8 true (λBC=>B1 (seq cF v24) λv27=>BC v27 dR) (λv28 c8=>B1 (pk v8 v28 (.bool false)) λv30=>G v30 true (λyl=>B1 (fa 2 (.ptr i0 0)) λv32=>yl v32 c8) (λeU iu=>G v30 true (λvC=>B1 (ld eU iu) λv36=>vC v36 iu) (λv37 gq=>G v30 true (λyA=>B1 (fa 2 (.ptr i2 0)) λv40=>yA v40 gq) (λv41 eG=>G v30 true (λvO=>B1 (ld v41 eG) λv44=>vO v44 eG) (λdU iz=>G v30 true (λFF=>B1 (bD v37 dU) λfA=>FF fA iz) (λv49 kU=>B1 (pk v30 v49 (.bool false)) λv51=>G v51 true (λwG=>B1 (fa 3 (.ptr i0 0)) λv53=>wG v53 kU) (λiI oO=>G v51 true (λBP=>B1 (ld iI oO) λv57=>BP v57 oO) (λjR sE=>G v51 true (λk60=>B1 (fa 3 (.ptr i2 0)) λlK=>k60 lK sE) (λgW zz=>G v51 true (λk64=>B1 (ld gW zz) λgJ=>k64 gJ zz) (λmF uU=>G v51 true (λk68=>B1 (bD jR mF) λmJ=>k68 mJ uU) (λv70 jJ=>B1 (pk v51 v70 (.bool false)) λv72=>G v72 true (λWm=>B1 (fa 4 (.ptr i0 0)) λjN=>Wm jN jJ) (λv75 jF=>G v72 true (λLQ=>B1 (ld v75 jF) λpR=>LQ pR jF) (λmS Ci=>G v72 true (λWT=>B1 (fa 4 (.ptr i2 0)) λmu=>WT mu Ci) (λkL pP=>G v72 true (λYw=>B1 (ld kL pP) λrf=>Yw rf pP) (λv87 vG=>G v72 true (λTN=>B1 (bD mS v87) λpJ=>TN pJ vG) (λv91 Cm=>B1 (pk v72 v91 (.bool false)) λv93=>G v93 true (λk94=>B1 (fa 5 (.ptr i0 0)) λKQ=>k94 KQ Cm) (λlj AP=>G v93 true (λYv=>B1 (ld lj AP) λrS=>Yv rS AP) (λtc sS=>G v93 true (λVv=>B1 (fa 5 (.ptr i2 0)) λwQ=>Vv wQ sS) (λnX tP=>G v93 true (λNg=>B1 (ld nX tP) λv107=>Ng v107 tP) (λq8 zn=>G v93 true (λZY=>B1 (seq tc q8) λyR=>ZY yR zn) (λyK DU=>B1 (pk v93 yK (.bool false)) λwq=>some (wq,DU)) zn) tP) sS) AP) Cm) vG) pP) Ci) jF) jJ) uU) zz) sE) oO) kU) iz) eG) gq) iu) c8) dR) jM) eH) fL) h9
theorem axp:yC2 71 alK:=yM2
def Pc:yB 1 3:=λJ G cf iq vZ bO cZ bV eI=>J 3 (λzg=>J 4 (λqR=>B1 (ba bV bO) λv29=>G v29 true (λyb=>yb cZ eI) (λv31 cH=>G v29 true (λCa=>B1 (ba v31 (zi 64000)) λcP=>Ca cP cH) (λv35 np=>B1 (pk v29 v35 (.bool false)) λv37=>qR bO cZ bV v37 np) cH) eI) (λbN eK dI gF eG=>CD gF (zg bN eK dI eG) (iq eK eG))) (λeV lz iB iz=>B1 (vD lz (.int .u64 1)) λiA=>B2 (iW P .min #[2,2] [iA,(zi 64000)] iz) λfA mA=>B1 (aZ iB (zi 1)) λgm=>vZ eV fA gm mA)
def Yc:yL 1 3:=yX 145 [1,1,1,0,1,0,0] [1,5,6] 0 [5]
theorem adQ:yQ3 Yc Pc:=yq3
def ak6:yS 2:=λJ G cf a0 a1 H=>J 2 (λj0=>J 3 (λj1=>B1 (ba a0 (zi 1)) λv2=>G v2 false (λk3=>k3 a1 H) (λv4 h5=>G v2 false (λk6=>B1 (ba v4 (zi 1)) λv7=>k6 v7 h5) (λv8 h9=>B1 (pk v2 (.bool true) v8) λv10=>j1 a0 a1 v10 h9) h5) H) (λbR bH bJ ik=>CD bJ (some ((zi 0),ik)) (j0 bR bH ik))) (λdN bT eH=>B2 (iW P .min #[2,2] [dN,(zi 64000)] eH) λcg dL=>J 1 (λaK=>J 1 (λiq=>Yc J G cf iq bT cg (zi 1) dL) (λiT kA=>aK iT kA)) (λiw mj=>some (iw,mj)))
theorem aoU:yC2 145 ak6:=yM2
def akS:yS 2:=λJ G cf a0 a1 H=>B2 (cf (zf 86) [a0,a1] H) λv0 h1=>B1 (lI v0 (zi 0)) λv2=>some (v2,h1)
theorem aBh:yC2 50 akS:=yM2
def akg:yS 2:=λJ G cf a0 a1 H=>B2 (cf (zf 115) [a0,a1,(.bool true)] H) λv0 h1=>some (v0,h1)
theorem anE:yC2 86 akg:=yM2
def Og:yB 0 3:=λJ G cf j3 j4 x5 x6 x7 h8=>B2 (AD x7 true h8) λv9 cl=>B1 (ex 0 v9) λv11=>CD v11 (B1 (ex 1 v9) λv12=>B1 (ex 2 v9) λcN=>J 5 (λeD=>B2 (cf x5 [cN] cl) λdX bL=>B1 (bb .eql dX x6) λef=>eD x5 x6 v12 x7 ef bL) (λbK bU dD bf bo df=>CD bo (some (dD,df)) (j4 bK bU bf df))) (j3  cl)
def Yb:yL 0 3:=yX 115 [1,0,1,0,0] [1,2,10] 0 []
theorem VX:yQ3 Yb Og:=yq3
def ae4:yS 3:=λJ G cf a0 a1 a2 H=>J 0 (λj0=>B2 (Cl P 9 a0 H) λv1 h2=>J 0 (λj3=>Yb J G cf j3 a1 a2 v1 h2) (λfW=>j0  fW)) (λdR=>some ((zi (-1)),dR))
theorem axz:yC3 115 ae4:=yM3
end
end
end Go.Proofs.YtodfajmihkagnaaGreatDoor.bI
