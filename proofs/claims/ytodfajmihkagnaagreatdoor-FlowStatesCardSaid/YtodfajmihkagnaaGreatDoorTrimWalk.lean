/- Laws that the proof uses. -/
import Derived.Test.YtodfajmihkagnaaGreatDoorAm9
import Derived.Test.YtodfajmihkagnaaGreatDoorShelf
import Derived.ProofKit
import Derived.Shelf.SortM.Plain
import Derived.Shelf.SortM.SortNone
import Derived.Shelf.Strconv.Itoa0
import Derived.Shelf.Strconv.Itoa2
import Derived.Shelf.Strconv.AtoiAll
import Derived.Test.YtodfajmihkagnaaGreatDoorAm14
import Derived.Test.YtodfajmihkagnaaGreatDoorProg
import Derived.Test.YtodfajmihkagnaaGreatDoorRows
import Derived.KernelRfl
set_option maxRecDepth 100000
set_option linter.unusedVariables false
set_option linter.unusedSimpArgs false
namespace Go.Proofs.YtodfajmihkagnaaGreatDoor.WO
open Go Go.Proofs Go.RowKit Go.Shelf
theorem agX:Am.yT Tryz.prog 91 Am.GW:=by
 refine Am.ao7 (fun aW w=>Am.yc (by unfold Am.pD;kernel_rfl) Tryz.func91 rfl aW w) ?_
 intro s c w hs hc ha
 exact Any.strings_Trim_laid Tryz.lays160 (by kernel_rfl) s c w hs hc ha
end Go.Proofs.YtodfajmihkagnaaGreatDoor.WO
namespace Go.Proofs.YtodfajmihkagnaaGreatDoor.iz
open Go Am Go.Sort Go.RowKit Go.Proofs
def Oz:AV->Option Int
 | .int .i64 z=>some z
 | _=>none
def Au:List AV->Option (List Int)
 | []=>some []
 | v::r=>match Oz v,Au r with
  | some z,some l=>some (z::l)
  | _,_=>none
def sF (l:List Int):List AV:=l.map (AV.int .i64)
def qC (l:List Int):List Int:=l.mergeSort fun x y=>decide (x<=y)
theorem amq {v:AV}{z:Int}(h:Oz v=some z):v = .int .i64 z:=by
 unfold Oz at h
 split at h
 ·cases h;rfl
 ·cases h
theorem adG:∀ {l:List AV} {zs:List Int},Au l=some zs->l=sF zs
 | [],zs,h=>by cases h;rfl
 | v::r,zs,h=>by
  unfold Au at h
  split at h
  ·rename_i z l h1 h2
   cases h
   rw[amq h1,adG h2]
   rfl
  ·cases h
theorem abJ:∀ (zs:List Int),Au (sF zs)=some zs
 | []=>rfl
 | z::zs=>by
  show (match Oz (AV.int .i64 z),Au (sF zs) with | some z,some l=>some (z::l) | _,_=>none)=_
  rw[abJ zs]
  rfl
theorem aem (l:List Int):(qC l).length=l.length:=(List.mergeSort_perm l _).length_eq
noncomputable section
def al5 (H:Hp)(i off:Nat)(c:Tr AV)(lo hi el fl:Nat)(r:Option (List Int)):Option (AV × Hp):=match r with
 | some zs=>some (.tuple [],{ H with h:=H.h.df i (.cells (c.cJ off (sF (qC zs))) lo hi el fl) })
 | none=>none
open Classical in
def Pd (H:Hp)(i off n:Nat)(o:AO):Option (AV × Hp):=match o with
 | .cells c lo hi el fl=>if lo<=off/\off+n<=hi/\fl<=1 then al5 H i off c lo hi el fl ((aq H i off n).bind Au) else none
 | _=>none
open Classical in
def uW:Prim:=fun args H=>match args with
 | [.ae]=>some (.tuple [],H)
 | [.slice i off n cap ex es]=>if n=0 then some (.tuple [],H) else if es=1/\n<4611686018427387904 then (H.h.get i).bind (Pd H i off n) else none
 | _=>none
end
theorem IT (e:Em):VR e (.tuple []) (.tuple #[]) := .tuple [] #[] rfl (fun i v v' h=>by simp at h)
theorem ak4 {f:Nat}(EN:∀ aW w,(callFunc f aW).run Tryz.prog w = .ok (.enter f aW) w)
  (h0:∀ (p:Option Addr) (cap:Nat) (w:World),Calls Tryz.prog f #[.slice p 0 cap] w fun e w'=>e = .returned (.tuple #[])/\w'=w)
  (h1:∀ (cI off cap:Nat) (zs:List Int) (w:World),Holds (Value.int .i64) w cI off zs.toArray->cI<w.heap.size->zs.length<4611686018427387904->
   Calls Tryz.prog f #[.slice (some ⟨cI,off,none⟩) zs.length cap] w fun e w'=>e = .returned (.tuple #[])/\∃ n os,w'=grow (putRow (Value.int .i64) (Sort.ahead w n) cI off (zs.mergeSort fun x y=>decide (x<=y)).toArray) os):yT Tryz.prog f uW:=by
 intro args H v H' hp Fr W e w aW hR ha
 unfold uW at hp
 split at hp
 ·obtain⟨a',r1,e1,mN,ja⟩:=ha.cons_inv
  have e3:=ja.kX
  subst e3
  cases hp
  cases mN
  obtain rfl:aW = #[.slice none 0 0]:=aeU.1 e1
  refine⟨EN _ _,(h0 none 0 w).mono ?_⟩
  rintro en w' ⟨rfl,rfl⟩
  exact⟨e,_,rfl,e.le_refl,hR,IT e⟩
 ·rename_i i off n cap ex es
  obtain⟨a',r1,e1,mN,ja⟩:=ha.cons_inv
  have e3:=ja.kX
  subst e3
  split at hp
  ·rename_i mG
   subst mG
   cases hp
   rcases mN.mC with⟨o,c,k1,k2,k3,k4,k5,k6,rfl⟩ | ⟨_,_,a,rfl⟩
   ·obtain rfl:aW = #[.slice (some ⟨e.b i,o,none⟩) 0 c]:=aeU.1 e1
    refine⟨EN _ _,(h0 _ c w).mono ?_⟩
    rintro en w' ⟨rfl,rfl⟩
    exact⟨e,_,rfl,e.le_refl,hR,IT e⟩
   ·obtain rfl:aW = #[.slice (some a) 0 0]:=aeU.1 e1
    refine⟨EN _ _,(h0 _ 0 w).mono ?_⟩
    rintro en w' ⟨rfl,rfl⟩
    exact⟨e,_,rfl,e.le_refl,hR,IT e⟩
  ·rename_i mG
   split at hp
   ·rename_i dK
    obtain⟨rfl,Cb⟩:=dK
    rcases mN.mC with⟨o,cc,k1,k2,k3,k4,k5,k6,rfl⟩ | ⟨q,_,a,rfl⟩
    ·obtain⟨ob0,hg,hp⟩:=abA.1 hp
     unfold Pd at hp
     split at hp
     ·rename_i c lo hi el fl
      split at hp
      ·rename_i tv
       obtain⟨g1,g2,g3⟩:=tv
       cases hr:(aq H i off n).bind Au with
       | none=>rw[hr] at hp;cases hp
       | some zs=>
        rw[hr] at hp
        cases hp
        obtain⟨l,hl,hz⟩:=abA.1 hr
        have hlz:=adG hz
        obtain⟨cs,c1,c2,c3⟩:=hR.By hl k2
        have hzn:zs.length=n:=by rw[<-c2,c1.1,hlz];simp[sF]
        have fK:∀ j z,zs[j]? = some z->w.cell? ⟨e.b i,o+j,none⟩=some (.int .i64 z):=by
         intro j z hj
         obtain⟨v',cw,ea⟩:=c1.get (i:=j) (v := .int .i64 z) (by rw[hlz];simp[sF,hj])
         have:=ea.fZ
         subst this
         exact c3 j _ cw
        obtain⟨hN,ob,ei,eB,hF⟩:=hR.obj i _ hg
        cases eB with
        | cells _ _ _ _ _ C fz hn jB Gy qM hd=>
         have eG:o+n<=C.size:=by rw[hn];omega
         have hH:Holds (Value.int .i64) w (e.b i) o zs.toArray:=by
          intro j hj
          have jP:j<zs.length:=by simpa using hj
          refine⟨?_,?_⟩
          ·rw[fK j zs[j] (aaC jP)]
           simp[jP]
          ·have:=qM g3 (o+j) (by omega)
           simp only[World.frozen?,ei]
           exact this
         obtain rfl:aW = #[.slice (some ⟨e.b i,o,none⟩) n cc]:=aeU.1 e1
         have IN:=h1 (e.b i) o cc zs w hH (adt.1 ei).1 (by omega)
         rw[hzn] at IN
         refine⟨EN _ _,IN.mono ?_⟩
         rintro en w' ⟨rfl,m,os,rfl⟩
         refine⟨e,_,rfl,e.le_refl,?_,IT e⟩
         have yr:=hR.drawn (w.drawn+m)
         have aA:(zs.mergeSort fun x y=>decide (x<=y))=qC zs:=rfl
         have mM:=aem zs
         rw[aA]
         generalize qC zs=ss at *
         have kK:RH Tryz.prog.globals.size Fr W e { H with h:=H.h.df i (.cells (c.cJ off (sF ss)) lo hi el fl) } (putRow (Value.int .i64) (Sort.ahead w m) (e.b i) o ss.toArray):=by
          refine yr.put hg (by simp[wr,g3]) (qJ := .cells (putCells (Value.int .i64) o ss.toArray C) el fz) ?_ ?_ ?_ ?_ rfl rfl rfl
          ·simp[putRow,mapBlock,Sort.ahead]
          ·simp only[putRow,mapBlock,Sort.ahead]
           rw[F8 _ _ _ ei]
           rfl
          ·intro k hk
           simp only[putRow,mapBlock,Sort.ahead]
           rw[Fo _ _ _ _ (fun q=>hk q.symm)]
          ·have jC:(putCells (Value.int .i64) o ss.toArray C).size=C.size:=by simp[putCells]
           refine .cells _ lo hi el fl _ fz (by rw[jC];exact hn) ?_ Gy (by rw[jC];exact qM) hd
           intro k u a b hk
           rw[Tr.wZ] at hk
           have iJ:(sF ss).length=n:=by simp[sF];omega
           rw[iJ] at hk
           by_cases lG:off<=k/\k<off+n
           ·rw[if_pos lG] at hk
            have rA:k-off<ss.length:=by omega
            have hu:u = .int .i64 ss[k-off]:=by
             have:(sF ss)[k-off]? = some (.int .i64 ss[k-off]):=by simp[sF,rA]
             rw[this] at hk
             exact (ac8 hk).symm
            subst hu
            refine⟨o+(k-off),by omega,.int .i64 ss[k-off],?_,.int _ _⟩
            have hC:o+(k-off)<C.size:=by omega
            simp only[putCells]
            rw[Array.getElem?_mapIdx,ahY hC]
            simp only[ae6,List.size_toArray]
            rw[if_pos (by omega),afG]
            simp[rA]
           ·rw[if_neg lG] at hk
            obtain⟨FX,As,u',jG,ea⟩:=jB k u a b hk
            refine⟨FX,As,u',?_,ea⟩
            simp only[putCells]
            rw[Array.getElem?_mapIdx,jG]
            simp only[ae6,List.size_toArray]
            rw[if_neg (by omega)]
         exact kK.below ⟨rfl,rfl,rfl,by simp[grow],fun k hk=>by
          simp only[grow]
          rw[Array.getElem?_append_left hk]⟩
      ·cases hp
     ·cases hp
    ·omega
   ·cases hp
 ·cases hp
theorem ajW:yT Tryz.prog 192 uW:=
 ak4 (fun aW w=>yc (by unfold pD;kernel_rfl) Tryz.func192 rfl aW w)
  (fun p cap w=>AnyM.slices_Sort_int_none Tryz.sortN p cap w) (fun cI off cap zs w hH hb hl=>AnyM.slices_Sort_int Tryz.sortN cI off cap zs w hH hb hl)
end Go.Proofs.YtodfajmihkagnaaGreatDoor.iz
namespace Go.Proofs.YtodfajmihkagnaaGreatDoor.kI
open Go Am Go.Sort Go.RowKit Go.Proofs iz
theorem T8:pD Tryz.prog:=by unfold pD;kernel_rfl
noncomputable section
open Classical in
def IJ:Prim:=fun args H=>match args with
 | [.int .u64 x]=>if 0<=x/\x<=18446744073709551615 then some (.int .i64 (Lib.bitLen x.toNat),H) else none
 | _=>none
def oT (u n:Nat):List AV:=(List.range n).map fun t=>AV.int .u8 ((Lib.dg u (n-1-t)).toNat)
open Classical in
def RJ (H:Hp)(i off n u:Nat)(o:AO):Option (AV × Hp):=match o with
 | .cells c lo hi el fl=>if lo<=off/\off+n<=hi/\fl<=1/\(∃ l,aq H i off n=some l/\∀ v∈l,∃ b:Nat,b<256/\v = .int .u8 b) then some (.tuple [],{ H with h:=H.h.df i (.cells (c.cJ off (oT u n)) lo hi el fl) }) else none
 | _=>none
open Classical in
def Kj:Prim:=fun args H=>match args with
 | [.slice i off n cap ex es,.int .u64 u]=>if es=1/\0<n/\n<4611686018427387904/\0<=u/\u<18446744073709551616/\u.toNat<10 ^ n then (H.h.get i).bind (RJ H i off n u.toNat) else none
 | _=>none
structure NQ (H:Hp):Prop where
 syn:∃ t p,cellAt H 6 0=some (.iface t p)
 rng:∃ t p,cellAt H 7 0=some (.iface t p)
def xS (s:List Nat):List UInt8:=s.map UInt8.ofNat
def LJ (s:List Nat):AV:=match Lib.atoiAll (xS s) with
 | .ok v => .tuple [.int .i64 v,.nilIface]
 | .range => .tuple [.int .i64 (Lib.atoiSat (xS s)),.iface 269 .dD]
 | _ => .tuple [.int .i64 0,.iface 269 .dD]
open Classical in
def GR:Prim:=fun args H=>match args with
 | [.str s]=>if NQ H/\s.length<=281474976710656 then some (LJ s,H) else none
 | _=>none
end
theorem aj9:yT Tryz.prog 182 IJ:=by
 intro args H v H' hp F W e w aW hR ha
 unfold IJ at hp
 split at hp
 ·rename_i x
  split at hp
  ·rename_i hx
   cases hp
   obtain⟨a',r1,e1,mN,ja⟩:=ha.cons_inv
   have e3:=ja.kX
   subst e3
   have:=mN.fZ
   subst this
   obtain rfl:aW = #[.int .u64 x]:=aeU.1 e1
   refine⟨yc T8 Tryz.func182 rfl _ w,(Any.bits_Len64 Tryz.lays129 x w hx.1 hx.2).mono ?_⟩
   rintro en w' ⟨rfl,rfl⟩
   exact⟨e,_,rfl,e.le_refl,hR,.int _ _⟩
  ·cases hp
 ·cases hp
theorem VR.two {e:Em}{a b:AV}{a' b':Value}(h:VR e a a')(k:VR e b b'):VR e (.tuple [a,b]) (.tuple #[a',b']):=by
 refine .tuple _ _ rfl ?_
 intro i v v' h1 h2
 match i,h1,h2 with
 | 0,h1,h2=>cases h1;cases h2;exact h
 | 1,h1,h2=>cases h1;cases h2;exact k
theorem arR:yT Tryz.prog 166 Kj:=by
 intro args H v H' hp Fr W e w aW hR ha
 unfold Kj at hp
 split at hp
 ·rename_i i off n cap ex es u
  obtain⟨a',r1,e1,mN,ja⟩:=ha.cons_inv
  obtain⟨b',r2,e2,yB,pH⟩:=ja.cons_inv
  have e3:=pH.kX
  subst e3
  have jG:=yB.fZ
  subst jG
  split at hp
  ·rename_i hc
   obtain⟨rfl,mG,Cb,hu0,axt,VT⟩:=hc
   obtain⟨un,rfl⟩:∃ un:Nat,u=un:=⟨u.toNat,by omega⟩
   rw[acB] at hp VT
   rcases mN.mC with⟨o,cc,k1,k2,k3,k4,k5,k6,rfl⟩ | ⟨q,_,a,rfl⟩
   ·obtain⟨ob0,hg,hp⟩:=abA.1 hp
    unfold RJ at hp
    split at hp
    ·rename_i c lo hi el fl
     split at hp
     ·rename_i tv
      obtain⟨g1,g2,g3,l,hl,nA⟩:=tv
      cases hp
      obtain⟨cs,c1,c2,c3⟩:=hR.By hl k2
      have pP:l.length=n:=by rw[<-c1.1,c2]
      obtain⟨d,fE,yJ⟩:∃ d:List UInt8,d.length=n/\∀ (j:Nat) (z:UInt8),d[j]? = some z->l[j]? = some (AV.int .u8 (z.toNat:Int)):=by
       refine⟨l.map fun v=>match v with | AV.int _ b=>UInt8.ofNat b.toNat | _=>0,by simp[pP],fun j z hj => ?_⟩
       rw[aeI,aam] at hj
       obtain⟨v,hv,rfl⟩:=hj
       obtain⟨b,hb,rfl⟩:=nA v (aaO hv)
       rw[hv]
       simp only[acB,UInt8.toNat_ofNat']
       rw[akL hb]
      have fK:∀ (j:Nat) (z:UInt8),d[j]? = some z->w.cell? ⟨e.b i,o+j,none⟩=some (.int .u8 (z.toNat:Int)):=by
       intro j z hj
       obtain⟨v',cw,ea⟩:=c1.get (yJ j z hj)
       have:=ea.fZ
       subst this
       exact c3 j _ cw
      obtain⟨hN,ob,ei,eB,hF⟩:=hR.obj i _ hg
      cases eB with
      | cells _ _ _ _ _ C fz hn jB Gy qM hd=>
       have eG:o+n<=C.size:=by rw[hn];omega
       have hH:Holds (fun (b:UInt8)=>Value.int .u8 (b.toNat:Int)) w (e.b i) o d.toArray:=by
        intro j hj
        have jP:j<d.length:=by simpa using hj
        refine⟨?_,?_⟩
        ·rw[fK j d[j] (aaC jP)]
         simp[jP]
        ·have:=qM g3 (o+j) (by omega)
         simp only[World.frozen?,ei]
         exact this
       obtain rfl:aW = #[.slice (some ⟨e.b i,o,none⟩) n cc,.int .u64 un]:=aeU.1 (by rw[e1,e2])
       have IN:=Any.internal_strconv_formatBase10 Tryz.lays285 (e.b i) o cc un d.toArray w hH (by simpa[fE] using VT) (by omega) (by simpa[fE] using Cb)
       have hdz:d.toArray.size=n:=by simp[fE]
       rw[hdz] at IN
       refine⟨yc T8 Tryz.func166 rfl _ w,IN.mono ?_⟩
       rintro en w' ⟨rfl,m,v',dk,rfl,hinv⟩
       refine⟨e,_,rfl,e.le_refl,?_,IT e⟩
       have hdk:∀ t,t<n->dk[t]! = Lib.dg un (n-1-t):=fun t ht=>hinv.done t (ace _) ht
       have hds:=hinv.size
       have iJ:(oT un n).length=n:=by simp[oT]
       have kK:RH Tryz.prog.globals.size Fr W e { H with h:=H.h.df i (.cells (c.cJ off (oT un n)) lo hi el fl) } (putRow (fun (b:UInt8)=>Value.int .u8 (b.toNat:Int)) w (e.b i) o dk):=by
        refine hR.put hg (by simp[wr,g3]) (qJ := .cells (putCells (fun (b:UInt8)=>Value.int .u8 (b.toNat:Int)) o dk C) el fz) ?_ ?_ ?_ ?_ rfl rfl rfl
        ·simp[putRow,mapBlock]
        ·simp only[putRow,mapBlock]
         rw[F8 _ _ _ ei]
         rfl
        ·intro k hk
         simp only[putRow,mapBlock]
         rw[Fo _ _ _ _ (fun q=>hk q.symm)]
        ·have jC:(putCells (fun (b:UInt8)=>Value.int .u8 (b.toNat:Int)) o dk C).size=C.size:=by simp[putCells]
         refine .cells _ lo hi el fl _ fz (by rw[jC];exact hn) ?_ Gy (by rw[jC];exact qM) hd
         intro k u' a b hk
         rw[Tr.wZ,iJ] at hk
         by_cases lG:off<=k/\k<off+n
         ·rw[if_pos lG] at hk
          have hj:k-off<n:=by omega
          have hu:u' = .int .u8 ((Lib.dg un (n-1-(k-off))).toNat):=by
           have:(oT un n)[k-off]? = some (.int .u8 ((Lib.dg un (n-1-(k-off))).toNat)):=by simp[oT,hj]
           rw[this] at hk
           exact (ac8 hk).symm
          subst hu
          refine⟨o+(k-off),by omega,.int .u8 ((Lib.dg un (n-1-(k-off))).toNat),?_,.int _ _⟩
          have hC:o+(k-off)<C.size:=by omega
          simp only[putCells]
          rw[Array.getElem?_mapIdx,ahY hC]
          simp only[ae6]
          rw[if_pos (by omega),afG,hdk _ hj]
         ·rw[if_neg lG] at hk
          obtain⟨FX,As,u2,vm,ea⟩:=jB k u' a b hk
          refine⟨FX,As,u2,?_,ea⟩
          simp only[putCells]
          rw[Array.getElem?_mapIdx,vm]
          simp only[ae6]
          rw[if_neg (by omega)]
       exact kK.drawn _
     ·cases hp
    ·cases hp
   ·omega
  ·cases hp
 ·cases hp
theorem NQ.cells {Fr:Nat->Prop}{W:World}{e:Em}{H:Hp}{w:World}(h:NQ H)(hR:RH Tryz.prog.globals.size Fr W e H w) :
  (∃ t p,w.cell? ⟨6,0,none⟩=some (.iface t p))/\∃ t p,w.cell? ⟨7,0,none⟩=some (.iface t p):=by
 have pG:6<Tryz.prog.globals.size:=by rw[<-ae2];kernel_rfl
 have Fy:7<Tryz.prog.globals.size:=by rw[<-ae2];kernel_rfl
 have key:∀ g k v,g<Tryz.prog.globals.size->cellAt H g (k:Nat)=some v->∃ v',w.cell? ⟨g,k,none⟩=some v'/\VR e v v':=by
  intro g k v hg hc
  obtain⟨_,o,ho,v',h1,h2⟩:=hR.load hc
  obtain⟨_,hb,hd⟩:=hR.si g hg
  rw[hb] at h1
  rw[hd] at ho
  obtain rfl:o=k:=by omega
  exact⟨v',h1,h2⟩
 refine⟨?_,?_⟩
 ·obtain⟨t,p,hc⟩:=h.syn
  obtain⟨v',h1,h2⟩:=key _ 0 _ pG hc
  cases h2
  exact⟨_,_,h1⟩
 ·obtain⟨t,p,hc⟩:=h.rng
  obtain⟨v',h1,h2⟩:=key _ 0 _ Fy hc
  cases h2
  exact⟨_,_,h1⟩
theorem awd (s:ByteArray):xS (Am.bytes s)=s.data.toList:=by
 unfold xS Am.bytes
 rw[List.map_map,List.map_congr_left (g:=id) (fun x _=>by simp)]
 simp
theorem ahc:yT Tryz.prog 173 GR:=by
 intro args H v H' hp F W e w aW hR ha
 unfold GR at hp
 split at hp
 ·rename_i s
  split at hp
  ·rename_i hx
   cases hp
   obtain⟨hE,hlen⟩:=hx
   obtain⟨a',r1,e1,mN,ja⟩:=ha.cons_inv
   have e3:=ja.kX
   subst e3
   obtain⟨s',rfl,rfl⟩:=mN.mO
   obtain rfl:aW = #[.string s']:=aeU.1 e1
   refine⟨yc T8 Tryz.func173 rfl _ w,?_⟩
   have hl:s'.size<=281474976710656:=by
    have:s'.size=(Am.bytes s').length:=by simp[Am.bytes]
    omega
   obtain⟨⟨t1,p1,q1⟩,⟨t2,p2,q2⟩⟩:=hE.cells hR
   unfold LJ
   rw[awd]
   cases hr:Lib.atoiAll s'.data.toList with
   | ok v=>
    refine (Any.strconv_Atoi_ok Tryz.laysC172 s' (by omega) v hr w).mono ?_
    rintro en w' ⟨rfl,hw⟩
    refine⟨e,_,rfl,e.le_refl,?_,VR.two (.int _ _) .nilIface⟩
    rcases hw with rfl | ⟨t,rfl⟩
    ·exact hR
    ·exact hR.below (Lib.bytesWorld_below _ _ _)
   | range=>
    refine (Any.strconv_Atoi_range Tryz.laysC172 s' hl hr _ w q2 (.inr ⟨_,_,rfl⟩)).mono ?_
    rintro en w' ⟨N,rfl,_,_,hb⟩
    exact⟨e,_,rfl,e.le_refl,hR.below hb,VR.two (.int _ _) (.iface _ _ _ (.dD _))⟩
   | _=>
    refine (Any.strconv_Atoi_syntax Tryz.laysC172 s' hl hr _ w q1 (.inr ⟨_,_,rfl⟩)).mono ?_
    rintro en w' ⟨N,rfl,_,_,hb⟩
    exact⟨e,_,rfl,e.le_refl,hR.below hb,VR.two (.int _ _) (.iface _ _ _ (.dD _))⟩
  ·cases hp
 ·cases hp
end Go.Proofs.YtodfajmihkagnaaGreatDoor.kI
namespace Go.Proofs.YtodfajmihkagnaaGreatDoor.lN
open Go Go.RowKit Am
def ext (g:Nat):Option Ext:=bif Nat.beq g 168 then some .same else bif Nat.beq g 169 then some (.Il 52) else bif Nat.beq g 197 then some .Lo else bif Nat.beq g 171 then some .count else none
theorem acq:yD Tryz.prog ext:=by
 intro bg k h aW w
 unfold ext at h
 cases h1:Nat.beq bg 168 with
 | true=>
  rw[h1] at h
  cases h
  obtain rfl:=abI h1
  exact OC (e:=Extern.AbiNoEscape.same) Tryz.func168 (by kernel_rfl) (by kernel_rfl) (by kernel_rfl) (by kernel_rfl) rfl aW w
 | false=>
  rw[h1] at h
  clear h1
  cases h1:Nat.beq bg 169 with
  | true=>
   rw[h1] at h
   cases h
   obtain rfl:=abI h1
   exact OC (e:=Extern.BytealgMakeNoZero.makeNoZero #[] #[52]) Tryz.func169 (by kernel_rfl) (by kernel_rfl) (by kernel_rfl) (by kernel_rfl) rfl aW w
  | false=>
   rw[h1] at h
   clear h1
   cases h1:Nat.beq bg 197 with
   | true=>
    rw[h1] at h
    cases h
    obtain rfl:=abI h1
    exact OC (e:=Extern.BytealgIndexByte.indexByte) Tryz.func197 (by kernel_rfl) (by kernel_rfl) (by kernel_rfl) (by kernel_rfl) rfl aW w
   | false=>
    rw[h1] at h
    clear h1
    cases h1:Nat.beq bg 171 with
    | true=>
     rw[h1] at h
     cases h
     obtain rfl:=abI h1
     exact OC (e:=Extern.BytealgCount.count) Tryz.func171 (by kernel_rfl) (by kernel_rfl) (by kernel_rfl) (by kernel_rfl) rfl aW w
    | false=>
     rw[h1] at h
     clear h1
     cases h
noncomputable def MU (g:Nat):Option Prim:=bif Nat.beq g 91 then some Am.GW else none
theorem aa8:vF Tryz.prog MU:=by
 intro bg p h args H v H' hp
 unfold MU at h
 cases h1:Nat.beq bg 91 with
 | true=>
  rw[h1] at h
  cases h
  obtain rfl:=abI h1
  exact WO.agX args H v H' hp
 | false=>
  rw[h1] at h
  clear h1
  cases h
theorem YV:pD Tryz.prog:=by unfold pD;kernel_rfl
theorem mixed:Tryz.prog.follows .mixedOrders=true:=by kernel_rfl
def Nj:List Int:=[1,10,100,1000,10000,100000,1000000,10000000,100000000,1000000000,10000000000,100000000000,1000000000000,10000000000000,100000000000000,1000000000000000,10000000000000000,100000000000000000,1000000000000000000,10000000000000000000]
def Xs:List Int:=[0,1,28,2,29,14,24,3,30,22,20,15,25,17,4,8,31,27,13,23,21,19,16,7,26,12,18,6,11,5,10,9]
def aep:List Int:=[0,1,56,2,57,49,28,3,61,58,42,50,38,29,17,4,62,47,59,36,45,43,51,22,53,39,33,30,24,18,12,5,63,55,48,27,60,41,37,16,46,35,44,21,52,32,23,11,54,26,40,15,34,20,31,10,25,14,19,9,13,8,7,6]
def ot:List (Nat × List AV):=[(0,Nj.map (AV.int .u64)),(4,Xs.map (AV.int .u8)),(5,aep.map (AV.int .u8)),(6,[.iface 290 (.ptr 10 0)]),(7,[.iface 290 (.ptr 9 0)])]
abbrev laid : List (String × DataW Unit) := [("math/bits.deBruijn32tab", Rows.laid_math_bits_deBruijn32tab), ("math/bits.deBruijn64tab", Rows.laid_math_bits_deBruijn64tab), ("internal/strconv.uint64pow10", Rows.laid_internal_strconv_uint64pow10), ("unicode/utf8.acceptRanges", Rows.laid_unicode_utf8_acceptRanges), ("strconv.ErrRange", Rows.laid_strconv_ErrRange), ("strconv.ErrSyntax", Rows.laid_strconv_ErrSyntax), ("unicode/utf8.first", Rows.laid_unicode_utf8_first)]
theorem star : "*" ++ "errors.errorString" = "*errors.errorString" := by decide
theorem aaN (u : TypeId)(h : Tryz.prog.typeName? 3 u = some "*errors.errorString") : u = 290 :=
 typeName_ptr_named (nm := "errors.errorString") (by rw[star];kernel_rfl) (by kernel_rfl) (by decide) u (by rw[star];exact h)
theorem aks {W:World}(h:laidMet Tryz.prog laid W)(eG:8<=W.heap.size)(bx:Nat->Nat)(dx:Nat->Int)(nx:Nat->Nat){N:Nat}(hN:11<=N){PO:List (Nat × AO)}
  (hP:∀ i o,(i,o)∈PO->11<=i/\i<N/\wr o=false/\∃ ob,W.heap[bx i]? = some ob/\∀ e:Em,e.N=N->(∀ j,11<=j->e.b j=bx j/\e.d j=dx j/\e.n j=nx j)->OR e i o ob) :
  ∃ e,RH Tryz.prog.globals.size (fun k=>k<W.heap.size) W e ⟨sQ PO (qY (Bk W) ot),N⟩ W/\e.N=N/\∀ j,11<=j->e.b j=bx j/\e.d j=dx j/\e.n j=nx j:=by
 have hs:Tryz.prog.globals.size=8:=by kernel_rfl
 rw[hs]
 obtain⟨b0, o0, t0, w0⟩ := aej (n := "strconv.ErrRange") (nm := "*errors.errorString") (tp := 290) (te := 292) (ts := 9) h (.tail _ (.tail _ (.tail _ (.tail _ (.head _))))) (g := 7) (ti := 183) (by kernel_rfl) (by kernel_rfl) Tryz.underlying183 aaN Tryz.underlying290 Tryz.underlying292 rfl rfl Tryz.underlying9 (by kernel_rfl) (by kernel_rfl)
 obtain⟨b1, o1, t1, w1⟩ := aej (n := "strconv.ErrSyntax") (nm := "*errors.errorString") (tp := 290) (te := 292) (ts := 9) h (.tail _ (.tail _ (.tail _ (.tail _ (.tail _ (.head _)))))) (g := 6) (ti := 183) (by kernel_rfl) (by kernel_rfl) Tryz.underlying183 aaN Tryz.underlying290 Tryz.underlying292 rfl rfl Tryz.underlying9 (by kernel_rfl) (by kernel_rfl)
 let bz:Nat->Nat:=fun i=>if i=9 then b0 else if i=10 then b1 else bx i
 let dz:Nat->Int:=fun i=>if i=9 then (o0:Int) else if i=10 then (o1:Int) else dx i
 have T0 := fun em : Em => U4 (name := "internal/strconv.uint64pow10") (k := .u64) (zs := Nj) h (.tail _ (.tail _ (.head _))) (g := 0) (by kernel_rfl) (by kernel_rfl) Tryz.underlying254 Tryz.underlying118 (by kernel_rfl) (by kernel_rfl) (by decide) em
 have T4 := fun em : Em => U4 (name := "math/bits.deBruijn32tab") (k := .u8) (zs := Xs) h (.head _) (g := 4) (by kernel_rfl) (by kernel_rfl) Tryz.underlying273 Tryz.underlying5 (by kernel_rfl) (by kernel_rfl) (by decide) em
 have T5 := fun em : Em => U4 (name := "math/bits.deBruijn64tab") (k := .u8) (zs := aep) h (.tail _ (.head _)) (g := 5) (by kernel_rfl) (by kernel_rfl) Tryz.underlying274 Tryz.underlying5 (by kernel_rfl) (by kernel_rfl) (by decide) em
 have hj:∀ j,11<=j->(Am.start W 8 N bz dz nx).b j=bx j/\(Am.start W 8 N bz dz nx).d j=dx j/\(Am.start W 8 N bz dz nx).n j=nx j:=by
  intro j hj
  refine⟨?_,?_,?_⟩<;>simp only[Am.start,bz,dz]<;>(repeat rw[if_neg (by omega)])
 refine⟨Am.start W 8 N bz dz nx,RH.start bz dz nx (by omega) (by decide) eG ?_ ?_,rfl,hj⟩
 ·intro g l hm
  simp only[ot,aa7,acv,akm,or_false] at hm
  rcases hm with⟨rfl,rfl⟩ | ⟨rfl,rfl⟩ | ⟨rfl,rfl⟩ | ⟨rfl,rfl⟩ | ⟨rfl,rfl⟩
  ·exact⟨by decide,by decide,T0 _⟩
  ·exact⟨by decide,by decide,T4 _⟩
  ·exact⟨by decide,by decide,T5 _⟩
  ·refine⟨by decide,by decide,_,t1,w1,fun k v hv => ?_⟩
   cases k with
   | zero=>
    simp only[aek,adE] at hv
    subst hv
    exact⟨_,rfl,.iface _ _ _ (.ptr (e:=Am.start W 8 N bz dz nx) 10 0 o1 (show (10:Nat)<N by omega) (by simp[Am.start,dz]))⟩
   | succ k=>simp at hv
  ·refine⟨by decide,by decide,_,t0,w0,fun k v hv => ?_⟩
   cases k with
   | zero=>
    simp only[aek,adE] at hv
    subst hv
    exact⟨_,rfl,.iface _ _ _ (.ptr (e:=Am.start W 8 N bz dz nx) 9 0 o0 (show (9:Nat)<N by omega) (by simp[Am.start,dz]))⟩
   | succ k=>simp at hv
 ·intro i o hm
  obtain⟨h1,h2,h3,ob,h4,h5⟩:=hP i o hm
  exact⟨by omega,h2,h3,ob,by have:=(hj i h1).1;simp only[Am.start,if_neg (show ¬ i<8 by omega)] at this;rw[this];exact h4,h5 _ rfl hj⟩
theorem aqc:Tryz.prog.globals.size<11:=by
 have hs:Tryz.prog.globals.size=8:=by kernel_rfl
 omega
theorem att (el:Nat->TypeId):Ol (M9 (Tryz.prog) ext MU 20000 11 [] ⟨qY el ot,11⟩)=true:=by kernel_rfl
theorem aro:yT Tryz.prog 11 (Gk ot 11):=
 auQ mixed YV acq aa8 Tryz.func11 rfl aqc
  (by
   have hs:Tryz.prog.globals.size=8:=by kernel_rfl
   rw[hs]
   intro g l hm
   simp only[ot,aa7,acv,akm,or_false] at hm;rcases hm with⟨rfl,rfl⟩ | ⟨rfl,rfl⟩ | ⟨rfl,rfl⟩ | ⟨rfl,rfl⟩ | ⟨rfl,rfl⟩<;>exact⟨by decide,by decide,by decide,by decide⟩) fun el=>att el
noncomputable def U2 (g:Nat):Option Prim:=bif Nat.beq g 182 then some kI.IJ else bif Nat.beq g 166 then some kI.Kj else bif Nat.beq g 173 then some kI.GR else bif Nat.beq g 192 then some iz.uW else MU g
theorem aqo:vF Tryz.prog U2:=by
 intro bg p h args H v H' hp
 unfold U2 at h
 cases h1:Nat.beq bg 182 with
 | true=>
  rw[h1] at h
  cases h
  obtain rfl:=abI h1
  exact kI.aj9 args H v H' hp
 | false=>
  rw[h1] at h
  clear h1
  cases h1:Nat.beq bg 166 with
  | true=>
   rw[h1] at h
   cases h
   obtain rfl:=abI h1
   exact kI.arR args H v H' hp
  | false=>
   rw[h1] at h
   clear h1
   cases h1:Nat.beq bg 173 with
   | true=>
    rw[h1] at h
    cases h
    obtain rfl:=abI h1
    exact kI.ahc args H v H' hp
   | false=>
    rw[h1] at h
    clear h1
    cases h1:Nat.beq bg 192 with
    | true=>
     rw[h1] at h
     cases h
     obtain rfl:=abI h1
     exact iz.ajW args H v H' hp
    | false=>
     rw[h1] at h
     clear h1
     exact aa8 bg p h args H v H' hp
noncomputable def aR (g:Nat):Option Prim:=bif Nat.beq g 11 then some (Gk ot 11) else U2 g
theorem au9:vF Tryz.prog aR:=by
 intro bg p h args H v H' hp
 unfold aR at h
 cases h1:Nat.beq bg 11 with
 | true=>
  rw[h1] at h
  cases h
  obtain rfl:=abI h1
  exact aro args H v H' hp
 | false=>
  rw[h1] at h
  clear h1
  exact aqo bg p h args H v H' hp
theorem aqm {Q:Type}{enc:TypeId × Value->Q}{g:Nat}{fn:Func}{b:Code}(hf:Tryz.prog.funcs[g]? = some fn)(hb:fn.body=some b)(an:Nat->K.An)(hA:K.xA Tryz.prog an){W:World}(hL:laidMet Tryz.prog laid W)(eG:8<=W.heap.size){base:Nat}{spare:Nat->Bool}{held:Bool}(lh:∀ b,spare b=true){sP:List K.Ty}{vs:List Value}
  (ha:K.Kn enc Tryz.prog W base spare held sP vs) (law:∀ H aW ds,K.FW H sP aW ds->AP H ot->11<=H.next->∃ H',K.CK Tryz.prog (K.sJ Tryz.prog) ext aR an (.func (.func g) [] []) aW H=some (.bool true,H')) :
  Calls Tryz.prog g vs.toArray W fun en w'=>en = .returned (.bool true)/\Below W.heap.size W w':=by
 obtain⟨aW,os,ds,a1,a2,a3,a4⟩:=K.ank lh ha 11
 have hs:Tryz.prog.globals.size=8:=by kernel_rfl
 obtain⟨e,hR,hN,hj⟩:=aks hL eG (fun i=>((os[i-11]?).map (·.b)).getD 0) (fun _=>0) (fun i=>((os[i-11]?).map (·.n)).getD 0) (N:=11+os.length) (by omega) (PO:=K.yi 11 os) (by
  intro i o hm
  obtain⟨j,ob,h1,rfl,rfl⟩:=K.aad os 11 i o hm
  have rA:=(aaw.1 h1).1
  have aee:∀ e:Em,e.N=11+os.length->(∀ j,11<=j->e.b j=((os[j-11]?).map (·.b)).getD 0/\e.d j=0/\e.n j=((os[j-11]?).map (·.n)).getD 0)->K.Fits e 11 os:=by
   intro e he hj
   refine⟨by omega,fun j o ho => ?_⟩
   obtain⟨x,y,z⟩:=hj (11+j) (by omega)
   rw[afG,ho] at x z
   exact⟨x,y,z⟩
  have hex:∃ ow,W.heap[ob.b]? = some ow:=by
   let e0:Em:=⟨fun j=>((os[j-11]?).map (·.b)).getD 0,fun _=>0,fun j=>((os[j-11]?).map (·.n)).getD 0,11+os.length⟩
   obtain⟨ow,h,_⟩:=a2 e0 (aee e0 rfl fun j _=>⟨rfl,rfl,rfl⟩) j ob h1
   exact⟨ow,h⟩
  obtain⟨ow,how⟩:=hex
  refine⟨by omega,by omega,a3 ob (aaO h1),ow,?_,fun e he hj => ?_⟩
  ·rw[afG,h1];exact how
  ·obtain⟨ow2,h,h2⟩:=a2 e (aee e he hj) j ob h1
   rw[how] at h;cases h
   exact h2)
 have OM:K.Fits e 11 os:=by
  refine⟨by omega,fun j o ho => ?_⟩
  obtain⟨x,y,z⟩:=hj (11+j) (by omega)
  rw[afG,ho] at x z
  exact⟨x,y,z⟩
 have ahw:K.Has ⟨sQ (K.yi 11 os) (qY (Bk W) ot),11+os.length⟩ 11 os:=⟨aaU _,fun j o ho=>K.ae7 os 11 _ j o ho⟩
 have hT:AP ⟨sQ (K.yi 11 os) (qY (Bk W) ot),11+os.length⟩ ot:=by
  refine⟨Bk W,fun g l hm => ?_⟩
  have hg:g<11:=by
   simp only[ot,aa7,acv,akm,or_false] at hm;rcases hm with⟨rfl,rfl⟩ | ⟨rfl,rfl⟩ | ⟨rfl,rfl⟩ | ⟨rfl,rfl⟩ | ⟨rfl,rfl⟩<;>decide
  show (sQ _ _).get g=_
  rw[K.aeS os 11 _ g hg]
  exact K.Xg _ _ (by decide) g l hm
 obtain⟨H',hk⟩:=law _ aW ds (a4 _ ahw) hT (Nat.le_add_right _ _)
 refine (K.ast mixed YV acq au9 K.auU hA hk hf hb hR (aW:=vs.toArray) (by simpa using a1 e OM)).mono fun en w' ⟨e',v',h1,_,bE,hv⟩ => ?_
 have:=hv.xj
 subst this
 exact⟨h1,⟨bE.os,bE.tape,bE.output,bE.size,fun k hk=>(bE.frame k hk).2⟩⟩
theorem asn (an:Nat->K.An){H:Hp}(hT:AP H ot)(hn:11<=H.next):K.CK Tryz.prog (K.sJ Tryz.prog) ext aR an (.func (.func 11) [] []) [] H=some (.bool true,H):=by
 refine K.z6 (p:=Gk ot 11) (by kernel_rfl) ?_
 unfold Gk
 rw[if_pos ⟨rfl,hT,hn⟩]
end Go.Proofs.YtodfajmihkagnaaGreatDoor.lN
namespace Go.Proofs.YtodfajmihkagnaaGreatDoor.DfK
open Go Am Am.K lN
noncomputable section
noncomputable abbrev P:Program:=Tryz.prog
noncomputable def anL : List (Nat × An) := [
 (88, (.n (.n .nl))),
 (116, (.n (.q (.n (.cd (.n .nl) .nl)) (.s [0, 1, 2, 3] (.n (.cd (.n .nl) .nl)) (.s [0, 1, 2, 3] (.n (.cd .nl .nl)) (.t [0, 1, 2, 3] (.n (.n (.n (.s [0, 9, 10] (.v [0, 9, 10] (.lp [0, 1, 2, 3, 9, 10] (.q (.n (.cd .nl .nl)) (.b (.n (.q (.n (.cd .nl .nl)) (.t [0, 1, 2, 3, 9, 10, 11] (.t [0, 1, 2, 3, 9, 10] .nl)))))))) (.t [9, 10] (.n .nl)))))))))))),
 (150, (.n (.s [0, 1] (.n (.cd (.n .nl) .nl)) (.s [0, 1] (.n (.cd (.n .nl) .nl)) (.n (.v [4] (.lp [0, 1, 5] (.b (.n (.q (.n (.cd (.n .nl) .nl)) (.n .nl))))))))))),
 (151, (.n (.n .nl))),
 (117, (.n (.n .nl))),
 (85, (.n (.s [0, 1] (.n (.b (.n (.cd (.n .nl) (.n (.cd (.n .nl) .nl)))))) (.n (.s [0, 1, 5] (.n (.cd (.s [0, 1, 5] (.t [0, 1, 5, 29] (.cd .nl .nl)) .nl) .nl)) (.s [0, 1, 5] (.n (.v [0, 1, 5] (.lp [0, 1, 5, 39, 40, 41] (.n (.q (.cd .nl .nl) (.s [0, 1, 5, 39, 40, 41] (.b (.n (.s [0, 1, 5, 7, 39, 40, 41] (.t [0, 1, 5, 7, 39, 40, 41, 49] (.cd .nl .nl)) .nl))) .nl)))))) (.n (.n (.n (.s [8] (.n (.v [8] (.lp [1, 8, 63, 64, 65] (.n (.q (.cd .nl .nl) (.s [1, 8, 63, 64, 65] (.b (.n (.n .nl))) .nl)))))) (.n .nl))))))))))),
 (172, (.n (.n (.s [0, 1, 5] (.b (.t [0, 1, 5, 16] (.cd (.n .nl) (.n (.cd (.n .nl) (.t [0, 1, 5, 31] (.cd (.n .nl) (.t [0, 1, 5, 36] (.cd (.n .nl) .nl))))))))) (.n (.n (.n (.t [0, 1, 5, 6, 7, 8, 9] (.n (.s [] (.v [] (.lp [0, 1, 5, 6, 7, 8, 9, 10] (.q (.n (.cd .nl .nl)) (.b (.s [0, 1, 5, 6, 7, 8, 9, 10] (.t [0, 1, 5, 6, 7, 8, 9, 10, 64] (.cd (.t [0, 1, 5, 6, 7, 8, 9, 10, 11] (.q (.n (.cd (.n .nl) .nl)) .nl)) .nl)) (.s [0, 1, 5, 6, 7, 8, 9, 10] (.t [0, 1, 5, 6, 7, 8, 9, 10, 93] (.cd (.n .nl) .nl)) (.n (.n (.t [0, 1, 5, 6, 7, 8, 9, 10, 107] (.cd (.t [8, 12] (.s [] (.n (.cd (.n .nl) .nl)) (.n .nl))) (.t [0, 1, 5, 6, 7, 8, 9, 10, 132] (.cd (.t [8, 13] (.q (.n (.cd (.n .nl) .nl)) (.n .nl))) .nl)))))))))))) (.n .nl))))))))))),
 (186, (.n (.n .nl))),
 (152, (.n (.s [0] (.n (.n (.cd (.n .nl) .nl))) (.n .nl)))),
 (112, (.n (.s [0, 1] (.n (.cd .nl .nl)) (.t [0, 1, 21] (.cd .nl .nl))))),
 (113, (.n (.n (.t [1] (.n .nl))))),
 (114, (.n (.n .nl))),
 (147, (.t [0, 6] (.cd .nl (.t [19] (.cd .nl .nl))))),
 (148, (.t [0, 4] (.t [0, 4] .nl))),
 (84, (.n (.n .nl))),
 (111, (.n (.n .nl))),
 (146, (.n (.s [0, 1] (.n (.cd (.s [0] (.t [0, 17] (.cd (.n .nl) .nl)) (.n (.n (.s [0, 5, 6] (.n (.cd .nl .nl)) (.n (.t [0, 5, 7] (.s [5, 7] (.n (.cd (.n (.n .nl)) .nl)) (.n .nl)))))))) .nl)) (.t [9] (.n .nl))))),
 (164, (.n (.s [0] (.n (.cd (.n .nl) .nl)) (.n .nl)))),
 (165, (.n (.n (.n .nl)))),
 (181, (.n (.n .nl))),
 (183, (.n (.q (.n (.cd (.n .nl) .nl)) (.n .nl)))),
 (104, (.n (.s [] (.n (.v [] (.lp [0, 1, 7, 8] (.n (.q (.cd .nl .nl) (.s [0, 1, 7, 8] (.b (.n (.t [0, 1, 5, 7, 8, 16] (.cd (.n .nl) .nl)))) .nl)))))) (.n .nl)))),
 (94, (.n (.n .nl))),
 (177, (.n (.s [] (.n (.v [] (.lp [0, 3, 7, 8] (.n (.q (.cd .nl .nl) (.s [0, 3, 7, 8] (.b (.n (.t [0, 3, 5, 7, 8, 16] (.cd (.n .nl) .nl)))) .nl)))))) (.n .nl)))),
 (158, (.n (.n .nl))),
 (143, (.n (.n .nl))),
 (163, (.n (.s [] (.n (.v [] (.lp [0, 1, 7, 8] (.n (.q (.cd .nl .nl) (.s [0, 1, 7, 8] (.b (.n (.t [0, 1, 5, 7, 8, 16] (.cd (.n .nl) .nl)))) .nl)))))) (.n .nl)))),
 (174, (.n (.s [] (.n (.v [] (.lp [0, 1, 7, 8] (.n (.q (.cd .nl .nl) (.s [0, 1, 7, 8] (.b (.n (.t [0, 1, 5, 7, 8, 16] (.cd (.n .nl) .nl)))) .nl)))))) (.n .nl)))),
 (154, (.n (.n .nl))),
 (95, (.n (.n .nl))),
 (135, (.n (.s [] (.n (.v [] (.lp [0, 1, 7, 8] (.n (.q (.cd .nl .nl) (.s [0, 1, 7, 8] (.b (.n (.t [0, 1, 5, 7, 8, 16] (.cd (.n .nl) .nl)))) .nl)))))) (.n .nl)))),
 (136, (.n (.q (.n (.cd (.n .nl) .nl)) (.n .nl)))),
 (137, (.n (.q (.n (.cd (.n .nl) .nl)) (.n .nl)))),
 (138, (.n (.q (.n (.cd (.n .nl) .nl)) (.n .nl)))),
 (30, (.n (.q (.n (.cd (.n .nl) .nl)) (.n .nl)))),
 (72, (.n (.s [0, 1] (.t [0, 1, 10] (.cd (.n .nl) .nl)) (.s [] (.n (.v [] (.lp [0, 1, 12, 13] (.n (.q (.cd .nl .nl) (.s [0, 1, 12, 13] (.b (.n (.t [0, 1, 12, 13, 24] (.cd (.n .nl) .nl)))) .nl)))))) (.n .nl))))),
 (73, (.n (.s [0, 1] (.t [0, 1, 10] (.cd (.n .nl) .nl)) (.s [] (.n (.v [] (.lp [0, 1, 12, 13] (.n (.q (.cd .nl .nl) (.s [0, 1, 12, 13] (.b (.n (.t [0, 1, 12, 13, 24] (.cd (.n .nl) .nl)))) .nl)))))) (.n .nl))))),
 (74, (.n (.s [0, 1] (.t [0, 1, 10] (.cd (.n .nl) .nl)) (.s [] (.n (.v [] (.lp [0, 1, 12, 13] (.n (.q (.cd .nl .nl) (.s [0, 1, 12, 13] (.b (.n (.t [0, 1, 12, 13, 24] (.cd (.n .nl) .nl)))) .nl)))))) (.n .nl))))),
 (75, (.n (.s [0, 1, 2] (.t [0, 1, 2, 14] (.cd (.n .nl) .nl)) (.s [] (.n (.v [] (.lp [1, 2, 15, 16, 17] (.n (.q (.cd .nl .nl) (.s [1, 2, 15, 16, 17] (.b (.t [1, 2, 7, 8, 15, 16, 17] (.t [1, 2, 8, 9, 15, 16, 17] (.t [1, 2, 15, 16, 17, 30] (.cd (.n .nl) .nl))))) .nl)))))) (.n .nl))))),
 (155, (.n (.s [1] (.t [1, 13] (.cd (.n .nl) .nl)) (.n (.s [] (.n (.v [] (.lp [1, 3, 16, 17, 18] (.n (.q (.cd .nl .nl) (.s [1, 3, 16, 17, 18] (.b (.n (.s [1, 3, 5, 16, 17, 18] (.t [1, 3, 5, 16, 17, 18, 45] (.cd (.n .nl) .nl)) .nl))) .nl)))))) (.n .nl)))))),
 (175, (.n (.n .nl))),
 (176, (.n (.q (.n (.cd (.n .nl) .nl)) (.n (.s [7] (.n (.v [7] (.lp [1, 2, 7, 14, 15, 16] (.n (.q (.cd .nl .nl) (.s [1, 2, 7, 14, 15, 16] (.v [1, 2, 7, 14, 15, 16] (.n (.t [1, 2, 7, 9, 14, 15, 16, 24] (.cd .nl .nl)))) .nl)))))) (.n (.n .nl))))))),
 (157, (.n (.n .nl))),
 (156, (.n (.n (.n (.s [5] (.n (.v [5] (.lp [2, 5, 6, 7] (.q (.n (.cd .nl .nl)) (.s [2, 5, 6, 7] (.v [2, 5, 6, 7] (.n (.s [2, 5, 7, 8] (.n (.v [2, 5, 7, 8] (.lp [2, 5, 7, 8, 23, 24, 25] (.n (.q (.cd .nl .nl) (.s [2, 5, 7, 8, 23, 24, 25] (.v [2, 5, 7, 8, 23, 24, 25] (.n (.t [2, 5, 7, 8, 23, 24, 25, 31, 32, 33] (.v [2, 5, 7, 8, 23, 24, 25] (.lp [2, 5, 7, 8, 23, 24, 25, 31, 32, 33] (.n (.q (.cd .nl .nl) (.s [2, 5, 7, 8, 23, 24, 25, 31, 32, 33] (.v [2, 5, 7, 8, 23, 24, 25, 31, 32, 33] (.n (.t [2, 5, 7, 8, 12, 23, 24, 25, 31, 32, 33, 41] (.cd (.t [2, 5, 7, 8, 12, 23, 24, 25, 31, 32, 33] .nl) .nl)))) .nl)))))))) .nl)))))) .nl))) .nl))))) (.n .nl)))))),
 (126, (.n (.q (.n (.cd (.n .nl) .nl)) (.n (.s [1, 3, 4] (.n (.v [1, 3, 4] (.lp [1, 3, 4, 15, 16] (.n (.q (.cd .nl .nl) (.s [1, 3, 4, 15, 16] (.v [1, 3, 4, 15, 16] (.n (.t [1, 3, 4, 5, 6, 15, 16] (.t [1, 3, 4, 5, 6, 15, 16, 35] (.cd .nl .nl))))) .nl)))))) (.q (.n (.cd (.n .nl) .nl)) (.n (.s [7] (.n (.v [7] (.lp [1, 3, 7, 8] (.q (.n (.cd .nl .nl)) (.s [1, 3, 7, 8] (.v [1, 3, 7, 8] (.t [1, 3, 7, 8, 56, 57, 58] (.v [1, 3, 7, 8] (.lp [1, 3, 7, 8, 56, 57, 58] (.n (.q (.cd .nl .nl) (.s [1, 3, 7, 8, 56, 57, 58] (.b (.n (.t [1, 3, 7, 8, 10, 56, 57, 58, 74] (.cd (.n .nl) .nl)))) .nl))))))) .nl))))) (.n .nl))))))))),
 (54, (.n (.n .nl))),
 (153, (.n (.s [0] (.n (.cd (.n .nl) .nl)) (.t [0, 4, 5] (.n .nl))))),
 (118, (.n (.t [0, 1, 2, 3, 9, 10] (.s [10] (.n (.v [10] (.n (.cd (.s [] (.n (.v [] (.lp [0, 3, 23, 24, 25] (.n (.q (.cd .nl .nl) (.s [0, 3, 23, 24, 25] (.b (.n (.n (.q (.n (.cd (.n .nl) .nl)) .nl)))) .nl)))))) (.n .nl)) (.n (.cd .nl (.n (.cd .nl (.n (.cd .nl (.n (.cd (.t [2] (.n .nl)) .nl)))))))))))) (.n .nl))))),
 (89, (.n (.t [0, 1, 4, 6] (.n (.s [4, 6] (.n (.v [4, 6] (.lp [1, 4, 6, 7, 20, 21, 22] (.n (.q (.cd .nl .nl) (.s [1, 4, 6, 7, 20, 21, 22] (.b (.n (.t [1, 4, 6, 7, 9, 10, 11, 20, 21, 22] (.n (.s [1, 4, 6, 7, 13, 20, 21, 22] (.t [1, 4, 6, 7, 13, 20, 21, 22, 50] (.cd (.n .nl) .nl)) .nl))))) .nl)))))) (.n .nl)))))),
 (53, (.n (.s [0, 2] (.n (.cd (.n .nl) .nl)) (.n (.n (.s [2, 4, 5] (.n (.v [2, 4, 5] (.lp [2, 4, 5, 20, 21, 22] (.n (.q (.cd .nl .nl) (.s [2, 4, 5, 20, 21, 22] (.b (.n (.n (.t [2, 4, 5, 8, 20, 21, 22] .nl)))) .nl)))))) (.n (.s [2, 9] (.n (.v [2, 9] (.lp [2, 5, 9, 39, 40, 41] (.n (.q (.cd .nl .nl) (.s [2, 5, 9, 39, 40, 41] (.b (.n (.t [2, 5, 9, 12, 13, 39, 40, 41] (.s [2, 5, 9, 12, 39, 40, 41] (.n (.cd (.n .nl) .nl)) .nl)))) .nl)))))) (.s [2, 9] (.n (.n (.cd (.n .nl) .nl))) (.n .nl)))))))))),
 (119, (.n (.n .nl))),
 (125, (.n (.s [] (.n (.v [] (.lp [1, 8, 9, 10] (.n (.q (.cd .nl .nl) (.s [1, 8, 9, 10] (.b (.t [1, 5, 6, 8, 9, 10] (.n (.cd (.n .nl) .nl)))) .nl)))))) (.n .nl)))),
 (90, (.n (.s [1] (.t [1, 10] (.cd (.n .nl) .nl)) (.n (.s [1] (.t [1, 18, 19, 20] (.v [1] (.lp [1, 18, 19, 20] (.n (.q (.cd .nl .nl) (.s [1, 18, 19, 20] (.b (.n (.n (.cd (.n .nl) .nl)))) .nl)))))) (.s [] (.t [35] (.cd (.n .nl) .nl)) (.n .nl))))))),
 (120, (.n (.n .nl))),
 (121, (.n (.t [2, 4, 6] (.n (.n .nl))))),
 (122, (.n (.n .nl))),
 (123, (.n (.n .nl))),
 (124, (.n (.s [] (.n (.v [] (.lp [1, 2, 3, 9, 10, 11] (.n (.q (.cd .nl .nl) (.s [1, 2, 3, 9, 10, 11] (.b (.t [1, 2, 3, 7, 8, 9, 10, 11] (.t [1, 2, 3, 9, 10, 11, 34] (.cd (.n .nl) .nl)))) .nl)))))) (.n .nl)))),
 (55, (.n (.q (.n (.cd (.n .nl) .nl)) (.n (.s [3] (.n (.v [3] (.lp [1, 3, 13, 14, 15] (.n (.q (.cd .nl .nl) (.s [1, 3, 13, 14, 15] (.v [1, 3, 13, 14, 15] (.n (.n (.s [1, 3, 5, 6, 13, 14, 15] (.n (.v [1, 3, 5, 6, 13, 14, 15] (.lp [1, 3, 5, 6, 13, 14, 15, 22, 23, 24] (.n (.q (.cd .nl .nl) (.s [1, 3, 5, 6, 13, 14, 15, 22, 23, 24] (.b (.t [1, 3, 5, 6, 7, 8, 13, 14, 15, 22, 23, 24] (.s [1, 3, 5, 6, 8, 13, 14, 15, 22, 23, 24] (.n (.cd .nl .nl)) .nl))) .nl)))))) (.t [1, 3, 5, 6, 13, 14, 15] (.s [1, 3, 6, 13, 14, 15] (.n (.cd .nl .nl)) .nl)))))) .nl)))))) (.n .nl)))))),
 (92, (.n (.q (.n (.cd (.n .nl) .nl)) (.n .nl)))),
 (127, (.n (.t [1, 2, 3] (.s [2, 3] (.n (.v [2, 3] (.lp [1, 2, 3, 14, 15, 16] (.n (.q (.cd .nl .nl) (.s [1, 2, 3, 14, 15, 16] (.v [1, 2, 3, 14, 15, 16] (.t [1, 2, 3, 4, 5, 14, 15, 16] (.n (.v [1, 2, 3, 14, 15, 16] (.lp [1, 2, 3, 4, 14, 15, 16, 22, 23, 24] (.n (.q (.cd .nl .nl) (.s [1, 2, 3, 4, 14, 15, 16, 22, 23, 24] (.v [1, 2, 3, 4, 14, 15, 16, 22, 23, 24] (.n (.t [1, 2, 3, 4, 7, 8, 14, 15, 16, 22, 23, 24] (.t [1, 2, 3, 4, 8, 14, 15, 16, 22, 23, 24, 48] (.cd .nl .nl))))) .nl)))))))) .nl)))))) (.n .nl))))),
 (76, (.n (.s [1, 2] (.n (.n (.cd (.n .nl) .nl))) (.t [2, 5] (.n (.n .nl)))))),
 (97, (.n (.t [1, 2] (.s [1, 2] (.t [1, 2, 13, 14, 15] (.v [1, 2] (.lp [1, 2, 13, 14, 15] (.n (.q (.cd .nl .nl) (.s [1, 2, 13, 14, 15] (.b (.t [1, 2, 3, 4, 13, 14, 15] .nl)) .nl)))))) (.t [1, 2] (.t [1, 2] (.n .nl))))))),
 (106, (.n (.n (.s [1, 2] (.t [1, 2, 10, 11, 12] (.v [1, 2] (.lp [1, 2, 10, 11, 12] (.n (.q (.cd .nl .nl) (.s [1, 2, 10, 11, 12] (.b (.t [1, 2, 3, 4, 10, 11, 12] (.t [1, 2, 3, 4, 5, 10, 11, 12] (.s [1, 2, 3, 10, 11, 12] (.t [1, 2, 3, 10, 11, 12, 47] (.cd .nl .nl)) .nl)))) .nl)))))) (.n (.cd .nl .nl)))))),
 (144, (.n (.n .nl))),
 (108, (.n (.s [] (.b (.t [2, 5] (.cd (.n .nl) (.n (.cd (.n .nl) .nl))))) (.n .nl)))),
 (109, (.n (.s [1, 2, 3] (.n (.n (.cd (.n .nl) .nl))) (.s [] (.t [2, 8] (.t [28] (.cd (.n .nl) .nl))) (.n .nl))))),
 (78, (.n (.s [1, 2, 3, 4, 8] (.n (.n (.cd (.n .nl) .nl))) (.t [1, 2, 3, 4, 8, 11] (.s [1, 2, 3, 4, 8, 11] (.b (.n (.cd (.n .nl) (.t [1, 2, 3, 4, 8, 11, 29] (.cd (.n .nl) .nl))))) (.n (.t [1, 4, 8, 11] (.t [4, 8] (.n .nl))))))))),
 (79, (.n (.s [1, 2, 3, 4, 8] (.t [1, 2, 3, 4, 8, 10] (.n (.cd (.n .nl) .nl))) (.n (.t [4, 8] (.n (.n .nl))))))),
 (107, (.t [0, 2, 6, 7] (.s [0, 6] (.t [0, 2, 6, 7, 28] (.cd (.n .nl) .nl)) (.t [0] .nl)))),
 (80, (.n (.s [1, 3, 4, 8] (.t [1, 3, 4, 8, 10] (.n (.cd (.n .nl) .nl))) (.n (.n (.n .nl)))))),
 (77, (.n (.n (.s [2, 4] (.n (.v [2, 4] (.lp [1, 2, 4, 11, 12] (.n (.q (.cd .nl .nl) (.s [1, 2, 4, 11, 12] (.v [1, 2, 4, 11, 12] (.n (.t [1, 2, 4, 5, 6, 11, 12] (.v [1, 2, 4, 11, 12] (.t [1, 2, 4, 5, 6, 11, 12, 19] (.cd .nl (.t [1, 2, 4, 5, 6, 11, 12, 31] (.cd .nl (.t [1, 2, 4, 6, 11, 12, 40] (.cd .nl .nl)))))))))) .nl)))))) (.n .nl))))),
 (81, (.n (.s [2, 3, 4] (.b (.n (.cd (.n .nl) (.t [2, 3, 4, 11] (.cd (.n .nl) (.t [2, 3, 4, 17] (.cd (.n .nl) .nl))))))) (.n (.t [2, 4] (.n (.n .nl))))))),
 (110, (.n (.n .nl))),
 (36, (.n (.n (.n .nl)))),
 (71, (.n (.n .nl))),
 (145, (.n (.s [0, 1] (.t [0, 1, 12] (.cd (.n .nl) .nl)) (.n (.s [5] (.n (.v [5] (.lp [1, 5, 6] (.s [1, 5, 6] (.t [1, 5, 6, 21] (.cd .nl .nl)) (.q (.b .nl) .nl))))) (.n .nl)))))),
 (50, (.n (.n .nl))),
 (86, (.n (.n .nl))),
 (115, (.n (.s [] (.n (.v [] (.lp [1, 2, 10] (.n (.q (.cd .nl .nl) (.b (.n (.t [1, 2, 7, 10, 19] (.cd (.n .nl) .nl))))))))) (.n .nl)))),
 (48, (.n (.s [] (.n (.b (.n (.cd (.n .nl) (.n (.cd (.n .nl) (.s [3, 8] (.n (.cd .nl .nl)) (.cd (.n .nl) (.n (.cd (.n .nl) (.s [3, 13] (.n (.cd .nl .nl)) (.cd (.n .nl) (.n (.cd (.n .nl) (.n (.cd (.n .nl) .nl)))))))))))))))) (.n .nl)))),
 (87, (.n (.n .nl))),
 (52, (.n (.s [2] (.n (.b (.n (.cd (.n .nl) (.n (.cd (.n .nl) (.n (.cd (.n .nl) (.n (.cd (.n (.s [2, 5] (.n (.cd .nl .nl)) (.n .nl))) (.n (.cd (.n .nl) (.n (.cd (.n .nl) .nl)))))))))))))) (.s [2] (.n (.cd (.n .nl) .nl)) (.n .nl))))),
 (49, (.n (.t [1, 2, 4, 5] (.s [4, 5] (.n (.v [4, 5] (.lp [2, 4, 5, 12] (.n (.q (.cd .nl .nl) (.v [2, 4, 5, 12] (.n (.n (.v [2, 4, 5, 12] (.n (.cd .nl (.n (.cd .nl (.n (.cd .nl (.n (.cd .nl (.n (.cd .nl (.n (.cd .nl (.n (.cd .nl .nl))))))))))))))))))))))) (.n .nl))))),
 (21, (.n (.n (.n .nl)))),
 (51, (.n (.n .nl))),
 (44, (.n (.n .nl))),
 (33, (.n (.s [0, 2, 4] (.t [0, 2, 4, 8, 9] (.n (.cd (.n .nl) .nl))) (.s [0, 2, 4] (.t [0, 2, 4, 30] (.cd (.t [0, 2, 4] .nl) .nl)) (.t [0, 2, 4] (.t [2] (.n .nl))))))),
 (83, (.n (.t [6, 7] (.n .nl)))),
 (32, (.n (.n (.s [3] (.t [0, 3, 9, 10, 11] (.v [3] (.lp [0, 3, 9, 10, 11] (.n (.q (.cd .nl .nl) (.s [0, 3, 9, 10, 11] (.b (.n .nl)) .nl)))))) (.n .nl))))),
 (82, (.n (.s [1, 2] (.n (.cd (.n .nl) .nl)) (.n (.n (.n .nl)))))),
 (58, (.n (.n .nl))),
 (18, (.n (.n .nl))),
 (16, (.n (.q (.n (.cd (.n .nl) .nl)) (.s [0, 3] (.n (.b (.n (.cd (.n .nl) (.n (.cd (.n .nl) (.n (.cd (.n .nl) (.n (.cd (.n .nl) .nl)))))))))) (.s [0, 3] (.t [0, 3, 38] (.cd (.n .nl) .nl)) (.n .nl)))))),
 (40, (.n (.s [0, 1, 2] (.t [0, 1, 2, 8] (.n (.cd (.n .nl) .nl))) (.t [0, 1, 9, 10] (.q (.n (.cd (.n .nl) .nl)) (.s [0, 1, 9] (.t [0, 1, 9, 34] (.cd (.n .nl) .nl)) (.t [0, 1, 9] (.t [] (.n .nl))))))))),
 (41, (.n (.t [0, 3, 5, 6] (.t [0, 3, 5, 6, 8] (.s [0, 3, 5] (.b (.n (.cd (.n .nl) (.t [0, 3, 5, 30] (.cd (.n .nl) (.t [0, 3, 5, 37] (.cd (.n .nl) (.t [0, 3, 5, 44] (.cd (.n .nl) .nl))))))))) (.t [0, 3, 9, 10] (.q (.n (.cd (.n .nl) .nl)) (.t [0, 3] (.s [] (.n (.cd .nl .nl)) (.n .nl)))))))))),
 (42, (.n (.s [0, 1] (.t [0, 1, 11] (.cd (.n .nl) .nl)) (.t [0, 1] (.s [] (.t [0, 1, 20, 21] (.v [] (.lp [0, 1, 20, 21] (.n (.q (.cd .nl .nl) (.s [0, 1, 20, 21] (.b (.n .nl)) .nl)))))) (.n .nl)))))),
 (43, (.n (.t [0, 3, 5] (.n (.n (.s [5, 6, 7] (.n (.v [5, 6, 7] (.n (.cd .nl (.n (.cd .nl (.n (.cd .nl (.n (.cd .nl .nl)))))))))) (.s [7] (.n (.cd .nl .nl)) (.n .nl)))))))),
 (59, (.n (.n .nl))),
 (56, (.n (.t [4, 6, 7] (.s [4, 6] (.n (.cd (.n .nl) .nl)) (.t [4, 8] (.n .nl)))))),
 (45, (.n (.n .nl))),
 (60, (.n (.n .nl))),
 (23, (.n (.t [0, 2, 3] (.s [0, 2, 3] (.t [0, 2, 3, 20, 21, 22] (.v [0, 2, 3] (.lp [0, 2, 3, 20, 21, 22] (.n (.q (.cd .nl .nl) (.s [0, 2, 3, 20, 21, 22] (.b (.n .nl)) .nl)))))) (.s [2, 3] (.t [2, 3, 41, 42, 43] (.v [2, 3] (.lp [2, 3, 41, 42, 43] (.n (.q (.cd .nl .nl) (.s [2, 3, 41, 42, 43] (.b (.n (.t [2, 3, 7, 41, 42, 43] .nl))) .nl)))))) (.n .nl)))))),
 (15, (.n (.n (.n (.n .nl))))),
 (34, (.n (.n .nl))),
 (35, (.n (.n .nl))),
 (13, (.n (.n (.s [3] (.n (.v [3] (.lp [3, 7, 8, 9] (.n (.q (.cd .nl .nl) (.s [3, 7, 8, 9] (.b (.n .nl)) .nl)))))) (.n .nl))))),
 (22, (.n (.n (.s [1, 4] (.t [1, 4, 55] (.cd (.n .nl) .nl)) (.t [1, 4] (.s [1, 4] (.n (.v [1, 4] (.lp [1, 4, 62, 63, 64] (.n (.q (.cd .nl .nl) (.s [1, 4, 62, 63, 64] (.b (.t [1, 4, 5, 6, 62, 63, 64] (.t [1, 4, 5, 6, 7, 62, 63, 64] (.t [1, 4, 62, 63, 64, 101] (.cd (.n .nl) .nl))))) .nl)))))) (.s [1, 4] (.n (.v [1, 4] (.lp [1, 4, 104, 105, 106] (.n (.q (.cd .nl .nl) (.s [1, 4, 104, 105, 106] (.b (.t [1, 4, 9, 10, 104, 105, 106] (.t [1, 4, 9, 10, 11, 12, 104, 105, 106] (.s [1, 4, 9, 10, 104, 105, 106] (.t [1, 4, 9, 10, 104, 105, 106, 128] (.cd (.n .nl) .nl)) .nl)))) .nl)))))) (.s [4] (.n (.v [4] (.lp [4, 148, 149, 150] (.n (.q (.cd .nl .nl) (.s [4, 148, 149, 150] (.b (.n (.s [4, 14, 148, 149, 150] (.t [4, 14, 148, 149, 150, 195] (.cd (.n .nl) .nl)) (.t [4, 16, 148, 149, 150] (.n (.cd (.n .nl) .nl)))))) .nl)))))) (.n .nl))))))))),
 (93, (.n (.n .nl))),
 (57, (.n (.t [2, 3, 5, 6] (.s [2, 3, 5] (.t [2, 3, 5, 33] (.cd (.n .nl) .nl)) (.t [2, 3, 5] (.s [2, 3] (.n (.cd (.n .nl) .nl)) (.s [2, 3] (.n (.v [2, 3] (.lp [2, 3, 48, 49, 50] (.n (.q (.cd .nl .nl) (.s [2, 3, 48, 49, 50] (.b (.t [2, 3, 7, 8, 48, 49, 50] (.t [2, 3, 7, 8, 9, 48, 49, 50] (.t [2, 3, 48, 49, 50, 104] (.cd (.n .nl) .nl))))) .nl)))))) (.s [] (.n (.v [] (.lp [2, 3, 107, 108, 109] (.n (.q (.cd .nl .nl) (.s [2, 3, 107, 108, 109] (.b (.t [2, 3, 10, 11, 107, 108, 109] (.t [2, 3, 107, 108, 109, 130] (.cd (.n .nl) .nl)))) .nl)))))) (.n .nl))))))))),
 (96, (.n (.n .nl))),
 (37, (.n (.s [0, 1, 2] (.t [0, 1, 2, 14] (.cd (.n .nl) .nl)) (.s [] (.n (.v [] (.lp [1, 2, 15, 16, 17] (.n (.q (.cd .nl .nl) (.s [1, 2, 15, 16, 17] (.b (.t [1, 2, 7, 8, 15, 16, 17] (.t [1, 2, 8, 9, 15, 16, 17] (.t [1, 2, 15, 16, 17, 30] (.cd (.n .nl) .nl))))) .nl)))))) (.n .nl))))),
 (38, (.n (.s [0, 1, 2] (.t [0, 1, 2, 14] (.cd (.n .nl) .nl)) (.s [] (.n (.v [] (.lp [1, 2, 15, 16, 17] (.n (.q (.cd .nl .nl) (.s [1, 2, 15, 16, 17] (.b (.t [1, 2, 7, 8, 15, 16, 17] (.t [1, 2, 8, 9, 15, 16, 17] (.t [1, 2, 15, 16, 17, 30] (.cd (.n .nl) .nl))))) .nl)))))) (.n .nl))))),
 (39, (.n (.s [0, 1] (.t [0, 1, 10] (.cd (.n .nl) .nl)) (.s [] (.n (.v [] (.lp [0, 1, 12, 13] (.n (.q (.cd .nl .nl) (.s [0, 1, 12, 13] (.b (.n (.t [0, 1, 12, 13, 24] (.cd (.n .nl) .nl)))) .nl)))))) (.n .nl))))),
 (6, (.n (.q (.n (.cd (.n .nl) .nl)) (.s [0, 1] (.t [0, 1, 19] (.cd (.n .nl) .nl)) (.s [0, 1] (.n (.v [0, 1] (.lp [0, 1, 5] (.q (.n (.cd .nl .nl)) (.s [0, 1, 5] (.b (.t [0, 1, 5, 30] (.cd (.n .nl) .nl))) .nl))))) (.n (.t [1, 6, 7, 8] (.s [1, 6, 7] (.t [1, 6, 7, 50] (.cd (.n .nl) .nl)) (.s [] (.n (.v [] (.lp [1, 6, 7, 9] (.q (.n (.cd .nl .nl)) (.s [1, 6, 7, 9] (.b (.s [1, 6, 7, 9] (.t [1, 6, 7, 9, 61] (.cd (.n .nl) .nl)) (.t [1, 6, 7, 9, 80] (.cd (.n .nl) .nl)))) .nl))))) (.n .nl)))))))))),
 (12, (.n (.n .nl))),
 (0, .nl)]
noncomputable def an (g:Nat):An:=Ob anL g
noncomputable abbrev cK:CF:=CK P (sJ P) ext aR an
noncomputable def adh (J:JT)(G:GT)(cf:CF)(a0 a1:AV)(H:Hp):R:=
 B2 (cf (.func (.func 116) [] []) [a0,a1,(.int .i64 0),(.int .i64 (-1))] H) fun v0 h1=>
 some (v0,h1)
theorem ari {a0 a1:AV}{H:Hp}{r:AV × Hp}(h:adh JN GO cK a0 a1 H=some r):cK (.func (.func 88) [] []) [a0,a1] H=some r:=aO (first:=[]) (cap:=[]) (aaK (by kernel_rfl) h)
noncomputable def NM (J:JT)(G:GT)(cf:CF)(ju:K.Fn 3)(dI:K.Fn 6)(bw bI bQ cH cj dS:AV)(dW:Hp):R:=
 B1 (bX dS cH) fun jg=>
 CD jg (
 B2 (cf (.func (.func 151) [] []) [bw,bI] dW) fun v44 jF=>
 B1 (bX v44 (.int .i64 0)) fun v46=>
 CD v46 (
 ju bw cj dS jF) (
 J 7 (fun zF=>
 B1 (bU v44 bQ) fun fS=>
 B1 (oL bw none (some fS)) fun v49=>
 B1 (ia 1 cj dS) fun fN=>
 B1 (st 1 fN v49 jF) fun oa=>
 zF bw bI bQ cH cj dS v44 oa) (fun gD jE iN fR ep eN fj A8=>
 J 6 (fun Vd=>
 B1 (lens jE) fun nQ=>
 B1 (bU fj nQ) fun iE=>
 B1 (oL gD (some iE) none) fun v63=>
 Vd v63 jE iN fR ep eN A8) (fun fX fO qu jf gU jz qo=>
 B1 (bU jz (.int .i64 1)) fun qc=>
 dI fX fO qu jf gU qc qo)))) (
 ju bw cj dS dW)
noncomputable def KB (J:JT)(G:GT)(cf:CF)(ju:K.Fn 3):K.Fn 6:=dB P an J G cf 116 [1,1,1,1,1,1,1,1,0,0,0] [0,1,2,3,9,10] (fun q t H=>match Nat.beq q 0 with | true=>app 3 ju (aw [0,9,10] t) H | false=>(fun _ _ _=>none) q t H)
theorem avy (J:JT)(G:GT)(cf:CF)(ju:K.Fn 3)(dI:K.Fn 6)(bw bI bQ cH cj dS:AV)(dW:Hp):jb P an J G cf 116 [1,1,1,1,1,1,1,1,0,0,0] [0,1,2,3,9,10] (fun q t H=>match Nat.beq q 0 with | true=>app 3 ju (aw [0,9,10] t) H | false=>(fun _ _ _=>none) q t H) dI [bw,bI,bQ,cH,cj,dS] dW=NM J G cf ju dI bw bI bQ cH cj dS dW:=by kernel_rfl
theorem ZC (cf:CF)(ju:K.Fn 3)(bw bI bQ cH cj dS:AV)(dW:Hp):KB JN GO cf ju bw bI bQ cH cj dS dW=NM JN GO cf ju (KB JN GO cf ju) bw bI bQ cH cj dS dW:=aaK (b:=app 6 (KB JN GO cf ju) [bw,bI,bQ,cH,cj,dS] dW) (by kernel_rfl) ((dQ cf _ _ _ _ [bw,bI,bQ,cH,cj,dS] rfl dW).trans (avy JN GO cf ju _ bw bI bQ cH cj dS dW))
noncomputable def Sj (J:JT)(G:GT)(cf:CF)(a0 a1 a2 a3:AV)(H:Hp):R:=
 B1 (cl a3 (.int .i64 0)) fun v0=>
 CD v0 (
 some (.ae,H)) (
 J 4 (fun j1=>
 B1 (seq a1 (.str [])) fun v2=>
 CD v2 (
 B2 (cf (.func (.func 149) [] []) [a0,a3] H) fun v3 h4=>
 some (v3,h4)) (
 j1 a0 a1 a2 a3 H)) (fun x5 x6 x7 x8 h9=>
 J 4 (fun aX=>
 B1 (bX x8 (.int .i64 0)) fun v11=>
 CD v11 (
 B2 (cf (.func (.func 150) [] []) [x5,x6] h9) fun v12 eR=>
 B1 (bU v12 (.int .i64 1)) fun cN=>
 aX x5 x6 x7 cN eR) (
 aX x5 x6 x7 x8 h9)) (fun bu aS bc aB dm=>
 J 4 (fun aD=>
 B1 (lens bu) fun v21=>
 B1 (bU v21 (.int .i64 1)) fun v22=>
 B2 (gS P .min #[3,3] [aB,v22] dm) fun v23 ic=>
 aD bu aS bc v23 ic) (fun bS dc cY dT dF=>
 B2 (zK [(.str [])] 9 1 dT dT dF) fun v30 gf=>
 B1 (nW dT (.int .i64 1)) fun v32=>
 J 3 (fun kP=>
 J 3 (fun ju=>
 KB J G cf ju bS dc cY v32 v30 (.int .i64 0) gf) (fun tS fU gT nB=>
 kP tS fU gT nB)) (fun gN fQ fL iY=>
 J 2 (fun j80=>
 B1 (ia 1 fQ fL) fun kE=>
 B1 (st 1 kE gN iY) fun uR=>
 j80 fQ fL uR) (fun nU pg pw=>
 B1 (bU pg (.int .i64 1)) fun sK=>
 B1 (qE 1 nU none (some sK) none) fun v87=>
 some (v87,pw)))))))
theorem avG (J:JT)(G:GT)(cf:CF)(a0 a1 a2 a3:AV)(H:Hp):fB P J G aR an cf 116 [a0,a1,a2,a3] H=Sj J G cf a0 a1 a2 a3 H:=by kernel_rfl
theorem ahr {a0 a1 a2 a3:AV}{H:Hp}{r:AV × Hp}(h:Sj JN GO cK a0 a1 a2 a3 H=some r):cK (.func (.func 116) [] []) [a0,a1,a2,a3] H=some r:=aO (first:=[]) (cap:=[]) ((avG JN GO _ a0 a1 a2 a3 H).trans h)
noncomputable def aqQ (J:JT)(G:GT)(cf:CF)(zw:K.Fn 1):K.Fn 3:=dB P an J G cf 150 [1,1,1,1,0,0] [0,1,5] (fun q t H=>match Nat.beq q 0 with | true=>app 1 zw (aw [4] t) H | false=>(fun _ _ _=>none) q t H)
noncomputable def aeX (J:JT)(G:GT)(cf:CF)(a0 a1:AV)(H:Hp):R:=
 J 2 (fun j0=>
 B1 (lens a1) fun v1=>
 B1 (cl v1 (.int .i64 0)) fun v2=>
 CD v2 (
 B2 (cf (.func (.func 170) [] []) [a0] H) fun v3 h4=>
 B1 (bU v3 (.int .i64 1)) fun v5=>
 some (v5,h4)) (
 j0 a0 a1 H)) (fun x6 x7 h8=>
 J 2 (fun j9=>
 B1 (lens x7) fun v10=>
 B1 (cl v10 (.int .i64 1)) fun v11=>
 CD v11 (
 B1 (wW x7 (.int .i64 0)) fun v12=>
 B2 (cf (.func (.func 171) [] []) [x6,v12] h8) fun dV ki=>
 some (dV,ki)) (
 j9 x6 x7 h8)) (fun bu aS dO=>
 J 1 (fun zw=>
 aqQ J G cf zw bu aS (.int .i64 0) dO) (fun bP cW=>
 some (bP,cW))))
theorem aiW {a0 a1:AV}{H:Hp}{r:AV × Hp}(h:aeX JN GO cK a0 a1 H=some r):cK (.func (.func 150) [] []) [a0,a1] H=some r:=aO (first:=[]) (cap:=[]) (aaK (by kernel_rfl) h)
noncomputable def X5 (J:JT)(G:GT)(cf:CF)(a0 a1:AV)(H:Hp):R:=
 B2 (cf (.func (.func 172) [] []) [a0,a1] H) fun v0 h1=>
 some (v0,h1)
theorem aor {a0 a1:AV}{H:Hp}{r:AV × Hp}(h:X5 JN GO cK a0 a1 H=some r):cK (.func (.func 151) [] []) [a0,a1] H=some r:=aO (first:=[]) (cap:=[]) (aaK (by kernel_rfl) h)
noncomputable def abS (J:JT)(G:GT)(cf:CF)(a0 a1:AV)(H:Hp):R:=
 B2 (cf (.func (.func 152) [] []) [a0,a1] H) fun v0 h1=>
 B1 (ex 0 v0) fun v2=>
 B1 (ex 1 v0) fun v3=>
 B1 (ex 2 v0) fun v4=>
 some (.tuple [v2,v3,v4],h1)
theorem aww {a0 a1:AV}{H:Hp}{r:AV × Hp}(h:abS JN GO cK a0 a1 H=some r):cK (.func (.func 117) [] []) [a0,a1] H=some r:=aO (first:=[]) (cap:=[]) (aaK (by kernel_rfl) h)
noncomputable def MV (J:JT)(G:GT)(cf:CF)(pY:K.Fn 3)(sU:K.Fn 6)(dS eP dY gX fy fV:AV)(mo:Hp):R:=
 B1 (bX fV fy) fun fS=>
 CD fS (
 J 6 (fun j49=>
 B1 (ia 1 gX fV) fun fN=>
 B1 (ld fN mo) fun v51=>
 J 7 (fun j52=>
 J 8 (fun Pb=>
 B1 (lens v51) fun iR=>
 B1 (nW (.int .i64 9223372036854775807) dY) fun gH=>
 B1 (jA iR gH) fun kN=>
 Pb dS eP dY v51 gX fy fV kN mo) (fun eN fj eA eh dL jD iw fX oh=>
 CD fX (
 none) (
 j52 eN fj eA eh dL jD iw oh))) (fun qu jf gU jz jO pV tS Lr=>
 B1 (lens jz) fun kV=>
 B1 (bU gU kV) fun v75=>
 j49 qu jf v75 jO pV tS Lr)) (fun gN fQ fL rT qw sW uR=>
 B1 (bU sW (.int .i64 1)) fun mX=>
 sU gN fQ fL rT qw mX uR)) (
 pY dS eP dY mo)
noncomputable def Gv (J:JT)(G:GT)(cf:CF)(pY:K.Fn 3):K.Fn 6:=dB P an J G cf 85 [1,1,1,1,0,1,0,0] [0,1,5,39,40,41] (fun q t H=>match Nat.beq q 1 with | true=>app 3 pY (aw [0,1,5] t) H | false=>(fun _ _ _=>none) q t H)
theorem akE (J:JT)(G:GT)(cf:CF)(pY:K.Fn 3)(sU:K.Fn 6)(dS eP dY gX fy fV:AV)(mo:Hp):jb P an J G cf 85 [1,1,1,1,0,1,0,0] [0,1,5,39,40,41] (fun q t H=>match Nat.beq q 1 with | true=>app 3 pY (aw [0,1,5] t) H | false=>(fun _ _ _=>none) q t H) sU [dS,eP,dY,gX,fy,fV] mo=MV J G cf pY sU dS eP dY gX fy fV mo:=by kernel_rfl
theorem Xh (cf:CF)(pY:K.Fn 3)(dS eP dY gX fy fV:AV)(mo:Hp):Gv JN GO cf pY dS eP dY gX fy fV mo=MV JN GO cf pY (Gv JN GO cf pY) dS eP dY gX fy fV mo:=aaK (b:=app 6 (Gv JN GO cf pY) [dS,eP,dY,gX,fy,fV] mo) (by kernel_rfl) ((dQ cf _ _ _ _ [dS,eP,dY,gX,fy,fV] rfl mo).trans (akE JN GO cf pY _ dS eP dY gX fy fV mo))
noncomputable def QC (J:JT)(G:GT)(cf:CF)(vk:K.Fn 1)(aqv:K.Fn 5)(w9 tX po nV kW:AV)(qm:Hp):R:=
 B1 (bX kW nV) fun yL=>
 CD yL (
 J 5 (fun akn=>
 B1 (ia 1 po kW) fun vc=>
 B1 (ld vc qm) fun xg=>
 B2 (cf (.func (.func 113) [] []) [tX,w9] qm) fun sB zQ=>
 B2 (cf (.func (.func 113) [] []) [tX,xg] zQ) fun v117 G5=>
 akn w9 tX po nV kW G5) (fun rO qN tR tH yY wc=>
 B1 (bU yY (.int .i64 1)) fun yg=>
 aqv rO qN tR tH yg wc)) (
 vk tX qm)
noncomputable def GN (J:JT)(G:GT)(cf:CF)(vk:K.Fn 1):K.Fn 5:=dB P an J G cf 85 [1,1,1,1,1,1,1,1,0,1,0,0] [1,8,63,64,65] (fun q t H=>match Nat.beq q 3 with | true=>app 1 vk (aw [8] t) H | false=>(fun _ _ _=>none) q t H)
theorem Wg (cf:CF)(vk:K.Fn 1)(w9 tX po nV kW:AV)(qm:Hp):GN JN GO cf vk w9 tX po nV kW qm=QC JN GO cf vk (GN JN GO cf vk) w9 tX po nV kW qm:=aaK (b:=app 5 (GN JN GO cf vk) [w9,tX,po,nV,kW] qm) (by kernel_rfl) ((dQ cf 85 [1,1,1,1,1,1,1,1,0,1,0,0] [1,8,63,64,65] _ [w9,tX,po,nV,kW] rfl qm).trans (by kernel_rfl))
noncomputable def HT (J:JT)(G:GT)(cf:CF)(a0 a1:AV)(H:Hp):R:=
 J 2 (fun j0=>
 B1 (aK a0) fun v1=>
 B1 (cl v1 (.int .i64 0)) fun v2=>
 CD v2 (
 some ((.str []),H)) (
 B1 (cl v1 (.int .i64 1)) fun v3=>
 CD v3 (
 B1 (ia 1 a0 (.int .i64 0)) fun v4=>
 B1 (ld v4 H) fun v5=>
 some (v5,H)) (
 j0 a0 a1 H))) (fun x6 x7 h8=>
 J 3 (fun j9=>
 B1 (lens x7) fun v10=>
 B1 (jA v10 (.int .i64 0)) fun v11=>
 CD v11 (
 J 3 (fun cG=>
 J 4 (fun eY=>
 B1 (lens x7) fun cN=>
 B1 (aK x6) fun dZ=>
 B1 (nW dZ (.int .i64 1)) fun dN=>
 B1 (Df (.int .i64 9223372036854775807) dN) fun fG=>
 B1 (mH cN fG) fun dA=>
 eY x6 x7 (.int .i64 0) dA h8) (fun aL bG aJ aE bB=>
 CD aE (
 none) (
 cG aL bG aJ bB))) (fun bM bS dc eX=>
 B1 (lens bS) fun v28=>
 B1 (aK bM) fun v29=>
 B1 (nW v29 (.int .i64 1)) fun v30=>
 B1 (xY v28 v30) fun v31=>
 B1 (bU dc v31) fun v32=>
 j9 bM bS v32 eX)) (
 j9 x6 x7 (.int .i64 0) h8)) (fun cO dq bZ nL=>
 J 3 (fun Hi=>
 B1 (aK cO) fun iv=>
 J 3 (fun pY=>
 Gv J G cf pY cO dq bZ cO iv (.int .i64 0) nL) (fun pg qg oX nh=>
 Hi pg qg oX nh)) (fun qb Gp rq wh=>
 BN (aC wh [.dR,.ae] 180 0) fun i92 h93=>
 B2 (cf (.func (.func 112) [] []) [(.ptr i92 0),rq] h93) fun tn iC=>
 B1 (ia 1 qb (.int .i64 0)) fun lF=>
 B1 (ld lF iC) fun Dl=>
 B2 (cf (.func (.func 113) [] []) [(.ptr i92 0),Dl] iC) fun xE JA=>
 J 1 (fun akW=>
 B1 (qE 1 qb (some (.int .i64 1)) none none) fun yq=>
 B1 (aK yq) fun uo=>
 J 1 (fun vk=>
 GN J G cf vk Gp (.ptr i92 0) yq uo (.int .i64 0) JA) (fun jk P1=>
 akW jk P1)) (fun il yP=>
 B2 (cf (.func (.func 114) [] []) [il] yP) fun v130 Fh=>
 some (v130,Fh)))))
theorem aoy (J:JT)(G:GT)(cf:CF)(a0 a1:AV)(H:Hp):fB P J G aR an cf 85 [a0,a1] H=HT J G cf a0 a1 H:=by kernel_rfl
theorem S8 {a0 a1:AV}{H:Hp}{r:AV × Hp}(h:HT JN GO cK a0 a1 H=some r):cK (.func (.func 85) [] []) [a0,a1] H=some r:=aO (first:=[]) (cap:=[]) ((aoy JN GO _ a0 a1 H).trans h)
noncomputable def anG (J:JT)(G:GT)(cf:CF)(Rx:K.Fn 0):K.Fn 8:=dB P an J G cf 172 [1,1,1,1,1,1,1,1,0,0,0] [0,1,5,6,7,8,9,10] (fun q t H=>match Nat.beq q 1 with | true=>app 0 Rx (aw [] t) H | false=>(fun _ _ _=>none) q t H)
noncomputable def Ud (J:JT)(G:GT)(cf:CF)(a0 a1:AV)(H:Hp):R:=
 B1 (lens a1) fun v0=>
 J 3 (fun j1=>
 J 4 (fun j2=>
 B1 (cl v0 (.int .i64 0)) fun v3=>
 G v3 false (fun k4=>
 k4 a1 H) (fun v5 h6=>
 G v3 false (fun k7=>
 k7 a0 h6) (fun v8 h9=>
 G v3 false (fun xn=>
 B1 (seq v5 v8) fun v11=>
 xn v11 h9) (fun v12 eR=>
 B1 (pk v3 (.bool true) v12) fun cN=>
 j2 a0 a1 v0 cN eR) h9) h6) H) (fun bu aS bc aB dm=>
 CD aB (
 some ((.int .i64 0),dm)) (
 B1 (cl bc (.int .i64 1)) fun v20=>
 CD v20 (
 B1 (wW aS (.int .i64 0)) fun v21=>
 B2 (cf (.func (.func 186) [] []) [bu,v21] dm) fun v22 bB=>
 some (v22,bB)) (
 J 4 (fun U0=>
 B1 (lens bu) fun v25=>
 B1 (mH bc v25) fun v26=>
 U0 bu aS bc v26 dm) (fun cY dT cP cn gf=>
 CD cn (
 some ((.int .i64 (-1)),gf)) (
 J 4 (fun gF=>
 B1 (ld (.ptr 1 0) gf) fun fC=>
 B1 (oJ cP fC) fun eC=>
 G eC true (fun tZ=>
 tZ cY gf) (fun v36 gr=>
 G eC true (fun xi=>
 B1 (lens v36) fun eJ=>
 xi eJ gr) (fun v40 dH=>
 G eC true (fun B4=>
 B1 (oJ v40 (.int .i64 64)) fun jg=>
 B4 jg dH) (fun v44 jF=>
 B1 (pk eC v44 (.bool false)) fun v46=>
 gF cY dT cP v46 jF) dH) gr) gf) (fun hJ ir kT mU oa=>
 CD mU (
 B2 (cf (.func (.func 187) [] []) [hJ,ir] oa) fun fI fT=>
 some (fI,fT)) (
 j1 hJ ir kT oa)))))))) (fun iN fR ep oW=>
 B1 (wW fR (.int .i64 0)) fun nb=>
 B1 (wW fR (.int .i64 1)) fun v59=>
 J 7 (fun Vd=>
 B1 (lens iN) fun nQ=>
 B1 (nW nQ ep) fun iE=>
 B1 (bU iE (.int .i64 1)) fun v63=>
 Vd iN fR ep nb v59 (.int .i64 0) v63 oW) (fun fX fO qu jf gU jz jO lZ=>
 J 0 (fun se=>
 J 0 (fun Rx=>
 anG J G cf Rx fX fO qu jf gU jz jO (.int .i64 0) lZ) (fun  aoB=>
 se  aoB)) (fun  apc=>
 some ((.int .i64 (-1)),apc))))
theorem asM (J:JT)(G:GT)(cf:CF)(a0 a1:AV)(H:Hp):fB P J G aR an cf 172 [a0,a1] H=Ud J G cf a0 a1 H:=by kernel_rfl
theorem ajh {a0 a1:AV}{H:Hp}{r:AV × Hp}(h:Ud JN GO cK a0 a1 H=some r):cK (.func (.func 172) [] []) [a0,a1] H=some r:=aO (first:=[]) (cap:=[]) ((asM JN GO _ a0 a1 H).trans h)
noncomputable def aes (J:JT)(G:GT)(cf:CF)(a0 a1:AV)(H:Hp):R:=
 B2 (cf (.func (.func 197) [] []) [a0,a1] H) fun v0 h1=>
 some (v0,h1)
theorem af4 {a0 a1:AV}{H:Hp}{r:AV × Hp}(h:aes JN GO cK a0 a1 H=some r):cK (.func (.func 186) [] []) [a0,a1] H=some r:=aO (first:=[]) (cap:=[]) (aaK (by kernel_rfl) h)
noncomputable def YQ (J:JT)(G:GT)(cf:CF)(a0 a1:AV)(H:Hp):R:=
 J 1 (fun j0=>
 B2 (cf (.func (.func 172) [] []) [a0,a1] H) fun v1 h2=>
 B1 (mH v1 (.int .i64 0)) fun v3=>
 CD v3 (
 B1 (oL a0 none (some v1)) fun v4=>
 B1 (lens a1) fun v5=>
 B1 (bU v1 v5) fun v6=>
 B1 (oL a0 (some v6) none) fun v7=>
 some (.tuple [v4,v7,(.bool true)],h2)) (
 j0 a0 h2)) (fun x8 h9=>
 some (.tuple [x8,(.str []),(.bool false)],h9))
theorem ajc {a0 a1:AV}{H:Hp}{r:AV × Hp}(h:YQ JN GO cK a0 a1 H=some r):cK (.func (.func 152) [] []) [a0,a1] H=some r:=aO (first:=[]) (cap:=[]) (aaK (by kernel_rfl) h)
noncomputable def YR (J:JT)(G:GT)(cf:CF)(a0 a1:AV)(H:Hp):R:=
 B2 (cf (.func (.func 147) [] []) [a0] H) fun v0 h1=>
 J 2 (fun j2=>
 B1 (bX a1 (.int .i64 0)) fun v3=>
 CD v3 (
 none) (
 j2 a0 a1 h1)) (fun x4 x5 h6=>
 J 3 (fun j7=>
 B1 (aT x4) fun v8=>
 B1 (fa 1 v8) fun v9=>
 B1 (ld v9 h6) fun v10=>
 B2 (gS P .cap #[52] [v10] h6) fun v11 di=>
 B1 (aT x4) fun dV=>
 B1 (fa 1 dV) fun cN=>
 B1 (ld cN h6) fun dZ=>
 B1 (aK dZ) fun dN=>
 B1 (nW v11 dN) fun fG=>
 B1 (bX fG x5) fun dA=>
 j7 x4 x5 dA h6) (fun aL bG aJ jw=>
 CD aJ (
 B2 (cf (.func (.func 148) [] []) [aL,bG] jw) fun v23 ic=>
 some (.tuple [],ic)) (
 some (.tuple [],jw))))
theorem ahk {a0 a1:AV}{H:Hp}{r:AV × Hp}(h:YR JN GO cK a0 a1 H=some r):cK (.func (.func 112) [] []) [a0,a1] H=some r:=aO (first:=[]) (cap:=[]) (aaK (by kernel_rfl) h)
noncomputable def Y6 (J:JT)(G:GT)(cf:CF)(a0 a1:AV)(H:Hp):R:=
 B2 (cf (.func (.func 147) [] []) [a0] H) fun v0 h1=>
 J 1 (fun j2=>
 B1 (aT a0) fun v3=>
 B1 (fa 1 v3) fun v4=>
 B1 (ld v4 h1) fun v5=>
 B2 (eV 5 1 [(.int .u8 0)] false v5 a1 h1) fun v6 h7=>
 B1 (aT a0) fun v8=>
 B1 (fa 1 v8) fun v9=>
 B1 (st 1 v9 v6 h7) fun cL=>
 j2 a1 cL) (fun bO di=>
 B1 (lens bO) fun dV=>
 some (.tuple [dV,.nilIface],di))
theorem agf {a0 a1:AV}{H:Hp}{r:AV × Hp}(h:Y6 JN GO cK a0 a1 H=some r):cK (.func (.func 113) [] []) [a0,a1] H=some r:=aO (first:=[]) (cap:=[]) (aaK (by kernel_rfl) h)
noncomputable def Xn (J:JT)(G:GT)(cf:CF)(a0:AV)(H:Hp):R:=
 B1 (aT a0) fun v0=>
 B1 (fa 1 v0) fun v1=>
 B1 (ld v1 H) fun v2=>
 B2 (gS P .unsafeSliceData #[52] [v2] H) fun v3 h4=>
 B1 (aT a0) fun v5=>
 B1 (fa 1 v5) fun v6=>
 B1 (ld v6 h4) fun v7=>
 B1 (aK v7) fun v8=>
 B2 (gS P .unsafeString #[222,3] [v3,v8] h4) fun v9 cL=>
 B1 (ld v6 H) fun v11=>
 SM v7 v11 <|
 B1 (aK v7) fun v12=>
 SM v8 v12 <|
 some (v9,cL)
theorem aiU {a0:AV}{H:Hp}{r:AV × Hp}(h:Xn JN GO cK a0 H=some r):cK (.func (.func 114) [] []) [a0] H=some r:=aO (first:=[]) (cap:=[]) (aaK (by kernel_rfl) h)
noncomputable def TY (J:JT)(G:GT)(cf:CF)(a0:AV)(H:Hp):R:=
 J 2 (fun j0=>
 B1 (aT a0) fun v1=>
 B1 (fa 0 v1) fun v2=>
 B1 (ld v2 H) fun v3=>
 B1 (BT .eql (pe v3 .dR H)) fun v4=>
 j0 a0 v4 H) (fun x5 x6 h7=>
 CD x6 (
 B2 (jU P 178 242 x5 h7) fun v8 h9=>
 B2 (cf (.func (.func 168) [] []) [v8] h9) fun v10 gq=>
 B2 (jU P 242 178 v10 gq) fun v12 eR=>
 B1 (aT x5) fun cN=>
 B1 (fa 0 cN) fun dZ=>
 B1 (st 1 dZ v12 eR) fun bJ=>
 some (.tuple [],bJ)) (
 J 1 (fun jq=>
 B1 (aT x5) fun dA=>
 B1 (fa 0 dA) fun eZ=>
 B1 (ld eZ h7) fun v20=>
 B1 (BT .neq (pe v20 x5 h7)) fun v21=>
 jq v21 h7) (fun aE bB=>
 CD aE (
 none) (
 some (.tuple [],bB)))))
theorem aeL {a0:AV}{H:Hp}{r:AV × Hp}(h:TY JN GO cK a0 H=some r):cK (.func (.func 147) [] []) [a0] H=some r:=aO (first:=[]) (cap:=[]) (aaK (by kernel_rfl) h)
noncomputable def aeW (J:JT)(G:GT)(cf:CF)(a0 a1:AV)(H:Hp):R:=
 J 2 (fun j0=>
 B1 (aT a0) fun v1=>
 B1 (fa 1 v1) fun v2=>
 B1 (ld v2 H) fun v3=>
 B2 (gS P .cap #[52] [v3] H) fun v4 h5=>
 B1 (xY (.int .i64 2) v4) fun v6=>
 B1 (bU v6 a1) fun v7=>
 B2 (cf (.func (.func 169) [] []) [v7] H) fun v8 h9=>
 B1 (aT a0) fun v10=>
 B1 (fa 1 v10) fun v11=>
 B1 (ld v11 h9) fun v12=>
 B1 (aK v12) fun dV=>
 B1 (qE 1 v8 none (some dV) none) fun cN=>
 B1 (ld v11 H) fun dZ=>
 SM v12 dZ <|
 B1 (aK v12) fun dN=>
 SM dV dN <|
 j0 a0 cN h9) (fun bc aB dm=>
 J 2 (fun aD=>
 B1 (aT bc) fun v21=>
 B1 (fa 1 v21) fun v22=>
 B1 (ld v22 dm) fun v23=>
 B2 (Ew 1 aB v23 dm) fun v24 dP=>
 aD bc aB dP) (fun dc cY gQ=>
 B1 (aT dc) fun v29=>
 B1 (fa 1 v29) fun v30=>
 B1 (st 1 v30 cY gQ) fun gf=>
 some (.tuple [],gf)))
theorem aia {a0 a1:AV}{H:Hp}{r:AV × Hp}(h:aeW JN GO cK a0 a1 H=some r):cK (.func (.func 148) [] []) [a0,a1] H=some r:=aO (first:=[]) (cap:=[]) (aaK (by kernel_rfl) h)
noncomputable def adr (J:JT)(G:GT)(cf:CF)(a0:AV)(H:Hp):R:=
 B2 (cf (.func (.func 111) [] []) [a0] H) fun v0 h1=>
 some (v0,h1)
theorem apL {a0:AV}{H:Hp}{r:AV × Hp}(h:adr JN GO cK a0 H=some r):cK (.func (.func 84) [] []) [a0] H=some r:=aO (first:=[]) (cap:=[]) (aaK (by kernel_rfl) h)
noncomputable def abO (J:JT)(G:GT)(cf:CF)(a0:AV)(H:Hp):R:=
 B2 (cf (.func (.func 146) [] []) [a0,(.int .i64 10)] H) fun v0 h1=>
 some (v0,h1)
theorem agQ {a0:AV}{H:Hp}{r:AV × Hp}(h:abO JN GO cK a0 H=some r):cK (.func (.func 111) [] []) [a0] H=some r:=aO (first:=[]) (cap:=[]) (aaK (by kernel_rfl) h)
noncomputable def Kp (J:JT)(G:GT)(cf:CF)(a0 a1:AV)(H:Hp):R:=
 J 2 (fun j0=>
 B1 (cl a1 (.int .i64 10)) fun v1=>
 CD v1 (
 J 1 (fun j2=>
 J 2 (fun j3=>
 B1 (oJ (.int .i64 0) a0) fun v4=>
 G v4 true (fun k5=>
 k5 a0 H) (fun v6 h7=>
 G v4 true (fun k8=>
 B1 (bX v6 (.int .i64 100)) fun v9=>
 k8 v9 h7) (fun v10 gq=>
 B1 (pk v4 v10 (.bool false)) fun v12=>
 j3 a0 v12 gq) h7) H) (fun br bH gY=>
 CD bH (
 B2 (cf (.func (.func 164) [] []) [br] gY) fun dN dO=>
 some (dN,dO)) (
 j2 br gY))) (fun aB dm=>
 BN (aC dm [(.int .u8 0),(.int .u8 0),(.int .u8 0),(.int .u8 0),(.int .u8 0),(.int .u8 0),(.int .u8 0),(.int .u8 0),(.int .u8 0),(.int .u8 0),(.int .u8 0),(.int .u8 0),(.int .u8 0),(.int .u8 0),(.int .u8 0),(.int .u8 0),(.int .u8 0),(.int .u8 0),(.int .u8 0),(.int .u8 0),(.int .u8 0),(.int .u8 0),(.int .u8 0),(.int .u8 0)] 238 0) fun i20 lA=>
 B1 (cv .u64 aB) fun v22=>
 J 3 (fun ec=>
 B1 (bX aB (.int .i64 0)) fun v24=>
 CD v24 (
 B1 (eu .neg v22) fun v25=>
 ec aB (.ptr i20 0) v25 lA) (
 ec aB (.ptr i20 0) v22 lA)) (fun dc cY dT dF=>
 B2 (cf (.func (.func 165) [] []) [dT] dF) fun v30 gf=>
 J 3 (fun gF=>
 B1 (bU (.int .i64 1) v30) fun fC=>
 B1 (su P 238 cY (some (.int .i64 1)) (some fC) none gf) fun eC=>
 B2 (cf (.func (.func 166) [] []) [eC,dT] gf) fun v35 nL=>
 gF dc cY v30 nL) (fun bI bQ cH rF=>
 J 2 (fun j41=>
 B1 (bX bI (.int .i64 0)) fun eM=>
 CD eM (
 B1 (pj 24 1 bQ (.int .i64 0)) fun jg=>
 B1 (st 1 jg (.int .u8 45) rF) fun e8=>
 B1 (bU (.int .i64 1) cH) fun eS=>
 B1 (su P 238 bQ none (some eS) none e8) fun v46=>
 B1 (D8 v46 e8) fun kD=>
 some (kD,e8)) (
 j41 bQ cH rF)) (fun ir kT jW=>
 B1 (bU (.int .i64 1) kT) fun v51=>
 B1 (su P 238 ir (some (.int .i64 1)) (some v51) none jW) fun fI=>
 B1 (D8 fI jW) fun v53=>
 some (v53,jW)))))) (
 j0 a0 a1 H)) (fun iN fR oq=>
 J 1 (fun Ui=>
 B1 (cv .u64 iN) fun nb=>
 B1 (bX iN (.int .i64 0)) fun v59=>
 B2 (cf (.func (.func 167) [] []) [.ae,nb,fR,v59,(.bool false)] oq) fun fW jj=>
 B1 (ex 0 fW) fun iE=>
 B1 (ex 1 fW) fun v63=>
 Ui v63 jj) (fun fX oh=>
 some (fX,oh)))
theorem aha (J:JT)(G:GT)(cf:CF)(a0 a1:AV)(H:Hp):fB P J G aR an cf 146 [a0,a1] H=Kp J G cf a0 a1 H:=by kernel_rfl
theorem PE {a0 a1:AV}{H:Hp}{r:AV × Hp}(h:Kp JN GO cK a0 a1 H=some r):cK (.func (.func 146) [] []) [a0,a1] H=some r:=aO (first:=[]) (cap:=[]) ((aha JN GO _ a0 a1 H).trans h)
noncomputable def Qu (J:JT)(G:GT)(cf:CF)(a0:AV)(H:Hp):R:=
 J 1 (fun j0=>
 B1 (bX a0 (.int .i64 10)) fun v1=>
 CD v1 (
 B1 (bU a0 (.int .i64 1)) fun v2=>
 B1 (oL (.str [48,49,50,51,52,53,54,55,56,57,97,98,99,100,101,102,103,104,105,106,107,108,109,110,111,112,113,114,115,116,117,118,119,120,121,122]) (some a0) (some v2)) fun v3=>
 some (v3,H)) (
 j0 a0 H)) (fun x4 h5=>
 B1 (xY x4 (.int .i64 2)) fun v6=>
 B1 (xY x4 (.int .i64 2)) fun v7=>
 B1 (bU v7 (.int .i64 2)) fun v8=>
 B1 (oL (.str [48,48,48,49,48,50,48,51,48,52,48,53,48,54,48,55,48,56,48,57,49,48,49,49,49,50,49,51,49,52,49,53,49,54,49,55,49,56,49,57,50,48,50,49,50,50,50,51,50,52,50,53,50,54,50,55,50,56,50,57,51,48,51,49,51,50,51,51,51,52,51,53,51,54,51,55,51,56,51,57,52,48,52,49,52,50,52,51,52,52,52,53,52,54,52,55,52,56,52,57,53,48,53,49,53,50,53,51,53,52,53,53,53,54,53,55,53,56,53,57,54,48,54,49,54,50,54,51,54,52,54,53,54,54,54,55,54,56,54,57,55,48,55,49,55,50,55,51,55,52,55,53,55,54,55,55,55,56,55,57,56,48,56,49,56,50,56,51,56,52,56,53,56,54,56,55,56,56,56,57,57,48,57,49,57,50,57,51,57,52,57,53,57,54,57,55,57,56,57,57]) (some v6) (some v8)) fun v9=>
 some (v9,h5))
theorem aof (J:JT)(G:GT)(cf:CF)(a0:AV)(H:Hp):fB P J G aR an cf 164 [a0] H=Qu J G cf a0 H:=by kernel_rfl
theorem at1 {a0:AV}{H:Hp}{r:AV × Hp}(h:Qu JN GO cK a0 H=some r):cK (.func (.func 164) [] []) [a0] H=some r:=aO (first:=[]) (cap:=[]) ((aof JN GO _ a0 H).trans h)
noncomputable def aa5 (J:JT)(G:GT)(cf:CF)(a0:AV)(H:Hp):R:=
 B2 (cf (.func (.func 182) [] []) [a0] H) fun v0 h1=>
 B2 (cf (.func (.func 181) [] []) [v0] h1) fun v2 h3=>
 B1 (pj 20 1 (.ptr 0 0) v2) fun v4=>
 B1 (ld v4 h3) fun v5=>
 B1 (mH a0 v5) fun v6=>
 B2 (cf (.func (.func 183) [] []) [v6] h3) fun v7 h8=>
 B1 (bU v2 v7) fun v9=>
 some (v9,h8)
theorem aje {a0:AV}{H:Hp}{r:AV × Hp}(h:aa5 JN GO cK a0 H=some r):cK (.func (.func 165) [] []) [a0] H=some r:=aO (first:=[]) (cap:=[]) (aaK (by kernel_rfl) h)
noncomputable def aaq (J:JT)(G:GT)(cf:CF)(a0:AV)(H:Hp):R:=
 B1 (xY a0 (.int .i64 78913)) fun v0=>
 B1 (B6 v0 (.int .u64 18)) fun v1=>
 some (v1,H)
theorem aoX {a0:AV}{H:Hp}{r:AV × Hp}(h:aaq JN GO cK a0 H=some r):cK (.func (.func 181) [] []) [a0] H=some r:=aO (first:=[]) (cap:=[]) (aaK (by kernel_rfl) h)
noncomputable def US (J:JT)(G:GT)(cf:CF)(a0:AV)(H:Hp):R:=
 CD a0 (
 some ((.int .i64 1),H)) (
 some ((.int .i64 0),H))
theorem adx {a0:AV}{H:Hp}{r:AV × Hp}(h:US JN GO cK a0 H=some r):cK (.func (.func 183) [] []) [a0] H=some r:=aO (first:=[]) (cap:=[]) (aaK (by kernel_rfl) h)
noncomputable def PQ (J:JT)(G:GT)(cf:CF)(j2:K.Fn 0)(j3:K.Fn 4)(x4 x5 x6 x7:AV)(h8:Hp):R:=
 B1 (bX x7 x6) fun v9=>
 CD v9 (
 J 4 (fun aX=>
 J 6 (fun nz=>
 B1 (ia 1 x4 x7) fun v12=>
 B1 (ld v12 h8) fun dV=>
 B1 (seq x5 dV) fun cN=>
 nz x4 x5 x7 x6 x7 cN h8) (fun bu aS bc aB aL bG lA=>
 CD bG (
 some (bc,lA)) (
 aX bu aS aB aL lA))) (fun aE bp bM bS eg=>
 B1 (bU bS (.int .i64 1)) fun v27=>
 j3 aE bp bM v27 eg)) (
 j2  h8)
noncomputable def Ib (J:JT)(G:GT)(cf:CF)(j2:K.Fn 0):K.Fn 4:=dB P an J G cf 104 [1,0,1,0,0] [0,1,7,8] (fun q t H=>match Nat.beq q 0 with | true=>app 0 j2 (aw [] t) H | false=>(fun _ _ _=>none) q t H)
theorem aed (cf:CF)(j2:K.Fn 0)(x4 x5 x6 x7:AV)(h8:Hp):Ib JN GO cf j2 x4 x5 x6 x7 h8=PQ JN GO cf j2 (Ib JN GO cf j2) x4 x5 x6 x7 h8:=aaK (b:=app 4 (Ib JN GO cf j2) [x4,x5,x6,x7] h8) (by kernel_rfl) ((dQ cf 104 [1,0,1,0,0] [0,1,7,8] _ [x4,x5,x6,x7] rfl h8).trans (by kernel_rfl))
noncomputable def ac2 (J:JT)(G:GT)(cf:CF)(a0 a1:AV)(H:Hp):R:=
 J 0 (fun j0=>
 B1 (aK a0) fun v1=>
 J 0 (fun j2=>
 Ib J G cf j2 a0 a1 v1 (.int .i64 0) H) (fun  gQ=>
 j0  gQ)) (fun  dF=>
 some ((.int .i64 (-1)),dF))
theorem alE {a0 a1:AV}{H:Hp}{r:AV × Hp}(h:ac2 JN GO cK a0 a1 H=some r):cK (.func (.func 104) [] []) [a0,a1] H=some r:=aO (first:=[]) (cap:=[]) (aaK (by kernel_rfl) h)
noncomputable def ZU (J:JT)(G:GT)(cf:CF)(a0 a1:AV)(H:Hp):R:=
 B2 (cf (.func (.func 104) [] []) [a0,a1] H) fun v0 h1=>
 B1 (mH v0 (.int .i64 0)) fun v2=>
 some (v2,h1)
theorem am9 {a0 a1:AV}{H:Hp}{r:AV × Hp}(h:ZU JN GO cK a0 a1 H=some r):cK (.func (.func 94) [] []) [a0,a1] H=some r:=aO (first:=[]) (cap:=[]) (aaK (by kernel_rfl) h)
noncomputable def QI (J:JT)(G:GT)(cf:CF)(j4:K.Fn 0)(j5:K.Fn 4)(x6 x7 x8 x9:AV)(cL:Hp):R:=
 B1 (bX x9 x8) fun v11=>
 CD v11 (
 J 4 (fun cG=>
 J 6 (fun eY=>
 B1 (az 2 x7 cL) fun cN=>
 B1 (ia 2 x6 x9) fun dZ=>
 B1 (az 2 dZ cL) fun dN=>
 xc (gA P .eql 231 false cN dN) <| B1 (fe P .eql 231 cN dN cL) fun fG=>
 eY x6 x7 x9 x8 x9 fG cL) (fun aB aL bG aJ aE bp ic=>
 CD bp (
 some (bG,ic)) (
 cG aB aL aJ aE ic))) (fun bS dc cY dT dF=>
 B1 (bU dT (.int .i64 1)) fun v30=>
 j5 bS dc cY v30 dF)) (
 j4  cL)
noncomputable def Ku (J:JT)(G:GT)(cf:CF)(j4:K.Fn 0):K.Fn 4:=dB P an J G cf 177 [1,0,1,0,0] [0,3,7,8] (fun q t H=>match Nat.beq q 0 with | true=>app 0 j4 (aw [] t) H | false=>(fun _ _ _=>none) q t H)
theorem ZX (cf:CF)(j4:K.Fn 0)(x6 x7 x8 x9:AV)(cL:Hp):Ku JN GO cf j4 x6 x7 x8 x9 cL=QI JN GO cf j4 (Ku JN GO cf j4) x6 x7 x8 x9 cL:=aaK (b:=app 4 (Ku JN GO cf j4) [x6,x7,x8,x9] cL) (by kernel_rfl) ((dQ cf 177 [1,0,1,0,0] [0,3,7,8] _ [x6,x7,x8,x9] rfl cL).trans (by kernel_rfl))
noncomputable def ZM (J:JT)(G:GT)(cf:CF)(a0 a1:AV)(H:Hp):R:=
 BN (bx 231 a1 H) fun i0 h1=>
 J 0 (fun j2=>
 B1 (aK a0) fun v3=>
 J 0 (fun j4=>
 Ku J G cf j4 a0 (.ptr i0 0) v3 (.int .i64 0) h1) (fun  gf=>
 j2  gf)) (fun  cW=>
 some ((.int .i64 (-1)),cW))
theorem ala {a0 a1:AV}{H:Hp}{r:AV × Hp}(h:ZM JN GO cK a0 a1 H=some r):cK (.func (.func 177) [] []) [a0,a1] H=some r:=aO (first:=[]) (cap:=[]) (aaK (by kernel_rfl) h)
noncomputable def WH (J:JT)(G:GT)(cf:CF)(a0 a1:AV)(H:Hp):R:=
 BN (bx 231 a1 H) fun i0 h1=>
 B1 (az 2 (.ptr i0 0) h1) fun v2=>
 B2 (cf (.func (.func 177) [] []) [a0,v2] h1) fun v3 h4=>
 B1 (mH v3 (.int .i64 0)) fun v5=>
 some (v5,h4)
theorem ajD {a0 a1:AV}{H:Hp}{r:AV × Hp}(h:WH JN GO cK a0 a1 H=some r):cK (.func (.func 158) [] []) [a0,a1] H=some r:=aO (first:=[]) (cap:=[]) (aaK (by kernel_rfl) h)
noncomputable def WT (J:JT)(G:GT)(cf:CF)(a0 a1:AV)(H:Hp):R:=
 B2 (cf (.func (.func 163) [] []) [a0,a1] H) fun v0 h1=>
 B1 (mH v0 (.int .i64 0)) fun v2=>
 some (v2,h1)
theorem agm {a0 a1:AV}{H:Hp}{r:AV × Hp}(h:WT JN GO cK a0 a1 H=some r):cK (.func (.func 143) [] []) [a0,a1] H=some r:=aO (first:=[]) (cap:=[]) (aaK (by kernel_rfl) h)
noncomputable def LS (J:JT)(G:GT)(cf:CF)(j2:K.Fn 0)(j3:K.Fn 4)(x4 x5 x6 x7:AV)(h8:Hp):R:=
 B1 (bX x7 x6) fun v9=>
 CD v9 (
 J 4 (fun aX=>
 J 6 (fun nz=>
 B1 (ia 1 x4 x7) fun v12=>
 B1 (ld v12 h8) fun dV=>
 B2 (cf x5 [dV] h8) fun cN gY=>
 nz x4 x5 x7 x6 x7 cN gY) (fun aS bc aB aL bG aJ jw=>
 CD aJ (
 some (aB,jw)) (
 aX aS bc aL bG jw))) (fun bp bM bS dc eX=>
 B1 (bU dc (.int .i64 1)) fun v28=>
 j3 bp bM bS v28 eX)) (
 j2  h8)
noncomputable def HA (J:JT)(G:GT)(cf:CF)(j2:K.Fn 0):K.Fn 4:=dB P an J G cf 163 [1,0,1,0,0] [0,1,7,8] (fun q t H=>match Nat.beq q 0 with | true=>app 0 j2 (aw [] t) H | false=>(fun _ _ _=>none) q t H)
theorem Pq (cf:CF)(j2:K.Fn 0)(x4 x5 x6 x7:AV)(h8:Hp):HA JN GO cf j2 x4 x5 x6 x7 h8=LS JN GO cf j2 (HA JN GO cf j2) x4 x5 x6 x7 h8:=aaK (b:=app 4 (HA JN GO cf j2) [x4,x5,x6,x7] h8) (by kernel_rfl) ((dQ cf 163 [1,0,1,0,0] [0,1,7,8] _ [x4,x5,x6,x7] rfl h8).trans (by kernel_rfl))
noncomputable def X3 (J:JT)(G:GT)(cf:CF)(a0 a1:AV)(H:Hp):R:=
 J 0 (fun j0=>
 B1 (aK a0) fun v1=>
 J 0 (fun j2=>
 HA J G cf j2 a0 a1 v1 (.int .i64 0) H) (fun  dF=>
 j0  dF)) (fun  mi=>
 some ((.int .i64 (-1)),mi))
theorem ak1 {a0 a1:AV}{H:Hp}{r:AV × Hp}(h:X3 JN GO cK a0 a1 H=some r):cK (.func (.func 163) [] []) [a0,a1] H=some r:=aO (first:=[]) (cap:=[]) (aaK (by kernel_rfl) h)
noncomputable def P9 (J:JT)(G:GT)(cf:CF)(j2:K.Fn 0)(j3:K.Fn 4)(x4 x5 x6 x7:AV)(h8:Hp):R:=
 B1 (bX x7 x6) fun v9=>
 CD v9 (
 J 4 (fun aX=>
 J 6 (fun nz=>
 B1 (ia 1 x4 x7) fun v12=>
 B1 (ld v12 h8) fun dV=>
 B1 (cl x5 dV) fun cN=>
 nz x4 x5 x7 x6 x7 cN h8) (fun bu aS bc aB aL bG lA=>
 CD bG (
 some (bc,lA)) (
 aX bu aS aB aL lA))) (fun aE bp bM bS eg=>
 B1 (bU bS (.int .i64 1)) fun v27=>
 j3 aE bp bM v27 eg)) (
 j2  h8)
noncomputable def JZ (J:JT)(G:GT)(cf:CF)(j2:K.Fn 0):K.Fn 4:=dB P an J G cf 174 [1,0,1,0,0] [0,1,7,8] (fun q t H=>match Nat.beq q 0 with | true=>app 0 j2 (aw [] t) H | false=>(fun _ _ _=>none) q t H)
theorem W7 (cf:CF)(j2:K.Fn 0)(x4 x5 x6 x7:AV)(h8:Hp):JZ JN GO cf j2 x4 x5 x6 x7 h8=P9 JN GO cf j2 (JZ JN GO cf j2) x4 x5 x6 x7 h8:=aaK (b:=app 4 (JZ JN GO cf j2) [x4,x5,x6,x7] h8) (by kernel_rfl) ((dQ cf 174 [1,0,1,0,0] [0,1,7,8] _ [x4,x5,x6,x7] rfl h8).trans (by kernel_rfl))
noncomputable def aaV (J:JT)(G:GT)(cf:CF)(a0 a1:AV)(H:Hp):R:=
 J 0 (fun j0=>
 B1 (aK a0) fun v1=>
 J 0 (fun j2=>
 JZ J G cf j2 a0 a1 v1 (.int .i64 0) H) (fun  gQ=>
 j0  gQ)) (fun  dF=>
 some ((.int .i64 (-1)),dF))
theorem am6 {a0 a1:AV}{H:Hp}{r:AV × Hp}(h:aaV JN GO cK a0 a1 H=some r):cK (.func (.func 174) [] []) [a0,a1] H=some r:=aO (first:=[]) (cap:=[]) (aaK (by kernel_rfl) h)
noncomputable def afn (J:JT)(G:GT)(cf:CF)(a0 a1:AV)(H:Hp):R:=
 B2 (cf (.func (.func 174) [] []) [a0,a1] H) fun v0 h1=>
 B1 (mH v0 (.int .i64 0)) fun v2=>
 some (v2,h1)
theorem ajp {a0 a1:AV}{H:Hp}{r:AV × Hp}(h:afn JN GO cK a0 a1 H=some r):cK (.func (.func 154) [] []) [a0,a1] H=some r:=aO (first:=[]) (cap:=[]) (aaK (by kernel_rfl) h)
noncomputable def afy (J:JT)(G:GT)(cf:CF)(a0 a1:AV)(H:Hp):R:=
 B2 (cf (.func (.func 135) [] []) [a0,a1] H) fun v0 h1=>
 B1 (mH v0 (.int .i64 0)) fun v2=>
 some (v2,h1)
theorem aum {a0 a1:AV}{H:Hp}{r:AV × Hp}(h:afy JN GO cK a0 a1 H=some r):cK (.func (.func 95) [] []) [a0,a1] H=some r:=aO (first:=[]) (cap:=[]) (aaK (by kernel_rfl) h)
noncomputable def MQ (J:JT)(G:GT)(cf:CF)(j2:K.Fn 0)(j3:K.Fn 4)(x4 x5 x6 x7:AV)(h8:Hp):R:=
 B1 (bX x7 x6) fun v9=>
 CD v9 (
 J 4 (fun aX=>
 J 6 (fun nz=>
 B1 (ia 6 x4 x7) fun v12=>
 B1 (az 6 v12 h8) fun dV=>
 B2 (cf x5 [dV] h8) fun cN gY=>
 nz x4 x5 x7 x6 x7 cN gY) (fun aS bc aB aL bG aJ jw=>
 CD aJ (
 some (aB,jw)) (
 aX aS bc aL bG jw))) (fun bp bM bS dc eX=>
 B1 (bU dc (.int .i64 1)) fun v28=>
 j3 bp bM bS v28 eX)) (
 j2  h8)
noncomputable def I9 (J:JT)(G:GT)(cf:CF)(j2:K.Fn 0):K.Fn 4:=dB P an J G cf 135 [1,0,1,0,0] [0,1,7,8] (fun q t H=>match Nat.beq q 0 with | true=>app 0 j2 (aw [] t) H | false=>(fun _ _ _=>none) q t H)
theorem Vo (cf:CF)(j2:K.Fn 0)(x4 x5 x6 x7:AV)(h8:Hp):I9 JN GO cf j2 x4 x5 x6 x7 h8=MQ JN GO cf j2 (I9 JN GO cf j2) x4 x5 x6 x7 h8:=aaK (b:=app 4 (I9 JN GO cf j2) [x4,x5,x6,x7] h8) (by kernel_rfl) ((dQ cf 135 [1,0,1,0,0] [0,1,7,8] _ [x4,x5,x6,x7] rfl h8).trans (by kernel_rfl))
noncomputable def abn (J:JT)(G:GT)(cf:CF)(a0 a1:AV)(H:Hp):R:=
 J 0 (fun j0=>
 B1 (aK a0) fun v1=>
 J 0 (fun j2=>
 I9 J G cf j2 a0 a1 v1 (.int .i64 0) H) (fun  dF=>
 j0  dF)) (fun  mi=>
 some ((.int .i64 (-1)),mi))
theorem akh {a0 a1:AV}{H:Hp}{r:AV × Hp}(h:abn JN GO cK a0 a1 H=some r):cK (.func (.func 135) [] []) [a0,a1] H=some r:=aO (first:=[]) (cap:=[]) (aaK (by kernel_rfl) h)
noncomputable def Uo (J:JT)(G:GT)(cf:CF)(a0:AV)(H:Hp):R:=
 xc (gA P .eql 70 true a0 .ae) <| B1 (fe P .eql 70 a0 .ae H) fun v0=>
 CD v0 (
 some (.ae,H)) (
 B1 (fl [] []) fun l1=>
 BN (aC H l1 99 0) fun i2 h3=>
 B2 (eV 99 6 [(.str []),.ae,(.int .i64 0),(.int .i64 0),(.int .i64 0),(.str [])] false (.slice i2 0 0 0 true 6) a0 h3) fun v4 h5=>
 some (v4,h5))
theorem ZV {a0:AV}{H:Hp}{r:AV × Hp}(h:Uo JN GO cK a0 H=some r):cK (.func (.func 136) [] []) [a0] H=some r:=aO (first:=[]) (cap:=[]) (aaK (by kernel_rfl) h)
noncomputable def Qt (J:JT)(G:GT)(cf:CF)(a0:AV)(H:Hp):R:=
 xc (gA P .eql 97 true a0 .ae) <| B1 (fe P .eql 97 a0 .ae H) fun v0=>
 CD v0 (
 some (.ae,H)) (
 B1 (fl [] []) fun l1=>
 BN (aC H l1 3 0) fun i2 h3=>
 B2 (eV 3 1 [(.int .i64 0)] false (.slice i2 0 0 0 true 1) a0 h3) fun v4 h5=>
 some (v4,h5))
theorem adl {a0:AV}{H:Hp}{r:AV × Hp}(h:Qt JN GO cK a0 H=some r):cK (.func (.func 137) [] []) [a0] H=some r:=aO (first:=[]) (cap:=[]) (aaK (by kernel_rfl) h)
noncomputable def Sx (J:JT)(G:GT)(cf:CF)(a0:AV)(H:Hp):R:=
 xc (gA P .eql 73 true a0 .ae) <| B1 (fe P .eql 73 a0 .ae H) fun v0=>
 CD v0 (
 some (.ae,H)) (
 B1 (fl [] []) fun l1=>
 BN (aC H l1 132 0) fun i2 h3=>
 B2 (eV 132 4 [(.int .i64 0),(.int .i64 0),(.int .i64 0),(.str [])] false (.slice i2 0 0 0 true 4) a0 h3) fun v4 h5=>
 some (v4,h5))
theorem XN {a0:AV}{H:Hp}{r:AV × Hp}(h:Sx JN GO cK a0 H=some r):cK (.func (.func 138) [] []) [a0] H=some r:=aO (first:=[]) (cap:=[]) (aaK (by kernel_rfl) h)
noncomputable def QP (J:JT)(G:GT)(cf:CF)(a0:AV)(H:Hp):R:=
 xc (gA P .eql 46 true a0 .ae) <| B1 (fe P .eql 46 a0 .ae H) fun v0=>
 CD v0 (
 some (.ae,H)) (
 B1 (fl [] []) fun l1=>
 BN (aC H l1 9 0) fun i2 h3=>
 B2 (eV 9 1 [(.str [])] false (.slice i2 0 0 0 true 1) a0 h3) fun v4 h5=>
 some (v4,h5))
theorem XX {a0:AV}{H:Hp}{r:AV × Hp}(h:QP JN GO cK a0 H=some r):cK (.func (.func 30) [] []) [a0] H=some r:=aO (first:=[]) (cap:=[]) (aaK (by kernel_rfl) h)
noncomputable def Qz (J:JT)(G:GT)(cf:CF)(bY:K.Fn 0)(gu:K.Fn 4)(aS bc aB aL:AV)(cC:Hp):R:=
 B1 (bX aL aB) fun v21=>
 CD v21 (
 J 4 (fun sY=>
 J 5 (fun ec=>
 B1 (ia 1 aS aL) fun v24=>
 B1 (ld v24 cC) fun v25=>
 B1 (ia 1 bc aL) fun v26=>
 B1 (ld v26 cC) fun v27=>
 B1 (eT v25 v27) fun v28=>
 ec aS bc aB aL v28 cC) (fun cP cn bP eD cO gE=>
 CD cO (
 some ((.bool false),gE)) (
 sY cP cn bP eD gE))) (fun bZ bw bI bQ kc=>
 B1 (bU bQ (.int .i64 1)) fun v40=>
 gu bZ bw bI v40 kc)) (
 bY  cC)
noncomputable def Gw (J:JT)(G:GT)(cf:CF)(bY:K.Fn 0):K.Fn 4:=dB P an J G cf 72 [1,1,0,1,0,0] [0,1,12,13] (fun q t H=>match Nat.beq q 0 with | true=>app 0 bY (aw [] t) H | false=>(fun _ _ _=>none) q t H)
theorem ae9 (cf:CF)(bY:K.Fn 0)(aS bc aB aL:AV)(cC:Hp):Gw JN GO cf bY aS bc aB aL cC=Qz JN GO cf bY (Gw JN GO cf bY) aS bc aB aL cC:=aaK (b:=app 4 (Gw JN GO cf bY) [aS,bc,aB,aL] cC) (by kernel_rfl) ((dQ cf 72 [1,1,0,1,0,0] [0,1,12,13] _ [aS,bc,aB,aL] rfl cC).trans (by kernel_rfl))
noncomputable def VI (J:JT)(G:GT)(cf:CF)(a0 a1:AV)(H:Hp):R:=
 J 2 (fun j0=>
 J 3 (fun j1=>
 B1 (aK a0) fun v2=>
 B1 (aK a1) fun v3=>
 B1 (eT v2 v3) fun v4=>
 j1 a0 a1 v4 H) (fun x5 x6 x7 h8=>
 CD x7 (
 some ((.bool false),h8)) (
 j0 x5 x6 h8))) (fun x9 cZ gq=>
 J 0 (fun cG=>
 B1 (aK x9) fun dV=>
 J 0 (fun bY=>
 Gw J G cf bY x9 cZ dV (.int .i64 0) gq) (fun  dH=>
 cG  dH)) (fun  dW=>
 some ((.bool true),dW)))
theorem ag5 {a0 a1:AV}{H:Hp}{r:AV × Hp}(h:VI JN GO cK a0 a1 H=some r):cK (.func (.func 72) [] []) [a0,a1] H=some r:=aO (first:=[]) (cap:=[]) (aaK (by kernel_rfl) h)
noncomputable def ND (J:JT)(G:GT)(cf:CF)(bY:K.Fn 0)(gu:K.Fn 4)(aS bc aB aL:AV)(cC:Hp):R:=
 B1 (bX aL aB) fun v21=>
 CD v21 (
 J 4 (fun sY=>
 J 5 (fun ec=>
 B1 (ia 4 aS aL) fun v24=>
 B1 (az 4 v24 cC) fun v25=>
 B1 (ia 4 bc aL) fun v26=>
 B1 (az 4 v26 cC) fun v27=>
 xc (gA P .neq 132 false v25 v27) <| B1 (fe P .neq 132 v25 v27 cC) fun v28=>
 ec aS bc aB aL v28 cC) (fun cP cn bP eD cO gE=>
 CD cO (
 some ((.bool false),gE)) (
 sY cP cn bP eD gE))) (fun bZ bw bI bQ kc=>
 B1 (bU bQ (.int .i64 1)) fun v40=>
 gu bZ bw bI v40 kc)) (
 bY  cC)
noncomputable def GQ (J:JT)(G:GT)(cf:CF)(bY:K.Fn 0):K.Fn 4:=dB P an J G cf 73 [1,1,0,1,0,0] [0,1,12,13] (fun q t H=>match Nat.beq q 0 with | true=>app 0 bY (aw [] t) H | false=>(fun _ _ _=>none) q t H)
theorem aa4 (cf:CF)(bY:K.Fn 0)(aS bc aB aL:AV)(cC:Hp):GQ JN GO cf bY aS bc aB aL cC=ND JN GO cf bY (GQ JN GO cf bY) aS bc aB aL cC:=aaK (b:=app 4 (GQ JN GO cf bY) [aS,bc,aB,aL] cC) (by kernel_rfl) ((dQ cf 73 [1,1,0,1,0,0] [0,1,12,13] _ [aS,bc,aB,aL] rfl cC).trans (by kernel_rfl))
noncomputable def ZA (J:JT)(G:GT)(cf:CF)(a0 a1:AV)(H:Hp):R:=
 J 2 (fun j0=>
 J 3 (fun j1=>
 B1 (aK a0) fun v2=>
 B1 (aK a1) fun v3=>
 B1 (eT v2 v3) fun v4=>
 j1 a0 a1 v4 H) (fun x5 x6 x7 h8=>
 CD x7 (
 some ((.bool false),h8)) (
 j0 x5 x6 h8))) (fun x9 cZ gq=>
 J 0 (fun cG=>
 B1 (aK x9) fun dV=>
 J 0 (fun bY=>
 GQ J G cf bY x9 cZ dV (.int .i64 0) gq) (fun  dH=>
 cG  dH)) (fun  dW=>
 some ((.bool true),dW)))
theorem alw {a0 a1:AV}{H:Hp}{r:AV × Hp}(h:ZA JN GO cK a0 a1 H=some r):cK (.func (.func 73) [] []) [a0,a1] H=some r:=aO (first:=[]) (cap:=[]) (aaK (by kernel_rfl) h)
noncomputable def Q2 (J:JT)(G:GT)(cf:CF)(bY:K.Fn 0)(gu:K.Fn 4)(aS bc aB aL:AV)(cC:Hp):R:=
 B1 (bX aL aB) fun v21=>
 CD v21 (
 J 4 (fun sY=>
 J 5 (fun ec=>
 B1 (ia 1 aS aL) fun v24=>
 B1 (ld v24 cC) fun v25=>
 B1 (ia 1 bc aL) fun v26=>
 B1 (ld v26 cC) fun v27=>
 B1 (qL v25 v27) fun v28=>
 ec aS bc aB aL v28 cC) (fun cP cn bP eD cO gE=>
 CD cO (
 some ((.bool false),gE)) (
 sY cP cn bP eD gE))) (fun bZ bw bI bQ kc=>
 B1 (bU bQ (.int .i64 1)) fun v40=>
 gu bZ bw bI v40 kc)) (
 bY  cC)
noncomputable def HN (J:JT)(G:GT)(cf:CF)(bY:K.Fn 0):K.Fn 4:=dB P an J G cf 74 [1,1,0,1,0,0] [0,1,12,13] (fun q t H=>match Nat.beq q 0 with | true=>app 0 bY (aw [] t) H | false=>(fun _ _ _=>none) q t H)
theorem XS (cf:CF)(bY:K.Fn 0)(aS bc aB aL:AV)(cC:Hp):HN JN GO cf bY aS bc aB aL cC=Q2 JN GO cf bY (HN JN GO cf bY) aS bc aB aL cC:=aaK (b:=app 4 (HN JN GO cf bY) [aS,bc,aB,aL] cC) (by kernel_rfl) ((dQ cf 74 [1,1,0,1,0,0] [0,1,12,13] _ [aS,bc,aB,aL] rfl cC).trans (by kernel_rfl))
noncomputable def aby (J:JT)(G:GT)(cf:CF)(a0 a1:AV)(H:Hp):R:=
 J 2 (fun j0=>
 J 3 (fun j1=>
 B1 (aK a0) fun v2=>
 B1 (aK a1) fun v3=>
 B1 (eT v2 v3) fun v4=>
 j1 a0 a1 v4 H) (fun x5 x6 x7 h8=>
 CD x7 (
 some ((.bool false),h8)) (
 j0 x5 x6 h8))) (fun x9 cZ gq=>
 J 0 (fun cG=>
 B1 (aK x9) fun dV=>
 J 0 (fun bY=>
 HN J G cf bY x9 cZ dV (.int .i64 0) gq) (fun  dH=>
 cG  dH)) (fun  dW=>
 some ((.bool true),dW)))
theorem alD {a0 a1:AV}{H:Hp}{r:AV × Hp}(h:aby JN GO cK a0 a1 H=some r):cK (.func (.func 74) [] []) [a0,a1] H=some r:=aO (first:=[]) (cap:=[]) (aaK (by kernel_rfl) h)
noncomputable def Hc (J:JT)(G:GT)(cf:CF)(aP:K.Fn 0)(jq:K.Fn 5)(aB aL bG aJ aE:AV)(bB:Hp):R:=
 B1 (bX aE aJ) fun v24=>
 CD v24 (
 J 5 (fun zo=>
 J 7 (fun zG=>
 B1 (ia 6 bG aE) fun v27=>
 B1 (az 6 v27 bB) fun v28=>
 BN (aC bB [(.str []),.ae,(.int .i64 0),(.int .i64 0),(.int .i64 0),(.str [])] 99 0) fun i29 mi=>
 B1 (st 6 (.ptr i29 0) v28 mi) fun gf=>
 zG aB aL aE (.ptr i29 0) bG aJ aE gf) (fun eD cO dq bZ bw bI bQ kc=>
 J 7 (fun sU=>
 B1 (ia 6 eD dq) fun v41=>
 B1 (az 6 v41 kc) fun eM=>
 BN (aC kc [(.str []),.ae,(.int .i64 0),(.int .i64 0),(.int .i64 0),(.str [])] 99 0) fun i43 e8=>
 B1 (st 6 (.ptr i43 0) eM e8) fun jF=>
 sU eD cO bZ (.ptr i43 0) bw bI bQ jF) (fun fV hJ ir kT mU ml gD fT=>
 J 6 (fun jh=>
 B1 (az 6 ir fT) fun gH=>
 B1 (az 6 kT fT) fun kN=>
 B2 (cf hJ [gH,kN] fT) fun v57 iG=>
 B1 (eu .not v57) fun v59=>
 jh fV hJ mU ml gD v59 iG) (fun eh dL jD iw fX fO eI=>
 CD fO (
 some ((.bool false),eI)) (
 zo eh dL jD iw fX eI))))) (fun jf gU jz jO pV me=>
 B1 (bU pV (.int .i64 1)) fun jo=>
 jq jf gU jz jO jo me)) (
 aP  bB)
noncomputable def Jg (J:JT)(G:GT)(cf:CF)(aP:K.Fn 0):K.Fn 5:=dB P an J G cf 75 [1,1,0,1,0,0] [1,2,15,16,17] (fun q t H=>match Nat.beq q 0 with | true=>app 0 aP (aw [] t) H | false=>(fun _ _ _=>none) q t H)
theorem aoV (J:JT)(G:GT)(cf:CF)(aP:K.Fn 0)(jq:K.Fn 5)(aB aL bG aJ aE:AV)(bB:Hp):jb P an J G cf 75 [1,1,0,1,0,0] [1,2,15,16,17] (fun q t H=>match Nat.beq q 0 with | true=>app 0 aP (aw [] t) H | false=>(fun _ _ _=>none) q t H) jq [aB,aL,bG,aJ,aE] bB=Hc J G cf aP jq aB aL bG aJ aE bB:=by kernel_rfl
theorem TZ (cf:CF)(aP:K.Fn 0)(aB aL bG aJ aE:AV)(bB:Hp):Jg JN GO cf aP aB aL bG aJ aE bB=Hc JN GO cf aP (Jg JN GO cf aP) aB aL bG aJ aE bB:=aaK (b:=app 5 (Jg JN GO cf aP) [aB,aL,bG,aJ,aE] bB) (by kernel_rfl) ((dQ cf _ _ _ _ [aB,aL,bG,aJ,aE] rfl bB).trans (aoV JN GO cf aP _ aB aL bG aJ aE bB))
noncomputable def OJ (J:JT)(G:GT)(cf:CF)(a0 a1 a2:AV)(H:Hp):R:=
 J 3 (fun j0=>
 J 4 (fun j1=>
 B1 (aK a0) fun v2=>
 B1 (aK a1) fun v3=>
 B1 (eT v2 v3) fun v4=>
 j1 a0 a1 a2 v4 H) (fun x5 x6 x7 x8 h9=>
 CD x8 (
 some ((.bool false),h9)) (
 j0 x5 x6 x7 h9))) (fun cZ bO bF eR=>
 J 0 (fun bY=>
 B1 (aK cZ) fun dZ=>
 J 0 (fun aP=>
 Jg J G cf aP bO bF cZ dZ (.int .i64 0) eR) (fun  wK=>
 bY  wK)) (fun  nB=>
 some ((.bool true),nB)))
theorem anf (J:JT)(G:GT)(cf:CF)(a0 a1 a2:AV)(H:Hp):fB P J G aR an cf 75 [a0,a1,a2] H=OJ J G cf a0 a1 a2 H:=by kernel_rfl
theorem adJ {a0 a1 a2:AV}{H:Hp}{r:AV × Hp}(h:OJ JN GO cK a0 a1 a2 H=some r):cK (.func (.func 75) [] []) [a0,a1,a2] H=some r:=aO (first:=[]) (cap:=[]) ((anf JN GO _ a0 a1 a2 H).trans h)
noncomputable def MB (J:JT)(G:GT)(cf:CF)(db:K.Fn 0)(gF:K.Fn 5)(cO dq bZ bw bI:AV)(eW:Hp):R:=
 B1 (bX bI bw) fun eJ=>
 CD eJ (
 J 5 (fun sU=>
 B1 (ia 2 bZ bI) fun v41=>
 B1 (az 2 v41 eW) fun eM=>
 BN (aC eW [(.int .i64 0),(.int .i64 0)] 231 0) fun i43 e8=>
 B1 (st 2 (.ptr i43 0) eM e8) fun jF=>
 J 6 (fun Tu=>
 J 7 (fun zF=>
 B1 (az 2 cO jF) fun fS=>
 B1 (pj 2 1 (.ptr i43 0) (.int .i64 0)) fun v49=>
 B1 (ld v49 jF) fun fN=>
 B2 (cf (.func (.func 175) [] []) [fS,fN] jF) fun v51 tE=>
 B1 (eu .not v51) fun v53=>
 G v53 false (fun k54=>
 B1 (az 2 cO tE) fun gH=>
 k54 gH tE) (fun kN oW=>
 G v53 false (fun PC=>
 B1 (pj 2 1 (.ptr i43 0) (.int .i64 1)) fun v59=>
 PC v59 oW) (fun fW jj=>
 G v53 false (fun k62=>
 B1 (ld fW jj) fun v63=>
 k62 v63 jj) (fun v64 oh=>
 G v53 false (fun Vs=>
 B2 (cf (.func (.func 175) [] []) [kN,v64] oh) fun lX yC=>
 Vs lX yC) (fun mT qo=>
 G v53 false (fun Pr=>
 B1 (eu .not mT) fun v72=>
 Pr v72 qo) (fun jo wK=>
 B1 (pk v53 (.bool true) jo) fun v75=>
 G v75 false (fun k76=>
 B1 (pj 2 1 (.ptr i43 0) (.int .i64 0)) fun vd=>
 k76 vd wK) (fun qh iY=>
 G v75 false (fun JV=>
 B1 (ld qh iY) fun kE=>
 JV kE iY) (fun mS qG=>
 G v75 false (fun GH=>
 B1 (pj 2 1 (.ptr i43 0) (.int .i64 1)) fun v85=>
 GH v85 qG) (fun sK nh=>
 G v75 false (fun G3=>
 B1 (ld sK nh) fun tI=>
 G3 tI nh) (fun pE wh=>
 G v75 false (fun Pg=>
 B1 (cl mS pE) fun v93=>
 Pg v93 wh) (fun tn iC=>
 B1 (pk v75 (.bool true) tn) fun lF=>
 G lF false (fun PU=>
 PU dq iC) (fun xE JA=>
 G lF false (fun atd=>
 B1 (az 2 (.ptr i43 0) JA) fun yq=>
 atd yq JA) (fun uo mz=>
 G lF false (fun PF=>
 B1 (rH P 248 xE uo false mz) fun v105=>
 PF v105 mz) (fun Ac GA=>
 B1 (pk lF (.bool true) Ac) fun vD=>
 zF cO dq (.ptr i43 0) bZ bw bI vD GA) mz) JA) iC) wh) nh) qG) iY) wK) qo) oh) jj) oW) tE) (fun kW lj mq iW ig mQ oz zQ=>
 CD oz (
 some ((.bool false),zQ)) (
 Tu kW lj mq iW ig mQ zQ))) (fun De wS rO qN tR tH Aq=>
 B1 (az 2 rO Aq) fun v124=>
 B1 (pZ P 248 wS v124 (.bool true) Aq) fun zY=>
 sU De wS qN tR tH zY)) (fun jk gW il jK jx Fh=>
 B1 (bU jx (.int .i64 1)) fun Fw=>
 gF jk gW il jK Fw Fh)) (
 db  eW)
noncomputable def Ka (J:JT)(G:GT)(cf:CF)(db:K.Fn 0):K.Fn 5:=dB P an J G cf 155 [1,1,1,0,1,0,0] [1,3,16,17,18] (fun q t H=>match Nat.beq q 0 with | true=>app 0 db (aw [] t) H | false=>(fun _ _ _=>none) q t H)
theorem aj8 (J:JT)(G:GT)(cf:CF)(db:K.Fn 0)(gF:K.Fn 5)(cO dq bZ bw bI:AV)(eW:Hp):jb P an J G cf 155 [1,1,1,0,1,0,0] [1,3,16,17,18] (fun q t H=>match Nat.beq q 0 with | true=>app 0 db (aw [] t) H | false=>(fun _ _ _=>none) q t H) gF [cO,dq,bZ,bw,bI] eW=MB J G cf db gF cO dq bZ bw bI eW:=by kernel_rfl
theorem VN (cf:CF)(db:K.Fn 0)(cO dq bZ bw bI:AV)(eW:Hp):Ka JN GO cf db cO dq bZ bw bI eW=MB JN GO cf db (Ka JN GO cf db) cO dq bZ bw bI eW:=aaK (b:=app 5 (Ka JN GO cf db) [cO,dq,bZ,bw,bI] eW) (by kernel_rfl) ((dQ cf _ _ _ _ [cO,dq,bZ,bw,bI] rfl eW).trans (aj8 JN GO cf db _ cO dq bZ bw bI eW))
noncomputable def Pw (J:JT)(G:GT)(cf:CF)(a0:AV)(H:Hp):R:=
 BN (bx 201 a0 H) fun i0 h1=>
 J 1 (fun j2=>
 J 2 (fun j3=>
 B1 (fa 0 (.ptr i0 0)) fun v4=>
 B1 (ld v4 h1) fun v5=>
 B1 (bX v5 (.int .i64 0)) fun v6=>
 G v6 false (fun k7=>
 B1 (fa 0 (.ptr i0 0)) fun v8=>
 k7 v8 h1) (fun v9 cL=>
 G v6 false (fun JF=>
 B1 (ld v9 cL) fun v12=>
 JF v12 cL) (fun dV ki=>
 G v6 false (fun Cn=>
 B1 (jA dV (.int .i64 16)) fun dN=>
 Cn dN ki) (fun fG ik=>
 B1 (pk v6 (.bool true) fG) fun eZ=>
 j3 (.ptr i0 0) eZ ik) ki) cL) h1) (fun bG aJ jw=>
 CD aJ (
 some ((.bool false),jw)) (
 j2 bG jw))) (fun bp ic=>
 BN (zW ic) fun i25 eg=>
 J 0 (fun gM=>
 B1 (fa 1 bp) fun v28=>
 B1 (ld v28 eg) fun v29=>
 B1 (aK v29) fun v30=>
 J 0 (fun db=>
 Ka J G cf db bp (.map i25) v29 v30 (.int .i64 0) eg) (fun  lR=>
 gM  lR)) (fun  tt=>
 some ((.bool true),tt)))
theorem alH (J:JT)(G:GT)(cf:CF)(a0:AV)(H:Hp):fB P J G aR an cf 155 [a0] H=Pw J G cf a0 H:=by kernel_rfl
theorem apB {a0:AV}{H:Hp}{r:AV × Hp}(h:Pw JN GO cK a0 H=some r):cK (.func (.func 155) [] []) [a0] H=some r:=aO (first:=[]) (cap:=[]) ((alH JN GO _ a0 H).trans h)
noncomputable def abR (J:JT)(G:GT)(cf:CF)(a0 a1:AV)(H:Hp):R:=
 BN (bx 201 a0 H) fun i0 h1=>
 B1 (mH a1 (.int .i64 0)) fun v2=>
 G v2 true (fun k3=>
 k3 a1 h1) (fun v4 h5=>
 G v2 true (fun k6=>
 B1 (fa 0 (.ptr i0 0)) fun v7=>
 k6 v7 h5) (fun v8 h9=>
 G v2 true (fun xn=>
 B1 (ld v8 h9) fun v11=>
 xn v11 h9) (fun v12 eR=>
 G v2 true (fun zZ=>
 B1 (bX v4 v12) fun dZ=>
 zZ dZ eR) (fun dN dO=>
 B1 (pk v2 dN (.bool false)) fun dA=>
 some (dA,dO)) eR) h9) h5) h1
theorem ajf {a0 a1:AV}{H:Hp}{r:AV × Hp}(h:abR JN GO cK a0 a1 H=some r):cK (.func (.func 175) [] []) [a0,a1] H=some r:=aO (first:=[]) (cap:=[]) (aaK (by kernel_rfl) h)
noncomputable def Fx (J:JT)(G:GT)(cf:CF)(aX:K.Fn 1)(nz:K.Fn 6)(bF br bH bu aS bc:AV)(ik:Hp):R:=
 B1 (bX bc aS) fun eZ=>
 CD eZ (
 J 6 (fun aD=>
 J 6 (fun eQ=>
 B1 (ia 2 bu bc) fun v22=>
 B1 (az 2 v22 ik) fun v23=>
 BN (aC ik [(.int .i64 0),(.int .i64 0)] 231 0) fun i24 dP=>
 B1 (st 2 (.ptr i24 0) v23 dP) fun eg=>
 J 8 (fun gM=>
 B1 (pj 2 1 (.ptr i24 0) br) fun v28=>
 B1 (ld v28 eg) fun v29=>
 B1 (cl v29 bF) fun v30=>
 gM bF br bH (.ptr i24 0) bu aS bc v30 eg) (fun bP eD cO dq bZ bw bI bQ kc=>
 CD bQ (
 B1 (nW (.int .i64 1) eD) fun v40=>
 B1 (pj 2 1 dq v40) fun v41=>
 B1 (ld v41 kc) fun eM=>
 B1 (fl [(.int .i64 0)] [(0,1,eM)]) fun l43=>
 BN (aC kc l43 3 0) fun i44 jF=>
 B2 (eV 3 1 [(.int .i64 0)] false cO (.slice i44 0 1 1 true 1) jF) fun v46 mo=>
 eQ bP eD v46 bZ bw bI mo) (
 eQ bP eD cO bZ bw bI kc))) (fun ir kT mU ml gD jE nu=>
 aD ir kT mU ml gD jE nu)) (fun fR ep eN fj eA eh jj=>
 B1 (bU eh (.int .i64 1)) fun iE=>
 nz fR ep eN fj eA iE jj)) (
 aX bH ik)
noncomputable def IY (J:JT)(G:GT)(cf:CF)(aX:K.Fn 1):K.Fn 6:=dB P an J G cf 176 [1,1,1,0,1,0,0] [1,2,7,14,15,16] (fun q t H=>match Nat.beq q 0 with | true=>app 1 aX (aw [7] t) H | false=>(fun _ _ _=>none) q t H)
theorem RX (cf:CF)(aX:K.Fn 1)(bF br bH bu aS bc:AV)(ik:Hp):IY JN GO cf aX bF br bH bu aS bc ik=Fx JN GO cf aX (IY JN GO cf aX) bF br bH bu aS bc ik:=aaK (b:=app 6 (IY JN GO cf aX) [bF,br,bH,bu,aS,bc] ik) (by kernel_rfl) ((dQ cf 176 [1,1,1,0,1,0,0] [1,2,7,14,15,16] _ [bF,br,bH,bu,aS,bc] rfl ik).trans (by kernel_rfl))
noncomputable def Xp (J:JT)(G:GT)(cf:CF)(a0 a1 a2:AV)(H:Hp):R:=
 BN (bx 201 a0 H) fun i0 h1=>
 B1 (az 2 (.ptr i0 0) h1) fun v2=>
 B2 (cf (.func (.func 155) [] []) [v2] h1) fun v3 h4=>
 B1 (eu .not v3) fun v5=>
 CD v5 (
 some (.ae,h4)) (
 J 1 (fun j6=>
 B1 (fa 1 (.ptr i0 0)) fun v7=>
 B1 (ld v7 h4) fun v8=>
 B1 (aK v8) fun v9=>
 J 1 (fun aX=>
 IY J G cf aX a1 a2 .ae v8 v9 (.int .i64 0) h4) (fun iw pW=>
 j6 iw pW)) (fun fO eI=>
 B2 (cf (.func (.func 192) [] []) [fO] eI) fun lX yC=>
 some (fO,yC)))
theorem awM {a0 a1 a2:AV}{H:Hp}{r:AV × Hp}(h:Xp JN GO cK a0 a1 a2 H=some r):cK (.func (.func 176) [] []) [a0,a1,a2] H=some r:=aO (first:=[]) (cap:=[]) (aaK (by kernel_rfl) h)
noncomputable def afd (J:JT)(G:GT)(cf:CF)(a0 a1:AV)(H:Hp):R:=
 BN (bx 201 a0 H) fun i0 h1=>
 B1 (az 2 (.ptr i0 0) h1) fun v2=>
 B2 (cf (.func (.func 176) [] []) [v2,a1,(.int .i64 0)] h1) fun v3 h4=>
 some (v3,h4)
theorem avU {a0 a1:AV}{H:Hp}{r:AV × Hp}(h:afd JN GO cK a0 a1 H=some r):cK (.func (.func 157) [] []) [a0,a1] H=some r:=aO (first:=[]) (cap:=[]) (aaK (by kernel_rfl) h)
noncomputable def JM (J:JT)(G:GT)(cf:CF)(aX:K.Fn 1)(aD:K.Fn 4)(ec:K.Fn 4)(dI:K.Fn 7)(jh:K.Fn 7)(zT:K.Fn 10)(ep eN fj eA eh dL jD iw fX fO:AV)(eI:Hp):R:=
 B1 (bX fO fX) fun lX=>
 CD lX (
 J 10 (fun Qk=>
 J 10 (fun MW=>
 B1 (ia 1 iw fO) fun v70=>
 B1 (ld v70 eI) fun qc=>
 J 12 (fun se=>
 B1 (ia 1 eN qc) fun jo=>
 B1 (ld jo eI) fun kV=>
 B1 (cl kV (.int .i64 0)) fun v75=>
 se ep eN fj eA qc eh dL jD iw fX fO v75 eI) (fun gN fQ fL rT qw sW uu nU pg qg oX wq AD=>
 CD wq (
 J 11 (fun Ea=>
 B1 (ia 1 fQ qw) fun pE=>
 B1 (st 1 pE fL AD) fun wh=>
 Ea gN fQ fL rT qw sW uu nU pg qg oX wh) (fun iZ jI iQ qd vq ux vj nR sH pJ ua mz=>
 B1 (fl [(.int .i64 0)] [(0,1,vq)]) fun QB=>
 BN (aC mz QB 3 0) fun i105 Dw=>
 B2 (eV 3 1 [(.int .i64 0)] false qd (.slice i105 0 1 1 true 1) Dw) fun v107 Mz=>
 MW iZ jI iQ v107 ux vj nR sH pJ ua Mz)) (
 MW gN fQ fL rT sW uu nU pg qg oX AD))) (fun kW lj mq iW ig mQ oz mY De wS P4=>
 Qk kW lj mq iW ig mQ oz mY De wS P4)) (fun qN tR tH yY yO I7 jk gW il jK PH=>
 B1 (bU jK (.int .i64 1)) fun v131=>
 zT qN tR tH yY yO I7 jk gW il v131 PH)) (
 jh ep eN fj eA eh dL jD eI)
noncomputable def GL (J:JT)(G:GT)(cf:CF)(aX:K.Fn 1)(aD:K.Fn 4)(ec:K.Fn 4)(dI:K.Fn 7)(jh:K.Fn 7):K.Fn 10:=dB P an J G cf 156 [1,1,1,0,1,0,0,1,0,0,1,0,1,0,0,1,1,0,0,1,1,0,0] [2,5,7,8,23,24,25,31,32,33] (fun q t H=>match Nat.beq q 4 with | true=>app 7 jh (aw [2,5,7,8,23,24,25] t) H | false=>(fun q t H=>match Nat.beq q 3 with | true=>app 7 dI (aw [2,5,7,8,23,24,25] t) H | false=>(fun q t H=>match Nat.beq q 2 with | true=>app 4 ec (aw [2,5,7,8] t) H | false=>(fun q t H=>match Nat.beq q 1 with | true=>app 4 aD (aw [2,5,6,7] t) H | false=>(fun q t H=>match Nat.beq q 0 with | true=>app 1 aX (aw [5] t) H | false=>(fun _ _ _=>none) q t H) q t H) q t H) q t H) q t H)
theorem amZ (J:JT)(G:GT)(cf:CF)(aX:K.Fn 1)(aD:K.Fn 4)(ec:K.Fn 4)(dI:K.Fn 7)(jh:K.Fn 7)(zT:K.Fn 10)(ep eN fj eA eh dL jD iw fX fO:AV)(eI:Hp):jb P an J G cf 156 [1,1,1,0,1,0,0,1,0,0,1,0,1,0,0,1,1,0,0,1,1,0,0] [2,5,7,8,23,24,25,31,32,33] (fun q t H=>match Nat.beq q 4 with | true=>app 7 jh (aw [2,5,7,8,23,24,25] t) H | false=>(fun q t H=>match Nat.beq q 3 with | true=>app 7 dI (aw [2,5,7,8,23,24,25] t) H | false=>(fun q t H=>match Nat.beq q 2 with | true=>app 4 ec (aw [2,5,7,8] t) H | false=>(fun q t H=>match Nat.beq q 1 with | true=>app 4 aD (aw [2,5,6,7] t) H | false=>(fun q t H=>match Nat.beq q 0 with | true=>app 1 aX (aw [5] t) H | false=>(fun _ _ _=>none) q t H) q t H) q t H) q t H) q t H) zT [ep,eN,fj,eA,eh,dL,jD,iw,fX,fO] eI=JM J G cf aX aD ec dI jh zT ep eN fj eA eh dL jD iw fX fO eI:=by kernel_rfl
theorem UR (cf:CF)(aX:K.Fn 1)(aD:K.Fn 4)(ec:K.Fn 4)(dI:K.Fn 7)(jh:K.Fn 7)(ep eN fj eA eh dL jD iw fX fO:AV)(eI:Hp):GL JN GO cf aX aD ec dI jh ep eN fj eA eh dL jD iw fX fO eI=JM JN GO cf aX aD ec dI jh (GL JN GO cf aX aD ec dI jh) ep eN fj eA eh dL jD iw fX fO eI:=aaK (b:=app 10 (GL JN GO cf aX aD ec dI jh) [ep,eN,fj,eA,eh,dL,jD,iw,fX,fO] eI) (by kernel_rfl) ((dQ cf _ _ _ _ [ep,eN,fj,eA,eh,dL,jD,iw,fX,fO] rfl eI).trans (amZ JN GO cf aX aD ec dI jh _ ep eN fj eA eh dL jD iw fX fO eI))
noncomputable def Tn (J:JT)(G:GT)(cf:CF)(aX:K.Fn 1)(aD:K.Fn 4)(ec:K.Fn 4)(U0:K.Fn 7)(bS dc cY dT cP cn bP:AV)(cW:Hp):R:=
 B1 (bX bP cn) fun fC=>
 CD fC (
 J 7 (fun ju=>
 J 7 (fun dI=>
 B1 (ia 1 cP bP) fun v36=>
 B1 (ld v36 cW) fun v37=>
 J 10 (fun S5=>
 B1 (az 2 bS cW) fun eJ=>
 B2 (cf (.func (.func 157) [] []) [eJ,v37] cW) fun v40 dH=>
 B1 (aK v40) fun eM=>
 S5 bS dc cY dT cP cn bP v40 eM (.int .i64 0) dH) (fun dY gX fy fV hJ ir kT mU ml gD fT=>
 J 7 (fun jh=>
 GL J G cf aX aD ec dI jh dY gX fy fV hJ ir kT mU ml gD fT) (fun ji sA zC sX lC my nj wE=>
 dI ji sA zC sX lC my nj wE))) (fun pM G4 UL arM Jq HQ MY ajM=>
 ju pM G4 UL arM Jq HQ MY ajM)) (fun BX Aw zD pF oQ w8 vR LB=>
 B1 (bU vR (.int .i64 1)) fun Ht=>
 U0 BX Aw zD pF oQ w8 Ht LB)) (
 ec bS dc cY dT cW)
noncomputable def I3 (J:JT)(G:GT)(cf:CF)(aX:K.Fn 1)(aD:K.Fn 4)(ec:K.Fn 4):K.Fn 7:=dB P an J G cf 156 [1,1,1,0,1,0,0,1,0,0,1,0,1,0,0] [2,5,7,8,23,24,25] (fun q t H=>match Nat.beq q 2 with | true=>app 4 ec (aw [2,5,7,8] t) H | false=>(fun q t H=>match Nat.beq q 1 with | true=>app 4 aD (aw [2,5,6,7] t) H | false=>(fun q t H=>match Nat.beq q 0 with | true=>app 1 aX (aw [5] t) H | false=>(fun _ _ _=>none) q t H) q t H) q t H)
theorem ad8 (cf:CF)(aX:K.Fn 1)(aD:K.Fn 4)(ec:K.Fn 4)(bS dc cY dT cP cn bP:AV)(cW:Hp):I3 JN GO cf aX aD ec bS dc cY dT cP cn bP cW=Tn JN GO cf aX aD ec (I3 JN GO cf aX aD ec) bS dc cY dT cP cn bP cW:=aaK (b:=app 7 (I3 JN GO cf aX aD ec) [bS,dc,cY,dT,cP,cn,bP] cW) (by kernel_rfl) ((dQ cf 156 [1,1,1,0,1,0,0,1,0,0,1,0,1,0,0] [2,5,7,8,23,24,25] _ [bS,dc,cY,dT,cP,cn,bP] rfl cW).trans (by kernel_rfl))
noncomputable def PD (J:JT)(G:GT)(cf:CF)(aX:K.Fn 1)(nz:K.Fn 4)(bF br bH bu:AV)(bJ:Hp):R:=
 B1 (aK bH) fun fG=>
 B1 (jA fG (.int .i64 0)) fun dA=>
 CD dA (
 J 4 (fun cF=>
 J 4 (fun aD=>
 J 4 (fun eQ=>
 B1 (aK bH) fun v22=>
 J 4 (fun ec=>
 I3 J G cf aX aD ec bF br bu .ae bH v22 (.int .i64 0) bJ) (fun tO tN SR Hg QJ=>
 eQ tO tN SR Hg QJ)) (fun Jm J9 Ie Qq R0=>
 aD Jm J9 Qq Ie R0)) (fun vT yb Br Fe Uk=>
 cF vT yb Br Fe Uk)) (fun xo uI yx Dn PT=>
 B1 (bU Dn (.int .i64 1)) fun C0=>
 nz xo uI yx C0 PT)) (
 aX br bJ)
noncomputable def DN (J:JT)(G:GT)(cf:CF)(aX:K.Fn 1):K.Fn 4:=dB P an J G cf 156 [1,1,1,0,1,0,0] [2,5,6,7] (fun q t H=>match Nat.beq q 0 with | true=>app 1 aX (aw [5] t) H | false=>(fun _ _ _=>none) q t H)
theorem acs (cf:CF)(aX:K.Fn 1)(bF br bH bu:AV)(bJ:Hp):DN JN GO cf aX bF br bH bu bJ=PD JN GO cf aX (DN JN GO cf aX) bF br bH bu bJ:=aaK (b:=app 4 (DN JN GO cf aX) [bF,br,bH,bu] bJ) (by kernel_rfl) ((dQ cf 156 [1,1,1,0,1,0,0] [2,5,6,7] _ [bF,br,bH,bu] rfl bJ).trans (by kernel_rfl))
noncomputable def abP (J:JT)(G:GT)(cf:CF)(a0 a1:AV)(H:Hp):R:=
 BN (bx 201 a0 H) fun i0 h1=>
 B1 (fa 0 (.ptr i0 0)) fun v2=>
 B1 (ld v2 h1) fun v3=>
 B2 (zK [(.int .i64 0)] 3 1 v3 v3 h1) fun v4 h5=>
 B1 (fl [(.int .i64 0)] [(0,1,a1)]) fun l6=>
 BN (aC h5 l6 3 0) fun i7 h8=>
 J 1 (fun j9=>
 J 1 (fun aX=>
 DN J G cf aX (.ptr i0 0) v4 (.slice i7 0 1 1 true 1) (.int .i64 1) h8) (fun UN aki=>
 j9 UN aki)) (fun Rm aiw=>
 some (Rm,aiw))
theorem ake {a0 a1:AV}{H:Hp}{r:AV × Hp}(h:abP JN GO cK a0 a1 H=some r):cK (.func (.func 156) [] []) [a0,a1] H=some r:=aO (first:=[]) (cap:=[]) (aaK (by kernel_rfl) h)
noncomputable def BH (J:JT)(G:GT)(cf:CF)(j9:K.Fn 3)(aX:K.Fn 5)(bO bF br bH bu:AV)(bJ:Hp):R:=
 B1 (bX bu bH) fun fG=>
 CD fG (
 J 5 (fun zw=>
 J 5 (fun cF=>
 J 7 (fun aD=>
 B1 (az 2 bO bJ) fun v21=>
 B2 (cf (.func (.func 156) [] []) [v21,bu] bJ) fun v22 bB=>
 B1 (ia 1 v22 bu) fun v24=>
 B1 (ld v24 bB) fun v25=>
 aD bO bF br bu v25 bH bu bB) (fun dc cY dT cP cn bP eD mI=>
 J 8 (fun ju=>
 B1 (jA cn (.int .i64 0)) fun v35=>
 G v35 true (fun k36=>
 k36 dT mI) (fun v37 eW=>
 G v35 true (fun zM=>
 B1 (cl v37 (.int .i64 0)) fun v40=>
 zM v40 eW) (fun v41 dW=>
 G v35 true (fun wO=>
 wO v41 dW) (fun v44 jF=>
 G v44 false (fun KC=>
 KC cn jF) (fun kD ue=>
 G v44 false (fun UK=>
 UK dT ue) (fun fN oa=>
 G v44 false (fun yE=>
 B1 (bX kD fN) fun v53=>
 yE v53 oa) (fun iR xm=>
 G v35 true (fun CM=>
 B1 (pk v44 (.bool true) iR) fun v57=>
 CM v57 xm) (fun nb A8=>
 B1 (pk v35 nb (.bool false)) fun fW=>
 ju dc cY dT cP cn bP eD fW A8) xm) oa) ue) jF) dW) eW) mI) (fun dL jD iw fX fO qu jf gU A7=>
 CD gU (
 cF dL fX fO qu jf A7) (
 cF dL jD iw qu jf A7)))) (fun jO pV tS fU gT nB=>
 zw jO pV tS fU gT nB)) (fun gN fQ fL rT qw CP=>
 B1 (bU qw (.int .i64 1)) fun mS=>
 aX gN fQ fL rT mS CP)) (
 j9 bO bF br bJ)
noncomputable def Jo (J:JT)(G:GT)(cf:CF)(j9:K.Fn 3):K.Fn 5:=dB P an J G cf 126 [1,1,1,0,1,0,0] [1,3,4,15,16] (fun q t H=>match Nat.beq q 0 with | true=>app 3 j9 (aw [1,3,4] t) H | false=>(fun _ _ _=>none) q t H)
theorem apH (J:JT)(G:GT)(cf:CF)(j9:K.Fn 3)(aX:K.Fn 5)(bO bF br bH bu:AV)(bJ:Hp):jb P an J G cf 126 [1,1,1,0,1,0,0] [1,3,4,15,16] (fun q t H=>match Nat.beq q 0 with | true=>app 3 j9 (aw [1,3,4] t) H | false=>(fun _ _ _=>none) q t H) aX [bO,bF,br,bH,bu] bJ=BH J G cf j9 aX bO bF br bH bu bJ:=by kernel_rfl
theorem JE (cf:CF)(j9:K.Fn 3)(bO bF br bH bu:AV)(bJ:Hp):Jo JN GO cf j9 bO bF br bH bu bJ=BH JN GO cf j9 (Jo JN GO cf j9) bO bF br bH bu bJ:=aaK (b:=app 5 (Jo JN GO cf j9) [bO,bF,br,bH,bu] bJ) (by kernel_rfl) ((dQ cf _ _ _ _ [bO,bF,br,bH,bu] rfl bJ).trans (apH JN GO cf j9 _ bO bF br bH bu bJ))
noncomputable def Fa (J:JT)(G:GT)(cf:CF)(gR:K.Fn 1)(mB:K.Fn 4)(mJ:K.Fn 4)(N3:K.Fn 7)(jk gW il jK jx mc ji:AV)(lR:Hp):R:=
 B1 (bX ji mc) fun T7=>
 CD T7 (
 J 7 (fun zt=>
 B1 (ia 1 jx ji) fun Hf=>
 B1 (ld Hf lR) fun xO=>
 J 9 (fun QO=>
 B1 (eT xO gW) fun v139=>
 G v139 true (fun aox=>
 B1 (az 2 jk lR) fun v141=>
 aox v141 lR) (fun zA Co=>
 G v139 true (fun anx=>
 anx xO Co) (fun v145 uH=>
 G v139 true (fun ao0=>
 B2 (cf (.func (.func 156) [] []) [zA,v145] uH) fun v148 Fp=>
 ao0 v148 Fp) (fun Jb Ko=>
 G v139 true (fun agn=>
 agn gW Ko) (fun av0 Bg=>
 G v139 true (fun alc=>
 B1 (ia 1 Jb av0) fun Ht=>
 alc Ht Bg) (fun v157 Ue=>
 G v139 true (fun alG=>
 B1 (ld v157 Ue) fun v160=>
 alG v160 Ue) (fun HR M4=>
 G v139 true (fun agF=>
 agF jK M4) (fun v164 Ec=>
 G v139 true (fun auw=>
 B1 (cl HR v164) fun v167=>
 auw v167 Ec) (fun v168 ahy=>
 B1 (pk v139 v168 (.bool false)) fun SC=>
 QO jk gW il jK xO jx mc ji SC ahy) Ec) M4) Ue) Bg) Ko) uH) Co) lR) (fun Mr xo uI yx Dn Su QD UN SG ZG=>
 CD SG (
 B1 (fl [(.int .i64 0)] [(0,1,Dn)]) fun aqI=>
 BN (aC ZG aqI 3 0) fun i182 agp=>
 B2 (eV 3 1 [(.int .i64 0)] false uI (.slice i182 0 1 1 true 1) agp) fun CR Tb=>
 mJ Mr xo CR yx Tb) (
 zt Mr xo uI yx Su QD UN ZG))) (fun Vt Pt Tg Uw SF Jv PY UZ=>
 B1 (bU PY (.int .i64 1)) fun v194=>
 N3 Vt Pt Tg Uw SF Jv v194 UZ)) (
 mJ jk gW il jK lR)
noncomputable def JO (J:JT)(G:GT)(cf:CF)(gR:K.Fn 1)(mB:K.Fn 4)(mJ:K.Fn 4):K.Fn 7:=dB P an J G cf 126 [1,1,1,1,1,1,0,1,0,0,1,0,0,1,0,0] [1,3,7,8,56,57,58] (fun q t H=>match Nat.beq q 4 with | true=>app 4 mJ (aw [1,3,7,8] t) H | false=>(fun q t H=>match Nat.beq q 3 with | true=>app 4 mB (aw [1,3,7,8] t) H | false=>(fun q t H=>match Nat.beq q 2 with | true=>app 1 gR (aw [7] t) H | false=>(fun _ _ _=>none) q t H) q t H) q t H)
theorem aiD (J:JT)(G:GT)(cf:CF)(gR:K.Fn 1)(mB:K.Fn 4)(mJ:K.Fn 4)(N3:K.Fn 7)(jk gW il jK jx mc ji:AV)(lR:Hp):jb P an J G cf 126 [1,1,1,1,1,1,0,1,0,0,1,0,0,1,0,0] [1,3,7,8,56,57,58] (fun q t H=>match Nat.beq q 4 with | true=>app 4 mJ (aw [1,3,7,8] t) H | false=>(fun q t H=>match Nat.beq q 3 with | true=>app 4 mB (aw [1,3,7,8] t) H | false=>(fun q t H=>match Nat.beq q 2 with | true=>app 1 gR (aw [7] t) H | false=>(fun _ _ _=>none) q t H) q t H) q t H) N3 [jk,gW,il,jK,jx,mc,ji] lR=Fa J G cf gR mB mJ N3 jk gW il jK jx mc ji lR:=by kernel_rfl
theorem Mv (cf:CF)(gR:K.Fn 1)(mB:K.Fn 4)(mJ:K.Fn 4)(jk gW il jK jx mc ji:AV)(lR:Hp):JO JN GO cf gR mB mJ jk gW il jK jx mc ji lR=Fa JN GO cf gR mB mJ (JO JN GO cf gR mB mJ) jk gW il jK jx mc ji lR:=aaK (b:=app 7 (JO JN GO cf gR mB mJ) [jk,gW,il,jK,jx,mc,ji] lR) (by kernel_rfl) ((dQ cf _ _ _ _ [jk,gW,il,jK,jx,mc,ji] rfl lR).trans (aiD JN GO cf gR mB mJ _ jk gW il jK jx mc ji lR))
noncomputable def Q3 (J:JT)(G:GT)(cf:CF)(gR:K.Fn 1)(j98:K.Fn 4)(nR sH pJ ua:AV)(mz:Hp):R:=
 B1 (jA ua (.int .i64 0)) fun tD=>
 CD tD (
 J 4 (fun av2=>
 J 4 (fun mB=>
 J 7 (fun VA=>
 B1 (az 2 nR mz) fun vD=>
 B1 (aK pJ) fun v109=>
 B1 (nW v109 (.int .i64 1)) fun JD=>
 B1 (ia 1 pJ JD) fun yL=>
 B1 (ld yL mz) fun B8=>
 B2 (cf (.func (.func 157) [] []) [vD,B8] mz) fun vc qD=>
 B1 (aK vc) fun sB=>
 VA nR sH pJ ua vc sB (.int .i64 0) qD) (fun mY De wS rO qN tR tH Aq=>
 J 4 (fun mJ=>
 JO J G cf gR mB mJ mY De wS rO qN tR tH Aq) (fun HV O2 L5 IA OK=>
 mB HV O2 L5 IA OK))) (fun HE Ja GC Sg ani=>
 av2 HE Ja GC Sg ani)) (fun QY GB Ul F0 arz=>
 B1 (nW F0 (.int .i64 1)) fun v210=>
 j98 QY GB Ul v210 arz)) (
 gR pJ mz)
noncomputable def J3 (J:JT)(G:GT)(cf:CF)(gR:K.Fn 1):K.Fn 4:=dB P an J G cf 126 [1,1,1,1,1,1,0,1,0,0] [1,3,7,8] (fun q t H=>match Nat.beq q 2 with | true=>app 1 gR (aw [7] t) H | false=>(fun _ _ _=>none) q t H)
theorem V4 (cf:CF)(gR:K.Fn 1)(nR sH pJ ua:AV)(mz:Hp):J3 JN GO cf gR nR sH pJ ua mz=Q3 JN GO cf gR (J3 JN GO cf gR) nR sH pJ ua mz:=aaK (b:=app 4 (J3 JN GO cf gR) [nR,sH,pJ,ua] mz) (by kernel_rfl) ((dQ cf 126 [1,1,1,1,1,1,0,1,0,0] [1,3,7,8] _ [nR,sH,pJ,ua] rfl mz).trans (by kernel_rfl))
noncomputable def OF (J:JT)(G:GT)(cf:CF)(a0:AV)(H:Hp):R:=
 BN (bx 201 a0 H) fun i0 h1=>
 B1 (az 2 (.ptr i0 0) h1) fun v2=>
 B2 (cf (.func (.func 155) [] []) [v2] h1) fun v3 h4=>
 B1 (eu .not v3) fun v5=>
 CD v5 (
 some (.ae,h4)) (
 J 3 (fun j6=>
 B1 (fa 0 (.ptr i0 0)) fun v7=>
 B1 (ld v7 h4) fun v8=>
 J 3 (fun j9=>
 Jo J G cf j9 (.ptr i0 0) (.int .i64 0) (.int .i64 0) v8 (.int .i64 0) h4) (fun nU pg qg KA=>
 j6 nU pg qg KA)) (fun wq qb Gp xt=>
 B1 (cl Gp (.int .i64 0)) fun v91=>
 CD v91 (
 some (.ae,xt)) (
 B1 (fl [(.int .i64 0)] [(0,1,qb)]) fun l92=>
 BN (aC xt l92 3 0) fun i93 To=>
 J 1 (fun j95=>
 B1 (nW Gp (.int .i64 1)) fun lF=>
 J 1 (fun gR=>
 J3 J G cf gR wq qb (.slice i93 0 1 1 true 1) lF To) (fun avV asw=>
 j95 avV asw)) (fun SI awn=>
 some (SI,awn)))))
theorem amC (J:JT)(G:GT)(cf:CF)(a0:AV)(H:Hp):fB P J G aR an cf 126 [a0] H=OF J G cf a0 H:=by kernel_rfl
theorem Wy {a0:AV}{H:Hp}{r:AV × Hp}(h:OF JN GO cK a0 H=some r):cK (.func (.func 126) [] []) [a0] H=some r:=aO (first:=[]) (cap:=[]) ((amC JN GO _ a0 H).trans h)
noncomputable def ad4 (J:JT)(G:GT)(cf:CF)(a0:AV)(H:Hp):R:=
 B1 (qL a0 (.str [])) fun v0=>
 G v0 true (fun k1=>
 k1 a0 H) (fun v2 h3=>
 G v0 true (fun k4=>
 B1 (lens v2) fun v5=>
 k4 v5 h3) (fun v6 h7=>
 G v0 true (fun k8=>
 B1 (oJ v6 (.int .i64 16)) fun v9=>
 k8 v9 h7) (fun v10 gq=>
 B1 (pk v0 v10 (.bool false)) fun v12=>
 G v12 true (fun C6=>
 C6 a0 gq) (fun cN gY=>
 G v12 true (fun R3=>
 B2 (cf (.func (.func 91) [] []) [cN,(.str [97,98,99,100,101,102,103,104,105,106,107,108,109,110,111,112,113,114,115,116,117,118,119,120,121,122,48,49,50,51,52,53,54,55,56,57])] gY) fun fG ik=>
 R3 fG ik) (fun eZ cC=>
 G v12 true (fun BS=>
 B1 (seq eZ (.str [])) fun v22=>
 BS v22 cC) (fun v23 ic=>
 B1 (pk v12 v23 (.bool false)) fun v25=>
 some (v25,ic)) cC) gY) gq) h7) h3) H
theorem atT {a0:AV}{H:Hp}{r:AV × Hp}(h:ad4 JN GO cK a0 H=some r):cK (.func (.func 54) [] []) [a0] H=some r:=aO (first:=[]) (cap:=[]) (aaK (by kernel_rfl) h)
noncomputable def EA (J:JT)(G:GT)(cf:CF)(a0:AV)(H:Hp):R:=
 J 1 (fun j0=>
 B1 (lens a0) fun v1=>
 B1 (jA v1 (.int .i64 4)) fun v2=>
 CD v2 (
 some (.tuple [(.int .i64 0),(.bool false)],H)) (
 j0 a0 H)) (fun x3 h4=>
 J 3 (fun j5=>
 B2 (cf (.func (.func 173) [] []) [x3] h4) fun v6 h7=>
 B1 (ex 0 v6) fun v8=>
 B1 (ex 1 v6) fun v9=>
 j5 x3 v8 v9 h7) (fun cZ bO bF eR=>
 xc (gA P .eql 183 true bF .nilIface) <| B1 (fe P .eql 183 bF .nilIface eR) fun cN=>
 G cN true (fun Cn=>
 Cn bO eR) (fun dN dO=>
 G cN true (fun J5=>
 B2 (cf (.func (.func 84) [] []) [dN] dO) fun eZ cC=>
 J5 eZ cC) (fun v21 jw=>
 G cN true (fun SL=>
 SL cZ jw) (fun v24 dP=>
 G cN true (fun Ck=>
 B1 (seq v21 v24) fun v27=>
 Ck v27 dP) (fun v28 dF=>
 B1 (pk cN v28 (.bool false)) fun v30=>
 G v30 true (fun wM=>
 wM bO dF) (fun v32 mI=>
 G v30 true (fun KD=>
 B1 (mH v32 (.int .i64 0)) fun v35=>
 KD v35 mI) (fun v36 gr=>
 B1 (pk v30 v36 (.bool false)) fun iv=>
 some (.tuple [bO,iv],gr)) mI) dF) dP) jw) dO) eR))
theorem Jt {a0:AV}{H:Hp}{r:AV × Hp}(h:EA JN GO cK a0 H=some r):cK (.func (.func 153) [] []) [a0] H=some r:=aO (first:=[]) (cap:=[]) (aaK (by kernel_rfl) h)
noncomputable def Ez (J:JT)(G:GT)(cf:CF)(eY:K.Fn 1)(cF:K.Fn 0)(aD:K.Fn 5)(aJ aE bp bM bS:AV)(eg:Hp):R:=
 B1 (bX bS bM) fun v27=>
 CD v27 (
 J 5 (fun iX=>
 B1 (ia 1 bp bS) fun v29=>
 B1 (ld v29 eg) fun v30=>
 B2 (cf (.func (.func 104) [] []) [aE,v30] eg) fun v31 cW=>
 B1 (bX v31 (.int .i64 0)) fun fC=>
 CD fC (
 some ((.bool false),cW)) (
 B1 (aT aJ) fun eC=>
 B1 (fa 1 eC) fun v35=>
 B1 (ld v35 cW) fun v36=>
 B1 (fl [(.int .i64 0)] [(0,1,v31)]) fun OU=>
 BN (aC cW OU 3 0) fun i38 kc=>
 B2 (eV 3 1 [(.int .i64 0)] false v36 (.slice i38 0 1 1 true 1) kc) fun v40 dH=>
 B1 (aT aJ) fun eM=>
 B1 (fa 1 eM) fun jg=>
 B1 (st 1 jg v40 dH) fun e8=>
 iX aJ aE bp bM bS e8)) (fun fy fV hJ ir kT jW=>
 B1 (bU kT (.int .i64 1)) fun v51=>
 aD fy fV hJ ir v51 jW)) (
 cF  eg)
noncomputable def Ey (J:JT)(G:GT)(cf:CF)(eY:K.Fn 1)(cF:K.Fn 0):K.Fn 5:=dB P an J G cf 118 [1,1,0,1,0,1,0,0,1,0,0] [0,3,23,24,25] (fun q t H=>match Nat.beq q 1 with | true=>app 0 cF (aw [] t) H | false=>(fun q t H=>match Nat.beq q 0 with | true=>app 1 eY (aw [10] t) H | false=>(fun _ _ _=>none) q t H) q t H)
theorem amd (J:JT)(G:GT)(cf:CF)(eY:K.Fn 1)(cF:K.Fn 0)(aD:K.Fn 5)(aJ aE bp bM bS:AV)(eg:Hp):jb P an J G cf 118 [1,1,0,1,0,1,0,0,1,0,0] [0,3,23,24,25] (fun q t H=>match Nat.beq q 1 with | true=>app 0 cF (aw [] t) H | false=>(fun q t H=>match Nat.beq q 0 with | true=>app 1 eY (aw [10] t) H | false=>(fun _ _ _=>none) q t H) q t H) aD [aJ,aE,bp,bM,bS] eg=Ez J G cf eY cF aD aJ aE bp bM bS eg:=by kernel_rfl
theorem K1 (cf:CF)(eY:K.Fn 1)(cF:K.Fn 0)(aJ aE bp bM bS:AV)(eg:Hp):Ey JN GO cf eY cF aJ aE bp bM bS eg=Ez JN GO cf eY cF (Ey JN GO cf eY cF) aJ aE bp bM bS eg:=aaK (b:=app 5 (Ey JN GO cf eY cF) [aJ,aE,bp,bM,bS] eg) (by kernel_rfl) ((dQ cf _ _ _ _ [aJ,aE,bp,bM,bS] rfl eg).trans (amd JN GO cf eY cF _ aJ aE bp bM bS eg))
noncomputable def wN (J:JT)(G:GT)(cf:CF)(a0 a1 a2 a3:AV)(H:Hp):R:=
 J 6 (fun j0=>
 B2 (cf (.func (.func 153) [] []) [a2] H) fun v1 h2=>
 B1 (ex 0 v1) fun v3=>
 B1 (ex 1 v1) fun v4=>
 j0 a0 a1 a2 a3 v3 v4 h2) (fun x5 x6 x7 x8 x9 cZ gq=>
 J 1 (fun cG=>
 J 1 (fun eY=>
 B1 (seq x6 (.str [97,102,116,101,114])) fun cN=>
 CD cN (
 J 0 (fun gu=>
 B2 (cf (.func (.func 88) [] []) [x7,(.str [44])] gq) fun dN dO=>
 B1 (aK dN) fun dA=>
 J 0 (fun cF=>
 Ey J G cf eY cF x5 x8 dN dA (.int .i64 0) dO) (fun  tE=>
 gu  tE)) (fun  fT=>
 some ((.bool true),fT))) (
 B1 (seq x6 (.str [114,101,116,114,121])) fun iR=>
 CD iR (
 B1 (aT x5) fun gH=>
 B1 (fa 2 gH) fun kN=>
 B1 (st 1 kN x9 gq) fun oW=>
 eY cZ oW) (
 B1 (seq x6 (.str [119,97,105,116])) fun nb=>
 CD nb (
 B1 (aT x5) fun v59=>
 B1 (fa 3 v59) fun fW=>
 B1 (st 1 fW x9 gq) fun jj=>
 eY cZ jj) (
 B1 (seq x6 (.str [98,97,115,101])) fun iE=>
 CD iE (
 B1 (aT x5) fun v63=>
 B1 (fa 4 v63) fun v64=>
 B1 (st 1 v64 x9 gq) fun oh=>
 eY cZ oh) (
 B1 (seq x6 (.str [111,110])) fun mu=>
 CD mu (
 J 1 (fun HO=>
 B1 (aT x5) fun nX=>
 B1 (fa 5 nX) fun mT=>
 B1 (st 1 mT x7 gq) fun qo=>
 HO x7 qo) (fun pV me=>
 B1 (qL pV (.str [])) fun jo=>
 some (jo,me))) (
 eY cZ gq)))))) (fun gT nB=>
 cG gT nB)) (fun gN DM=>
 some (gN,DM)))
theorem anh (J:JT)(G:GT)(cf:CF)(a0 a1 a2 a3:AV)(H:Hp):fB P J G aR an cf 118 [a0,a1,a2,a3] H=wN J G cf a0 a1 a2 a3 H:=by kernel_rfl
theorem CI {a0 a1 a2 a3:AV}{H:Hp}{r:AV × Hp}(h:wN JN GO cK a0 a1 a2 a3 H=some r):cK (.func (.func 118) [] []) [a0,a1,a2,a3] H=some r:=aO (first:=[]) (cap:=[]) ((anh JN GO _ a0 a1 a2 a3 H).trans h)
noncomputable def Ap (J:JT)(G:GT)(cf:CF)(aD:K.Fn 2)(eQ:K.Fn 7)(aE bp bM bS dc cY dT:AV)(dF:Hp):R:=
 B1 (bX dT cY) fun v30=>
 CD v30 (
 J 7 (fun db=>
 B1 (ia 1 dc dT) fun v32=>
 B1 (ld v32 dF) fun fC=>
 J 10 (fun ju=>
 B2 (cf (.func (.func 117) [] []) [fC,(.str [61])] dF) fun v35 nL=>
 B1 (ex 0 v35) fun v37=>
 B1 (ex 1 v35) fun iv=>
 B1 (ex 2 v35) fun eJ=>
 ju aE bp bM bS fC v37 iv dc cY dT nL) (fun cj dS eP dY gX fy fV hJ ir kT jW=>
 B2 (cf (.func (.func 104) [] []) [dY,fy] jW) fun v51 tE=>
 J 8 (fun Pb=>
 J 9 (fun jh=>
 B1 (bX v51 (.int .i64 0)) fun gH=>
 G gH false (fun CM=>
 CM fy tE) (fun v57 iG=>
 G gH false (fun Dm=>
 B1 (lens v57) fun fW=>
 Dm fW iG) (fun nQ gz=>
 G gH false (fun vh=>
 vh gX gz) (fun v64 oh=>
 G gH false (fun Vs=>
 B1 (lens v64) fun lX=>
 Vs lX oh) (fun nX A7=>
 G gH false (fun k70=>
 B1 (cl nQ nX) fun qc=>
 k70 qc A7) (fun v72 Lr=>
 B1 (pk gH (.bool true) v72) fun kV=>
 G kV false (fun U1=>
 U1 fy Lr) (fun v76 DM=>
 G kV false (fun k78=>
 k78 fV DM) (fun mf vJ=>
 G kV false (fun P0=>
 P0 cj vJ) (fun mS qG=>
 G kV false (fun GH=>
 B2 (cf (.func (.func 118) [] []) [eP,v76,mf,mS] qG) fun v85 KA=>
 GH v85 KA) (fun v87 AD=>
 G kV false (fun Ta=>
 B1 (eu .not v87) fun pE=>
 Ta pE AD) (fun v91 u7=>
 B1 (pk kV (.bool true) v91) fun v93=>
 jh cj dS eP dY v51 hJ ir kT v93 u7) AD) qG) vJ) DM) Lr) A7) oh) gz) iG) tE) (fun iQ qd vq ux vj nR sH pJ ua mz=>
 CD ua (
 B1 (fl [(.str []),.ae,(.int .i64 0),(.int .i64 0),(.int .i64 0),(.str [])] []) fun QB=>
 B1 (st 6 qd (.agg QB) mz) fun uO=>
 B1 (az 6 qd uO) fun Ac=>
 some (.tuple [Ac,(.bool false)],uO)) (
 Pb iQ qd vq ux vj nR sH pJ mz))) (fun po nV kW lj mq iW ig mQ NZ=>
 B1 (bU mq (.int .i64 1)) fun yU=>
 B1 (qE 1 lj (some yU) none none) fun v117=>
 db po nV kW v117 iW ig mQ NZ))) (fun wS rO qN tR tH yY yO zY=>
 B1 (bU yO (.int .i64 1)) fun Ia=>
 eQ wS rO qN tR tH yY Ia zY)) (
 aD bp bM dF)
noncomputable def Fl (J:JT)(G:GT)(cf:CF)(aD:K.Fn 2):K.Fn 7:=dB P an J G cf 89 [1,1,1,0,1,0,0] [1,4,6,7,20,21,22] (fun q t H=>match Nat.beq q 0 with | true=>app 2 aD (aw [4,6] t) H | false=>(fun _ _ _=>none) q t H)
theorem ahd (J:JT)(G:GT)(cf:CF)(aD:K.Fn 2)(eQ:K.Fn 7)(aE bp bM bS dc cY dT:AV)(dF:Hp):jb P an J G cf 89 [1,1,1,0,1,0,0] [1,4,6,7,20,21,22] (fun q t H=>match Nat.beq q 0 with | true=>app 2 aD (aw [4,6] t) H | false=>(fun _ _ _=>none) q t H) eQ [aE,bp,bM,bS,dc,cY,dT] dF=Ap J G cf aD eQ aE bp bM bS dc cY dT dF:=by kernel_rfl
theorem Fu (cf:CF)(aD:K.Fn 2)(aE bp bM bS dc cY dT:AV)(dF:Hp):Fl JN GO cf aD aE bp bM bS dc cY dT dF=Ap JN GO cf aD (Fl JN GO cf aD) aE bp bM bS dc cY dT dF:=aaK (b:=app 7 (Fl JN GO cf aD) [aE,bp,bM,bS,dc,cY,dT] dF) (by kernel_rfl) ((dQ cf _ _ _ _ [aE,bp,bM,bS,dc,cY,dT] rfl dF).trans (ahd JN GO cf aD _ aE bp bM bS dc cY dT dF))
noncomputable def MT (J:JT)(G:GT)(cf:CF)(a0 a1:AV)(H:Hp):R:=
 BN (aC H [(.str []),.ae,(.int .i64 0),(.int .i64 0),(.int .i64 0),(.str [])] 99 0) fun i0 h1=>
 J 4 (fun j2=>
 B1 (ia 1 a0 (.int .i64 0)) fun v3=>
 B1 (ld v3 h1) fun v4=>
 B1 (fl [(.str []),.ae,(.int .i64 0),(.int .i64 0),(.int .i64 0),(.str [])] [(0,1,v4),(3,1,(.int .i64 10)),(4,1,(.int .i64 1))]) fun l5=>
 BN (aC h1 [(.str []),.ae,(.int .i64 0),(.int .i64 0),(.int .i64 0),(.str [])] 99 0) fun i6 h7=>
 B1 (st 6 (.ptr i6 0) (.agg l5) h7) fun h8=>
 j2 a0 a1 (.ptr i0 0) (.ptr i6 0) h8) (fun x9 cZ bO bF eR=>
 B1 (fl [(.str []),(.str []),(.str []),(.str []),(.str [])] [(0,1,(.str [97,102,116,101,114])),(1,1,(.str [114,101,116,114,121])),(2,1,(.str [119,97,105,116])),(3,1,(.str [98,97,115,101])),(4,1,(.str [111,110]))]) fun l14=>
 BN (aC eR l14 9 0) fun i15 bJ=>
 J 2 (fun jq=>
 B1 (qE 1 x9 (some (.int .i64 1)) none none) fun dA=>
 B1 (aK dA) fun eZ=>
 J 2 (fun aD=>
 Fl J G cf aD cZ bO bF (.slice i15 0 5 5 true 1) dA eZ (.int .i64 0) bJ) (fun gW il yP=>
 jq gW il yP)) (fun jx mc EE=>
 B1 (az 6 mc EE) fun CG=>
 B1 (st 6 jx CG EE) fun tt=>
 B1 (az 6 jx tt) fun GX=>
 some (.tuple [GX,(.bool true)],tt)))
theorem ajY (J:JT)(G:GT)(cf:CF)(a0 a1:AV)(H:Hp):fB P J G aR an cf 89 [a0,a1] H=MT J G cf a0 a1 H:=by kernel_rfl
theorem abb {a0 a1:AV}{H:Hp}{r:AV × Hp}(h:MT JN GO cK a0 a1 H=some r):cK (.func (.func 89) [] []) [a0,a1] H=some r:=aO (first:=[]) (cap:=[]) ((ajY JN GO _ a0 a1 H).trans h)
noncomputable def NY (J:JT)(G:GT)(cf:CF)(gu:K.Fn 3)(aP:K.Fn 6)(bc aB aL bG aJ aE:AV)(bB:Hp):R:=
 B1 (bX aE aJ) fun v24=>
 CD v24 (
 J 6 (fun zo=>
 B1 (ia 1 bG aE) fun v26=>
 B1 (ld v26 bB) fun v27=>
 B2 (cf (.func (.func 88) [] []) [v27,(.str [32])] bB) fun v28 dF=>
 J 7 (fun C8=>
 B1 (fl [.ae] [(0,1,v28)]) fun l31=>
 BN (aC dF l31 46 0) fun i32 mI=>
 B2 (eV 46 1 [.ae] false aB (.slice i32 0 1 1 true 1) mI) fun eC iM=>
 C8 bc eC aL v28 bG aJ aE iM) (fun bw bI bQ cH cj dS eP Bq=>
 B1 (ia 1 cH (.int .i64 0)) fun v44=>
 B1 (ld v44 Bq) fun eS=>
 B1 (fl [(.str [])] [(0,1,eS)]) fun l46=>
 BN (aC Bq l46 9 0) fun i47 ue=>
 B2 (eV 9 1 [(.str [])] false bQ (.slice i47 0 1 1 true 1) ue) fun v49 jW=>
 zo bw bI v49 cj dS eP jW)) (fun ml gD jE iN fR ep oW=>
 B1 (bU ep (.int .i64 1)) fun nb=>
 aP ml gD jE iN fR nb oW)) (
 gu bc aB aL bB)
noncomputable def Ih (J:JT)(G:GT)(cf:CF)(gu:K.Fn 3):K.Fn 6:=dB P an J G cf 53 [1,1,1,1,0,1,0,0] [2,4,5,20,21,22] (fun q t H=>match Nat.beq q 0 with | true=>app 3 gu (aw [2,4,5] t) H | false=>(fun _ _ _=>none) q t H)
theorem auo (J:JT)(G:GT)(cf:CF)(gu:K.Fn 3)(aP:K.Fn 6)(bc aB aL bG aJ aE:AV)(bB:Hp):jb P an J G cf 53 [1,1,1,1,0,1,0,0] [2,4,5,20,21,22] (fun q t H=>match Nat.beq q 0 with | true=>app 3 gu (aw [2,4,5] t) H | false=>(fun _ _ _=>none) q t H) aP [bc,aB,aL,bG,aJ,aE] bB=NY J G cf gu aP bc aB aL bG aJ aE bB:=by kernel_rfl
theorem aaS (cf:CF)(gu:K.Fn 3)(bc aB aL bG aJ aE:AV)(bB:Hp):Ih JN GO cf gu bc aB aL bG aJ aE bB=NY JN GO cf gu (Ih JN GO cf gu) bc aB aL bG aJ aE bB:=aaK (b:=app 6 (Ih JN GO cf gu) [bc,aB,aL,bG,aJ,aE] bB) (by kernel_rfl) ((dQ cf _ _ _ _ [bc,aB,aL,bG,aJ,aE] rfl bB).trans (auo JN GO cf gu _ bc aB aL bG aJ aE bB))
noncomputable def FG (J:JT)(G:GT)(cf:CF)(kR:K.Fn 2)(se:K.Fn 6)(fU gT jX gN fQ fL:AV)(iY:Hp):R:=
 B1 (bX fL fQ) fun v80=>
 CD v80 (
 J 6 (fun j81=>
 B1 (ia 1 gN fL) fun mS=>
 B1 (ld mS iY) fun mX=>
 J 8 (fun j84=>
 B2 (cf (.func (.func 89) [] []) [mX,gT] iY) fun v85 KA=>
 B1 (ex 0 v85) fun v87=>
 B1 (ex 1 v85) fun yQ=>
 BN (aC KA [(.str []),.ae,(.int .i64 0),(.int .i64 0),(.int .i64 0),(.str [])] 99 0) fun i89 xt=>
 B1 (st 6 (.ptr i89 0) v87 xt) fun wh=>
 j84 fU gT jX (.ptr i89 0) yQ gN fQ fL wh) (fun iZ jI iQ qd vq ux vj nR uP=>
 J 7 (fun ahF=>
 B1 (eu .not vq) fun uo=>
 CD uo (
 B1 (fl [.ae] []) fun aoi=>
 B1 (st 1 iZ (.agg aoi) uP) fun CX=>
 B1 (az 1 iZ CX) fun v105=>
 some (.tuple [v105,(.int .i64 2)],CX)) (
 ahF iZ jI iQ qd ux vj nR uP)) (fun tX po nV kW lj mq iW Bj=>
 B1 (fa 0 nV) fun xg=>
 B1 (ld xg Bj) fun sB=>
 B1 (az 6 kW Bj) fun yU=>
 B1 (fl [(.str []),.ae,(.int .i64 0),(.int .i64 0),(.int .i64 0),(.str [])] [(0,6,yU)]) fun ao1=>
 BN (aC Bj ao1 99 0) fun i118 P4=>
 B2 (eV 99 6 [(.str []),.ae,(.int .i64 0),(.int .i64 0),(.int .i64 0),(.str [])] false sB (.slice i118 0 1 1 true 6) P4) fun Ci L9=>
 B1 (fa 0 nV) fun tK=>
 B1 (st 1 tK Ci L9) fun Aq=>
 j81 tX po nV lj mq iW Aq))) (fun yO I7 jk gW il jK PH=>
 B1 (bU jK (.int .i64 1)) fun v131=>
 se yO I7 jk gW il v131 PH)) (
 kR fU jX iY)
noncomputable def Ft (J:JT)(G:GT)(cf:CF)(kR:K.Fn 2):K.Fn 6:=dB P an J G cf 53 [1,1,1,1,1,1,0,1,0,0] [2,5,9,39,40,41] (fun q t H=>match Nat.beq q 2 with | true=>app 2 kR (aw [2,9] t) H | false=>(fun _ _ _=>none) q t H)
theorem ato (J:JT)(G:GT)(cf:CF)(kR:K.Fn 2)(se:K.Fn 6)(fU gT jX gN fQ fL:AV)(iY:Hp):jb P an J G cf 53 [1,1,1,1,1,1,0,1,0,0] [2,5,9,39,40,41] (fun q t H=>match Nat.beq q 2 with | true=>app 2 kR (aw [2,9] t) H | false=>(fun _ _ _=>none) q t H) se [fU,gT,jX,gN,fQ,fL] iY=FG J G cf kR se fU gT jX gN fQ fL iY:=by kernel_rfl
theorem N4 (cf:CF)(kR:K.Fn 2)(fU gT jX gN fQ fL:AV)(iY:Hp):Ft JN GO cf kR fU gT jX gN fQ fL iY=FG JN GO cf kR (Ft JN GO cf kR) fU gT jX gN fQ fL iY:=aaK (b:=app 6 (Ft JN GO cf kR) [fU,gT,jX,gN,fQ,fL] iY) (by kernel_rfl) ((dQ cf _ _ _ _ [fU,gT,jX,gN,fQ,fL] rfl iY).trans (ato JN GO cf kR _ fU gT jX gN fQ fL iY))
noncomputable def Dc (J:JT)(G:GT)(cf:CF)(a0:AV)(H:Hp):R:=
 BN (aC H [.ae] 72 0) fun i0 h1=>
 J 2 (fun j2=>
 B1 (lens a0) fun v3=>
 B1 (jA v3 (.int .i64 1024)) fun v4=>
 CD v4 (
 B1 (fl [.ae] []) fun l5=>
 B1 (st 1 (.ptr i0 0) (.agg l5) h1) fun h6=>
 B1 (az 1 (.ptr i0 0) h6) fun v7=>
 some (.tuple [v7,(.int .i64 14)],h6)) (
 j2 a0 (.ptr i0 0) h1)) (fun x8 x9 cL=>
 J 3 (fun nz=>
 B2 (cf (.func (.func 88) [] []) [x8,(.str [59])] cL) fun v12 eR=>
 B1 (aK v12) fun cN=>
 J 3 (fun gu=>
 Ih J G cf gu x9 .ae .ae v12 cN (.int .i64 0) eR) (fun eA eh dL gz=>
 nz eA eh dL gz)) (fun iw fX fO eI=>
 BN (aC eI [.ae] 72 0) fun i67 yC=>
 J 2 (fun MW=>
 B1 (aK fX) fun v70=>
 J 2 (fun kR=>
 Ft J G cf kR iw fO (.ptr i67 0) fX v70 (.int .i64 0) yC) (fun ji sA tt=>
 MW ji sA tt)) (fun sX lC aez=>
 J 2 (fun QO=>
 B1 (az 1 lC aez) fun v139=>
 B2 (cf (.func (.func 90) [] []) [v139] aez) fun vG oF=>
 B1 (eT vG (.int .i64 0)) fun zA=>
 CD zA (
 B1 (fl [.ae] []) fun amr=>
 B1 (st 1 sX (.agg amr) oF) fun Ny=>
 B1 (az 1 sX Ny) fun v145=>
 some (.tuple [v145,vG],Ny)) (
 QO sX lC oF)) (fun MY CT Np=>
 B1 (az 1 CT Np) fun Hw=>
 B1 (st 1 MY Hw Np) fun La=>
 B1 (az 1 MY La) fun ahg=>
 some (.tuple [ahg,(.int .i64 0)],La)))))
theorem ain (J:JT)(G:GT)(cf:CF)(a0:AV)(H:Hp):fB P J G aR an cf 53 [a0] H=Dc J G cf a0 H:=by kernel_rfl
theorem Je {a0:AV}{H:Hp}{r:AV × Hp}(h:Dc JN GO cK a0 H=some r):cK (.func (.func 53) [] []) [a0] H=some r:=aO (first:=[]) (cap:=[]) ((ain JN GO _ a0 H).trans h)
noncomputable def abZ (J:JT)(G:GT)(cf:CF)(a0 a1 a2:AV)(H:Hp):R:=
 B1 (mH a0 a1) fun v0=>
 G v0 true (fun k1=>
 k1 a0 H) (fun v2 h3=>
 G v0 true (fun k4=>
 k4 a2 h3) (fun v5 h6=>
 G v0 true (fun k7=>
 B1 (oJ v2 v5) fun v8=>
 k7 v8 h6) (fun v9 cL=>
 B1 (pk v0 v9 (.bool false)) fun v11=>
 some (v11,cL)) h6) h3) H
theorem al7 {a0 a1 a2:AV}{H:Hp}{r:AV × Hp}(h:abZ JN GO cK a0 a1 a2 H=some r):cK (.func (.func 119) [] []) [a0,a1,a2] H=some r:=aO (first:=[]) (cap:=[]) (aaK (by kernel_rfl) h)
noncomputable def KS (J:JT)(G:GT)(cf:CF)(j6:K.Fn 0)(j7:K.Fn 4)(x8 x9 cZ bO:AV)(di:Hp):R:=
 B1 (bX bO cZ) fun dV=>
 CD dV (
 J 4 (fun bY=>
 J 6 (fun gu=>
 B1 (ia 6 x9 bO) fun dN=>
 B1 (az 6 dN di) fun fG=>
 BN (aC di [(.str []),.ae,(.int .i64 0),(.int .i64 0),(.int .i64 0),(.str [])] 99 0) fun i18 dm=>
 B1 (st 6 (.ptr i18 0) fG dm) fun cC=>
 gu x8 bO (.ptr i18 0) x9 cZ bO cC) (fun aJ aE bp bM bS dc eX=>
 B1 (az 6 bp eX) fun v28=>
 B2 (cf aJ [aE,v28] eX) fun v29 mi=>
 CD v29 (
 some ((.bool true),mi)) (
 bY aJ bM bS dc mi))) (fun bP eD cO dq iM=>
 B1 (bU dq (.int .i64 1)) fun v36=>
 j7 bP eD cO v36 iM)) (
 j6  di)
noncomputable def Kf (J:JT)(G:GT)(cf:CF)(j6:K.Fn 0):K.Fn 4:=dB P an J G cf 125 [1,0,1,0,0] [1,8,9,10] (fun q t H=>match Nat.beq q 0 with | true=>app 0 j6 (aw [] t) H | false=>(fun _ _ _=>none) q t H)
theorem Vl (cf:CF)(j6:K.Fn 0)(x8 x9 cZ bO:AV)(di:Hp):Kf JN GO cf j6 x8 x9 cZ bO di=KS JN GO cf j6 (Kf JN GO cf j6) x8 x9 cZ bO di:=aaK (b:=app 4 (Kf JN GO cf j6) [x8,x9,cZ,bO] di) (by kernel_rfl) ((dQ cf 125 [1,0,1,0,0] [1,8,9,10] _ [x8,x9,cZ,bO] rfl di).trans (by kernel_rfl))
noncomputable def acJ (J:JT)(G:GT)(cf:CF)(a0 a1:AV)(H:Hp):R:=
 BN (bx 72 a0 H) fun i0 h1=>
 J 0 (fun j2=>
 B1 (fa 0 (.ptr i0 0)) fun v3=>
 B1 (ld v3 h1) fun v4=>
 B1 (aK v4) fun v5=>
 J 0 (fun j6=>
 Kf J G cf j6 a1 v4 v5 (.int .i64 0) h1) (fun  gr=>
 j2  gr)) (fun  eW=>
 some ((.bool false),eW))
theorem ag1 {a0 a1:AV}{H:Hp}{r:AV × Hp}(h:acJ JN GO cK a0 a1 H=some r):cK (.func (.func 125) [] []) [a0,a1] H=some r:=aO (first:=[]) (cap:=[]) (aaK (by kernel_rfl) h)
noncomputable def GJ (J:JT)(G:GT)(cf:CF)(dI:K.Fn 1)(xw:K.Fn 4)(bI bQ cH cj:AV)(dH:Hp):R:=
 B1 (bX cj cH) fun eM=>
 CD eM (
 J 4 (fun Vi=>
 B1 (ia 2 bQ cj) fun v44=>
 B1 (az 2 v44 dH) fun eS=>
 BN (aC dH [.nilFunc,(.int .i64 0)] 194 0) fun i46 mo=>
 B1 (st 2 (.ptr i46 0) eS mo) fun ue=>
 B1 (az 1 bI ue) fun v49=>
 B1 (fa 0 (.ptr i46 0)) fun fN=>
 B1 (ld fN ue) fun v51=>
 B2 (cf (.func (.func 125) [] []) [v49,v51] ue) fun fI fT=>
 CD fI (
 B1 (fa 1 (.ptr i46 0)) fun iR=>
 B1 (ld iR fT) fun gH=>
 some (gH,fT)) (
 Vi bI bQ cH cj fT)) (fun ep eN fj eA CU=>
 B1 (bU eA (.int .i64 1)) fun nQ=>
 xw ep eN fj nQ CU)) (
 dI bI dH)
noncomputable def Dy (J:JT)(G:GT)(cf:CF)(dI:K.Fn 1):K.Fn 4:=dB P an J G cf 90 [1,1,1,0,1,0,0] [1,18,19,20] (fun q t H=>match Nat.beq q 0 with | true=>app 1 dI (aw [1] t) H | false=>(fun _ _ _=>none) q t H)
theorem atV (J:JT)(G:GT)(cf:CF)(dI:K.Fn 1)(xw:K.Fn 4)(bI bQ cH cj:AV)(dH:Hp):jb P an J G cf 90 [1,1,1,0,1,0,0] [1,18,19,20] (fun q t H=>match Nat.beq q 0 with | true=>app 1 dI (aw [1] t) H | false=>(fun _ _ _=>none) q t H) xw [bI,bQ,cH,cj] dH=GJ J G cf dI xw bI bQ cH cj dH:=by kernel_rfl
theorem afv (cf:CF)(dI:K.Fn 1)(bI bQ cH cj:AV)(dH:Hp):Dy JN GO cf dI bI bQ cH cj dH=GJ JN GO cf dI (Dy JN GO cf dI) bI bQ cH cj dH:=aaK (b:=app 4 (Dy JN GO cf dI) [bI,bQ,cH,cj] dH) (by kernel_rfl) ((dQ cf _ _ _ _ [bI,bQ,cH,cj] rfl dH).trans (atV JN GO cf dI _ bI bQ cH cj dH))
noncomputable def zv (J:JT)(G:GT)(cf:CF)(a0:AV)(H:Hp):R:=
 BN (bx 72 a0 H) fun i0 h1=>
 J 1 (fun j2=>
 J 2 (fun j3=>
 B1 (fa 0 (.ptr i0 0)) fun v4=>
 B1 (ld v4 h1) fun v5=>
 B1 (aK v5) fun v6=>
 B2 (cf (.func (.func 119) [] []) [v6,(.int .i64 1),(.int .i64 16)] h1) fun v7 h8=>
 B1 (eu .not v7) fun v9=>
 j3 (.ptr i0 0) v9 h8) (fun cZ bO di=>
 CD bO (
 some ((.int .i64 1),di)) (
 j2 cZ di))) (fun br ki=>
 BN (zW ki) fun i15 bJ=>
 BN (aC bJ [.jZ] 192 0) fun i17 ik=>
 B1 (st 1 (.ptr i17 0) (.map i15) ik) fun dm=>
 J 1 (fun aD=>
 J 4 (fun eQ=>
 B1 (fl [.nilFunc,(.int .i64 0)] [(0,1,(.func (.func 120) [] [])),(1,1,(.int .i64 2))]) fun Vf=>
 B1 (fl [.nilFunc,(.int .i64 0)] [(0,1,(.func (.func 121) [] [(.ptr i17 0)])),(1,1,(.int .i64 5))]) fun l23=>
 B1 (fl [.nilFunc,(.int .i64 0)] [(0,1,(.func (.func 122) [] [])),(1,1,(.int .i64 1))]) fun SD=>
 B1 (fl [.nilFunc,(.int .i64 0)] [(0,1,(.func (.func 123) [] [br])),(1,1,(.int .i64 1))]) fun l25=>
 B1 (fl [.nilFunc,(.int .i64 0),.nilFunc,(.int .i64 0),.nilFunc,(.int .i64 0),.nilFunc,(.int .i64 0)] [(0,2,(.agg Vf)),(2,2,(.agg l23)),(4,2,(.agg SD)),(6,2,(.agg l25))]) fun l26=>
 BN (aC dm l26 194 0) fun i27 gQ=>
 B1 (aK (.slice i27 0 4 4 true 2)) fun v29=>
 eQ br (.slice i27 0 4 4 true 2) v29 (.int .i64 0) gQ) (fun cn bP eD cO gE=>
 J 1 (fun dI=>
 Dy J G cf dI cn bP eD cO gE) (fun jD vV=>
 aD jD vV))) (fun fX oh=>
 J 0 (fun j66=>
 J 1 (fun HO=>
 B1 (az 1 fX oh) fun nX=>
 B2 (cf (.func (.func 127) [] []) [nX] oh) fun mT qo=>
 B2 (cf (.func (.func 126) [] []) [mT] qo) fun qc me=>
 B1 (aK qc) fun jo=>
 B1 (jA jo (.int .i64 0)) fun kV=>
 HO kV me) (fun jX lf=>
 CD jX (
 some ((.int .i64 7),lf)) (
 j66  lf))) (fun  DM=>
 some ((.int .i64 0),DM))))
theorem aoT (J:JT)(G:GT)(cf:CF)(a0:AV)(H:Hp):fB P J G aR an cf 90 [a0] H=zv J G cf a0 H:=by kernel_rfl
theorem Eb {a0:AV}{H:Hp}{r:AV × Hp}(h:zv JN GO cK a0 H=some r):cK (.func (.func 90) [] []) [a0] H=some r:=aO (first:=[]) (cap:=[]) ((aoT JN GO _ a0 H).trans h)
noncomputable def ae1 (J:JT)(G:GT)(cf:CF)(a0 a1:AV)(H:Hp):R:=
 BN (bx 99 a1 H) fun i0 h1=>
 B1 (fa 0 (.ptr i0 0)) fun v2=>
 B1 (ld v2 h1) fun v3=>
 B2 (cf (.func (.func 54) [] []) [v3] h1) fun v4 h5=>
 B1 (eu .not v4) fun v6=>
 G v6 false (fun k7=>
 B1 (fa 5 (.ptr i0 0)) fun v8=>
 k7 v8 h5) (fun v9 cL=>
 G v6 false (fun JF=>
 B1 (ld v9 cL) fun v12=>
 JF v12 cL) (fun dV ki=>
 G v6 false (fun Cn=>
 B1 (qL dV (.str [])) fun dN=>
 Cn dN ki) (fun fG ik=>
 G v6 false (fun k19=>
 k19 fG ik) (fun v20 lA=>
 G v20 true (fun Iv=>
 B1 (fa 5 (.ptr i0 0)) fun v23=>
 Iv v23 lA) (fun v24 dP=>
 G v20 true (fun Ck=>
 B1 (ld v24 dP) fun v27=>
 Ck v27 dP) (fun v28 dF=>
 G v20 true (fun IF=>
 B2 (cf (.func (.func 54) [] []) [v28] dF) fun v31 cW=>
 IF v31 cW) (fun fC gE=>
 G v20 true (fun tZ=>
 B1 (eu .not fC) fun v36=>
 tZ v36 gE) (fun v37 eW=>
 G v6 false (fun zM=>
 B1 (pk v20 v37 (.bool false)) fun v40=>
 zM v40 eW) (fun v41 dW=>
 B1 (pk v6 (.bool true) v41) fun jg=>
 some (jg,dW)) eW) gE) dF) dP) lA) ik) ki) cL) h5
theorem af5 {a0 a1:AV}{H:Hp}{r:AV × Hp}(h:ae1 JN GO cK a0 a1 H=some r):cK (.func (.func 120) [] []) [a0,a1] H=some r:=aO (first:=[]) (cap:=[]) (aaK (by kernel_rfl) h)
noncomputable def Ry (J:JT)(G:GT)(cf:CF)(a0 a1 a2:AV)(H:Hp):R:=
 BN (bx 99 a1 H) fun i0 h1=>
 J 3 (fun j2=>
 B1 (ld a2 h1) fun v3=>
 B1 (fa 0 (.ptr i0 0)) fun v4=>
 B1 (ld v4 h1) fun v5=>
 B1 (qI .str (.bool false) false v3 v5 h1) fun v6=>
 j2 a2 (.ptr i0 0) v6 h1) (fun x7 x8 x9 cL=>
 B1 (ld x7 cL) fun v11=>
 B1 (fa 0 x8) fun v12=>
 B1 (ld v12 cL) fun dV=>
 B1 (wP .str v11 dV (.bool true) cL) fun ki=>
 some (x9,ki))
theorem acN {a0 a1 a2:AV}{H:Hp}{r:AV × Hp}(h:Ry JN GO cK a0 a1 a2 H=some r):cK (.func (.func 121) [] [a2]) [a0,a1] H=some r:=aO (first:=[]) (cap:=[a2]) (aaK (by kernel_rfl) h)
noncomputable def ac0 (J:JT)(G:GT)(cf:CF)(a0 a1:AV)(H:Hp):R:=
 BN (bx 99 a1 H) fun i0 h1=>
 B1 (fa 2 (.ptr i0 0)) fun v2=>
 B1 (ld v2 h1) fun v3=>
 B2 (cf (.func (.func 119) [] []) [v3,(.int .i64 0),(.int .i64 8)] h1) fun v4 h5=>
 B1 (eu .not v4) fun v6=>
 G v6 false (fun k7=>
 B1 (fa 3 (.ptr i0 0)) fun v8=>
 k7 v8 h5) (fun v9 cL=>
 G v6 false (fun JF=>
 B1 (ld v9 cL) fun v12=>
 JF v12 cL) (fun dV ki=>
 G v6 false (fun Cn=>
 B2 (cf (.func (.func 119) [] []) [dV,(.int .i64 1),(.int .i64 1000)] ki) fun dN dO=>
 Cn dN dO) (fun dA dm=>
 G v6 false (fun Qa=>
 B1 (eu .not dA) fun v21=>
 Qa v21 dm) (fun v22 bB=>
 B1 (pk v6 (.bool true) v22) fun v24=>
 G v24 false (fun BU=>
 B1 (fa 4 (.ptr i0 0)) fun v26=>
 BU v26 bB) (fun v27 gQ=>
 G v24 false (fun IM=>
 B1 (ld v27 gQ) fun v30=>
 IM v30 gQ) (fun v31 cW=>
 G v24 false (fun Jd=>
 B2 (cf (.func (.func 119) [] []) [v31,(.int .i64 1),(.int .i64 1000)] cW) fun eC iM=>
 Jd eC iM) (fun v36 gr=>
 G v24 false (fun xi=>
 B1 (eu .not v36) fun eJ=>
 xi eJ gr) (fun v40 dH=>
 B1 (pk v24 (.bool true) v40) fun eM=>
 some (eM,dH)) gr) cW) gQ) bB) dm) ki) cL) h5
theorem ard {a0 a1:AV}{H:Hp}{r:AV × Hp}(h:ac0 JN GO cK a0 a1 H=some r):cK (.func (.func 122) [] []) [a0,a1] H=some r:=aO (first:=[]) (cap:=[]) (aaK (by kernel_rfl) h)
noncomputable def acg (J:JT)(G:GT)(cf:CF)(a0 a1 a2:AV)(H:Hp):R:=
 BN (bx 99 a1 H) fun i0 h1=>
 B1 (az 1 a2 h1) fun v2=>
 B1 (fa 1 (.ptr i0 0)) fun v3=>
 B1 (ld v3 h1) fun v4=>
 B2 (cf (.func (.func 124) [] []) [v2,a0,v4] h1) fun v5 h6=>
 B1 (eu .not v5) fun v7=>
 some (v7,h6)
theorem ahW {a0 a1 a2:AV}{H:Hp}{r:AV × Hp}(h:acg JN GO cK a0 a1 a2 H=some r):cK (.func (.func 123) [] [a2]) [a0,a1] H=some r:=aO (first:=[]) (cap:=[a2]) (aaK (by kernel_rfl) h)
noncomputable def Dk (J:JT)(G:GT)(cf:CF)(j4:K.Fn 0)(j5:K.Fn 6)(x6 x7 x8 x9 cZ bO:AV)(di:Hp):R:=
 B1 (bX bO cZ) fun dV=>
 CD dV (
 J 6 (fun bY=>
 J 8 (fun gu=>
 B1 (ia 1 x9 bO) fun dN=>
 B1 (ld dN di) fun fG=>
 gu x6 x7 x8 bO fG x9 cZ bO di) (fun aB aL bG aJ aE bp bM bS eg=>
 J 7 (fun gM=>
 B1 (fa 0 bG) fun v28=>
 B1 (ld v28 eg) fun v29=>
 B1 (aK v29) fun v30=>
 B1 (nW v30 (.int .i64 1)) fun v31=>
 B2 (cf (.func (.func 119) [] []) [aE,(.int .i64 0),v31] eg) fun v32 mI=>
 B1 (eu .not v32) fun eC=>
 G eC false (fun tZ=>
 tZ aE mI) (fun v36 gr=>
 G eC false (fun xi=>
 xi aB gr) (fun eJ rF=>
 G eC false (fun PJ=>
 B1 (cl v36 eJ) fun eM=>
 PJ eM rF) (fun jg e8=>
 B1 (pk eC (.bool true) jg) fun eS=>
 G eS false (fun KC=>
 KC aL e8) (fun kD ue=>
 G eS false (fun UK=>
 UK aJ ue) (fun fN oa=>
 G eS false (fun yE=>
 B1 (qE 1 kD none (some fN) none) fun v53=>
 yE v53 oa) (fun iR xm=>
 G eS false (fun CM=>
 CM aE xm) (fun v57 iG=>
 G eS false (fun Dm=>
 B2 (cf (.func (.func 154) [] []) [iR,v57] iG) fun fW jj=>
 Dm fW jj) (fun iE vV=>
 B1 (pk eS (.bool true) iE) fun v64=>
 gM aB aL bG bp bM bS v64 vV) iG) xm) oa) ue) e8) rF) gr) mI) (fun fO qu jf gU jz jO pV me=>
 CD pV (
 some ((.bool false),me)) (
 bY fO qu jf gU jz jO me)))) (fun fU gT jX gN fQ fL iY=>
 B1 (bU fL (.int .i64 1)) fun v80=>
 j5 fU gT jX gN fQ v80 iY)) (
 j4  di)
noncomputable def GI (J:JT)(G:GT)(cf:CF)(j4:K.Fn 0):K.Fn 6:=dB P an J G cf 124 [1,0,1,0,0] [1,2,3,9,10,11] (fun q t H=>match Nat.beq q 0 with | true=>app 0 j4 (aw [] t) H | false=>(fun _ _ _=>none) q t H)
theorem ahm (J:JT)(G:GT)(cf:CF)(j4:K.Fn 0)(j5:K.Fn 6)(x6 x7 x8 x9 cZ bO:AV)(di:Hp):jb P an J G cf 124 [1,0,1,0,0] [1,2,3,9,10,11] (fun q t H=>match Nat.beq q 0 with | true=>app 0 j4 (aw [] t) H | false=>(fun _ _ _=>none) q t H) j5 [x6,x7,x8,x9,cZ,bO] di=Dk J G cf j4 j5 x6 x7 x8 x9 cZ bO di:=by kernel_rfl
theorem ael (cf:CF)(j4:K.Fn 0)(x6 x7 x8 x9 cZ bO:AV)(di:Hp):GI JN GO cf j4 x6 x7 x8 x9 cZ bO di=Dk JN GO cf j4 (GI JN GO cf j4) x6 x7 x8 x9 cZ bO di:=aaK (b:=app 6 (GI JN GO cf j4) [x6,x7,x8,x9,cZ,bO] di) (by kernel_rfl) ((dQ cf _ _ _ _ [x6,x7,x8,x9,cZ,bO] rfl di).trans (ahm JN GO cf j4 _ x6 x7 x8 x9 cZ bO di))
noncomputable def Rl (J:JT)(G:GT)(cf:CF)(a0 a1 a2:AV)(H:Hp):R:=
 BN (bx 72 a0 H) fun i0 h1=>
 J 0 (fun j2=>
 B1 (aK a2) fun v3=>
 J 0 (fun j4=>
 GI J G cf j4 a1 a2 (.ptr i0 0) a2 v3 (.int .i64 0) h1) (fun  CP=>
 j2  CP)) (fun  uR=>
 some ((.bool true),uR))
theorem asy (J:JT)(G:GT)(cf:CF)(a0 a1 a2:AV)(H:Hp):fB P J G aR an cf 124 [a0,a1,a2] H=Rl J G cf a0 a1 a2 H:=by kernel_rfl
theorem asL {a0 a1 a2:AV}{H:Hp}{r:AV × Hp}(h:Rl JN GO cK a0 a1 a2 H=some r):cK (.func (.func 124) [] []) [a0,a1,a2] H=some r:=aO (first:=[]) (cap:=[]) ((asy JN GO _ a0 a1 a2 H).trans h)
noncomputable def K6 (J:JT)(G:GT)(cf:CF)(aX:K.Fn 1)(aD:K.Fn 5)(gF:K.Fn 7)(kP:K.Fn 10)(dq bZ bw bI bQ cH cj dS eP dY:AV)(e8:Hp):R:=
 B1 (bX dY eP) fun eS=>
 CD eS (
 J 10 (fun Tu=>
 J 12 (fun zF=>
 B1 (ia 1 dS dY) fun fS=>
 B1 (ld fS e8) fun v49=>
 zF dq bZ bw bI dY v49 bQ cH cj dS eP dY e8) (fun mU ml gD jE iN fR ep eN fj eA eh dL gz=>
 J 11 (fun Ms=>
 B1 (cl iN (.int .i64 0)) fun v64=>
 CD v64 (
 B1 (so jE (.str [32,97,102,116,101,114,61])) fun lB=>
 Ms mU ml gD lB fR ep eN fj eA eh dL gz) (
 B1 (so jE (.str [44])) fun mu=>
 Ms mU ml gD mu fR ep eN fj eA eh dL gz)) (fun jf gU jz jO pV tS fU gT jX gN fQ va=>
 B1 (fa 0 jf) fun mf=>
 B1 (ld mf va) fun v80=>
 B1 (ia 6 v80 pV) fun kE=>
 B1 (fa 0 kE) fun mS=>
 B1 (ld mS va) fun mX=>
 B1 (so jO mX) fun Dr=>
 Tu jf gU jz Dr tS fU gT jX gN fQ va))) (fun qg oX wq qb Gp rq oI iZ jI iQ iC=>
 B1 (bU iQ (.int .i64 1)) fun lF=>
 kP qg oX wq qb Gp rq oI iZ jI lF iC)) (
 gF dq bZ bw bI bQ cH cj e8)
noncomputable def I8 (J:JT)(G:GT)(cf:CF)(aX:K.Fn 1)(aD:K.Fn 5)(gF:K.Fn 7):K.Fn 10:=dB P an J G cf 55 [1,1,1,0,1,0,0,1,1,0,0,1,1,0,1,0,0] [1,3,5,6,13,14,15,22,23,24] (fun q t H=>match Nat.beq q 2 with | true=>app 7 gF (aw [1,3,5,6,13,14,15] t) H | false=>(fun q t H=>match Nat.beq q 1 with | true=>app 5 aD (aw [1,3,13,14,15] t) H | false=>(fun q t H=>match Nat.beq q 0 with | true=>app 1 aX (aw [3] t) H | false=>(fun _ _ _=>none) q t H) q t H) q t H)
theorem RQ (cf:CF)(aX:K.Fn 1)(aD:K.Fn 5)(gF:K.Fn 7)(dq bZ bw bI bQ cH cj dS eP dY:AV)(e8:Hp):I8 JN GO cf aX aD gF dq bZ bw bI bQ cH cj dS eP dY e8=K6 JN GO cf aX aD gF (I8 JN GO cf aX aD gF) dq bZ bw bI bQ cH cj dS eP dY e8:=aaK (b:=app 10 (I8 JN GO cf aX aD gF) [dq,bZ,bw,bI,bQ,cH,cj,dS,eP,dY] e8) (by kernel_rfl) ((dQ cf 55 [1,1,1,0,1,0,0,1,1,0,0,1,1,0,1,0,0] [1,3,5,6,13,14,15,22,23,24] _ [dq,bZ,bw,bI,bQ,cH,cj,dS,eP,dY] rfl e8).trans (by kernel_rfl))
noncomputable def HD (J:JT)(G:GT)(cf:CF)(aX:K.Fn 1)(nz:K.Fn 5)(bF br bH bu aS:AV)(dO:Hp):R:=
 B1 (bX aS bu) fun dA=>
 CD dA (
 J 5 (fun cF=>
 J 5 (fun aD=>
 B1 (ia 6 bH aS) fun v21=>
 B1 (az 6 v21 dO) fun v22=>
 BN (aC dO [(.str []),.ae,(.int .i64 0),(.int .i64 0),(.int .i64 0),(.str [])] 99 0) fun i23 ic=>
 B1 (st 6 (.ptr i23 0) v22 ic) fun dP=>
 B1 (fa 0 (.ptr i23 0)) fun v26=>
 B1 (ld v26 dP) fun v27=>
 J 7 (fun iX=>
 B1 (fa 1 (.ptr i23 0)) fun v29=>
 B1 (ld v29 dP) fun v30=>
 B1 (aK v30) fun v31=>
 J 7 (fun gF=>
 I8 J G cf aX aD gF bF br (.ptr i23 0) v27 bH bu aS v30 v31 (.int .i64 0) dP) (fun ux vj nR sH pJ ua En CX=>
 iX ux vj nR sH pJ ua En CX)) (fun w9 tX po nV kW lj mq we=>
 J 7 (fun aqW=>
 B1 (fa 2 po) fun xg=>
 B1 (ld xg we) fun sB=>
 B2 (cf (.func (.func 92) [] []) [(.str [32,114,101,116,114,121,61]),sB,(.int .i64 0)] we) fun yU ou=>
 B1 (fa 3 po) fun xQ=>
 B1 (ld xQ ou) fun Bb=>
 B2 (cf (.func (.func 92) [] []) [(.str [32,119,97,105,116,61]),Bb,(.int .i64 10)] ou) fun Ci L9=>
 B1 (so yU Ci) fun tK=>
 B1 (fa 4 po) fun w7=>
 B1 (ld w7 L9) fun v124=>
 B2 (cf (.func (.func 92) [] []) [(.str [32,98,97,115,101,61]),v124,(.int .i64 1)] L9) fun yg Hk=>
 B1 (so tK yg) fun v127=>
 B1 (so nV v127) fun Qn=>
 B1 (ld xQ we) fun Py=>
 SM Bb Py <|
 B1 (ld w7 we) fun v130=>
 SM v124 v130 <|
 B1 (ld w7 ou) fun v131=>
 SM v124 v131 <|
 aqW w9 tX po Qn kW lj mq Hk) (fun ji sA zC sX lC my nj wE=>
 J 6 (fun afM=>
 B1 (fa 5 zC) fun v141=>
 B1 (ld v141 wE) fun zA=>
 B1 (qL zA (.str [])) fun v143=>
 CD v143 (
 B1 (fa 5 zC) fun Ji=>
 B1 (ld Ji wE) fun v145=>
 B1 (so (.str [32,111,110,61]) v145) fun v146=>
 B1 (so sX v146) fun zp=>
 afM ji sA zp lC my nj wE) (
 afM ji sA sX lC my nj wE)) (fun BX Aw zD pF oQ w8 Bg=>
 B1 (fl [(.str [])] [(0,1,zD)]) fun auc=>
 BN (aC Bg auc 9 0) fun i156 apq=>
 B2 (eV 9 1 [(.str [])] false Aw (.slice i156 0 1 1 true 1) apq) fun RZ Eu=>
 aD BX RZ pF oQ w8 Eu)))) (fun Hg Sw Jm J9 Ie Ec=>
 cF Hg Sw Jm J9 Ie Ec)) (fun Td vT yb Br Fe Uk=>
 B1 (bU Fe (.int .i64 1)) fun Rk=>
 nz Td vT yb Br Rk Uk)) (
 aX br dO)
noncomputable def GY (J:JT)(G:GT)(cf:CF)(aX:K.Fn 1):K.Fn 5:=dB P an J G cf 55 [1,1,1,0,1,0,0] [1,3,13,14,15] (fun q t H=>match Nat.beq q 0 with | true=>app 1 aX (aw [3] t) H | false=>(fun _ _ _=>none) q t H)
theorem aif (J:JT)(G:GT)(cf:CF)(aX:K.Fn 1)(nz:K.Fn 5)(bF br bH bu aS:AV)(dO:Hp):jb P an J G cf 55 [1,1,1,0,1,0,0] [1,3,13,14,15] (fun q t H=>match Nat.beq q 0 with | true=>app 1 aX (aw [3] t) H | false=>(fun _ _ _=>none) q t H) nz [bF,br,bH,bu,aS] dO=HD J G cf aX nz bF br bH bu aS dO:=by kernel_rfl
theorem Qs (cf:CF)(aX:K.Fn 1)(bF br bH bu aS:AV)(dO:Hp):GY JN GO cf aX bF br bH bu aS dO=HD JN GO cf aX (GY JN GO cf aX) bF br bH bu aS dO:=aaK (b:=app 5 (GY JN GO cf aX) [bF,br,bH,bu,aS] dO) (by kernel_rfl) ((dQ cf _ _ _ _ [bF,br,bH,bu,aS] rfl dO).trans (aif JN GO cf aX _ bF br bH bu aS dO))
noncomputable def KM (J:JT)(G:GT)(cf:CF)(a0:AV)(H:Hp):R:=
 BN (bx 72 a0 H) fun i0 h1=>
 B1 (az 1 (.ptr i0 0) h1) fun v2=>
 B2 (cf (.func (.func 90) [] []) [v2] h1) fun v3 h4=>
 B1 (eT v3 (.int .i64 0)) fun v5=>
 CD v5 (
 some ((.str []),h4)) (
 J 1 (fun j6=>
 B1 (fa 0 (.ptr i0 0)) fun v7=>
 B1 (ld v7 h4) fun v8=>
 B1 (aK v8) fun v9=>
 J 1 (fun aX=>
 GY J G cf aX (.ptr i0 0) .ae v8 v9 (.int .i64 0) h4) (fun uI amR=>
 j6 uI amR)) (fun Dn PT=>
 B2 (cf (.func (.func 85) [] []) [Dn,(.str [59])] PT) fun C0 wJ=>
 some (C0,wJ)))
theorem am3 (J:JT)(G:GT)(cf:CF)(a0:AV)(H:Hp):fB P J G aR an cf 55 [a0] H=KM J G cf a0 H:=by kernel_rfl
theorem Wt {a0:AV}{H:Hp}{r:AV × Hp}(h:KM JN GO cK a0 H=some r):cK (.func (.func 55) [] []) [a0] H=some r:=aO (first:=[]) (cap:=[]) ((am3 JN GO _ a0 H).trans h)
noncomputable def Rs (J:JT)(G:GT)(cf:CF)(a0 a1 a2:AV)(H:Hp):R:=
 B1 (cl a1 a2) fun v0=>
 CD v0 (
 some ((.str []),H)) (
 B2 (cf (.func (.func 84) [] []) [a1] H) fun v1 h2=>
 B1 (so a0 v1) fun v3=>
 some (v3,h2))
theorem adC {a0 a1 a2:AV}{H:Hp}{r:AV × Hp}(h:Rs JN GO cK a0 a1 a2 H=some r):cK (.func (.func 92) [] []) [a0,a1,a2] H=some r:=aO (first:=[]) (cap:=[]) (aaK (by kernel_rfl) h)
noncomputable def Oo (J:JT)(G:GT)(cf:CF)(aD:K.Fn 2)(db:K.Fn 6)(mh:K.Fn 6)(Oj:K.Fn 10)(gD jE iN fR ep eN fj eA eh dL:AV)(gz:Hp):R:=
 B1 (bX dL eh) fun v63=>
 CD v63 (
 J 10 (fun j64=>
 J 10 (fun Wd=>
 B1 (ia 1 eA dL) fun mu=>
 B1 (ld mu gz) fun lX=>
 J 12 (fun Qk=>
 B1 (fl [(.int .i64 0),(.int .i64 0)] [(0,1,lX),(1,1,fR)]) fun l69=>
 BN (aC gz [(.int .i64 0),(.int .i64 0)] 231 0) fun i70 lZ=>
 B1 (st 2 (.ptr i70 0) (.agg l69) lZ) fun me=>
 Qk gD jE iN fR lX (.ptr i70 0) ep eN fj eA eh dL me) (fun fU gT jX gN fQ fL rT qw sW uu nU pg pw=>
 J 12 (fun RF=>
 B1 (fa 0 fU) fun v87=>
 B1 (ld v87 pw) fun yQ=>
 B1 (aK yQ) fun tI=>
 B1 (nW tI (.int .i64 1)) fun pE=>
 B2 (cf (.func (.func 119) [] []) [fQ,(.int .i64 0),pE] pw) fun v91 u7=>
 G v91 true (fun Eh=>
 Eh fQ u7) (fun tn iC=>
 G v91 true (fun k96=>
 k96 gN iC) (fun Dl KF=>
 G v91 true (fun k99=>
 B1 (eT tn Dl) fun CZ=>
 k99 CZ KF) (fun yq zf=>
 B1 (pk v91 yq (.bool false)) fun vC=>
 G vC true (fun PF=>
 B1 (fa 1 jX) fun v105=>
 PF v105 zf) (fun Ac GA=>
 G vC true (fun ahM=>
 B1 (ld Ac GA) fun v109=>
 ahM v109 GA) (fun JD OX=>
 G vC true (fun aok=>
 B1 (az 2 fL OX) fun vc=>
 aok vc OX) (fun xg NZ=>
 G vC true (fun auf=>
 B2 (cf (.func (.func 158) [] []) [JD,xg] NZ) fun v117 G5=>
 auf v117 G5) (fun Bb Bw=>
 G vC true (fun Tf=>
 B1 (eu .not Bb) fun tK=>
 Tf tK Bw) (fun w7 wc=>
 B1 (pk vC w7 (.bool false)) fun yg=>
 RF fU gT jX gN fL rT qw sW uu nU pg yg wc) Bw) NZ) OX) GA) zf) KF) iC) u7) (fun jk gW il jK jx mc ji sA zC sX lC my KK=>
 CD my (
 B1 (fa 1 il) fun v139=>
 B1 (ld v139 KK) fun vG=>
 B1 (az 2 jx KK) fun v141=>
 B1 (fl [(.int .i64 0),(.int .i64 0)] [(0,2,v141)]) fun akM=>
 BN (aC KK akM 231 0) fun i143 Ny=>
 B2 (eV 231 2 [(.int .i64 0),(.int .i64 0)] false vG (.slice i143 0 1 1 true 2) Ny) fun v145 uH=>
 B1 (fa 1 il) fun zp=>
 B1 (st 1 zp v145 uH) fun Np=>
 Wd jk gW il jK mc ji sA zC sX lC Np) (
 Wd jk gW il jK mc ji sA zC sX lC KK)))) (fun Aw zD pF oQ w8 vR PM xh tO tN Eu=>
 j64 Aw zD pF oQ w8 vR PM xh tO tN Eu)) (fun Hg Sw Jm J9 Ie Qq Td vT yb Br aqs=>
 B1 (bU Br (.int .i64 1)) fun v171=>
 Oj Hg Sw Jm J9 Ie Qq Td vT yb v171 aqs)) (
 mh gD jE iN ep eN fj gz)
noncomputable def IP (J:JT)(G:GT)(cf:CF)(aD:K.Fn 2)(db:K.Fn 6)(mh:K.Fn 6):K.Fn 10:=dB P an J G cf 127 [1,1,0,1,0,0,1,1,0,0,1,1,0,0] [1,2,3,4,14,15,16,22,23,24] (fun q t H=>match Nat.beq q 2 with | true=>app 6 mh (aw [1,2,3,14,15,16] t) H | false=>(fun q t H=>match Nat.beq q 1 with | true=>app 6 db (aw [1,2,3,14,15,16] t) H | false=>(fun q t H=>match Nat.beq q 0 with | true=>app 2 aD (aw [2,3] t) H | false=>(fun _ _ _=>none) q t H) q t H) q t H)
theorem art (J:JT)(G:GT)(cf:CF)(aD:K.Fn 2)(db:K.Fn 6)(mh:K.Fn 6)(Oj:K.Fn 10)(gD jE iN fR ep eN fj eA eh dL:AV)(gz:Hp):jb P an J G cf 127 [1,1,0,1,0,0,1,1,0,0,1,1,0,0] [1,2,3,4,14,15,16,22,23,24] (fun q t H=>match Nat.beq q 2 with | true=>app 6 mh (aw [1,2,3,14,15,16] t) H | false=>(fun q t H=>match Nat.beq q 1 with | true=>app 6 db (aw [1,2,3,14,15,16] t) H | false=>(fun q t H=>match Nat.beq q 0 with | true=>app 2 aD (aw [2,3] t) H | false=>(fun _ _ _=>none) q t H) q t H) q t H) Oj [gD,jE,iN,fR,ep,eN,fj,eA,eh,dL] gz=Oo J G cf aD db mh Oj gD jE iN fR ep eN fj eA eh dL gz:=by kernel_rfl
theorem Zr (cf:CF)(aD:K.Fn 2)(db:K.Fn 6)(mh:K.Fn 6)(gD jE iN fR ep eN fj eA eh dL:AV)(gz:Hp):IP JN GO cf aD db mh gD jE iN fR ep eN fj eA eh dL gz=Oo JN GO cf aD db mh (IP JN GO cf aD db mh) gD jE iN fR ep eN fj eA eh dL gz:=aaK (b:=app 10 (IP JN GO cf aD db mh) [gD,jE,iN,fR,ep,eN,fj,eA,eh,dL] gz) (by kernel_rfl) ((dQ cf _ _ _ _ [gD,jE,iN,fR,ep,eN,fj,eA,eh,dL] rfl gz).trans (art JN GO cf aD db mh _ gD jE iN fR ep eN fj eA eh dL gz))
noncomputable def QN (J:JT)(G:GT)(cf:CF)(aD:K.Fn 2)(eQ:K.Fn 6)(aE bp bM bS dc cY:AV)(gQ:Hp):R:=
 B1 (bX cY dc) fun v29=>
 CD v29 (
 J 6 (fun C8=>
 J 6 (fun db=>
 J 8 (fun gF=>
 B1 (ia 6 bS cY) fun fC=>
 B1 (az 6 fC gQ) fun eC=>
 BN (aC gQ [(.str []),.ae,(.int .i64 0),(.int .i64 0),(.int .i64 0),(.str [])] 99 0) fun i35 nL=>
 B1 (st 6 (.ptr i35 0) eC nL) fun gr=>
 gF aE bp bM cY (.ptr i35 0) bS dc cY gr) (fun bQ cH cj dS eP dY gX fy gV=>
 B1 (fa 1 eP) fun kD=>
 B1 (ld kD gV) fun fS=>
 B1 (aK fS) fun v49=>
 J 6 (fun mh=>
 IP J G cf aD db mh bQ cH cj dS dY gX fy fS v49 (.int .i64 0) gV) (fun xo uI yx Dn Su QD wJ=>
 db xo uI yx Dn Su QD wJ))) (fun SG Rm agL atc agG anw Tb=>
 C8 SG Rm agL atc agG anw Tb)) (fun Vt Pt Tg Uw SF Jv ai4=>
 B1 (bU Jv (.int .i64 1)) fun v193=>
 eQ Vt Pt Tg Uw SF v193 ai4)) (
 aD bp bM gQ)
noncomputable def HG (J:JT)(G:GT)(cf:CF)(aD:K.Fn 2):K.Fn 6:=dB P an J G cf 127 [1,1,0,1,0,0] [1,2,3,14,15,16] (fun q t H=>match Nat.beq q 0 with | true=>app 2 aD (aw [2,3] t) H | false=>(fun _ _ _=>none) q t H)
theorem aat (cf:CF)(aD:K.Fn 2)(aE bp bM bS dc cY:AV)(gQ:Hp):HG JN GO cf aD aE bp bM bS dc cY gQ=QN JN GO cf aD (HG JN GO cf aD) aE bp bM bS dc cY gQ:=aaK (b:=app 6 (HG JN GO cf aD) [aE,bp,bM,bS,dc,cY] gQ) (by kernel_rfl) ((dQ cf 127 [1,1,0,1,0,0] [1,2,3,14,15,16] _ [aE,bp,bM,bS,dc,cY] rfl gQ).trans (by kernel_rfl))
noncomputable def afA (J:JT)(G:GT)(cf:CF)(a0:AV)(H:Hp):R:=
 BN (bx 72 a0 H) fun i0 h1=>
 BN (aC h1 [(.int .i64 0),.ae] 201 0) fun i2 h3=>
 J 3 (fun j4=>
 B1 (fa 0 (.ptr i0 0)) fun v5=>
 B1 (ld v5 h3) fun v6=>
 B1 (aK v6) fun v7=>
 B1 (fl [(.int .i64 0),.ae] [(0,1,v7)]) fun l8=>
 BN (aC h3 [(.int .i64 0),.ae] 201 0) fun i9 cL=>
 B1 (st 2 (.ptr i9 0) (.agg l8) cL) fun gq=>
 j4 (.ptr i0 0) (.ptr i2 0) (.ptr i9 0) gq) (fun bF br bH gY=>
 J 2 (fun aP=>
 B1 (fa 0 bF) fun fG=>
 B1 (ld fG gY) fun dA=>
 B1 (aK dA) fun eZ=>
 J 2 (fun aD=>
 HG J G cf aD bF br bH dA eZ (.int .i64 0) gY) (fun Te HV ahA=>
 aP Te HV ahA)) (fun L5 IA OK=>
 B1 (az 2 IA OK) fun akX=>
 B1 (st 2 L5 akX OK) fun ab6=>
 B1 (az 2 L5 ab6) fun amu=>
 some (amu,ab6)))
theorem anW {a0:AV}{H:Hp}{r:AV × Hp}(h:afA JN GO cK a0 H=some r):cK (.func (.func 127) [] []) [a0] H=some r:=aO (first:=[]) (cap:=[]) (aaK (by kernel_rfl) h)
noncomputable def LN (J:JT)(G:GT)(cf:CF)(a0:AV)(H:Hp):R:=
 BN (bx 72 a0 H) fun i0 h1=>
 BN (aC h1 [.ae,(.int .i64 0),.ae,.ae] 75 0) fun i2 h3=>
 J 2 (fun j4=>
 B1 (az 1 (.ptr i0 0) h3) fun v5=>
 B2 (cf (.func (.func 90) [] []) [v5] h3) fun v6 h7=>
 B1 (eT v6 (.int .i64 0)) fun v8=>
 CD v8 (
 B1 (fl [.ae,(.int .i64 0),.ae,.ae] []) fun l9=>
 B1 (st 4 (.ptr i2 0) (.agg l9) h7) fun cL=>
 B1 (az 4 (.ptr i2 0) cL) fun v11=>
 some (.tuple [v11,v6],cL)) (
 j4 (.ptr i0 0) (.ptr i2 0) h7)) (fun bF br ki=>
 J 2 (fun gu=>
 B1 (az 1 bF ki) fun dN=>
 B1 (fa 0 bF) fun fG=>
 B1 (ld fG ki) fun dA=>
 B1 (aK dA) fun eZ=>
 B2 (zK [(.int .i64 0),(.int .i64 0),(.int .i64 0),(.str [])] 132 4 eZ eZ ki) fun v20 lA=>
 B1 (fl [.ae,(.int .i64 0),.ae,.ae] [(0,1,dN),(2,1,v20)]) fun Vf=>
 B2 (cf (.func (.func 97) [] []) [(.agg Vf)] lA) fun v23 ic=>
 BN (aC ic [.ae,(.int .i64 0),.ae,.ae] 75 0) fun i25 eg=>
 B1 (st 4 (.ptr i25 0) v23 eg) fun eX=>
 B1 (az 1 bF lA) fun v28=>
 SM dN v28 <|
 gu br (.ptr i25 0) eX) (fun cP cn gf=>
 B2 (cf (.func (.func 106) [] []) [cn] gf) fun v32 mI=>
 B1 (az 4 cn mI) fun eC=>
 B1 (st 4 cP eC mI) fun iM=>
 B1 (az 4 cP iM) fun v36=>
 some (.tuple [v36,(.int .i64 0)],iM)))
theorem awU (J:JT)(G:GT)(cf:CF)(a0:AV)(H:Hp):fB P J G aR an cf 76 [a0] H=LN J G cf a0 H:=by kernel_rfl
theorem XZ {a0:AV}{H:Hp}{r:AV × Hp}(h:LN JN GO cK a0 H=some r):cK (.func (.func 76) [] []) [a0] H=some r:=aO (first:=[]) (cap:=[]) ((awU JN GO _ a0 H).trans h)
noncomputable def Ml (J:JT)(G:GT)(cf:CF)(iX:K.Fn 2)(Ax:K.Fn 5)(cn bP eD cO dq:AV)(iM:Hp):R:=
 B1 (bX dq cO) fun v36=>
 CD v36 (
 J 5 (fun Hi=>
 J 7 (fun S5=>
 B1 (ia 6 eD dq) fun eJ=>
 B1 (az 6 eJ iM) fun v40=>
 BN (aC iM [(.str []),.ae,(.int .i64 0),(.int .i64 0),(.int .i64 0),(.str [])] 99 0) fun i41 dW=>
 B1 (st 6 (.ptr i41 0) v40 dW) fun Bq=>
 S5 cn bP dq (.ptr i41 0) eD cO dq Bq) (fun gX fy fV hJ ir kT mU oa=>
 B1 (fa 0 gX) fun fI=>
 B1 (fa 0 fI) fun v53=>
 B1 (ld v53 oa) fun iR=>
 B1 (fa 1 hJ) fun gH=>
 B1 (ld gH oa) fun kN=>
 B2 (cf (.func (.func 137) [] []) [kN] oa) fun v57 iG=>
 B1 (ia 6 iR fV) fun v59=>
 B1 (fa 1 v59) fun fW=>
 B1 (st 1 fW v57 iG) fun jj=>
 B1 (ld v53 iG) fun iE=>
 SM iR iE <|
 Hi gX fy ir kT mU jj)) (fun iw fX fO qu jf yC=>
 B1 (bU jf (.int .i64 1)) fun mT=>
 Ax iw fX fO qu mT yC)) (
 iX cn bP iM)
noncomputable def Iu (J:JT)(G:GT)(cf:CF)(iX:K.Fn 2):K.Fn 5:=dB P an J G cf 97 [1,1,0,1,0,0] [1,2,13,14,15] (fun q t H=>match Nat.beq q 0 with | true=>app 2 iX (aw [1,2] t) H | false=>(fun _ _ _=>none) q t H)
theorem ajT (J:JT)(G:GT)(cf:CF)(iX:K.Fn 2)(Ax:K.Fn 5)(cn bP eD cO dq:AV)(iM:Hp):jb P an J G cf 97 [1,1,0,1,0,0] [1,2,13,14,15] (fun q t H=>match Nat.beq q 0 with | true=>app 2 iX (aw [1,2] t) H | false=>(fun _ _ _=>none) q t H) Ax [cn,bP,eD,cO,dq] iM=Ml J G cf iX Ax cn bP eD cO dq iM:=by kernel_rfl
theorem YC (cf:CF)(iX:K.Fn 2)(cn bP eD cO dq:AV)(iM:Hp):Iu JN GO cf iX cn bP eD cO dq iM=Ml JN GO cf iX (Iu JN GO cf iX) cn bP eD cO dq iM:=aaK (b:=app 5 (Iu JN GO cf iX) [cn,bP,eD,cO,dq] iM) (by kernel_rfl) ((dQ cf _ _ _ _ [cn,bP,eD,cO,dq] rfl iM).trans (ajT JN GO cf iX _ cn bP eD cO dq iM))
noncomputable def QM (J:JT)(G:GT)(cf:CF)(a0:AV)(H:Hp):R:=
 BN (bx 75 a0 H) fun i0 h1=>
 BN (aC h1 [.ae,(.int .i64 0),.ae,.ae] 75 0) fun i2 h3=>
 J 2 (fun j4=>
 B1 (fa 0 (.ptr i0 0)) fun v5=>
 B1 (fa 0 v5) fun v6=>
 B1 (ld v6 h3) fun v7=>
 B2 (cf (.func (.func 136) [] []) [v7] h3) fun v8 h9=>
 B1 (fa 0 (.ptr i0 0)) fun v10=>
 B1 (fa 0 v10) fun v11=>
 B1 (st 1 v11 v8 h9) fun di=>
 j4 (.ptr i0 0) (.ptr i2 0) di) (fun br bH gY=>
 J 2 (fun aP=>
 J 5 (fun jq=>
 B1 (fa 0 br) fun dA=>
 B1 (fa 0 dA) fun eZ=>
 B1 (ld eZ gY) fun v20=>
 B1 (aK v20) fun v21=>
 jq br bH v20 v21 (.int .i64 0) gY) (fun aE bp bM bS dc eX=>
 J 2 (fun iX=>
 Iu J G cf iX aE bp bM bS dc eX) (fun jO pV me=>
 aP jO pV me))) (fun fU gT nB=>
 J 2 (fun Ij=>
 B1 (fa 2 fU) fun vd=>
 B1 (ld vd nB) fun qh=>
 B2 (cf (.func (.func 138) [] []) [qh] nB) fun mf vJ=>
 B1 (fa 2 fU) fun kE=>
 B1 (st 1 kE mf vJ) fun uR=>
 Ij fU gT uR) (fun nU pg pw=>
 J 2 (fun RF=>
 B1 (fa 3 nU) fun v87=>
 B1 (ld v87 pw) fun yQ=>
 B2 (cf (.func (.func 30) [] []) [yQ] pw) fun tI xt=>
 B1 (fa 3 nU) fun v91=>
 B1 (st 1 v91 tI xt) fun u7=>
 RF nU pg u7) (fun jI iQ iC=>
 B1 (az 4 jI iC) fun lF=>
 B1 (st 4 iQ lF iC) fun yy=>
 B1 (az 4 iQ yy) fun xE=>
 some (xE,yy)))))
theorem ap3 (J:JT)(G:GT)(cf:CF)(a0:AV)(H:Hp):fB P J G aR an cf 97 [a0] H=QM J G cf a0 H:=by kernel_rfl
theorem ajK {a0:AV}{H:Hp}{r:AV × Hp}(h:QM JN GO cK a0 H=some r):cK (.func (.func 97) [] []) [a0] H=some r:=aO (first:=[]) (cap:=[]) ((ap3 JN GO _ a0 H).trans h)
noncomputable def AL (J:JT)(G:GT)(cf:CF)(aP:K.Fn 2)(jq:K.Fn 5)(aB aL bG aJ aE:AV)(bB:Hp):R:=
 B1 (bX aE aJ) fun v24=>
 CD v24 (
 J 5 (fun zo=>
 J 7 (fun zG=>
 B1 (ia 6 bG aE) fun v27=>
 B1 (az 6 v27 bB) fun v28=>
 BN (aC bB [(.str []),.ae,(.int .i64 0),(.int .i64 0),(.int .i64 0),(.str [])] 99 0) fun i29 mi=>
 B1 (st 6 (.ptr i29 0) v28 mi) fun gf=>
 zG aB aL aE (.ptr i29 0) bG aJ aE gf) (fun eD cO dq bZ bw bI bQ kc=>
 J 8 (fun sU=>
 B1 (fa 1 bZ) fun v41=>
 B1 (ld v41 kc) fun eM=>
 B2 (cf (.func (.func 143) [] []) [eM,(.func (.func 144) [] [eD])] kc) fun jg e8=>
 sU eD cO dq bZ jg bw bI bQ e8) (fun fy fV hJ ir kT mU ml gD fT=>
 J 6 (fun jh=>
 J 7 (fun zT=>
 B1 (ld fy fT) fun kN=>
 B1 (aT kN) fun v57=>
 B1 (fa 2 v57) fun nb=>
 B1 (ld nb fT) fun v59=>
 B1 (ia 4 v59 hJ) fun fW=>
 B1 (fa 0 fW) fun nQ=>
 B1 (ld nQ fT) fun iE=>
 B1 (cl iE (.int .i64 0)) fun v63=>
 gZ v63 true (
 B1 (eu .not kT) fun v64=>
 gZ v64 true (
 B1 (fa 5 ir) fun lB=>
 B1 (ld lB fT) fun mu=>
 B1 (seq mu (.str [])) fun lX=>
 gZ lX false (
 B1 (ld fy fT) fun nX=>
 B1 (aT nX) fun mT=>
 B1 (fa 3 mT) fun v70=>
 B1 (ld v70 fT) fun qc=>
 B1 (fa 5 ir) fun v72=>
 B1 (ld v72 fT) fun jo=>
 B2 (cf (.func (.func 94) [] []) [qc,jo] fT) fun kV nB=>
 zT fy fV hJ mU ml gD kV nB) (
 zT fy fV hJ mU ml gD (.bool true) fT)) (
 zT fy fV hJ mU ml gD (.bool false) fT)) (
 zT fy fV hJ mU ml gD (.bool false) fT)) (fun gN fQ fL rT qw sW uu qG=>
 CD uu (
 B1 (ld gN qG) fun Dr=>
 B1 (aT Dr) fun v85=>
 B1 (fa 2 v85) fun sK=>
 B1 (ld sK qG) fun v87=>
 B1 (ia 4 v87 fL) fun yQ=>
 B1 (fa 0 yQ) fun tI=>
 B1 (st 1 tI (.int .i64 1) qG) fun xt=>
 jh gN fQ fL rT qw sW xt) (
 jh gN fQ fL rT qw sW qG))) (fun oI iZ jI iQ qd vq yy=>
 G iZ true (fun SX=>
 B1 (ld oI yy) fun wu=>
 SX wu yy) (fun CZ tc=>
 G iZ true (fun Ra=>
 B1 (aT CZ) fun vC=>
 Ra vC tc) (fun tD uO=>
 G iZ true (fun S4=>
 B1 (fa 2 tD) fun v107=>
 S4 v107 uO) (fun vD zk=>
 G iZ true (fun UJ=>
 B1 (ld vD zk) fun yL=>
 UJ yL zk) (fun B8 Bj=>
 G iZ true (fun aul=>
 aul jI Bj) (fun sB zQ=>
 G iZ true (fun awD=>
 B1 (ia 4 B8 sB) fun xQ=>
 awD xQ zQ) (fun Bb Bw=>
 G iZ true (fun Tf=>
 B1 (fa 0 Bb) fun tK=>
 Tf tK Bw) (fun w7 wc=>
 G iZ true (fun atB=>
 B1 (ld w7 wc) fun Ia=>
 atB Ia wc) (fun v127 Me=>
 G iZ true (fun aub=>
 B1 (cl v127 (.int .i64 3)) fun v130=>
 aub v130 Me) (fun v131 EE=>
 B1 (pk iZ v131 (.bool false)) fun CG=>
 zo oI CG iQ qd vq EE) Me) wc) Bw) zQ) Bj) zk) uO) tc) yy)))) (fun zC sX lC my nj wE=>
 B1 (bU nj (.int .i64 1)) fun vG=>
 jq zC sX lC my vG wE)) (
 aP aB aL bB)
noncomputable def wU (J:JT)(G:GT)(cf:CF)(aP:K.Fn 2):K.Fn 5:=dB P an J G cf 106 [1,1,0,1,0,0] [1,2,10,11,12] (fun q t H=>match Nat.beq q 0 with | true=>app 2 aP (aw [1,2] t) H | false=>(fun _ _ _=>none) q t H)
theorem asd (J:JT)(G:GT)(cf:CF)(aP:K.Fn 2)(jq:K.Fn 5)(aB aL bG aJ aE:AV)(bB:Hp):jb P an J G cf 106 [1,1,0,1,0,0] [1,2,10,11,12] (fun q t H=>match Nat.beq q 0 with | true=>app 2 aP (aw [1,2] t) H | false=>(fun _ _ _=>none) q t H) jq [aB,aL,bG,aJ,aE] bB=AL J G cf aP jq aB aL bG aJ aE bB:=by kernel_rfl
theorem RS (cf:CF)(aP:K.Fn 2)(aB aL bG aJ aE:AV)(bB:Hp):wU JN GO cf aP aB aL bG aJ aE bB=AL JN GO cf aP (wU JN GO cf aP) aB aL bG aJ aE bB:=aaK (b:=app 5 (wU JN GO cf aP) [aB,aL,bG,aJ,aE] bB) (by kernel_rfl) ((dQ cf _ _ _ _ [aB,aL,bG,aJ,aE] rfl bB).trans (asd JN GO cf aP _ aB aL bG aJ aE bB))
noncomputable def K9 (J:JT)(G:GT)(cf:CF)(a0:AV)(H:Hp):R:=
 BN (bx 146 a0 H) fun i0 h1=>
 J 2 (fun j2=>
 J 5 (fun j3=>
 B1 (ld (.ptr i0 0) h1) fun v4=>
 B1 (aT v4) fun v5=>
 B1 (fa 0 v5) fun v6=>
 B1 (fa 0 v6) fun v7=>
 B1 (ld v7 h1) fun v8=>
 B1 (aK v8) fun v9=>
 j3 (.ptr i0 0) (.bool true) v8 v9 (.int .i64 0) h1) (fun cZ bO bF br bH gY=>
 J 2 (fun aP=>
 wU J G cf aP cZ bO bF br bH gY) (fun G4 UL Co=>
 j2 G4 UL Co))) (fun Jq HQ uH=>
 CD HQ (
 B1 (ld Jq uH) fun zp=>
 B1 (aT zp) fun v148=>
 B1 (fa 1 v148) fun Hw=>
 B1 (st 1 Hw (.int .i64 1) uH) fun La=>
 some (.tuple [],La)) (
 some (.tuple [],uH)))
theorem akQ (J:JT)(G:GT)(cf:CF)(a0:AV)(H:Hp):fB P J G aR an cf 106 [a0] H=K9 J G cf a0 H:=by kernel_rfl
theorem VP {a0:AV}{H:Hp}{r:AV × Hp}(h:K9 JN GO cK a0 H=some r):cK (.func (.func 106) [] []) [a0] H=some r:=aO (first:=[]) (cap:=[]) ((akQ JN GO _ a0 H).trans h)
noncomputable def Wb (J:JT)(G:GT)(cf:CF)(a0 a1:AV)(H:Hp):R:=
 B1 (ld a1 H) fun v0=>
 B1 (aT v0) fun v1=>
 B1 (fa 2 v1) fun v2=>
 B1 (ld v2 H) fun v3=>
 B1 (ia 4 v3 a0) fun v4=>
 B1 (fa 0 v4) fun v5=>
 B1 (ld v5 H) fun v6=>
 B1 (eT v6 (.int .i64 3)) fun v7=>
 some (v7,H)
theorem alv {a0 a1:AV}{H:Hp}{r:AV × Hp}(h:Wb JN GO cK a0 a1 H=some r):cK (.func (.func 144) [] [a1]) [a0] H=some r:=aO (first:=[]) (cap:=[a1]) (aaK (by kernel_rfl) h)
noncomputable def adO (J:JT)(G:GT)(cf:CF)(a0 a1:AV)(H:Hp):R:=
 BN (bx 75 a0 H) fun i0 h1=>
 J 0 (fun j2=>
 J 2 (fun j3=>
 B1 (bX a1 (.int .i64 0)) fun v4=>
 G v4 false (fun k5=>
 k5 a1 h1) (fun v6 h7=>
 G v4 false (fun k8=>
 B1 (fa 2 (.ptr i0 0)) fun v9=>
 k8 v9 h7) (fun v10 gq=>
 G v4 false (fun k12=>
 B1 (ld v10 gq) fun dV=>
 k12 dV gq) (fun cN gY=>
 G v4 false (fun R3=>
 B1 (aK cN) fun fG=>
 R3 fG gY) (fun dA dm=>
 G v4 false (fun Qa=>
 B1 (mH v6 dA) fun v21=>
 Qa v21 dm) (fun v22 bB=>
 B1 (pk v4 (.bool true) v22) fun v24=>
 j3 (.ptr i0 0) v24 bB) dm) gY) gq) h7) h1) (fun bS dc eX=>
 CD dc (
 some ((.int .i64 1),eX)) (
 B1 (fa 1 bS) fun v28=>
 B1 (ld v28 eX) fun v29=>
 B1 (eT v29 (.int .i64 0)) fun v30=>
 CD v30 (
 some ((.int .i64 9),eX)) (
 j2  eX)))) (fun  gf=>
 some ((.int .i64 0),gf))
theorem auY {a0 a1:AV}{H:Hp}{r:AV × Hp}(h:adO JN GO cK a0 a1 H=some r):cK (.func (.func 108) [] []) [a0,a1] H=some r:=aO (first:=[]) (cap:=[]) (aaK (by kernel_rfl) h)
noncomputable def KP (J:JT)(G:GT)(cf:CF)(a0 a1 a2:AV)(H:Hp):R:=
 BN (bx 75 a0 H) fun i0 h1=>
 J 3 (fun j2=>
 B1 (az 4 (.ptr i0 0) h1) fun v3=>
 B2 (cf (.func (.func 108) [] []) [v3,a1] h1) fun v4 h5=>
 B1 (eT v4 (.int .i64 0)) fun v6=>
 CD v6 (
 some (v4,h5)) (
 j2 a1 a2 (.ptr i0 0) h5)) (fun x7 x8 x9 cL=>
 J 0 (fun nz=>
 J 2 (fun cG=>
 B1 (fa 2 x9) fun dV=>
 B1 (ld dV cL) fun cN=>
 B1 (ia 4 cN x7) fun dZ=>
 B1 (az 4 dZ cL) fun dN=>
 BN (aC cL [(.int .i64 0),(.int .i64 0),(.int .i64 0),(.str [])] 132 0) fun i17 ik=>
 B1 (st 4 (.ptr i17 0) dN ik) fun dm=>
 cG x8 (.ptr i17 0) dm) (fun bG aJ jw=>
 J 1 (fun ec=>
 B1 (fa 0 aJ) fun v24=>
 B1 (ld v24 jw) fun v25=>
 B1 (eT v25 (.int .i64 2)) fun v26=>
 G v26 false (fun Sr=>
 B1 (fa 1 aJ) fun v28=>
 Sr v28 jw) (fun v29 mi=>
 G v26 false (fun wM=>
 B1 (ld v29 mi) fun v32=>
 wM v32 mi) (fun fC gE=>
 G v26 false (fun tZ=>
 tZ bG gE) (fun v36 gr=>
 G v26 false (fun xi=>
 B1 (eT fC v36) fun eJ=>
 xi eJ gr) (fun v40 dH=>
 B1 (pk v26 (.bool true) v40) fun eM=>
 ec eM dH) gr) gE) mi) jw) (fun dY e8=>
 CD dY (
 some ((.int .i64 8),e8)) (
 nz  e8)))) (fun  jF=>
 some ((.int .i64 0),jF)))
theorem alr (J:JT)(G:GT)(cf:CF)(a0 a1 a2:AV)(H:Hp):fB P J G aR an cf 109 [a0,a1,a2] H=KP J G cf a0 a1 a2 H:=by kernel_rfl
theorem YP {a0 a1 a2:AV}{H:Hp}{r:AV × Hp}(h:KP JN GO cK a0 a1 a2 H=some r):cK (.func (.func 109) [] []) [a0,a1,a2] H=some r:=aO (first:=[]) (cap:=[]) ((alr JN GO _ a0 a1 a2 H).trans h)
noncomputable def F3 (J:JT)(G:GT)(cf:CF)(a0 a1 a2 a3:AV)(H:Hp):R:=
 BN (bx 75 a0 H) fun i0 h1=>
 BN (aC h1 [.ae,(.int .i64 0),.ae,.ae] 75 0) fun i2 h3=>
 J 5 (fun j4=>
 B1 (az 4 (.ptr i0 0) h3) fun v5=>
 B2 (cf (.func (.func 108) [] []) [v5,a1] h3) fun v6 h7=>
 B1 (eT v6 (.int .i64 0)) fun v8=>
 CD v8 (
 B1 (fl [.ae,(.int .i64 0),.ae,.ae] []) fun l9=>
 B1 (st 4 (.ptr i2 0) (.agg l9) h7) fun cL=>
 B1 (az 4 (.ptr i2 0) cL) fun v11=>
 some (.tuple [v11,v6],cL)) (
 j4 a1 a2 a3 (.ptr i0 0) (.ptr i2 0) h7)) (fun bF br bH bu aS dO=>
 J 6 (fun zw=>
 B1 (fa 2 bu) fun eZ=>
 B1 (ld eZ dO) fun v20=>
 B1 (ia 4 v20 bF) fun v21=>
 B1 (az 4 v21 dO) fun v22=>
 BN (aC dO [(.int .i64 0),(.int .i64 0),(.int .i64 0),(.str [])] 132 0) fun i23 ic=>
 B1 (st 4 (.ptr i23 0) v22 ic) fun dP=>
 zw bF br bH bu aS (.ptr i23 0) dP) (fun dc cY dT cP cn bP cW=>
 J 6 (fun kP=>
 B1 (fa 0 bP) fun eC=>
 B1 (ld eC cW) fun v35=>
 B1 (eT v35 (.int .i64 1)) fun v36=>
 CD v36 (
 B1 (fl [.ae,(.int .i64 0),.ae,.ae] []) fun OU=>
 B1 (st 4 cn (.agg OU) cW) fun eW=>
 B1 (az 4 cn eW) fun eJ=>
 some (.tuple [eJ,(.int .i64 4)],eW)) (
 J 7 (fun sU=>
 B1 (fa 1 bP) fun v41=>
 B1 (ld v41 cW) fun eM=>
 B1 (bU eM (.int .i64 1)) fun jg=>
 B1 (eT cY jg) fun v44=>
 sU dc cY dT cP cn bP v44 cW) (fun fy fV hJ ir kT mU ml tE=>
 CD ml (
 B1 (fl [.ae,(.int .i64 0),.ae,.ae] []) fun l53=>
 B1 (st 4 kT (.agg l53) tE) fun nu=>
 B1 (az 4 kT nu) fun gH=>
 some (.tuple [gH,(.int .i64 8)],nu)) (
 kP fy fV hJ ir kT mU tE)))) (fun ep eN fj eA eh dL gz=>
 B1 (az 4 eA gz) fun v63=>
 B2 (cf (.func (.func 97) [] []) [v63] gz) fun v64 oh=>
 B1 (st 4 eA v64 oh) fun eI=>
 J 4 (fun HO=>
 B1 (fa 0 eA) fun nX=>
 B1 (fa 0 nX) fun mT=>
 B1 (ld mT eI) fun v70=>
 B1 (ia 6 v70 ep) fun qc=>
 B1 (fa 3 qc) fun v72=>
 B1 (ld v72 eI) fun jo=>
 B1 (bU fj jo) fun kV=>
 B1 (fa 0 dL) fun v75=>
 B1 (st 1 v75 (.int .i64 2) eI) fun lf=>
 B1 (fa 1 dL) fun vd=>
 B1 (st 1 vd eN lf) fun va=>
 B1 (fa 2 dL) fun mf=>
 B1 (st 1 mf kV va) fun vJ=>
 B1 (ld mT lf) fun kE=>
 SM v70 kE <|
 B1 (ld v72 lf) fun mS=>
 SM jo mS <|
 B1 (ld mT va) fun mX=>
 SM v70 mX <|
 B1 (ld v72 va) fun Dr=>
 SM jo Dr <|
 HO ep eA eh dL vJ) (fun qg oX wq qb qX=>
 J 2 (fun Of=>
 B1 (fa 2 oX) fun v91=>
 B1 (ld v91 qX) fun yM=>
 B1 (az 4 qb qX) fun v93=>
 B1 (ia 4 yM qg) fun tn=>
 B1 (st 4 tn v93 qX) fun iC=>
 Of oX wq iC) (fun vq ux KF=>
 B1 (az 4 vq KF) fun wu=>
 B1 (st 4 ux wu KF) fun uP=>
 B1 (az 4 ux uP) fun yq=>
 some (.tuple [yq,(.int .i64 0)],uP))))))
theorem aoG (J:JT)(G:GT)(cf:CF)(a0 a1 a2 a3:AV)(H:Hp):fB P J G aR an cf 78 [a0,a1,a2,a3] H=F3 J G cf a0 a1 a2 a3 H:=by kernel_rfl
theorem Le {a0 a1 a2 a3:AV}{H:Hp}{r:AV × Hp}(h:F3 JN GO cK a0 a1 a2 a3 H=some r):cK (.func (.func 78) [] []) [a0,a1,a2,a3] H=some r:=aO (first:=[]) (cap:=[]) ((aoG JN GO _ a0 a1 a2 a3 H).trans h)
noncomputable def MG (J:JT)(G:GT)(cf:CF)(a0 a1 a2 a3:AV)(H:Hp):R:=
 BN (bx 75 a0 H) fun i0 h1=>
 BN (aC h1 [.ae,(.int .i64 0),.ae,.ae] 75 0) fun i2 h3=>
 J 5 (fun j4=>
 J 6 (fun j5=>
 B1 (az 4 (.ptr i0 0) h3) fun v6=>
 B2 (cf (.func (.func 109) [] []) [v6,a1,a2] h3) fun v7 h8=>
 j5 a1 a2 a3 (.ptr i0 0) (.ptr i2 0) v7 h8) (fun x9 cZ bO bF br bH gY=>
 B1 (eT bH (.int .i64 0)) fun dN=>
 CD dN (
 B1 (fl [.ae,(.int .i64 0),.ae,.ae] []) fun l17=>
 B1 (st 4 br (.agg l17) gY) fun ik=>
 B1 (az 4 br ik) fun eZ=>
 some (.tuple [eZ,bH],ik)) (
 j4 x9 cZ bO bF br gY))) (fun bG aJ aE bp bM dP=>
 B1 (az 4 bp dP) fun v26=>
 B2 (cf (.func (.func 97) [] []) [v26] dP) fun v27 gQ=>
 B1 (st 4 bp v27 gQ) fun dF=>
 J 2 (fun C8=>
 B1 (fa 2 bp) fun v31=>
 B1 (ld v31 dF) fun v32=>
 B1 (fl [(.int .i64 0),(.int .i64 0),(.int .i64 0),(.str [])] [(0,1,(.int .i64 3)),(1,1,aJ),(3,1,aE)]) fun P5=>
 B1 (ia 4 v32 bG) fun eC=>
 B1 (st 4 eC (.agg P5) dF) fun iM=>
 C8 bp bM iM) (fun bw bI eW=>
 B2 (cf (.func (.func 106) [] []) [bw] eW) fun eJ rF=>
 B1 (az 4 bw rF) fun v41=>
 B1 (st 4 bI v41 rF) fun dW=>
 B1 (az 4 bI dW) fun jg=>
 some (.tuple [jg,(.int .i64 0)],dW)))
theorem aic (J:JT)(G:GT)(cf:CF)(a0 a1 a2 a3:AV)(H:Hp):fB P J G aR an cf 79 [a0,a1,a2,a3] H=MG J G cf a0 a1 a2 a3 H:=by kernel_rfl
theorem Zc {a0 a1 a2 a3:AV}{H:Hp}{r:AV × Hp}(h:MG JN GO cK a0 a1 a2 a3 H=some r):cK (.func (.func 79) [] []) [a0,a1,a2,a3] H=some r:=aO (first:=[]) (cap:=[]) ((aic JN GO _ a0 a1 a2 a3 H).trans h)
noncomputable def Nx (J:JT)(G:GT)(cf:CF)(a0 a1 a2:AV)(H:Hp):R:=
 J 4 (fun j0=>
 B1 (aT a0) fun v1=>
 B1 (fa 2 v1) fun v2=>
 B1 (ld v2 H) fun v3=>
 B1 (ia 4 v3 a1) fun v4=>
 B1 (aT a0) fun v5=>
 B1 (fa 0 v5) fun v6=>
 B1 (fa 0 v6) fun v7=>
 B1 (ld v7 H) fun v8=>
 B1 (ia 6 v8 a1) fun v9=>
 B1 (az 6 v9 H) fun v10=>
 BN (aC H [(.str []),.ae,(.int .i64 0),(.int .i64 0),(.int .i64 0),(.str [])] 99 0) fun i11 di=>
 B1 (st 6 (.ptr i11 0) v10 di) fun eR=>
 j0 a0 a2 v4 (.ptr i11 0) eR) (fun bH bu aS bc ik=>
 J 2 (fun cF=>
 J 5 (fun aD=>
 B1 (aT aS) fun v21=>
 B1 (fa 1 v21) fun v22=>
 B1 (ld v22 ik) fun v23=>
 B1 (fa 2 bc) fun v24=>
 B1 (ld v24 ik) fun v25=>
 B1 (oJ v23 v25) fun v26=>
 aD bH bu aS bc v26 ik) (fun cY dT cP cn bP cW=>
 CD bP (
 B1 (fa 4 cn) fun fC=>
 B1 (ld fC cW) fun eC=>
 B1 (aT cP) fun v35=>
 B1 (fa 1 v35) fun v36=>
 B1 (ld v36 cW) fun v37=>
 B2 (cf (.func (.func 145) [] []) [eC,v37] cW) fun iv kc=>
 B1 (bU dT iv) fun v40=>
 B1 (aT cP) fun v41=>
 B1 (fa 0 v41) fun eM=>
 B1 (st 1 eM (.int .i64 5) kc) fun Bq=>
 B1 (aT cP) fun v44=>
 B1 (fa 2 v44) fun eS=>
 B1 (st 1 eS v40 Bq) fun gV=>
 some (.tuple [],gV)) (
 cF cY cP cW))) (fun hJ ir np=>
 J 1 (fun mh=>
 B1 (aT ir) fun v51=>
 B1 (fa 0 v51) fun fI=>
 B1 (st 1 fI (.int .i64 4) np) fun fT=>
 B1 (aT ir) fun iR=>
 B1 (fa 2 iR) fun gH=>
 B1 (st 1 gH (.int .i64 0) fT) fun oq=>
 mh hJ oq) (fun eN iG=>
 B1 (aT eN) fun v59=>
 B1 (fa 1 v59) fun fW=>
 B1 (st 1 fW (.int .i64 2) iG) fun jj=>
 some (.tuple [],jj))))
theorem akw (J:JT)(G:GT)(cf:CF)(a0 a1 a2:AV)(H:Hp):fB P J G aR an cf 107 [a0,a1,a2] H=Nx J G cf a0 a1 a2 H:=by kernel_rfl
theorem XL {a0 a1 a2:AV}{H:Hp}{r:AV × Hp}(h:Nx JN GO cK a0 a1 a2 H=some r):cK (.func (.func 107) [] []) [a0,a1,a2] H=some r:=aO (first:=[]) (cap:=[]) ((akw JN GO _ a0 a1 a2 H).trans h)
noncomputable def Qp (J:JT)(G:GT)(cf:CF)(a0 a1 a2 a3:AV)(H:Hp):R:=
 BN (bx 75 a0 H) fun i0 h1=>
 BN (aC h1 [.ae,(.int .i64 0),.ae,.ae] 75 0) fun i2 h3=>
 J 4 (fun j4=>
 J 5 (fun j5=>
 B1 (az 4 (.ptr i0 0) h3) fun v6=>
 B2 (cf (.func (.func 109) [] []) [v6,a1,a2] h3) fun v7 h8=>
 j5 a1 a3 (.ptr i0 0) (.ptr i2 0) v7 h8) (fun x9 cZ bO bF br ki=>
 B1 (eT br (.int .i64 0)) fun dZ=>
 CD dZ (
 B1 (fl [.ae,(.int .i64 0),.ae,.ae] []) fun l16=>
 B1 (st 4 bF (.agg l16) ki) fun dO=>
 B1 (az 4 bF dO) fun dA=>
 some (.tuple [dA,br],dO)) (
 j4 x9 cZ bO bF ki))) (fun aL bG aJ aE bB=>
 B1 (az 4 aJ bB) fun v24=>
 B2 (cf (.func (.func 97) [] []) [v24] bB) fun v25 eg=>
 B1 (st 4 aJ v25 eg) fun eX=>
 B2 (cf (.func (.func 107) [] []) [aJ,aL,bG] eX) fun v28 dF=>
 B1 (az 4 aJ dF) fun v30=>
 B1 (st 4 aE v30 dF) fun gf=>
 B1 (az 4 aE gf) fun v32=>
 some (.tuple [v32,(.int .i64 0)],gf))
theorem acD {a0 a1 a2 a3:AV}{H:Hp}{r:AV × Hp}(h:Qp JN GO cK a0 a1 a2 a3 H=some r):cK (.func (.func 80) [] []) [a0,a1,a2,a3] H=some r:=aO (first:=[]) (cap:=[]) (aaK (by kernel_rfl) h)
noncomputable def AM (J:JT)(G:GT)(cf:CF)(cG:K.Fn 2)(eY:K.Fn 5)(bH bu aS bc aB:AV)(dm:Hp):R:=
 B1 (bX aB bc) fun v20=>
 CD v20 (
 J 5 (fun eQ=>
 J 5 (fun sY=>
 J 7 (fun ec=>
 B1 (fa 2 bu) fun v24=>
 B1 (ld v24 dm) fun v25=>
 B1 (ia 4 v25 aB) fun v26=>
 ec bH bu aS aB v26 bc aB dm) (fun cY dT cP cn bP eD cO gE=>
 J 5 (fun dI=>
 J 8 (fun xw=>
 B1 (fa 1 dT) fun v37=>
 B1 (ld v37 gE) fun iv=>
 B1 (eT iv (.int .i64 0)) fun eJ=>
 G eJ false (fun Sp=>
 Sp bP gE) (fun v41 dW=>
 G eJ false (fun wO=>
 B1 (aT v41) fun v44=>
 wO v44 dW) (fun eS gV=>
 G eJ false (fun Cx=>
 B1 (fa 2 eS) fun fS=>
 Cx fS gV) (fun v49 jW=>
 G eJ false (fun HW=>
 B1 (ld v49 jW) fun fI=>
 HW fI jW) (fun v53 nu=>
 G eJ false (fun I2=>
 I2 cY nu) (fun kN oW=>
 G eJ false (fun PC=>
 B1 (jA v53 kN) fun v59=>
 PC v59 oW) (fun fW jj=>
 B1 (pk eJ (.bool true) fW) fun iE=>
 xw cY dT cP cn bP eD cO iE jj) oW) nu) jW) gV) dW) gE) (fun iw fX fO qu jf gU jz jO lZ=>
 CD jO (
 dI iw fX fO gU jz lZ) (
 J 8 (fun se=>
 B1 (aT jf) fun jo=>
 B1 (fa 0 jo) fun kV=>
 B1 (ld kV lZ) fun v75=>
 B1 (cl v75 (.int .i64 2)) fun v76=>
 se iw fX fO qu jf gU jz v76 lZ) (fun fQ fL rT qw sW uu nU pg pw=>
 CD pg (
 B2 (cf (.func (.func 107) [] []) [fL,qw,fQ] pw) fun sK nh=>
 dI fQ fL rT uu nU nh) (
 J 7 (fun mK=>
 B1 (aT sW) fun tI=>
 B1 (fa 0 tI) fun pE=>
 B1 (ld pE pw) fun v91=>
 B1 (cl v91 (.int .i64 5)) fun yM=>
 mK fQ fL rT sW uu nU yM pw) (fun jI iQ qd vq ux vj nR uP=>
 CD nR (
 B1 (aT vq) fun yq=>
 B1 (fa 0 yq) fun uo=>
 B1 (st 1 uo (.int .i64 1) uP) fun mz=>
 B1 (aT vq) fun tD=>
 B1 (fa 2 tD) fun v105=>
 B1 (st 1 v105 (.int .i64 0) mz) fun Dw=>
 dI jI iQ qd ux vj Dw) (
 dI jI iQ qd ux vj uP))))))) (fun po nV kW lj mq we=>
 sY po nV kW lj mq we))) (fun ig mQ oz mY De G5=>
 eQ ig mQ oz mY De G5)) (fun rO qN tR tH yY wc=>
 B1 (bU yY (.int .i64 1)) fun yg=>
 eY rO qN tR tH yg wc)) (
 cG bu aS dm)
noncomputable def Bn (J:JT)(G:GT)(cf:CF)(cG:K.Fn 2):K.Fn 5:=dB P an J G cf 77 [1,1,0,1,0,0] [1,2,4,11,12] (fun q t H=>match Nat.beq q 0 with | true=>app 2 cG (aw [2,4] t) H | false=>(fun _ _ _=>none) q t H)
theorem apt (J:JT)(G:GT)(cf:CF)(cG:K.Fn 2)(eY:K.Fn 5)(bH bu aS bc aB:AV)(dm:Hp):jb P an J G cf 77 [1,1,0,1,0,0] [1,2,4,11,12] (fun q t H=>match Nat.beq q 0 with | true=>app 2 cG (aw [2,4] t) H | false=>(fun _ _ _=>none) q t H) eY [bH,bu,aS,bc,aB] dm=AM J G cf cG eY bH bu aS bc aB dm:=by kernel_rfl
theorem FE (cf:CF)(cG:K.Fn 2)(bH bu aS bc aB:AV)(dm:Hp):Bn JN GO cf cG bH bu aS bc aB dm=AM JN GO cf cG (Bn JN GO cf cG) bH bu aS bc aB dm:=aaK (b:=app 5 (Bn JN GO cf cG) [bH,bu,aS,bc,aB] dm) (by kernel_rfl) ((dQ cf _ _ _ _ [bH,bu,aS,bc,aB] rfl dm).trans (apt JN GO cf cG _ bH bu aS bc aB dm))
noncomputable def OZ (J:JT)(G:GT)(cf:CF)(a0 a1:AV)(H:Hp):R:=
 BN (bx 75 a0 H) fun i0 h1=>
 BN (aC h1 [.ae,(.int .i64 0),.ae,.ae] 75 0) fun i2 h3=>
 B1 (az 4 (.ptr i0 0) h3) fun v4=>
 B2 (cf (.func (.func 97) [] []) [v4] h3) fun v5 h6=>
 B1 (st 4 (.ptr i0 0) v5 h6) fun h7=>
 J 2 (fun j8=>
 B1 (fa 2 (.ptr i0 0)) fun v9=>
 B1 (ld v9 h7) fun v10=>
 B1 (aK v10) fun v11=>
 J 2 (fun cG=>
 Bn J G cf cG a1 (.ptr i0 0) (.ptr i2 0) v11 (.int .i64 0) h7) (fun jk gW Me=>
 j8 jk gW Me)) (fun jK jx Fh=>
 B1 (az 4 jK Fh) fun Fw=>
 B1 (st 4 jx Fw Fh) fun lR=>
 B1 (az 4 jx lR) fun T7=>
 some (T7,lR))
theorem amL (J:JT)(G:GT)(cf:CF)(a0 a1:AV)(H:Hp):fB P J G aR an cf 77 [a0,a1] H=OZ J G cf a0 a1 H:=by kernel_rfl
theorem avn {a0 a1:AV}{H:Hp}{r:AV × Hp}(h:OZ JN GO cK a0 a1 H=some r):cK (.func (.func 77) [] []) [a0,a1] H=some r:=aO (first:=[]) (cap:=[]) ((amL JN GO _ a0 a1 H).trans h)
noncomputable def El (J:JT)(G:GT)(cf:CF)(a0 a1:AV)(H:Hp):R:=
 BN (bx 75 a0 H) fun i0 h1=>
 BN (bx 9 a1 h1) fun i2 h3=>
 BN (aC h3 [.ae,(.int .i64 0),.ae,.ae] 75 0) fun i4 h5=>
 J 3 (fun j6=>
 B1 (fa 1 (.ptr i0 0)) fun v7=>
 B1 (ld v7 h5) fun v8=>
 B1 (eT v8 (.int .i64 0)) fun v9=>
 CD v9 (
 B1 (fl [.ae,(.int .i64 0),.ae,.ae] []) fun l10=>
 B1 (st 4 (.ptr i4 0) (.agg l10) h5) fun gq=>
 B1 (az 4 (.ptr i4 0) gq) fun v12=>
 some (.tuple [v12,(.int .i64 9)],gq)) (
 J 4 (fun eY=>
 B1 (fa 3 (.ptr i0 0)) fun cN=>
 B1 (ld cN h5) fun dZ=>
 B1 (ld (.ptr i2 0) h5) fun dN=>
 B2 (cf (.func (.func 94) [] []) [dZ,dN] h5) fun fG ik=>
 eY (.ptr i0 0) (.ptr i2 0) (.ptr i4 0) fG ik) (fun aL bG aJ aE bB=>
 CD aE (
 B1 (fl [.ae,(.int .i64 0),.ae,.ae] []) fun SD=>
 B1 (st 4 aJ (.agg SD) bB) fun dP=>
 B1 (az 4 aJ dP) fun v26=>
 some (.tuple [v26,(.int .i64 5)],dP)) (
 J 4 (fun gM=>
 B1 (fa 0 aL) fun v28=>
 B1 (fa 0 v28) fun v29=>
 B1 (ld v29 bB) fun v30=>
 B2 (cf (.func (.func 95) [] []) [v30,(.func (.func 110) [] [bG])] bB) fun v31 cW=>
 B1 (eu .not v31) fun fC=>
 gM aL bG aJ fC cW) (fun dq bZ bw bI eW=>
 CD bI (
 B1 (fl [.ae,(.int .i64 0),.ae,.ae] []) fun l39=>
 B1 (st 4 bw (.agg l39) eW) fun rF=>
 B1 (az 4 bw rF) fun v41=>
 some (.tuple [v41,(.int .i64 1)],rF)) (
 j6 dq bZ bw eW)))))) (fun eP dY gX jF=>
 B1 (az 4 eP jF) fun v46=>
 B2 (cf (.func (.func 97) [] []) [v46] jF) fun kD ue=>
 B1 (st 4 eP kD ue) fun np=>
 J 2 (fun mh=>
 B1 (fa 3 eP) fun v51=>
 B1 (ld v51 np) fun fI=>
 B1 (ld dY np) fun v53=>
 B1 (fl [(.str [])] [(0,1,v53)]) fun l54=>
 BN (aC np l54 9 0) fun i55 oq=>
 B2 (eV 9 1 [(.str [])] false fI (.slice i55 0 1 1 true 1) oq) fun v57 iG=>
 B1 (fa 3 eP) fun v59=>
 B1 (st 1 v59 v57 iG) fun CU=>
 mh eP gX CU) (fun dL jD vV=>
 B2 (cf (.func (.func 106) [] []) [dL] vV) fun v64 oh=>
 B1 (az 4 dL oh) fun mu=>
 B1 (st 4 jD mu oh) fun Ae=>
 B1 (az 4 jD Ae) fun nX=>
 some (.tuple [nX,(.int .i64 0)],Ae)))
theorem alZ (J:JT)(G:GT)(cf:CF)(a0 a1:AV)(H:Hp):fB P J G aR an cf 81 [a0,a1] H=El J G cf a0 a1 H:=by kernel_rfl
theorem Mj {a0 a1:AV}{H:Hp}{r:AV × Hp}(h:El JN GO cK a0 a1 H=some r):cK (.func (.func 81) [] []) [a0,a1] H=some r:=aO (first:=[]) (cap:=[]) ((alZ JN GO _ a0 a1 H).trans h)
noncomputable def XE (J:JT)(G:GT)(cf:CF)(a0 a1:AV)(H:Hp):R:=
 BN (bx 99 a0 H) fun i0 h1=>
 B1 (fa 5 (.ptr i0 0)) fun v2=>
 B1 (ld v2 h1) fun v3=>
 B1 (ld a1 h1) fun v4=>
 B1 (seq v3 v4) fun v5=>
 G v5 true (fun k6=>
 B1 (ld a1 h1) fun v7=>
 k6 v7 h1) (fun v8 h9=>
 G v5 true (fun xn=>
 B1 (qL v8 (.str [])) fun v11=>
 xn v11 h9) (fun v12 eR=>
 B1 (pk v5 v12 (.bool false)) fun cN=>
 some (cN,eR)) h9) h1
theorem apP {a0 a1:AV}{H:Hp}{r:AV × Hp}(h:XE JN GO cK a0 a1 H=some r):cK (.func (.func 110) [] [a1]) [a0] H=some r:=aO (first:=[]) (cap:=[a1]) (aaK (by kernel_rfl) h)
noncomputable def EO (J:JT)(G:GT)(cf:CF)(a0 a1:AV)(H:Hp):R:=
 BN (bx 75 a0 H) fun i0 h1=>
 BN (bx 75 a1 h1) fun i2 h3=>
 B1 (fa 1 (.ptr i0 0)) fun v4=>
 B1 (ld v4 h3) fun v5=>
 B1 (fa 1 (.ptr i2 0)) fun v6=>
 B1 (ld v6 h3) fun v7=>
 B1 (cl v5 v7) fun v8=>
 G v8 true (fun k9=>
 B1 (fa 2 (.ptr i0 0)) fun v10=>
 k9 v10 h3) (fun v11 di=>
 G v8 true (fun C6=>
 B1 (ld v11 di) fun cN=>
 C6 cN di) (fun dZ bJ=>
 G v8 true (fun Jl=>
 B1 (fa 2 (.ptr i2 0)) fun dA=>
 Jl dA bJ) (fun eZ cC=>
 G v8 true (fun BS=>
 B1 (ld eZ cC) fun v22=>
 BS v22 cC) (fun v23 ic=>
 G v8 true (fun BU=>
 B2 (cf (.func (.func 73) [] []) [dZ,v23] ic) fun v26 eX=>
 BU v26 eX) (fun v28 dF=>
 B1 (pk v8 v28 (.bool false)) fun v30=>
 G v30 true (fun wM=>
 B1 (fa 3 (.ptr i0 0)) fun v32=>
 wM v32 dF) (fun fC gE=>
 G v30 true (fun tZ=>
 B1 (ld fC gE) fun v36=>
 tZ v36 gE) (fun v37 eW=>
 G v30 true (fun zM=>
 B1 (fa 3 (.ptr i2 0)) fun v40=>
 zM v40 eW) (fun v41 dW=>
 G v30 true (fun wO=>
 B1 (ld v41 dW) fun v44=>
 wO v44 dW) (fun eS gV=>
 G v30 true (fun Cx=>
 B2 (cf (.func (.func 74) [] []) [v37,eS] gV) fun fS np=>
 Cx fS np) (fun fN oa=>
 B1 (pk v30 fN (.bool false)) fun fI=>
 G fI true (fun tM=>
 B1 (fa 0 (.ptr i0 0)) fun iR=>
 tM iR oa) (fun gH oq=>
 G fI true (fun k57=>
 B1 (fa 0 gH) fun nb=>
 k57 nb oq) (fun v59 CU=>
 G fI true (fun k61=>
 B1 (ld v59 CU) fun iE=>
 k61 iE CU) (fun v63 pW=>
 G fI true (fun k65=>
 B1 (fa 0 (.ptr i2 0)) fun mu=>
 k65 mu pW) (fun lX yC=>
 G fI true (fun k69=>
 B1 (fa 0 lX) fun v70=>
 k69 v70 yC) (fun qc me=>
 G fI true (fun U5=>
 B1 (ld qc me) fun kV=>
 U5 kV me) (fun v75 lf=>
 G fI true (fun Hj=>
 Hj (.func (.func 71) [] []) lf) (fun qh iY=>
 G fI true (fun JV=>
 B2 (cf (.func (.func 75) [] []) [v63,v75,qh] iY) fun kE uR=>
 JV kE uR) (fun mX qH=>
 B1 (pk fI mX (.bool false)) fun v85=>
 some (v85,qH)) iY) lf) me) yC) pW) CU) oq) oa) gV) dW) eW) gE) dF) ic) cC) bJ) di) h3
theorem agy (J:JT)(G:GT)(cf:CF)(a0 a1:AV)(H:Hp):fB P J G aR an cf 36 [a0,a1] H=EO J G cf a0 a1 H:=by kernel_rfl
theorem KR {a0 a1:AV}{H:Hp}{r:AV × Hp}(h:EO JN GO cK a0 a1 H=some r):cK (.func (.func 36) [] []) [a0,a1] H=some r:=aO (first:=[]) (cap:=[]) ((agy JN GO _ a0 a1 H).trans h)
noncomputable def Ux (J:JT)(G:GT)(cf:CF)(a0 a1:AV)(H:Hp):R:=
 BN (bx 99 a0 H) fun i0 h1=>
 BN (bx 99 a1 h1) fun i2 h3=>
 B1 (fa 1 (.ptr i0 0)) fun v4=>
 B1 (ld v4 h3) fun v5=>
 B1 (fa 1 (.ptr i2 0)) fun v6=>
 B1 (ld v6 h3) fun v7=>
 B2 (cf (.func (.func 72) [] []) [v5,v7] h3) fun v8 h9=>
 G v8 true (fun xn=>
 B1 (fa 0 (.ptr i0 0)) fun v11=>
 xn v11 h9) (fun v12 eR=>
 G v8 true (fun zZ=>
 B1 (ld v12 eR) fun dZ=>
 zZ dZ eR) (fun dN dO=>
 G v8 true (fun J5=>
 B1 (fa 0 (.ptr i2 0)) fun eZ=>
 J5 eZ dO) (fun v20 lA=>
 G v8 true (fun Iv=>
 B1 (ld v20 lA) fun v23=>
 Iv v23 lA) (fun v24 dP=>
 G v8 true (fun Ck=>
 B1 (seq dN v24) fun v27=>
 Ck v27 dP) (fun v28 dF=>
 B1 (pk v8 v28 (.bool false)) fun v30=>
 G v30 true (fun wM=>
 B1 (fa 2 (.ptr i0 0)) fun v32=>
 wM v32 dF) (fun fC gE=>
 G v30 true (fun tZ=>
 B1 (ld fC gE) fun v36=>
 tZ v36 gE) (fun v37 eW=>
 G v30 true (fun zM=>
 B1 (fa 2 (.ptr i2 0)) fun v40=>
 zM v40 eW) (fun v41 dW=>
 G v30 true (fun wO=>
 B1 (ld v41 dW) fun v44=>
 wO v44 dW) (fun eS gV=>
 G v30 true (fun Cx=>
 B1 (cl v37 eS) fun fS=>
 Cx fS gV) (fun v49 jW=>
 B1 (pk v30 v49 (.bool false)) fun v51=>
 G v51 true (fun yE=>
 B1 (fa 3 (.ptr i0 0)) fun v53=>
 yE v53 jW) (fun iR xm=>
 G v51 true (fun CM=>
 B1 (ld iR xm) fun v57=>
 CM v57 xm) (fun nb A8=>
 G v51 true (fun k60=>
 B1 (fa 3 (.ptr i2 0)) fun nQ=>
 k60 nQ A8) (fun iE vV=>
 G v51 true (fun k64=>
 B1 (ld iE vV) fun lB=>
 k64 lB vV) (fun mu Ae=>
 G v51 true (fun k68=>
 B1 (cl nb mu) fun mT=>
 k68 mT Ae) (fun v70 lZ=>
 B1 (pk v51 v70 (.bool false)) fun v72=>
 G v72 true (fun U5=>
 B1 (fa 4 (.ptr i0 0)) fun kV=>
 U5 kV lZ) (fun v75 lf=>
 G v72 true (fun Hj=>
 B1 (ld v75 lf) fun qh=>
 Hj qh lf) (fun mf vJ=>
 G v72 true (fun P0=>
 B1 (fa 4 (.ptr i2 0)) fun mS=>
 P0 mS vJ) (fun mX qH=>
 G v72 true (fun UA=>
 B1 (ld mX qH) fun sK=>
 UA sK qH) (fun v87 AD=>
 G v72 true (fun Ta=>
 B1 (cl mf v87) fun pE=>
 Ta pE AD) (fun v91 u7=>
 B1 (pk v72 v91 (.bool false)) fun v93=>
 G v93 true (fun k94=>
 B1 (fa 5 (.ptr i0 0)) fun Jf=>
 k94 Jf u7) (fun lF yy=>
 G v93 true (fun SX=>
 B1 (ld lF yy) fun wu=>
 SX wu yy) (fun CZ tc=>
 G v93 true (fun Ra=>
 B1 (fa 5 (.ptr i2 0)) fun vC=>
 Ra vC tc) (fun tD uO=>
 G v93 true (fun S4=>
 B1 (ld tD uO) fun v107=>
 S4 v107 uO) (fun vD zk=>
 G v93 true (fun UJ=>
 B1 (seq CZ vD) fun yL=>
 UJ yL zk) (fun B8 Bj=>
 B1 (pk v93 B8 (.bool false)) fun xg=>
 some (xg,Bj)) zk) uO) tc) yy) u7) AD) qH) vJ) lf) lZ) Ae) vV) A8) xm) jW) gV) dW) eW) gE) dF) dP) lA) dO) eR) h9
theorem atL (J:JT)(G:GT)(cf:CF)(a0 a1:AV)(H:Hp):fB P J G aR an cf 71 [a0,a1] H=Ux J G cf a0 a1 H:=by kernel_rfl
theorem aij {a0 a1:AV}{H:Hp}{r:AV × Hp}(h:Ux JN GO cK a0 a1 H=some r):cK (.func (.func 71) [] []) [a0,a1] H=some r:=aO (first:=[]) (cap:=[]) ((atL JN GO _ a0 a1 H).trans h)
noncomputable def Lq (J:JT)(G:GT)(cf:CF)(eQ:K.Fn 1)(sY:K.Fn 3)(bp bM bS:AV)(eg:Hp):R:=
 J 3 (fun gM=>
 J 4 (fun iX=>
 B1 (bX bS bp) fun v29=>
 G v29 true (fun IF=>
 IF bM eg) (fun v31 cW=>
 G v29 true (fun Jd=>
 B1 (bX v31 (.int .i64 64000)) fun eC=>
 Jd eC cW) (fun v35 nL=>
 B1 (pk v29 v35 (.bool false)) fun v37=>
 iX bp bM bS v37 nL) cW) eg) (fun bQ cH cj dS dW=>
 CD dS (
 gM bQ cH cj dW) (
 eQ cH dW))) (fun dY gX fy gV=>
 B1 (Cl gX (.int .u64 1)) fun kD=>
 B2 (gS P .min #[2,2] [kD,(.int .i64 64000)] gV) fun fS np=>
 B1 (bU fy (.int .i64 1)) fun fN=>
 sY dY fS fN np)
noncomputable def Jw (J:JT)(G:GT)(cf:CF)(eQ:K.Fn 1):K.Fn 3:=dB P an J G cf 145 [1,1,1,0,1,0,0] [1,5,6] (fun q t H=>match Nat.beq q 0 with | true=>app 1 eQ (aw [5] t) H | false=>(fun _ _ _=>none) q t H)
theorem XQ (cf:CF)(eQ:K.Fn 1)(bp bM bS:AV)(eg:Hp):Jw JN GO cf eQ bp bM bS eg=Lq JN GO cf eQ (Jw JN GO cf eQ) bp bM bS eg:=aaK (b:=app 3 (Jw JN GO cf eQ) [bp,bM,bS] eg) (by kernel_rfl) ((dQ cf 145 [1,1,1,0,1,0,0] [1,5,6] _ [bp,bM,bS] rfl eg).trans (by kernel_rfl))
noncomputable def Ya (J:JT)(G:GT)(cf:CF)(a0 a1:AV)(H:Hp):R:=
 J 2 (fun j0=>
 J 3 (fun j1=>
 B1 (bX a0 (.int .i64 1)) fun v2=>
 G v2 false (fun k3=>
 k3 a1 H) (fun v4 h5=>
 G v2 false (fun k6=>
 B1 (bX v4 (.int .i64 1)) fun v7=>
 k6 v7 h5) (fun v8 h9=>
 B1 (pk v2 (.bool true) v8) fun v10=>
 j1 a0 a1 v10 h9) h5) H) (fun bO bF br ki=>
 CD br (
 some ((.int .i64 0),ki)) (
 j0 bO bF ki))) (fun bu aS dO=>
 B2 (gS P .min #[2,2] [bu,(.int .i64 64000)] dO) fun dA dm=>
 J 1 (fun aD=>
 J 1 (fun eQ=>
 Jw J G cf eQ aS dA (.int .i64 1) dm) (fun ml tE=>
 aD ml tE)) (fun jE nu=>
 some (jE,nu)))
theorem amY {a0 a1:AV}{H:Hp}{r:AV × Hp}(h:Ya JN GO cK a0 a1 H=some r):cK (.func (.func 145) [] []) [a0,a1] H=some r:=aO (first:=[]) (cap:=[]) (aaK (by kernel_rfl) h)
noncomputable def aeb (J:JT)(G:GT)(cf:CF)(a0 a1:AV)(H:Hp):R:=
 B2 (cf (.func (.func 86) [] []) [a0,a1] H) fun v0 h1=>
 B1 (mH v0 (.int .i64 0)) fun v2=>
 some (v2,h1)
theorem avI {a0 a1:AV}{H:Hp}{r:AV × Hp}(h:aeb JN GO cK a0 a1 H=some r):cK (.func (.func 50) [] []) [a0,a1] H=some r:=aO (first:=[]) (cap:=[]) (aaK (by kernel_rfl) h)
noncomputable def aaz (J:JT)(G:GT)(cf:CF)(a0 a1:AV)(H:Hp):R:=
 B2 (cf (.func (.func 115) [] []) [a0,a1,(.bool true)] H) fun v0 h1=>
 some (v0,h1)
theorem as7 {a0 a1:AV}{H:Hp}{r:AV × Hp}(h:aaz JN GO cK a0 a1 H=some r):cK (.func (.func 86) [] []) [a0,a1] H=some r:=aO (first:=[]) (cap:=[]) (aaK (by kernel_rfl) h)
noncomputable def Nw (J:JT)(G:GT)(cf:CF)(j3:K.Fn 0)(j4:K.Fn 3)(x5 x6 x7:AV)(h8:Hp):R:=
 B2 (ye x7 true h8) fun v9 cL=>
 B1 (ex 0 v9) fun v11=>
 CD v11 (
 B1 (ex 1 v9) fun v12=>
 B1 (ex 2 v9) fun dV=>
 J 5 (fun bY=>
 B2 (cf x5 [dV] cL) fun dZ bJ=>
 B1 (bb .eql dZ x6) fun fG=>
 bY x5 x6 v12 x7 fG bJ) (fun aB aL bG aJ aE bB=>
 CD aE (
 some (bG,bB)) (
 j4 aB aL aJ bB))) (
 j3  cL)
noncomputable def KG (J:JT)(G:GT)(cf:CF)(j3:K.Fn 0):K.Fn 3:=dB P an J G cf 115 [1,0,1,0,0] [1,2,10] (fun q t H=>match Nat.beq q 0 with | true=>app 0 j3 (aw [] t) H | false=>(fun _ _ _=>none) q t H)
theorem UX (cf:CF)(j3:K.Fn 0)(x5 x6 x7:AV)(h8:Hp):KG JN GO cf j3 x5 x6 x7 h8=Nw JN GO cf j3 (KG JN GO cf j3) x5 x6 x7 h8:=aaK (b:=app 3 (KG JN GO cf j3) [x5,x6,x7] h8) (by kernel_rfl) ((dQ cf 115 [1,0,1,0,0] [1,2,10] _ [x5,x6,x7] rfl h8).trans (by kernel_rfl))
noncomputable def XI (J:JT)(G:GT)(cf:CF)(a0 a1 a2:AV)(H:Hp):R:=
 J 0 (fun j0=>
 B2 (zH P 9 a0 H) fun v1 h2=>
 J 0 (fun j3=>
 KG J G cf j3 a1 a2 v1 h2) (fun  ic=>
 j0  ic)) (fun  dP=>
 some ((.int .i64 (-1)),dP))
theorem atz {a0 a1 a2:AV}{H:Hp}{r:AV × Hp}(h:XI JN GO cK a0 a1 a2 H=some r):cK (.func (.func 115) [] []) [a0,a1,a2] H=some r:=aO (first:=[]) (cap:=[]) (aaK (by kernel_rfl) h)
end
end Go.Proofs.YtodfajmihkagnaaGreatDoor.DfK
