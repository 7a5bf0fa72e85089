/- Laws that the proof uses. -/
import Derived.Test.YtodfajmihkagnaaGreatDoorAm9
import Derived.Test.YtodfajmihkagnaaGreatDoorShelf
import Derived.ProofKit
import Derived.Shelf.SortM.Plain
import Derived.Shelf.SortM.SortNone
import Derived.Shelf.Strconv.Itoa0
import Derived.Shelf.Strconv.Itoa2
import Derived.Shelf.Strconv.AtoiAll
import Derived.Test.YtodfajmihkagnaaGreatDoorAm14
import Derived.Test.YtodfajmihkagnaaGreatDoorProg
import Derived.Test.YtodfajmihkagnaaGreatDoorRows
import Derived.KernelRfl
set_option maxRecDepth 100000
set_option linter.unusedVariables false
set_option linter.unusedSimpArgs false
namespace Go.Proofs.YtodfajmihkagnaaGreatDoor.TA
open Go Go.Proofs Go.RowKit Go.Shelf
theorem ae2:Am.xr Tryz.prog 91 Am.Ec:=by
 refine Am.aoN (fun aS w=>Am.vp (by unfold Am.nX;kernel_rfl) Tryz.func91 rfl aS w) ?_
 intro s c w hs hc ha
 exact Any.strings_Trim_laid Tryz.lays160 (by kernel_rfl) s c w hs hc ha
end Go.Proofs.YtodfajmihkagnaaGreatDoor.TA
namespace Go.Proofs.YtodfajmihkagnaaGreatDoor.hZ
open Go Am Go.Sort Go.RowKit Go.Proofs
def Lk:AV->Option Int
 | .int .i64 z=>some z
 | _=>none
def xW:List AV->Option (List Int)
 | []=>some []
 | v::r=>match Lk v,xW r with
  | some z,some l=>some (z::l)
  | _,_=>none
def qu (l:List Int):List AV:=l.map (AV.int .i64)
def pA (l:List Int):List Int:=l.mergeSort fun x y=>decide (x<=y)
theorem ai7 {v:AV}{z:Int}(h:Lk v=some z):v = .int .i64 z:=by
 unfold Lk at h
 split at h
 ·cases h;rfl
 ·cases h
theorem abK:∀ {l:List AV} {zs:List Int},xW l=some zs->l=qu zs
 | [],zs,h=>by cases h;rfl
 | v::r,zs,h=>by
  unfold xW at h
  split at h
  ·rename_i z l h1 h2
   cases h
   rw[ai7 h1,abK h2]
   rfl
  ·cases h
theorem Wv:∀ (zs:List Int),xW (qu zs)=some zs
 | []=>rfl
 | z::zs=>by
  show (match Lk (AV.int .i64 z),xW (qu zs) with | some z,some l=>some (z::l) | _,_=>none)=_
  rw[Wv zs]
  rfl
theorem Ua (l:List Int):(pA l).length=l.length:=(List.mergeSort_perm l _).length_eq
noncomputable section
def afB (H:Hp)(i off:Nat)(c:Tr AV)(lo hi el fl:Nat)(r:Option (List Int)):Option (AV × Hp):=match r with
 | some zs=>some (.tuple [],{ H with h:=H.h.bO i (.cells (c.bZ off (qu (pA zs))) lo hi el fl) })
 | none=>none
open Classical in
def QU (H:Hp)(i off n:Nat)(o:AO):Option (AV × Hp):=match o with
 | .cells c lo hi el fl=>if lo<=off/\off+n<=hi/\fl<=1 then afB H i off c lo hi el fl ((av H i off n).bind xW) else none
 | _=>none
open Classical in
def sU:Prim:=fun args H=>match args with
 | [.ah]=>some (.tuple [],H)
 | [.slice i off n cap ex es]=>if n=0 then some (.tuple [],H) else if es=1/\n<4611686018427387904 then (H.h.get i).bind (QU H i off n) else none
 | _=>none
end
theorem GL (e:Em):VR e (.tuple []) (.tuple #[]) := .tuple [] #[] rfl (fun i v v' h=>by simp at h)
theorem amZ {f:Nat}(CQ:∀ aS w,(callFunc f aS).run Tryz.prog w = .ok (.enter f aS) w)
  (h0:∀ (p:Option Addr) (cap:Nat) (w:World),Calls Tryz.prog f #[.slice p 0 cap] w fun e w'=>e = .returned (.tuple #[])/\w'=w)
  (h1:∀ (cg off cap:Nat) (zs:List Int) (w:World),Holds (Value.int .i64) w cg off zs.toArray->cg<w.heap.size->zs.length<4611686018427387904->
   Calls Tryz.prog f #[.slice (some ⟨cg,off,none⟩) zs.length cap] w fun e w'=>e = .returned (.tuple #[])/\∃ n os,w'=grow (putRow (Value.int .i64) (Sort.ahead w n) cg off (zs.mergeSort fun x y=>decide (x<=y)).toArray) os):xr Tryz.prog f sU:=by
 intro args H v H' hp Fr W e w aS hR ha
 unfold sU at hp
 split at hp
 ·obtain⟨a',r1,e1,lF,iq⟩:=ha.cons_inv
  have e3:=iq.jP
  subst e3
  cases hp
  cases lF
  obtain rfl:aS = #[.slice none 0 0]:=adZ.1 e1
  refine⟨CQ _ _,(h0 none 0 w).mono ?_⟩
  rintro en w' ⟨rfl,rfl⟩
  exact⟨e,_,rfl,e.le_refl,hR,GL e⟩
 ·rename_i i off n cap ex es
  obtain⟨a',r1,e1,lF,iq⟩:=ha.cons_inv
  have e3:=iq.jP
  subst e3
  split at hp
  ·rename_i lu
   subst lu
   cases hp
   rcases lF.lz with⟨o,c,k1,k2,k3,k4,k5,k6,rfl⟩ | ⟨_,_,a,rfl⟩
   ·obtain rfl:aS = #[.slice (some ⟨e.b i,o,none⟩) 0 c]:=adZ.1 e1
    refine⟨CQ _ _,(h0 _ c w).mono ?_⟩
    rintro en w' ⟨rfl,rfl⟩
    exact⟨e,_,rfl,e.le_refl,hR,GL e⟩
   ·obtain rfl:aS = #[.slice (some a) 0 0]:=adZ.1 e1
    refine⟨CQ _ _,(h0 _ 0 w).mono ?_⟩
    rintro en w' ⟨rfl,rfl⟩
    exact⟨e,_,rfl,e.le_refl,hR,GL e⟩
  ·rename_i lu
   split at hp
   ·rename_i dy
    obtain⟨rfl,AY⟩:=dy
    rcases lF.lz with⟨o,cc,k1,k2,k3,k4,k5,k6,rfl⟩ | ⟨q,_,a,rfl⟩
    ·obtain⟨ob0,hg,hp⟩:=aa3.1 hp
     unfold QU at hp
     split at hp
     ·rename_i c lo hi el fl
      split at hp
      ·rename_i sF
       obtain⟨g1,g2,g3⟩:=sF
       cases hr:(av H i off n).bind xW with
       | none=>rw[hr] at hp;cases hp
       | some zs=>
        rw[hr] at hp
        cases hp
        obtain⟨l,hl,hz⟩:=aa3.1 hr
        have ZJ:=abK hz
        obtain⟨cs,c1,c2,c3⟩:=hR.yp hl k2
        have hzn:zs.length=n:=by rw[<-c2,c1.1,ZJ];simp[qu]
        have fu:∀ j z,zs[j]? = some z->w.cell? ⟨e.b i,o+j,none⟩=some (.int .i64 z):=by
         intro j z hj
         obtain⟨v',bQ,eH⟩:=c1.get (i:=j) (v := .int .i64 z) (by rw[ZJ];simp[qu,hj])
         have:=eH.fF
         subst this
         exact c3 j _ bQ
        obtain⟨hN,ob,dP,dK,hF⟩:=hR.obj i _ hg
        cases dK with
        | cells _ _ _ _ _ C fz hn gZ Q7 z8 hd=>
         have eF:o+n<=C.size:=by rw[hn];omega
         have hH:Holds (Value.int .i64) w (e.b i) o zs.toArray:=by
          intro j hj
          have iQ:j<zs.length:=by simpa using hj
          refine⟨?_,?_⟩
          ·rw[fu j zs[j] (aau iQ)]
           simp[iQ]
          ·have:=z8 g3 (o+j) (by omega)
           simp only[World.frozen?,dP]
           exact this
         obtain rfl:aS = #[.slice (some ⟨e.b i,o,none⟩) n cc]:=adZ.1 e1
         have EP:=h1 (e.b i) o cc zs w hH (acH.1 dP).1 (by omega)
         rw[hzn] at EP
         refine⟨CQ _ _,EP.mono ?_⟩
         rintro en w' ⟨rfl,m,os,rfl⟩
         refine⟨e,_,rfl,e.le_refl,?_,GL e⟩
         have oh:=hR.drawn (w.drawn+m)
         have aC:(zs.mergeSort fun x y=>decide (x<=y))=pA zs:=rfl
         have og:=Ua zs
         rw[aC]
         generalize pA zs=ss at *
         have gN:RH Tryz.prog.globals.size Fr W e { H with h:=H.h.bO i (.cells (c.bZ off (qu ss)) lo hi el fl) } (putRow (Value.int .i64) (Sort.ahead w m) (e.b i) o ss.toArray):=by
          refine oh.put hg (by simp[wr,g3]) (oO := .cells (putCells (Value.int .i64) o ss.toArray C) el fz) ?_ ?_ ?_ ?_ rfl rfl rfl
          ·simp[putRow,mapBlock,Sort.ahead]
          ·simp only[putRow,mapBlock,Sort.ahead]
           rw[Db _ _ _ dP]
           rfl
          ·intro k hk
           simp only[putRow,mapBlock,Sort.ahead]
           rw[CT _ _ _ _ (fun q=>hk q.symm)]
          ·have kq:(putCells (Value.int .i64) o ss.toArray C).size=C.size:=by simp[putCells]
           refine .cells _ lo hi el fl _ fz (by rw[kq];exact hn) ?_ Q7 (by rw[kq];exact z8) hd
           intro k u a b hk
           rw[Tr.uH] at hk
           have ic:(qu ss).length=n:=by simp[qu];omega
           rw[ic] at hk
           by_cases gX:off<=k/\k<off+n
           ·rw[if_pos gX] at hk
            have pW:k-off<ss.length:=by omega
            have hu:u = .int .i64 ss[k-off]:=by
             have:(qu ss)[k-off]? = some (.int .i64 ss[k-off]):=by simp[qu,pW]
             rw[this] at hk
             exact (adw hk).symm
            subst hu
            refine⟨o+(k-off),by omega,.int .i64 ss[k-off],?_,.int _ _⟩
            have hC:o+(k-off)<C.size:=by omega
            simp only[putCells]
            rw[Array.getElem?_mapIdx,afn hC]
            simp only[aek,List.size_toArray]
            rw[if_pos (by omega),aex]
            simp[pW]
           ·rw[if_neg gX] at hk
            obtain⟨J1,yN,u',iL,eH⟩:=gZ k u a b hk
            refine⟨J1,yN,u',?_,eH⟩
            simp only[putCells]
            rw[Array.getElem?_mapIdx,iL]
            simp only[aek,List.size_toArray]
            rw[if_neg (by omega)]
         exact gN.below ⟨rfl,rfl,rfl,by simp[grow],fun k hk=>by
          simp only[grow]
          rw[Array.getElem?_append_left hk]⟩
      ·cases hp
     ·cases hp
    ·omega
   ·cases hp
 ·cases hp
theorem ak3:xr Tryz.prog 192 sU:=
 amZ (fun aS w=>vp (by unfold nX;kernel_rfl) Tryz.func192 rfl aS w)
  (fun p cap w=>AnyM.slices_Sort_int_none Tryz.sortN p cap w) (fun cg off cap zs w hH hb hl=>AnyM.slices_Sort_int Tryz.sortN cg off cap zs w hH hb hl)
end Go.Proofs.YtodfajmihkagnaaGreatDoor.hZ
namespace Go.Proofs.YtodfajmihkagnaaGreatDoor.jQ
open Go Am Go.Sort Go.RowKit Go.Proofs hZ
theorem MY:nX Tryz.prog:=by unfold nX;kernel_rfl
noncomputable section
open Classical in
def GZ:Prim:=fun args H=>match args with
 | [.int .u64 x]=>if 0<=x/\x<=18446744073709551615 then some (.int .i64 (Lib.bitLen x.toNat),H) else none
 | _=>none
def nG (u n:Nat):List AV:=(List.range n).map fun t=>AV.int .u8 ((Lib.dg u (n-1-t)).toNat)
open Classical in
def Rt (H:Hp)(i off n u:Nat)(o:AO):Option (AV × Hp):=match o with
 | .cells c lo hi el fl=>if lo<=off/\off+n<=hi/\fl<=1/\(∃ l,av H i off n=some l/\∀ v∈l,∃ b:Nat,b<256/\v = .int .u8 b) then some (.tuple [],{ H with h:=H.h.bO i (.cells (c.bZ off (nG u n)) lo hi el fl) }) else none
 | _=>none
open Classical in
def Gi:Prim:=fun args H=>match args with
 | [.slice i off n cap ex es,.int .u64 u]=>if es=1/\0<n/\n<4611686018427387904/\0<=u/\u<18446744073709551616/\u.toNat<10 ^ n then (H.h.get i).bind (Rt H i off n u.toNat) else none
 | _=>none
structure IC (H:Hp):Prop where
 syn:∃ t p,cellAt H 6 0=some (.iface t p)
 Tc:∃ t p,cellAt H 7 0=some (.iface t p)
def vT (s:List Nat):List UInt8:=s.map UInt8.ofNat
def JE (s:List Nat):AV:=match Lib.atoiAll (vT s) with
 | .ok v => .tuple [.int .i64 v,.nilIface]
 | .range => .tuple [.int .i64 (Lib.atoiSat (vT s)),.iface 269 .cU]
 | _ => .tuple [.int .i64 0,.iface 269 .cU]
open Classical in
def Fv:Prim:=fun args H=>match args with
 | [.str s]=>if IC H/\s.length<=281474976710656 then some (JE s,H) else none
 | _=>none
end
theorem acp:xr Tryz.prog 182 GZ:=by
 intro args H v H' hp F W e w aS hR ha
 unfold GZ at hp
 split at hp
 ·rename_i x
  split at hp
  ·rename_i hx
   cases hp
   obtain⟨a',r1,e1,lF,iq⟩:=ha.cons_inv
   have e3:=iq.jP
   subst e3
   have:=lF.fF
   subst this
   obtain rfl:aS = #[.int .u64 x]:=adZ.1 e1
   refine⟨vp MY Tryz.func182 rfl _ w,(Any.bits_Len64 Tryz.lays129 x w hx.1 hx.2).mono ?_⟩
   rintro en w' ⟨rfl,rfl⟩
   exact⟨e,_,rfl,e.le_refl,hR,.int _ _⟩
  ·cases hp
 ·cases hp
theorem VR.two {e:Em}{a b:AV}{a' b':Value}(h:VR e a a')(k:VR e b b'):VR e (.tuple [a,b]) (.tuple #[a',b']):=by
 refine .tuple _ _ rfl ?_
 intro i v v' h1 h2
 match i,h1,h2 with
 | 0,h1,h2=>cases h1;cases h2;exact h
 | 1,h1,h2=>cases h1;cases h2;exact k
theorem an7:xr Tryz.prog 166 Gi:=by
 intro args H v H' hp Fr W e w aS hR ha
 unfold Gi at hp
 split at hp
 ·rename_i i off n cap ex es u
  obtain⟨a',r1,e1,lF,iq⟩:=ha.cons_inv
  obtain⟨b',r2,e2,vb,nM⟩:=iq.cons_inv
  have e3:=nM.jP
  subst e3
  have iL:=vb.fF
  subst iL
  split at hp
  ·rename_i hc
   obtain⟨rfl,lu,AY,hu0,aqG,ZQ⟩:=hc
   obtain⟨un,rfl⟩:∃ un:Nat,u=un:=⟨u.toNat,by omega⟩
   rw[acT] at hp ZQ
   rcases lF.lz with⟨o,cc,k1,k2,k3,k4,k5,k6,rfl⟩ | ⟨q,_,a,rfl⟩
   ·obtain⟨ob0,hg,hp⟩:=aa3.1 hp
    unfold Rt at hp
    split at hp
    ·rename_i c lo hi el fl
     split at hp
     ·rename_i sF
      obtain⟨g1,g2,g3,l,hl,mr⟩:=sF
      cases hp
      obtain⟨cs,c1,c2,c3⟩:=hR.yp hl k2
      have nu:l.length=n:=by rw[<-c1.1,c2]
      obtain⟨d,gp,pG⟩:∃ d:List UInt8,d.length=n/\∀ (j:Nat) (z:UInt8),d[j]? = some z->l[j]? = some (AV.int .u8 (z.toNat:Int)):=by
       refine⟨l.map fun v=>match v with | AV.int _ b=>UInt8.ofNat b.toNat | _=>0,by simp[nu],fun j z hj => ?_⟩
       rw[adX,aaa] at hj
       obtain⟨v,hv,rfl⟩:=hj
       obtain⟨b,hb,rfl⟩:=mr v (aaF hv)
       rw[hv]
       simp only[acT,UInt8.toNat_ofNat']
       rw[akv hb]
      have fu:∀ (j:Nat) (z:UInt8),d[j]? = some z->w.cell? ⟨e.b i,o+j,none⟩=some (.int .u8 (z.toNat:Int)):=by
       intro j z hj
       obtain⟨v',bQ,eH⟩:=c1.get (pG j z hj)
       have:=eH.fF
       subst this
       exact c3 j _ bQ
      obtain⟨hN,ob,dP,dK,hF⟩:=hR.obj i _ hg
      cases dK with
      | cells _ _ _ _ _ C fz hn gZ Q7 z8 hd=>
       have eF:o+n<=C.size:=by rw[hn];omega
       have hH:Holds (fun (b:UInt8)=>Value.int .u8 (b.toNat:Int)) w (e.b i) o d.toArray:=by
        intro j hj
        have iQ:j<d.length:=by simpa using hj
        refine⟨?_,?_⟩
        ·rw[fu j d[j] (aau iQ)]
         simp[iQ]
        ·have:=z8 g3 (o+j) (by omega)
         simp only[World.frozen?,dP]
         exact this
       obtain rfl:aS = #[.slice (some ⟨e.b i,o,none⟩) n cc,.int .u64 un]:=adZ.1 (by rw[e1,e2])
       have EP:=Any.internal_strconv_formatBase10 Tryz.lays285 (e.b i) o cc un d.toArray w hH (by simpa[gp] using ZQ) (by omega) (by simpa[gp] using AY)
       have hdz:d.toArray.size=n:=by simp[gp]
       rw[hdz] at EP
       refine⟨vp MY Tryz.func166 rfl _ w,EP.mono ?_⟩
       rintro en w' ⟨rfl,m,v',dk,rfl,hinv⟩
       refine⟨e,_,rfl,e.le_refl,?_,GL e⟩
       have hdk:∀ t,t<n->dk[t]! = Lib.dg un (n-1-t):=fun t ht=>hinv.done t (ac4 _) ht
       have hds:=hinv.size
       have ic:(nG un n).length=n:=by simp[nG]
       have gN:RH Tryz.prog.globals.size Fr W e { H with h:=H.h.bO i (.cells (c.bZ off (nG un n)) lo hi el fl) } (putRow (fun (b:UInt8)=>Value.int .u8 (b.toNat:Int)) w (e.b i) o dk):=by
        refine hR.put hg (by simp[wr,g3]) (oO := .cells (putCells (fun (b:UInt8)=>Value.int .u8 (b.toNat:Int)) o dk C) el fz) ?_ ?_ ?_ ?_ rfl rfl rfl
        ·simp[putRow,mapBlock]
        ·simp only[putRow,mapBlock]
         rw[Db _ _ _ dP]
         rfl
        ·intro k hk
         simp only[putRow,mapBlock]
         rw[CT _ _ _ _ (fun q=>hk q.symm)]
        ·have kq:(putCells (fun (b:UInt8)=>Value.int .u8 (b.toNat:Int)) o dk C).size=C.size:=by simp[putCells]
         refine .cells _ lo hi el fl _ fz (by rw[kq];exact hn) ?_ Q7 (by rw[kq];exact z8) hd
         intro k u' a b hk
         rw[Tr.uH,ic] at hk
         by_cases gX:off<=k/\k<off+n
         ·rw[if_pos gX] at hk
          have hj:k-off<n:=by omega
          have hu:u' = .int .u8 ((Lib.dg un (n-1-(k-off))).toNat):=by
           have:(nG un n)[k-off]? = some (.int .u8 ((Lib.dg un (n-1-(k-off))).toNat)):=by simp[nG,hj]
           rw[this] at hk
           exact (adw hk).symm
          subst hu
          refine⟨o+(k-off),by omega,.int .u8 ((Lib.dg un (n-1-(k-off))).toNat),?_,.int _ _⟩
          have hC:o+(k-off)<C.size:=by omega
          simp only[putCells]
          rw[Array.getElem?_mapIdx,afn hC]
          simp only[aek]
          rw[if_pos (by omega),aex,hdk _ hj]
         ·rw[if_neg gX] at hk
          obtain⟨J1,yN,u2,qY,eH⟩:=gZ k u' a b hk
          refine⟨J1,yN,u2,?_,eH⟩
          simp only[putCells]
          rw[Array.getElem?_mapIdx,qY]
          simp only[aek]
          rw[if_neg (by omega)]
       exact gN.drawn _
     ·cases hp
    ·cases hp
   ·omega
  ·cases hp
 ·cases hp
theorem IC.cells {Fr:Nat->Prop}{W:World}{e:Em}{H:Hp}{w:World}(h:IC H)(hR:RH Tryz.prog.globals.size Fr W e H w) :
  (∃ t p,w.cell? ⟨6,0,none⟩=some (.iface t p))/\∃ t p,w.cell? ⟨7,0,none⟩=some (.iface t p):=by
 have pT:6<Tryz.prog.globals.size:=by rw[<-ad5];kernel_rfl
 have BC:7<Tryz.prog.globals.size:=by rw[<-ad5];kernel_rfl
 have key:∀ g k v,g<Tryz.prog.globals.size->cellAt H g (k:Nat)=some v->∃ v',w.cell? ⟨g,k,none⟩=some v'/\VR e v v':=by
  intro g k v hg hc
  obtain⟨_,o,ho,v',h1,h2⟩:=hR.load hc
  obtain⟨_,hb,hd⟩:=hR.pY g hg
  rw[hb] at h1
  rw[hd] at ho
  obtain rfl:o=k:=by omega
  exact⟨v',h1,h2⟩
 refine⟨?_,?_⟩
 ·obtain⟨t,p,hc⟩:=h.syn
  obtain⟨v',h1,h2⟩:=key _ 0 _ pT hc
  cases h2
  exact⟨_,_,h1⟩
 ·obtain⟨t,p,hc⟩:=h.Tc
  obtain⟨v',h1,h2⟩:=key _ 0 _ BC hc
  cases h2
  exact⟨_,_,h1⟩
theorem acM (s:ByteArray):vT (Am.bytes s)=s.data.toList:=by
 unfold vT Am.bytes
 rw[akI,List.map_congr_left (g:=id) (fun x _=>by simp)]
 simp
theorem afb:xr Tryz.prog 173 Fv:=by
 intro args H v H' hp F W e w aS hR ha
 unfold Fv at hp
 split at hp
 ·rename_i s
  split at hp
  ·rename_i hx
   cases hp
   obtain⟨hE,hlen⟩:=hx
   obtain⟨a',r1,e1,lF,iq⟩:=ha.cons_inv
   have e3:=iq.jP
   subst e3
   obtain⟨s',rfl,rfl⟩:=lF.lP
   obtain rfl:aS = #[.string s']:=adZ.1 e1
   refine⟨vp MY Tryz.func173 rfl _ w,?_⟩
   have hl:s'.size<=281474976710656:=by
    have:s'.size=(Am.bytes s').length:=by simp[Am.bytes]
    omega
   obtain⟨⟨t1,p1,q1⟩,⟨t2,p2,q2⟩⟩:=hE.cells hR
   unfold JE
   rw[acM]
   cases hr:Lib.atoiAll s'.data.toList with
   | ok v=>
    refine (Any.strconv_Atoi_ok Tryz.laysC172 s' (by omega) v hr w).mono ?_
    rintro en w' ⟨rfl,hw⟩
    refine⟨e,_,rfl,e.le_refl,?_,VR.two (.int _ _) .nilIface⟩
    rcases hw with rfl | ⟨t,rfl⟩
    ·exact hR
    ·exact hR.below (Lib.bytesWorld_below _ _ _)
   | range=>
    refine (Any.strconv_Atoi_range Tryz.laysC172 s' hl hr _ w q2 (.inr ⟨_,_,rfl⟩)).mono ?_
    rintro en w' ⟨N,rfl,_,_,hb⟩
    exact⟨e,_,rfl,e.le_refl,hR.below hb,VR.two (.int _ _) (.iface _ _ _ (.cU _))⟩
   | _=>
    refine (Any.strconv_Atoi_syntax Tryz.laysC172 s' hl hr _ w q1 (.inr ⟨_,_,rfl⟩)).mono ?_
    rintro en w' ⟨N,rfl,_,_,hb⟩
    exact⟨e,_,rfl,e.le_refl,hR.below hb,VR.two (.int _ _) (.iface _ _ _ (.cU _))⟩
  ·cases hp
 ·cases hp
end Go.Proofs.YtodfajmihkagnaaGreatDoor.jQ
namespace Go.Proofs.YtodfajmihkagnaaGreatDoor.jY
open Go Go.RowKit Am
def ext (g:Nat):Option Ext:=bif Nat.beq g 168 then some .same else bif Nat.beq g 169 then some (.Fq 52) else bif Nat.beq g 197 then some .La else bif Nat.beq g 171 then some .count else none
theorem Yq:vi Tryz.prog ext:=by
 intro aY k h aS w
 unfold ext at h
 cases h1:Nat.beq aY 168 with
 | true=>
  rw[h1] at h
  cases h
  obtain rfl:=aa9 h1
  exact Iu (e:=Extern.AbiNoEscape.same) Tryz.func168 (by kernel_rfl) (by kernel_rfl) (by kernel_rfl) (by kernel_rfl) rfl aS w
 | false=>
  rw[h1] at h
  clear h1
  cases h1:Nat.beq aY 169 with
  | true=>
   rw[h1] at h
   cases h
   obtain rfl:=aa9 h1
   exact Iu (e:=Extern.BytealgMakeNoZero.makeNoZero #[] #[52]) Tryz.func169 (by kernel_rfl) (by kernel_rfl) (by kernel_rfl) (by kernel_rfl) rfl aS w
  | false=>
   rw[h1] at h
   clear h1
   cases h1:Nat.beq aY 197 with
   | true=>
    rw[h1] at h
    cases h
    obtain rfl:=aa9 h1
    exact Iu (e:=Extern.BytealgIndexByte.indexByte) Tryz.func197 (by kernel_rfl) (by kernel_rfl) (by kernel_rfl) (by kernel_rfl) rfl aS w
   | false=>
    rw[h1] at h
    clear h1
    cases h1:Nat.beq aY 171 with
    | true=>
     rw[h1] at h
     cases h
     obtain rfl:=aa9 h1
     exact Iu (e:=Extern.BytealgCount.count) Tryz.func171 (by kernel_rfl) (by kernel_rfl) (by kernel_rfl) (by kernel_rfl) rfl aS w
    | false=>
     rw[h1] at h
     clear h1
     cases h
noncomputable def I5 (g:Nat):Option Prim:=bif Nat.beq g 91 then some Am.Ec else none
theorem abp:tD Tryz.prog I5:=by
 intro aY p h args H v H' hp
 unfold I5 at h
 cases h1:Nat.beq aY 91 with
 | true=>
  rw[h1] at h
  cases h
  obtain rfl:=aa9 h1
  exact TA.ae2 args H v H' hp
 | false=>
  rw[h1] at h
  clear h1
  cases h
theorem TH:nX Tryz.prog:=by unfold nX;kernel_rfl
theorem mixed:Tryz.prog.follows .mixedOrders=true:=by kernel_rfl
def Jf:List Int:=[1,10,100,1000,10000,100000,1000000,10000000,100000000,1000000000,10000000000,100000000000,1000000000000,10000000000000,100000000000000,1000000000000000,10000000000000000,100000000000000000,1000000000000000000,10000000000000000000]
def Ur:List Int:=[0,1,28,2,29,14,24,3,30,22,20,15,25,17,4,8,31,27,13,23,21,19,16,7,26,12,18,6,11,5,10,9]
def X1:List Int:=[0,1,56,2,57,49,28,3,61,58,42,50,38,29,17,4,62,47,59,36,45,43,51,22,53,39,33,30,24,18,12,5,63,55,48,27,60,41,37,16,46,35,44,21,52,32,23,11,54,26,40,15,34,20,31,10,25,14,19,9,13,8,7,6]
def pf:List (Nat × List AV):=[(0,Jf.map (AV.int .u64)),(4,Ur.map (AV.int .u8)),(5,X1.map (AV.int .u8)),(6,[.iface 290 (.ptr 10 0)]),(7,[.iface 290 (.ptr 9 0)])]
abbrev laid : List (String × DataW Unit) := [("math/bits.deBruijn32tab", Rows.laid_math_bits_deBruijn32tab), ("math/bits.deBruijn64tab", Rows.laid_math_bits_deBruijn64tab), ("internal/strconv.uint64pow10", Rows.laid_internal_strconv_uint64pow10), ("unicode/utf8.acceptRanges", Rows.laid_unicode_utf8_acceptRanges), ("strconv.ErrRange", Rows.laid_strconv_ErrRange), ("strconv.ErrSyntax", Rows.laid_strconv_ErrSyntax), ("unicode/utf8.first", Rows.laid_unicode_utf8_first)]
theorem star : "*" ++ "errors.errorString" = "*errors.errorString" := by decide
theorem Ya (u : TypeId)(h : Tryz.prog.typeName? 3 u = some "*errors.errorString") : u = 290 :=
 typeName_ptr_named (nm := "errors.errorString") (by rw[star];kernel_rfl) (by kernel_rfl) (by decide) u (by rw[star];exact h)
theorem aou {W:World}(h:laidMet Tryz.prog laid W)(eF:8<=W.heap.size)(bx:Nat->Nat)(dx:Nat->Int)(nx:Nat->Nat){N:Nat}(hN:11<=N){PO:List (Nat × AO)}
  (hP:∀ i o,(i,o)∈PO->11<=i/\i<N/\wr o=false/\∃ ob,W.heap[bx i]? = some ob/\∀ e:Em,e.N=N->(∀ j,11<=j->e.b j=bx j/\e.d j=dx j/\e.n j=nx j)->OR e i o ob) :
  ∃ e,RH Tryz.prog.globals.size (fun k=>k<W.heap.size) W e ⟨qD PO (qt (yI W) pf),N⟩ W/\e.N=N/\∀ j,11<=j->e.b j=bx j/\e.d j=dx j/\e.n j=nx j:=by
 have hs:Tryz.prog.globals.size=8:=by kernel_rfl
 rw[hs]
 obtain⟨b0, o0, t0, w0⟩ := abu (n := "strconv.ErrRange") (nm := "*errors.errorString") (tp := 290) (te := 292) (ts := 9) h (.tail _ (.tail _ (.tail _ (.tail _ (.head _))))) (g := 7) (ti := 183) (by kernel_rfl) (by kernel_rfl) Tryz.underlying183 Ya Tryz.underlying290 Tryz.underlying292 rfl rfl Tryz.underlying9 (by kernel_rfl) (by kernel_rfl)
 obtain⟨b1, o1, t1, w1⟩ := abu (n := "strconv.ErrSyntax") (nm := "*errors.errorString") (tp := 290) (te := 292) (ts := 9) h (.tail _ (.tail _ (.tail _ (.tail _ (.tail _ (.head _)))))) (g := 6) (ti := 183) (by kernel_rfl) (by kernel_rfl) Tryz.underlying183 Ya Tryz.underlying290 Tryz.underlying292 rfl rfl Tryz.underlying9 (by kernel_rfl) (by kernel_rfl)
 let bz:Nat->Nat:=fun i=>if i=9 then b0 else if i=10 then b1 else bx i
 let dz:Nat->Int:=fun i=>if i=9 then (o0:Int) else if i=10 then (o1:Int) else dx i
 have T0 := fun em : Em => St (name := "internal/strconv.uint64pow10") (k := .u64) (zs := Jf) h (.tail _ (.tail _ (.head _))) (g := 0) (by kernel_rfl) (by kernel_rfl) Tryz.underlying254 Tryz.underlying118 (by kernel_rfl) (by kernel_rfl) (by decide) em
 have T4 := fun em : Em => St (name := "math/bits.deBruijn32tab") (k := .u8) (zs := Ur) h (.head _) (g := 4) (by kernel_rfl) (by kernel_rfl) Tryz.underlying273 Tryz.underlying5 (by kernel_rfl) (by kernel_rfl) (by decide) em
 have T5 := fun em : Em => St (name := "math/bits.deBruijn64tab") (k := .u8) (zs := X1) h (.tail _ (.head _)) (g := 5) (by kernel_rfl) (by kernel_rfl) Tryz.underlying274 Tryz.underlying5 (by kernel_rfl) (by kernel_rfl) (by decide) em
 have hj:∀ j,11<=j->(Am.start W 8 N bz dz nx).b j=bx j/\(Am.start W 8 N bz dz nx).d j=dx j/\(Am.start W 8 N bz dz nx).n j=nx j:=by
  intro j hj
  refine⟨?_,?_,?_⟩<;>simp only[Am.start,bz,dz]<;>(repeat rw[if_neg (by omega)])
 refine⟨Am.start W 8 N bz dz nx,RH.start bz dz nx (by omega) (by decide) eF ?_ ?_,rfl,hj⟩
 ·intro g l hm
  simp only[pf,aaY,acI,List.mem_nil_iff,or_false] at hm
  rcases hm with⟨rfl,rfl⟩ | ⟨rfl,rfl⟩ | ⟨rfl,rfl⟩ | ⟨rfl,rfl⟩ | ⟨rfl,rfl⟩
  ·exact⟨by decide,by decide,T0 _⟩
  ·exact⟨by decide,by decide,T4 _⟩
  ·exact⟨by decide,by decide,T5 _⟩
  ·refine⟨by decide,by decide,_,t1,w1,fun k v hv => ?_⟩
   cases k with
   | zero=>
    simp only[adR,adG] at hv
    subst hv
    exact⟨_,rfl,.iface _ _ _ (.ptr (e:=Am.start W 8 N bz dz nx) 10 0 o1 (show (10:Nat)<N by omega) (by simp[Am.start,dz]))⟩
   | succ k=>simp at hv
  ·refine⟨by decide,by decide,_,t0,w0,fun k v hv => ?_⟩
   cases k with
   | zero=>
    simp only[adR,adG] at hv
    subst hv
    exact⟨_,rfl,.iface _ _ _ (.ptr (e:=Am.start W 8 N bz dz nx) 9 0 o0 (show (9:Nat)<N by omega) (by simp[Am.start,dz]))⟩
   | succ k=>simp at hv
 ·intro i o hm
  obtain⟨h1,h2,h3,ob,h4,h5⟩:=hP i o hm
  exact⟨by omega,h2,h3,ob,by have:=(hj i h1).1;simp only[Am.start,if_neg (show ¬ i<8 by omega)] at this;rw[this];exact h4,h5 _ rfl hj⟩
theorem aep:Tryz.prog.globals.size<11:=by
 have hs:Tryz.prog.globals.size=8:=by kernel_rfl
 omega
theorem aks (el:Nat->TypeId):Jv (JO (Tryz.prog) ext I5 20000 11 [] ⟨qt el pf,11⟩)=true:=by kernel_rfl
theorem aog:xr Tryz.prog 11 (Jk pf 11):=
 akb mixed TH Yq abp Tryz.func11 rfl aep
  (by
   have hs:Tryz.prog.globals.size=8:=by kernel_rfl
   rw[hs]
   intro g l hm
   simp only[pf,aaY,acI,List.mem_nil_iff,or_false] at hm;rcases hm with⟨rfl,rfl⟩ | ⟨rfl,rfl⟩ | ⟨rfl,rfl⟩ | ⟨rfl,rfl⟩ | ⟨rfl,rfl⟩<;>exact⟨by decide,by decide,by decide,by decide⟩) fun el=>aks el
noncomputable def Nc (g:Nat):Option Prim:=bif Nat.beq g 182 then some jQ.GZ else bif Nat.beq g 166 then some jQ.Gi else bif Nat.beq g 173 then some jQ.Fv else bif Nat.beq g 192 then some hZ.sU else I5 g
theorem akn:tD Tryz.prog Nc:=by
 intro aY p h args H v H' hp
 unfold Nc at h
 cases h1:Nat.beq aY 182 with
 | true=>
  rw[h1] at h
  cases h
  obtain rfl:=aa9 h1
  exact jQ.acp args H v H' hp
 | false=>
  rw[h1] at h
  clear h1
  cases h1:Nat.beq aY 166 with
  | true=>
   rw[h1] at h
   cases h
   obtain rfl:=aa9 h1
   exact jQ.an7 args H v H' hp
  | false=>
   rw[h1] at h
   clear h1
   cases h1:Nat.beq aY 173 with
   | true=>
    rw[h1] at h
    cases h
    obtain rfl:=aa9 h1
    exact jQ.afb args H v H' hp
   | false=>
    rw[h1] at h
    clear h1
    cases h1:Nat.beq aY 192 with
    | true=>
     rw[h1] at h
     cases h
     obtain rfl:=aa9 h1
     exact hZ.ak3 args H v H' hp
    | false=>
     rw[h1] at h
     clear h1
     exact abp aY p h args H v H' hp
noncomputable def aR (g:Nat):Option Prim:=bif Nat.beq g 11 then some (Jk pf 11) else Nc g
theorem aer:tD Tryz.prog aR:=by
 intro aY p h args H v H' hp
 unfold aR at h
 cases h1:Nat.beq aY 11 with
 | true=>
  rw[h1] at h
  cases h
  obtain rfl:=aa9 h1
  exact aog args H v H' hp
 | false=>
  rw[h1] at h
  clear h1
  exact akn aY p h args H v H' hp
theorem aji {Q:Type}{enc:TypeId × Value->Q}{g:Nat}{fn:Func}{b:Code}(hf:Tryz.prog.funcs[g]? = some fn)(hb:fn.body=some b)(an:Nat->K.An)(hA:K.wh Tryz.prog an){W:World}(hL:laidMet Tryz.prog laid W)(eF:8<=W.heap.size){base:Nat}{spare:Nat->Bool}{held:Bool}(mh:∀ b,spare b=true){qP:List K.Ty}{vs:List Value}
  (ha:K.D7 enc Tryz.prog W base spare held qP vs) (law:∀ H aS ds,K.Ce H qP aS ds->DE H pf->11<=H.next->∃ H',K.CK Tryz.prog (K.rZ Tryz.prog) ext aR an (.func (.func g) [] []) aS H=some (.bool true,H')) :
  Calls Tryz.prog g vs.toArray W fun en w'=>en = .returned (.bool true)/\Below W.heap.size W w':=by
 obtain⟨aS,os,ds,a1,a2,a3,a4⟩:=K.aej mh ha 11
 have hs:Tryz.prog.globals.size=8:=by kernel_rfl
 obtain⟨e,hR,hN,hj⟩:=aou hL eF (fun i=>((os[i-11]?).map (·.b)).getD 0) (fun _=>0) (fun i=>((os[i-11]?).map (·.n)).getD 0) (N:=11+os.length) (by omega) (PO:=K.uZ 11 os) (by
  intro i o hm
  obtain⟨j,ob,h1,rfl,rfl⟩:=K.Tq os 11 i o hm
  have pW:=(aas.1 h1).1
  have SD:∀ e:Em,e.N=11+os.length->(∀ j,11<=j->e.b j=((os[j-11]?).map (·.b)).getD 0/\e.d j=0/\e.n j=((os[j-11]?).map (·.n)).getD 0)->K.Fits e 11 os:=by
   intro e he hj
   refine⟨by omega,fun j o ho => ?_⟩
   obtain⟨x,y,z⟩:=hj (11+j) (by omega)
   rw[aex,ho] at x z
   exact⟨x,y,z⟩
  have hex:∃ ow,W.heap[ob.b]? = some ow:=by
   let e0:Em:=⟨fun j=>((os[j-11]?).map (·.b)).getD 0,fun _=>0,fun j=>((os[j-11]?).map (·.n)).getD 0,11+os.length⟩
   obtain⟨ow,h,_⟩:=a2 e0 (SD e0 rfl fun j _=>⟨rfl,rfl,rfl⟩) j ob h1
   exact⟨ow,h⟩
  obtain⟨ow,Zb⟩:=hex
  refine⟨by omega,by omega,a3 ob (aaF h1),ow,?_,fun e he hj => ?_⟩
  ·rw[aex,h1];exact Zb
  ·obtain⟨ow2,h,h2⟩:=a2 e (SD e he hj) j ob h1
   rw[Zb] at h;cases h
   exact h2)
 have KL:K.Fits e 11 os:=by
  refine⟨by omega,fun j o ho => ?_⟩
  obtain⟨x,y,z⟩:=hj (11+j) (by omega)
  rw[aex,ho] at x z
  exact⟨x,y,z⟩
 have apL:K.Has ⟨qD (K.uZ 11 os) (qt (yI W) pf),11+os.length⟩ 11 os:=⟨aaH _,fun j o ho=>K.aaO os 11 _ j o ho⟩
 have hT:DE ⟨qD (K.uZ 11 os) (qt (yI W) pf),11+os.length⟩ pf:=by
  refine⟨yI W,fun g l hm => ?_⟩
  have hg:g<11:=by
   simp only[pf,aaY,acI,List.mem_nil_iff,or_false] at hm;rcases hm with⟨rfl,rfl⟩ | ⟨rfl,rfl⟩ | ⟨rfl,rfl⟩ | ⟨rfl,rfl⟩ | ⟨rfl,rfl⟩<;>decide
  show (qD _ _).get g=_
  rw[K.TS os 11 _ g hg]
  exact K.SG _ _ (by decide) g l hm
 obtain⟨H',hk⟩:=law _ aS ds (a4 _ apL) hT (Nat.le_add_right _ _)
 refine (K.acN mixed TH Yq aer K.aox hA hk hf hb hR (aS:=vs.toArray) (by simpa using a1 e KL)).mono fun en w' ⟨e',v',h1,_,bA,hv⟩ => ?_
 have:=hv.rQ
 subst this
 exact⟨h1,⟨bA.os,bA.tape,bA.output,bA.size,fun k hk=>(bA.frame k hk).2⟩⟩
end Go.Proofs.YtodfajmihkagnaaGreatDoor.jY
namespace Go.Proofs.YtodfajmihkagnaaGreatDoor.DfK
open Go Am Am.K jY
noncomputable section
noncomputable abbrev P:Program:=Tryz.prog
noncomputable def Py : List (Nat × An) := [
 (88, (.n (.n .nl))),
 (116, (.n (.q (.n (.cd (.n .nl) .nl)) (.s [0, 1, 2, 3] (.n (.cd (.n .nl) .nl)) (.s [0, 1, 2, 3] (.n (.cd .nl .nl)) (.t [0, 1, 2, 3] (.n (.n (.n (.s [0, 9, 10] (.v [0, 9, 10] (.lp [0, 1, 2, 3, 9, 10] (.q (.n (.cd .nl .nl)) (.b (.n (.q (.n (.cd .nl .nl)) (.t [0, 1, 2, 3, 9, 10, 11] (.t [0, 1, 2, 3, 9, 10] .nl)))))))) (.t [9, 10] (.n .nl)))))))))))),
 (150, (.n (.s [0, 1] (.n (.cd (.n .nl) .nl)) (.s [0, 1] (.n (.cd (.n .nl) .nl)) (.n (.v [4] (.lp [0, 1, 5] (.b (.n (.q (.n (.cd (.n .nl) .nl)) (.n .nl))))))))))),
 (151, (.n (.n .nl))),
 (117, (.n (.n .nl))),
 (85, (.n (.s [0, 1] (.n (.b (.n (.cd (.n .nl) (.n (.cd (.n .nl) .nl)))))) (.n (.s [0, 1, 5] (.n (.cd (.s [0, 1, 5] (.t [0, 1, 5, 29] (.cd .nl .nl)) .nl) .nl)) (.s [0, 1, 5] (.n (.v [0, 1, 5] (.lp [0, 1, 5, 39, 40, 41] (.n (.q (.cd .nl .nl) (.s [0, 1, 5, 39, 40, 41] (.b (.n (.s [0, 1, 5, 7, 39, 40, 41] (.t [0, 1, 5, 7, 39, 40, 41, 49] (.cd .nl .nl)) .nl))) .nl)))))) (.n (.n (.n (.s [8] (.n (.v [8] (.lp [1, 8, 63, 64, 65] (.n (.q (.cd .nl .nl) (.s [1, 8, 63, 64, 65] (.b (.n (.n .nl))) .nl)))))) (.n .nl))))))))))),
 (172, (.n (.n (.s [0, 1, 5] (.b (.t [0, 1, 5, 16] (.cd (.n .nl) (.n (.cd (.n .nl) (.t [0, 1, 5, 31] (.cd (.n .nl) (.t [0, 1, 5, 36] (.cd (.n .nl) .nl))))))))) (.n (.n (.n (.t [0, 1, 5, 6, 7, 8, 9] (.n (.s [] (.v [] (.lp [0, 1, 5, 6, 7, 8, 9, 10] (.q (.n (.cd .nl .nl)) (.b (.s [0, 1, 5, 6, 7, 8, 9, 10] (.t [0, 1, 5, 6, 7, 8, 9, 10, 64] (.cd (.t [0, 1, 5, 6, 7, 8, 9, 10, 11] (.q (.n (.cd (.n .nl) .nl)) .nl)) .nl)) (.s [0, 1, 5, 6, 7, 8, 9, 10] (.t [0, 1, 5, 6, 7, 8, 9, 10, 93] (.cd (.n .nl) .nl)) (.n (.n (.t [0, 1, 5, 6, 7, 8, 9, 10, 107] (.cd (.t [8, 12] (.s [] (.n (.cd (.n .nl) .nl)) (.n .nl))) (.t [0, 1, 5, 6, 7, 8, 9, 10, 132] (.cd (.t [8, 13] (.q (.n (.cd (.n .nl) .nl)) (.n .nl))) .nl)))))))))))) (.n .nl))))))))))),
 (186, (.n (.n .nl))),
 (152, (.n (.s [0] (.n (.n (.cd (.n .nl) .nl))) (.n .nl)))),
 (112, (.n (.s [0, 1] (.n (.cd .nl .nl)) (.t [0, 1, 21] (.cd .nl .nl))))),
 (113, (.n (.n (.t [1] (.n .nl))))),
 (114, (.n (.n .nl))),
 (147, (.t [0, 6] (.cd .nl (.t [19] (.cd .nl .nl))))),
 (148, (.t [0, 4] (.t [0, 4] .nl))),
 (84, (.n (.n .nl))),
 (111, (.n (.n .nl))),
 (146, (.n (.s [0, 1] (.n (.cd (.s [0] (.t [0, 17] (.cd (.n .nl) .nl)) (.n (.n (.s [0, 5, 6] (.n (.cd .nl .nl)) (.n (.t [0, 5, 7] (.s [5, 7] (.n (.cd (.n (.n .nl)) .nl)) (.n .nl)))))))) .nl)) (.t [9] (.n .nl))))),
 (164, (.n (.s [0] (.n (.cd (.n .nl) .nl)) (.n .nl)))),
 (165, (.n (.n (.n .nl)))),
 (181, (.n (.n .nl))),
 (183, (.n (.q (.n (.cd (.n .nl) .nl)) (.n .nl)))),
 (104, (.n (.s [] (.n (.v [] (.lp [0, 1, 7, 8] (.n (.q (.cd .nl .nl) (.s [0, 1, 7, 8] (.b (.n (.t [0, 1, 5, 7, 8, 16] (.cd (.n .nl) .nl)))) .nl)))))) (.n .nl)))),
 (94, (.n (.n .nl))),
 (177, (.n (.s [] (.n (.v [] (.lp [0, 3, 7, 8] (.n (.q (.cd .nl .nl) (.s [0, 3, 7, 8] (.b (.n (.t [0, 3, 5, 7, 8, 16] (.cd (.n .nl) .nl)))) .nl)))))) (.n .nl)))),
 (158, (.n (.n .nl))),
 (143, (.n (.n .nl))),
 (163, (.n (.s [] (.n (.v [] (.lp [0, 1, 7, 8] (.n (.q (.cd .nl .nl) (.s [0, 1, 7, 8] (.b (.n (.t [0, 1, 5, 7, 8, 16] (.cd (.n .nl) .nl)))) .nl)))))) (.n .nl)))),
 (174, (.n (.s [] (.n (.v [] (.lp [0, 1, 7, 8] (.n (.q (.cd .nl .nl) (.s [0, 1, 7, 8] (.b (.n (.t [0, 1, 5, 7, 8, 16] (.cd (.n .nl) .nl)))) .nl)))))) (.n .nl)))),
 (154, (.n (.n .nl))),
 (95, (.n (.n .nl))),
 (135, (.n (.s [] (.n (.v [] (.lp [0, 1, 7, 8] (.n (.q (.cd .nl .nl) (.s [0, 1, 7, 8] (.b (.n (.t [0, 1, 5, 7, 8, 16] (.cd (.n .nl) .nl)))) .nl)))))) (.n .nl)))),
 (136, (.n (.q (.n (.cd (.n .nl) .nl)) (.n .nl)))),
 (137, (.n (.q (.n (.cd (.n .nl) .nl)) (.n .nl)))),
 (138, (.n (.q (.n (.cd (.n .nl) .nl)) (.n .nl)))),
 (30, (.n (.q (.n (.cd (.n .nl) .nl)) (.n .nl)))),
 (155, (.n (.s [1] (.t [1, 13] (.cd (.n .nl) .nl)) (.n (.s [] (.n (.v [] (.lp [1, 3, 16, 17, 18] (.n (.q (.cd .nl .nl) (.s [1, 3, 16, 17, 18] (.b (.n (.s [1, 3, 5, 16, 17, 18] (.t [1, 3, 5, 16, 17, 18, 45] (.cd (.n .nl) .nl)) .nl))) .nl)))))) (.n .nl)))))),
 (175, (.n (.n .nl))),
 (176, (.n (.q (.n (.cd (.n .nl) .nl)) (.n (.s [7] (.n (.v [7] (.lp [1, 2, 7, 14, 15, 16] (.n (.q (.cd .nl .nl) (.s [1, 2, 7, 14, 15, 16] (.v [1, 2, 7, 14, 15, 16] (.n (.t [1, 2, 7, 9, 14, 15, 16, 24] (.cd .nl .nl)))) .nl)))))) (.n (.n .nl))))))),
 (157, (.n (.n .nl))),
 (156, (.n (.n (.n (.s [5] (.n (.v [5] (.lp [2, 5, 6, 7] (.q (.n (.cd .nl .nl)) (.s [2, 5, 6, 7] (.v [2, 5, 6, 7] (.n (.s [2, 5, 7, 8] (.n (.v [2, 5, 7, 8] (.lp [2, 5, 7, 8, 23, 24, 25] (.n (.q (.cd .nl .nl) (.s [2, 5, 7, 8, 23, 24, 25] (.v [2, 5, 7, 8, 23, 24, 25] (.n (.t [2, 5, 7, 8, 23, 24, 25, 31, 32, 33] (.v [2, 5, 7, 8, 23, 24, 25] (.lp [2, 5, 7, 8, 23, 24, 25, 31, 32, 33] (.n (.q (.cd .nl .nl) (.s [2, 5, 7, 8, 23, 24, 25, 31, 32, 33] (.v [2, 5, 7, 8, 23, 24, 25, 31, 32, 33] (.n (.t [2, 5, 7, 8, 12, 23, 24, 25, 31, 32, 33, 41] (.cd (.t [2, 5, 7, 8, 12, 23, 24, 25, 31, 32, 33] .nl) .nl)))) .nl)))))))) .nl)))))) .nl))) .nl))))) (.n .nl)))))),
 (126, (.n (.q (.n (.cd (.n .nl) .nl)) (.n (.s [1, 3, 4] (.n (.v [1, 3, 4] (.lp [1, 3, 4, 15, 16] (.n (.q (.cd .nl .nl) (.s [1, 3, 4, 15, 16] (.v [1, 3, 4, 15, 16] (.n (.t [1, 3, 4, 5, 6, 15, 16] (.t [1, 3, 4, 5, 6, 15, 16, 35] (.cd .nl .nl))))) .nl)))))) (.q (.n (.cd (.n .nl) .nl)) (.n (.s [7] (.n (.v [7] (.lp [1, 3, 7, 8] (.q (.n (.cd .nl .nl)) (.s [1, 3, 7, 8] (.v [1, 3, 7, 8] (.t [1, 3, 7, 8, 56, 57, 58] (.v [1, 3, 7, 8] (.lp [1, 3, 7, 8, 56, 57, 58] (.n (.q (.cd .nl .nl) (.s [1, 3, 7, 8, 56, 57, 58] (.b (.n (.t [1, 3, 7, 8, 10, 56, 57, 58, 74] (.cd (.n .nl) .nl)))) .nl))))))) .nl))))) (.n .nl))))))))),
 (54, (.n (.n .nl))),
 (153, (.n (.s [0] (.n (.cd (.n .nl) .nl)) (.t [0, 4, 5] (.n .nl))))),
 (118, (.n (.t [0, 1, 2, 3, 9, 10] (.s [10] (.n (.v [10] (.n (.cd (.s [] (.n (.v [] (.lp [0, 3, 23, 24, 25] (.n (.q (.cd .nl .nl) (.s [0, 3, 23, 24, 25] (.b (.n (.n (.q (.n (.cd (.n .nl) .nl)) .nl)))) .nl)))))) (.n .nl)) (.n (.cd .nl (.n (.cd .nl (.n (.cd .nl (.n (.cd (.t [2] (.n .nl)) .nl)))))))))))) (.n .nl))))),
 (89, (.n (.t [0, 1, 4, 6] (.n (.s [4, 6] (.n (.v [4, 6] (.lp [1, 4, 6, 7, 20, 21, 22] (.n (.q (.cd .nl .nl) (.s [1, 4, 6, 7, 20, 21, 22] (.b (.n (.t [1, 4, 6, 7, 9, 10, 11, 20, 21, 22] (.n (.s [1, 4, 6, 7, 13, 20, 21, 22] (.t [1, 4, 6, 7, 13, 20, 21, 22, 50] (.cd (.n .nl) .nl)) .nl))))) .nl)))))) (.n .nl)))))),
 (53, (.n (.s [0, 2] (.n (.cd (.n .nl) .nl)) (.n (.n (.s [2, 4, 5] (.n (.v [2, 4, 5] (.lp [2, 4, 5, 20, 21, 22] (.n (.q (.cd .nl .nl) (.s [2, 4, 5, 20, 21, 22] (.b (.n (.n (.t [2, 4, 5, 8, 20, 21, 22] .nl)))) .nl)))))) (.n (.s [2, 9] (.n (.v [2, 9] (.lp [2, 5, 9, 39, 40, 41] (.n (.q (.cd .nl .nl) (.s [2, 5, 9, 39, 40, 41] (.b (.n (.t [2, 5, 9, 12, 13, 39, 40, 41] (.s [2, 5, 9, 12, 39, 40, 41] (.n (.cd (.n .nl) .nl)) .nl)))) .nl)))))) (.s [2, 9] (.n (.n (.cd (.n .nl) .nl))) (.n .nl)))))))))),
 (119, (.n (.n .nl))),
 (125, (.n (.s [] (.n (.v [] (.lp [1, 8, 9, 10] (.n (.q (.cd .nl .nl) (.s [1, 8, 9, 10] (.b (.t [1, 5, 6, 8, 9, 10] (.n (.cd (.n .nl) .nl)))) .nl)))))) (.n .nl)))),
 (90, (.n (.s [1] (.t [1, 10] (.cd (.n .nl) .nl)) (.n (.s [1] (.t [1, 18, 19, 20] (.v [1] (.lp [1, 18, 19, 20] (.n (.q (.cd .nl .nl) (.s [1, 18, 19, 20] (.b (.n (.n (.cd (.n .nl) .nl)))) .nl)))))) (.s [] (.t [35] (.cd (.n .nl) .nl)) (.n .nl))))))),
 (120, (.n (.n .nl))),
 (121, (.n (.t [2, 4, 6] (.n (.n .nl))))),
 (122, (.n (.n .nl))),
 (123, (.n (.n .nl))),
 (124, (.n (.s [] (.n (.v [] (.lp [1, 2, 3, 9, 10, 11] (.n (.q (.cd .nl .nl) (.s [1, 2, 3, 9, 10, 11] (.b (.t [1, 2, 3, 7, 8, 9, 10, 11] (.t [1, 2, 3, 9, 10, 11, 34] (.cd (.n .nl) .nl)))) .nl)))))) (.n .nl)))),
 (55, (.n (.q (.n (.cd (.n .nl) .nl)) (.n (.s [3] (.n (.v [3] (.lp [1, 3, 13, 14, 15] (.n (.q (.cd .nl .nl) (.s [1, 3, 13, 14, 15] (.v [1, 3, 13, 14, 15] (.n (.n (.s [1, 3, 5, 6, 13, 14, 15] (.n (.v [1, 3, 5, 6, 13, 14, 15] (.lp [1, 3, 5, 6, 13, 14, 15, 22, 23, 24] (.n (.q (.cd .nl .nl) (.s [1, 3, 5, 6, 13, 14, 15, 22, 23, 24] (.b (.t [1, 3, 5, 6, 7, 8, 13, 14, 15, 22, 23, 24] (.s [1, 3, 5, 6, 8, 13, 14, 15, 22, 23, 24] (.n (.cd .nl .nl)) .nl))) .nl)))))) (.t [1, 3, 5, 6, 13, 14, 15] (.s [1, 3, 6, 13, 14, 15] (.n (.cd .nl .nl)) .nl)))))) .nl)))))) (.n .nl)))))),
 (92, (.n (.q (.n (.cd (.n .nl) .nl)) (.n .nl)))),
 (127, (.n (.t [1, 2, 3] (.s [2, 3] (.n (.v [2, 3] (.lp [1, 2, 3, 14, 15, 16] (.n (.q (.cd .nl .nl) (.s [1, 2, 3, 14, 15, 16] (.v [1, 2, 3, 14, 15, 16] (.t [1, 2, 3, 4, 5, 14, 15, 16] (.n (.v [1, 2, 3, 14, 15, 16] (.lp [1, 2, 3, 4, 14, 15, 16, 22, 23, 24] (.n (.q (.cd .nl .nl) (.s [1, 2, 3, 4, 14, 15, 16, 22, 23, 24] (.v [1, 2, 3, 4, 14, 15, 16, 22, 23, 24] (.n (.t [1, 2, 3, 4, 7, 8, 14, 15, 16, 22, 23, 24] (.t [1, 2, 3, 4, 8, 14, 15, 16, 22, 23, 24, 48] (.cd .nl .nl))))) .nl)))))))) .nl)))))) (.n .nl))))),
 (76, (.n (.s [1, 2] (.n (.n (.cd (.n .nl) .nl))) (.t [2, 5] (.n (.n .nl)))))),
 (97, (.n (.t [1, 2] (.s [1, 2] (.t [1, 2, 13, 14, 15] (.v [1, 2] (.lp [1, 2, 13, 14, 15] (.n (.q (.cd .nl .nl) (.s [1, 2, 13, 14, 15] (.b (.t [1, 2, 3, 4, 13, 14, 15] .nl)) .nl)))))) (.t [1, 2] (.t [1, 2] (.n .nl))))))),
 (106, (.n (.n (.s [1, 2] (.t [1, 2, 10, 11, 12] (.v [1, 2] (.lp [1, 2, 10, 11, 12] (.n (.q (.cd .nl .nl) (.s [1, 2, 10, 11, 12] (.b (.t [1, 2, 3, 4, 10, 11, 12] (.t [1, 2, 3, 4, 5, 10, 11, 12] (.s [1, 2, 3, 10, 11, 12] (.t [1, 2, 3, 10, 11, 12, 47] (.cd .nl .nl)) .nl)))) .nl)))))) (.n (.cd .nl .nl)))))),
 (144, (.n (.n .nl))),
 (108, (.n (.s [] (.b (.t [2, 5] (.cd (.n .nl) (.n (.cd (.n .nl) .nl))))) (.n .nl)))),
 (109, (.n (.s [1, 2, 3] (.n (.n (.cd (.n .nl) .nl))) (.s [] (.t [2, 8] (.t [28] (.cd (.n .nl) .nl))) (.n .nl))))),
 (78, (.n (.s [1, 2, 3, 4, 8] (.n (.n (.cd (.n .nl) .nl))) (.t [1, 2, 3, 4, 8, 11] (.s [1, 2, 3, 4, 8, 11] (.b (.n (.cd (.n .nl) (.t [1, 2, 3, 4, 8, 11, 29] (.cd (.n .nl) .nl))))) (.n (.t [1, 4, 8, 11] (.t [4, 8] (.n .nl))))))))),
 (79, (.n (.s [1, 2, 3, 4, 8] (.t [1, 2, 3, 4, 8, 10] (.n (.cd (.n .nl) .nl))) (.n (.t [4, 8] (.n (.n .nl))))))),
 (107, (.t [0, 2, 6, 7] (.s [0, 6] (.t [0, 2, 6, 7, 28] (.cd (.n .nl) .nl)) (.t [0] .nl)))),
 (80, (.n (.s [1, 3, 4, 8] (.t [1, 3, 4, 8, 10] (.n (.cd (.n .nl) .nl))) (.n (.n (.n .nl)))))),
 (77, (.n (.n (.s [2, 4] (.n (.v [2, 4] (.lp [1, 2, 4, 11, 12] (.n (.q (.cd .nl .nl) (.s [1, 2, 4, 11, 12] (.v [1, 2, 4, 11, 12] (.n (.t [1, 2, 4, 5, 6, 11, 12] (.v [1, 2, 4, 11, 12] (.t [1, 2, 4, 5, 6, 11, 12, 19] (.cd .nl (.t [1, 2, 4, 5, 6, 11, 12, 31] (.cd .nl (.t [1, 2, 4, 6, 11, 12, 40] (.cd .nl .nl)))))))))) .nl)))))) (.n .nl))))),
 (81, (.n (.s [2, 3, 4] (.b (.n (.cd (.n .nl) (.t [2, 3, 4, 11] (.cd (.n .nl) (.t [2, 3, 4, 17] (.cd (.n .nl) .nl))))))) (.n (.t [2, 4] (.n (.n .nl))))))),
 (110, (.n (.n .nl))),
 (145, (.n (.s [0, 1] (.t [0, 1, 12] (.cd (.n .nl) .nl)) (.n (.s [5] (.n (.v [5] (.lp [1, 5, 6] (.s [1, 5, 6] (.t [1, 5, 6, 21] (.cd .nl .nl)) (.q (.b .nl) .nl))))) (.n .nl)))))),
 (50, (.n (.n .nl))),
 (86, (.n (.n .nl))),
 (115, (.n (.s [] (.n (.v [] (.lp [1, 2, 10] (.n (.q (.cd .nl .nl) (.b (.n (.t [1, 2, 7, 10, 19] (.cd (.n .nl) .nl))))))))) (.n .nl)))),
 (48, (.n (.s [] (.n (.b (.n (.cd (.n .nl) (.n (.cd (.n .nl) (.s [3, 8] (.n (.cd .nl .nl)) (.cd (.n .nl) (.n (.cd (.n .nl) (.s [3, 13] (.n (.cd .nl .nl)) (.cd (.n .nl) (.n (.cd (.n .nl) (.n (.cd (.n .nl) .nl)))))))))))))))) (.n .nl)))),
 (87, (.n (.n .nl))),
 (52, (.n (.s [2] (.n (.b (.n (.cd (.n .nl) (.n (.cd (.n .nl) (.n (.cd (.n .nl) (.n (.cd (.n (.s [2, 5] (.n (.cd .nl .nl)) (.n .nl))) (.n (.cd (.n .nl) (.n (.cd (.n .nl) .nl)))))))))))))) (.s [2] (.n (.cd (.n .nl) .nl)) (.n .nl))))),
 (49, (.n (.t [1, 2, 4, 5] (.s [4, 5] (.n (.v [4, 5] (.lp [2, 4, 5, 12] (.n (.q (.cd .nl .nl) (.v [2, 4, 5, 12] (.n (.n (.v [2, 4, 5, 12] (.n (.cd .nl (.n (.cd .nl (.n (.cd .nl (.n (.cd .nl (.n (.cd .nl (.n (.cd .nl (.n (.cd .nl .nl))))))))))))))))))))))) (.n .nl))))),
 (21, (.n (.n (.n .nl)))),
 (51, (.n (.n .nl))),
 (44, (.n (.n .nl))),
 (33, (.n (.s [0, 2, 4] (.t [0, 2, 4, 8, 9] (.n (.cd (.n .nl) .nl))) (.s [0, 2, 4] (.t [0, 2, 4, 30] (.cd (.t [0, 2, 4] .nl) .nl)) (.t [0, 2, 4] (.t [2] (.n .nl))))))),
 (83, (.n (.t [6, 7] (.n .nl)))),
 (32, (.n (.n (.s [3] (.t [0, 3, 9, 10, 11] (.v [3] (.lp [0, 3, 9, 10, 11] (.n (.q (.cd .nl .nl) (.s [0, 3, 9, 10, 11] (.b (.n .nl)) .nl)))))) (.n .nl))))),
 (82, (.n (.s [1, 2] (.n (.cd (.n .nl) .nl)) (.n (.n (.n .nl)))))),
 (58, (.n (.n .nl))),
 (18, (.n (.n .nl))),
 (16, (.n (.q (.n (.cd (.n .nl) .nl)) (.s [0, 3] (.n (.b (.n (.cd (.n .nl) (.n (.cd (.n .nl) (.n (.cd (.n .nl) (.n (.cd (.n .nl) .nl)))))))))) (.s [0, 3] (.t [0, 3, 38] (.cd (.n .nl) .nl)) (.n .nl)))))),
 (40, (.n (.s [0, 1, 2] (.t [0, 1, 2, 8] (.n (.cd (.n .nl) .nl))) (.t [0, 1, 9, 10] (.q (.n (.cd (.n .nl) .nl)) (.s [0, 1, 9] (.t [0, 1, 9, 34] (.cd (.n .nl) .nl)) (.t [0, 1, 9] (.t [] (.n .nl))))))))),
 (41, (.n (.t [0, 3, 5, 6] (.t [0, 3, 5, 6, 8] (.s [0, 3, 5] (.b (.n (.cd (.n .nl) (.t [0, 3, 5, 30] (.cd (.n .nl) (.t [0, 3, 5, 37] (.cd (.n .nl) (.t [0, 3, 5, 44] (.cd (.n .nl) .nl))))))))) (.t [0, 3, 9, 10] (.q (.n (.cd (.n .nl) .nl)) (.t [0, 3] (.s [] (.n (.cd .nl .nl)) (.n .nl)))))))))),
 (42, (.n (.s [0, 1] (.t [0, 1, 11] (.cd (.n .nl) .nl)) (.t [0, 1] (.s [] (.t [0, 1, 20, 21] (.v [] (.lp [0, 1, 20, 21] (.n (.q (.cd .nl .nl) (.s [0, 1, 20, 21] (.b (.n .nl)) .nl)))))) (.n .nl)))))),
 (43, (.n (.t [0, 3, 5] (.n (.n (.s [5, 6, 7] (.n (.v [5, 6, 7] (.n (.cd .nl (.n (.cd .nl (.n (.cd .nl (.n (.cd .nl .nl)))))))))) (.s [7] (.n (.cd .nl .nl)) (.n .nl)))))))),
 (56, (.n (.t [4, 6, 7] (.s [4, 6] (.n (.cd (.n .nl) .nl)) (.t [4, 8] (.n .nl)))))),
 (29, (.n (.n .nl))),
 (46, (.n (.s [0, 1, 4] (.t [0, 1, 4, 18] (.cd (.n .nl) .nl)) (.t [4, 7] (.n .nl))))),
 (45, (.n (.n .nl))),
 (28, (.n (.s [] (.t [13, 14, 15] (.v [] (.lp [13, 14, 15] (.n (.q (.cd .nl .nl) (.s [13, 14, 15] (.v [13, 14, 15] (.t [6, 7, 13, 14, 15] (.t [6, 7, 13, 14, 15, 22, 23, 24] (.v [13, 14, 15] (.lp [6, 7, 13, 14, 15, 22, 23, 24] (.n (.q (.cd .nl .nl) (.s [6, 7, 13, 14, 15, 22, 23, 24] (.b (.t [6, 7, 8, 9, 13, 14, 15, 22, 23, 24] (.t [6, 7, 8, 9, 13, 14, 15, 22, 23, 24, 37] (.cd (.n .nl) .nl)))) .nl)))))))) .nl)))))) (.n .nl)))),
 (13, (.n (.n (.s [3] (.n (.v [3] (.lp [3, 7, 8, 9] (.n (.q (.cd .nl .nl) (.s [3, 7, 8, 9] (.b (.n .nl)) .nl)))))) (.n .nl))))),
 (31, (.n (.q (.n (.cd (.n .nl) .nl)) (.n .nl)))),
 (20, (.n (.s [0, 2, 4, 6, 7] (.n (.v [0, 2, 4, 6, 7] (.n (.cd .nl (.n (.cd (.s [0, 2, 4, 6, 7] (.t [0, 2, 4, 6, 7, 9, 10] (.t [0, 2, 4, 6, 7, 9, 47] (.cd (.n .nl) .nl))) .nl) (.n (.cd (.t [0, 2, 4, 6, 7, 11, 12, 13, 14] (.s [0, 2, 4, 6, 7, 11, 12, 13] (.n (.cd (.n .nl) .nl)) (.t [0, 2, 4, 6, 7, 11, 12, 13, 15] (.t [0, 2, 4, 6, 7, 12, 13, 15] .nl)))) (.n (.cd .nl (.n (.cd .nl (.n (.cd .nl (.n (.cd .nl (.n (.cd .nl (.n (.cd (.s [6, 7] (.t [4, 6, 7, 18] (.n (.cd (.n .nl) .nl))) (.n .nl)) (.n .nl))))))))))))))))))))) (.s [0, 6, 7] (.t [0, 6, 7, 160] (.cd (.n .nl) .nl)) (.s [6, 7] (.t [6, 7, 19] (.n (.cd (.n .nl) .nl))) (.n (.n .nl))))))),
 (47, (.n (.t [5, 6, 7] (.q (.n (.cd (.n .nl) .nl)) (.t [5, 8] (.s [8] (.n (.v [8] (.lp [8, 26, 27, 28] (.n (.q (.cd .nl .nl) (.s [8, 26, 27, 28] (.b (.n .nl)) .nl)))))) (.n .nl))))))),
 (14, (.n (.n (.t [0, 3] (.t [0, 3] (.s [0, 3] (.pr [0, 3] (Qf 2 3 0)) (.t [0, 3] (.s [3] (.t [3, 52, 53, 54] (.v [3] (.lp [3, 52, 53, 54] (.n (.q (.cd .nl .nl) (.s [3, 52, 53, 54] (.b (.n .nl)) .nl)))))) (.n .nl))))))))),
 (4, (.n (.q (.n (.cd (.n .nl) .nl)) (.q (.n (.cd (.n .nl) .nl)) (.n (.s [] (.n (.v [] (.lp [0, 1, 5, 6] (.q (.n (.cd .nl .nl)) (.s [0, 1, 5, 6] (.b (.s [0, 1, 5, 6] (.t [0, 1, 5, 6, 26] (.cd (.n .nl) .nl)) (.t [0, 1, 5, 6, 7, 8, 9] (.s [0, 1, 5, 6, 8, 9] (.t [0, 1, 5, 6, 8, 9, 63] (.cd (.n .nl) .nl)) (.t [0, 1, 5, 6, 77] (.cd (.n .nl) .nl)))))) .nl))))) (.n .nl))))))),
 (19, (.n (.n .nl))),
 (17, (.n (.n (.t [1, 2, 3, 4] (.n .nl))))),
 (0, .nl)]
noncomputable def an (g:Nat):An:=Lb Py g
noncomputable abbrev cK:CF:=CK P (rZ P) ext aR an
noncomputable def UP (J:JT)(G:GT)(cf:CF)(a0 a1:AV)(H:Hp):R:=
 B2 (cf (.func (.func 116) [] []) [a0,a1,(.int .i64 0),(.int .i64 (-1))] H) fun v0 h1=>
 some (v0,h1)
theorem alA {a0 a1:AV}{H:Hp}{r:AV × Hp}(h:UP JN GO cK a0 a1 H=some r):cK (.func (.func 88) [] []) [a0,a1] H=some r:=aT (first:=[]) (cap:=[]) (aaw (by kernel_rfl) h)
noncomputable def Ln (J:JT)(G:GT)(cf:CF)(kN:K.Fn 3)(dc:K.Fn 6)(bU cC cF cJ cG dE:AV)(gD:Hp):R:=
 B1 (cB dE cJ) fun gm=>
 CD gm (
 B2 (cf (.func (.func 151) [] []) [bU,cC] gD) fun v44 nh=>
 B1 (cB v44 (.int .i64 0)) fun v46=>
 CD v46 (
 kN bU cG dE nh) (
 J 7 (fun xg=>
 B1 (bS v44 cF) fun gL=>
 B1 (nJ bU none (some gL)) fun v49=>
 B1 (ia 1 cG dE) fun jo=>
 B1 (st 1 jo v49 nh) fun np=>
 xg bU cC cF cJ cG dE v44 np) (fun ez dY dG dF cL dd du GU=>
 J 6 (fun O9=>
 B1 (lens dY) fun lU=>
 B1 (bS du lU) fun gV=>
 B1 (nJ ez (some gV) none) fun v63=>
 O9 v63 dY dG dF cL dd GU) (fun fU ft mu iB jE mo qn=>
 B1 (bS mo (.int .i64 1)) fun oL=>
 dc fU ft mu iB jE oL qn)))) (
 kN bU cG dE gD)
noncomputable def Ek (J:JT)(G:GT)(cf:CF)(kN:K.Fn 3):K.Fn 6:=eu P an J G cf 116 [1,1,1,1,1,1,1,1,0,0,0] [0,1,2,3,9,10] (fun q t H=>match Nat.beq q 0 with | true=>app 3 kN (ax [0,9,10] t) H | false=>(fun _ _ _=>none) q t H)
theorem ane (J:JT)(G:GT)(cf:CF)(kN:K.Fn 3)(dc:K.Fn 6)(bU cC cF cJ cG dE:AV)(gD:Hp):lh P an J G cf 116 [1,1,1,1,1,1,1,1,0,0,0] [0,1,2,3,9,10] (fun q t H=>match Nat.beq q 0 with | true=>app 3 kN (ax [0,9,10] t) H | false=>(fun _ _ _=>none) q t H) dc [bU,cC,cF,cJ,cG,dE] gD=Ln J G cf kN dc bU cC cF cJ cG dE gD:=by kernel_rfl
theorem U7 (cf:CF)(kN:K.Fn 3)(bU cC cF cJ cG dE:AV)(gD:Hp):Ek JN GO cf kN bU cC cF cJ cG dE gD=Ln JN GO cf kN (Ek JN GO cf kN) bU cC cF cJ cG dE gD:=aaw (b:=app 6 (Ek JN GO cf kN) [bU,cC,cF,cJ,cG,dE] gD) (by kernel_rfl) ((eS cf _ _ _ _ [bU,cC,cF,cJ,cG,dE] rfl gD).trans (ane JN GO cf kN _ bU cC cF cJ cG dE gD))
noncomputable def RP (J:JT)(G:GT)(cf:CF)(a0 a1 a2 a3:AV)(H:Hp):R:=
 B1 (bG a3 (.int .i64 0)) fun v0=>
 CD v0 (
 some (.ah,H)) (
 J 4 (fun j1=>
 B1 (seq a1 (.str [])) fun v2=>
 CD v2 (
 B2 (cf (.func (.func 149) [] []) [a0,a3] H) fun v3 h4=>
 some (v3,h4)) (
 j1 a0 a1 a2 a3 H)) (fun x5 x6 x7 x8 h9=>
 J 4 (fun aD=>
 B1 (cB x8 (.int .i64 0)) fun v11=>
 CD v11 (
 B2 (cf (.func (.func 150) [] []) [x5,x6] h9) fun v12 iP=>
 B1 (bS v12 (.int .i64 1)) fun cI=>
 aD x5 x6 x7 cI iP) (
 aD x5 x6 x7 x8 h9)) (fun br bJ bY bF cY=>
 J 4 (fun aF=>
 B1 (lens br) fun v21=>
 B1 (bS v21 (.int .i64 1)) fun v22=>
 B2 (gG P .min #[3,3] [bF,v22] cY) fun v23 jh=>
 aF br bJ bY v23 jh) (fun bC bT bN cZ dR=>
 B2 (xj [(.str [])] 9 1 cZ cZ dR) fun v30 gx=>
 B1 (mY cZ (.int .i64 1)) fun v32=>
 J 3 (fun G0=>
 J 3 (fun kN=>
 Ek J G cf kN bC bT bN v32 v30 (.int .i64 0) gx) (fun rA gS iJ si=>
 G0 rA gS iJ si)) (fun gJ fq fg iZ=>
 J 2 (fun j80=>
 B1 (ia 1 fq fg) fun oq=>
 B1 (st 1 oq gJ iZ) fun su=>
 j80 fq fg su) (fun mT pj rH=>
 B1 (bS pj (.int .i64 1)) fun yb=>
 B1 (qq 1 mT none (some yb) none) fun v87=>
 some (v87,rH)))))))
theorem apZ (J:JT)(G:GT)(cf:CF)(a0 a1 a2 a3:AV)(H:Hp):fQ P J G aR an cf 116 [a0,a1,a2,a3] H=RP J G cf a0 a1 a2 a3 H:=by kernel_rfl
theorem adS {a0 a1 a2 a3:AV}{H:Hp}{r:AV × Hp}(h:RP JN GO cK a0 a1 a2 a3 H=some r):cK (.func (.func 116) [] []) [a0,a1,a2,a3] H=some r:=aT (first:=[]) (cap:=[]) ((apZ JN GO _ a0 a1 a2 a3 H).trans h)
noncomputable def aeO (J:JT)(G:GT)(cf:CF)(fH:K.Fn 1):K.Fn 3:=eu P an J G cf 150 [1,1,1,1,0,0] [0,1,5] (fun q t H=>match Nat.beq q 0 with | true=>app 1 fH (ax [4] t) H | false=>(fun _ _ _=>none) q t H)
noncomputable def aaC (J:JT)(G:GT)(cf:CF)(a0 a1:AV)(H:Hp):R:=
 J 2 (fun j0=>
 B1 (lens a1) fun v1=>
 B1 (bG v1 (.int .i64 0)) fun v2=>
 CD v2 (
 B2 (cf (.func (.func 170) [] []) [a0] H) fun v3 h4=>
 B1 (bS v3 (.int .i64 1)) fun v5=>
 some (v5,h4)) (
 j0 a0 a1 H)) (fun x6 x7 h8=>
 J 2 (fun j9=>
 B1 (lens x7) fun v10=>
 B1 (bG v10 (.int .i64 1)) fun v11=>
 CD v11 (
 B1 (ue x7 (.int .i64 0)) fun v12=>
 B2 (cf (.func (.func 171) [] []) [x6,v12] h8) fun dJ eC=>
 some (dJ,eC)) (
 j9 x6 x7 h8)) (fun br bJ dL=>
 J 1 (fun fH=>
 aeO J G cf fH br bJ (.int .i64 0) dL) (fun bP eK=>
 some (bP,eK))))
theorem amh {a0 a1:AV}{H:Hp}{r:AV × Hp}(h:aaC JN GO cK a0 a1 H=some r):cK (.func (.func 150) [] []) [a0,a1] H=some r:=aT (first:=[]) (cap:=[]) (aaw (by kernel_rfl) h)
noncomputable def Wl (J:JT)(G:GT)(cf:CF)(a0 a1:AV)(H:Hp):R:=
 B2 (cf (.func (.func 172) [] []) [a0,a1] H) fun v0 h1=>
 some (v0,h1)
theorem apr {a0 a1:AV}{H:Hp}{r:AV × Hp}(h:Wl JN GO cK a0 a1 H=some r):cK (.func (.func 151) [] []) [a0,a1] H=some r:=aT (first:=[]) (cap:=[]) (aaw (by kernel_rfl) h)
noncomputable def W5 (J:JT)(G:GT)(cf:CF)(a0 a1:AV)(H:Hp):R:=
 B2 (cf (.func (.func 152) [] []) [a0,a1] H) fun v0 h1=>
 B1 (ex 0 v0) fun v2=>
 B1 (ex 1 v0) fun v3=>
 B1 (ex 2 v0) fun v4=>
 some (.tuple [v2,v3,v4],h1)
theorem am7 {a0 a1:AV}{H:Hp}{r:AV × Hp}(h:W5 JN GO cK a0 a1 H=some r):cK (.func (.func 117) [] []) [a0,a1] H=some r:=aT (first:=[]) (cap:=[]) (aaw (by kernel_rfl) h)
noncomputable def Li (J:JT)(G:GT)(cf:CF)(pn:K.Fn 3)(vI:K.Fn 6)(dE eL dQ iH fD iI:AV)(kj:Hp):R:=
 B1 (cB iI fD) fun gL=>
 CD gL (
 J 6 (fun j49=>
 B1 (ia 1 iH iI) fun jo=>
 B1 (ld jo kj) fun v51=>
 J 7 (fun j52=>
 J 8 (fun Sl=>
 B1 (lens v51) fun iN=>
 B1 (mY (.int .i64 9223372036854775807) dQ) fun jz=>
 B1 (lE iN jz) fun kO=>
 Sl dE eL dQ v51 iH fD iI kO kj) (fun dd du cN eT dZ lC kc fU nb=>
 CD fU (
 none) (
 j52 dd du cN eT dZ lC kc nb))) (fun mu iB jE mo lZ rN rA yg=>
 B1 (lens mo) fun kG=>
 B1 (bS jE kG) fun v75=>
 j49 mu iB v75 lZ rN rA yg)) (fun gJ fq fg py nL qF su=>
 B1 (bS qF (.int .i64 1)) fun rM=>
 vI gJ fq fg py nL rM su)) (
 pn dE eL dQ kj)
noncomputable def FM (J:JT)(G:GT)(cf:CF)(pn:K.Fn 3):K.Fn 6:=eu P an J G cf 85 [1,1,1,1,0,1,0,0] [0,1,5,39,40,41] (fun q t H=>match Nat.beq q 1 with | true=>app 3 pn (ax [0,1,5] t) H | false=>(fun _ _ _=>none) q t H)
theorem agh (J:JT)(G:GT)(cf:CF)(pn:K.Fn 3)(vI:K.Fn 6)(dE eL dQ iH fD iI:AV)(kj:Hp):lh P an J G cf 85 [1,1,1,1,0,1,0,0] [0,1,5,39,40,41] (fun q t H=>match Nat.beq q 1 with | true=>app 3 pn (ax [0,1,5] t) H | false=>(fun _ _ _=>none) q t H) vI [dE,eL,dQ,iH,fD,iI] kj=Li J G cf pn vI dE eL dQ iH fD iI kj:=by kernel_rfl
theorem SZ (cf:CF)(pn:K.Fn 3)(dE eL dQ iH fD iI:AV)(kj:Hp):FM JN GO cf pn dE eL dQ iH fD iI kj=Li JN GO cf pn (FM JN GO cf pn) dE eL dQ iH fD iI kj:=aaw (b:=app 6 (FM JN GO cf pn) [dE,eL,dQ,iH,fD,iI] kj) (by kernel_rfl) ((eS cf _ _ _ _ [dE,eL,dQ,iH,fD,iI] rfl kj).trans (agh JN GO cf pn _ dE eL dQ iH fD iI kj))
noncomputable def Ns (J:JT)(G:GT)(cf:CF)(vY:K.Fn 1)(acj:K.Fn 5)(xb rG nA na iC:AV)(oZ:Hp):R:=
 B1 (cB iC na) fun AQ=>
 CD AQ (
 J 5 (fun akf=>
 B1 (ia 1 nA iC) fun yu=>
 B1 (ld yu oZ) fun qa=>
 B2 (cf (.func (.func 113) [] []) [rG,xb] oZ) fun wq Al=>
 B2 (cf (.func (.func 113) [] []) [rG,qa] Al) fun v117 EU=>
 akf xb rG nA na iC EU) (fun ub sj sw uP wR sy=>
 B1 (bS wR (.int .i64 1)) fun yX=>
 acj ub sj sw uP yX sy)) (
 vY rG oZ)
noncomputable def Fp (J:JT)(G:GT)(cf:CF)(vY:K.Fn 1):K.Fn 5:=eu P an J G cf 85 [1,1,1,1,1,1,1,1,0,1,0,0] [1,8,63,64,65] (fun q t H=>match Nat.beq q 3 with | true=>app 1 vY (ax [8] t) H | false=>(fun _ _ _=>none) q t H)
theorem UF (cf:CF)(vY:K.Fn 1)(xb rG nA na iC:AV)(oZ:Hp):Fp JN GO cf vY xb rG nA na iC oZ=Ns JN GO cf vY (Fp JN GO cf vY) xb rG nA na iC oZ:=aaw (b:=app 5 (Fp JN GO cf vY) [xb,rG,nA,na,iC] oZ) (by kernel_rfl) ((eS cf 85 [1,1,1,1,1,1,1,1,0,1,0,0] [1,8,63,64,65] _ [xb,rG,nA,na,iC] rfl oZ).trans (by kernel_rfl))
noncomputable def Ff (J:JT)(G:GT)(cf:CF)(a0 a1:AV)(H:Hp):R:=
 J 2 (fun j0=>
 B1 (bq a0) fun v1=>
 B1 (bG v1 (.int .i64 0)) fun v2=>
 CD v2 (
 some ((.str []),H)) (
 B1 (bG v1 (.int .i64 1)) fun v3=>
 CD v3 (
 B1 (ia 1 a0 (.int .i64 0)) fun v4=>
 B1 (ld v4 H) fun v5=>
 some (v5,H)) (
 j0 a0 a1 H))) (fun x6 x7 h8=>
 J 3 (fun j9=>
 B1 (lens x7) fun v10=>
 B1 (lE v10 (.int .i64 0)) fun v11=>
 CD v11 (
 J 3 (fun cH=>
 J 4 (fun eQ=>
 B1 (lens x7) fun cI=>
 B1 (bq x6) fun gf=>
 B1 (mY gf (.int .i64 1)) fun cW=>
 B1 (Bf (.int .i64 9223372036854775807) cW) fun eN=>
 B1 (lJ cI eN) fun dO=>
 eQ x6 x7 (.int .i64 0) dO h8) (fun df da aX aM cp=>
 CD aM (
 none) (
 cH df da aX cp))) (fun bB bC bT eR=>
 B1 (lens bC) fun v28=>
 B1 (bq bB) fun v29=>
 B1 (mY v29 (.int .i64 1)) fun v30=>
 B1 (wB v28 v30) fun v31=>
 B1 (bS bT v31) fun v32=>
 j9 bB bC v32 eR)) (
 j9 x6 x7 (.int .i64 0) h8)) (fun cj bM dV mH=>
 J 3 (fun HX=>
 B1 (bq cj) fun iF=>
 J 3 (fun pn=>
 FM J G cf pn cj bM dV cj iF (.int .i64 0) mH) (fun pj pz oN tO=>
 HX pj pz oN tO)) (fun oJ B4 P6 vJ=>
 BN (aE vJ [.fB,.ah] 180 0) fun i92 Jb=>
 B2 (cf (.func (.func 112) [] []) [(.ptr i92 0),P6] Jb) fun xQ pP=>
 B1 (ia 1 oJ (.int .i64 0)) fun qz=>
 B1 (ld qz pP) fun DV=>
 B2 (cf (.func (.func 113) [] []) [(.ptr i92 0),DV] pP) fun Dk G2=>
 J 1 (fun apw=>
 B1 (qq 1 oJ (some (.int .i64 1)) none none) fun vq=>
 B1 (bq vq) fun rY=>
 J 1 (fun vY=>
 Fp J G cf vY B4 (.ptr i92 0) vq rY (.int .i64 0) G2) (fun jL OH=>
 apw jL OH)) (fun iw RC=>
 B2 (cf (.func (.func 114) [] []) [iw] RC) fun v130 DM=>
 some (v130,DM)))))
theorem ahy (J:JT)(G:GT)(cf:CF)(a0 a1:AV)(H:Hp):fQ P J G aR an cf 85 [a0,a1] H=Ff J G cf a0 a1 H:=by kernel_rfl
theorem NI {a0 a1:AV}{H:Hp}{r:AV × Hp}(h:Ff JN GO cK a0 a1 H=some r):cK (.func (.func 85) [] []) [a0,a1] H=some r:=aT (first:=[]) (cap:=[]) ((ahy JN GO _ a0 a1 H).trans h)
noncomputable def aku (J:JT)(G:GT)(cf:CF)(N2:K.Fn 0):K.Fn 8:=eu P an J G cf 172 [1,1,1,1,1,1,1,1,0,0,0] [0,1,5,6,7,8,9,10] (fun q t H=>match Nat.beq q 1 with | true=>app 0 N2 (ax [] t) H | false=>(fun _ _ _=>none) q t H)
noncomputable def NZ (J:JT)(G:GT)(cf:CF)(a0 a1:AV)(H:Hp):R:=
 B1 (lens a1) fun v0=>
 J 3 (fun j1=>
 J 4 (fun j2=>
 B1 (bG v0 (.int .i64 0)) fun v3=>
 G v3 false (fun k4=>
 k4 a1 H) (fun v5 h6=>
 G v3 false (fun k7=>
 k7 a0 h6) (fun v8 h9=>
 G v3 false (fun zY=>
 B1 (seq v5 v8) fun v11=>
 zY v11 h9) (fun v12 iP=>
 B1 (pk v3 (.bool true) v12) fun cI=>
 j2 a0 a1 v0 cI iP) h9) h6) H) (fun br bJ bY bF cY=>
 CD bF (
 some ((.int .i64 0),cY)) (
 B1 (bG bY (.int .i64 1)) fun v20=>
 CD v20 (
 B1 (ue bJ (.int .i64 0)) fun v21=>
 B2 (cf (.func (.func 186) [] []) [br,v21] cY) fun v22 cp=>
 some (v22,cp)) (
 J 4 (fun Gd=>
 B1 (lens br) fun v25=>
 B1 (lJ bY v25) fun v26=>
 Gd br bJ bY v26 cY) (fun bN cZ eP di gx=>
 CD di (
 some ((.int .i64 (-1)),gx)) (
 J 4 (fun gu=>
 B1 (ld (.ptr 1 0) gx) fun fy=>
 B1 (nZ eP fy) fun eg=>
 G eg true (fun xu=>
 xu bN gx) (fun v36 ir=>
 G eg true (fun xD=>
 B1 (lens v36) fun eJ=>
 xD eJ ir) (fun v40 iz=>
 G eg true (fun k42=>
 B1 (nZ v40 (.int .i64 64)) fun gm=>
 k42 gm iz) (fun v44 nh=>
 B1 (pk eg v44 (.bool false)) fun v46=>
 gu bN cZ eP v46 nh) iz) ir) gx) (fun gi fM fK gh np=>
 CD gh (
 B2 (cf (.func (.func 187) [] []) [gi,fM] np) fun jf ik=>
 some (jf,ik)) (
 j1 gi fM fK np)))))))) (fun dG dF cL jx=>
 B1 (ue dF (.int .i64 0)) fun mc=>
 B1 (ue dF (.int .i64 1)) fun v59=>
 J 7 (fun O9=>
 B1 (lens dG) fun lU=>
 B1 (mY lU cL) fun gV=>
 B1 (bS gV (.int .i64 1)) fun v63=>
 O9 dG dF cL mc v59 (.int .i64 0) v63 jx) (fun fU ft mu iB jE mo lZ kM=>
 J 0 (fun sZ=>
 J 0 (fun N2=>
 aku J G cf N2 fU ft mu iB jE mo lZ (.int .i64 0) kM) (fun  alD=>
 sZ  alD)) (fun  ak2=>
 some ((.int .i64 (-1)),ak2))))
theorem ala (J:JT)(G:GT)(cf:CF)(a0 a1:AV)(H:Hp):fQ P J G aR an cf 172 [a0,a1] H=NZ J G cf a0 a1 H:=by kernel_rfl
theorem ajw {a0 a1:AV}{H:Hp}{r:AV × Hp}(h:NZ JN GO cK a0 a1 H=some r):cK (.func (.func 172) [] []) [a0,a1] H=some r:=aT (first:=[]) (cap:=[]) ((ala JN GO _ a0 a1 H).trans h)
noncomputable def ZD (J:JT)(G:GT)(cf:CF)(a0 a1:AV)(H:Hp):R:=
 B2 (cf (.func (.func 197) [] []) [a0,a1] H) fun v0 h1=>
 some (v0,h1)
theorem agw {a0 a1:AV}{H:Hp}{r:AV × Hp}(h:ZD JN GO cK a0 a1 H=some r):cK (.func (.func 186) [] []) [a0,a1] H=some r:=aT (first:=[]) (cap:=[]) (aaw (by kernel_rfl) h)
noncomputable def U9 (J:JT)(G:GT)(cf:CF)(a0 a1:AV)(H:Hp):R:=
 J 1 (fun j0=>
 B2 (cf (.func (.func 172) [] []) [a0,a1] H) fun v1 h2=>
 B1 (lJ v1 (.int .i64 0)) fun v3=>
 CD v3 (
 B1 (nJ a0 none (some v1)) fun v4=>
 B1 (lens a1) fun v5=>
 B1 (bS v1 v5) fun v6=>
 B1 (nJ a0 (some v6) none) fun v7=>
 some (.tuple [v4,v7,(.bool true)],h2)) (
 j0 a0 h2)) (fun x8 h9=>
 some (.tuple [x8,(.str []),(.bool false)],h9))
theorem aiH {a0 a1:AV}{H:Hp}{r:AV × Hp}(h:U9 JN GO cK a0 a1 H=some r):cK (.func (.func 152) [] []) [a0,a1] H=some r:=aT (first:=[]) (cap:=[]) (aaw (by kernel_rfl) h)
noncomputable def Yz (J:JT)(G:GT)(cf:CF)(a0 a1:AV)(H:Hp):R:=
 B2 (cf (.func (.func 147) [] []) [a0] H) fun v0 h1=>
 J 2 (fun j2=>
 B1 (cB a1 (.int .i64 0)) fun v3=>
 CD v3 (
 none) (
 j2 a0 a1 h1)) (fun x4 x5 h6=>
 J 3 (fun j7=>
 B1 (aV x4) fun v8=>
 B1 (fa 1 v8) fun v9=>
 B1 (ld v9 h6) fun v10=>
 B2 (gG P .cap #[52] [v10] h6) fun v11 dU=>
 B1 (aV x4) fun dJ=>
 B1 (fa 1 dJ) fun cI=>
 B1 (ld cI h6) fun gf=>
 B1 (bq gf) fun cW=>
 B1 (mY v11 cW) fun eN=>
 B1 (cB eN x5) fun dO=>
 j7 x4 x5 dO h6) (fun df da aX lY=>
 CD aX (
 B2 (cf (.func (.func 148) [] []) [df,da] lY) fun v23 jh=>
 some (.tuple [],jh)) (
 some (.tuple [],lY))))
theorem afL {a0 a1:AV}{H:Hp}{r:AV × Hp}(h:Yz JN GO cK a0 a1 H=some r):cK (.func (.func 112) [] []) [a0,a1] H=some r:=aT (first:=[]) (cap:=[]) (aaw (by kernel_rfl) h)
noncomputable def VC (J:JT)(G:GT)(cf:CF)(a0 a1:AV)(H:Hp):R:=
 B2 (cf (.func (.func 147) [] []) [a0] H) fun v0 h1=>
 J 1 (fun j2=>
 B1 (aV a0) fun v3=>
 B1 (fa 1 v3) fun v4=>
 B1 (ld v4 h1) fun v5=>
 B2 (gw 5 1 [(.int .u8 0)] false v5 a1 h1) fun v6 h7=>
 B1 (aV a0) fun v8=>
 B1 (fa 1 v8) fun v9=>
 B1 (st 1 v9 v6 h7) fun bW=>
 j2 a1 bW) (fun bp dU=>
 B1 (lens bp) fun dJ=>
 some (.tuple [dJ,.nilIface],dU))
theorem ahE {a0 a1:AV}{H:Hp}{r:AV × Hp}(h:VC JN GO cK a0 a1 H=some r):cK (.func (.func 113) [] []) [a0,a1] H=some r:=aT (first:=[]) (cap:=[]) (aaw (by kernel_rfl) h)
noncomputable def Z5 (J:JT)(G:GT)(cf:CF)(a0:AV)(H:Hp):R:=
 B1 (aV a0) fun v0=>
 B1 (fa 1 v0) fun v1=>
 B1 (ld v1 H) fun v2=>
 B2 (gG P .unsafeSliceData #[52] [v2] H) fun v3 h4=>
 B1 (aV a0) fun v5=>
 B1 (fa 1 v5) fun v6=>
 B1 (ld v6 h4) fun v7=>
 B1 (bq v7) fun v8=>
 B2 (gG P .unsafeString #[222,3] [v3,v8] h4) fun v9 bW=>
 B1 (ld v6 H) fun v11=>
 SM v7 v11 <|
 B1 (bq v7) fun v12=>
 SM v8 v12 <|
 some (v9,bW)
theorem afw {a0:AV}{H:Hp}{r:AV × Hp}(h:Z5 JN GO cK a0 H=some r):cK (.func (.func 114) [] []) [a0] H=some r:=aT (first:=[]) (cap:=[]) (aaw (by kernel_rfl) h)
noncomputable def NN (J:JT)(G:GT)(cf:CF)(a0:AV)(H:Hp):R:=
 J 2 (fun j0=>
 B1 (aV a0) fun v1=>
 B1 (fa 0 v1) fun v2=>
 B1 (ld v2 H) fun v3=>
 B1 (Dx .eql (pe v3 .fB H)) fun v4=>
 j0 a0 v4 H) (fun x5 x6 h7=>
 CD x6 (
 B2 (iY P 178 242 x5 h7) fun v8 h9=>
 B2 (cf (.func (.func 168) [] []) [v8] h9) fun v10 gY=>
 B2 (iY P 242 178 v10 gY) fun v12 iP=>
 B1 (aV x5) fun cI=>
 B1 (fa 0 cI) fun gf=>
 B1 (st 1 gf v12 iP) fun bE=>
 some (.tuple [],bE)) (
 J 1 (fun mg=>
 B1 (aV x5) fun dO=>
 B1 (fa 0 dO) fun gC=>
 B1 (ld gC h7) fun v20=>
 B1 (Dx .neq (pe v20 x5 h7)) fun v21=>
 mg v21 h7) (fun aM cp=>
 CD aM (
 none) (
 some (.tuple [],cp)))))
theorem WW {a0:AV}{H:Hp}{r:AV × Hp}(h:NN JN GO cK a0 H=some r):cK (.func (.func 147) [] []) [a0] H=some r:=aT (first:=[]) (cap:=[]) (aaw (by kernel_rfl) h)
noncomputable def VY (J:JT)(G:GT)(cf:CF)(a0 a1:AV)(H:Hp):R:=
 J 2 (fun j0=>
 B1 (aV a0) fun v1=>
 B1 (fa 1 v1) fun v2=>
 B1 (ld v2 H) fun v3=>
 B2 (gG P .cap #[52] [v3] H) fun v4 h5=>
 B1 (wB (.int .i64 2) v4) fun v6=>
 B1 (bS v6 a1) fun v7=>
 B2 (cf (.func (.func 169) [] []) [v7] H) fun v8 h9=>
 B1 (aV a0) fun v10=>
 B1 (fa 1 v10) fun v11=>
 B1 (ld v11 h9) fun v12=>
 B1 (bq v12) fun dJ=>
 B1 (qq 1 v8 none (some dJ) none) fun cI=>
 B1 (ld v11 H) fun gf=>
 SM v12 gf <|
 B1 (bq v12) fun cW=>
 SM dJ cW <|
 j0 a0 cI h9) (fun bY bF cY=>
 J 2 (fun aF=>
 B1 (aV bY) fun v21=>
 B1 (fa 1 v21) fun v22=>
 B1 (ld v22 cY) fun v23=>
 B2 (Cf 1 bF v23 cY) fun v24 dX=>
 aF bY bF dX) (fun bT bN gO=>
 B1 (aV bT) fun v29=>
 B1 (fa 1 v29) fun v30=>
 B1 (st 1 v30 bN gO) fun gx=>
 some (.tuple [],gx)))
theorem amd {a0 a1:AV}{H:Hp}{r:AV × Hp}(h:VY JN GO cK a0 a1 H=some r):cK (.func (.func 148) [] []) [a0,a1] H=some r:=aT (first:=[]) (cap:=[]) (aaw (by kernel_rfl) h)
noncomputable def X8 (J:JT)(G:GT)(cf:CF)(a0:AV)(H:Hp):R:=
 B2 (cf (.func (.func 111) [] []) [a0] H) fun v0 h1=>
 some (v0,h1)
theorem aoj {a0:AV}{H:Hp}{r:AV × Hp}(h:X8 JN GO cK a0 H=some r):cK (.func (.func 84) [] []) [a0] H=some r:=aT (first:=[]) (cap:=[]) (aaw (by kernel_rfl) h)
noncomputable def abU (J:JT)(G:GT)(cf:CF)(a0:AV)(H:Hp):R:=
 B2 (cf (.func (.func 146) [] []) [a0,(.int .i64 10)] H) fun v0 h1=>
 some (v0,h1)
theorem apR {a0:AV}{H:Hp}{r:AV × Hp}(h:abU JN GO cK a0 H=some r):cK (.func (.func 111) [] []) [a0] H=some r:=aT (first:=[]) (cap:=[]) (aaw (by kernel_rfl) h)
noncomputable def Fi (J:JT)(G:GT)(cf:CF)(a0 a1:AV)(H:Hp):R:=
 J 2 (fun j0=>
 B1 (bG a1 (.int .i64 10)) fun v1=>
 CD v1 (
 J 1 (fun j2=>
 J 2 (fun j3=>
 B1 (nZ (.int .i64 0) a0) fun v4=>
 G v4 true (fun k5=>
 k5 a0 H) (fun v6 h7=>
 G v4 true (fun k8=>
 B1 (cB v6 (.int .i64 100)) fun v9=>
 k8 v9 h7) (fun v10 gY=>
 B1 (pk v4 v10 (.bool false)) fun v12=>
 j3 a0 v12 gY) h7) H) (fun aP bg eU=>
 CD bg (
 B2 (cf (.func (.func 164) [] []) [aP] eU) fun cW dL=>
 some (cW,dL)) (
 j2 aP eU))) (fun bF cY=>
 BN (aE cY [(.int .u8 0),(.int .u8 0),(.int .u8 0),(.int .u8 0),(.int .u8 0),(.int .u8 0),(.int .u8 0),(.int .u8 0),(.int .u8 0),(.int .u8 0),(.int .u8 0),(.int .u8 0),(.int .u8 0),(.int .u8 0),(.int .u8 0),(.int .u8 0),(.int .u8 0),(.int .u8 0),(.int .u8 0),(.int .u8 0),(.int .u8 0),(.int .u8 0),(.int .u8 0),(.int .u8 0)] 238 0) fun i20 kX=>
 B1 (cv .u64 bF) fun v22=>
 J 3 (fun fc=>
 B1 (cB bF (.int .i64 0)) fun v24=>
 CD v24 (
 B1 (fT .neg v22) fun v25=>
 fc bF (.ptr i20 0) v25 kX) (
 fc bF (.ptr i20 0) v22 kX)) (fun bT bN cZ dR=>
 B2 (cf (.func (.func 165) [] []) [cZ] dR) fun v30 gx=>
 J 3 (fun gu=>
 B1 (bS (.int .i64 1) v30) fun fy=>
 B1 (rq P 238 bN (some (.int .i64 1)) (some fy) none gx) fun eg=>
 B2 (cf (.func (.func 166) [] []) [eg,cZ] gx) fun v35 mH=>
 gu bT bN v30 mH) (fun cC cF cJ kI=>
 J 2 (fun Q0=>
 B1 (cB cC (.int .i64 0)) fun fx=>
 CD fx (
 B1 (nj 24 1 cF (.int .i64 0)) fun gm=>
 B1 (st 1 gm (.int .u8 45) kI) fun dT=>
 B1 (bS (.int .i64 1) cJ) fun fA=>
 B1 (rq P 238 cF none (some fA) none dT) fun v46=>
 B1 (Cy v46 dT) fun jq=>
 some (jq,dT)) (
 Q0 cF cJ kI)) (fun fM fK lg=>
 B1 (bS (.int .i64 1) fK) fun v51=>
 B1 (rq P 238 fM (some (.int .i64 1)) (some v51) none lg) fun jf=>
 B1 (Cy jf lg) fun v53=>
 some (v53,lg)))))) (
 j0 a0 a1 H)) (fun dG dF mK=>
 J 1 (fun Ao=>
 B1 (cv .u64 dG) fun mc=>
 B1 (cB dG (.int .i64 0)) fun v59=>
 B2 (cf (.func (.func 167) [] []) [.ah,mc,dF,v59,(.bool false)] mK) fun fI gM=>
 B1 (ex 0 fI) fun gV=>
 B1 (ex 1 fI) fun v63=>
 Ao v63 gM) (fun fU nb=>
 some (fU,nb)))
theorem alk (J:JT)(G:GT)(cf:CF)(a0 a1:AV)(H:Hp):fQ P J G aR an cf 146 [a0,a1] H=Fi J G cf a0 a1 H:=by kernel_rfl
theorem Su {a0 a1:AV}{H:Hp}{r:AV × Hp}(h:Fi JN GO cK a0 a1 H=some r):cK (.func (.func 146) [] []) [a0,a1] H=some r:=aT (first:=[]) (cap:=[]) ((alk JN GO _ a0 a1 H).trans h)
noncomputable def LQ (J:JT)(G:GT)(cf:CF)(a0:AV)(H:Hp):R:=
 J 1 (fun j0=>
 B1 (cB a0 (.int .i64 10)) fun v1=>
 CD v1 (
 B1 (bS a0 (.int .i64 1)) fun v2=>
 B1 (nJ (.str [48,49,50,51,52,53,54,55,56,57,97,98,99,100,101,102,103,104,105,106,107,108,109,110,111,112,113,114,115,116,117,118,119,120,121,122]) (some a0) (some v2)) fun v3=>
 some (v3,H)) (
 j0 a0 H)) (fun x4 h5=>
 B1 (wB x4 (.int .i64 2)) fun v6=>
 B1 (wB x4 (.int .i64 2)) fun v7=>
 B1 (bS v7 (.int .i64 2)) fun v8=>
 B1 (nJ (.str [48,48,48,49,48,50,48,51,48,52,48,53,48,54,48,55,48,56,48,57,49,48,49,49,49,50,49,51,49,52,49,53,49,54,49,55,49,56,49,57,50,48,50,49,50,50,50,51,50,52,50,53,50,54,50,55,50,56,50,57,51,48,51,49,51,50,51,51,51,52,51,53,51,54,51,55,51,56,51,57,52,48,52,49,52,50,52,51,52,52,52,53,52,54,52,55,52,56,52,57,53,48,53,49,53,50,53,51,53,52,53,53,53,54,53,55,53,56,53,57,54,48,54,49,54,50,54,51,54,52,54,53,54,54,54,55,54,56,54,57,55,48,55,49,55,50,55,51,55,52,55,53,55,54,55,55,55,56,55,57,56,48,56,49,56,50,56,51,56,52,56,53,56,54,56,55,56,56,56,57,57,48,57,49,57,50,57,51,57,52,57,53,57,54,57,55,57,56,57,57]) (some v6) (some v8)) fun v9=>
 some (v9,h5))
theorem anm (J:JT)(G:GT)(cf:CF)(a0:AV)(H:Hp):fQ P J G aR an cf 164 [a0] H=LQ J G cf a0 H:=by kernel_rfl
theorem ann {a0:AV}{H:Hp}{r:AV × Hp}(h:LQ JN GO cK a0 H=some r):cK (.func (.func 164) [] []) [a0] H=some r:=aT (first:=[]) (cap:=[]) ((anm JN GO _ a0 H).trans h)
noncomputable def SI (J:JT)(G:GT)(cf:CF)(a0:AV)(H:Hp):R:=
 B2 (cf (.func (.func 182) [] []) [a0] H) fun v0 h1=>
 B2 (cf (.func (.func 181) [] []) [v0] h1) fun v2 h3=>
 B1 (nj 20 1 (.ptr 0 0) v2) fun v4=>
 B1 (ld v4 h3) fun v5=>
 B1 (lJ a0 v5) fun v6=>
 B2 (cf (.func (.func 183) [] []) [v6] h3) fun v7 h8=>
 B1 (bS v2 v7) fun v9=>
 some (v9,h8)
theorem apc {a0:AV}{H:Hp}{r:AV × Hp}(h:SI JN GO cK a0 H=some r):cK (.func (.func 165) [] []) [a0] H=some r:=aT (first:=[]) (cap:=[]) (aaw (by kernel_rfl) h)
noncomputable def XH (J:JT)(G:GT)(cf:CF)(a0:AV)(H:Hp):R:=
 B1 (wB a0 (.int .i64 78913)) fun v0=>
 B1 (Ag v0 (.int .u64 18)) fun v1=>
 some (v1,H)
theorem aje {a0:AV}{H:Hp}{r:AV × Hp}(h:XH JN GO cK a0 H=some r):cK (.func (.func 181) [] []) [a0] H=some r:=aT (first:=[]) (cap:=[]) (aaw (by kernel_rfl) h)
noncomputable def R3 (J:JT)(G:GT)(cf:CF)(a0:AV)(H:Hp):R:=
 CD a0 (
 some ((.int .i64 1),H)) (
 some ((.int .i64 0),H))
theorem YQ {a0:AV}{H:Hp}{r:AV × Hp}(h:R3 JN GO cK a0 H=some r):cK (.func (.func 183) [] []) [a0] H=some r:=aT (first:=[]) (cap:=[]) (aaw (by kernel_rfl) h)
noncomputable def Sg (J:JT)(G:GT)(cf:CF)(j2:K.Fn 0)(j3:K.Fn 4)(x4 x5 x6 x7:AV)(h8:Hp):R:=
 B1 (cB x7 x6) fun v9=>
 CD v9 (
 J 4 (fun aD=>
 J 6 (fun ly=>
 B1 (ia 1 x4 x7) fun v12=>
 B1 (ld v12 h8) fun dJ=>
 B1 (seq x5 dJ) fun cI=>
 ly x4 x5 x7 x6 x7 cI h8) (fun br bJ bY bF df da kX=>
 CD da (
 some (bY,kX)) (
 aD br bJ bF df kX))) (fun aM bf bB bC dD=>
 B1 (bS bC (.int .i64 1)) fun v27=>
 j3 aM bf bB v27 dD)) (
 j2  h8)
noncomputable def Gv (J:JT)(G:GT)(cf:CF)(j2:K.Fn 0):K.Fn 4:=eu P an J G cf 104 [1,0,1,0,0] [0,1,7,8] (fun q t H=>match Nat.beq q 0 with | true=>app 0 j2 (ax [] t) H | false=>(fun _ _ _=>none) q t H)
theorem Zp (cf:CF)(j2:K.Fn 0)(x4 x5 x6 x7:AV)(h8:Hp):Gv JN GO cf j2 x4 x5 x6 x7 h8=Sg JN GO cf j2 (Gv JN GO cf j2) x4 x5 x6 x7 h8:=aaw (b:=app 4 (Gv JN GO cf j2) [x4,x5,x6,x7] h8) (by kernel_rfl) ((eS cf 104 [1,0,1,0,0] [0,1,7,8] _ [x4,x5,x6,x7] rfl h8).trans (by kernel_rfl))
noncomputable def Zr (J:JT)(G:GT)(cf:CF)(a0 a1:AV)(H:Hp):R:=
 J 0 (fun j0=>
 B1 (bq a0) fun v1=>
 J 0 (fun j2=>
 Gv J G cf j2 a0 a1 v1 (.int .i64 0) H) (fun  gO=>
 j0  gO)) (fun  dR=>
 some ((.int .i64 (-1)),dR))
theorem amm {a0 a1:AV}{H:Hp}{r:AV × Hp}(h:Zr JN GO cK a0 a1 H=some r):cK (.func (.func 104) [] []) [a0,a1] H=some r:=aT (first:=[]) (cap:=[]) (aaw (by kernel_rfl) h)
noncomputable def SR (J:JT)(G:GT)(cf:CF)(a0 a1:AV)(H:Hp):R:=
 B2 (cf (.func (.func 104) [] []) [a0,a1] H) fun v0 h1=>
 B1 (lJ v0 (.int .i64 0)) fun v2=>
 some (v2,h1)
theorem ap0 {a0 a1:AV}{H:Hp}{r:AV × Hp}(h:SR JN GO cK a0 a1 H=some r):cK (.func (.func 94) [] []) [a0,a1] H=some r:=aT (first:=[]) (cap:=[]) (aaw (by kernel_rfl) h)
noncomputable def Nz (J:JT)(G:GT)(cf:CF)(j4:K.Fn 0)(j5:K.Fn 4)(x6 x7 x8 x9:AV)(bW:Hp):R:=
 B1 (cB x9 x8) fun v11=>
 CD v11 (
 J 4 (fun cH=>
 J 6 (fun eQ=>
 B1 (aA 2 x7 bW) fun cI=>
 B1 (ia 2 x6 x9) fun gf=>
 B1 (aA 2 gf bW) fun cW=>
 qE (gA P .eql 231 false cI cW) <| B1 (eA P .eql 231 cI cW bW) fun eN=>
 eQ x6 x7 x9 x8 x9 eN bW) (fun bF df da aX aM bf jh=>
 CD bf (
 some (da,jh)) (
 cH bF df aX aM jh))) (fun bC bT bN cZ dR=>
 B1 (bS cZ (.int .i64 1)) fun v30=>
 j5 bC bT bN v30 dR)) (
 j4  bW)
noncomputable def EB (J:JT)(G:GT)(cf:CF)(j4:K.Fn 0):K.Fn 4:=eu P an J G cf 177 [1,0,1,0,0] [0,3,7,8] (fun q t H=>match Nat.beq q 0 with | true=>app 0 j4 (ax [] t) H | false=>(fun _ _ _=>none) q t H)
theorem XG (cf:CF)(j4:K.Fn 0)(x6 x7 x8 x9:AV)(bW:Hp):EB JN GO cf j4 x6 x7 x8 x9 bW=Nz JN GO cf j4 (EB JN GO cf j4) x6 x7 x8 x9 bW:=aaw (b:=app 4 (EB JN GO cf j4) [x6,x7,x8,x9] bW) (by kernel_rfl) ((eS cf 177 [1,0,1,0,0] [0,3,7,8] _ [x6,x7,x8,x9] rfl bW).trans (by kernel_rfl))
noncomputable def U1 (J:JT)(G:GT)(cf:CF)(a0 a1:AV)(H:Hp):R:=
 BN (bx 231 a1 H) fun i0 h1=>
 J 0 (fun j2=>
 B1 (bq a0) fun v3=>
 J 0 (fun j4=>
 EB J G cf j4 a0 (.ptr i0 0) v3 (.int .i64 0) h1) (fun  gx=>
 j2  gx)) (fun  eK=>
 some ((.int .i64 (-1)),eK))
theorem apy {a0 a1:AV}{H:Hp}{r:AV × Hp}(h:U1 JN GO cK a0 a1 H=some r):cK (.func (.func 177) [] []) [a0,a1] H=some r:=aT (first:=[]) (cap:=[]) (aaw (by kernel_rfl) h)
noncomputable def T7 (J:JT)(G:GT)(cf:CF)(a0 a1:AV)(H:Hp):R:=
 BN (bx 231 a1 H) fun i0 h1=>
 B1 (aA 2 (.ptr i0 0) h1) fun v2=>
 B2 (cf (.func (.func 177) [] []) [a0,v2] h1) fun v3 h4=>
 B1 (lJ v3 (.int .i64 0)) fun v5=>
 some (v5,h4)
theorem adi {a0 a1:AV}{H:Hp}{r:AV × Hp}(h:T7 JN GO cK a0 a1 H=some r):cK (.func (.func 158) [] []) [a0,a1] H=some r:=aT (first:=[]) (cap:=[]) (aaw (by kernel_rfl) h)
noncomputable def WD (J:JT)(G:GT)(cf:CF)(a0 a1:AV)(H:Hp):R:=
 B2 (cf (.func (.func 163) [] []) [a0,a1] H) fun v0 h1=>
 B1 (lJ v0 (.int .i64 0)) fun v2=>
 some (v2,h1)
theorem aee {a0 a1:AV}{H:Hp}{r:AV × Hp}(h:WD JN GO cK a0 a1 H=some r):cK (.func (.func 143) [] []) [a0,a1] H=some r:=aT (first:=[]) (cap:=[]) (aaw (by kernel_rfl) h)
noncomputable def Le (J:JT)(G:GT)(cf:CF)(j2:K.Fn 0)(j3:K.Fn 4)(x4 x5 x6 x7:AV)(h8:Hp):R:=
 B1 (cB x7 x6) fun v9=>
 CD v9 (
 J 4 (fun aD=>
 J 6 (fun ly=>
 B1 (ia 1 x4 x7) fun v12=>
 B1 (ld v12 h8) fun dJ=>
 B2 (cf x5 [dJ] h8) fun cI eU=>
 ly x4 x5 x7 x6 x7 cI eU) (fun bJ bY bF df da aX lY=>
 CD aX (
 some (bF,lY)) (
 aD bJ bY df da lY))) (fun bf bB bC bT eR=>
 B1 (bS bT (.int .i64 1)) fun v28=>
 j3 bf bB bC v28 eR)) (
 j2  h8)
noncomputable def HA (J:JT)(G:GT)(cf:CF)(j2:K.Fn 0):K.Fn 4:=eu P an J G cf 163 [1,0,1,0,0] [0,1,7,8] (fun q t H=>match Nat.beq q 0 with | true=>app 0 j2 (ax [] t) H | false=>(fun _ _ _=>none) q t H)
theorem Rv (cf:CF)(j2:K.Fn 0)(x4 x5 x6 x7:AV)(h8:Hp):HA JN GO cf j2 x4 x5 x6 x7 h8=Le JN GO cf j2 (HA JN GO cf j2) x4 x5 x6 x7 h8:=aaw (b:=app 4 (HA JN GO cf j2) [x4,x5,x6,x7] h8) (by kernel_rfl) ((eS cf 163 [1,0,1,0,0] [0,1,7,8] _ [x4,x5,x6,x7] rfl h8).trans (by kernel_rfl))
noncomputable def VE (J:JT)(G:GT)(cf:CF)(a0 a1:AV)(H:Hp):R:=
 J 0 (fun j0=>
 B1 (bq a0) fun v1=>
 J 0 (fun j2=>
 HA J G cf j2 a0 a1 v1 (.int .i64 0) H) (fun  dR=>
 j0  dR)) (fun  jU=>
 some ((.int .i64 (-1)),jU))
theorem aim {a0 a1:AV}{H:Hp}{r:AV × Hp}(h:VE JN GO cK a0 a1 H=some r):cK (.func (.func 163) [] []) [a0,a1] H=some r:=aT (first:=[]) (cap:=[]) (aaw (by kernel_rfl) h)
noncomputable def OF (J:JT)(G:GT)(cf:CF)(j2:K.Fn 0)(j3:K.Fn 4)(x4 x5 x6 x7:AV)(h8:Hp):R:=
 B1 (cB x7 x6) fun v9=>
 CD v9 (
 J 4 (fun aD=>
 J 6 (fun ly=>
 B1 (ia 1 x4 x7) fun v12=>
 B1 (ld v12 h8) fun dJ=>
 B1 (bG x5 dJ) fun cI=>
 ly x4 x5 x7 x6 x7 cI h8) (fun br bJ bY bF df da kX=>
 CD da (
 some (bY,kX)) (
 aD br bJ bF df kX))) (fun aM bf bB bC dD=>
 B1 (bS bC (.int .i64 1)) fun v27=>
 j3 aM bf bB v27 dD)) (
 j2  h8)
noncomputable def EY (J:JT)(G:GT)(cf:CF)(j2:K.Fn 0):K.Fn 4:=eu P an J G cf 174 [1,0,1,0,0] [0,1,7,8] (fun q t H=>match Nat.beq q 0 with | true=>app 0 j2 (ax [] t) H | false=>(fun _ _ _=>none) q t H)
theorem aby (cf:CF)(j2:K.Fn 0)(x4 x5 x6 x7:AV)(h8:Hp):EY JN GO cf j2 x4 x5 x6 x7 h8=OF JN GO cf j2 (EY JN GO cf j2) x4 x5 x6 x7 h8:=aaw (b:=app 4 (EY JN GO cf j2) [x4,x5,x6,x7] h8) (by kernel_rfl) ((eS cf 174 [1,0,1,0,0] [0,1,7,8] _ [x4,x5,x6,x7] rfl h8).trans (by kernel_rfl))
noncomputable def Z7 (J:JT)(G:GT)(cf:CF)(a0 a1:AV)(H:Hp):R:=
 J 0 (fun j0=>
 B1 (bq a0) fun v1=>
 J 0 (fun j2=>
 EY J G cf j2 a0 a1 v1 (.int .i64 0) H) (fun  gO=>
 j0  gO)) (fun  dR=>
 some ((.int .i64 (-1)),dR))
theorem ae5 {a0 a1:AV}{H:Hp}{r:AV × Hp}(h:Z7 JN GO cK a0 a1 H=some r):cK (.func (.func 174) [] []) [a0,a1] H=some r:=aT (first:=[]) (cap:=[]) (aaw (by kernel_rfl) h)
noncomputable def aap (J:JT)(G:GT)(cf:CF)(a0 a1:AV)(H:Hp):R:=
 B2 (cf (.func (.func 174) [] []) [a0,a1] H) fun v0 h1=>
 B1 (lJ v0 (.int .i64 0)) fun v2=>
 some (v2,h1)
theorem agN {a0 a1:AV}{H:Hp}{r:AV × Hp}(h:aap JN GO cK a0 a1 H=some r):cK (.func (.func 154) [] []) [a0,a1] H=some r:=aT (first:=[]) (cap:=[]) (aaw (by kernel_rfl) h)
noncomputable def Th (J:JT)(G:GT)(cf:CF)(a0 a1:AV)(H:Hp):R:=
 B2 (cf (.func (.func 135) [] []) [a0,a1] H) fun v0 h1=>
 B1 (lJ v0 (.int .i64 0)) fun v2=>
 some (v2,h1)
theorem ank {a0 a1:AV}{H:Hp}{r:AV × Hp}(h:Th JN GO cK a0 a1 H=some r):cK (.func (.func 95) [] []) [a0,a1] H=some r:=aT (first:=[]) (cap:=[]) (aaw (by kernel_rfl) h)
noncomputable def Kx (J:JT)(G:GT)(cf:CF)(j2:K.Fn 0)(j3:K.Fn 4)(x4 x5 x6 x7:AV)(h8:Hp):R:=
 B1 (cB x7 x6) fun v9=>
 CD v9 (
 J 4 (fun aD=>
 J 6 (fun ly=>
 B1 (ia 6 x4 x7) fun v12=>
 B1 (aA 6 v12 h8) fun dJ=>
 B2 (cf x5 [dJ] h8) fun cI eU=>
 ly x4 x5 x7 x6 x7 cI eU) (fun bJ bY bF df da aX lY=>
 CD aX (
 some (bF,lY)) (
 aD bJ bY df da lY))) (fun bf bB bC bT eR=>
 B1 (bS bT (.int .i64 1)) fun v28=>
 j3 bf bB bC v28 eR)) (
 j2  h8)
noncomputable def ED (J:JT)(G:GT)(cf:CF)(j2:K.Fn 0):K.Fn 4:=eu P an J G cf 135 [1,0,1,0,0] [0,1,7,8] (fun q t H=>match Nat.beq q 0 with | true=>app 0 j2 (ax [] t) H | false=>(fun _ _ _=>none) q t H)
theorem Oa (cf:CF)(j2:K.Fn 0)(x4 x5 x6 x7:AV)(h8:Hp):ED JN GO cf j2 x4 x5 x6 x7 h8=Kx JN GO cf j2 (ED JN GO cf j2) x4 x5 x6 x7 h8:=aaw (b:=app 4 (ED JN GO cf j2) [x4,x5,x6,x7] h8) (by kernel_rfl) ((eS cf 135 [1,0,1,0,0] [0,1,7,8] _ [x4,x5,x6,x7] rfl h8).trans (by kernel_rfl))
noncomputable def Wt (J:JT)(G:GT)(cf:CF)(a0 a1:AV)(H:Hp):R:=
 J 0 (fun j0=>
 B1 (bq a0) fun v1=>
 J 0 (fun j2=>
 ED J G cf j2 a0 a1 v1 (.int .i64 0) H) (fun  dR=>
 j0  dR)) (fun  jU=>
 some ((.int .i64 (-1)),jU))
theorem an2 {a0 a1:AV}{H:Hp}{r:AV × Hp}(h:Wt JN GO cK a0 a1 H=some r):cK (.func (.func 135) [] []) [a0,a1] H=some r:=aT (first:=[]) (cap:=[]) (aaw (by kernel_rfl) h)
noncomputable def LN (J:JT)(G:GT)(cf:CF)(a0:AV)(H:Hp):R:=
 qE (gA P .eql 70 true a0 .ah) <| B1 (eA P .eql 70 a0 .ah H) fun v0=>
 CD v0 (
 some (.ah,H)) (
 B1 (fl [] []) fun l1=>
 BN (aE H l1 99 0) fun i2 h3=>
 B2 (gw 99 6 [(.str []),.ah,(.int .i64 0),(.int .i64 0),(.int .i64 0),(.str [])] false (.slice i2 0 0 0 true 6) a0 h3) fun v4 h5=>
 some (v4,h5))
theorem aaq {a0:AV}{H:Hp}{r:AV × Hp}(h:LN JN GO cK a0 H=some r):cK (.func (.func 136) [] []) [a0] H=some r:=aT (first:=[]) (cap:=[]) (aaw (by kernel_rfl) h)
noncomputable def PW (J:JT)(G:GT)(cf:CF)(a0:AV)(H:Hp):R:=
 qE (gA P .eql 97 true a0 .ah) <| B1 (eA P .eql 97 a0 .ah H) fun v0=>
 CD v0 (
 some (.ah,H)) (
 B1 (fl [] []) fun l1=>
 BN (aE H l1 3 0) fun i2 h3=>
 B2 (gw 3 1 [(.int .i64 0)] false (.slice i2 0 0 0 true 1) a0 h3) fun v4 h5=>
 some (v4,h5))
theorem YN {a0:AV}{H:Hp}{r:AV × Hp}(h:PW JN GO cK a0 H=some r):cK (.func (.func 137) [] []) [a0] H=some r:=aT (first:=[]) (cap:=[]) (aaw (by kernel_rfl) h)
noncomputable def Rh (J:JT)(G:GT)(cf:CF)(a0:AV)(H:Hp):R:=
 qE (gA P .eql 73 true a0 .ah) <| B1 (eA P .eql 73 a0 .ah H) fun v0=>
 CD v0 (
 some (.ah,H)) (
 B1 (fl [] []) fun l1=>
 BN (aE H l1 132 0) fun i2 h3=>
 B2 (gw 132 4 [(.int .i64 0),(.int .i64 0),(.int .i64 0),(.str [])] false (.slice i2 0 0 0 true 4) a0 h3) fun v4 h5=>
 some (v4,h5))
theorem Tv {a0:AV}{H:Hp}{r:AV × Hp}(h:Rh JN GO cK a0 H=some r):cK (.func (.func 138) [] []) [a0] H=some r:=aT (first:=[]) (cap:=[]) (aaw (by kernel_rfl) h)
noncomputable def PJ (J:JT)(G:GT)(cf:CF)(a0:AV)(H:Hp):R:=
 qE (gA P .eql 46 true a0 .ah) <| B1 (eA P .eql 46 a0 .ah H) fun v0=>
 CD v0 (
 some (.ah,H)) (
 B1 (fl [] []) fun l1=>
 BN (aE H l1 9 0) fun i2 h3=>
 B2 (gw 9 1 [(.str [])] false (.slice i2 0 0 0 true 1) a0 h3) fun v4 h5=>
 some (v4,h5))
theorem UH {a0:AV}{H:Hp}{r:AV × Hp}(h:PJ JN GO cK a0 H=some r):cK (.func (.func 30) [] []) [a0] H=some r:=aT (first:=[]) (cap:=[]) (aaw (by kernel_rfl) h)
noncomputable def JU (J:JT)(G:GT)(cf:CF)(cu:K.Fn 0)(gu:K.Fn 5)(cj bM dV bU cC:AV)(fV:Hp):R:=
 B1 (cB cC bU) fun eJ=>
 CD eJ (
 J 5 (fun vI=>
 B1 (ia 2 dV cC) fun v41=>
 B1 (aA 2 v41 fV) fun fx=>
 BN (aE fV [(.int .i64 0),(.int .i64 0)] 231 0) fun i43 dT=>
 B1 (st 2 (.ptr i43 0) fx dT) fun nh=>
 J 6 (fun yH=>
 J 7 (fun xg=>
 B1 (aA 2 cj nh) fun gL=>
 B1 (nj 2 1 (.ptr i43 0) (.int .i64 0)) fun v49=>
 B1 (ld v49 nh) fun jo=>
 B2 (cf (.func (.func 175) [] []) [gL,jo] nh) fun v51 nC=>
 B1 (fT .not v51) fun v53=>
 G v53 false (fun k54=>
 B1 (aA 2 cj nC) fun jz=>
 k54 jz nC) (fun kO jx=>
 G v53 false (fun EF=>
 B1 (nj 2 1 (.ptr i43 0) (.int .i64 1)) fun v59=>
 EF v59 jx) (fun fI gM=>
 G v53 false (fun k62=>
 B1 (ld fI gM) fun v63=>
 k62 v63 gM) (fun v64 nb=>
 G v53 false (fun Pf=>
 B2 (cf (.func (.func 175) [] []) [kO,v64] nb) fun oy xw=>
 Pf oy xw) (fun kR qn=>
 G v53 false (fun OS=>
 B1 (fT .not kR) fun v72=>
 OS v72 qn) (fun kU wW=>
 B1 (pk v53 (.bool true) kU) fun v75=>
 G v75 false (fun k76=>
 B1 (nj 2 1 (.ptr i43 0) (.int .i64 0)) fun qg=>
 k76 qg wW) (fun uU iZ=>
 G v75 false (fun Od=>
 B1 (ld uU iZ) fun oq=>
 Od oq iZ) (fun mV oU=>
 G v75 false (fun FE=>
 B1 (nj 2 1 (.ptr i43 0) (.int .i64 1)) fun v85=>
 FE v85 oU) (fun yb tO=>
 G v75 false (fun Rq=>
 B1 (ld yb tO) fun qo=>
 Rq qo tO) (fun qe vJ=>
 G v75 false (fun k92=>
 B1 (bG mV qe) fun v93=>
 k92 v93 vJ) (fun xQ pP=>
 B1 (pk v75 (.bool true) xQ) fun qz=>
 G qz false (fun RZ=>
 RZ bM pP) (fun Dk G2=>
 G qz false (fun aiI=>
 B1 (aA 2 (.ptr i43 0) G2) fun vq=>
 aiI vq G2) (fun rY kb=>
 G qz false (fun MT=>
 B1 (pZ P 248 Dk rY false kb) fun v105=>
 MT v105 kb) (fun AS F7=>
 B1 (pk qz (.bool true) AS) fun uA=>
 xg cj bM (.ptr i43 0) dV bU cC uA F7) kb) G2) pP) vJ) tO) oU) iZ) wW) qn) nb) gM) jx) nC) (fun iC pU pX uJ uq tt xx Al=>
 CD xx (
 some ((.bool false),Al)) (
 yH iC pU pX uJ uq tt Al))) (fun AA yx ub sj sw uP Cc=>
 B1 (aA 2 ub Cc) fun v124=>
 B1 (nH P 248 yx v124 (.bool true) Cc) fun DX=>
 vI AA yx sj sw uP DX)) (fun jL iu iw jb jX DM=>
 B1 (bS jX (.int .i64 1)) fun Oy=>
 gu jL iu iw jb Oy DM)) (
 cu  fV)
noncomputable def Gc (J:JT)(G:GT)(cf:CF)(cu:K.Fn 0):K.Fn 5:=eu P an J G cf 155 [1,1,1,0,1,0,0] [1,3,16,17,18] (fun q t H=>match Nat.beq q 0 with | true=>app 0 cu (ax [] t) H | false=>(fun _ _ _=>none) q t H)
theorem ajx (J:JT)(G:GT)(cf:CF)(cu:K.Fn 0)(gu:K.Fn 5)(cj bM dV bU cC:AV)(fV:Hp):lh P an J G cf 155 [1,1,1,0,1,0,0] [1,3,16,17,18] (fun q t H=>match Nat.beq q 0 with | true=>app 0 cu (ax [] t) H | false=>(fun _ _ _=>none) q t H) gu [cj,bM,dV,bU,cC] fV=JU J G cf cu gu cj bM dV bU cC fV:=by kernel_rfl
theorem Tt (cf:CF)(cu:K.Fn 0)(cj bM dV bU cC:AV)(fV:Hp):Gc JN GO cf cu cj bM dV bU cC fV=JU JN GO cf cu (Gc JN GO cf cu) cj bM dV bU cC fV:=aaw (b:=app 5 (Gc JN GO cf cu) [cj,bM,dV,bU,cC] fV) (by kernel_rfl) ((eS cf _ _ _ _ [cj,bM,dV,bU,cC] rfl fV).trans (ajx JN GO cf cu _ cj bM dV bU cC fV))
noncomputable def NP (J:JT)(G:GT)(cf:CF)(a0:AV)(H:Hp):R:=
 BN (bx 201 a0 H) fun i0 h1=>
 J 1 (fun j2=>
 J 2 (fun j3=>
 B1 (fa 0 (.ptr i0 0)) fun v4=>
 B1 (ld v4 h1) fun v5=>
 B1 (cB v5 (.int .i64 0)) fun v6=>
 G v6 false (fun k7=>
 B1 (fa 0 (.ptr i0 0)) fun v8=>
 k7 v8 h1) (fun v9 bW=>
 G v6 false (fun Aq=>
 B1 (ld v9 bW) fun v12=>
 Aq v12 bW) (fun dJ eC=>
 G v6 false (fun xN=>
 B1 (lE dJ (.int .i64 16)) fun cW=>
 xN cW eC) (fun eN fe=>
 B1 (pk v6 (.bool true) eN) fun gC=>
 j3 (.ptr i0 0) gC fe) eC) bW) h1) (fun da aX lY=>
 CD aX (
 some ((.bool false),lY)) (
 j2 da lY))) (fun bf jh=>
 BN (xc jh) fun i25 dD=>
 J 0 (fun xp=>
 B1 (fa 1 bf) fun v28=>
 B1 (ld v28 dD) fun v29=>
 B1 (bq v29) fun v30=>
 J 0 (fun cu=>
 Gc J G cf cu bf (.map i25) v29 v30 (.int .i64 0) dD) (fun  lL=>
 xp  lL)) (fun  CE=>
 some ((.bool true),CE)))
theorem agp (J:JT)(G:GT)(cf:CF)(a0:AV)(H:Hp):fQ P J G aR an cf 155 [a0] H=NP J G cf a0 H:=by kernel_rfl
theorem aeb {a0:AV}{H:Hp}{r:AV × Hp}(h:NP JN GO cK a0 H=some r):cK (.func (.func 155) [] []) [a0] H=some r:=aT (first:=[]) (cap:=[]) ((agp JN GO _ a0 H).trans h)
noncomputable def Vs (J:JT)(G:GT)(cf:CF)(a0 a1:AV)(H:Hp):R:=
 BN (bx 201 a0 H) fun i0 h1=>
 B1 (lJ a1 (.int .i64 0)) fun v2=>
 G v2 true (fun k3=>
 k3 a1 h1) (fun v4 h5=>
 G v2 true (fun k6=>
 B1 (fa 0 (.ptr i0 0)) fun v7=>
 k6 v7 h5) (fun v8 h9=>
 G v2 true (fun zY=>
 B1 (ld v8 h9) fun v11=>
 zY v11 h9) (fun v12 iP=>
 G v2 true (fun PH=>
 B1 (cB v4 v12) fun gf=>
 PH gf iP) (fun cW dL=>
 B1 (pk v2 cW (.bool false)) fun dO=>
 some (dO,dL)) iP) h9) h5) h1
theorem adx {a0 a1:AV}{H:Hp}{r:AV × Hp}(h:Vs JN GO cK a0 a1 H=some r):cK (.func (.func 175) [] []) [a0,a1] H=some r:=aT (first:=[]) (cap:=[]) (aaw (by kernel_rfl) h)
noncomputable def CJ (J:JT)(G:GT)(cf:CF)(aD:K.Fn 1)(ly:K.Fn 6)(aZ aP bg br bJ bY:AV)(fe:Hp):R:=
 B1 (cB bY bJ) fun gC=>
 CD gC (
 J 6 (fun aF=>
 J 6 (fun eX=>
 B1 (ia 2 br bY) fun v22=>
 B1 (aA 2 v22 fe) fun v23=>
 BN (aE fe [(.int .i64 0),(.int .i64 0)] 231 0) fun i24 dX=>
 B1 (st 2 (.ptr i24 0) v23 dX) fun dD=>
 J 8 (fun xp=>
 B1 (nj 2 1 (.ptr i24 0) aP) fun v28=>
 B1 (ld v28 dD) fun v29=>
 B1 (bG v29 aZ) fun v30=>
 xp aZ aP bg (.ptr i24 0) br bJ bY v30 dD) (fun bP eE cj bM dV bU cC cF p7=>
 CD cF (
 B1 (mY (.int .i64 1) eE) fun v40=>
 B1 (nj 2 1 bM v40) fun v41=>
 B1 (ld v41 p7) fun fx=>
 B1 (fl [(.int .i64 0)] [(0,1,fx)]) fun l43=>
 BN (aE p7 l43 3 0) fun i44 nh=>
 B2 (gw 3 1 [(.int .i64 0)] false cj (.slice i44 0 1 1 true 1) nh) fun v46 kj=>
 eX bP eE v46 dV bU cC kj) (
 eX bP eE cj dV bU cC p7))) (fun fM fK gh fS ez dY xO=>
 aF fM fK gh fS ez dY xO)) (fun dF cL dd du cN eT gM=>
 B1 (bS eT (.int .i64 1)) fun gV=>
 ly dF cL dd du cN gV gM)) (
 aD bg fe)
noncomputable def G4 (J:JT)(G:GT)(cf:CF)(aD:K.Fn 1):K.Fn 6:=eu P an J G cf 176 [1,1,1,0,1,0,0] [1,2,7,14,15,16] (fun q t H=>match Nat.beq q 0 with | true=>app 1 aD (ax [7] t) H | false=>(fun _ _ _=>none) q t H)
theorem Qw (cf:CF)(aD:K.Fn 1)(aZ aP bg br bJ bY:AV)(fe:Hp):G4 JN GO cf aD aZ aP bg br bJ bY fe=CJ JN GO cf aD (G4 JN GO cf aD) aZ aP bg br bJ bY fe:=aaw (b:=app 6 (G4 JN GO cf aD) [aZ,aP,bg,br,bJ,bY] fe) (by kernel_rfl) ((eS cf 176 [1,1,1,0,1,0,0] [1,2,7,14,15,16] _ [aZ,aP,bg,br,bJ,bY] rfl fe).trans (by kernel_rfl))
noncomputable def TK (J:JT)(G:GT)(cf:CF)(a0 a1 a2:AV)(H:Hp):R:=
 BN (bx 201 a0 H) fun i0 h1=>
 B1 (aA 2 (.ptr i0 0) h1) fun v2=>
 B2 (cf (.func (.func 155) [] []) [v2] h1) fun v3 h4=>
 B1 (fT .not v3) fun v5=>
 CD v5 (
 some (.ah,h4)) (
 J 1 (fun j6=>
 B1 (fa 1 (.ptr i0 0)) fun v7=>
 B1 (ld v7 h4) fun v8=>
 B1 (bq v8) fun v9=>
 J 1 (fun aD=>
 G4 J G cf aD a1 a2 .ah v8 v9 (.int .i64 0) h4) (fun kc tR=>
 j6 kc tR)) (fun ft fW=>
 B2 (cf (.func (.func 192) [] []) [ft] fW) fun oy xw=>
 some (ft,xw)))
theorem amL {a0 a1 a2:AV}{H:Hp}{r:AV × Hp}(h:TK JN GO cK a0 a1 a2 H=some r):cK (.func (.func 176) [] []) [a0,a1,a2] H=some r:=aT (first:=[]) (cap:=[]) (aaw (by kernel_rfl) h)
noncomputable def ace (J:JT)(G:GT)(cf:CF)(a0 a1:AV)(H:Hp):R:=
 BN (bx 201 a0 H) fun i0 h1=>
 B1 (aA 2 (.ptr i0 0) h1) fun v2=>
 B2 (cf (.func (.func 176) [] []) [v2,a1,(.int .i64 0)] h1) fun v3 h4=>
 some (v3,h4)
theorem aiV {a0 a1:AV}{H:Hp}{r:AV × Hp}(h:ace JN GO cK a0 a1 H=some r):cK (.func (.func 157) [] []) [a0,a1] H=some r:=aT (first:=[]) (cap:=[]) (aaw (by kernel_rfl) h)
noncomputable def Es (J:JT)(G:GT)(cf:CF)(aD:K.Fn 1)(aF:K.Fn 4)(fc:K.Fn 4)(dc:K.Fn 7)(ey:K.Fn 7)(qW:K.Fn 10)(cL dd du cN eT dZ lC kc fU ft:AV)(fW:Hp):R:=
 B1 (cB ft fU) fun oy=>
 CD oy (
 J 10 (fun MH=>
 J 10 (fun JG=>
 B1 (ia 1 kc ft) fun v70=>
 B1 (ld v70 fW) fun oL=>
 J 12 (fun sZ=>
 B1 (ia 1 dd oL) fun kU=>
 B1 (ld kU fW) fun kG=>
 B1 (bG kG (.int .i64 0)) fun v75=>
 sZ cL dd du cN oL eT dZ lC kc fU ft v75 fW) (fun gJ fq fg py nL qF uc mT pj pz oN uy DY=>
 CD uy (
 J 11 (fun j89=>
 B1 (ia 1 fq nL) fun qe=>
 B1 (st 1 qe fg DY) fun vJ=>
 j89 gJ fq fg py nL qF uc mT pj pz oN vJ) (fun mj nU lS mq oW od ri lM qU nN qj kb=>
 B1 (fl [(.int .i64 0)] [(0,1,oW)]) fun HI=>
 BN (aE kb HI 3 0) fun i105 wO=>
 B2 (gw 3 1 [(.int .i64 0)] false mq (.slice i105 0 1 1 true 1) wO) fun v107 ahK=>
 JG mj nU lS v107 od ri lM qU nN qj ahK)) (
 JG gJ fq fg py qF uc mT pj pz oN DY))) (fun iC pU pX uJ uq tt xx wL AA yx RB=>
 MH iC pU pX uJ uq tt xx wL AA yx RB)) (fun sj sw uP wR AZ Fl jL iu iw jb Fg=>
 B1 (bS jb (.int .i64 1)) fun v131=>
 qW sj sw uP wR AZ Fl jL iu iw v131 Fg)) (
 ey cL dd du cN eT dZ lC fW)
noncomputable def G9 (J:JT)(G:GT)(cf:CF)(aD:K.Fn 1)(aF:K.Fn 4)(fc:K.Fn 4)(dc:K.Fn 7)(ey:K.Fn 7):K.Fn 10:=eu P an J G cf 156 [1,1,1,0,1,0,0,1,0,0,1,0,1,0,0,1,1,0,0,1,1,0,0] [2,5,7,8,23,24,25,31,32,33] (fun q t H=>match Nat.beq q 4 with | true=>app 7 ey (ax [2,5,7,8,23,24,25] t) H | false=>(fun q t H=>match Nat.beq q 3 with | true=>app 7 dc (ax [2,5,7,8,23,24,25] t) H | false=>(fun q t H=>match Nat.beq q 2 with | true=>app 4 fc (ax [2,5,7,8] t) H | false=>(fun q t H=>match Nat.beq q 1 with | true=>app 4 aF (ax [2,5,6,7] t) H | false=>(fun q t H=>match Nat.beq q 0 with | true=>app 1 aD (ax [5] t) H | false=>(fun _ _ _=>none) q t H) q t H) q t H) q t H) q t H)
theorem aoy (J:JT)(G:GT)(cf:CF)(aD:K.Fn 1)(aF:K.Fn 4)(fc:K.Fn 4)(dc:K.Fn 7)(ey:K.Fn 7)(qW:K.Fn 10)(cL dd du cN eT dZ lC kc fU ft:AV)(fW:Hp):lh P an J G cf 156 [1,1,1,0,1,0,0,1,0,0,1,0,1,0,0,1,1,0,0,1,1,0,0] [2,5,7,8,23,24,25,31,32,33] (fun q t H=>match Nat.beq q 4 with | true=>app 7 ey (ax [2,5,7,8,23,24,25] t) H | false=>(fun q t H=>match Nat.beq q 3 with | true=>app 7 dc (ax [2,5,7,8,23,24,25] t) H | false=>(fun q t H=>match Nat.beq q 2 with | true=>app 4 fc (ax [2,5,7,8] t) H | false=>(fun q t H=>match Nat.beq q 1 with | true=>app 4 aF (ax [2,5,6,7] t) H | false=>(fun q t H=>match Nat.beq q 0 with | true=>app 1 aD (ax [5] t) H | false=>(fun _ _ _=>none) q t H) q t H) q t H) q t H) q t H) qW [cL,dd,du,cN,eT,dZ,lC,kc,fU,ft] fW=Es J G cf aD aF fc dc ey qW cL dd du cN eT dZ lC kc fU ft fW:=by kernel_rfl
theorem Sf (cf:CF)(aD:K.Fn 1)(aF:K.Fn 4)(fc:K.Fn 4)(dc:K.Fn 7)(ey:K.Fn 7)(cL dd du cN eT dZ lC kc fU ft:AV)(fW:Hp):G9 JN GO cf aD aF fc dc ey cL dd du cN eT dZ lC kc fU ft fW=Es JN GO cf aD aF fc dc ey (G9 JN GO cf aD aF fc dc ey) cL dd du cN eT dZ lC kc fU ft fW:=aaw (b:=app 10 (G9 JN GO cf aD aF fc dc ey) [cL,dd,du,cN,eT,dZ,lC,kc,fU,ft] fW) (by kernel_rfl) ((eS cf _ _ _ _ [cL,dd,du,cN,eT,dZ,lC,kc,fU,ft] rfl fW).trans (aoy JN GO cf aD aF fc dc ey _ cL dd du cN eT dZ lC kc fU ft fW))
noncomputable def Sk (J:JT)(G:GT)(cf:CF)(aD:K.Fn 1)(aF:K.Fn 4)(fc:K.Fn 4)(Gd:K.Fn 7)(bC bT bN cZ eP di bP:AV)(eK:Hp):R:=
 B1 (cB bP di) fun fy=>
 CD fy (
 J 7 (fun kN=>
 J 7 (fun dc=>
 B1 (ia 1 eP bP) fun v36=>
 B1 (ld v36 eK) fun v37=>
 J 10 (fun M1=>
 B1 (aA 2 bC eK) fun eJ=>
 B2 (cf (.func (.func 157) [] []) [eJ,v37] eK) fun v40 iz=>
 B1 (bq v40) fun fx=>
 M1 bC bT bN cZ eP di bP v40 fx (.int .i64 0) iz) (fun dQ iH fD iI gi fM fK gh fS ez ik=>
 J 7 (fun ey=>
 G9 J G cf aD aF fc dc ey dQ iH fD iI gi fM fK gh fS ez ik) (fun ki tC tX pK sI yZ BD vU=>
 dc ki tC tX pK sI yZ BD vU))) (fun QY DI A7 GC xV xY yV af3=>
 kN QY DI A7 GC xV xY yV af3)) (fun Ei Hh Bh AD Ah AW zS akx=>
 B1 (bS zS (.int .i64 1)) fun OV=>
 Gd Ei Hh Bh AD Ah AW OV akx)) (
 fc bC bT bN cZ eK)
noncomputable def Ef (J:JT)(G:GT)(cf:CF)(aD:K.Fn 1)(aF:K.Fn 4)(fc:K.Fn 4):K.Fn 7:=eu P an J G cf 156 [1,1,1,0,1,0,0,1,0,0,1,0,1,0,0] [2,5,7,8,23,24,25] (fun q t H=>match Nat.beq q 2 with | true=>app 4 fc (ax [2,5,7,8] t) H | false=>(fun q t H=>match Nat.beq q 1 with | true=>app 4 aF (ax [2,5,6,7] t) H | false=>(fun q t H=>match Nat.beq q 0 with | true=>app 1 aD (ax [5] t) H | false=>(fun _ _ _=>none) q t H) q t H) q t H)
theorem Tn (cf:CF)(aD:K.Fn 1)(aF:K.Fn 4)(fc:K.Fn 4)(bC bT bN cZ eP di bP:AV)(eK:Hp):Ef JN GO cf aD aF fc bC bT bN cZ eP di bP eK=Sk JN GO cf aD aF fc (Ef JN GO cf aD aF fc) bC bT bN cZ eP di bP eK:=aaw (b:=app 7 (Ef JN GO cf aD aF fc) [bC,bT,bN,cZ,eP,di,bP] eK) (by kernel_rfl) ((eS cf 156 [1,1,1,0,1,0,0,1,0,0,1,0,1,0,0] [2,5,7,8,23,24,25] _ [bC,bT,bN,cZ,eP,di,bP] rfl eK).trans (by kernel_rfl))
noncomputable def NJ (J:JT)(G:GT)(cf:CF)(aD:K.Fn 1)(ly:K.Fn 4)(aZ aP bg br:AV)(bE:Hp):R:=
 B1 (bq bg) fun eN=>
 B1 (lE eN (.int .i64 0)) fun dO=>
 CD dO (
 J 4 (fun bL=>
 J 4 (fun aF=>
 J 4 (fun eX=>
 B1 (bq bg) fun v22=>
 J 4 (fun fc=>
 Ef J G cf aD aF fc aZ aP br .ah bg v22 (.int .i64 0) bE) (fun Oi MD alG HY ac6=>
 eX Oi MD alG HY ac6)) (fun GA Ia Gp Of Km=>
 aF GA Ia Of Gp Km)) (fun Eh EZ Hv L4 PR=>
 bL Eh EZ Hv L4 PR)) (fun BB yj BI Ai HT=>
 B1 (bS Ai (.int .i64 1)) fun zx=>
 ly BB yj BI zx HT)) (
 aD aP bE)
noncomputable def Ch (J:JT)(G:GT)(cf:CF)(aD:K.Fn 1):K.Fn 4:=eu P an J G cf 156 [1,1,1,0,1,0,0] [2,5,6,7] (fun q t H=>match Nat.beq q 0 with | true=>app 1 aD (ax [5] t) H | false=>(fun _ _ _=>none) q t H)
theorem XN (cf:CF)(aD:K.Fn 1)(aZ aP bg br:AV)(bE:Hp):Ch JN GO cf aD aZ aP bg br bE=NJ JN GO cf aD (Ch JN GO cf aD) aZ aP bg br bE:=aaw (b:=app 4 (Ch JN GO cf aD) [aZ,aP,bg,br] bE) (by kernel_rfl) ((eS cf 156 [1,1,1,0,1,0,0] [2,5,6,7] _ [aZ,aP,bg,br] rfl bE).trans (by kernel_rfl))
noncomputable def abL (J:JT)(G:GT)(cf:CF)(a0 a1:AV)(H:Hp):R:=
 BN (bx 201 a0 H) fun i0 h1=>
 B1 (fa 0 (.ptr i0 0)) fun v2=>
 B1 (ld v2 h1) fun v3=>
 B2 (xj [(.int .i64 0)] 3 1 v3 v3 h1) fun v4 h5=>
 B1 (fl [(.int .i64 0)] [(0,1,a1)]) fun l6=>
 BN (aE h5 l6 3 0) fun i7 h8=>
 J 1 (fun j9=>
 J 1 (fun aD=>
 Ch J G cf aD (.ptr i0 0) v4 (.slice i7 0 1 1 true 1) (.int .i64 1) h8) (fun Ny EN=>
 j9 Ny EN)) (fun O7 Nj=>
 some (O7,Nj))
theorem aey {a0 a1:AV}{H:Hp}{r:AV × Hp}(h:abL JN GO cK a0 a1 H=some r):cK (.func (.func 156) [] []) [a0,a1] H=some r:=aT (first:=[]) (cap:=[]) (aaw (by kernel_rfl) h)
noncomputable def AU (J:JT)(G:GT)(cf:CF)(j9:K.Fn 3)(aD:K.Fn 5)(bp aZ aP bg br:AV)(bE:Hp):R:=
 B1 (cB br bg) fun eN=>
 CD eN (
 J 5 (fun fH=>
 J 5 (fun bL=>
 J 7 (fun aF=>
 B1 (aA 2 bp bE) fun v21=>
 B2 (cf (.func (.func 156) [] []) [v21,br] bE) fun v22 cp=>
 B1 (ia 1 v22 br) fun v24=>
 B1 (ld v24 cp) fun v25=>
 aF bp aZ aP br v25 bg br cp) (fun bT bN cZ eP di bP eE oK=>
 J 8 (fun kN=>
 B1 (lE di (.int .i64 0)) fun v35=>
 G v35 true (fun k36=>
 k36 cZ oK) (fun v37 fV=>
 G v35 true (fun Pp=>
 B1 (bG v37 (.int .i64 0)) fun v40=>
 Pp v40 fV) (fun v41 gD=>
 G v35 true (fun PV=>
 PV v41 gD) (fun v44 nh=>
 G v44 false (fun NB=>
 NB di nh) (fun jq mE=>
 G v44 false (fun Me=>
 Me cZ mE) (fun jo np=>
 G v44 false (fun PE=>
 B1 (cB jq jo) fun v53=>
 PE v53 np) (fun iN jW=>
 G v35 true (fun EE=>
 B1 (pk v44 (.bool true) iN) fun v57=>
 EE v57 jW) (fun mc GU=>
 B1 (pk v35 mc (.bool false)) fun fI=>
 kN bT bN cZ eP di bP eE fI GU) jW) np) mE) nh) gD) fV) oK) (fun dZ lC kc fU ft mu iB jE tv=>
 CD jE (
 bL dZ fU ft mu iB tv) (
 bL dZ lC kc mu iB tv)))) (fun lZ rN rA gS iJ si=>
 fH lZ rN rA gS iJ si)) (fun gJ fq fg py nL wE=>
 B1 (bS nL (.int .i64 1)) fun mV=>
 aD gJ fq fg py mV wE)) (
 j9 bp aZ aP bE)
noncomputable def Gj (J:JT)(G:GT)(cf:CF)(j9:K.Fn 3):K.Fn 5:=eu P an J G cf 126 [1,1,1,0,1,0,0] [1,3,4,15,16] (fun q t H=>match Nat.beq q 0 with | true=>app 3 j9 (ax [1,3,4] t) H | false=>(fun _ _ _=>none) q t H)
theorem adP (J:JT)(G:GT)(cf:CF)(j9:K.Fn 3)(aD:K.Fn 5)(bp aZ aP bg br:AV)(bE:Hp):lh P an J G cf 126 [1,1,1,0,1,0,0] [1,3,4,15,16] (fun q t H=>match Nat.beq q 0 with | true=>app 3 j9 (ax [1,3,4] t) H | false=>(fun _ _ _=>none) q t H) aD [bp,aZ,aP,bg,br] bE=AU J G cf j9 aD bp aZ aP bg br bE:=by kernel_rfl
theorem FR (cf:CF)(j9:K.Fn 3)(bp aZ aP bg br:AV)(bE:Hp):Gj JN GO cf j9 bp aZ aP bg br bE=AU JN GO cf j9 (Gj JN GO cf j9) bp aZ aP bg br bE:=aaw (b:=app 5 (Gj JN GO cf j9) [bp,aZ,aP,bg,br] bE) (by kernel_rfl) ((eS cf _ _ _ _ [bp,aZ,aP,bg,br] rfl bE).trans (adP JN GO cf j9 _ bp aZ aP bg br bE))
noncomputable def CI (J:JT)(G:GT)(cf:CF)(iD:K.Fn 1)(mA:K.Fn 4)(kZ:K.Fn 4)(J3:K.Fn 7)(jL iu iw jb jX nE ki:AV)(lL:Hp):R:=
 B1 (cB ki nE) fun Eg=>
 CD Eg (
 J 7 (fun aj6=>
 B1 (ia 1 jX ki) fun an9=>
 B1 (ld an9 lL) fun M8=>
 J 9 (fun My=>
 B1 (hY M8 iu) fun v139=>
 G v139 true (fun aqc=>
 B1 (aA 2 jL lL) fun v141=>
 aqc v141 lL) (fun Fb Jt=>
 G v139 true (fun agx=>
 agx M8 Jt) (fun v145 yc=>
 G v139 true (fun anS=>
 B2 (cf (.func (.func 156) [] []) [Fb,v145] yc) fun v148 Lh=>
 anS v148 Lh) (fun Ma aaR=>
 G v139 true (fun ao1=>
 ao1 iu aaR) (fun Qd IA=>
 G v139 true (fun aof=>
 B1 (ia 1 Ma Qd) fun OV=>
 aof OV IA) (fun v157 N8=>
 G v139 true (fun L9=>
 B1 (ld v157 N8) fun v160=>
 L9 v160 N8) (fun FQ BS=>
 G v139 true (fun OI=>
 OI jb BS) (fun v164 JC=>
 G v139 true (fun ahs=>
 B1 (bG FQ v164) fun v167=>
 ahs v167 JC) (fun v168 aii=>
 B1 (pk v139 v168 (.bool false)) fun QS=>
 My jL iu iw jb M8 jX nE ki QS aii) JC) BS) N8) IA) aaR) yc) Jt) lL) (fun ZP BB yj BI Ai MX N4 Ny Pk Zs=>
 CD Pk (
 B1 (fl [(.int .i64 0)] [(0,1,Ai)]) fun alE=>
 BN (aE Zs alE 3 0) fun i182 Kz=>
 B2 (gw 3 1 [(.int .i64 0)] false yj (.slice i182 0 1 1 true 1) Kz) fun P4 Q4=>
 kZ ZP BB P4 BI Q4) (
 aj6 ZP BB yj BI MX N4 Ny Zs))) (fun Nf L1 PT RW QZ Rz ajo PZ=>
 B1 (bS ajo (.int .i64 1)) fun v194=>
 J3 Nf L1 PT RW QZ Rz v194 PZ)) (
 kZ jL iu iw jb lL)
noncomputable def GX (J:JT)(G:GT)(cf:CF)(iD:K.Fn 1)(mA:K.Fn 4)(kZ:K.Fn 4):K.Fn 7:=eu P an J G cf 126 [1,1,1,1,1,1,0,1,0,0,1,0,0,1,0,0] [1,3,7,8,56,57,58] (fun q t H=>match Nat.beq q 4 with | true=>app 4 kZ (ax [1,3,7,8] t) H | false=>(fun q t H=>match Nat.beq q 3 with | true=>app 4 mA (ax [1,3,7,8] t) H | false=>(fun q t H=>match Nat.beq q 2 with | true=>app 1 iD (ax [7] t) H | false=>(fun _ _ _=>none) q t H) q t H) q t H)
theorem amK (J:JT)(G:GT)(cf:CF)(iD:K.Fn 1)(mA:K.Fn 4)(kZ:K.Fn 4)(J3:K.Fn 7)(jL iu iw jb jX nE ki:AV)(lL:Hp):lh P an J G cf 126 [1,1,1,1,1,1,0,1,0,0,1,0,0,1,0,0] [1,3,7,8,56,57,58] (fun q t H=>match Nat.beq q 4 with | true=>app 4 kZ (ax [1,3,7,8] t) H | false=>(fun q t H=>match Nat.beq q 3 with | true=>app 4 mA (ax [1,3,7,8] t) H | false=>(fun q t H=>match Nat.beq q 2 with | true=>app 1 iD (ax [7] t) H | false=>(fun _ _ _=>none) q t H) q t H) q t H) J3 [jL,iu,iw,jb,jX,nE,ki] lL=CI J G cf iD mA kZ J3 jL iu iw jb jX nE ki lL:=by kernel_rfl
theorem Lu (cf:CF)(iD:K.Fn 1)(mA:K.Fn 4)(kZ:K.Fn 4)(jL iu iw jb jX nE ki:AV)(lL:Hp):GX JN GO cf iD mA kZ jL iu iw jb jX nE ki lL=CI JN GO cf iD mA kZ (GX JN GO cf iD mA kZ) jL iu iw jb jX nE ki lL:=aaw (b:=app 7 (GX JN GO cf iD mA kZ) [jL,iu,iw,jb,jX,nE,ki] lL) (by kernel_rfl) ((eS cf _ _ _ _ [jL,iu,iw,jb,jX,nE,ki] rfl lL).trans (amK JN GO cf iD mA kZ _ jL iu iw jb jX nE ki lL))
noncomputable def Na (J:JT)(G:GT)(cf:CF)(iD:K.Fn 1)(j98:K.Fn 4)(lM qU nN qj:AV)(kb:Hp):R:=
 B1 (lE qj (.int .i64 0)) fun wK=>
 CD wK (
 J 4 (fun agI=>
 J 4 (fun mA=>
 J 7 (fun acC=>
 B1 (aA 2 lM kb) fun uA=>
 B1 (bq nN) fun v109=>
 B1 (mY v109 (.int .i64 1)) fun NV=>
 B1 (ia 1 nN NV) fun AQ=>
 B1 (ld AQ kb) fun AR=>
 B2 (cf (.func (.func 157) [] []) [uA,AR] kb) fun yu amg=>
 B1 (bq yu) fun wq=>
 acC lM qU nN qj yu wq (.int .i64 0) amg) (fun wL AA yx ub sj sw uP Cc=>
 J 4 (fun kZ=>
 GX J G cf iD mA kZ wL AA yx ub sj sw uP Cc) (fun Hj Rf BM R4 Lg=>
 mA Hj Rf BM R4 Lg))) (fun Mn Ea zw Ew al4=>
 agI Mn Ea zw Ew al4)) (fun afG ahr ak0 aju ahL=>
 B1 (mY aju (.int .i64 1)) fun v210=>
 j98 afG ahr ak0 v210 ahL)) (
 iD nN kb)
noncomputable def Fs (J:JT)(G:GT)(cf:CF)(iD:K.Fn 1):K.Fn 4:=eu P an J G cf 126 [1,1,1,1,1,1,0,1,0,0] [1,3,7,8] (fun q t H=>match Nat.beq q 2 with | true=>app 1 iD (ax [7] t) H | false=>(fun _ _ _=>none) q t H)
theorem aat (cf:CF)(iD:K.Fn 1)(lM qU nN qj:AV)(kb:Hp):Fs JN GO cf iD lM qU nN qj kb=Na JN GO cf iD (Fs JN GO cf iD) lM qU nN qj kb:=aaw (b:=app 4 (Fs JN GO cf iD) [lM,qU,nN,qj] kb) (by kernel_rfl) ((eS cf 126 [1,1,1,1,1,1,0,1,0,0] [1,3,7,8] _ [lM,qU,nN,qj] rfl kb).trans (by kernel_rfl))
noncomputable def Lq (J:JT)(G:GT)(cf:CF)(a0:AV)(H:Hp):R:=
 BN (bx 201 a0 H) fun i0 h1=>
 B1 (aA 2 (.ptr i0 0) h1) fun v2=>
 B2 (cf (.func (.func 155) [] []) [v2] h1) fun v3 h4=>
 B1 (fT .not v3) fun v5=>
 CD v5 (
 some (.ah,h4)) (
 J 3 (fun j6=>
 B1 (fa 0 (.ptr i0 0)) fun v7=>
 B1 (ld v7 h4) fun v8=>
 J 3 (fun j9=>
 Gj J G cf j9 (.ptr i0 0) (.int .i64 0) (.int .i64 0) v8 (.int .i64 0) h4) (fun mT pj pz sL=>
 j6 mT pj pz sL)) (fun uy oJ B4 uR=>
 B1 (bG B4 (.int .i64 0)) fun v91=>
 CD v91 (
 some (.ah,uR)) (
 B1 (fl [(.int .i64 0)] [(0,1,oJ)]) fun l92=>
 BN (aE uR l92 3 0) fun i93 Ol=>
 J 1 (fun j95=>
 B1 (mY B4 (.int .i64 1)) fun qz=>
 J 1 (fun iD=>
 Fs J G cf iD uy oJ (.slice i93 0 1 1 true 1) qz Ol) (fun anD FC=>
 j95 anD FC)) (fun acL ap7=>
 some (acL,ap7)))))
theorem ap9 (J:JT)(G:GT)(cf:CF)(a0:AV)(H:Hp):fQ P J G aR an cf 126 [a0] H=Lq J G cf a0 H:=by kernel_rfl
theorem Xi {a0:AV}{H:Hp}{r:AV × Hp}(h:Lq JN GO cK a0 H=some r):cK (.func (.func 126) [] []) [a0] H=some r:=aT (first:=[]) (cap:=[]) ((ap9 JN GO _ a0 H).trans h)
noncomputable def YT (J:JT)(G:GT)(cf:CF)(a0:AV)(H:Hp):R:=
 B1 (qH a0 (.str [])) fun v0=>
 G v0 true (fun k1=>
 k1 a0 H) (fun v2 h3=>
 G v0 true (fun k4=>
 B1 (lens v2) fun v5=>
 k4 v5 h3) (fun v6 h7=>
 G v0 true (fun k8=>
 B1 (nZ v6 (.int .i64 16)) fun v9=>
 k8 v9 h7) (fun v10 gY=>
 B1 (pk v0 v10 (.bool false)) fun v12=>
 G v12 true (fun k13=>
 k13 a0 gY) (fun cI eU=>
 G v12 true (fun Nx=>
 B2 (cf (.func (.func 91) [] []) [cI,(.str [97,98,99,100,101,102,103,104,105,106,107,108,109,110,111,112,113,114,115,116,117,118,119,120,121,122,48,49,50,51,52,53,54,55,56,57])] eU) fun eN fe=>
 Nx eN fe) (fun gC pC=>
 G v12 true (fun k21=>
 B1 (seq gC (.str [])) fun v22=>
 k21 v22 pC) (fun v23 jh=>
 B1 (pk v12 v23 (.bool false)) fun v25=>
 some (v25,jh)) pC) eU) gY) h7) h3) H
theorem al3 {a0:AV}{H:Hp}{r:AV × Hp}(h:YT JN GO cK a0 H=some r):cK (.func (.func 54) [] []) [a0] H=some r:=aT (first:=[]) (cap:=[]) (aaw (by kernel_rfl) h)
noncomputable def Dd (J:JT)(G:GT)(cf:CF)(a0:AV)(H:Hp):R:=
 J 1 (fun j0=>
 B1 (lens a0) fun v1=>
 B1 (lE v1 (.int .i64 4)) fun v2=>
 CD v2 (
 some (.tuple [(.int .i64 0),(.bool false)],H)) (
 j0 a0 H)) (fun x3 h4=>
 J 3 (fun j5=>
 B2 (cf (.func (.func 173) [] []) [x3] h4) fun v6 h7=>
 B1 (ex 0 v6) fun v8=>
 B1 (ex 1 v6) fun v9=>
 j5 x3 v8 v9 h7) (fun cl bp aZ iP=>
 qE (gA P .eql 183 true aZ .nilIface) <| B1 (eA P .eql 183 aZ .nilIface iP) fun cI=>
 G cI true (fun xN=>
 xN bp iP) (fun cW dL=>
 G cI true (fun Sn=>
 B2 (cf (.func (.func 84) [] []) [cW] dL) fun gC pC=>
 Sn gC pC) (fun v21 lY=>
 G cI true (fun GI=>
 GI cl lY) (fun v24 dX=>
 G cI true (fun RQ=>
 B1 (seq v21 v24) fun v27=>
 RQ v27 dX) (fun v28 dR=>
 B1 (pk cI v28 (.bool false)) fun v30=>
 G v30 true (fun AM=>
 AM bp dR) (fun v32 oK=>
 G v30 true (fun k34=>
 B1 (lJ v32 (.int .i64 0)) fun v35=>
 k34 v35 oK) (fun v36 ir=>
 B1 (pk v30 v36 (.bool false)) fun iF=>
 some (.tuple [bp,iF],ir)) oK) dR) dX) lY) dL) iP))
theorem GS {a0:AV}{H:Hp}{r:AV × Hp}(h:Dd JN GO cK a0 H=some r):cK (.func (.func 153) [] []) [a0] H=some r:=aT (first:=[]) (cap:=[]) (aaw (by kernel_rfl) h)
noncomputable def De (J:JT)(G:GT)(cf:CF)(eQ:K.Fn 1)(bL:K.Fn 0)(aF:K.Fn 5)(aX aM bf bB bC:AV)(dD:Hp):R:=
 B1 (cB bC bB) fun v27=>
 CD v27 (
 J 5 (fun jG=>
 B1 (ia 1 bf bC) fun v29=>
 B1 (ld v29 dD) fun v30=>
 B2 (cf (.func (.func 104) [] []) [aM,v30] dD) fun v31 eK=>
 B1 (cB v31 (.int .i64 0)) fun fy=>
 CD fy (
 some ((.bool false),eK)) (
 B1 (aV aX) fun eg=>
 B1 (fa 1 eg) fun v35=>
 B1 (ld v35 eK) fun v36=>
 B1 (fl [(.int .i64 0)] [(0,1,v31)]) fun HU=>
 BN (aE eK HU 3 0) fun i38 p7=>
 B2 (gw 3 1 [(.int .i64 0)] false v36 (.slice i38 0 1 1 true 1) p7) fun v40 iz=>
 B1 (aV aX) fun fx=>
 B1 (fa 1 fx) fun gm=>
 B1 (st 1 gm v40 iz) fun dT=>
 jG aX aM bf bB bC dT)) (fun fD iI gi fM fK lg=>
 B1 (bS fK (.int .i64 1)) fun v51=>
 aF fD iI gi fM v51 lg)) (
 bL  dD)
noncomputable def DU (J:JT)(G:GT)(cf:CF)(eQ:K.Fn 1)(bL:K.Fn 0):K.Fn 5:=eu P an J G cf 118 [1,1,0,1,0,1,0,0,1,0,0] [0,3,23,24,25] (fun q t H=>match Nat.beq q 1 with | true=>app 0 bL (ax [] t) H | false=>(fun q t H=>match Nat.beq q 0 with | true=>app 1 eQ (ax [10] t) H | false=>(fun _ _ _=>none) q t H) q t H)
theorem aiA (J:JT)(G:GT)(cf:CF)(eQ:K.Fn 1)(bL:K.Fn 0)(aF:K.Fn 5)(aX aM bf bB bC:AV)(dD:Hp):lh P an J G cf 118 [1,1,0,1,0,1,0,0,1,0,0] [0,3,23,24,25] (fun q t H=>match Nat.beq q 1 with | true=>app 0 bL (ax [] t) H | false=>(fun q t H=>match Nat.beq q 0 with | true=>app 1 eQ (ax [10] t) H | false=>(fun _ _ _=>none) q t H) q t H) aF [aX,aM,bf,bB,bC] dD=De J G cf eQ bL aF aX aM bf bB bC dD:=by kernel_rfl
theorem KS (cf:CF)(eQ:K.Fn 1)(bL:K.Fn 0)(aX aM bf bB bC:AV)(dD:Hp):DU JN GO cf eQ bL aX aM bf bB bC dD=De JN GO cf eQ bL (DU JN GO cf eQ bL) aX aM bf bB bC dD:=aaw (b:=app 5 (DU JN GO cf eQ bL) [aX,aM,bf,bB,bC] dD) (by kernel_rfl) ((eS cf _ _ _ _ [aX,aM,bf,bB,bC] rfl dD).trans (aiA JN GO cf eQ bL _ aX aM bf bB bC dD))
noncomputable def uE (J:JT)(G:GT)(cf:CF)(a0 a1 a2 a3:AV)(H:Hp):R:=
 J 6 (fun j0=>
 B2 (cf (.func (.func 153) [] []) [a2] H) fun v1 h2=>
 B1 (ex 0 v1) fun v3=>
 B1 (ex 1 v1) fun v4=>
 j0 a0 a1 a2 a3 v3 v4 h2) (fun x5 x6 x7 x8 x9 cl gY=>
 J 1 (fun cH=>
 J 1 (fun eQ=>
 B1 (seq x6 (.str [97,102,116,101,114])) fun cI=>
 CD cI (
 J 0 (fun jm=>
 B2 (cf (.func (.func 88) [] []) [x7,(.str [44])] gY) fun cW dL=>
 B1 (bq cW) fun dO=>
 J 0 (fun bL=>
 DU J G cf eQ bL x5 x8 cW dO (.int .i64 0) dL) (fun  nC=>
 jm  nC)) (fun  ik=>
 some ((.bool true),ik))) (
 B1 (seq x6 (.str [114,101,116,114,121])) fun iN=>
 CD iN (
 B1 (aV x5) fun jz=>
 B1 (fa 2 jz) fun kO=>
 B1 (st 1 kO x9 gY) fun jx=>
 eQ cl jx) (
 B1 (seq x6 (.str [119,97,105,116])) fun mc=>
 CD mc (
 B1 (aV x5) fun v59=>
 B1 (fa 3 v59) fun fI=>
 B1 (st 1 fI x9 gY) fun gM=>
 eQ cl gM) (
 B1 (seq x6 (.str [98,97,115,101])) fun gV=>
 CD gV (
 B1 (aV x5) fun v63=>
 B1 (fa 4 v63) fun v64=>
 B1 (st 1 v64 x9 gY) fun nb=>
 eQ cl nb) (
 B1 (seq x6 (.str [111,110])) fun mB=>
 CD mB (
 J 1 (fun G5=>
 B1 (aV x5) fun ma=>
 B1 (fa 5 ma) fun kR=>
 B1 (st 1 kR x7 gY) fun qn=>
 G5 x7 qn) (fun rN tW=>
 B1 (qH rN (.str [])) fun kU=>
 some (kU,tW))) (
 eQ cl gY)))))) (fun iJ si=>
 cH iJ si)) (fun gJ wM=>
 some (gJ,wM)))
theorem ah7 (J:JT)(G:GT)(cf:CF)(a0 a1 a2 a3:AV)(H:Hp):fQ P J G aR an cf 118 [a0,a1,a2,a3] H=uE J G cf a0 a1 a2 a3 H:=by kernel_rfl
theorem zv {a0 a1 a2 a3:AV}{H:Hp}{r:AV × Hp}(h:uE JN GO cK a0 a1 a2 a3 H=some r):cK (.func (.func 118) [] []) [a0,a1,a2,a3] H=some r:=aT (first:=[]) (cap:=[]) ((ah7 JN GO _ a0 a1 a2 a3 H).trans h)
noncomputable def zb (J:JT)(G:GT)(cf:CF)(aF:K.Fn 2)(eX:K.Fn 7)(aM bf bB bC bT bN cZ:AV)(dR:Hp):R:=
 B1 (cB cZ bN) fun v30=>
 CD v30 (
 J 7 (fun cu=>
 B1 (ia 1 bT cZ) fun v32=>
 B1 (ld v32 dR) fun fy=>
 J 10 (fun kN=>
 B2 (cf (.func (.func 117) [] []) [fy,(.str [61])] dR) fun v35 mH=>
 B1 (ex 0 v35) fun v37=>
 B1 (ex 1 v35) fun iF=>
 B1 (ex 2 v35) fun eJ=>
 kN aM bf bB bC fy v37 iF bT bN cZ mH) (fun cG dE eL dQ iH fD iI gi fM fK lg=>
 B2 (cf (.func (.func 104) [] []) [dQ,fD] lg) fun v51 nC=>
 J 8 (fun Sl=>
 J 9 (fun ey=>
 B1 (cB v51 (.int .i64 0)) fun jz=>
 G jz false (fun EE=>
 EE fD nC) (fun v57 qN=>
 G jz false (fun EO=>
 B1 (lens v57) fun fI=>
 EO fI qN) (fun lU fY=>
 G jz false (fun Qm=>
 Qm iH fY) (fun v64 nb=>
 G jz false (fun Pf=>
 B1 (lens v64) fun oy=>
 Pf oy nb) (fun ma tv=>
 G jz false (fun k70=>
 B1 (bG lU ma) fun oL=>
 k70 oL tv) (fun v72 yg=>
 B1 (pk jz (.bool true) v72) fun kG=>
 G kG false (fun k75=>
 k75 fD yg) (fun v76 wM=>
 G kG false (fun N9=>
 N9 iI wM) (fun pg vj=>
 G kG false (fun k81=>
 k81 cG vj) (fun mV oU=>
 G kG false (fun FE=>
 B2 (cf (.func (.func 118) [] []) [eL,v76,pg,mV] oU) fun v85 sL=>
 FE v85 sL) (fun v87 DY=>
 G kG false (fun k89=>
 B1 (fT .not v87) fun qe=>
 k89 qe DY) (fun v91 BL=>
 B1 (pk kG (.bool true) v91) fun v93=>
 ey cG dE eL dQ v51 gi fM fK v93 BL) DY) oU) vj) wM) yg) tv) nb) fY) qN) nC) (fun lS mq oW od ri lM qU nN qj kb=>
 CD qj (
 B1 (fl [(.str []),.ah,(.int .i64 0),(.int .i64 0),(.int .i64 0),(.str [])] []) fun HI=>
 B1 (st 6 mq (.agg HI) kb) fun u6=>
 B1 (aA 6 mq u6) fun AS=>
 some (.tuple [AS,(.bool false)],u6)) (
 Sl lS mq oW od ri lM qU nN kb))) (fun nA na iC pU pX uJ uq tt Jd=>
 B1 (bS pX (.int .i64 1)) fun xT=>
 B1 (qq 1 pU (some xT) none none) fun v117=>
 cu nA na iC v117 uJ uq tt Jd))) (fun yx ub sj sw uP wR AZ DX=>
 B1 (bS AZ (.int .i64 1)) fun Fu=>
 eX yx ub sj sw uP wR Fu DX)) (
 aF bf bB dR)
noncomputable def BK (J:JT)(G:GT)(cf:CF)(aF:K.Fn 2):K.Fn 7:=eu P an J G cf 89 [1,1,1,0,1,0,0] [1,4,6,7,20,21,22] (fun q t H=>match Nat.beq q 0 with | true=>app 2 aF (ax [4,6] t) H | false=>(fun _ _ _=>none) q t H)
theorem ae6 (J:JT)(G:GT)(cf:CF)(aF:K.Fn 2)(eX:K.Fn 7)(aM bf bB bC bT bN cZ:AV)(dR:Hp):lh P an J G cf 89 [1,1,1,0,1,0,0] [1,4,6,7,20,21,22] (fun q t H=>match Nat.beq q 0 with | true=>app 2 aF (ax [4,6] t) H | false=>(fun _ _ _=>none) q t H) eX [aM,bf,bB,bC,bT,bN,cZ] dR=zb J G cf aF eX aM bf bB bC bT bN cZ dR:=by kernel_rfl
theorem BQ (cf:CF)(aF:K.Fn 2)(aM bf bB bC bT bN cZ:AV)(dR:Hp):BK JN GO cf aF aM bf bB bC bT bN cZ dR=zb JN GO cf aF (BK JN GO cf aF) aM bf bB bC bT bN cZ dR:=aaw (b:=app 7 (BK JN GO cf aF) [aM,bf,bB,bC,bT,bN,cZ] dR) (by kernel_rfl) ((eS cf _ _ _ _ [aM,bf,bB,bC,bT,bN,cZ] rfl dR).trans (ae6 JN GO cf aF _ aM bf bB bC bT bN cZ dR))
noncomputable def K4 (J:JT)(G:GT)(cf:CF)(a0 a1:AV)(H:Hp):R:=
 BN (aE H [(.str []),.ah,(.int .i64 0),(.int .i64 0),(.int .i64 0),(.str [])] 99 0) fun i0 h1=>
 J 4 (fun j2=>
 B1 (ia 1 a0 (.int .i64 0)) fun v3=>
 B1 (ld v3 h1) fun v4=>
 B1 (fl [(.str []),.ah,(.int .i64 0),(.int .i64 0),(.int .i64 0),(.str [])] [(0,1,v4),(3,1,(.int .i64 10)),(4,1,(.int .i64 1))]) fun l5=>
 BN (aE h1 [(.str []),.ah,(.int .i64 0),(.int .i64 0),(.int .i64 0),(.str [])] 99 0) fun i6 h7=>
 B1 (st 6 (.ptr i6 0) (.agg l5) h7) fun h8=>
 j2 a0 a1 (.ptr i0 0) (.ptr i6 0) h8) (fun x9 cl bp aZ iP=>
 B1 (fl [(.str []),(.str []),(.str []),(.str []),(.str [])] [(0,1,(.str [97,102,116,101,114])),(1,1,(.str [114,101,116,114,121])),(2,1,(.str [119,97,105,116])),(3,1,(.str [98,97,115,101])),(4,1,(.str [111,110]))]) fun l14=>
 BN (aE iP l14 9 0) fun i15 bE=>
 J 2 (fun mg=>
 B1 (qq 1 x9 (some (.int .i64 1)) none none) fun dO=>
 B1 (bq dO) fun gC=>
 J 2 (fun aF=>
 BK J G cf aF cl bp aZ (.slice i15 0 5 5 true 1) dO gC (.int .i64 0) bE) (fun iu iw RC=>
 mg iu iw RC)) (fun jX nE wo=>
 B1 (aA 6 nE wo) fun QP=>
 B1 (st 6 jX QP wo) fun CE=>
 B1 (aA 6 jX CE) fun Pv=>
 some (.tuple [Pv,(.bool true)],CE)))
theorem ac5 (J:JT)(G:GT)(cf:CF)(a0 a1:AV)(H:Hp):fQ P J G aR an cf 89 [a0,a1] H=K4 J G cf a0 a1 H:=by kernel_rfl
theorem Xn {a0 a1:AV}{H:Hp}{r:AV × Hp}(h:K4 JN GO cK a0 a1 H=some r):cK (.func (.func 89) [] []) [a0,a1] H=some r:=aT (first:=[]) (cap:=[]) ((ac5 JN GO _ a0 a1 H).trans h)
noncomputable def Jl (J:JT)(G:GT)(cf:CF)(jm:K.Fn 3)(dA:K.Fn 6)(bY bF df da aX aM:AV)(cp:Hp):R:=
 B1 (cB aM aX) fun v24=>
 CD v24 (
 J 6 (fun D8=>
 B1 (ia 1 da aM) fun v26=>
 B1 (ld v26 cp) fun v27=>
 B2 (cf (.func (.func 88) [] []) [v27,(.str [32])] cp) fun v28 dR=>
 J 7 (fun xR=>
 B1 (fl [.ah] [(0,1,v28)]) fun l31=>
 BN (aE dR l31 46 0) fun i32 oK=>
 B2 (gw 46 1 [.ah] false bF (.slice i32 0 1 1 true 1) oK) fun eg dS=>
 xR bY eg df v28 da aX aM dS) (fun bU cC cF cJ cG dE eL sM=>
 B1 (ia 1 cJ (.int .i64 0)) fun v44=>
 B1 (ld v44 sM) fun fA=>
 B1 (fl [(.str [])] [(0,1,fA)]) fun l46=>
 BN (aE sM l46 9 0) fun i47 mE=>
 B2 (gw 9 1 [(.str [])] false cF (.slice i47 0 1 1 true 1) mE) fun v49 lg=>
 D8 bU cC v49 cG dE eL lg)) (fun fS ez dY dG dF cL jx=>
 B1 (bS cL (.int .i64 1)) fun mc=>
 dA fS ez dY dG dF mc jx)) (
 jm bY bF df cp)
noncomputable def FU (J:JT)(G:GT)(cf:CF)(jm:K.Fn 3):K.Fn 6:=eu P an J G cf 53 [1,1,1,1,0,1,0,0] [2,4,5,20,21,22] (fun q t H=>match Nat.beq q 0 with | true=>app 3 jm (ax [2,4,5] t) H | false=>(fun _ _ _=>none) q t H)
theorem anc (J:JT)(G:GT)(cf:CF)(jm:K.Fn 3)(dA:K.Fn 6)(bY bF df da aX aM:AV)(cp:Hp):lh P an J G cf 53 [1,1,1,1,0,1,0,0] [2,4,5,20,21,22] (fun q t H=>match Nat.beq q 0 with | true=>app 3 jm (ax [2,4,5] t) H | false=>(fun _ _ _=>none) q t H) dA [bY,bF,df,da,aX,aM] cp=Jl J G cf jm dA bY bF df da aX aM cp:=by kernel_rfl
theorem Yl (cf:CF)(jm:K.Fn 3)(bY bF df da aX aM:AV)(cp:Hp):FU JN GO cf jm bY bF df da aX aM cp=Jl JN GO cf jm (FU JN GO cf jm) bY bF df da aX aM cp:=aaw (b:=app 6 (FU JN GO cf jm) [bY,bF,df,da,aX,aM] cp) (by kernel_rfl) ((eS cf _ _ _ _ [bY,bF,df,da,aX,aM] rfl cp).trans (anc JN GO cf jm _ bY bF df da aX aM cp))
noncomputable def Cz (J:JT)(G:GT)(cf:CF)(kJ:K.Fn 2)(sZ:K.Fn 6)(gS iJ lj gJ fq fg:AV)(iZ:Hp):R:=
 B1 (cB fg fq) fun v80=>
 CD v80 (
 J 6 (fun j81=>
 B1 (ia 1 gJ fg) fun mV=>
 B1 (ld mV iZ) fun rM=>
 J 8 (fun Sa=>
 B2 (cf (.func (.func 89) [] []) [rM,iJ] iZ) fun v85 sL=>
 B1 (ex 0 v85) fun v87=>
 B1 (ex 1 v85) fun uS=>
 BN (aE sL [(.str []),.ah,(.int .i64 0),(.int .i64 0),(.int .i64 0),(.str [])] 99 0) fun i89 uR=>
 B1 (st 6 (.ptr i89 0) v87 uR) fun vJ=>
 Sa gS iJ lj (.ptr i89 0) uS gJ fq fg vJ) (fun mj nU lS mq oW od ri lM qK=>
 J 7 (fun N1=>
 B1 (fT .not oW) fun rY=>
 CD rY (
 B1 (fl [.ah] []) fun Rs=>
 B1 (st 1 mj (.agg Rs) qK) fun yF=>
 B1 (aA 1 mj yF) fun v105=>
 some (.tuple [v105,(.int .i64 2)],yF)) (
 N1 mj nU lS mq od ri lM qK)) (fun rG nA na iC pU pX uJ wJ=>
 B1 (fa 0 na) fun qa=>
 B1 (ld qa wJ) fun wq=>
 B1 (aA 6 iC wJ) fun xT=>
 B1 (fl [(.str []),.ah,(.int .i64 0),(.int .i64 0),(.int .i64 0),(.str [])] [(0,6,xT)]) fun ajN=>
 BN (aE wJ ajN 99 0) fun i118 RB=>
 B2 (gw 99 6 [(.str []),.ah,(.int .i64 0),(.int .i64 0),(.int .i64 0),(.str [])] false wq (.slice i118 0 1 1 true 6) RB) fun Ar Ap=>
 B1 (fa 0 na) fun za=>
 B1 (st 1 za Ar Ap) fun Cc=>
 j81 rG nA na pU pX uJ Cc))) (fun AZ Fl jL iu iw jb Fg=>
 B1 (bS jb (.int .i64 1)) fun v131=>
 sZ AZ Fl jL iu iw v131 Fg)) (
 kJ gS lj iZ)
noncomputable def Dl (J:JT)(G:GT)(cf:CF)(kJ:K.Fn 2):K.Fn 6:=eu P an J G cf 53 [1,1,1,1,1,1,0,1,0,0] [2,5,9,39,40,41] (fun q t H=>match Nat.beq q 2 with | true=>app 2 kJ (ax [2,9] t) H | false=>(fun _ _ _=>none) q t H)
theorem aeI (J:JT)(G:GT)(cf:CF)(kJ:K.Fn 2)(sZ:K.Fn 6)(gS iJ lj gJ fq fg:AV)(iZ:Hp):lh P an J G cf 53 [1,1,1,1,1,1,0,1,0,0] [2,5,9,39,40,41] (fun q t H=>match Nat.beq q 2 with | true=>app 2 kJ (ax [2,9] t) H | false=>(fun _ _ _=>none) q t H) sZ [gS,iJ,lj,gJ,fq,fg] iZ=Cz J G cf kJ sZ gS iJ lj gJ fq fg iZ:=by kernel_rfl
theorem Iy (cf:CF)(kJ:K.Fn 2)(gS iJ lj gJ fq fg:AV)(iZ:Hp):Dl JN GO cf kJ gS iJ lj gJ fq fg iZ=Cz JN GO cf kJ (Dl JN GO cf kJ) gS iJ lj gJ fq fg iZ:=aaw (b:=app 6 (Dl JN GO cf kJ) [gS,iJ,lj,gJ,fq,fg] iZ) (by kernel_rfl) ((eS cf _ _ _ _ [gS,iJ,lj,gJ,fq,fg] rfl iZ).trans (aeI JN GO cf kJ _ gS iJ lj gJ fq fg iZ))
noncomputable def Bj (J:JT)(G:GT)(cf:CF)(a0:AV)(H:Hp):R:=
 BN (aE H [.ah] 72 0) fun i0 h1=>
 J 2 (fun j2=>
 B1 (lens a0) fun v3=>
 B1 (lE v3 (.int .i64 1024)) fun v4=>
 CD v4 (
 B1 (fl [.ah] []) fun l5=>
 B1 (st 1 (.ptr i0 0) (.agg l5) h1) fun h6=>
 B1 (aA 1 (.ptr i0 0) h6) fun v7=>
 some (.tuple [v7,(.int .i64 14)],h6)) (
 j2 a0 (.ptr i0 0) h1)) (fun x8 x9 bW=>
 J 3 (fun ly=>
 B2 (cf (.func (.func 88) [] []) [x8,(.str [59])] bW) fun v12 iP=>
 B1 (bq v12) fun cI=>
 J 3 (fun jm=>
 FU J G cf jm x9 .ah .ah v12 cI (.int .i64 0) iP) (fun cN eT dZ fY=>
 ly cN eT dZ fY)) (fun kc fU ft fW=>
 BN (aE fW [.ah] 72 0) fun i67 xw=>
 J 2 (fun JG=>
 B1 (bq fU) fun v70=>
 J 2 (fun kJ=>
 Dl J G cf kJ kc ft (.ptr i67 0) fU v70 (.int .i64 0) xw) (fun ki tC CE=>
 JG ki tC CE)) (fun pK sI Wr=>
 J 2 (fun My=>
 B1 (aA 1 sI Wr) fun v139=>
 B2 (cf (.func (.func 90) [] []) [v139] Wr) fun Cu Up=>
 B1 (hY Cu (.int .i64 0)) fun Fb=>
 CD Fb (
 B1 (fl [.ah] []) fun agD=>
 B1 (st 1 pK (.agg agD) Up) fun Kg=>
 B1 (aA 1 pK Kg) fun v145=>
 some (.tuple [v145,Cu],Kg)) (
 My pK sI Up)) (fun yV En y8=>
 B1 (aA 1 En y8) fun HM=>
 B1 (st 1 yV HM y8) fun IU=>
 B1 (aA 1 yV IU) fun OX=>
 some (.tuple [OX,(.int .i64 0)],IU)))))
theorem agX (J:JT)(G:GT)(cf:CF)(a0:AV)(H:Hp):fQ P J G aR an cf 53 [a0] H=Bj J G cf a0 H:=by kernel_rfl
theorem Eu {a0:AV}{H:Hp}{r:AV × Hp}(h:Bj JN GO cK a0 H=some r):cK (.func (.func 53) [] []) [a0] H=some r:=aT (first:=[]) (cap:=[]) ((agX JN GO _ a0 H).trans h)
noncomputable def Wx (J:JT)(G:GT)(cf:CF)(a0 a1 a2:AV)(H:Hp):R:=
 B1 (lJ a0 a1) fun v0=>
 G v0 true (fun k1=>
 k1 a0 H) (fun v2 h3=>
 G v0 true (fun k4=>
 k4 a2 h3) (fun v5 h6=>
 G v0 true (fun k7=>
 B1 (nZ v2 v5) fun v8=>
 k7 v8 h6) (fun v9 bW=>
 B1 (pk v0 v9 (.bool false)) fun v11=>
 some (v11,bW)) h6) h3) H
theorem adm {a0 a1 a2:AV}{H:Hp}{r:AV × Hp}(h:Wx JN GO cK a0 a1 a2 H=some r):cK (.func (.func 119) [] []) [a0,a1,a2] H=some r:=aT (first:=[]) (cap:=[]) (aaw (by kernel_rfl) h)
noncomputable def Lt (J:JT)(G:GT)(cf:CF)(j6:K.Fn 0)(j7:K.Fn 4)(x8 x9 cl bp:AV)(dU:Hp):R:=
 B1 (cB bp cl) fun dJ=>
 CD dJ (
 J 4 (fun AE=>
 J 6 (fun jm=>
 B1 (ia 6 x9 bp) fun cW=>
 B1 (aA 6 cW dU) fun eN=>
 BN (aE dU [(.str []),.ah,(.int .i64 0),(.int .i64 0),(.int .i64 0),(.str [])] 99 0) fun i18 cY=>
 B1 (st 6 (.ptr i18 0) eN cY) fun pC=>
 jm x8 bp (.ptr i18 0) x9 cl bp pC) (fun aX aM bf bB bC bT eR=>
 B1 (aA 6 bf eR) fun v28=>
 B2 (cf aX [aM,v28] eR) fun v29 jU=>
 CD v29 (
 some ((.bool true),jU)) (
 AE aX bB bC bT jU))) (fun bP eE cj bM dS=>
 B1 (bS bM (.int .i64 1)) fun v36=>
 j7 bP eE cj v36 dS)) (
 j6  dU)
noncomputable def GN (J:JT)(G:GT)(cf:CF)(j6:K.Fn 0):K.Fn 4:=eu P an J G cf 125 [1,0,1,0,0] [1,8,9,10] (fun q t H=>match Nat.beq q 0 with | true=>app 0 j6 (ax [] t) H | false=>(fun _ _ _=>none) q t H)
theorem Mf (cf:CF)(j6:K.Fn 0)(x8 x9 cl bp:AV)(dU:Hp):GN JN GO cf j6 x8 x9 cl bp dU=Lt JN GO cf j6 (GN JN GO cf j6) x8 x9 cl bp dU:=aaw (b:=app 4 (GN JN GO cf j6) [x8,x9,cl,bp] dU) (by kernel_rfl) ((eS cf 125 [1,0,1,0,0] [1,8,9,10] _ [x8,x9,cl,bp] rfl dU).trans (by kernel_rfl))
noncomputable def Ub (J:JT)(G:GT)(cf:CF)(a0 a1:AV)(H:Hp):R:=
 BN (bx 72 a0 H) fun i0 h1=>
 J 0 (fun j2=>
 B1 (fa 0 (.ptr i0 0)) fun v3=>
 B1 (ld v3 h1) fun v4=>
 B1 (bq v4) fun v5=>
 J 0 (fun j6=>
 GN J G cf j6 a1 v4 v5 (.int .i64 0) h1) (fun  ir=>
 j2  ir)) (fun  fV=>
 some ((.bool false),fV))
theorem ap6 {a0 a1:AV}{H:Hp}{r:AV × Hp}(h:Ub JN GO cK a0 a1 H=some r):cK (.func (.func 125) [] []) [a0,a1] H=some r:=aT (first:=[]) (cap:=[]) (aaw (by kernel_rfl) h)
noncomputable def HQ (J:JT)(G:GT)(cf:CF)(dc:K.Fn 1)(vX:K.Fn 4)(cC cF cJ cG:AV)(iz:Hp):R:=
 B1 (cB cG cJ) fun fx=>
 CD fx (
 J 4 (fun j43=>
 B1 (ia 2 cF cG) fun v44=>
 B1 (aA 2 v44 iz) fun fA=>
 BN (aE iz [.nilFunc,(.int .i64 0)] 194 0) fun i46 kj=>
 B1 (st 2 (.ptr i46 0) fA kj) fun mE=>
 B1 (aA 1 cC mE) fun v49=>
 B1 (fa 0 (.ptr i46 0)) fun jo=>
 B1 (ld jo mE) fun v51=>
 B2 (cf (.func (.func 125) [] []) [v49,v51] mE) fun jf ik=>
 CD jf (
 B1 (fa 1 (.ptr i46 0)) fun iN=>
 B1 (ld iN ik) fun jz=>
 some (jz,ik)) (
 j43 cC cF cJ cG ik)) (fun cL dd du cN lH=>
 B1 (bS cN (.int .i64 1)) fun lU=>
 vX cL dd du lU lH)) (
 dc cC iz)
noncomputable def Bq (J:JT)(G:GT)(cf:CF)(dc:K.Fn 1):K.Fn 4:=eu P an J G cf 90 [1,1,1,0,1,0,0] [1,18,19,20] (fun q t H=>match Nat.beq q 0 with | true=>app 1 dc (ax [1] t) H | false=>(fun _ _ _=>none) q t H)
theorem ahe (J:JT)(G:GT)(cf:CF)(dc:K.Fn 1)(vX:K.Fn 4)(cC cF cJ cG:AV)(iz:Hp):lh P an J G cf 90 [1,1,1,0,1,0,0] [1,18,19,20] (fun q t H=>match Nat.beq q 0 with | true=>app 1 dc (ax [1] t) H | false=>(fun _ _ _=>none) q t H) vX [cC,cF,cJ,cG] iz=HQ J G cf dc vX cC cF cJ cG iz:=by kernel_rfl
theorem Ui (cf:CF)(dc:K.Fn 1)(cC cF cJ cG:AV)(iz:Hp):Bq JN GO cf dc cC cF cJ cG iz=HQ JN GO cf dc (Bq JN GO cf dc) cC cF cJ cG iz:=aaw (b:=app 4 (Bq JN GO cf dc) [cC,cF,cJ,cG] iz) (by kernel_rfl) ((eS cf _ _ _ _ [cC,cF,cJ,cG] rfl iz).trans (ahe JN GO cf dc _ cC cF cJ cG iz))
noncomputable def xK (J:JT)(G:GT)(cf:CF)(a0:AV)(H:Hp):R:=
 BN (bx 72 a0 H) fun i0 h1=>
 J 1 (fun j2=>
 J 2 (fun j3=>
 B1 (fa 0 (.ptr i0 0)) fun v4=>
 B1 (ld v4 h1) fun v5=>
 B1 (bq v5) fun v6=>
 B2 (cf (.func (.func 119) [] []) [v6,(.int .i64 1),(.int .i64 16)] h1) fun v7 h8=>
 B1 (fT .not v7) fun v9=>
 j3 (.ptr i0 0) v9 h8) (fun cl bp dU=>
 CD bp (
 some ((.int .i64 1),dU)) (
 j2 cl dU))) (fun aP eC=>
 BN (xc eC) fun i15 bE=>
 BN (aE bE [.ja] 192 0) fun i17 fe=>
 B1 (st 1 (.ptr i17 0) (.map i15) fe) fun cY=>
 J 1 (fun aF=>
 J 4 (fun eX=>
 B1 (fl [.nilFunc,(.int .i64 0)] [(0,1,(.func (.func 120) [] [])),(1,1,(.int .i64 2))]) fun O0=>
 B1 (fl [.nilFunc,(.int .i64 0)] [(0,1,(.func (.func 121) [] [(.ptr i17 0)])),(1,1,(.int .i64 5))]) fun l23=>
 B1 (fl [.nilFunc,(.int .i64 0)] [(0,1,(.func (.func 122) [] [])),(1,1,(.int .i64 1))]) fun Qx=>
 B1 (fl [.nilFunc,(.int .i64 0)] [(0,1,(.func (.func 123) [] [aP])),(1,1,(.int .i64 1))]) fun l25=>
 B1 (fl [.nilFunc,(.int .i64 0),.nilFunc,(.int .i64 0),.nilFunc,(.int .i64 0),.nilFunc,(.int .i64 0)] [(0,2,(.agg O0)),(2,2,(.agg l23)),(4,2,(.agg Qx)),(6,2,(.agg l25))]) fun l26=>
 BN (aE cY l26 194 0) fun i27 gO=>
 B1 (bq (.slice i27 0 4 4 true 2)) fun v29=>
 eX aP (.slice i27 0 4 4 true 2) v29 (.int .i64 0) gO) (fun di bP eE cj mS=>
 J 1 (fun dc=>
 Bq J G cf dc di bP eE cj mS) (fun lC sf=>
 aF lC sf))) (fun fU nb=>
 J 0 (fun j66=>
 J 1 (fun G5=>
 B1 (aA 1 fU nb) fun ma=>
 B2 (cf (.func (.func 127) [] []) [ma] nb) fun kR qn=>
 B2 (cf (.func (.func 126) [] []) [kR] qn) fun oL tW=>
 B1 (bq oL) fun kU=>
 B1 (lE kU (.int .i64 0)) fun kG=>
 G5 kG tW) (fun lj wi=>
 CD lj (
 some ((.int .i64 7),wi)) (
 j66  wi))) (fun  wM=>
 some ((.int .i64 0),wM))))
theorem ajJ (J:JT)(G:GT)(cf:CF)(a0:AV)(H:Hp):fQ P J G aR an cf 90 [a0] H=xK J G cf a0 H:=by kernel_rfl
theorem DG {a0:AV}{H:Hp}{r:AV × Hp}(h:xK JN GO cK a0 H=some r):cK (.func (.func 90) [] []) [a0] H=some r:=aT (first:=[]) (cap:=[]) ((ajJ JN GO _ a0 H).trans h)
noncomputable def UT (J:JT)(G:GT)(cf:CF)(a0 a1:AV)(H:Hp):R:=
 BN (bx 99 a1 H) fun i0 h1=>
 B1 (fa 0 (.ptr i0 0)) fun v2=>
 B1 (ld v2 h1) fun v3=>
 B2 (cf (.func (.func 54) [] []) [v3] h1) fun v4 h5=>
 B1 (fT .not v4) fun v6=>
 G v6 false (fun k7=>
 B1 (fa 5 (.ptr i0 0)) fun v8=>
 k7 v8 h5) (fun v9 bW=>
 G v6 false (fun Aq=>
 B1 (ld v9 bW) fun v12=>
 Aq v12 bW) (fun dJ eC=>
 G v6 false (fun xN=>
 B1 (qH dJ (.str [])) fun cW=>
 xN cW eC) (fun eN fe=>
 G v6 false (fun QH=>
 QH eN fe) (fun v20 kX=>
 G v20 true (fun k22=>
 B1 (fa 5 (.ptr i0 0)) fun v23=>
 k22 v23 kX) (fun v24 dX=>
 G v20 true (fun RQ=>
 B1 (ld v24 dX) fun v27=>
 RQ v27 dX) (fun v28 dR=>
 G v20 true (fun P3=>
 B2 (cf (.func (.func 54) [] []) [v28] dR) fun v31 eK=>
 P3 v31 eK) (fun fy mS=>
 G v20 true (fun xu=>
 B1 (fT .not fy) fun v36=>
 xu v36 mS) (fun v37 fV=>
 G v6 false (fun Pp=>
 B1 (pk v20 v37 (.bool false)) fun v40=>
 Pp v40 fV) (fun v41 gD=>
 B1 (pk v6 (.bool true) v41) fun gm=>
 some (gm,gD)) fV) mS) dR) dX) kX) fe) eC) bW) h5
theorem ac3 {a0 a1:AV}{H:Hp}{r:AV × Hp}(h:UT JN GO cK a0 a1 H=some r):cK (.func (.func 120) [] []) [a0,a1] H=some r:=aT (first:=[]) (cap:=[]) (aaw (by kernel_rfl) h)
noncomputable def Qe (J:JT)(G:GT)(cf:CF)(a0 a1 a2:AV)(H:Hp):R:=
 BN (bx 99 a1 H) fun i0 h1=>
 J 3 (fun j2=>
 B1 (ld a2 h1) fun v3=>
 B1 (fa 0 (.ptr i0 0)) fun v4=>
 B1 (ld v4 h1) fun v5=>
 B1 (uz .str (.bool false) false v3 v5 h1) fun v6=>
 j2 a2 (.ptr i0 0) v6 h1) (fun x7 x8 x9 bW=>
 B1 (ld x7 bW) fun v11=>
 B1 (fa 0 x8) fun v12=>
 B1 (ld v12 bW) fun dJ=>
 B1 (th .str v11 dJ (.bool true) bW) fun eC=>
 some (x9,eC))
theorem YH {a0 a1 a2:AV}{H:Hp}{r:AV × Hp}(h:Qe JN GO cK a0 a1 a2 H=some r):cK (.func (.func 121) [] [a2]) [a0,a1] H=some r:=aT (first:=[]) (cap:=[a2]) (aaw (by kernel_rfl) h)
noncomputable def Wf (J:JT)(G:GT)(cf:CF)(a0 a1:AV)(H:Hp):R:=
 BN (bx 99 a1 H) fun i0 h1=>
 B1 (fa 2 (.ptr i0 0)) fun v2=>
 B1 (ld v2 h1) fun v3=>
 B2 (cf (.func (.func 119) [] []) [v3,(.int .i64 0),(.int .i64 8)] h1) fun v4 h5=>
 B1 (fT .not v4) fun v6=>
 G v6 false (fun k7=>
 B1 (fa 3 (.ptr i0 0)) fun v8=>
 k7 v8 h5) (fun v9 bW=>
 G v6 false (fun Aq=>
 B1 (ld v9 bW) fun v12=>
 Aq v12 bW) (fun dJ eC=>
 G v6 false (fun xN=>
 B2 (cf (.func (.func 119) [] []) [dJ,(.int .i64 1),(.int .i64 1000)] eC) fun cW dL=>
 xN cW dL) (fun dO cY=>
 G v6 false (fun Sh=>
 B1 (fT .not dO) fun v21=>
 Sh v21 cY) (fun v22 cp=>
 B1 (pk v6 (.bool true) v22) fun v24=>
 G v24 false (fun k25=>
 B1 (fa 4 (.ptr i0 0)) fun v26=>
 k25 v26 cp) (fun v27 gO=>
 G v24 false (fun Po=>
 B1 (ld v27 gO) fun v30=>
 Po v30 gO) (fun v31 eK=>
 G v24 false (fun Hm=>
 B2 (cf (.func (.func 119) [] []) [v31,(.int .i64 1),(.int .i64 1000)] eK) fun eg dS=>
 Hm eg dS) (fun v36 ir=>
 G v24 false (fun xD=>
 B1 (fT .not v36) fun eJ=>
 xD eJ ir) (fun v40 iz=>
 B1 (pk v24 (.bool true) v40) fun fx=>
 some (fx,iz)) ir) eK) gO) cp) cY) eC) bW) h5
theorem agA {a0 a1:AV}{H:Hp}{r:AV × Hp}(h:Wf JN GO cK a0 a1 H=some r):cK (.func (.func 122) [] []) [a0,a1] H=some r:=aT (first:=[]) (cap:=[]) (aaw (by kernel_rfl) h)
noncomputable def UX (J:JT)(G:GT)(cf:CF)(a0 a1 a2:AV)(H:Hp):R:=
 BN (bx 99 a1 H) fun i0 h1=>
 B1 (aA 1 a2 h1) fun v2=>
 B1 (fa 1 (.ptr i0 0)) fun v3=>
 B1 (ld v3 h1) fun v4=>
 B2 (cf (.func (.func 124) [] []) [v2,a0,v4] h1) fun v5 h6=>
 B1 (fT .not v5) fun v7=>
 some (v7,h6)
theorem ad3 {a0 a1 a2:AV}{H:Hp}{r:AV × Hp}(h:UX JN GO cK a0 a1 a2 H=some r):cK (.func (.func 123) [] [a2]) [a0,a1] H=some r:=aT (first:=[]) (cap:=[a2]) (aaw (by kernel_rfl) h)
noncomputable def zB (J:JT)(G:GT)(cf:CF)(j4:K.Fn 0)(j5:K.Fn 6)(x6 x7 x8 x9 cl bp:AV)(dU:Hp):R:=
 B1 (cB bp cl) fun dJ=>
 CD dJ (
 J 6 (fun AE=>
 J 8 (fun jm=>
 B1 (ia 1 x9 bp) fun cW=>
 B1 (ld cW dU) fun eN=>
 jm x6 x7 x8 bp eN x9 cl bp dU) (fun bF df da aX aM bf bB bC dD=>
 J 7 (fun xp=>
 B1 (fa 0 da) fun v28=>
 B1 (ld v28 dD) fun v29=>
 B1 (bq v29) fun v30=>
 B1 (mY v30 (.int .i64 1)) fun v31=>
 B2 (cf (.func (.func 119) [] []) [aM,(.int .i64 0),v31] dD) fun v32 oK=>
 B1 (fT .not v32) fun eg=>
 G eg false (fun xu=>
 xu aM oK) (fun v36 ir=>
 G eg false (fun xD=>
 xD bF ir) (fun eJ kI=>
 G eg false (fun Ig=>
 B1 (bG v36 eJ) fun fx=>
 Ig fx kI) (fun gm dT=>
 B1 (pk eg (.bool true) gm) fun fA=>
 G fA false (fun NB=>
 NB df dT) (fun jq mE=>
 G fA false (fun Me=>
 Me aX mE) (fun jo np=>
 G fA false (fun PE=>
 B1 (qq 1 jq none (some jo) none) fun v53=>
 PE v53 np) (fun iN jW=>
 G fA false (fun EE=>
 EE aM jW) (fun v57 qN=>
 G fA false (fun EO=>
 B2 (cf (.func (.func 154) [] []) [iN,v57] qN) fun fI gM=>
 EO fI gM) (fun gV sf=>
 B1 (pk fA (.bool true) gV) fun v64=>
 xp bF df da bf bB bC v64 sf) qN) jW) np) mE) dT) kI) ir) oK) (fun ft mu iB jE mo lZ rN tW=>
 CD rN (
 some ((.bool false),tW)) (
 AE ft mu iB jE mo lZ tW)))) (fun gS iJ lj gJ fq fg iZ=>
 B1 (bS fg (.int .i64 1)) fun v80=>
 j5 gS iJ lj gJ fq v80 iZ)) (
 j4  dU)
noncomputable def Hn (J:JT)(G:GT)(cf:CF)(j4:K.Fn 0):K.Fn 6:=eu P an J G cf 124 [1,0,1,0,0] [1,2,3,9,10,11] (fun q t H=>match Nat.beq q 0 with | true=>app 0 j4 (ax [] t) H | false=>(fun _ _ _=>none) q t H)
theorem af9 (J:JT)(G:GT)(cf:CF)(j4:K.Fn 0)(j5:K.Fn 6)(x6 x7 x8 x9 cl bp:AV)(dU:Hp):lh P an J G cf 124 [1,0,1,0,0] [1,2,3,9,10,11] (fun q t H=>match Nat.beq q 0 with | true=>app 0 j4 (ax [] t) H | false=>(fun _ _ _=>none) q t H) j5 [x6,x7,x8,x9,cl,bp] dU=zB J G cf j4 j5 x6 x7 x8 x9 cl bp dU:=by kernel_rfl
theorem SH (cf:CF)(j4:K.Fn 0)(x6 x7 x8 x9 cl bp:AV)(dU:Hp):Hn JN GO cf j4 x6 x7 x8 x9 cl bp dU=zB JN GO cf j4 (Hn JN GO cf j4) x6 x7 x8 x9 cl bp dU:=aaw (b:=app 6 (Hn JN GO cf j4) [x6,x7,x8,x9,cl,bp] dU) (by kernel_rfl) ((eS cf _ _ _ _ [x6,x7,x8,x9,cl,bp] rfl dU).trans (af9 JN GO cf j4 _ x6 x7 x8 x9 cl bp dU))
noncomputable def MQ (J:JT)(G:GT)(cf:CF)(a0 a1 a2:AV)(H:Hp):R:=
 BN (bx 72 a0 H) fun i0 h1=>
 J 0 (fun j2=>
 B1 (bq a2) fun v3=>
 J 0 (fun j4=>
 Hn J G cf j4 a1 a2 (.ptr i0 0) a2 v3 (.int .i64 0) h1) (fun  wE=>
 j2  wE)) (fun  su=>
 some ((.bool true),su))
theorem adT (J:JT)(G:GT)(cf:CF)(a0 a1 a2:AV)(H:Hp):fQ P J G aR an cf 124 [a0,a1,a2] H=MQ J G cf a0 a1 a2 H:=by kernel_rfl
theorem ahx {a0 a1 a2:AV}{H:Hp}{r:AV × Hp}(h:MQ JN GO cK a0 a1 a2 H=some r):cK (.func (.func 124) [] []) [a0,a1,a2] H=some r:=aT (first:=[]) (cap:=[]) ((adT JN GO _ a0 a1 a2 H).trans h)
noncomputable def Lm (J:JT)(G:GT)(cf:CF)(aD:K.Fn 1)(aF:K.Fn 5)(gu:K.Fn 7)(G0:K.Fn 10)(bM dV bU cC cF cJ cG dE eL dQ:AV)(dT:Hp):R:=
 B1 (cB dQ eL) fun fA=>
 CD fA (
 J 10 (fun yH=>
 J 12 (fun xg=>
 B1 (ia 1 dE dQ) fun gL=>
 B1 (ld gL dT) fun v49=>
 xg bM dV bU cC dQ v49 cF cJ cG dE eL dQ dT) (fun gh fS ez dY dG dF cL dd du cN eT dZ fY=>
 J 11 (fun K9=>
 B1 (bG dG (.int .i64 0)) fun v64=>
 CD v64 (
 B1 (oI dY (.str [32,97,102,116,101,114,61])) fun nK=>
 K9 gh fS ez nK dF cL dd du cN eT dZ fY) (
 B1 (oI dY (.str [44])) fun mB=>
 K9 gh fS ez mB dF cL dd du cN eT dZ fY)) (fun iB jE mo lZ rN rA gS iJ lj gJ fq xi=>
 B1 (fa 0 iB) fun pg=>
 B1 (ld pg xi) fun v80=>
 B1 (ia 6 v80 rN) fun oq=>
 B1 (fa 0 oq) fun mV=>
 B1 (ld mV xi) fun rM=>
 B1 (oI lZ rM) fun zJ=>
 yH iB jE mo zJ rA gS iJ lj gJ fq xi))) (fun pz oN uy oJ B4 P6 CH mj nU lS pP=>
 B1 (bS lS (.int .i64 1)) fun qz=>
 G0 pz oN uy oJ B4 P6 CH mj nU qz pP)) (
 gu bM dV bU cC cF cJ cG dT)
noncomputable def FZ (J:JT)(G:GT)(cf:CF)(aD:K.Fn 1)(aF:K.Fn 5)(gu:K.Fn 7):K.Fn 10:=eu P an J G cf 55 [1,1,1,0,1,0,0,1,1,0,0,1,1,0,1,0,0] [1,3,5,6,13,14,15,22,23,24] (fun q t H=>match Nat.beq q 2 with | true=>app 7 gu (ax [1,3,5,6,13,14,15] t) H | false=>(fun q t H=>match Nat.beq q 1 with | true=>app 5 aF (ax [1,3,13,14,15] t) H | false=>(fun q t H=>match Nat.beq q 0 with | true=>app 1 aD (ax [3] t) H | false=>(fun _ _ _=>none) q t H) q t H) q t H)
theorem Qs (cf:CF)(aD:K.Fn 1)(aF:K.Fn 5)(gu:K.Fn 7)(bM dV bU cC cF cJ cG dE eL dQ:AV)(dT:Hp):FZ JN GO cf aD aF gu bM dV bU cC cF cJ cG dE eL dQ dT=Lm JN GO cf aD aF gu (FZ JN GO cf aD aF gu) bM dV bU cC cF cJ cG dE eL dQ dT:=aaw (b:=app 10 (FZ JN GO cf aD aF gu) [bM,dV,bU,cC,cF,cJ,cG,dE,eL,dQ] dT) (by kernel_rfl) ((eS cf 55 [1,1,1,0,1,0,0,1,1,0,0,1,1,0,1,0,0] [1,3,5,6,13,14,15,22,23,24] _ [bM,dV,bU,cC,cF,cJ,cG,dE,eL,dQ] rfl dT).trans (by kernel_rfl))
noncomputable def ES (J:JT)(G:GT)(cf:CF)(aD:K.Fn 1)(ly:K.Fn 5)(aZ aP bg br bJ:AV)(dL:Hp):R:=
 B1 (cB bJ br) fun dO=>
 CD dO (
 J 5 (fun bL=>
 J 5 (fun aF=>
 B1 (ia 6 bg bJ) fun v21=>
 B1 (aA 6 v21 dL) fun v22=>
 BN (aE dL [(.str []),.ah,(.int .i64 0),(.int .i64 0),(.int .i64 0),(.str [])] 99 0) fun i23 jh=>
 B1 (st 6 (.ptr i23 0) v22 jh) fun dX=>
 B1 (fa 0 (.ptr i23 0)) fun v26=>
 B1 (ld v26 dX) fun v27=>
 J 7 (fun jG=>
 B1 (fa 1 (.ptr i23 0)) fun v29=>
 B1 (ld v29 dX) fun v30=>
 B1 (bq v30) fun v31=>
 J 7 (fun gu=>
 FZ J G cf aD aF gu aZ aP (.ptr i23 0) v27 bg br bJ v30 v31 (.int .i64 0) dX) (fun od ri lM qU nN qj PF yF=>
 jG od ri lM qU nN qj PF yF)) (fun xb rG nA na iC pU pX Cx=>
 J 7 (fun adr=>
 B1 (fa 2 nA) fun qa=>
 B1 (ld qa Cx) fun wq=>
 B2 (cf (.func (.func 92) [] []) [(.str [32,114,101,116,114,121,61]),wq,(.int .i64 0)] Cx) fun xT wD=>
 B1 (fa 3 nA) fun zf=>
 B1 (ld zf wD) fun rb=>
 B2 (cf (.func (.func 92) [] []) [(.str [32,119,97,105,116,61]),rb,(.int .i64 10)] wD) fun Ar Ap=>
 B1 (oI xT Ar) fun za=>
 B1 (fa 4 nA) fun ql=>
 B1 (ld ql Ap) fun v124=>
 B2 (cf (.func (.func 92) [] []) [(.str [32,98,97,115,101,61]),v124,(.int .i64 1)] Ap) fun yX zy=>
 B1 (oI za yX) fun v127=>
 B1 (oI na v127) fun agt=>
 B1 (ld zf Cx) fun al0=>
 SM rb al0 <|
 B1 (ld ql Cx) fun v130=>
 SM v124 v130 <|
 B1 (ld ql wD) fun v131=>
 SM v124 v131 <|
 adr xb rG nA agt iC pU pX zy) (fun ki tC tX pK sI yZ BD vU=>
 J 6 (fun Ud=>
 B1 (fa 5 tX) fun v141=>
 B1 (ld v141 vU) fun Fb=>
 B1 (qH Fb (.str [])) fun v143=>
 CD v143 (
 B1 (fa 5 tX) fun alZ=>
 B1 (ld alZ vU) fun v145=>
 B1 (oI (.str [32,111,110,61]) v145) fun v146=>
 B1 (oI pK v146) fun Gg=>
 Ud ki tC Gg sI yZ BD vU) (
 Ud ki tC pK sI yZ BD vU)) (fun Ei Hh Bh AD Ah AW IA=>
 B1 (fl [(.str [])] [(0,1,Bh)]) fun QA=>
 BN (aE IA QA 9 0) fun i156 akH=>
 B2 (gw 9 1 [(.str [])] false Hh (.slice i156 0 1 1 true 1) akH) fun yd Mq=>
 aF Ei yd AD Ah AW Mq)))) (fun HY MW GA Ia Gp JC=>
 bL HY MW GA Ia Gp JC)) (fun Ni Eh EZ Hv L4 PR=>
 B1 (bS L4 (.int .i64 1)) fun Nw=>
 ly Ni Eh EZ Hv Nw PR)) (
 aD aP dL)
noncomputable def Hz (J:JT)(G:GT)(cf:CF)(aD:K.Fn 1):K.Fn 5:=eu P an J G cf 55 [1,1,1,0,1,0,0] [1,3,13,14,15] (fun q t H=>match Nat.beq q 0 with | true=>app 1 aD (ax [3] t) H | false=>(fun _ _ _=>none) q t H)
theorem aeZ (J:JT)(G:GT)(cf:CF)(aD:K.Fn 1)(ly:K.Fn 5)(aZ aP bg br bJ:AV)(dL:Hp):lh P an J G cf 55 [1,1,1,0,1,0,0] [1,3,13,14,15] (fun q t H=>match Nat.beq q 0 with | true=>app 1 aD (ax [3] t) H | false=>(fun _ _ _=>none) q t H) ly [aZ,aP,bg,br,bJ] dL=ES J G cf aD ly aZ aP bg br bJ dL:=by kernel_rfl
theorem OC (cf:CF)(aD:K.Fn 1)(aZ aP bg br bJ:AV)(dL:Hp):Hz JN GO cf aD aZ aP bg br bJ dL=ES JN GO cf aD (Hz JN GO cf aD) aZ aP bg br bJ dL:=aaw (b:=app 5 (Hz JN GO cf aD) [aZ,aP,bg,br,bJ] dL) (by kernel_rfl) ((eS cf _ _ _ _ [aZ,aP,bg,br,bJ] rfl dL).trans (aeZ JN GO cf aD _ aZ aP bg br bJ dL))
noncomputable def Pd (J:JT)(G:GT)(cf:CF)(a0:AV)(H:Hp):R:=
 BN (bx 72 a0 H) fun i0 h1=>
 B1 (aA 1 (.ptr i0 0) h1) fun v2=>
 B2 (cf (.func (.func 90) [] []) [v2] h1) fun v3 h4=>
 B1 (hY v3 (.int .i64 0)) fun v5=>
 CD v5 (
 some ((.str []),h4)) (
 J 1 (fun j6=>
 B1 (fa 0 (.ptr i0 0)) fun v7=>
 B1 (ld v7 h4) fun v8=>
 B1 (bq v8) fun v9=>
 J 1 (fun aD=>
 Hz J G cf aD (.ptr i0 0) .ah v8 v9 (.int .i64 0) h4) (fun yj acD=>
 j6 yj acD)) (fun Ai HT=>
 B2 (cf (.func (.func 85) [] []) [Ai,(.str [59])] HT) fun zx QT=>
 some (zx,QT)))
theorem ae4 (J:JT)(G:GT)(cf:CF)(a0:AV)(H:Hp):fQ P J G aR an cf 55 [a0] H=Pd J G cf a0 H:=by kernel_rfl
theorem ahR {a0:AV}{H:Hp}{r:AV × Hp}(h:Pd JN GO cK a0 H=some r):cK (.func (.func 55) [] []) [a0] H=some r:=aT (first:=[]) (cap:=[]) ((ae4 JN GO _ a0 H).trans h)
noncomputable def Mu (J:JT)(G:GT)(cf:CF)(a0 a1 a2:AV)(H:Hp):R:=
 B1 (bG a1 a2) fun v0=>
 CD v0 (
 some ((.str []),H)) (
 B2 (cf (.func (.func 84) [] []) [a1] H) fun v1 h2=>
 B1 (oI a0 v1) fun v3=>
 some (v3,h2))
theorem Uq {a0 a1 a2:AV}{H:Hp}{r:AV × Hp}(h:Mu JN GO cK a0 a1 a2 H=some r):cK (.func (.func 92) [] []) [a0,a1,a2] H=some r:=aT (first:=[]) (cap:=[]) (aaw (by kernel_rfl) h)
noncomputable def KR (J:JT)(G:GT)(cf:CF)(aF:K.Fn 2)(cu:K.Fn 6)(kT:K.Fn 6)(JX:K.Fn 10)(ez dY dG dF cL dd du cN eT dZ:AV)(fY:Hp):R:=
 B1 (cB dZ eT) fun v63=>
 CD v63 (
 J 10 (fun j64=>
 J 10 (fun j65=>
 B1 (ia 1 cN dZ) fun mB=>
 B1 (ld mB fY) fun oy=>
 J 12 (fun MH=>
 B1 (fl [(.int .i64 0),(.int .i64 0)] [(0,1,oy),(1,1,dF)]) fun l69=>
 BN (aE fY [(.int .i64 0),(.int .i64 0)] 231 0) fun i70 kM=>
 B1 (st 2 (.ptr i70 0) (.agg l69) kM) fun tW=>
 MH ez dY dG dF oy (.ptr i70 0) cL dd du cN eT dZ tW) (fun gS iJ lj gJ fq fg py nL qF uc mT pj rH=>
 J 12 (fun NS=>
 B1 (fa 0 gS) fun v87=>
 B1 (ld v87 rH) fun uS=>
 B1 (bq uS) fun qo=>
 B1 (mY qo (.int .i64 1)) fun qe=>
 B2 (cf (.func (.func 119) [] []) [fq,(.int .i64 0),qe] rH) fun v91 BL=>
 G v91 true (fun k93=>
 k93 fq BL) (fun xQ pP=>
 G v91 true (fun k96=>
 k96 gJ pP) (fun DV Ho=>
 G v91 true (fun k99=>
 B1 (hY xQ DV) fun Ra=>
 k99 Ra Ho) (fun vq Vp=>
 B1 (pk v91 vq (.bool false)) fun yE=>
 G yE true (fun MT=>
 B1 (fa 1 lj) fun v105=>
 MT v105 Vp) (fun AS F7=>
 G yE true (fun ag2=>
 B1 (ld AS F7) fun v109=>
 ag2 v109 F7) (fun NV Ri=>
 G yE true (fun akm=>
 B1 (aA 2 fg Ri) fun yu=>
 akm yu Ri) (fun qa Jd=>
 G yE true (fun adC=>
 B2 (cf (.func (.func 158) [] []) [NV,qa] Jd) fun v117 EU=>
 adC v117 EU) (fun rb zz=>
 G yE true (fun QD=>
 B1 (fT .not rb) fun za=>
 QD za zz) (fun ql sy=>
 B1 (pk yE ql (.bool false)) fun yX=>
 NS gS iJ lj gJ fg py nL qF uc mT pj yX sy) zz) Jd) Ri) F7) Vp) Ho) pP) BL) (fun jL iu iw jb jX nE ki tC tX pK sI yZ Jm=>
 CD yZ (
 B1 (fa 1 iw) fun v139=>
 B1 (ld v139 Jm) fun Cu=>
 B1 (aA 2 jX Jm) fun v141=>
 B1 (fl [(.int .i64 0),(.int .i64 0)] [(0,2,v141)]) fun ald=>
 BN (aE Jm ald 231 0) fun i143 Kg=>
 B2 (gw 231 2 [(.int .i64 0),(.int .i64 0)] false Cu (.slice i143 0 1 1 true 2) Kg) fun v145 yc=>
 B1 (fa 1 iw) fun Gg=>
 B1 (st 1 Gg v145 yc) fun y8=>
 j65 jL iu iw jb nE ki tC tX pK sI y8) (
 j65 jL iu iw jb nE ki tC tX pK sI Jm)))) (fun Hh Bh AD Ah AW zS MK acY Oi MD Mq=>
 j64 Hh Bh AD Ah AW zS MK acY Oi MD Mq)) (fun HY MW GA Ia Gp Of Ni Eh EZ Hv Fj=>
 B1 (bS Hv (.int .i64 1)) fun v171=>
 JX HY MW GA Ia Gp Of Ni Eh EZ v171 Fj)) (
 kT ez dY dG cL dd du fY)
noncomputable def FG (J:JT)(G:GT)(cf:CF)(aF:K.Fn 2)(cu:K.Fn 6)(kT:K.Fn 6):K.Fn 10:=eu P an J G cf 127 [1,1,0,1,0,0,1,1,0,0,1,1,0,0] [1,2,3,4,14,15,16,22,23,24] (fun q t H=>match Nat.beq q 2 with | true=>app 6 kT (ax [1,2,3,14,15,16] t) H | false=>(fun q t H=>match Nat.beq q 1 with | true=>app 6 cu (ax [1,2,3,14,15,16] t) H | false=>(fun q t H=>match Nat.beq q 0 with | true=>app 2 aF (ax [2,3] t) H | false=>(fun _ _ _=>none) q t H) q t H) q t H)
theorem aes (J:JT)(G:GT)(cf:CF)(aF:K.Fn 2)(cu:K.Fn 6)(kT:K.Fn 6)(JX:K.Fn 10)(ez dY dG dF cL dd du cN eT dZ:AV)(fY:Hp):lh P an J G cf 127 [1,1,0,1,0,0,1,1,0,0,1,1,0,0] [1,2,3,4,14,15,16,22,23,24] (fun q t H=>match Nat.beq q 2 with | true=>app 6 kT (ax [1,2,3,14,15,16] t) H | false=>(fun q t H=>match Nat.beq q 1 with | true=>app 6 cu (ax [1,2,3,14,15,16] t) H | false=>(fun q t H=>match Nat.beq q 0 with | true=>app 2 aF (ax [2,3] t) H | false=>(fun _ _ _=>none) q t H) q t H) q t H) JX [ez,dY,dG,dF,cL,dd,du,cN,eT,dZ] fY=KR J G cf aF cu kT JX ez dY dG dF cL dd du cN eT dZ fY:=by kernel_rfl
theorem aa7 (cf:CF)(aF:K.Fn 2)(cu:K.Fn 6)(kT:K.Fn 6)(ez dY dG dF cL dd du cN eT dZ:AV)(fY:Hp):FG JN GO cf aF cu kT ez dY dG dF cL dd du cN eT dZ fY=KR JN GO cf aF cu kT (FG JN GO cf aF cu kT) ez dY dG dF cL dd du cN eT dZ fY:=aaw (b:=app 10 (FG JN GO cf aF cu kT) [ez,dY,dG,dF,cL,dd,du,cN,eT,dZ] fY) (by kernel_rfl) ((eS cf _ _ _ _ [ez,dY,dG,dF,cL,dd,du,cN,eT,dZ] rfl fY).trans (aes JN GO cf aF cu kT _ ez dY dG dF cL dd du cN eT dZ fY))
noncomputable def Q6 (J:JT)(G:GT)(cf:CF)(aF:K.Fn 2)(eX:K.Fn 6)(aM bf bB bC bT bN:AV)(gO:Hp):R:=
 B1 (cB bN bT) fun v29=>
 CD v29 (
 J 6 (fun xR=>
 J 6 (fun cu=>
 J 8 (fun gu=>
 B1 (ia 6 bC bN) fun fy=>
 B1 (aA 6 fy gO) fun eg=>
 BN (aE gO [(.str []),.ah,(.int .i64 0),(.int .i64 0),(.int .i64 0),(.str [])] 99 0) fun i35 mH=>
 B1 (st 6 (.ptr i35 0) eg mH) fun ir=>
 gu aM bf bB bN (.ptr i35 0) bC bT bN ir) (fun cF cJ cG dE eL dQ iH fD jj=>
 B1 (fa 1 eL) fun jq=>
 B1 (ld jq jj) fun gL=>
 B1 (bq gL) fun v49=>
 J 6 (fun kT=>
 FG J G cf aF cu kT cF cJ cG dE dQ iH fD gL v49 (.int .i64 0) jj) (fun BB yj BI Ai MX N4 QT=>
 cu BB yj BI Ai MX N4 QT))) (fun Pk O7 ap3 aoH aet ahh Q4=>
 xR Pk O7 ap3 aoH aet ahh Q4)) (fun Nf L1 PT RW QZ Rz aob=>
 B1 (bS Rz (.int .i64 1)) fun v193=>
 eX Nf L1 PT RW QZ v193 aob)) (
 aF bf bB gO)
noncomputable def EC (J:JT)(G:GT)(cf:CF)(aF:K.Fn 2):K.Fn 6:=eu P an J G cf 127 [1,1,0,1,0,0] [1,2,3,14,15,16] (fun q t H=>match Nat.beq q 0 with | true=>app 2 aF (ax [2,3] t) H | false=>(fun _ _ _=>none) q t H)
theorem YB (cf:CF)(aF:K.Fn 2)(aM bf bB bC bT bN:AV)(gO:Hp):EC JN GO cf aF aM bf bB bC bT bN gO=Q6 JN GO cf aF (EC JN GO cf aF) aM bf bB bC bT bN gO:=aaw (b:=app 6 (EC JN GO cf aF) [aM,bf,bB,bC,bT,bN] gO) (by kernel_rfl) ((eS cf 127 [1,1,0,1,0,0] [1,2,3,14,15,16] _ [aM,bf,bB,bC,bT,bN] rfl gO).trans (by kernel_rfl))
noncomputable def Uy (J:JT)(G:GT)(cf:CF)(a0:AV)(H:Hp):R:=
 BN (bx 72 a0 H) fun i0 h1=>
 BN (aE h1 [(.int .i64 0),.ah] 201 0) fun i2 h3=>
 J 3 (fun j4=>
 B1 (fa 0 (.ptr i0 0)) fun v5=>
 B1 (ld v5 h3) fun v6=>
 B1 (bq v6) fun v7=>
 B1 (fl [(.int .i64 0),.ah] [(0,1,v7)]) fun l8=>
 BN (aE h3 [(.int .i64 0),.ah] 201 0) fun i9 bW=>
 B1 (st 2 (.ptr i9 0) (.agg l8) bW) fun gY=>
 j4 (.ptr i0 0) (.ptr i2 0) (.ptr i9 0) gY) (fun aZ aP bg eU=>
 J 2 (fun dA=>
 B1 (fa 0 aZ) fun eN=>
 B1 (ld eN eU) fun dO=>
 B1 (bq dO) fun gC=>
 J 2 (fun aF=>
 EC J G cf aF aZ aP bg dO gC (.int .i64 0) eU) (fun Qg Hj aj9=>
 dA Qg Hj aj9)) (fun BM R4 Lg=>
 B1 (aA 2 R4 Lg) fun amv=>
 B1 (st 2 BM amv Lg) fun Zx=>
 B1 (aA 2 BM Zx) fun alB=>
 some (alB,Zx)))
theorem ahZ {a0:AV}{H:Hp}{r:AV × Hp}(h:Uy JN GO cK a0 H=some r):cK (.func (.func 127) [] []) [a0] H=some r:=aT (first:=[]) (cap:=[]) (aaw (by kernel_rfl) h)
noncomputable def Iw (J:JT)(G:GT)(cf:CF)(a0:AV)(H:Hp):R:=
 BN (bx 72 a0 H) fun i0 h1=>
 BN (aE h1 [.ah,(.int .i64 0),.ah,.ah] 75 0) fun i2 h3=>
 J 2 (fun j4=>
 B1 (aA 1 (.ptr i0 0) h3) fun v5=>
 B2 (cf (.func (.func 90) [] []) [v5] h3) fun v6 h7=>
 B1 (hY v6 (.int .i64 0)) fun v8=>
 CD v8 (
 B1 (fl [.ah,(.int .i64 0),.ah,.ah] []) fun l9=>
 B1 (st 4 (.ptr i2 0) (.agg l9) h7) fun bW=>
 B1 (aA 4 (.ptr i2 0) bW) fun v11=>
 some (.tuple [v11,v6],bW)) (
 j4 (.ptr i0 0) (.ptr i2 0) h7)) (fun aZ aP eC=>
 J 2 (fun jm=>
 B1 (aA 1 aZ eC) fun cW=>
 B1 (fa 0 aZ) fun eN=>
 B1 (ld eN eC) fun dO=>
 B1 (bq dO) fun gC=>
 B2 (xj [(.int .i64 0),(.int .i64 0),(.int .i64 0),(.str [])] 132 4 gC gC eC) fun v20 kX=>
 B1 (fl [.ah,(.int .i64 0),.ah,.ah] [(0,1,cW),(2,1,v20)]) fun O0=>
 B2 (cf (.func (.func 97) [] []) [(.agg O0)] kX) fun v23 jh=>
 BN (aE jh [.ah,(.int .i64 0),.ah,.ah] 75 0) fun i25 dD=>
 B1 (st 4 (.ptr i25 0) v23 dD) fun eR=>
 B1 (aA 1 aZ kX) fun v28=>
 SM cW v28 <|
 jm aP (.ptr i25 0) eR) (fun eP di gx=>
 B2 (cf (.func (.func 106) [] []) [di] gx) fun v32 oK=>
 B1 (aA 4 di oK) fun eg=>
 B1 (st 4 eP eg oK) fun dS=>
 B1 (aA 4 eP dS) fun v36=>
 some (.tuple [v36,(.int .i64 0)],dS)))
theorem aky (J:JT)(G:GT)(cf:CF)(a0:AV)(H:Hp):fQ P J G aR an cf 76 [a0] H=Iw J G cf a0 H:=by kernel_rfl
theorem Xp {a0:AV}{H:Hp}{r:AV × Hp}(h:Iw JN GO cK a0 H=some r):cK (.func (.func 76) [] []) [a0] H=some r:=aT (first:=[]) (cap:=[]) ((aky JN GO _ a0 H).trans h)
noncomputable def J9 (J:JT)(G:GT)(cf:CF)(jG:K.Fn 2)(jw:K.Fn 5)(di bP eE cj bM:AV)(dS:Hp):R:=
 B1 (cB bM cj) fun v36=>
 CD v36 (
 J 5 (fun HX=>
 J 7 (fun M1=>
 B1 (ia 6 eE bM) fun eJ=>
 B1 (aA 6 eJ dS) fun v40=>
 BN (aE dS [(.str []),.ah,(.int .i64 0),(.int .i64 0),(.int .i64 0),(.str [])] 99 0) fun i41 gD=>
 B1 (st 6 (.ptr i41 0) v40 gD) fun sM=>
 M1 di bP bM (.ptr i41 0) eE cj bM sM) (fun iH fD iI gi fM fK gh np=>
 B1 (fa 0 iH) fun jf=>
 B1 (fa 0 jf) fun v53=>
 B1 (ld v53 np) fun iN=>
 B1 (fa 1 gi) fun jz=>
 B1 (ld jz np) fun kO=>
 B2 (cf (.func (.func 137) [] []) [kO] np) fun v57 qN=>
 B1 (ia 6 iN iI) fun v59=>
 B1 (fa 1 v59) fun fI=>
 B1 (st 1 fI v57 qN) fun gM=>
 B1 (ld v53 qN) fun gV=>
 SM iN gV <|
 HX iH fD fM fK gh gM)) (fun kc fU ft mu iB xw=>
 B1 (bS iB (.int .i64 1)) fun kR=>
 jw kc fU ft mu kR xw)) (
 jG di bP dS)
noncomputable def FX (J:JT)(G:GT)(cf:CF)(jG:K.Fn 2):K.Fn 5:=eu P an J G cf 97 [1,1,0,1,0,0] [1,2,13,14,15] (fun q t H=>match Nat.beq q 0 with | true=>app 2 jG (ax [1,2] t) H | false=>(fun _ _ _=>none) q t H)
theorem aom (J:JT)(G:GT)(cf:CF)(jG:K.Fn 2)(jw:K.Fn 5)(di bP eE cj bM:AV)(dS:Hp):lh P an J G cf 97 [1,1,0,1,0,0] [1,2,13,14,15] (fun q t H=>match Nat.beq q 0 with | true=>app 2 jG (ax [1,2] t) H | false=>(fun _ _ _=>none) q t H) jw [di,bP,eE,cj,bM] dS=J9 J G cf jG jw di bP eE cj bM dS:=by kernel_rfl
theorem YS (cf:CF)(jG:K.Fn 2)(di bP eE cj bM:AV)(dS:Hp):FX JN GO cf jG di bP eE cj bM dS=J9 JN GO cf jG (FX JN GO cf jG) di bP eE cj bM dS:=aaw (b:=app 5 (FX JN GO cf jG) [di,bP,eE,cj,bM] dS) (by kernel_rfl) ((eS cf _ _ _ _ [di,bP,eE,cj,bM] rfl dS).trans (aom JN GO cf jG _ di bP eE cj bM dS))
noncomputable def Oe (J:JT)(G:GT)(cf:CF)(a0:AV)(H:Hp):R:=
 BN (bx 75 a0 H) fun i0 h1=>
 BN (aE h1 [.ah,(.int .i64 0),.ah,.ah] 75 0) fun i2 h3=>
 J 2 (fun j4=>
 B1 (fa 0 (.ptr i0 0)) fun v5=>
 B1 (fa 0 v5) fun v6=>
 B1 (ld v6 h3) fun v7=>
 B2 (cf (.func (.func 136) [] []) [v7] h3) fun v8 h9=>
 B1 (fa 0 (.ptr i0 0)) fun v10=>
 B1 (fa 0 v10) fun v11=>
 B1 (st 1 v11 v8 h9) fun dU=>
 j4 (.ptr i0 0) (.ptr i2 0) dU) (fun aP bg eU=>
 J 2 (fun dA=>
 J 5 (fun mg=>
 B1 (fa 0 aP) fun dO=>
 B1 (fa 0 dO) fun gC=>
 B1 (ld gC eU) fun v20=>
 B1 (bq v20) fun v21=>
 mg aP bg v20 v21 (.int .i64 0) eU) (fun aM bf bB bC bT eR=>
 J 2 (fun jG=>
 FX J G cf jG aM bf bB bC bT eR) (fun lZ rN tW=>
 dA lZ rN tW))) (fun gS iJ si=>
 J 2 (fun QV=>
 B1 (fa 2 gS) fun qg=>
 B1 (ld qg si) fun uU=>
 B2 (cf (.func (.func 138) [] []) [uU] si) fun pg vj=>
 B1 (fa 2 gS) fun oq=>
 B1 (st 1 oq pg vj) fun su=>
 QV gS iJ su) (fun mT pj rH=>
 J 2 (fun NS=>
 B1 (fa 3 mT) fun v87=>
 B1 (ld v87 rH) fun uS=>
 B2 (cf (.func (.func 30) [] []) [uS] rH) fun qo uR=>
 B1 (fa 3 mT) fun v91=>
 B1 (st 1 v91 qo uR) fun BL=>
 NS mT pj BL) (fun nU lS pP=>
 B1 (aA 4 nU pP) fun qz=>
 B1 (st 4 lS qz pP) fun B5=>
 B1 (aA 4 lS B5) fun Dk=>
 some (Dk,B5)))))
theorem adt (J:JT)(G:GT)(cf:CF)(a0:AV)(H:Hp):fQ P J G aR an cf 97 [a0] H=Oe J G cf a0 H:=by kernel_rfl
theorem aiF {a0:AV}{H:Hp}{r:AV × Hp}(h:Oe JN GO cK a0 H=some r):cK (.func (.func 97) [] []) [a0] H=some r:=aT (first:=[]) (cap:=[]) ((adt JN GO _ a0 H).trans h)
noncomputable def yw (J:JT)(G:GT)(cf:CF)(dA:K.Fn 2)(mg:K.Fn 5)(bF df da aX aM:AV)(cp:Hp):R:=
 B1 (cB aM aX) fun v24=>
 CD v24 (
 J 5 (fun D8=>
 J 7 (fun j26=>
 B1 (ia 6 da aM) fun v27=>
 B1 (aA 6 v27 cp) fun v28=>
 BN (aE cp [(.str []),.ah,(.int .i64 0),(.int .i64 0),(.int .i64 0),(.str [])] 99 0) fun i29 jU=>
 B1 (st 6 (.ptr i29 0) v28 jU) fun gx=>
 j26 bF df aM (.ptr i29 0) da aX aM gx) (fun eE cj bM dV bU cC cF p7=>
 J 8 (fun vI=>
 B1 (fa 1 dV) fun v41=>
 B1 (ld v41 p7) fun fx=>
 B2 (cf (.func (.func 143) [] []) [fx,(.func (.func 144) [] [eE])] p7) fun gm dT=>
 vI eE cj bM dV gm bU cC cF dT) (fun fD iI gi fM fK gh fS ez ik=>
 J 6 (fun ey=>
 J 7 (fun qW=>
 B1 (ld fD ik) fun kO=>
 B1 (aV kO) fun v57=>
 B1 (fa 2 v57) fun mc=>
 B1 (ld mc ik) fun v59=>
 B1 (ia 4 v59 gi) fun fI=>
 B1 (fa 0 fI) fun lU=>
 B1 (ld lU ik) fun gV=>
 B1 (bG gV (.int .i64 0)) fun v63=>
 rF v63 true (
 B1 (fT .not fK) fun v64=>
 rF v64 true (
 B1 (fa 5 fM) fun nK=>
 B1 (ld nK ik) fun mB=>
 B1 (seq mB (.str [])) fun oy=>
 rF oy false (
 B1 (ld fD ik) fun ma=>
 B1 (aV ma) fun kR=>
 B1 (fa 3 kR) fun v70=>
 B1 (ld v70 ik) fun oL=>
 B1 (fa 5 fM) fun v72=>
 B1 (ld v72 ik) fun kU=>
 B2 (cf (.func (.func 94) [] []) [oL,kU] ik) fun kG si=>
 qW fD iI gi gh fS ez kG si) (
 qW fD iI gi gh fS ez (.bool true) ik)) (
 qW fD iI gi gh fS ez (.bool false) ik)) (
 qW fD iI gi gh fS ez (.bool false) ik)) (fun gJ fq fg py nL qF uc oU=>
 CD uc (
 B1 (ld gJ oU) fun zJ=>
 B1 (aV zJ) fun v85=>
 B1 (fa 2 v85) fun yb=>
 B1 (ld yb oU) fun v87=>
 B1 (ia 4 v87 fg) fun uS=>
 B1 (fa 0 uS) fun qo=>
 B1 (st 1 qo (.int .i64 1) oU) fun uR=>
 ey gJ fq fg py nL qF uR) (
 ey gJ fq fg py nL qF oU))) (fun CH mj nU lS mq oW B5=>
 G mj true (fun k98=>
 B1 (ld CH B5) fun Fe=>
 k98 Fe B5) (fun Ra HK=>
 G mj true (fun apV=>
 B1 (aV Ra) fun yE=>
 apV yE HK) (fun wK u6=>
 G mj true (fun Se=>
 B1 (fa 2 wK) fun v107=>
 Se v107 u6) (fun uA Da=>
 G mj true (fun Nd=>
 B1 (ld uA Da) fun AQ=>
 Nd AQ Da) (fun AR wJ=>
 G mj true (fun amY=>
 amY nU wJ) (fun wq Al=>
 G mj true (fun ao3=>
 B1 (ia 4 AR wq) fun zf=>
 ao3 zf Al) (fun rb zz=>
 G mj true (fun QD=>
 B1 (fa 0 rb) fun za=>
 QD za zz) (fun ql sy=>
 G mj true (fun Ss=>
 B1 (ld ql sy) fun Fu=>
 Ss Fu sy) (fun v127 A6=>
 G mj true (fun Oz=>
 B1 (bG v127 (.int .i64 3)) fun v130=>
 Oz v130 A6) (fun v131 wo=>
 B1 (pk mj v131 (.bool false)) fun QP=>
 D8 CH QP lS mq oW wo) A6) sy) zz) Al) wJ) Da) u6) HK) B5)))) (fun tX pK sI yZ BD vU=>
 B1 (bS BD (.int .i64 1)) fun Cu=>
 mg tX pK sI yZ Cu vU)) (
 dA bF df cp)
noncomputable def uO (J:JT)(G:GT)(cf:CF)(dA:K.Fn 2):K.Fn 5:=eu P an J G cf 106 [1,1,0,1,0,0] [1,2,10,11,12] (fun q t H=>match Nat.beq q 0 with | true=>app 2 dA (ax [1,2] t) H | false=>(fun _ _ _=>none) q t H)
theorem ahI (J:JT)(G:GT)(cf:CF)(dA:K.Fn 2)(mg:K.Fn 5)(bF df da aX aM:AV)(cp:Hp):lh P an J G cf 106 [1,1,0,1,0,0] [1,2,10,11,12] (fun q t H=>match Nat.beq q 0 with | true=>app 2 dA (ax [1,2] t) H | false=>(fun _ _ _=>none) q t H) mg [bF,df,da,aX,aM] cp=yw J G cf dA mg bF df da aX aM cp:=by kernel_rfl
theorem Re (cf:CF)(dA:K.Fn 2)(bF df da aX aM:AV)(cp:Hp):uO JN GO cf dA bF df da aX aM cp=yw JN GO cf dA (uO JN GO cf dA) bF df da aX aM cp:=aaw (b:=app 5 (uO JN GO cf dA) [bF,df,da,aX,aM] cp) (by kernel_rfl) ((eS cf _ _ _ _ [bF,df,da,aX,aM] rfl cp).trans (ahI JN GO cf dA _ bF df da aX aM cp))
noncomputable def Jj (J:JT)(G:GT)(cf:CF)(a0:AV)(H:Hp):R:=
 BN (bx 146 a0 H) fun i0 h1=>
 J 2 (fun j2=>
 J 5 (fun j3=>
 B1 (ld (.ptr i0 0) h1) fun v4=>
 B1 (aV v4) fun v5=>
 B1 (fa 0 v5) fun v6=>
 B1 (fa 0 v6) fun v7=>
 B1 (ld v7 h1) fun v8=>
 B1 (bq v8) fun v9=>
 j3 (.ptr i0 0) (.bool true) v8 v9 (.int .i64 0) h1) (fun cl bp aZ aP bg eU=>
 J 2 (fun dA=>
 uO J G cf dA cl bp aZ aP bg eU) (fun DI A7 Jt=>
 j2 DI A7 Jt))) (fun xV xY yc=>
 CD xY (
 B1 (ld xV yc) fun Gg=>
 B1 (aV Gg) fun v148=>
 B1 (fa 1 v148) fun HM=>
 B1 (st 1 HM (.int .i64 1) yc) fun IU=>
 some (.tuple [],IU)) (
 some (.tuple [],yc)))
theorem aht (J:JT)(G:GT)(cf:CF)(a0:AV)(H:Hp):fQ P J G aR an cf 106 [a0] H=Jj J G cf a0 H:=by kernel_rfl
theorem Uc {a0:AV}{H:Hp}{r:AV × Hp}(h:Jj JN GO cK a0 H=some r):cK (.func (.func 106) [] []) [a0] H=some r:=aT (first:=[]) (cap:=[]) ((aht JN GO _ a0 H).trans h)
noncomputable def Ts (J:JT)(G:GT)(cf:CF)(a0 a1:AV)(H:Hp):R:=
 B1 (ld a1 H) fun v0=>
 B1 (aV v0) fun v1=>
 B1 (fa 2 v1) fun v2=>
 B1 (ld v2 H) fun v3=>
 B1 (ia 4 v3 a0) fun v4=>
 B1 (fa 0 v4) fun v5=>
 B1 (ld v5 H) fun v6=>
 B1 (hY v6 (.int .i64 3)) fun v7=>
 some (v7,H)
theorem anX {a0 a1:AV}{H:Hp}{r:AV × Hp}(h:Ts JN GO cK a0 a1 H=some r):cK (.func (.func 144) [] [a1]) [a0] H=some r:=aT (first:=[]) (cap:=[a1]) (aaw (by kernel_rfl) h)
noncomputable def Tx (J:JT)(G:GT)(cf:CF)(a0 a1:AV)(H:Hp):R:=
 BN (bx 75 a0 H) fun i0 h1=>
 J 0 (fun j2=>
 J 2 (fun j3=>
 B1 (cB a1 (.int .i64 0)) fun v4=>
 G v4 false (fun k5=>
 k5 a1 h1) (fun v6 h7=>
 G v4 false (fun k8=>
 B1 (fa 2 (.ptr i0 0)) fun v9=>
 k8 v9 h7) (fun v10 gY=>
 G v4 false (fun k12=>
 B1 (ld v10 gY) fun dJ=>
 k12 dJ gY) (fun cI eU=>
 G v4 false (fun Nx=>
 B1 (bq cI) fun eN=>
 Nx eN eU) (fun dO cY=>
 G v4 false (fun Sh=>
 B1 (lJ v6 dO) fun v21=>
 Sh v21 cY) (fun v22 cp=>
 B1 (pk v4 (.bool true) v22) fun v24=>
 j3 (.ptr i0 0) v24 cp) cY) eU) gY) h7) h1) (fun bC bT eR=>
 CD bT (
 some ((.int .i64 1),eR)) (
 B1 (fa 1 bC) fun v28=>
 B1 (ld v28 eR) fun v29=>
 B1 (hY v29 (.int .i64 0)) fun v30=>
 CD v30 (
 some ((.int .i64 9),eR)) (
 j2  eR)))) (fun  gx=>
 some ((.int .i64 0),gx))
theorem ack {a0 a1:AV}{H:Hp}{r:AV × Hp}(h:Tx JN GO cK a0 a1 H=some r):cK (.func (.func 108) [] []) [a0,a1] H=some r:=aT (first:=[]) (cap:=[]) (aaw (by kernel_rfl) h)
noncomputable def K8 (J:JT)(G:GT)(cf:CF)(a0 a1 a2:AV)(H:Hp):R:=
 BN (bx 75 a0 H) fun i0 h1=>
 J 3 (fun j2=>
 B1 (aA 4 (.ptr i0 0) h1) fun v3=>
 B2 (cf (.func (.func 108) [] []) [v3,a1] h1) fun v4 h5=>
 B1 (hY v4 (.int .i64 0)) fun v6=>
 CD v6 (
 some (v4,h5)) (
 j2 a1 a2 (.ptr i0 0) h5)) (fun x7 x8 x9 bW=>
 J 0 (fun ly=>
 J 2 (fun cH=>
 B1 (fa 2 x9) fun dJ=>
 B1 (ld dJ bW) fun cI=>
 B1 (ia 4 cI x7) fun gf=>
 B1 (aA 4 gf bW) fun cW=>
 BN (aE bW [(.int .i64 0),(.int .i64 0),(.int .i64 0),(.str [])] 132 0) fun i17 fe=>
 B1 (st 4 (.ptr i17 0) cW fe) fun cY=>
 cH x8 (.ptr i17 0) cY) (fun da aX lY=>
 J 1 (fun fc=>
 B1 (fa 0 aX) fun v24=>
 B1 (ld v24 lY) fun v25=>
 B1 (hY v25 (.int .i64 2)) fun v26=>
 G v26 false (fun Gt=>
 B1 (fa 1 aX) fun v28=>
 Gt v28 lY) (fun v29 jU=>
 G v26 false (fun AM=>
 B1 (ld v29 jU) fun v32=>
 AM v32 jU) (fun fy mS=>
 G v26 false (fun xu=>
 xu da mS) (fun v36 ir=>
 G v26 false (fun xD=>
 B1 (hY fy v36) fun eJ=>
 xD eJ ir) (fun v40 iz=>
 B1 (pk v26 (.bool true) v40) fun fx=>
 fc fx iz) ir) mS) jU) lY) (fun dQ dT=>
 CD dQ (
 some ((.int .i64 8),dT)) (
 ly  dT)))) (fun  nh=>
 some ((.int .i64 0),nh)))
theorem agk (J:JT)(G:GT)(cf:CF)(a0 a1 a2:AV)(H:Hp):fQ P J G aR an cf 109 [a0,a1,a2] H=K8 J G cf a0 a1 a2 H:=by kernel_rfl
theorem ab2 {a0 a1 a2:AV}{H:Hp}{r:AV × Hp}(h:K8 JN GO cK a0 a1 a2 H=some r):cK (.func (.func 109) [] []) [a0,a1,a2] H=some r:=aT (first:=[]) (cap:=[]) ((agk JN GO _ a0 a1 a2 H).trans h)
noncomputable def DH (J:JT)(G:GT)(cf:CF)(a0 a1 a2 a3:AV)(H:Hp):R:=
 BN (bx 75 a0 H) fun i0 h1=>
 BN (aE h1 [.ah,(.int .i64 0),.ah,.ah] 75 0) fun i2 h3=>
 J 5 (fun j4=>
 B1 (aA 4 (.ptr i0 0) h3) fun v5=>
 B2 (cf (.func (.func 108) [] []) [v5,a1] h3) fun v6 h7=>
 B1 (hY v6 (.int .i64 0)) fun v8=>
 CD v8 (
 B1 (fl [.ah,(.int .i64 0),.ah,.ah] []) fun l9=>
 B1 (st 4 (.ptr i2 0) (.agg l9) h7) fun bW=>
 B1 (aA 4 (.ptr i2 0) bW) fun v11=>
 some (.tuple [v11,v6],bW)) (
 j4 a1 a2 a3 (.ptr i0 0) (.ptr i2 0) h7)) (fun aZ aP bg br bJ dL=>
 J 6 (fun fH=>
 B1 (fa 2 br) fun gC=>
 B1 (ld gC dL) fun v20=>
 B1 (ia 4 v20 aZ) fun v21=>
 B1 (aA 4 v21 dL) fun v22=>
 BN (aE dL [(.int .i64 0),(.int .i64 0),(.int .i64 0),(.str [])] 132 0) fun i23 jh=>
 B1 (st 4 (.ptr i23 0) v22 jh) fun dX=>
 fH aZ aP bg br bJ (.ptr i23 0) dX) (fun bT bN cZ eP di bP eK=>
 J 6 (fun G0=>
 B1 (fa 0 bP) fun eg=>
 B1 (ld eg eK) fun v35=>
 B1 (hY v35 (.int .i64 1)) fun v36=>
 CD v36 (
 B1 (fl [.ah,(.int .i64 0),.ah,.ah] []) fun HU=>
 B1 (st 4 di (.agg HU) eK) fun fV=>
 B1 (aA 4 di fV) fun eJ=>
 some (.tuple [eJ,(.int .i64 4)],fV)) (
 J 7 (fun vI=>
 B1 (fa 1 bP) fun v41=>
 B1 (ld v41 eK) fun fx=>
 B1 (bS fx (.int .i64 1)) fun gm=>
 B1 (hY bN gm) fun v44=>
 vI bT bN cZ eP di bP v44 eK) (fun fD iI gi fM fK gh fS nC=>
 CD fS (
 B1 (fl [.ah,(.int .i64 0),.ah,.ah] []) fun Mx=>
 B1 (st 4 fK (.agg Mx) nC) fun xO=>
 B1 (aA 4 fK xO) fun jz=>
 some (.tuple [jz,(.int .i64 8)],xO)) (
 G0 fD iI gi fM fK gh nC)))) (fun cL dd du cN eT dZ fY=>
 B1 (aA 4 cN fY) fun v63=>
 B2 (cf (.func (.func 97) [] []) [v63] fY) fun v64 nb=>
 B1 (st 4 cN v64 nb) fun fW=>
 J 4 (fun G5=>
 B1 (fa 0 cN) fun ma=>
 B1 (fa 0 ma) fun kR=>
 B1 (ld kR fW) fun v70=>
 B1 (ia 6 v70 cL) fun oL=>
 B1 (fa 3 oL) fun v72=>
 B1 (ld v72 fW) fun kU=>
 B1 (bS du kU) fun kG=>
 B1 (fa 0 dZ) fun v75=>
 B1 (st 1 v75 (.int .i64 2) fW) fun wi=>
 B1 (fa 1 dZ) fun qg=>
 B1 (st 1 qg dd wi) fun xi=>
 B1 (fa 2 dZ) fun pg=>
 B1 (st 1 pg kG xi) fun vj=>
 B1 (ld kR wi) fun oq=>
 SM v70 oq <|
 B1 (ld v72 wi) fun mV=>
 SM kU mV <|
 B1 (ld kR xi) fun rM=>
 SM v70 rM <|
 B1 (ld v72 xi) fun zJ=>
 SM kU zJ <|
 G5 cL cN eT dZ vj) (fun pz oN uy oJ sd=>
 J 2 (fun KY=>
 B1 (fa 2 oN) fun v91=>
 B1 (ld v91 sd) fun pF=>
 B1 (aA 4 oJ sd) fun v93=>
 B1 (ia 4 pF pz) fun xQ=>
 B1 (st 4 xQ v93 sd) fun pP=>
 KY oN uy pP) (fun oW od Ho=>
 B1 (aA 4 oW Ho) fun Fe=>
 B1 (st 4 od Fe Ho) fun qK=>
 B1 (aA 4 od qK) fun vq=>
 some (.tuple [vq,(.int .i64 0)],qK))))))
theorem ajX (J:JT)(G:GT)(cf:CF)(a0 a1 a2 a3:AV)(H:Hp):fQ P J G aR an cf 78 [a0,a1,a2,a3] H=DH J G cf a0 a1 a2 a3 H:=by kernel_rfl
theorem K0 {a0 a1 a2 a3:AV}{H:Hp}{r:AV × Hp}(h:DH JN GO cK a0 a1 a2 a3 H=some r):cK (.func (.func 78) [] []) [a0,a1,a2,a3] H=some r:=aT (first:=[]) (cap:=[]) ((ajX JN GO _ a0 a1 a2 a3 H).trans h)
noncomputable def Ja (J:JT)(G:GT)(cf:CF)(a0 a1 a2 a3:AV)(H:Hp):R:=
 BN (bx 75 a0 H) fun i0 h1=>
 BN (aE h1 [.ah,(.int .i64 0),.ah,.ah] 75 0) fun i2 h3=>
 J 5 (fun j4=>
 J 6 (fun j5=>
 B1 (aA 4 (.ptr i0 0) h3) fun v6=>
 B2 (cf (.func (.func 109) [] []) [v6,a1,a2] h3) fun v7 h8=>
 j5 a1 a2 a3 (.ptr i0 0) (.ptr i2 0) v7 h8) (fun x9 cl bp aZ aP bg eU=>
 B1 (hY bg (.int .i64 0)) fun cW=>
 CD cW (
 B1 (fl [.ah,(.int .i64 0),.ah,.ah] []) fun l17=>
 B1 (st 4 aP (.agg l17) eU) fun fe=>
 B1 (aA 4 aP fe) fun gC=>
 some (.tuple [gC,bg],fe)) (
 j4 x9 cl bp aZ aP eU))) (fun da aX aM bf bB dX=>
 B1 (aA 4 bf dX) fun v26=>
 B2 (cf (.func (.func 97) [] []) [v26] dX) fun v27 gO=>
 B1 (st 4 bf v27 gO) fun dR=>
 J 2 (fun xR=>
 B1 (fa 2 bf) fun v31=>
 B1 (ld v31 dR) fun v32=>
 B1 (fl [(.int .i64 0),(.int .i64 0),(.int .i64 0),(.str [])] [(0,1,(.int .i64 3)),(1,1,aX),(3,1,aM)]) fun Q1=>
 B1 (ia 4 v32 da) fun eg=>
 B1 (st 4 eg (.agg Q1) dR) fun dS=>
 xR bf bB dS) (fun bU cC fV=>
 B2 (cf (.func (.func 106) [] []) [bU] fV) fun eJ kI=>
 B1 (aA 4 bU kI) fun v41=>
 B1 (st 4 cC v41 kI) fun gD=>
 B1 (aA 4 cC gD) fun gm=>
 some (.tuple [gm,(.int .i64 0)],gD)))
theorem afS (J:JT)(G:GT)(cf:CF)(a0 a1 a2 a3:AV)(H:Hp):fQ P J G aR an cf 79 [a0,a1,a2,a3] H=Ja J G cf a0 a1 a2 a3 H:=by kernel_rfl
theorem aay {a0 a1 a2 a3:AV}{H:Hp}{r:AV × Hp}(h:Ja JN GO cK a0 a1 a2 a3 H=some r):cK (.func (.func 79) [] []) [a0,a1,a2,a3] H=some r:=aT (first:=[]) (cap:=[]) ((afS JN GO _ a0 a1 a2 a3 H).trans h)
noncomputable def JZ (J:JT)(G:GT)(cf:CF)(a0 a1 a2:AV)(H:Hp):R:=
 J 4 (fun j0=>
 B1 (aV a0) fun v1=>
 B1 (fa 2 v1) fun v2=>
 B1 (ld v2 H) fun v3=>
 B1 (ia 4 v3 a1) fun v4=>
 B1 (aV a0) fun v5=>
 B1 (fa 0 v5) fun v6=>
 B1 (fa 0 v6) fun v7=>
 B1 (ld v7 H) fun v8=>
 B1 (ia 6 v8 a1) fun v9=>
 B1 (aA 6 v9 H) fun v10=>
 BN (aE H [(.str []),.ah,(.int .i64 0),(.int .i64 0),(.int .i64 0),(.str [])] 99 0) fun i11 dU=>
 B1 (st 6 (.ptr i11 0) v10 dU) fun iP=>
 j0 a0 a2 v4 (.ptr i11 0) iP) (fun bg br bJ bY fe=>
 J 2 (fun bL=>
 J 5 (fun aF=>
 B1 (aV bJ) fun v21=>
 B1 (fa 1 v21) fun v22=>
 B1 (ld v22 fe) fun v23=>
 B1 (fa 2 bY) fun v24=>
 B1 (ld v24 fe) fun v25=>
 B1 (nZ v23 v25) fun v26=>
 aF bg br bJ bY v26 fe) (fun bN cZ eP di bP eK=>
 CD bP (
 B1 (fa 4 di) fun fy=>
 B1 (ld fy eK) fun eg=>
 B1 (aV eP) fun v35=>
 B1 (fa 1 v35) fun v36=>
 B1 (ld v36 eK) fun v37=>
 B2 (cf (.func (.func 145) [] []) [eg,v37] eK) fun iF p7=>
 B1 (bS cZ iF) fun v40=>
 B1 (aV eP) fun v41=>
 B1 (fa 0 v41) fun fx=>
 B1 (st 1 fx (.int .i64 5) p7) fun sM=>
 B1 (aV eP) fun v44=>
 B1 (fa 2 v44) fun fA=>
 B1 (st 1 fA v40 sM) fun jj=>
 some (.tuple [],jj)) (
 bL bN eP eK))) (fun gi fM rz=>
 J 1 (fun kT=>
 B1 (aV fM) fun v51=>
 B1 (fa 0 v51) fun jf=>
 B1 (st 1 jf (.int .i64 4) rz) fun ik=>
 B1 (aV fM) fun iN=>
 B1 (fa 2 iN) fun jz=>
 B1 (st 1 jz (.int .i64 0) ik) fun mK=>
 kT gi mK) (fun dd qN=>
 B1 (aV dd) fun v59=>
 B1 (fa 1 v59) fun fI=>
 B1 (st 1 fI (.int .i64 2) qN) fun gM=>
 some (.tuple [],gM))))
theorem aeC (J:JT)(G:GT)(cf:CF)(a0 a1 a2:AV)(H:Hp):fQ P J G aR an cf 107 [a0,a1,a2] H=JZ J G cf a0 a1 a2 H:=by kernel_rfl
theorem Yy {a0 a1 a2:AV}{H:Hp}{r:AV × Hp}(h:JZ JN GO cK a0 a1 a2 H=some r):cK (.func (.func 107) [] []) [a0,a1,a2] H=some r:=aT (first:=[]) (cap:=[]) ((aeC JN GO _ a0 a1 a2 H).trans h)
noncomputable def MO (J:JT)(G:GT)(cf:CF)(a0 a1 a2 a3:AV)(H:Hp):R:=
 BN (bx 75 a0 H) fun i0 h1=>
 BN (aE h1 [.ah,(.int .i64 0),.ah,.ah] 75 0) fun i2 h3=>
 J 4 (fun j4=>
 J 5 (fun j5=>
 B1 (aA 4 (.ptr i0 0) h3) fun v6=>
 B2 (cf (.func (.func 109) [] []) [v6,a1,a2] h3) fun v7 h8=>
 j5 a1 a3 (.ptr i0 0) (.ptr i2 0) v7 h8) (fun x9 cl bp aZ aP eC=>
 B1 (hY aP (.int .i64 0)) fun gf=>
 CD gf (
 B1 (fl [.ah,(.int .i64 0),.ah,.ah] []) fun l16=>
 B1 (st 4 aZ (.agg l16) eC) fun dL=>
 B1 (aA 4 aZ dL) fun dO=>
 some (.tuple [dO,aP],dL)) (
 j4 x9 cl bp aZ eC))) (fun df da aX aM cp=>
 B1 (aA 4 aX cp) fun v24=>
 B2 (cf (.func (.func 97) [] []) [v24] cp) fun v25 dD=>
 B1 (st 4 aX v25 dD) fun eR=>
 B2 (cf (.func (.func 107) [] []) [aX,df,da] eR) fun v28 dR=>
 B1 (aA 4 aX dR) fun v30=>
 B1 (st 4 aM v30 dR) fun gx=>
 B1 (aA 4 aM gx) fun v32=>
 some (.tuple [v32,(.int .i64 0)],gx))
theorem ab6 {a0 a1 a2 a3:AV}{H:Hp}{r:AV × Hp}(h:MO JN GO cK a0 a1 a2 a3 H=some r):cK (.func (.func 80) [] []) [a0,a1,a2,a3] H=some r:=aT (first:=[]) (cap:=[]) (aaw (by kernel_rfl) h)
noncomputable def bl__run_Run_Tick (J:JT)(G:GT)(cf:CF)(cH:K.Fn 2)(eQ:K.Fn 5)(bg br bJ bY bF:AV)(cY:Hp):R:=
 B1 (cB bF bY) fun v20=>
 CD v20 (
 J 5 (fun eX=>
 J 5 (fun EM=>
 J 7 (fun fc=>
 B1 (fa 2 br) fun v24=>
 B1 (ld v24 cY) fun v25=>
 B1 (ia 4 v25 bF) fun v26=>
 fc bg br bJ bF v26 bY bF cY) (fun bN cZ eP di bP eE cj mS=>
 J 5 (fun dc=>
 J 8 (fun vX=>
 B1 (fa 1 cZ) fun v37=>
 B1 (ld v37 mS) fun iF=>
 B1 (hY iF (.int .i64 0)) fun eJ=>
 G eJ false (fun MF=>
 MF bP mS) (fun v41 gD=>
 G eJ false (fun PV=>
 B1 (aV v41) fun v44=>
 PV v44 gD) (fun fA jj=>
 G eJ false (fun k47=>
 B1 (fa 2 fA) fun gL=>
 k47 gL jj) (fun v49 lg=>
 G eJ false (fun k51=>
 B1 (ld v49 lg) fun jf=>
 k51 jf lg) (fun v53 xO=>
 G eJ false (fun k55=>
 k55 bN xO) (fun kO jx=>
 G eJ false (fun EF=>
 B1 (lE v53 kO) fun v59=>
 EF v59 jx) (fun fI gM=>
 B1 (pk eJ (.bool true) fI) fun gV=>
 vX bN cZ eP di bP eE cj gV gM) jx) xO) lg) jj) gD) mS) (fun kc fU ft mu iB jE mo lZ kM=>
 CD lZ (
 dc kc fU ft jE mo kM) (
 J 8 (fun sZ=>
 B1 (aV iB) fun kU=>
 B1 (fa 0 kU) fun kG=>
 B1 (ld kG kM) fun v75=>
 B1 (bG v75 (.int .i64 2)) fun v76=>
 sZ kc fU ft mu iB jE mo v76 kM) (fun fq fg py nL qF uc mT pj rH=>
 CD pj (
 B2 (cf (.func (.func 107) [] []) [fg,nL,fq] rH) fun yb tO=>
 dc fq fg py uc mT tO) (
 J 7 (fun j88=>
 B1 (aV qF) fun qo=>
 B1 (fa 0 qo) fun qe=>
 B1 (ld qe rH) fun v91=>
 B1 (bG v91 (.int .i64 5)) fun pF=>
 j88 fq fg py qF uc mT pF rH) (fun nU lS mq oW od ri lM qK=>
 CD lM (
 B1 (aV oW) fun vq=>
 B1 (fa 0 vq) fun rY=>
 B1 (st 1 rY (.int .i64 1) qK) fun kb=>
 B1 (aV oW) fun wK=>
 B1 (fa 2 wK) fun v105=>
 B1 (st 1 v105 (.int .i64 0) kb) fun wO=>
 dc nU lS mq od ri wO) (
 dc nU lS mq od ri qK))))))) (fun nA na iC pU pX Cx=>
 EM nA na iC pU pX Cx))) (fun uq tt xx wL AA EU=>
 eX uq tt xx wL AA EU)) (fun ub sj sw uP wR sy=>
 B1 (bS wR (.int .i64 1)) fun yX=>
 eQ ub sj sw uP yX sy)) (
 cH br bJ cY)
noncomputable def xZ (J:JT)(G:GT)(cf:CF)(cH:K.Fn 2):K.Fn 5:=eu P an J G cf 77 [1,1,0,1,0,0] [1,2,4,11,12] (fun q t H=>match Nat.beq q 0 with | true=>app 2 cH (ax [2,4] t) H | false=>(fun _ _ _=>none) q t H)
theorem ah0 (J:JT)(G:GT)(cf:CF)(cH:K.Fn 2)(eQ:K.Fn 5)(bg br bJ bY bF:AV)(cY:Hp):lh P an J G cf 77 [1,1,0,1,0,0] [1,2,4,11,12] (fun q t H=>match Nat.beq q 0 with | true=>app 2 cH (ax [2,4] t) H | false=>(fun _ _ _=>none) q t H) eQ [bg,br,bJ,bY,bF] cY=bl__run_Run_Tick J G cf cH eQ bg br bJ bY bF cY:=by kernel_rfl
theorem DF (cf:CF)(cH:K.Fn 2)(bg br bJ bY bF:AV)(cY:Hp):xZ JN GO cf cH bg br bJ bY bF cY=bl__run_Run_Tick JN GO cf cH (xZ JN GO cf cH) bg br bJ bY bF cY:=aaw (b:=app 5 (xZ JN GO cf cH) [bg,br,bJ,bY,bF] cY) (by kernel_rfl) ((eS cf _ _ _ _ [bg,br,bJ,bY,bF] rfl cY).trans (ah0 JN GO cf cH _ bg br bJ bY bF cY))
noncomputable def MV (J:JT)(G:GT)(cf:CF)(a0 a1:AV)(H:Hp):R:=
 BN (bx 75 a0 H) fun i0 h1=>
 BN (aE h1 [.ah,(.int .i64 0),.ah,.ah] 75 0) fun i2 h3=>
 B1 (aA 4 (.ptr i0 0) h3) fun v4=>
 B2 (cf (.func (.func 97) [] []) [v4] h3) fun v5 h6=>
 B1 (st 4 (.ptr i0 0) v5 h6) fun h7=>
 J 2 (fun j8=>
 B1 (fa 2 (.ptr i0 0)) fun v9=>
 B1 (ld v9 h7) fun v10=>
 B1 (bq v10) fun v11=>
 J 2 (fun cH=>
 xZ J G cf cH a1 (.ptr i0 0) (.ptr i2 0) v11 (.int .i64 0) h7) (fun jL iu A6=>
 j8 jL iu A6)) (fun jb jX DM=>
 B1 (aA 4 jb DM) fun Oy=>
 B1 (st 4 jX Oy DM) fun lL=>
 B1 (aA 4 jX lL) fun Eg=>
 some (Eg,lL))
theorem akN (J:JT)(G:GT)(cf:CF)(a0 a1:AV)(H:Hp):fQ P J G aR an cf 77 [a0,a1] H=MV J G cf a0 a1 H:=by kernel_rfl
theorem amS {a0 a1:AV}{H:Hp}{r:AV × Hp}(h:MV JN GO cK a0 a1 H=some r):cK (.func (.func 77) [] []) [a0,a1] H=some r:=aT (first:=[]) (cap:=[]) ((akN JN GO _ a0 a1 H).trans h)
noncomputable def B9 (J:JT)(G:GT)(cf:CF)(a0 a1:AV)(H:Hp):R:=
 BN (bx 75 a0 H) fun i0 h1=>
 BN (bx 9 a1 h1) fun i2 h3=>
 BN (aE h3 [.ah,(.int .i64 0),.ah,.ah] 75 0) fun i4 h5=>
 J 3 (fun j6=>
 B1 (fa 1 (.ptr i0 0)) fun v7=>
 B1 (ld v7 h5) fun v8=>
 B1 (hY v8 (.int .i64 0)) fun v9=>
 CD v9 (
 B1 (fl [.ah,(.int .i64 0),.ah,.ah] []) fun l10=>
 B1 (st 4 (.ptr i4 0) (.agg l10) h5) fun gY=>
 B1 (aA 4 (.ptr i4 0) gY) fun v12=>
 some (.tuple [v12,(.int .i64 9)],gY)) (
 J 4 (fun eQ=>
 B1 (fa 3 (.ptr i0 0)) fun cI=>
 B1 (ld cI h5) fun gf=>
 B1 (ld (.ptr i2 0) h5) fun cW=>
 B2 (cf (.func (.func 94) [] []) [gf,cW] h5) fun eN fe=>
 eQ (.ptr i0 0) (.ptr i2 0) (.ptr i4 0) eN fe) (fun df da aX aM cp=>
 CD aM (
 B1 (fl [.ah,(.int .i64 0),.ah,.ah] []) fun Qx=>
 B1 (st 4 aX (.agg Qx) cp) fun dX=>
 B1 (aA 4 aX dX) fun v26=>
 some (.tuple [v26,(.int .i64 5)],dX)) (
 J 4 (fun xp=>
 B1 (fa 0 df) fun v28=>
 B1 (fa 0 v28) fun v29=>
 B1 (ld v29 cp) fun v30=>
 B2 (cf (.func (.func 95) [] []) [v30,(.func (.func 110) [] [da])] cp) fun v31 eK=>
 B1 (fT .not v31) fun fy=>
 xp df da aX fy eK) (fun bM dV bU cC fV=>
 CD cC (
 B1 (fl [.ah,(.int .i64 0),.ah,.ah] []) fun l39=>
 B1 (st 4 bU (.agg l39) fV) fun kI=>
 B1 (aA 4 bU kI) fun v41=>
 some (.tuple [v41,(.int .i64 1)],kI)) (
 j6 bM dV bU fV)))))) (fun eL dQ iH nh=>
 B1 (aA 4 eL nh) fun v46=>
 B2 (cf (.func (.func 97) [] []) [v46] nh) fun jq mE=>
 B1 (st 4 eL jq mE) fun rz=>
 J 2 (fun kT=>
 B1 (fa 3 eL) fun v51=>
 B1 (ld v51 rz) fun jf=>
 B1 (ld dQ rz) fun v53=>
 B1 (fl [(.str [])] [(0,1,v53)]) fun l54=>
 BN (aE rz l54 9 0) fun i55 mK=>
 B2 (gw 9 1 [(.str [])] false jf (.slice i55 0 1 1 true 1) mK) fun v57 qN=>
 B1 (fa 3 eL) fun v59=>
 B1 (st 1 v59 v57 qN) fun lH=>
 kT eL iH lH) (fun dZ lC sf=>
 B2 (cf (.func (.func 106) [] []) [dZ] sf) fun v64 nb=>
 B1 (aA 4 dZ nb) fun mB=>
 B1 (st 4 lC mB nb) fun wI=>
 B1 (aA 4 lC wI) fun ma=>
 some (.tuple [ma,(.int .i64 0)],wI)))
theorem aiZ (J:JT)(G:GT)(cf:CF)(a0 a1:AV)(H:Hp):fQ P J G aR an cf 81 [a0,a1] H=B9 J G cf a0 a1 H:=by kernel_rfl
theorem JK {a0 a1:AV}{H:Hp}{r:AV × Hp}(h:B9 JN GO cK a0 a1 H=some r):cK (.func (.func 81) [] []) [a0,a1] H=some r:=aT (first:=[]) (cap:=[]) ((aiZ JN GO _ a0 a1 H).trans h)
noncomputable def Yi (J:JT)(G:GT)(cf:CF)(a0 a1:AV)(H:Hp):R:=
 BN (bx 99 a0 H) fun i0 h1=>
 B1 (fa 5 (.ptr i0 0)) fun v2=>
 B1 (ld v2 h1) fun v3=>
 B1 (ld a1 h1) fun v4=>
 B1 (seq v3 v4) fun v5=>
 G v5 true (fun k6=>
 B1 (ld a1 h1) fun v7=>
 k6 v7 h1) (fun v8 h9=>
 G v5 true (fun zY=>
 B1 (qH v8 (.str [])) fun v11=>
 zY v11 h9) (fun v12 iP=>
 B1 (pk v5 v12 (.bool false)) fun cI=>
 some (cI,iP)) h9) h1
theorem ah9 {a0 a1:AV}{H:Hp}{r:AV × Hp}(h:Yi JN GO cK a0 a1 H=some r):cK (.func (.func 110) [] [a1]) [a0] H=some r:=aT (first:=[]) (cap:=[a1]) (aaw (by kernel_rfl) h)
noncomputable def LA (J:JT)(G:GT)(cf:CF)(eX:K.Fn 1)(EM:K.Fn 3)(bf bB bC:AV)(dD:Hp):R:=
 J 3 (fun xp=>
 J 4 (fun jG=>
 B1 (cB bC bf) fun v29=>
 G v29 true (fun P3=>
 P3 bB dD) (fun v31 eK=>
 G v29 true (fun Hm=>
 B1 (cB v31 (.int .i64 64000)) fun eg=>
 Hm eg eK) (fun v35 mH=>
 B1 (pk v29 v35 (.bool false)) fun v37=>
 jG bf bB bC v37 mH) eK) dD) (fun cF cJ cG dE gD=>
 CD dE (
 xp cF cJ cG gD) (
 eX cJ gD))) (fun dQ iH fD jj=>
 B1 (zG iH (.int .u64 1)) fun jq=>
 B2 (gG P .min #[2,2] [jq,(.int .i64 64000)] jj) fun gL rz=>
 B1 (bS fD (.int .i64 1)) fun jo=>
 EM dQ gL jo rz)
noncomputable def HJ (J:JT)(G:GT)(cf:CF)(eX:K.Fn 1):K.Fn 3:=eu P an J G cf 145 [1,1,1,0,1,0,0] [1,5,6] (fun q t H=>match Nat.beq q 0 with | true=>app 1 eX (ax [5] t) H | false=>(fun _ _ _=>none) q t H)
theorem Zd (cf:CF)(eX:K.Fn 1)(bf bB bC:AV)(dD:Hp):HJ JN GO cf eX bf bB bC dD=LA JN GO cf eX (HJ JN GO cf eX) bf bB bC dD:=aaw (b:=app 3 (HJ JN GO cf eX) [bf,bB,bC] dD) (by kernel_rfl) ((eS cf 145 [1,1,1,0,1,0,0] [1,5,6] _ [bf,bB,bC] rfl dD).trans (by kernel_rfl))
noncomputable def Ug (J:JT)(G:GT)(cf:CF)(a0 a1:AV)(H:Hp):R:=
 J 2 (fun j0=>
 J 3 (fun j1=>
 B1 (cB a0 (.int .i64 1)) fun v2=>
 G v2 false (fun k3=>
 k3 a1 H) (fun v4 h5=>
 G v2 false (fun k6=>
 B1 (cB v4 (.int .i64 1)) fun v7=>
 k6 v7 h5) (fun v8 h9=>
 B1 (pk v2 (.bool true) v8) fun v10=>
 j1 a0 a1 v10 h9) h5) H) (fun bp aZ aP eC=>
 CD aP (
 some ((.int .i64 0),eC)) (
 j0 bp aZ eC))) (fun br bJ dL=>
 B2 (gG P .min #[2,2] [br,(.int .i64 64000)] dL) fun dO cY=>
 J 1 (fun aF=>
 J 1 (fun eX=>
 HJ J G cf eX bJ dO (.int .i64 1) cY) (fun fS nC=>
 aF fS nC)) (fun dY xO=>
 some (dY,xO)))
theorem apo {a0 a1:AV}{H:Hp}{r:AV × Hp}(h:Ug JN GO cK a0 a1 H=some r):cK (.func (.func 145) [] []) [a0,a1] H=some r:=aT (first:=[]) (cap:=[]) (aaw (by kernel_rfl) h)
noncomputable def Xs (J:JT)(G:GT)(cf:CF)(a0 a1:AV)(H:Hp):R:=
 B2 (cf (.func (.func 86) [] []) [a0,a1] H) fun v0 h1=>
 B1 (lJ v0 (.int .i64 0)) fun v2=>
 some (v2,h1)
theorem acs {a0 a1:AV}{H:Hp}{r:AV × Hp}(h:Xs JN GO cK a0 a1 H=some r):cK (.func (.func 50) [] []) [a0,a1] H=some r:=aT (first:=[]) (cap:=[]) (aaw (by kernel_rfl) h)
noncomputable def WL (J:JT)(G:GT)(cf:CF)(a0 a1:AV)(H:Hp):R:=
 B2 (cf (.func (.func 115) [] []) [a0,a1,(.bool true)] H) fun v0 h1=>
 some (v0,h1)
theorem anw {a0 a1:AV}{H:Hp}{r:AV × Hp}(h:WL JN GO cK a0 a1 H=some r):cK (.func (.func 86) [] []) [a0,a1] H=some r:=aT (first:=[]) (cap:=[]) (aaw (by kernel_rfl) h)
noncomputable def JB (J:JT)(G:GT)(cf:CF)(j3:K.Fn 0)(j4:K.Fn 3)(x5 x6 x7:AV)(h8:Hp):R:=
 B2 (vV x7 true h8) fun v9 bW=>
 B1 (ex 0 v9) fun v11=>
 CD v11 (
 B1 (ex 1 v9) fun v12=>
 B1 (ex 2 v9) fun dJ=>
 J 5 (fun AE=>
 B2 (cf x5 [dJ] bW) fun gf bE=>
 B1 (bb .eql gf x6) fun eN=>
 AE x5 x6 v12 x7 eN bE) (fun bF df da aX aM cp=>
 CD aM (
 some (da,cp)) (
 j4 bF df aX cp))) (
 j3  bW)
noncomputable def GK (J:JT)(G:GT)(cf:CF)(j3:K.Fn 0):K.Fn 3:=eu P an J G cf 115 [1,0,1,0,0] [1,2,10] (fun q t H=>match Nat.beq q 0 with | true=>app 0 j3 (ax [] t) H | false=>(fun _ _ _=>none) q t H)
theorem Ov (cf:CF)(j3:K.Fn 0)(x5 x6 x7:AV)(h8:Hp):GK JN GO cf j3 x5 x6 x7 h8=JB JN GO cf j3 (GK JN GO cf j3) x5 x6 x7 h8:=aaw (b:=app 3 (GK JN GO cf j3) [x5,x6,x7] h8) (by kernel_rfl) ((eS cf 115 [1,0,1,0,0] [1,2,10] _ [x5,x6,x7] rfl h8).trans (by kernel_rfl))
noncomputable def VF (J:JT)(G:GT)(cf:CF)(a0 a1 a2:AV)(H:Hp):R:=
 J 0 (fun j0=>
 B2 (xF P 9 a0 H) fun v1 h2=>
 J 0 (fun j3=>
 GK J G cf j3 a1 a2 v1 h2) (fun  jh=>
 j0  jh)) (fun  dX=>
 some ((.int .i64 (-1)),dX))
theorem afc {a0 a1 a2:AV}{H:Hp}{r:AV × Hp}(h:VF JN GO cK a0 a1 a2 H=some r):cK (.func (.func 115) [] []) [a0,a1,a2] H=some r:=aT (first:=[]) (cap:=[]) (aaw (by kernel_rfl) h)
end
end Go.Proofs.YtodfajmihkagnaaGreatDoor.DfK
